/- The walk of the law LinkNobody; awake is a premise. -/
import Derived.Test.YtngegjboenfmeaaLnk3
namespace Go.Proofs.Ytngegjboenfmeaa
open Go Go.RowKit
set_option linter.unusedVariables false
set_option maxRecDepth 100000
set_option linter.unusedSimpArgs false

/-- an answer of nothing, somewhere -/
def NaAt (v : Value) (W : World) : Prop := ∃ a, v = .pointer (some ⟨a, 0, none⟩) ∧ a < W.heap.size ∧ W.heap[a]? = some (.cells #[.slice none 0 0, .slice none 0 0] 43 (0, 0))
theorem NaAt.below {v : Value} {W W' : World} (h : NaAt v W) (hb : Below W.heap.size W W') : NaAt v W' := by
  obtain ⟨a, e, h1, h2⟩ := h
  exact ⟨a, e, Nat.lt_of_lt_of_le h1 hb.size, (hb.block a h1).trans h2⟩
theorem NaAt.new (W : World) : NaAt (.pointer (some ⟨W.heap.size, 0, none⟩)) (W.alloc (.cells #[.slice none 0 0, .slice none 0 0] 43)) := ⟨_, rfl, by simp, heap_alloc_new W _⟩
theorem NaAt.set {W : World} {a : Nat} (h : W.heap[a]? = some (.cells #[.slice none 0 0, .slice none 0 0] 43 (0, 0))) : Below W.heap.size W ((W.setCell ⟨a, 0, none⟩ (.slice none 0 0)).setCell ⟨a, 1, none⟩ (.slice none 0 0)) := by
  refine ⟨rfl, rfl, rfl, by simp [World.setCell], fun k hk => ?_⟩
  by_cases e : k = a
  · subst e
    simp [World.setCell, Array.getElem?_modify, h]
  · simp [World.setCell, Array.getElem?_modify, e, Ne.symm e]
theorem NaAt.cells {a : Nat} {W : World} (h : NaAt (.pointer (some ⟨a, 0, none⟩)) W) : W.cell? ⟨a, 0, none⟩ = some (.slice none 0 0) ∧ W.cell? ⟨a, 1, none⟩ = some (.slice none 0 0) := by
  obtain ⟨a', e, _, ha⟩ := h
  injection e with e
  injection e with e
  injection e with e
  subst e
  exact ⟨by rw [cell_of_row W a 0 _ _ _ ha]; rfl, by rw [cell_of_row W a 1 _ _ _ ha]; rfl⟩
set_option maxHeartbeats 6400000 in
theorem linkNobody_core (w : World) (HAW : ∀ w, Calls Try.prog 8 #[] w fun e w' => e = .returned (.bool true) ∧ Below w.heap.size w w') (dd : Int) (now : Nat) (ka kb kc : Int) (n1 n2 n3 n4 n5 n6 nf c nb c2 : Nat) (A A2 : Option Addr) (h1 : nb ≤ 140737488355328) (h2 : nf ≤ 140737488355328) :
    Calls Try.prog 6 #[.agg #[.int .i64 dd, .int .u64 (now : Int), .int .i64 ka, .int .i64 kb, .int .i64 kc, .int .u64 (n1 : Int), .int .u64 (n2 : Int), .int .u64 (n3 : Int), .int .u64 (n4 : Int), .int .u64 (n5 : Int), .int .u64 (n6 : Int), .slice A nf c, .slice A2 nb c2]] w fun e w' => e = .returned (.bool true) ∧ Below w.heap.size w w' := by
  have HAWK := Lib.hid HAW
  clear HAW
  have HS0 := Lib.hid (show Sep w ((w.alloc (.cells #[.int .i64 dd, .int .u64 (now : Int), .int .i64 ka, .int .i64 kb, .int .i64 kc, .int .u64 (n1 : Int), .int .u64 (n2 : Int), .int .u64 (n3 : Int), .int .u64 (n4 : Int), .int .u64 (n5 : Int), .int .u64 (n6 : Int), .slice A nf c, .slice A2 nb c2] 64)).alloc (.cells #[.int .i64 dd, .int .u64 (now : Int), .int .i64 ka, .int .i64 kb, .int .i64 kc, .int .u64 (n1 : Int), .int .u64 (n2 : Int), .int .u64 (n3 : Int), .int .u64 (n4 : Int), .int .u64 (n5 : Int), .int .u64 (n6 : Int), .slice A nf c, .slice A2 nb c2] 64)) [Ce w.heap.size 64 #[.int .i64 dd, .int .u64 (now : Int), .int .i64 ka, .int .i64 kb, .int .i64 kc, .int .u64 (n1 : Int), .int .u64 (n2 : Int), .int .u64 (n3 : Int), .int .u64 (n4 : Int), .int .u64 (n5 : Int), .int .u64 (n6 : Int), .slice A nf c, .slice A2 nb c2], Ce (w.heap.size + 1) 64 #[.int .i64 dd, .int .u64 (now : Int), .int .i64 ka, .int .i64 kb, .int .i64 kc, .int .u64 (n1 : Int), .int .u64 (n2 : Int), .int .u64 (n3 : Int), .int .u64 (n4 : Int), .int .u64 (n5 : Int), .int .u64 (n6 : Int), .slice A nf c, .slice A2 nb c2]] by
    have := sep_ce (sep_ce (Sep.nil w) #[.int .i64 dd, .int .u64 (now : Int), .int .i64 ka, .int .i64 kb, .int .i64 kc, .int .u64 (n1 : Int), .int .u64 (n2 : Int), .int .u64 (n3 : Int), .int .u64 (n4 : Int), .int .u64 (n5 : Int), .int .u64 (n6 : Int), .slice A nf c, .slice A2 nb c2] 64) #[.int .i64 dd, .int .u64 (now : Int), .int .i64 ka, .int .i64 kb, .int .i64 kc, .int .u64 (n1 : Int), .int .u64 (n2 : Int), .int .u64 (n3 : Int), .int .u64 (n4 : Int), .int .u64 (n5 : Int), .int .u64 (n6 : Int), .slice A nf c, .slice A2 nb c2] 64
    simp only [World.size_alloc] at this
    exact this)
  go_enter Try.func6, Try.ntmps6
  go_wp2_with fail
  refine (few1_any _ (w.heap.size + 1) nb nf c c2 A A2 (sep_ceAt (i := 1) HS0.out rfl 11 rfl) (sep_ceAt (i := 1) HS0.out rfl 12 rfl) h1 h2).mono ?_
  rintro e w2 ⟨fb, rfl, hb2⟩
  have HS2 := Lib.hid (show Sep w w2 [Ce w.heap.size 64 #[.int .i64 dd, .int .u64 (now : Int), .int .i64 ka, .int .i64 kb, .int .i64 kc, .int .u64 (n1 : Int), .int .u64 (n2 : Int), .int .u64 (n3 : Int), .int .u64 (n4 : Int), .int .u64 (n5 : Int), .int .u64 (n6 : Int), .slice A nf c, .slice A2 nb c2]] from (HS0.out.grow hb2).drop 1)
  clear HS0 hb2 h1 h2
  cases fb with
  | false =>
    go_wp2_with fail
    refine (HAWK.out w2).mono ?_
    rintro e w3 ⟨rfl, hb3⟩
    go_wp2_with fail
    go_ret
    exact ⟨rfl, HS2.out.bel.trans (hb3.mono HS2.out.size)⟩
  | true =>
    obtain ⟨b, Hb⟩ : ∃ x, Hid (w.heap.size = x) := ⟨_, Lib.hid rfl⟩
    have HS3 := Lib.hid (show Sep w ((w2.alloc (.cells #[.int .u64 0, .slice none 0 0, .int .u64 0, .int .i64 0, .int .u64 0, .int .i64 0, .int .u64 0, .int .u64 0, .int .u64 0, .bool false, .int .u64 0, .int .u64 0] 72)).alloc (.cells #[.pointer none, .pointer (some ⟨w2.heap.size, 0, none⟩)] 26)) [Ce b 64 #[.int .i64 dd, .int .u64 (now : Int), .int .i64 ka, .int .i64 kb, .int .i64 kc, .int .u64 (n1 : Int), .int .u64 (n2 : Int), .int .u64 (n3 : Int), .int .u64 (n4 : Int), .int .u64 (n5 : Int), .int .u64 (n6 : Int), .slice A nf c, .slice A2 nb c2], Ce w2.heap.size 72 #[.int .u64 0, .slice none 0 0, .int .u64 0, .int .i64 0, .int .u64 0, .int .i64 0, .int .u64 0, .int .u64 0, .int .u64 0, .bool false, .int .u64 0, .int .u64 0], Ce (w2.heap.size + 1) 26 #[.pointer none, .pointer (some ⟨w2.heap.size, 0, none⟩)]] by
      have := sep_ce (sep_ce HS2.out #[.int .u64 0, .slice none 0 0, .int .u64 0, .int .i64 0, .int .u64 0, .int .i64 0, .int .u64 0, .int .u64 0, .int .u64 0, .bool false, .int .u64 0, .int .u64 0] 72) #[.pointer none, .pointer (some ⟨w2.heap.size, 0, none⟩)] 26
      simp only [World.size_alloc] at this
      rw [← Hb.out]
      exact this)
    clear HS2
    go_wp2_with fail
    rw [Hb.out]
    obtain ⟨w3, HW3⟩ : ∃ x, Hid ((w2.alloc (.cells #[.int .u64 0, .slice none 0 0, .int .u64 0, .int .i64 0, .int .u64 0, .int .i64 0, .int .u64 0, .int .u64 0, .int .u64 0, .bool false, .int .u64 0, .int .u64 0] 72)).alloc (.cells #[.pointer none, .pointer (some ⟨w2.heap.size, 0, none⟩)] 26) = x) := ⟨_, Lib.hid rfl⟩
    rw [HW3.out] at HS3 ⊢
    obtain ⟨sl, Hsl⟩ : ∃ x, Hid (w2.heap.size + 1 = x) := ⟨_, Lib.hid rfl⟩
    rw [Hsl.out] at HS3 ⊢
    obtain ⟨g0, Hg0⟩ : ∃ x, Hid (w2.heap.size = x) := ⟨_, Lib.hid rfl⟩
    rw [Hg0.out] at HS3 ⊢
    go_loopw [5] (fun iv wr => ∃ k : Nat, k ≤ 2 ∧ iv = .int .i64 (k : Int) ∧ Hid (Sep w wr [Ce b 64 #[.int .i64 dd, .int .u64 (now : Int), .int .i64 ka, .int .i64 kb, .int .i64 kc, .int .u64 (n1 : Int), .int .u64 (n2 : Int), .int .u64 (n3 : Int), .int .u64 (n4 : Int), .int .u64 (n5 : Int), .int .u64 (n6 : Int), .slice A nf c, .slice A2 nb c2], Ce g0 72 #[.int .u64 0, .slice none 0 0, .int .u64 0, .int .i64 0, .int .u64 0, .int .i64 0, .int .u64 0, .int .u64 0, .int .u64 0, .bool false, .int .u64 0, .int .u64 0], Ce sl 26 #[.pointer none, .pointer (some ⟨g0, 0, none⟩)]])) (fun iv _ => 2 - (intOf iv).toNat)
    case atStart => exact ⟨0, by omega, rfl, HS3⟩
    case round =>
      obtain ⟨k, hk, rfl, HS⟩ := hrel
      rcases (show k = 0 ∨ k = 1 ∨ k = 2 by omega) with rfl | rfl | rfl
      · go_wp2_with fail
        refine wp_region_f (fun dn xv W => Sep w W [Ce b 64 #[.int .i64 dd, .int .u64 (now : Int), .int .i64 ka, .int .i64 kb, .int .i64 kc, .int .u64 (n1 : Int), .int .u64 (n2 : Int), .int .u64 (n3 : Int), .int .u64 (n4 : Int), .int .u64 (n5 : Int), .int .u64 (n6 : Int), .slice A nf c, .slice A2 nb c2], Ce g0 72 #[.int .u64 0, .slice none 0 0, .int .u64 0, .int .i64 0, .int .u64 0, .int .i64 0, .int .u64 0, .int .u64 0, .int .u64 0, .bool false, .int .u64 0, .int .u64 0], Ce sl 26 #[.pointer none, .pointer (some ⟨g0, 0, none⟩)]]) (fun W W' => Below W.heap.size W W') [fun v _ => v = .slice (some ⟨sl, 0, none⟩) 2 2, fun v _ => v = .int .i64 0, fun v _ => v = .pointer (some ⟨sl, 0, none⟩), fun v _ => v = .pointer none, fun v _ => v = .pointer (some ⟨b, 1, none⟩), fun v _ => v = .int .u64 (now : Int), fun v _ => v = .pointer (some ⟨b, 2, none⟩), fun v _ => v = .agg #[.int .i64 ka, .int .i64 kb, .int .i64 kc, .int .u64 (n1 : Int), .int .u64 (n2 : Int), .int .u64 (n3 : Int), .int .u64 (n4 : Int), .int .u64 (n5 : Int), .int .u64 (n6 : Int), .slice A nf c], fun v _ => v = .agg #[.slice none 0 0, .slice none 0 0], fun v _ => v = .slice (some ⟨sl, 0, none⟩) 2 2, fun v _ => v = .int .i64 0, fun v _ => v = .pointer (some ⟨sl, 0, none⟩), fun v _ => v = .pointer none, fun v _ => v = .pointer (some ⟨b, 1, none⟩), fun v _ => v = .int .u64 (now : Int), fun v _ => v = .agg #[.slice none 0 0, .slice none 0 0], NaAt, NaAt, fun v _ => True, fun v _ => True] (by kernel_rfl) (by kernel_rfl) (by kernel_rfl) (by kernel_rfl) (fun xv => by simpa using HS.out.drew)
          (by exact ⟨fun _ _ _ _ h => h, fun _ _ _ _ h => h, fun _ _ _ _ h => h, fun _ _ _ _ h => h, fun _ _ _ _ h => h, fun _ _ _ _ h => h, fun _ _ _ _ h => h, fun _ _ _ _ h => h, fun _ _ _ _ h => h, fun _ _ _ _ h => h, fun _ _ _ _ h => h, fun _ _ _ _ h => h, fun _ _ _ _ h => h, fun _ _ _ _ h => h, fun _ _ _ _ h => h, fun _ _ _ _ h => h, fun v W W' hR h => h.below hR, fun v W W' hR h => h.below hR, fun _ _ _ _ h => h, fun _ _ _ _ h => h, trivial⟩) ?_ ?_
        · refine EachF.cons 1 rfl (fun dn xv W F hF hd hN hX hI H K hK => ?_) ?_
          · have f4 : F.tmps.getD 4 undef = .slice (some ⟨sl, 0, none⟩) 2 2 := (hF 4).trans (by kernel_rfl)
            clear H hN hd hX hF
            refine on_plain rfl ?_
            go_simp
            exact hK.out _ _ rfl (Below.refl _ _) (by simpa [upB, upd] using hI)
          refine EachF.cons 2 rfl (fun dn xv W F hF hd hN hX hI H K hK => ?_) ?_
          · have f5 : F.tmps.getD 5 undef = .int .i64 0 := (hF 5).trans (by kernel_rfl)
            clear H hN hd hX hF
            refine on_plain rfl ?_
            go_simp
            exact hK.out _ _ rfl (Below.refl _ _) (by simpa [upB, upd] using hI)
          refine EachF.cons 3 rfl (fun dn xv W F hF hd hN hX hI H K hK => ?_) ?_
          · have h0 : xv 0 = .slice (some ⟨sl, 0, none⟩) 2 2 := (H 0 (.edge (by kernel_rfl))).2
            have f27 : F.tmps.getD 27 undef = .slice (some ⟨sl, 0, none⟩) 2 2 := (hF 27).trans (Eq.trans (by kernel_rfl) h0)
            have h1 : xv 1 = .int .i64 0 := (H 1 (.edge (by kernel_rfl))).2
            have f28 : F.tmps.getD 28 undef = .int .i64 0 := (hF 28).trans (Eq.trans (by kernel_rfl) h1)
            clear H hN hd hX hF
            refine on_plain rfl ?_
            go_simp
            exact hK.out _ _ rfl (Below.refl _ _) (by simpa [upB, upd] using hI)
          refine EachF.cons 4 rfl (fun dn xv W F hF hd hN hX hI H K hK => ?_) ?_
          · have h2 : xv 2 = .pointer (some ⟨sl, 0, none⟩) := (H 2 (.edge (by kernel_rfl))).2
            have f29 : F.tmps.getD 29 undef = .pointer (some ⟨sl, 0, none⟩) := (hF 29).trans (Eq.trans (by kernel_rfl) h2)
            have ks0 := sep_ceAt (i := 2) hI rfl 0 rfl
            clear H hN hd hX hF
            refine on_plain rfl ?_
            go_simp
            exact hK.out _ _ rfl (Below.refl _ _) (by simpa [upB, upd] using hI)
          refine EachF.cons 5 rfl (fun dn xv W F hF hd hN hX hI H K hK => ?_) ?_
          · have f1 : F.tmps.getD 1 undef = .pointer (some ⟨b, 0, none⟩) := (hF 1).trans (by kernel_rfl)
            clear H hN hd hX hF
            refine on_plain rfl ?_
            go_simp
            exact hK.out _ _ rfl (Below.refl _ _) (by simpa [upB, upd] using hI)
          refine EachF.cons 6 rfl (fun dn xv W F hF hd hN hX hI H K hK => ?_) ?_
          · have h4 : xv 4 = .pointer (some ⟨b, 1, none⟩) := (H 4 (.edge (by kernel_rfl))).2
            have f31 : F.tmps.getD 31 undef = .pointer (some ⟨b, 1, none⟩) := (hF 31).trans (Eq.trans (by kernel_rfl) h4)
            have kb1 := sep_ceAt (i := 0) hI rfl 1 rfl
            clear H hN hd hX hF
            refine on_plain rfl ?_
            go_simp
            exact hK.out _ _ rfl (Below.refl _ _) (by simpa [upB, upd] using hI)
          refine EachF.cons 7 rfl (fun dn xv W F hF hd hN hX hI H K hK => ?_) ?_
          · have f1 : F.tmps.getD 1 undef = .pointer (some ⟨b, 0, none⟩) := (hF 1).trans (by kernel_rfl)
            clear H hN hd hX hF
            refine on_plain rfl ?_
            go_simp
            exact hK.out _ _ rfl (Below.refl _ _) (by simpa [upB, upd] using hI)
          refine EachF.cons 8 rfl (fun dn xv W F hF hd hN hX hI H K hK => ?_) ?_
          · have h6 : xv 6 = .pointer (some ⟨b, 2, none⟩) := (H 6 (.edge (by kernel_rfl))).2
            have f33 : F.tmps.getD 33 undef = .pointer (some ⟨b, 2, none⟩) := (hF 33).trans (Eq.trans (by kernel_rfl) h6)
            have kb2 := sep_ceAt (i := 0) hI rfl 2 rfl
            have kb3 := sep_ceAt (i := 0) hI rfl 3 rfl
            have kb4 := sep_ceAt (i := 0) hI rfl 4 rfl
            have kb5 := sep_ceAt (i := 0) hI rfl 5 rfl
            have kb6 := sep_ceAt (i := 0) hI rfl 6 rfl
            have kb7 := sep_ceAt (i := 0) hI rfl 7 rfl
            have kb8 := sep_ceAt (i := 0) hI rfl 8 rfl
            have kb9 := sep_ceAt (i := 0) hI rfl 9 rfl
            have kb10 := sep_ceAt (i := 0) hI rfl 10 rfl
            have kb11 := sep_ceAt (i := 0) hI rfl 11 rfl
            clear H hN hd hX hF
            refine on_plain rfl ?_
            go_simp
            exact hK.out _ _ rfl (Below.refl _ _) (by simpa [upB, upd] using hI)
          refine EachF.cons 9 rfl (fun dn xv W F hF hd hN hX hI H K hK => ?_) ?_
          · have h3 : xv 3 = .pointer none := (H 3 (.edge (by kernel_rfl))).2
            have f30 : F.tmps.getD 30 undef = .pointer none := (hF 30).trans (Eq.trans (by kernel_rfl) h3)
            have h5 : xv 5 = .int .u64 (now : Int) := (H 5 (.edge (by kernel_rfl))).2
            have f32 : F.tmps.getD 32 undef = .int .u64 (now : Int) := (hF 32).trans (Eq.trans (by kernel_rfl) h5)
            have h7 : xv 7 = .agg #[.int .i64 ka, .int .i64 kb, .int .i64 kc, .int .u64 (n1 : Int), .int .u64 (n2 : Int), .int .u64 (n3 : Int), .int .u64 (n4 : Int), .int .u64 (n5 : Int), .int .u64 (n6 : Int), .slice A nf c] := (H 7 (.edge (by kernel_rfl))).2
            have f34 : F.tmps.getD 34 undef = .agg #[.int .i64 ka, .int .i64 kb, .int .i64 kc, .int .u64 (n1 : Int), .int .u64 (n2 : Int), .int .u64 (n3 : Int), .int .u64 (n4 : Int), .int .u64 (n5 : Int), .int .u64 (n6 : Int), .slice A nf c] := (hF 34).trans (Eq.trans (by kernel_rfl) h7)
            clear H hN hd hX hF
            refine on_plain rfl ?_
            go_simp
            refine (take_no W none now ka kb kc n1 n2 n3 n4 n5 n6 A nf c (.inl rfl)).mono ?_
            rintro e W' ⟨rfl, hb⟩
            exact hK.out _ W' rfl hb (by simpa [upB, upd] using hI.grow hb)
          refine EachF.cons 10 rfl (fun dn xv W F hF hd hN hX hI H K hK => ?_) ?_
          · have f4 : F.tmps.getD 4 undef = .slice (some ⟨sl, 0, none⟩) 2 2 := (hF 4).trans (by kernel_rfl)
            clear H hN hd hX hF
            refine on_plain rfl ?_
            go_simp
            exact hK.out _ _ rfl (Below.refl _ _) (by simpa [upB, upd] using hI)
          refine EachF.cons 11 rfl (fun dn xv W F hF hd hN hX hI H K hK => ?_) ?_
          · have f5 : F.tmps.getD 5 undef = .int .i64 0 := (hF 5).trans (by kernel_rfl)
            clear H hN hd hX hF
            refine on_plain rfl ?_
            go_simp
            exact hK.out _ _ rfl (Below.refl _ _) (by simpa [upB, upd] using hI)
          refine EachF.cons 12 rfl (fun dn xv W F hF hd hN hX hI H K hK => ?_) ?_
          · have h9 : xv 9 = .slice (some ⟨sl, 0, none⟩) 2 2 := (H 9 (.edge (by kernel_rfl))).2
            have f36 : F.tmps.getD 36 undef = .slice (some ⟨sl, 0, none⟩) 2 2 := (hF 36).trans (Eq.trans (by kernel_rfl) h9)
            have h10 : xv 10 = .int .i64 0 := (H 10 (.edge (by kernel_rfl))).2
            have f37 : F.tmps.getD 37 undef = .int .i64 0 := (hF 37).trans (Eq.trans (by kernel_rfl) h10)
            clear H hN hd hX hF
            refine on_plain rfl ?_
            go_simp
            exact hK.out _ _ rfl (Below.refl _ _) (by simpa [upB, upd] using hI)
          refine EachF.cons 13 rfl (fun dn xv W F hF hd hN hX hI H K hK => ?_) ?_
          · have h11 : xv 11 = .pointer (some ⟨sl, 0, none⟩) := (H 11 (.edge (by kernel_rfl))).2
            have f38 : F.tmps.getD 38 undef = .pointer (some ⟨sl, 0, none⟩) := (hF 38).trans (Eq.trans (by kernel_rfl) h11)
            have ks0 := sep_ceAt (i := 2) hI rfl 0 rfl
            clear H hN hd hX hF
            refine on_plain rfl ?_
            go_simp
            exact hK.out _ _ rfl (Below.refl _ _) (by simpa [upB, upd] using hI)
          refine EachF.cons 14 rfl (fun dn xv W F hF hd hN hX hI H K hK => ?_) ?_
          · have f1 : F.tmps.getD 1 undef = .pointer (some ⟨b, 0, none⟩) := (hF 1).trans (by kernel_rfl)
            clear H hN hd hX hF
            refine on_plain rfl ?_
            go_simp
            exact hK.out _ _ rfl (Below.refl _ _) (by simpa [upB, upd] using hI)
          refine EachF.cons 15 rfl (fun dn xv W F hF hd hN hX hI H K hK => ?_) ?_
          · have h13 : xv 13 = .pointer (some ⟨b, 1, none⟩) := (H 13 (.edge (by kernel_rfl))).2
            have f40 : F.tmps.getD 40 undef = .pointer (some ⟨b, 1, none⟩) := (hF 40).trans (Eq.trans (by kernel_rfl) h13)
            have kb1 := sep_ceAt (i := 0) hI rfl 1 rfl
            clear H hN hd hX hF
            refine on_plain rfl ?_
            go_simp
            exact hK.out _ _ rfl (Below.refl _ _) (by simpa [upB, upd] using hI)
          refine EachF.cons 16 rfl (fun dn xv W F hF hd hN hX hI H K hK => ?_) ?_
          · have h12 : xv 12 = .pointer none := (H 12 (.edge (by kernel_rfl))).2
            have f39 : F.tmps.getD 39 undef = .pointer none := (hF 39).trans (Eq.trans (by kernel_rfl) h12)
            have h14 : xv 14 = .int .u64 (now : Int) := (H 14 (.edge (by kernel_rfl))).2
            have f41 : F.tmps.getD 41 undef = .int .u64 (now : Int) := (hF 41).trans (Eq.trans (by kernel_rfl) h14)
            clear H hN hd hX hF
            refine on_plain rfl ?_
            go_simp
            refine (tick_no W none now (.inl rfl)).mono ?_
            rintro e W' ⟨rfl, hb⟩
            exact hK.out _ W' rfl hb (by simpa [upB, upd] using hI.grow hb)
          refine EachF.cons 17 rfl (fun dn xv W F hF hd hN hX hI H K hK => ?_) ?_
          · clear H hN hd hX hF
            refine on_plain rfl ?_
            go_simp
            exact hK.out _ _ (NaAt.new W) ((Below.refl _ _).alloc (Nat.le_refl _) _) (by simpa [upB, upd] using hI.alloc _)
          refine EachF.cons 18 rfl (fun dn xv W F hF hd hN hX hI H K hK => ?_) ?_
          · clear H hN hd hX hF
            refine on_plain rfl ?_
            go_simp
            exact hK.out _ _ (NaAt.new W) ((Below.refl _ _).alloc (Nat.le_refl _) _) (by simpa [upB, upd] using hI.alloc _)
          refine EachF.cons 19 rfl (fun dn xv W F hF hd hN hX hI H K hK => ?_) ?_
          · have h16 := (H 16 (.edge (by kernel_rfl))).2
            simp only [Dl] at h16
            have f6 : F.tmps.getD 6 undef = xv 16 := (hF 6).trans (by kernel_rfl)
            have h8 : xv 8 = .agg #[.slice none 0 0, .slice none 0 0] := (H 8 (.edge (by kernel_rfl))).2
            have f35 : F.tmps.getD 35 undef = .agg #[.slice none 0 0, .slice none 0 0] := (hF 35).trans (Eq.trans (by kernel_rfl) h8)
            clear H hN hd hX hF
            refine on_plain rfl ?_
            obtain ⟨a, ea, hlt, ha⟩ := h16
            rw [ea] at f6
            have k0 : W.cell? ⟨a, 0, none⟩ = some (.slice none 0 0) := by rw [cell_of_row W a 0 _ _ _ ha]; rfl
            have k1 : W.cell? ⟨a, 1, none⟩ = some (.slice none 0 0) := by rw [cell_of_row W a 1 _ _ _ ha]; rfl
            have y0 : W.frozen? ⟨a, 0, none⟩ = false := by simp [World.frozen?, ha]
            have y1 : W.frozen? ⟨a, 1, none⟩ = false := by simp [World.frozen?, ha]
            have hb := NaAt.set ha
            go_simp
            exact hK.out undef _ trivial hb (by simpa [upB, upd] using hI.grow hb)
          refine EachF.cons 20 rfl (fun dn xv W F hF hd hN hX hI H K hK => ?_) ?_
          · have h17 := (H 17 (.edge (by kernel_rfl))).2
            simp only [Dl] at h17
            have f7 : F.tmps.getD 7 undef = xv 17 := (hF 7).trans (by kernel_rfl)
            have h15 : xv 15 = .agg #[.slice none 0 0, .slice none 0 0] := (H 15 (.edge (by kernel_rfl))).2
            have f42 : F.tmps.getD 42 undef = .agg #[.slice none 0 0, .slice none 0 0] := (hF 42).trans (Eq.trans (by kernel_rfl) h15)
            clear H hN hd hX hF
            refine on_plain rfl ?_
            obtain ⟨a, ea, hlt, ha⟩ := h17
            rw [ea] at f7
            have k0 : W.cell? ⟨a, 0, none⟩ = some (.slice none 0 0) := by rw [cell_of_row W a 0 _ _ _ ha]; rfl
            have k1 : W.cell? ⟨a, 1, none⟩ = some (.slice none 0 0) := by rw [cell_of_row W a 1 _ _ _ ha]; rfl
            have y0 : W.frozen? ⟨a, 0, none⟩ = false := by simp [World.frozen?, ha]
            have y1 : W.frozen? ⟨a, 1, none⟩ = false := by simp [World.frozen?, ha]
            have hb := NaAt.set ha
            go_simp
            exact hK.out undef _ trivial hb (by simpa [upB, upd] using hI.grow hb)
          exact EachF.nil
        · intro dn xv W hI H
          have q16 := (H 16 (of_decide_eq_true (by kernel_rfl))).2
          simp only [Dl] at q16
          have q17 := (H 17 (of_decide_eq_true (by kernel_rfl))).2
          simp only [Dl] at q17
          have hS : Sep w W [Ce b 64 #[.int .i64 dd, .int .u64 (now : Int), .int .i64 ka, .int .i64 kb, .int .i64 kc, .int .u64 (n1 : Int), .int .u64 (n2 : Int), .int .u64 (n3 : Int), .int .u64 (n4 : Int), .int .u64 (n5 : Int), .int .u64 (n6 : Int), .slice A nf c, .slice A2 nb c2], Ce g0 72 #[.int .u64 0, .slice none 0 0, .int .u64 0, .int .i64 0, .int .u64 0, .int .i64 0, .int .u64 0, .int .u64 0, .int .u64 0, .bool false, .int .u64 0, .int .u64 0], Ce sl 26 #[.pointer none, .pointer (some ⟨g0, 0, none⟩)]] := hI
          clear H hI
          simp only [putAll, Act.put, List.setIfInBounds_toArray, List.set_cons_zero, List.set_cons_succ, Nat.reduceAdd]
          obtain ⟨a6, e6, l6, h6⟩ := q16
          obtain ⟨a7, e7, l7, h7⟩ := q17
          rw [e6, e7]
          have HN6 := Lib.hid (show NaAt (.pointer (some ⟨a6, 0, none⟩)) W from ⟨a6, rfl, l6, h6⟩)
          have HN7 := Lib.hid (show NaAt (.pointer (some ⟨a7, 0, none⟩)) W from ⟨a7, rfl, l7, h7⟩)
          have HS8 := Lib.hid hS
          clear hS e6 e7 l6 l7 h6 h7
          obtain ⟨W8, HW8⟩ : ∃ x, Hid (W = x) := ⟨_, Lib.hid rfl⟩
          rw [HW8.out] at HS8 HN6 HN7 ⊢
          go_wp2_with fail
          refine wp_region_f (fun dn xv W => (Sep w W [Ce b 64 #[.int .i64 dd, .int .u64 (now : Int), .int .i64 ka, .int .i64 kb, .int .i64 kc, .int .u64 (n1 : Int), .int .u64 (n2 : Int), .int .u64 (n3 : Int), .int .u64 (n4 : Int), .int .u64 (n5 : Int), .int .u64 (n6 : Int), .slice A nf c, .slice A2 nb c2], Ce g0 72 #[.int .u64 0, .slice none 0 0, .int .u64 0, .int .i64 0, .int .u64 0, .int .i64 0, .int .u64 0, .int .u64 0, .int .u64 0, .bool false, .int .u64 0, .int .u64 0], Ce sl 26 #[.pointer none, .pointer (some ⟨g0, 0, none⟩)]] ∧ NaAt (.pointer (some ⟨a6, 0, none⟩)) W ∧ NaAt (.pointer (some ⟨a7, 0, none⟩)) W)) (fun W W' => Below W.heap.size W W') [fun v _ => v = .slice (some ⟨sl, 0, none⟩) 2 2, fun v _ => v = .int .i64 0, fun v _ => v = .pointer (some ⟨sl, 0, none⟩), fun v _ => v = .pointer none, fun v _ => v = .pointer (some ⟨b, 1, none⟩), fun v _ => v = .int .u64 (now : Int), fun v _ => v = .pointer (some ⟨b, 12, none⟩), fun v _ => v = .slice A2 nb c2, fun v _ => v = .tuple #[.agg #[.slice none 0 0, .slice none 0 0], .int .i64 7], fun v _ => v = .tuple #[.agg #[.slice none 0 0, .slice none 0 0], .int .i64 7], fun v _ => v = .agg #[.slice none 0 0, .slice none 0 0], fun v _ => v = .int .i64 7, NaAt, fun v _ => True, fun v _ => v = .int .i64 7] (by kernel_rfl) (by kernel_rfl) (by kernel_rfl) (by kernel_rfl) (fun xv => ⟨HS8.out.drew, HN6.out.below (Below.refl _ _).drew, HN7.out.below (Below.refl _ _).drew⟩)
            (by exact ⟨fun _ _ _ _ h => h, fun _ _ _ _ h => h, fun _ _ _ _ h => h, fun _ _ _ _ h => h, fun _ _ _ _ h => h, fun _ _ _ _ h => h, fun _ _ _ _ h => h, fun _ _ _ _ h => h, fun _ _ _ _ h => h, fun _ _ _ _ h => h, fun _ _ _ _ h => h, fun _ _ _ _ h => h, fun v W W' hR h => h.below hR, fun _ _ _ _ h => h, fun _ _ _ _ h => h, trivial⟩) ?_ ?_
          · refine EachF.cons 1 rfl (fun dn xv W F hF hd hN hX hI H K hK => ?_) ?_
            · have f4 : F.tmps.getD 4 undef = .slice (some ⟨sl, 0, none⟩) 2 2 := (hF 4).trans (by kernel_rfl)
              clear H hN hd hX hF
              refine on_plain rfl ?_
              go_simp
              exact hK.out _ _ rfl (Below.refl _ _) (by simpa [upB, upd] using hI)
            refine EachF.cons 2 rfl (fun dn xv W F hF hd hN hX hI H K hK => ?_) ?_
            · have f5 : F.tmps.getD 5 undef = .int .i64 0 := (hF 5).trans (by kernel_rfl)
              clear H hN hd hX hF
              refine on_plain rfl ?_
              go_simp
              exact hK.out _ _ rfl (Below.refl _ _) (by simpa [upB, upd] using hI)
            refine EachF.cons 3 rfl (fun dn xv W F hF hd hN hX hI H K hK => ?_) ?_
            · have h0 : xv 0 = .slice (some ⟨sl, 0, none⟩) 2 2 := (H 0 (.edge (by kernel_rfl))).2
              have f44 : F.tmps.getD 44 undef = .slice (some ⟨sl, 0, none⟩) 2 2 := (hF 44).trans (Eq.trans (by kernel_rfl) h0)
              have h1 : xv 1 = .int .i64 0 := (H 1 (.edge (by kernel_rfl))).2
              have f45 : F.tmps.getD 45 undef = .int .i64 0 := (hF 45).trans (Eq.trans (by kernel_rfl) h1)
              clear H hN hd hX hF
              refine on_plain rfl ?_
              go_simp
              exact hK.out _ _ rfl (Below.refl _ _) (by simpa [upB, upd] using hI)
            refine EachF.cons 4 rfl (fun dn xv W F hF hd hN hX hI H K hK => ?_) ?_
            · have h2 : xv 2 = .pointer (some ⟨sl, 0, none⟩) := (H 2 (.edge (by kernel_rfl))).2
              have f46 : F.tmps.getD 46 undef = .pointer (some ⟨sl, 0, none⟩) := (hF 46).trans (Eq.trans (by kernel_rfl) h2)
              have ks0 := sep_ceAt (i := 2) hI.1 rfl 0 rfl
              clear H hN hd hX hF
              refine on_plain rfl ?_
              go_simp
              exact hK.out _ _ rfl (Below.refl _ _) (by simpa [upB, upd] using hI)
            refine EachF.cons 5 rfl (fun dn xv W F hF hd hN hX hI H K hK => ?_) ?_
            · have f1 : F.tmps.getD 1 undef = .pointer (some ⟨b, 0, none⟩) := (hF 1).trans (by kernel_rfl)
              clear H hN hd hX hF
              refine on_plain rfl ?_
              go_simp
              exact hK.out _ _ rfl (Below.refl _ _) (by simpa [upB, upd] using hI)
            refine EachF.cons 6 rfl (fun dn xv W F hF hd hN hX hI H K hK => ?_) ?_
            · have h4 : xv 4 = .pointer (some ⟨b, 1, none⟩) := (H 4 (.edge (by kernel_rfl))).2
              have f48 : F.tmps.getD 48 undef = .pointer (some ⟨b, 1, none⟩) := (hF 48).trans (Eq.trans (by kernel_rfl) h4)
              have kb1 := sep_ceAt (i := 0) hI.1 rfl 1 rfl
              clear H hN hd hX hF
              refine on_plain rfl ?_
              go_simp
              exact hK.out _ _ rfl (Below.refl _ _) (by simpa [upB, upd] using hI)
            refine EachF.cons 7 rfl (fun dn xv W F hF hd hN hX hI H K hK => ?_) ?_
            · have f1 : F.tmps.getD 1 undef = .pointer (some ⟨b, 0, none⟩) := (hF 1).trans (by kernel_rfl)
              clear H hN hd hX hF
              refine on_plain rfl ?_
              go_simp
              exact hK.out _ _ rfl (Below.refl _ _) (by simpa [upB, upd] using hI)
            refine EachF.cons 8 rfl (fun dn xv W F hF hd hN hX hI H K hK => ?_) ?_
            · have h6 : xv 6 = .pointer (some ⟨b, 12, none⟩) := (H 6 (.edge (by kernel_rfl))).2
              have f50 : F.tmps.getD 50 undef = .pointer (some ⟨b, 12, none⟩) := (hF 50).trans (Eq.trans (by kernel_rfl) h6)
              have kb12 := sep_ceAt (i := 0) hI.1 rfl 12 rfl
              clear H hN hd hX hF
              refine on_plain rfl ?_
              go_simp
              exact hK.out _ _ rfl (Below.refl _ _) (by simpa [upB, upd] using hI)
            refine EachF.cons 9 rfl (fun dn xv W F hF hd hN hX hI H K hK => ?_) ?_
            · have h3 : xv 3 = .pointer none := (H 3 (.edge (by kernel_rfl))).2
              have f47 : F.tmps.getD 47 undef = .pointer none := (hF 47).trans (Eq.trans (by kernel_rfl) h3)
              have h5 : xv 5 = .int .u64 (now : Int) := (H 5 (.edge (by kernel_rfl))).2
              have f49 : F.tmps.getD 49 undef = .int .u64 (now : Int) := (hF 49).trans (Eq.trans (by kernel_rfl) h5)
              have h7 : xv 7 = .slice A2 nb c2 := (H 7 (.edge (by kernel_rfl))).2
              have f51 : F.tmps.getD 51 undef = .slice A2 nb c2 := (hF 51).trans (Eq.trans (by kernel_rfl) h7)
              clear H hN hd hX hF
              refine on_plain rfl ?_
              go_simp
              refine (send_no W none now A2 nb c2 (.inl rfl)).mono ?_
              rintro e W' ⟨rfl, hb⟩
              exact hK.out _ W' rfl hb (by simpa [upB, upd] using (⟨hI.1.grow hb, hI.2.1.below hb, hI.2.2.below hb⟩ : _ ∧ _ ∧ _))
            refine EachF.cons 10 rfl (fun dn xv W F hF hd hN hX hI H K hK => ?_) ?_
            · have h8 : xv 8 = .tuple #[.agg #[.slice none 0 0, .slice none 0 0], .int .i64 7] := (H 8 (.edge (by kernel_rfl))).2
              have f52 : F.tmps.getD 52 undef = .tuple #[.agg #[.slice none 0 0, .slice none 0 0], .int .i64 7] := (hF 52).trans (Eq.trans (by kernel_rfl) h8)
              clear H hN hd hX hF
              refine on_plain rfl ?_
              go_simp
              exact hK.out _ _ rfl (Below.refl _ _) (by simpa [upB, upd] using hI)
            refine EachF.cons 11 rfl (fun dn xv W F hF hd hN hX hI H K hK => ?_) ?_
            · have h9 : xv 9 = .tuple #[.agg #[.slice none 0 0, .slice none 0 0], .int .i64 7] := (H 9 (.edge (by kernel_rfl))).2
              have f43 : F.tmps.getD 43 undef = .tuple #[.agg #[.slice none 0 0, .slice none 0 0], .int .i64 7] := (hF 43).trans (Eq.trans (by kernel_rfl) h9)
              clear H hN hd hX hF
              refine on_plain rfl ?_
              go_simp
              exact hK.out _ _ rfl (Below.refl _ _) (by simpa [upB, upd] using hI)
            refine EachF.cons 12 rfl (fun dn xv W F hF hd hN hX hI H K hK => ?_) ?_
            · have h9 : xv 9 = .tuple #[.agg #[.slice none 0 0, .slice none 0 0], .int .i64 7] := (H 9 (.edge (by kernel_rfl))).2
              have f43 : F.tmps.getD 43 undef = .tuple #[.agg #[.slice none 0 0, .slice none 0 0], .int .i64 7] := (hF 43).trans (Eq.trans (by kernel_rfl) h9)
              clear H hN hd hX hF
              refine on_plain rfl ?_
              go_simp
              exact hK.out _ _ rfl (Below.refl _ _) (by simpa [upB, upd] using hI)
            refine EachF.cons 13 rfl (fun dn xv W F hF hd hN hX hI H K hK => ?_) ?_
            · clear H hN hd hX hF
              refine on_plain rfl ?_
              go_simp
              exact hK.out _ _ (NaAt.new W) ((Below.refl _ _).alloc (Nat.le_refl _) _) (by simpa [upB, upd] using (⟨hI.1.alloc _, hI.2.1.below ((Below.refl _ _).alloc (Nat.le_refl _) _), hI.2.2.below ((Below.refl _ _).alloc (Nat.le_refl _) _)⟩ : _ ∧ _ ∧ _))
            refine EachF.cons 14 rfl (fun dn xv W F hF hd hN hX hI H K hK => ?_) ?_
            · have h12 := (H 12 (.edge (by kernel_rfl))).2
              simp only [Dl] at h12
              have f8 : F.tmps.getD 8 undef = xv 12 := (hF 8).trans (by kernel_rfl)
              have h10 : xv 10 = .agg #[.slice none 0 0, .slice none 0 0] := (H 10 (.edge (by kernel_rfl))).2
              have f53 : F.tmps.getD 53 undef = .agg #[.slice none 0 0, .slice none 0 0] := (hF 53).trans (Eq.trans (by kernel_rfl) h10)
              clear H hN hd hX hF
              refine on_plain rfl ?_
              obtain ⟨a, ea, hlt, ha⟩ := h12
              rw [ea] at f8
              have k0 : W.cell? ⟨a, 0, none⟩ = some (.slice none 0 0) := by rw [cell_of_row W a 0 _ _ _ ha]; rfl
              have k1 : W.cell? ⟨a, 1, none⟩ = some (.slice none 0 0) := by rw [cell_of_row W a 1 _ _ _ ha]; rfl
              have y0 : W.frozen? ⟨a, 0, none⟩ = false := by simp [World.frozen?, ha]
              have y1 : W.frozen? ⟨a, 1, none⟩ = false := by simp [World.frozen?, ha]
              have hb := NaAt.set ha
              go_simp
              exact hK.out undef _ trivial hb (by simpa [upB, upd] using (⟨hI.1.grow hb, hI.2.1.below hb, hI.2.2.below hb⟩ : _ ∧ _ ∧ _))
            refine EachF.cons 15 rfl (fun dn xv W F hF hd hN hX hI H K hK => ?_) ?_
            · have h11 : xv 11 = .int .i64 7 := (H 11 (.edge (by kernel_rfl))).2
              have f54 : F.tmps.getD 54 undef = .int .i64 7 := (hF 54).trans (Eq.trans (by kernel_rfl) h11)
              clear H hN hd hX hF
              refine on_plain rfl ?_
              go_simp
              exact hK.out _ _ rfl (Below.refl _ _) (by simpa [upB, upd] using hI)
            exact EachF.nil
          · intro dn xv W hI H
            have q12 := (H 12 (of_decide_eq_true (by kernel_rfl))).2
            simp only [Dl] at q12
            have q14 : xv 14 = .int .i64 7 := (H 14 (of_decide_eq_true (by kernel_rfl))).2
            have hS : (Sep w W [Ce b 64 #[.int .i64 dd, .int .u64 (now : Int), .int .i64 ka, .int .i64 kb, .int .i64 kc, .int .u64 (n1 : Int), .int .u64 (n2 : Int), .int .u64 (n3 : Int), .int .u64 (n4 : Int), .int .u64 (n5 : Int), .int .u64 (n6 : Int), .slice A nf c, .slice A2 nb c2], Ce g0 72 #[.int .u64 0, .slice none 0 0, .int .u64 0, .int .i64 0, .int .u64 0, .int .i64 0, .int .u64 0, .int .u64 0, .int .u64 0, .bool false, .int .u64 0, .int .u64 0], Ce sl 26 #[.pointer none, .pointer (some ⟨g0, 0, none⟩)]] ∧ NaAt (.pointer (some ⟨a6, 0, none⟩)) W ∧ NaAt (.pointer (some ⟨a7, 0, none⟩)) W) := hI
            clear H hI
            simp only [putAll, Act.put, List.setIfInBounds_toArray, List.set_cons_zero, List.set_cons_succ, Nat.reduceAdd, q14]
            clear q14
            obtain ⟨a8, e8, l8, h8⟩ := q12
            rw [e8]
            have HN8 := Lib.hid (show NaAt (.pointer (some ⟨a8, 0, none⟩)) W from ⟨a8, rfl, l8, h8⟩)
            have HT := Lib.hid hS.1
            have HM6 := Lib.hid hS.2.1
            have HM7 := Lib.hid hS.2.2
            clear hS e8 l8 h8
            have ks := sep_ceAt (i := 2) HT.out rfl 0 rfl
            go_wp2_with fail
            clear ks
            refine (conns_no W none (.inl rfl)).mono ?_
            rintro e u1 ⟨rfl, hb1⟩
            have HT1 := Lib.hid (HT.out.grow hb1)
            have HA6 := Lib.hid (HM6.out.below hb1)
            have HA7 := Lib.hid (HM7.out.below hb1)
            have HA8 := Lib.hid (HN8.out.below hb1)
            clear HT HM6 HM7 HN8 hb1
            obtain ⟨p0, p1⟩ := HA6.out.cells
            go_wp2_with fail
            clear p0 p1
            refine (same12_nil u1).mono ?_
            rintro e u2 ⟨rfl, hb1⟩
            have HT2 := Lib.hid (HT1.out.grow hb1)
            have HB7 := Lib.hid (HA7.out.below hb1)
            have HB8 := Lib.hid (HA8.out.below hb1)
            clear HT1 HA6 HA7 HA8 hb1
            obtain ⟨p0, p1⟩ := HB7.out.cells
            go_wp2_with fail
            clear p0 p1
            refine (same12_nil u2).mono ?_
            rintro e u3 ⟨rfl, hb1⟩
            have HT3 := Lib.hid (HT2.out.grow hb1)
            have HC8 := Lib.hid (HB8.out.below hb1)
            clear HT2 HB7 HB8 hb1
            obtain ⟨p0, p1⟩ := HC8.out.cells
            go_wp2_with fail
            clear p0 p1
            refine (same12_nil u3).mono ?_
            rintro e u4 ⟨rfl, hb1⟩
            have HT4 := Lib.hid (HT3.out.grow hb1)
            clear HT3 HC8 hb1
            have ks := sep_ceAt (i := 2) HT4.out rfl 0 rfl
            go_wp2_with fail
            clear ks
            refine (up_no u4 none (.inl rfl)).mono ?_
            rintro e u5 ⟨rfl, hb1⟩
            have HT5 := Lib.hid (HT4.out.grow hb1)
            clear HT4 hb1
            have ks := sep_ceAt (i := 2) HT5.out rfl 0 rfl
            go_wp2_with fail
            clear ks
            refine (waits_no u5 none (.inl rfl)).mono ?_
            rintro e u6 ⟨rfl, hb1⟩
            have HT6 := Lib.hid (HT5.out.grow hb1)
            clear HT5 hb1
            have ks := sep_ceAt (i := 2) HT6.out rfl 0 rfl
            go_wp2_with fail
            clear ks
            refine (peer_no u6 none (.inl rfl)).mono ?_
            rintro e u7 ⟨rfl, hb1⟩
            have HT7 := Lib.hid (HT6.out.grow hb1)
            clear HT6 hb1
            go_wp2_with fail
            go_roundw
            case rel => exact ⟨1, by omega, rfl, HT7⟩
            case measure => simp [intOf]
      · go_wp2_with fail
        refine wp_region_f (fun dn xv W => Sep w W [Ce b 64 #[.int .i64 dd, .int .u64 (now : Int), .int .i64 ka, .int .i64 kb, .int .i64 kc, .int .u64 (n1 : Int), .int .u64 (n2 : Int), .int .u64 (n3 : Int), .int .u64 (n4 : Int), .int .u64 (n5 : Int), .int .u64 (n6 : Int), .slice A nf c, .slice A2 nb c2], Ce g0 72 #[.int .u64 0, .slice none 0 0, .int .u64 0, .int .i64 0, .int .u64 0, .int .i64 0, .int .u64 0, .int .u64 0, .int .u64 0, .bool false, .int .u64 0, .int .u64 0], Ce sl 26 #[.pointer none, .pointer (some ⟨g0, 0, none⟩)]]) (fun W W' => Below W.heap.size W W') [fun v _ => v = .slice (some ⟨sl, 0, none⟩) 2 2, fun v _ => v = .int .i64 1, fun v _ => v = .pointer (some ⟨sl, 1, none⟩), fun v _ => v = .pointer (some ⟨g0, 0, none⟩), fun v _ => v = .pointer (some ⟨b, 1, none⟩), fun v _ => v = .int .u64 (now : Int), fun v _ => v = .pointer (some ⟨b, 2, none⟩), fun v _ => v = .agg #[.int .i64 ka, .int .i64 kb, .int .i64 kc, .int .u64 (n1 : Int), .int .u64 (n2 : Int), .int .u64 (n3 : Int), .int .u64 (n4 : Int), .int .u64 (n5 : Int), .int .u64 (n6 : Int), .slice A nf c], fun v _ => v = .agg #[.slice none 0 0, .slice none 0 0], fun v _ => v = .slice (some ⟨sl, 0, none⟩) 2 2, fun v _ => v = .int .i64 1, fun v _ => v = .pointer (some ⟨sl, 1, none⟩), fun v _ => v = .pointer (some ⟨g0, 0, none⟩), fun v _ => v = .pointer (some ⟨b, 1, none⟩), fun v _ => v = .int .u64 (now : Int), fun v _ => v = .agg #[.slice none 0 0, .slice none 0 0], NaAt, NaAt, fun v _ => True, fun v _ => True] (by kernel_rfl) (by kernel_rfl) (by kernel_rfl) (by kernel_rfl) (fun xv => by simpa using HS.out.drew)
          (by exact ⟨fun _ _ _ _ h => h, fun _ _ _ _ h => h, fun _ _ _ _ h => h, fun _ _ _ _ h => h, fun _ _ _ _ h => h, fun _ _ _ _ h => h, fun _ _ _ _ h => h, fun _ _ _ _ h => h, fun _ _ _ _ h => h, fun _ _ _ _ h => h, fun _ _ _ _ h => h, fun _ _ _ _ h => h, fun _ _ _ _ h => h, fun _ _ _ _ h => h, fun _ _ _ _ h => h, fun _ _ _ _ h => h, fun v W W' hR h => h.below hR, fun v W W' hR h => h.below hR, fun _ _ _ _ h => h, fun _ _ _ _ h => h, trivial⟩) ?_ ?_
        · refine EachF.cons 1 rfl (fun dn xv W F hF hd hN hX hI H K hK => ?_) ?_
          · have f4 : F.tmps.getD 4 undef = .slice (some ⟨sl, 0, none⟩) 2 2 := (hF 4).trans (by kernel_rfl)
            clear H hN hd hX hF
            refine on_plain rfl ?_
            go_simp
            exact hK.out _ _ rfl (Below.refl _ _) (by simpa [upB, upd] using hI)
          refine EachF.cons 2 rfl (fun dn xv W F hF hd hN hX hI H K hK => ?_) ?_
          · have f5 : F.tmps.getD 5 undef = .int .i64 1 := (hF 5).trans (by kernel_rfl)
            clear H hN hd hX hF
            refine on_plain rfl ?_
            go_simp
            exact hK.out _ _ rfl (Below.refl _ _) (by simpa [upB, upd] using hI)
          refine EachF.cons 3 rfl (fun dn xv W F hF hd hN hX hI H K hK => ?_) ?_
          · have h0 : xv 0 = .slice (some ⟨sl, 0, none⟩) 2 2 := (H 0 (.edge (by kernel_rfl))).2
            have f27 : F.tmps.getD 27 undef = .slice (some ⟨sl, 0, none⟩) 2 2 := (hF 27).trans (Eq.trans (by kernel_rfl) h0)
            have h1 : xv 1 = .int .i64 1 := (H 1 (.edge (by kernel_rfl))).2
            have f28 : F.tmps.getD 28 undef = .int .i64 1 := (hF 28).trans (Eq.trans (by kernel_rfl) h1)
            clear H hN hd hX hF
            refine on_plain rfl ?_
            go_simp
            exact hK.out _ _ rfl (Below.refl _ _) (by simpa [upB, upd] using hI)
          refine EachF.cons 4 rfl (fun dn xv W F hF hd hN hX hI H K hK => ?_) ?_
          · have h2 : xv 2 = .pointer (some ⟨sl, 1, none⟩) := (H 2 (.edge (by kernel_rfl))).2
            have f29 : F.tmps.getD 29 undef = .pointer (some ⟨sl, 1, none⟩) := (hF 29).trans (Eq.trans (by kernel_rfl) h2)
            have ks1 := sep_ceAt (i := 2) hI rfl 1 rfl
            clear H hN hd hX hF
            refine on_plain rfl ?_
            go_simp
            exact hK.out _ _ rfl (Below.refl _ _) (by simpa [upB, upd] using hI)
          refine EachF.cons 5 rfl (fun dn xv W F hF hd hN hX hI H K hK => ?_) ?_
          · have f1 : F.tmps.getD 1 undef = .pointer (some ⟨b, 0, none⟩) := (hF 1).trans (by kernel_rfl)
            clear H hN hd hX hF
            refine on_plain rfl ?_
            go_simp
            exact hK.out _ _ rfl (Below.refl _ _) (by simpa [upB, upd] using hI)
          refine EachF.cons 6 rfl (fun dn xv W F hF hd hN hX hI H K hK => ?_) ?_
          · have h4 : xv 4 = .pointer (some ⟨b, 1, none⟩) := (H 4 (.edge (by kernel_rfl))).2
            have f31 : F.tmps.getD 31 undef = .pointer (some ⟨b, 1, none⟩) := (hF 31).trans (Eq.trans (by kernel_rfl) h4)
            have kb1 := sep_ceAt (i := 0) hI rfl 1 rfl
            clear H hN hd hX hF
            refine on_plain rfl ?_
            go_simp
            exact hK.out _ _ rfl (Below.refl _ _) (by simpa [upB, upd] using hI)
          refine EachF.cons 7 rfl (fun dn xv W F hF hd hN hX hI H K hK => ?_) ?_
          · have f1 : F.tmps.getD 1 undef = .pointer (some ⟨b, 0, none⟩) := (hF 1).trans (by kernel_rfl)
            clear H hN hd hX hF
            refine on_plain rfl ?_
            go_simp
            exact hK.out _ _ rfl (Below.refl _ _) (by simpa [upB, upd] using hI)
          refine EachF.cons 8 rfl (fun dn xv W F hF hd hN hX hI H K hK => ?_) ?_
          · have h6 : xv 6 = .pointer (some ⟨b, 2, none⟩) := (H 6 (.edge (by kernel_rfl))).2
            have f33 : F.tmps.getD 33 undef = .pointer (some ⟨b, 2, none⟩) := (hF 33).trans (Eq.trans (by kernel_rfl) h6)
            have kb2 := sep_ceAt (i := 0) hI rfl 2 rfl
            have kb3 := sep_ceAt (i := 0) hI rfl 3 rfl
            have kb4 := sep_ceAt (i := 0) hI rfl 4 rfl
            have kb5 := sep_ceAt (i := 0) hI rfl 5 rfl
            have kb6 := sep_ceAt (i := 0) hI rfl 6 rfl
            have kb7 := sep_ceAt (i := 0) hI rfl 7 rfl
            have kb8 := sep_ceAt (i := 0) hI rfl 8 rfl
            have kb9 := sep_ceAt (i := 0) hI rfl 9 rfl
            have kb10 := sep_ceAt (i := 0) hI rfl 10 rfl
            have kb11 := sep_ceAt (i := 0) hI rfl 11 rfl
            clear H hN hd hX hF
            refine on_plain rfl ?_
            go_simp
            exact hK.out _ _ rfl (Below.refl _ _) (by simpa [upB, upd] using hI)
          refine EachF.cons 9 rfl (fun dn xv W F hF hd hN hX hI H K hK => ?_) ?_
          · have h3 : xv 3 = .pointer (some ⟨g0, 0, none⟩) := (H 3 (.edge (by kernel_rfl))).2
            have f30 : F.tmps.getD 30 undef = .pointer (some ⟨g0, 0, none⟩) := (hF 30).trans (Eq.trans (by kernel_rfl) h3)
            have h5 : xv 5 = .int .u64 (now : Int) := (H 5 (.edge (by kernel_rfl))).2
            have f32 : F.tmps.getD 32 undef = .int .u64 (now : Int) := (hF 32).trans (Eq.trans (by kernel_rfl) h5)
            have h7 : xv 7 = .agg #[.int .i64 ka, .int .i64 kb, .int .i64 kc, .int .u64 (n1 : Int), .int .u64 (n2 : Int), .int .u64 (n3 : Int), .int .u64 (n4 : Int), .int .u64 (n5 : Int), .int .u64 (n6 : Int), .slice A nf c] := (H 7 (.edge (by kernel_rfl))).2
            have f34 : F.tmps.getD 34 undef = .agg #[.int .i64 ka, .int .i64 kb, .int .i64 kc, .int .u64 (n1 : Int), .int .u64 (n2 : Int), .int .u64 (n3 : Int), .int .u64 (n4 : Int), .int .u64 (n5 : Int), .int .u64 (n6 : Int), .slice A nf c] := (hF 34).trans (Eq.trans (by kernel_rfl) h7)
            clear H hN hd hX hF
            refine on_plain rfl ?_
            go_simp
            refine (take_no W (some ⟨g0, 0, none⟩) now ka kb kc n1 n2 n3 n4 n5 n6 A nf c (.inr ⟨g0, rfl, sep_ceLt (i := 1) hI rfl, sep_ceAt (i := 1) hI rfl 3 rfl⟩)).mono ?_
            rintro e W' ⟨rfl, hb⟩
            exact hK.out _ W' rfl hb (by simpa [upB, upd] using hI.grow hb)
          refine EachF.cons 10 rfl (fun dn xv W F hF hd hN hX hI H K hK => ?_) ?_
          · have f4 : F.tmps.getD 4 undef = .slice (some ⟨sl, 0, none⟩) 2 2 := (hF 4).trans (by kernel_rfl)
            clear H hN hd hX hF
            refine on_plain rfl ?_
            go_simp
            exact hK.out _ _ rfl (Below.refl _ _) (by simpa [upB, upd] using hI)
          refine EachF.cons 11 rfl (fun dn xv W F hF hd hN hX hI H K hK => ?_) ?_
          · have f5 : F.tmps.getD 5 undef = .int .i64 1 := (hF 5).trans (by kernel_rfl)
            clear H hN hd hX hF
            refine on_plain rfl ?_
            go_simp
            exact hK.out _ _ rfl (Below.refl _ _) (by simpa [upB, upd] using hI)
          refine EachF.cons 12 rfl (fun dn xv W F hF hd hN hX hI H K hK => ?_) ?_
          · have h9 : xv 9 = .slice (some ⟨sl, 0, none⟩) 2 2 := (H 9 (.edge (by kernel_rfl))).2
            have f36 : F.tmps.getD 36 undef = .slice (some ⟨sl, 0, none⟩) 2 2 := (hF 36).trans (Eq.trans (by kernel_rfl) h9)
            have h10 : xv 10 = .int .i64 1 := (H 10 (.edge (by kernel_rfl))).2
            have f37 : F.tmps.getD 37 undef = .int .i64 1 := (hF 37).trans (Eq.trans (by kernel_rfl) h10)
            clear H hN hd hX hF
            refine on_plain rfl ?_
            go_simp
            exact hK.out _ _ rfl (Below.refl _ _) (by simpa [upB, upd] using hI)
          refine EachF.cons 13 rfl (fun dn xv W F hF hd hN hX hI H K hK => ?_) ?_
          · have h11 : xv 11 = .pointer (some ⟨sl, 1, none⟩) := (H 11 (.edge (by kernel_rfl))).2
            have f38 : F.tmps.getD 38 undef = .pointer (some ⟨sl, 1, none⟩) := (hF 38).trans (Eq.trans (by kernel_rfl) h11)
            have ks1 := sep_ceAt (i := 2) hI rfl 1 rfl
            clear H hN hd hX hF
            refine on_plain rfl ?_
            go_simp
            exact hK.out _ _ rfl (Below.refl _ _) (by simpa [upB, upd] using hI)
          refine EachF.cons 14 rfl (fun dn xv W F hF hd hN hX hI H K hK => ?_) ?_
          · have f1 : F.tmps.getD 1 undef = .pointer (some ⟨b, 0, none⟩) := (hF 1).trans (by kernel_rfl)
            clear H hN hd hX hF
            refine on_plain rfl ?_
            go_simp
            exact hK.out _ _ rfl (Below.refl _ _) (by simpa [upB, upd] using hI)
          refine EachF.cons 15 rfl (fun dn xv W F hF hd hN hX hI H K hK => ?_) ?_
          · have h13 : xv 13 = .pointer (some ⟨b, 1, none⟩) := (H 13 (.edge (by kernel_rfl))).2
            have f40 : F.tmps.getD 40 undef = .pointer (some ⟨b, 1, none⟩) := (hF 40).trans (Eq.trans (by kernel_rfl) h13)
            have kb1 := sep_ceAt (i := 0) hI rfl 1 rfl
            clear H hN hd hX hF
            refine on_plain rfl ?_
            go_simp
            exact hK.out _ _ rfl (Below.refl _ _) (by simpa [upB, upd] using hI)
          refine EachF.cons 16 rfl (fun dn xv W F hF hd hN hX hI H K hK => ?_) ?_
          · have h12 : xv 12 = .pointer (some ⟨g0, 0, none⟩) := (H 12 (.edge (by kernel_rfl))).2
            have f39 : F.tmps.getD 39 undef = .pointer (some ⟨g0, 0, none⟩) := (hF 39).trans (Eq.trans (by kernel_rfl) h12)
            have h14 : xv 14 = .int .u64 (now : Int) := (H 14 (.edge (by kernel_rfl))).2
            have f41 : F.tmps.getD 41 undef = .int .u64 (now : Int) := (hF 41).trans (Eq.trans (by kernel_rfl) h14)
            clear H hN hd hX hF
            refine on_plain rfl ?_
            go_simp
            refine (tick_no W (some ⟨g0, 0, none⟩) now (.inr ⟨g0, rfl, sep_ceLt (i := 1) hI rfl, sep_ceAt (i := 1) hI rfl 3 rfl⟩)).mono ?_
            rintro e W' ⟨rfl, hb⟩
            exact hK.out _ W' rfl hb (by simpa [upB, upd] using hI.grow hb)
          refine EachF.cons 17 rfl (fun dn xv W F hF hd hN hX hI H K hK => ?_) ?_
          · clear H hN hd hX hF
            refine on_plain rfl ?_
            go_simp
            exact hK.out _ _ (NaAt.new W) ((Below.refl _ _).alloc (Nat.le_refl _) _) (by simpa [upB, upd] using hI.alloc _)
          refine EachF.cons 18 rfl (fun dn xv W F hF hd hN hX hI H K hK => ?_) ?_
          · clear H hN hd hX hF
            refine on_plain rfl ?_
            go_simp
            exact hK.out _ _ (NaAt.new W) ((Below.refl _ _).alloc (Nat.le_refl _) _) (by simpa [upB, upd] using hI.alloc _)
          refine EachF.cons 19 rfl (fun dn xv W F hF hd hN hX hI H K hK => ?_) ?_
          · have h16 := (H 16 (.edge (by kernel_rfl))).2
            simp only [Dl] at h16
            have f6 : F.tmps.getD 6 undef = xv 16 := (hF 6).trans (by kernel_rfl)
            have h8 : xv 8 = .agg #[.slice none 0 0, .slice none 0 0] := (H 8 (.edge (by kernel_rfl))).2
            have f35 : F.tmps.getD 35 undef = .agg #[.slice none 0 0, .slice none 0 0] := (hF 35).trans (Eq.trans (by kernel_rfl) h8)
            clear H hN hd hX hF
            refine on_plain rfl ?_
            obtain ⟨a, ea, hlt, ha⟩ := h16
            rw [ea] at f6
            have k0 : W.cell? ⟨a, 0, none⟩ = some (.slice none 0 0) := by rw [cell_of_row W a 0 _ _ _ ha]; rfl
            have k1 : W.cell? ⟨a, 1, none⟩ = some (.slice none 0 0) := by rw [cell_of_row W a 1 _ _ _ ha]; rfl
            have y0 : W.frozen? ⟨a, 0, none⟩ = false := by simp [World.frozen?, ha]
            have y1 : W.frozen? ⟨a, 1, none⟩ = false := by simp [World.frozen?, ha]
            have hb := NaAt.set ha
            go_simp
            exact hK.out undef _ trivial hb (by simpa [upB, upd] using hI.grow hb)
          refine EachF.cons 20 rfl (fun dn xv W F hF hd hN hX hI H K hK => ?_) ?_
          · have h17 := (H 17 (.edge (by kernel_rfl))).2
            simp only [Dl] at h17
            have f7 : F.tmps.getD 7 undef = xv 17 := (hF 7).trans (by kernel_rfl)
            have h15 : xv 15 = .agg #[.slice none 0 0, .slice none 0 0] := (H 15 (.edge (by kernel_rfl))).2
            have f42 : F.tmps.getD 42 undef = .agg #[.slice none 0 0, .slice none 0 0] := (hF 42).trans (Eq.trans (by kernel_rfl) h15)
            clear H hN hd hX hF
            refine on_plain rfl ?_
            obtain ⟨a, ea, hlt, ha⟩ := h17
            rw [ea] at f7
            have k0 : W.cell? ⟨a, 0, none⟩ = some (.slice none 0 0) := by rw [cell_of_row W a 0 _ _ _ ha]; rfl
            have k1 : W.cell? ⟨a, 1, none⟩ = some (.slice none 0 0) := by rw [cell_of_row W a 1 _ _ _ ha]; rfl
            have y0 : W.frozen? ⟨a, 0, none⟩ = false := by simp [World.frozen?, ha]
            have y1 : W.frozen? ⟨a, 1, none⟩ = false := by simp [World.frozen?, ha]
            have hb := NaAt.set ha
            go_simp
            exact hK.out undef _ trivial hb (by simpa [upB, upd] using hI.grow hb)
          exact EachF.nil
        · intro dn xv W hI H
          have q16 := (H 16 (of_decide_eq_true (by kernel_rfl))).2
          simp only [Dl] at q16
          have q17 := (H 17 (of_decide_eq_true (by kernel_rfl))).2
          simp only [Dl] at q17
          have hS : Sep w W [Ce b 64 #[.int .i64 dd, .int .u64 (now : Int), .int .i64 ka, .int .i64 kb, .int .i64 kc, .int .u64 (n1 : Int), .int .u64 (n2 : Int), .int .u64 (n3 : Int), .int .u64 (n4 : Int), .int .u64 (n5 : Int), .int .u64 (n6 : Int), .slice A nf c, .slice A2 nb c2], Ce g0 72 #[.int .u64 0, .slice none 0 0, .int .u64 0, .int .i64 0, .int .u64 0, .int .i64 0, .int .u64 0, .int .u64 0, .int .u64 0, .bool false, .int .u64 0, .int .u64 0], Ce sl 26 #[.pointer none, .pointer (some ⟨g0, 0, none⟩)]] := hI
          clear H hI
          simp only [putAll, Act.put, List.setIfInBounds_toArray, List.set_cons_zero, List.set_cons_succ, Nat.reduceAdd]
          obtain ⟨a6, e6, l6, h6⟩ := q16
          obtain ⟨a7, e7, l7, h7⟩ := q17
          rw [e6, e7]
          have HN6 := Lib.hid (show NaAt (.pointer (some ⟨a6, 0, none⟩)) W from ⟨a6, rfl, l6, h6⟩)
          have HN7 := Lib.hid (show NaAt (.pointer (some ⟨a7, 0, none⟩)) W from ⟨a7, rfl, l7, h7⟩)
          have HS8 := Lib.hid hS
          clear hS e6 e7 l6 l7 h6 h7
          obtain ⟨W8, HW8⟩ : ∃ x, Hid (W = x) := ⟨_, Lib.hid rfl⟩
          rw [HW8.out] at HS8 HN6 HN7 ⊢
          go_wp2_with fail
          refine wp_region_f (fun dn xv W => (Sep w W [Ce b 64 #[.int .i64 dd, .int .u64 (now : Int), .int .i64 ka, .int .i64 kb, .int .i64 kc, .int .u64 (n1 : Int), .int .u64 (n2 : Int), .int .u64 (n3 : Int), .int .u64 (n4 : Int), .int .u64 (n5 : Int), .int .u64 (n6 : Int), .slice A nf c, .slice A2 nb c2], Ce g0 72 #[.int .u64 0, .slice none 0 0, .int .u64 0, .int .i64 0, .int .u64 0, .int .i64 0, .int .u64 0, .int .u64 0, .int .u64 0, .bool false, .int .u64 0, .int .u64 0], Ce sl 26 #[.pointer none, .pointer (some ⟨g0, 0, none⟩)]] ∧ NaAt (.pointer (some ⟨a6, 0, none⟩)) W ∧ NaAt (.pointer (some ⟨a7, 0, none⟩)) W)) (fun W W' => Below W.heap.size W W') [fun v _ => v = .slice (some ⟨sl, 0, none⟩) 2 2, fun v _ => v = .int .i64 1, fun v _ => v = .pointer (some ⟨sl, 1, none⟩), fun v _ => v = .pointer (some ⟨g0, 0, none⟩), fun v _ => v = .pointer (some ⟨b, 1, none⟩), fun v _ => v = .int .u64 (now : Int), fun v _ => v = .pointer (some ⟨b, 12, none⟩), fun v _ => v = .slice A2 nb c2, fun v _ => v = .tuple #[.agg #[.slice none 0 0, .slice none 0 0], .int .i64 7], fun v _ => v = .tuple #[.agg #[.slice none 0 0, .slice none 0 0], .int .i64 7], fun v _ => v = .agg #[.slice none 0 0, .slice none 0 0], fun v _ => v = .int .i64 7, NaAt, fun v _ => True, fun v _ => v = .int .i64 7] (by kernel_rfl) (by kernel_rfl) (by kernel_rfl) (by kernel_rfl) (fun xv => ⟨HS8.out.drew, HN6.out.below (Below.refl _ _).drew, HN7.out.below (Below.refl _ _).drew⟩)
            (by exact ⟨fun _ _ _ _ h => h, fun _ _ _ _ h => h, fun _ _ _ _ h => h, fun _ _ _ _ h => h, fun _ _ _ _ h => h, fun _ _ _ _ h => h, fun _ _ _ _ h => h, fun _ _ _ _ h => h, fun _ _ _ _ h => h, fun _ _ _ _ h => h, fun _ _ _ _ h => h, fun _ _ _ _ h => h, fun v W W' hR h => h.below hR, fun _ _ _ _ h => h, fun _ _ _ _ h => h, trivial⟩) ?_ ?_
          · refine EachF.cons 1 rfl (fun dn xv W F hF hd hN hX hI H K hK => ?_) ?_
            · have f4 : F.tmps.getD 4 undef = .slice (some ⟨sl, 0, none⟩) 2 2 := (hF 4).trans (by kernel_rfl)
              clear H hN hd hX hF
              refine on_plain rfl ?_
              go_simp
              exact hK.out _ _ rfl (Below.refl _ _) (by simpa [upB, upd] using hI)
            refine EachF.cons 2 rfl (fun dn xv W F hF hd hN hX hI H K hK => ?_) ?_
            · have f5 : F.tmps.getD 5 undef = .int .i64 1 := (hF 5).trans (by kernel_rfl)
              clear H hN hd hX hF
              refine on_plain rfl ?_
              go_simp
              exact hK.out _ _ rfl (Below.refl _ _) (by simpa [upB, upd] using hI)
            refine EachF.cons 3 rfl (fun dn xv W F hF hd hN hX hI H K hK => ?_) ?_
            · have h0 : xv 0 = .slice (some ⟨sl, 0, none⟩) 2 2 := (H 0 (.edge (by kernel_rfl))).2
              have f44 : F.tmps.getD 44 undef = .slice (some ⟨sl, 0, none⟩) 2 2 := (hF 44).trans (Eq.trans (by kernel_rfl) h0)
              have h1 : xv 1 = .int .i64 1 := (H 1 (.edge (by kernel_rfl))).2
              have f45 : F.tmps.getD 45 undef = .int .i64 1 := (hF 45).trans (Eq.trans (by kernel_rfl) h1)
              clear H hN hd hX hF
              refine on_plain rfl ?_
              go_simp
              exact hK.out _ _ rfl (Below.refl _ _) (by simpa [upB, upd] using hI)
            refine EachF.cons 4 rfl (fun dn xv W F hF hd hN hX hI H K hK => ?_) ?_
            · have h2 : xv 2 = .pointer (some ⟨sl, 1, none⟩) := (H 2 (.edge (by kernel_rfl))).2
              have f46 : F.tmps.getD 46 undef = .pointer (some ⟨sl, 1, none⟩) := (hF 46).trans (Eq.trans (by kernel_rfl) h2)
              have ks1 := sep_ceAt (i := 2) hI.1 rfl 1 rfl
              clear H hN hd hX hF
              refine on_plain rfl ?_
              go_simp
              exact hK.out _ _ rfl (Below.refl _ _) (by simpa [upB, upd] using hI)
            refine EachF.cons 5 rfl (fun dn xv W F hF hd hN hX hI H K hK => ?_) ?_
            · have f1 : F.tmps.getD 1 undef = .pointer (some ⟨b, 0, none⟩) := (hF 1).trans (by kernel_rfl)
              clear H hN hd hX hF
              refine on_plain rfl ?_
              go_simp
              exact hK.out _ _ rfl (Below.refl _ _) (by simpa [upB, upd] using hI)
            refine EachF.cons 6 rfl (fun dn xv W F hF hd hN hX hI H K hK => ?_) ?_
            · have h4 : xv 4 = .pointer (some ⟨b, 1, none⟩) := (H 4 (.edge (by kernel_rfl))).2
              have f48 : F.tmps.getD 48 undef = .pointer (some ⟨b, 1, none⟩) := (hF 48).trans (Eq.trans (by kernel_rfl) h4)
              have kb1 := sep_ceAt (i := 0) hI.1 rfl 1 rfl
              clear H hN hd hX hF
              refine on_plain rfl ?_
              go_simp
              exact hK.out _ _ rfl (Below.refl _ _) (by simpa [upB, upd] using hI)
            refine EachF.cons 7 rfl (fun dn xv W F hF hd hN hX hI H K hK => ?_) ?_
            · have f1 : F.tmps.getD 1 undef = .pointer (some ⟨b, 0, none⟩) := (hF 1).trans (by kernel_rfl)
              clear H hN hd hX hF
              refine on_plain rfl ?_
              go_simp
              exact hK.out _ _ rfl (Below.refl _ _) (by simpa [upB, upd] using hI)
            refine EachF.cons 8 rfl (fun dn xv W F hF hd hN hX hI H K hK => ?_) ?_
            · have h6 : xv 6 = .pointer (some ⟨b, 12, none⟩) := (H 6 (.edge (by kernel_rfl))).2
              have f50 : F.tmps.getD 50 undef = .pointer (some ⟨b, 12, none⟩) := (hF 50).trans (Eq.trans (by kernel_rfl) h6)
              have kb12 := sep_ceAt (i := 0) hI.1 rfl 12 rfl
              clear H hN hd hX hF
              refine on_plain rfl ?_
              go_simp
              exact hK.out _ _ rfl (Below.refl _ _) (by simpa [upB, upd] using hI)
            refine EachF.cons 9 rfl (fun dn xv W F hF hd hN hX hI H K hK => ?_) ?_
            · have h3 : xv 3 = .pointer (some ⟨g0, 0, none⟩) := (H 3 (.edge (by kernel_rfl))).2
              have f47 : F.tmps.getD 47 undef = .pointer (some ⟨g0, 0, none⟩) := (hF 47).trans (Eq.trans (by kernel_rfl) h3)
              have h5 : xv 5 = .int .u64 (now : Int) := (H 5 (.edge (by kernel_rfl))).2
              have f49 : F.tmps.getD 49 undef = .int .u64 (now : Int) := (hF 49).trans (Eq.trans (by kernel_rfl) h5)
              have h7 : xv 7 = .slice A2 nb c2 := (H 7 (.edge (by kernel_rfl))).2
              have f51 : F.tmps.getD 51 undef = .slice A2 nb c2 := (hF 51).trans (Eq.trans (by kernel_rfl) h7)
              clear H hN hd hX hF
              refine on_plain rfl ?_
              go_simp
              refine (send_no W (some ⟨g0, 0, none⟩) now A2 nb c2 (.inr ⟨g0, rfl, sep_ceLt (i := 1) hI.1 rfl, sep_ceAt (i := 1) hI.1 rfl 3 rfl⟩)).mono ?_
              rintro e W' ⟨rfl, hb⟩
              exact hK.out _ W' rfl hb (by simpa [upB, upd] using (⟨hI.1.grow hb, hI.2.1.below hb, hI.2.2.below hb⟩ : _ ∧ _ ∧ _))
            refine EachF.cons 10 rfl (fun dn xv W F hF hd hN hX hI H K hK => ?_) ?_
            · have h8 : xv 8 = .tuple #[.agg #[.slice none 0 0, .slice none 0 0], .int .i64 7] := (H 8 (.edge (by kernel_rfl))).2
              have f52 : F.tmps.getD 52 undef = .tuple #[.agg #[.slice none 0 0, .slice none 0 0], .int .i64 7] := (hF 52).trans (Eq.trans (by kernel_rfl) h8)
              clear H hN hd hX hF
              refine on_plain rfl ?_
              go_simp
              exact hK.out _ _ rfl (Below.refl _ _) (by simpa [upB, upd] using hI)
            refine EachF.cons 11 rfl (fun dn xv W F hF hd hN hX hI H K hK => ?_) ?_
            · have h9 : xv 9 = .tuple #[.agg #[.slice none 0 0, .slice none 0 0], .int .i64 7] := (H 9 (.edge (by kernel_rfl))).2
              have f43 : F.tmps.getD 43 undef = .tuple #[.agg #[.slice none 0 0, .slice none 0 0], .int .i64 7] := (hF 43).trans (Eq.trans (by kernel_rfl) h9)
              clear H hN hd hX hF
              refine on_plain rfl ?_
              go_simp
              exact hK.out _ _ rfl (Below.refl _ _) (by simpa [upB, upd] using hI)
            refine EachF.cons 12 rfl (fun dn xv W F hF hd hN hX hI H K hK => ?_) ?_
            · have h9 : xv 9 = .tuple #[.agg #[.slice none 0 0, .slice none 0 0], .int .i64 7] := (H 9 (.edge (by kernel_rfl))).2
              have f43 : F.tmps.getD 43 undef = .tuple #[.agg #[.slice none 0 0, .slice none 0 0], .int .i64 7] := (hF 43).trans (Eq.trans (by kernel_rfl) h9)
              clear H hN hd hX hF
              refine on_plain rfl ?_
              go_simp
              exact hK.out _ _ rfl (Below.refl _ _) (by simpa [upB, upd] using hI)
            refine EachF.cons 13 rfl (fun dn xv W F hF hd hN hX hI H K hK => ?_) ?_
            · clear H hN hd hX hF
              refine on_plain rfl ?_
              go_simp
              exact hK.out _ _ (NaAt.new W) ((Below.refl _ _).alloc (Nat.le_refl _) _) (by simpa [upB, upd] using (⟨hI.1.alloc _, hI.2.1.below ((Below.refl _ _).alloc (Nat.le_refl _) _), hI.2.2.below ((Below.refl _ _).alloc (Nat.le_refl _) _)⟩ : _ ∧ _ ∧ _))
            refine EachF.cons 14 rfl (fun dn xv W F hF hd hN hX hI H K hK => ?_) ?_
            · have h12 := (H 12 (.edge (by kernel_rfl))).2
              simp only [Dl] at h12
              have f8 : F.tmps.getD 8 undef = xv 12 := (hF 8).trans (by kernel_rfl)
              have h10 : xv 10 = .agg #[.slice none 0 0, .slice none 0 0] := (H 10 (.edge (by kernel_rfl))).2
              have f53 : F.tmps.getD 53 undef = .agg #[.slice none 0 0, .slice none 0 0] := (hF 53).trans (Eq.trans (by kernel_rfl) h10)
              clear H hN hd hX hF
              refine on_plain rfl ?_
              obtain ⟨a, ea, hlt, ha⟩ := h12
              rw [ea] at f8
              have k0 : W.cell? ⟨a, 0, none⟩ = some (.slice none 0 0) := by rw [cell_of_row W a 0 _ _ _ ha]; rfl
              have k1 : W.cell? ⟨a, 1, none⟩ = some (.slice none 0 0) := by rw [cell_of_row W a 1 _ _ _ ha]; rfl
              have y0 : W.frozen? ⟨a, 0, none⟩ = false := by simp [World.frozen?, ha]
              have y1 : W.frozen? ⟨a, 1, none⟩ = false := by simp [World.frozen?, ha]
              have hb := NaAt.set ha
              go_simp
              exact hK.out undef _ trivial hb (by simpa [upB, upd] using (⟨hI.1.grow hb, hI.2.1.below hb, hI.2.2.below hb⟩ : _ ∧ _ ∧ _))
            refine EachF.cons 15 rfl (fun dn xv W F hF hd hN hX hI H K hK => ?_) ?_
            · have h11 : xv 11 = .int .i64 7 := (H 11 (.edge (by kernel_rfl))).2
              have f54 : F.tmps.getD 54 undef = .int .i64 7 := (hF 54).trans (Eq.trans (by kernel_rfl) h11)
              clear H hN hd hX hF
              refine on_plain rfl ?_
              go_simp
              exact hK.out _ _ rfl (Below.refl _ _) (by simpa [upB, upd] using hI)
            exact EachF.nil
          · intro dn xv W hI H
            have q12 := (H 12 (of_decide_eq_true (by kernel_rfl))).2
            simp only [Dl] at q12
            have q14 : xv 14 = .int .i64 7 := (H 14 (of_decide_eq_true (by kernel_rfl))).2
            have hS : (Sep w W [Ce b 64 #[.int .i64 dd, .int .u64 (now : Int), .int .i64 ka, .int .i64 kb, .int .i64 kc, .int .u64 (n1 : Int), .int .u64 (n2 : Int), .int .u64 (n3 : Int), .int .u64 (n4 : Int), .int .u64 (n5 : Int), .int .u64 (n6 : Int), .slice A nf c, .slice A2 nb c2], Ce g0 72 #[.int .u64 0, .slice none 0 0, .int .u64 0, .int .i64 0, .int .u64 0, .int .i64 0, .int .u64 0, .int .u64 0, .int .u64 0, .bool false, .int .u64 0, .int .u64 0], Ce sl 26 #[.pointer none, .pointer (some ⟨g0, 0, none⟩)]] ∧ NaAt (.pointer (some ⟨a6, 0, none⟩)) W ∧ NaAt (.pointer (some ⟨a7, 0, none⟩)) W) := hI
            clear H hI
            simp only [putAll, Act.put, List.setIfInBounds_toArray, List.set_cons_zero, List.set_cons_succ, Nat.reduceAdd, q14]
            clear q14
            obtain ⟨a8, e8, l8, h8⟩ := q12
            rw [e8]
            have HN8 := Lib.hid (show NaAt (.pointer (some ⟨a8, 0, none⟩)) W from ⟨a8, rfl, l8, h8⟩)
            have HT := Lib.hid hS.1
            have HM6 := Lib.hid hS.2.1
            have HM7 := Lib.hid hS.2.2
            clear hS e8 l8 h8
            have ks := sep_ceAt (i := 2) HT.out rfl 1 rfl
            go_wp2_with fail
            clear ks
            refine (conns_no W (some ⟨g0, 0, none⟩) (.inr ⟨g0, rfl, sep_ceLt (i := 1) HT.out rfl, sep_ceAt (i := 1) HT.out rfl 3 rfl⟩)).mono ?_
            rintro e u1 ⟨rfl, hb1⟩
            have HT1 := Lib.hid (HT.out.grow hb1)
            have HA6 := Lib.hid (HM6.out.below hb1)
            have HA7 := Lib.hid (HM7.out.below hb1)
            have HA8 := Lib.hid (HN8.out.below hb1)
            clear HT HM6 HM7 HN8 hb1
            obtain ⟨p0, p1⟩ := HA6.out.cells
            go_wp2_with fail
            clear p0 p1
            refine (same12_nil u1).mono ?_
            rintro e u2 ⟨rfl, hb1⟩
            have HT2 := Lib.hid (HT1.out.grow hb1)
            have HB7 := Lib.hid (HA7.out.below hb1)
            have HB8 := Lib.hid (HA8.out.below hb1)
            clear HT1 HA6 HA7 HA8 hb1
            obtain ⟨p0, p1⟩ := HB7.out.cells
            go_wp2_with fail
            clear p0 p1
            refine (same12_nil u2).mono ?_
            rintro e u3 ⟨rfl, hb1⟩
            have HT3 := Lib.hid (HT2.out.grow hb1)
            have HC8 := Lib.hid (HB8.out.below hb1)
            clear HT2 HB7 HB8 hb1
            obtain ⟨p0, p1⟩ := HC8.out.cells
            go_wp2_with fail
            clear p0 p1
            refine (same12_nil u3).mono ?_
            rintro e u4 ⟨rfl, hb1⟩
            have HT4 := Lib.hid (HT3.out.grow hb1)
            clear HT3 HC8 hb1
            have ks := sep_ceAt (i := 2) HT4.out rfl 1 rfl
            go_wp2_with fail
            clear ks
            refine (up_no u4 (some ⟨g0, 0, none⟩) (.inr ⟨g0, rfl, sep_ceLt (i := 1) HT4.out rfl, sep_ceAt (i := 1) HT4.out rfl 3 rfl⟩)).mono ?_
            rintro e u5 ⟨rfl, hb1⟩
            have HT5 := Lib.hid (HT4.out.grow hb1)
            clear HT4 hb1
            have ks := sep_ceAt (i := 2) HT5.out rfl 1 rfl
            go_wp2_with fail
            clear ks
            refine (waits_no u5 (some ⟨g0, 0, none⟩) (.inr ⟨g0, rfl, sep_ceLt (i := 1) HT5.out rfl, sep_ceAt (i := 1) HT5.out rfl 3 rfl⟩)).mono ?_
            rintro e u6 ⟨rfl, hb1⟩
            have HT6 := Lib.hid (HT5.out.grow hb1)
            clear HT5 hb1
            have ks := sep_ceAt (i := 2) HT6.out rfl 1 rfl
            go_wp2_with fail
            clear ks
            refine (peer_no u6 (some ⟨g0, 0, none⟩) (.inr ⟨g0, rfl, sep_ceLt (i := 1) HT6.out rfl, sep_ceAt (i := 1) HT6.out rfl 3 rfl⟩)).mono ?_
            rintro e u7 ⟨rfl, hb1⟩
            have HT7 := Lib.hid (HT6.out.grow hb1)
            clear HT6 hb1
            go_wp2_with fail
            go_roundw
            case rel => exact ⟨2, by omega, rfl, HT7⟩
            case measure => simp [intOf]
      · go_wp2_with fail
        refine (HAWK.out wr).mono ?_
        rintro e u9 ⟨rfl, hb9⟩
        go_wp2_with fail
        go_ret
        exact ⟨rfl, HS.out.bel.trans (hb9.mono HS.out.size)⟩
end Go.Proofs.Ytngegjboenfmeaa
