/- The document's Own: a sender in memory of its own. -/
import Derived.Test.YtmjlehofjholaaaWinL
import Derived.Test.YtmjlehofjholaaaRgApp
import Derived.Test.YtmjlehofjholaaaRgF
import Derived.Laws.Rows
namespace Go.Proofs.Ytmjlehofjholaaa
open Go Go.RowKit Go.Shelf
set_option linter.unusedVariables false
set_option maxRecDepth 100000
attribute [local go_sem] Oper.semAt_some

/-- a block of two cells -/
def Two (w : World) (b : Nat) (x y : Value) : Prop := w.heap[b]? = some (.cells #[x, y] 25 (0, 0))
theorem Two.c0 {w : World} {b : Nat} {x y : Value} (h : Two w b x y) : w.cell? ⟨b, 0, none⟩ = some x := by simp [World.cell?, show w.heap[b]? = _ from h]
theorem Two.c1 {w : World} {b : Nat} {x y : Value} (h : Two w b x y) : w.cell? ⟨b, 1, none⟩ = some y := by simp [World.cell?, show w.heap[b]? = _ from h]
theorem Two.f0 {w : World} {b : Nat} {x y : Value} (h : Two w b x y) : w.frozen? ⟨b, 0, none⟩ = false := by simp [World.frozen?, show w.heap[b]? = _ from h]
theorem Two.f1 {w : World} {b : Nat} {x y : Value} (h : Two w b x y) : w.frozen? ⟨b, 1, none⟩ = false := by simp [World.frozen?, show w.heap[b]? = _ from h]
theorem Two.below {w w' : World} {b B : Nat} {x y : Value} (h : Two w b x y) (hb : Below B w w') (hlt : b < B) : Two w' b x y := (hb.block b hlt).trans h
theorem Two.set1 {w : World} {b : Nat} {x y : Value} (h : Two w b x y) (z : Value) : Two (w.setCell ⟨b, 1, none⟩ z) b x z := by
  have := heap_setCell_same w b 1 _ _ z h
  simpa [Two] using this
theorem Two.set0 {w : World} {b : Nat} {x y : Value} (h : Two w b x y) (z : Value) : Two (w.setCell ⟨b, 0, none⟩ z) b z y := by
  have := heap_setCell_same w b 0 _ _ z h
  simpa [Two] using this
theorem Two.other {w : World} {b g i : Nat} {x y : Value} (h : Two w b x y) (hne : b ≠ g) (z : Value) : Two (w.setCell ⟨g, i, none⟩ z) b x y := (Below.heap_setCell w ⟨g, i, none⟩ z b (by simpa using hne)).trans h
theorem Two.new (w : World) (x y : Value) : Two (w.alloc (.cells #[x, y] 25)) w.heap.size x y := World.alloc_heap_new w _
theorem OwnB.set {w : World} {base g i : Nat} {v : Value} {L : List (List UInt8)} (h : OwnB w base v L) (hg : g < base) (z : Value) : OwnB (w.setCell ⟨g, i, none⟩ z) base v L :=
  h.keep fun k h1 _ => Below.heap_setCell w ⟨g, i, none⟩ z k (by simp; omega)

structure OwnAt (w wr : World) (base : Nat) (A : Option Addr) (c : Nat) (L : List (List UInt8)) (k : Nat) (v : Value) : Prop where
  below : Below w.heap.size w wr
  big : w.heap.size + 3 ≤ wr.heap.size
  b0 : Two wr w.heap.size (.int .u64 (base : Int)) (.slice A L.length c)
  b1 : Two wr (w.heap.size + 1) (.int .u64 0) (.slice none 0 0)
  b2 : Two wr (w.heap.size + 2) (.int .u64 (base : Int)) v
  own : OwnB wr (w.heap.size + 3) v (L.take k)
theorem OwnAt.start (w : World) (base : Nat) (A : Option Addr) (c : Nat) (L : List (List UInt8)) :
    OwnAt w (((w.alloc (.cells #[.int .u64 (base : Int), .slice A L.length c] 25)).alloc (.cells #[.int .u64 0, .slice none 0 0] 25)).alloc (.cells #[.int .u64 (base : Int), .slice none 0 0] 25)) base A c L 0 (.slice none 0 0) := by
  have n0 := Two.new w (.int .u64 (base : Int)) (.slice A L.length c)
  have n1 := Two.new (w.alloc (.cells #[.int .u64 (base : Int), .slice A L.length c] 25)) (.int .u64 0) (.slice none 0 0)
  have n2 := Two.new ((w.alloc (.cells #[.int .u64 (base : Int), .slice A L.length c] 25)).alloc (.cells #[.int .u64 0, .slice none 0 0] 25)) (.int .u64 (base : Int)) (.slice none 0 0)
  simp only [World.size_alloc] at n1 n2
  refine ⟨(((Below.refl _ w).alloc (Nat.le_refl _) _).alloc (by simp) _).alloc (by simp; omega) _, by simp, ?_, ?_, n2, OwnB.nil _ _⟩
  · exact (n0.below ((Below.refl (w.heap.size + 1) _).alloc (by simp) _) (by omega)).below ((Below.refl (w.heap.size + 1) _).alloc (by simp) _) (by omega)
  · exact n1.below ((Below.refl (w.heap.size + 2) _).alloc (by simp) _) (by omega)
theorem OwnAt.next {w wr W : World} {base : Nat} {A : Option Addr} {c : Nat} {L : List (List UInt8)} {k : Nat} {v u : Value} (h : OwnAt w wr base A c L k v) (hb : Below (w.heap.size + 3) wr W) (ho : OwnB W (w.heap.size + 3) u (L.take (k + 1))) :
    OwnAt w (W.setCell ⟨w.heap.size + 2, 1, none⟩ u) base A c L (k + 1) u :=
  ⟨(h.below.trans (hb.mono (by omega))).setCell (by simp) _, by have := hb.size; have := h.big; simp; omega, (h.b0.below hb (by omega)).other (by omega) _, (h.b1.below hb (by omega)).other (by omega) _, (h.b2.below hb (by omega)).set1 _, ho.set (by omega) _⟩

set_option maxHeartbeats 2000000 in
theorem ownR_any (w : World) (base : Nat) (A : Option Addr) (c : Nat) (L : List (List UInt8)) (h : Bx w w.heap.size A L) (hf : Fit L) :
    Calls Try.prog 12 #[.agg #[.int .u64 (base : Int), .slice A L.length c]] w fun e w' => ∃ v, e = .returned (.agg #[.int .u64 (base : Int), v]) ∧ OwnB w' w.heap.size v L ∧ Below w.heap.size w w' := by
  have h1 := hf.1
  have HF := Lib.hid hf.2
  have HFA := Lib.hid (fun (k : Nat) (l : List UInt8) (hl : l ∈ L.take k) => (show l.length ≤ 140737488355328 by have := hf.2 l (List.mem_of_mem_take hl); omega))
  have H := Lib.hid h
  clear h hf
  go_enter Try.func12, Try.ntmps12
  go_wp2
  go_loopw [4] (fun i wr => ∃ (k : Nat) (v : Value), k ≤ L.length ∧ i = .int .i64 (k : Int) ∧ OwnAt w wr base A c L k v) (fun i _ => L.length - (intOf i).toNat)
  case atStart => exact ⟨0, _, by omega, rfl, OwnAt.start w base A c L⟩
  case round =>
    obtain ⟨k, v, hk, rfl, ho⟩ := hrel
    have hbig := ho.big
    have k0 := ho.b0.c1
    have HO := Lib.hid ho
    obtain ⟨Av, cv, rfl, _⟩ := ho.own.form (HFA.out k)
    by_cases hlt : k < L.length
    · obtain ⟨b, o, A1, c1, rfl, hbB, hc, q1, q2, q3, hh⟩ := (H.out.below ho.below).at_ hlt
      have HH := Lib.hid hh
      have hle := HF.out L[k] (List.getElem_mem hlt)
      have hlk : (L.take k).length = k := by rw [List.length_take]; omega
      have HS : Hid (L.take (k + 1) = L.take k ++ [L[k]]) := Lib.hid (List.take_succ_eq_append_getElem hlt)
      clear hh ho
      obtain ⟨l, Hl⟩ : ∃ l, Hid (L[k] = l) := ⟨_, Lib.hid rfl⟩
      rw [Hl.out] at hc q1 q3 HH hle HS
      have hcl : wr.cell? ⟨w.heap.size + 2, 1, none⟩ = some (.slice Av (L.take k).length cv) := HO.out.b2.c1
      rw [hlk] at hcl HO
      have HLK := Lib.hid hlk
      have HCL := Lib.hid hcl
      clear hcl hlk
      have i0 : (0 : Int) ≤ (k : Int) := by omega
      have i1 : (k : Int) < (L.length : Int) := by omega
      go_wp2_with fail
      have hbel : ∀ (dn : Nat → Bool) (xv : Nat → Value) (W : World), (if dn 12 = true then OwnAt w W base (some ⟨b, o, none⟩) c L (k + 1) (xv 10) else if dn 10 = true then Below (w.heap.size + 3) wr W ∧ OwnB W (w.heap.size + 3) (xv 10) (L.take k ++ [l]) else if dn 9 = true then Below wr.heap.size wr W ∧ Own W wr.heap.size (xv 8) l ∧ OneOf (xv 8) (xv 9) W else if dn 8 = true then Below wr.heap.size wr W ∧ Own W wr.heap.size (xv 8) l else if dn 2 = true then Below wr.heap.size wr W ∧ Own W wr.heap.size (xv 2) [] else Below wr.heap.size wr W) → dn 12 = false → Below (w.heap.size + 3) wr W := fun dn xv W h h0 => by
        rw [if_neg (by simp [h0])] at h
        split at h
        · exact h.1
        split at h
        · exact h.1.mono hbig
        split at h
        · exact h.1.mono hbig
        split at h
        · exact h.1.mono hbig
        exact h.mono hbig
      refine wp_region_f (fun dn xv W => if dn 12 = true then OwnAt w W base (some ⟨b, o, none⟩) c L (k + 1) (xv 10) else if dn 10 = true then Below (w.heap.size + 3) wr W ∧ OwnB W (w.heap.size + 3) (xv 10) (L.take k ++ [l]) else if dn 9 = true then Below wr.heap.size wr W ∧ Own W wr.heap.size (xv 8) l ∧ OneOf (xv 8) (xv 9) W else if dn 8 = true then Below wr.heap.size wr W ∧ Own W wr.heap.size (xv 8) l else if dn 2 = true then Below wr.heap.size wr W ∧ Own W wr.heap.size (xv 2) [] else Below wr.heap.size wr W) (fun _ _ => True) [fun v _ => v = .pointer (some ⟨w.heap.size + 2, 1, none⟩), fun v _ => v = .slice Av k cv, fun v _ => True, fun v _ => v = .pointer (some ⟨w.heap.size, 1, none⟩), fun v _ => v = .slice (some ⟨b, o, none⟩) L.length c, fun v _ => v = .int .i64 (k : Int), fun v _ => v = .pointer (some ⟨b, o + k, none⟩), fun v _ => v = .slice A1 l.length c1, fun v _ => True, fun v _ => True, fun v _ => True, fun v _ => v = .pointer (some ⟨w.heap.size + 2, 1, none⟩), fun v _ => True] (by kernel_rfl) (by kernel_rfl) (by kernel_rfl) (by kernel_rfl) (fun xv => by simpa using (Below.refl _ wr).drew)
        (by exact ⟨fun _ _ _ _ h => h, fun _ _ _ _ h => h, fun _ _ _ _ h => h, fun _ _ _ _ h => h, fun _ _ _ _ h => h, fun _ _ _ _ h => h, fun _ _ _ _ h => h, fun _ _ _ _ h => h, fun _ _ _ _ h => h, fun _ _ _ _ h => h, fun _ _ _ _ h => h, fun _ _ _ _ h => h, fun _ _ _ _ h => h, trivial⟩) ?_ ?_
      · refine EachF.cons 1 rfl (fun dn xv W F hF hd hN hX hI H K hK => ?_) ?_
        · have f3 : F.tmps.getD 3 undef = .pointer (some ⟨w.heap.size + 2, 0, none⟩) := (hF 3).trans (by kernel_rfl)
          clear H hN hd hX hF
          refine on_plain rfl ?_
          go_simp
          exact hK.out _ _ rfl trivial (by simpa [upB, upd] using hI)
        refine EachF.cons 2 rfl (fun dn xv W F hF hd hN hX hI H K hK => ?_) ?_
        · have h0 : xv 0 = .pointer (some ⟨w.heap.size + 2, 1, none⟩) := (H 0 (.edge (by kernel_rfl))).2
          have f15 : F.tmps.getD 15 undef = .pointer (some ⟨w.heap.size + 2, 1, none⟩) := (hF 15).trans (Eq.trans (by kernel_rfl) h0)
          have hb0 := hbel dn xv W hI (hN 12 (.more (j := 10) (by kernel_rfl) (.edge (by kernel_rfl))))
          have hc0 := (hb0.cell (p := ⟨w.heap.size + 2, 1, none⟩) (show w.heap.size + 2 < w.heap.size + 3 by omega)).trans HCL.out
          clear hb0
          clear H hN hd hX hF
          refine on_plain rfl ?_
          go_simp
          exact hK.out _ _ rfl trivial (by simpa [upB, upd] using hI)
        refine EachF.cons 3 rfl (fun dn xv W F hF hd hN hX hI H K hK => ?_) ?_
        · have q8 : dn 8 = false := hN 8 (.edge (by kernel_rfl))
          have q9 : dn 9 = false := hN 9 (.more (j := 8) (by kernel_rfl) (.edge (by kernel_rfl)))
          have q10 : dn 10 = false := hN 10 (.more (j := 9) (by kernel_rfl) (.more (j := 8) (by kernel_rfl) (.edge (by kernel_rfl))))
          have q12 : dn 12 = false := hN 12 (.more (j := 10) (by kernel_rfl) (.more (j := 9) (by kernel_rfl) (.more (j := 8) (by kernel_rfl) (.edge (by kernel_rfl)))))
          have hS : Below wr.heap.size wr W := by simpa [hd, q8, q9, q10, q12] using hI
          clear hI hN hd hX hF H
          refine on_plain rfl ?_
          go_simp
          have hb : Below W.heap.size W (W.alloc (.cells #[] 5)) := (Below.refl _ _).alloc (Nat.le_refl _) _
          have hs : Below wr.heap.size wr (W.alloc (.cells #[] 5)) ∧ Own (W.alloc (.cells #[] 5)) wr.heap.size (.slice (some ⟨W.heap.size, 0, none⟩) 0 0) [] := ⟨hS.trans (hb.mono hS.size), own_mono (own_empty W) hS.size⟩
          exact hK.out _ _ trivial trivial (by simpa [upB, upd, q8, q9, q10, q12] using hs)
        refine EachF.cons 4 rfl (fun dn xv W F hF hd hN hX hI H K hK => ?_) ?_
        · have f1 : F.tmps.getD 1 undef = .pointer (some ⟨w.heap.size, 0, none⟩) := (hF 1).trans (by kernel_rfl)
          clear H hN hd hX hF
          refine on_plain rfl ?_
          go_simp
          exact hK.out _ _ rfl trivial (by simpa [upB, upd] using hI)
        refine EachF.cons 5 rfl (fun dn xv W F hF hd hN hX hI H K hK => ?_) ?_
        · have h3 : xv 3 = .pointer (some ⟨w.heap.size, 1, none⟩) := (H 3 (.edge (by kernel_rfl))).2
          have f18 : F.tmps.getD 18 undef = .pointer (some ⟨w.heap.size, 1, none⟩) := (hF 18).trans (Eq.trans (by kernel_rfl) h3)
          have hb0 := hbel dn xv W hI (hN 12 (.more (j := 10) (by kernel_rfl) (.more (j := 9) (by kernel_rfl) (.more (j := 8) (by kernel_rfl) (.more (j := 7) (by kernel_rfl) (.more (j := 6) (by kernel_rfl) (.edge (by kernel_rfl))))))))
          have hc0 := (hb0.cell (p := ⟨w.heap.size, 1, none⟩) (show w.heap.size < w.heap.size + 3 by omega)).trans k0
          clear hb0
          clear H hN hd hX hF
          refine on_plain rfl ?_
          go_simp
          exact hK.out _ _ rfl trivial (by simpa [upB, upd] using hI)
        refine EachF.cons 6 rfl (fun dn xv W F hF hd hN hX hI H K hK => ?_) ?_
        · have f4 : F.tmps.getD 4 undef = .int .i64 (k : Int) := (hF 4).trans (by kernel_rfl)
          clear H hN hd hX hF
          refine on_plain rfl ?_
          go_simp
          exact hK.out _ _ rfl trivial (by simpa [upB, upd] using hI)
        refine EachF.cons 7 rfl (fun dn xv W F hF hd hN hX hI H K hK => ?_) ?_
        · have h4 : xv 4 = .slice (some ⟨b, o, none⟩) L.length c := (H 4 (.edge (by kernel_rfl))).2
          have f19 : F.tmps.getD 19 undef = .slice (some ⟨b, o, none⟩) L.length c := (hF 19).trans (Eq.trans (by kernel_rfl) h4)
          have h5 : xv 5 = .int .i64 (k : Int) := (H 5 (.edge (by kernel_rfl))).2
          have f20 : F.tmps.getD 20 undef = .int .i64 (k : Int) := (hF 20).trans (Eq.trans (by kernel_rfl) h5)
          clear H hN hd hX hF
          refine on_plain rfl ?_
          go_simp
          exact hK.out _ _ rfl trivial (by simpa [upB, upd] using hI)
        refine EachF.cons 8 rfl (fun dn xv W F hF hd hN hX hI H K hK => ?_) ?_
        · have h6 : xv 6 = .pointer (some ⟨b, o + k, none⟩) := (H 6 (.edge (by kernel_rfl))).2
          have f21 : F.tmps.getD 21 undef = .pointer (some ⟨b, o + k, none⟩) := (hF 21).trans (Eq.trans (by kernel_rfl) h6)
          have hb0 := hbel dn xv W hI (hN 12 (.more (j := 10) (by kernel_rfl) (.more (j := 9) (by kernel_rfl) (.more (j := 8) (by kernel_rfl) (.edge (by kernel_rfl))))))
          have hc0 := (hb0.cell (p := ⟨b, o + k, none⟩) (show b < w.heap.size + 3 by omega)).trans hc
          clear hb0
          clear H hN hd hX hF
          refine on_plain rfl ?_
          go_simp
          exact hK.out _ _ rfl trivial (by simpa [upB, upd] using hI)
        refine EachF.cons 9 rfl (fun dn xv W F hF hd hN hX hI H K hK => ?_) ?_
        · have h2 := (H 2 (.edge (by kernel_rfl))).2
          simp only [Dl] at h2
          have f17 : F.tmps.getD 17 undef = xv 2 := (hF 17).trans (by kernel_rfl)
          have h7 : xv 7 = .slice A1 l.length c1 := (H 7 (.edge (by kernel_rfl))).2
          have f22 : F.tmps.getD 22 undef = .slice A1 l.length c1 := (hF 22).trans (Eq.trans (by kernel_rfl) h7)
          have q2 : dn 2 = true := (H 2 (.edge (by kernel_rfl))).1
          have q9 : dn 9 = false := hN 9 (.edge (by kernel_rfl))
          have q10 : dn 10 = false := hN 10 (.more (j := 9) (by kernel_rfl) (.edge (by kernel_rfl)))
          have q12 : dn 12 = false := hN 12 (.more (j := 10) (by kernel_rfl) (.more (j := 9) (by kernel_rfl) (.edge (by kernel_rfl))))
          have hS : Below wr.heap.size wr W ∧ Own W wr.heap.size (xv 2) [] := by simpa [hd, q9, q10, q12, q2] using hI
          clear hI hN hd hX hF H
          refine on_plain rfl ?_
          refine op_app (base := wr.heap.size) (l := []) (m := l) (B := w.heap.size) (s := .tmp 17) (x := .tmp 22) (by rfl) f17 f22 hS.2 (HH.out.below (hS.1.mono (by omega))) (by simp; omega) hS.1.size ?_
          intro v W' ho hb _ _
          have hs : Below wr.heap.size wr W' ∧ Own W' wr.heap.size v l := ⟨hS.1.trans hb, ho⟩
          exact hK.out v W' trivial trivial (by simpa [upB, upd, q9, q10, q12] using hs)
        refine EachF.cons 10 rfl (fun dn xv W F hF hd hN hX hI H K hK => ?_) ?_
        · have h8 := (H 8 (.edge (by kernel_rfl))).2
          simp only [Dl] at h8
          have f23 : F.tmps.getD 23 undef = xv 8 := (hF 23).trans (by kernel_rfl)
          have q8 : dn 8 = true := (H 8 (.edge (by kernel_rfl))).1
          have q10 : dn 10 = false := hN 10 (.edge (by kernel_rfl))
          have q12 : dn 12 = false := hN 12 (.more (j := 10) (by kernel_rfl) (.edge (by kernel_rfl)))
          have hS : Below wr.heap.size wr W ∧ Own W wr.heap.size (xv 8) l := by simpa [hd, q10, q12, q8] using hI
          clear hI hN hd hX hF H
          refine on_plain rfl ?_
          obtain ⟨A2, c2, e2, _⟩ := hS.2.form
          have e3 := e2
          rw [e2] at f23
          have g23 := f23
          rw [Array.getD_eq_getD_getElem?] at g23
          go_simp
          rw [← e3]
          have hb : Below W.heap.size W (W.alloc (.cells #[xv 8] 26)) := (Below.refl _ _).alloc (Nat.le_refl _) _
          have hs : Below wr.heap.size wr (W.alloc (.cells #[xv 8] 26)) ∧ Own (W.alloc (.cells #[xv 8] 26)) wr.heap.size (xv 8) l ∧ OneOf (xv 8) (.slice (some ⟨W.heap.size, 0, none⟩) 1 1) (W.alloc (.cells #[xv 8] 26)) := ⟨hS.1.trans (hb.mono hS.1.size), own_below hS.2 hb (Nat.le_refl _), OneOf.new W _ _⟩
          exact hK.out _ _ trivial trivial (by simpa [upB, upd, q10, q12] using hs)
        refine EachF.cons 11 rfl (fun dn xv W F hF hd hN hX hI H K hK => ?_) ?_
        · have h1 : xv 1 = .slice Av k cv := (H 1 (.edge (by kernel_rfl))).2
          have f16 : F.tmps.getD 16 undef = .slice Av k cv := (hF 16).trans (Eq.trans (by kernel_rfl) h1)
          have h9 := (H 9 (.edge (by kernel_rfl))).2
          simp only [Dl] at h9
          have f24 : F.tmps.getD 24 undef = xv 9 := (hF 24).trans (by kernel_rfl)
          have q9 : dn 9 = true := (H 9 (.edge (by kernel_rfl))).1
          have q12 : dn 12 = false := hN 12 (.edge (by kernel_rfl))
          have hS : Below wr.heap.size wr W ∧ Own W wr.heap.size (xv 8) l ∧ OneOf (xv 8) (xv 9) W := by simpa [hd, q12, q9] using hI
          clear hI hN hd hX hF H
          refine on_plain rfl ?_
          obtain ⟨s1, s2, A3, c3, e3, hh3⟩ := hS
          have f24x := f24.trans e3
          refine op_appB (base := w.heap.size + 3) (l := l) (u := xv 8) (s := .tmp 16) (x := .tmp 24) (by rfl) f16 f24x (HO.out.own.below s1) (own_mono s2 hbig) (apart_new HO.out.own s2) hh3 (by rw [HLK.out]; omega) (Nat.le_trans hbig s1.size) ?_
          intro v W' ho hb
          have hs : Below (w.heap.size + 3) wr W' ∧ OwnB W' (w.heap.size + 3) v (L.take k ++ [l]) := ⟨(s1.mono hbig).trans hb, ho⟩
          exact hK.out v _ trivial trivial (by simpa [upB, upd, q12] using hs)
        refine EachF.cons 12 rfl (fun dn xv W F hF hd hN hX hI H K hK => ?_) ?_
        · have f3 : F.tmps.getD 3 undef = .pointer (some ⟨w.heap.size + 2, 0, none⟩) := (hF 3).trans (by kernel_rfl)
          clear H hN hd hX hF
          refine on_plain rfl ?_
          go_simp
          exact hK.out _ _ rfl trivial (by simpa [upB, upd] using hI)
        refine EachF.cons 13 rfl (fun dn xv W F hF hd hN hX hI H K hK => ?_) ?_
        · have h10 := (H 10 (.edge (by kernel_rfl))).2
          simp only [Dl] at h10
          have f25 : F.tmps.getD 25 undef = xv 10 := (hF 25).trans (by kernel_rfl)
          have h11 : xv 11 = .pointer (some ⟨w.heap.size + 2, 1, none⟩) := (H 11 (.edge (by kernel_rfl))).2
          have f26 : F.tmps.getD 26 undef = .pointer (some ⟨w.heap.size + 2, 1, none⟩) := (hF 26).trans (Eq.trans (by kernel_rfl) h11)
          have q10 : dn 10 = true := (H 10 (.edge (by kernel_rfl))).1
          have hS : Below (w.heap.size + 3) wr W ∧ OwnB W (w.heap.size + 3) (xv 10) (L.take k ++ [l]) := by simpa [hd, q10] using hI
          clear hI hN hd hX hF H
          refine on_plain rfl ?_
          obtain ⟨s1, s2⟩ := hS
          rw [← HS.out] at s2
          obtain ⟨A2, c2, e2, _⟩ := s2.form (HFA.out _)
          obtain ⟨n1, hn1⟩ : ∃ n, (L.take (k + 1)).length = n := ⟨_, rfl⟩
          rw [hn1] at e2
          clear hn1
          have f25x := f25.trans e2
          have hc3 := (HO.out.b2.below s1 (by omega)).c1
          have hf3 := (HO.out.b2.below s1 (by omega)).f1
          have hs := HO.out.next s1 s2
          go_simp
          rw [← e2]
          exact hK.out undef _ trivial trivial (by simpa [upB, upd] using hs)
        exact EachF.nil
      · intro dn xv W hI H
        have qe : dn 12 = true := (H 12 (of_decide_eq_true (by kernel_rfl))).1
        have hS : OwnAt w W base (some ⟨b, o, none⟩) c L (k + 1) (xv 10) := by simpa [qe] using hI
        clear H hI qe
        simp only [putAll, Act.put, List.setIfInBounds_toArray, List.set_cons_zero, List.set_cons_succ, Nat.reduceAdd]
        go_wp2_with fail
        go_roundw
        case rel => exact ⟨k + 1, _, by omega, by go_num, hS⟩
        case measure => simp [intOf]; omega
    · have hk2 : k = L.length := by omega
      subst hk2
      have k00 := ho.b0.c0
      have k10 := ho.b1.c0
      have k11 := ho.b1.c1
      have k12 := ho.b1.f0
      have k13 := ho.b1.f1
      have k20 := ho.b2.c0
      have k21 := ho.b2.c1
      have hown := ho.own
      rw [List.take_length] at k21 hown HO
      have HW := Lib.hid hown
      have HBE := Lib.hid ho.below
      clear ho hown
      go_wp2
      refine bodyPost_ret (v := .agg #[.int .u64 (base : Int), .slice Av L.length cv]) (by simp [results, Try.results12, go_sem, k10, k11]) rfl ?_
      exact ⟨_, rfl, ((HW.out.set (by omega) _).set (by omega) _).mono (by omega), (HBE.out.setCell (by simp) _).setCell (by simp) _⟩
end Go.Proofs.Ytmjlehofjholaaa
