/- Last of a link of nothing; Take of a hello by which a link comes up. -/
import Derived.Test.YtngegjboenfmeaaLnk7
import Derived.Test.YtngegjboenfmeaaLnk9
namespace Go.Proofs.Ytngegjboenfmeaa
open Go Go.RowKit
set_option linter.unusedVariables false
set_option maxRecDepth 100000
set_option linter.unusedSimpArgs false

/-- a number of nought, somewhere -/
def ZAt (v : Value) (W : World) : Prop := ∃ a, v = .pointer (some ⟨a, 0, none⟩) ∧ a < W.heap.size ∧ W.heap[a]? = some (.cells #[.int .u64 0] 28 (0, 0))
theorem ZAt.below {v : Value} {W W' : World} (h : ZAt v W) (hb : Below W.heap.size W W') : ZAt v W' := by
  obtain ⟨a, e, h1, h2⟩ := h
  exact ⟨a, e, Nat.lt_of_lt_of_le h1 hb.size, (hb.block a h1).trans h2⟩
theorem ZAt.new (W : World) : ZAt (.pointer (some ⟨W.heap.size, 0, none⟩)) (W.alloc (.cells #[.int .u64 0] 28)) := ⟨_, rfl, by simp, heap_alloc_new W _⟩
theorem ZAt.set {W : World} {a : Nat} (h : W.heap[a]? = some (.cells #[.int .u64 0] 28 (0, 0))) : Below W.heap.size W (W.setCell ⟨a, 0, none⟩ (.int .u64 0)) := by
  refine ⟨rfl, rfl, rfl, by simp [World.setCell], fun k hk => ?_⟩
  by_cases e : k = a
  · subst e
    simp [World.setCell, Array.getElem?_modify, h]
  · simp [World.setCell, Array.getElem?_modify, e, Ne.symm e]
set_option maxHeartbeats 800000 in
theorem last0 (w : World) (g : Nat) (h0 : w.cell? ⟨g, 0, none⟩ = some (.int .u64 0)) (h1 : w.cell? ⟨g, 1, none⟩ = some (.slice none 0 0)) :
    Calls Try.prog 41 #[.pointer (some ⟨g, 0, none⟩)] w fun e w' => e = .returned (.int .u64 0) ∧ Below w.heap.size w w' := by
  have HG := Lib.hid (World.block_lt_of_cell? w _ h0)
  have HC0 := Lib.hid h0
  have HC1 := Lib.hid h1
  clear h0 h1
  go_enter Try.func41, Try.ntmps41
  go_wp2_with fail
  refine wp_region_f (fun dn xv W => Sep w W []) (fun _ _ => True) [fun v _ => v = .pointer (some ⟨g, 0, none⟩), fun v _ => v = .pointer (some ⟨g, 0, none⟩), fun v _ => v = .pointer (some ⟨g, 0, none⟩), fun v _ => v = .pointer (some ⟨g, 0, none⟩), fun v _ => v = .int .u64 0, fun v _ => v = .pointer (some ⟨g, 0, none⟩), fun v _ => v = .pointer (some ⟨g, 0, none⟩), fun v _ => v = .pointer (some ⟨g, 0, none⟩), fun v _ => v = .pointer (some ⟨g, 1, none⟩), fun v _ => v = .slice none 0 0, fun v _ => v = .int .i64 0, fun v _ => v = .int .i64 0, fun v _ => v = .int .u64 0, fun v _ => v = .int .u64 0, fun v _ => v = .int .u64 0] (by kernel_rfl) (by kernel_rfl) (by kernel_rfl) (by kernel_rfl) (fun xv => by simpa using (Sep.nil w).drew)
    (by exact ⟨fun _ _ _ _ h => h, fun _ _ _ _ h => h, fun _ _ _ _ h => h, fun _ _ _ _ h => h, fun _ _ _ _ h => h, fun _ _ _ _ h => h, fun _ _ _ _ h => h, fun _ _ _ _ h => h, fun _ _ _ _ h => h, fun _ _ _ _ h => h, fun _ _ _ _ h => h, fun _ _ _ _ h => h, fun _ _ _ _ h => h, fun _ _ _ _ h => h, fun _ _ _ _ h => h, trivial⟩) ?_ ?_
  · refine EachF.cons 1 rfl (fun dn xv W F hF hd hN hX hI H K hK => ?_) ?_
    · have f0 : F.tmps.getD 0 undef = .pointer (some ⟨g, 0, none⟩) := (hF 0).trans (by kernel_rfl)
      clear H hN hd hX hF
      refine on_plain rfl ?_
      go_simp
      exact hK.out _ _ rfl trivial (by simpa [upB, upd] using hI)
    refine EachF.cons 2 rfl (fun dn xv W F hF hd hN hX hI H K hK => ?_) ?_
    · have h0 : xv 0 = .pointer (some ⟨g, 0, none⟩) := (H 0 (.edge (by kernel_rfl))).2
      have f3 : F.tmps.getD 3 undef = .pointer (some ⟨g, 0, none⟩) := (hF 3).trans (Eq.trans (by kernel_rfl) h0)
      clear H hN hd hX hF
      refine on_plain rfl ?_
      go_simp
      exact hK.out _ _ rfl trivial (by simpa [upB, upd] using hI)
    refine EachF.cons 3 rfl (fun dn xv W F hF hd hN hX hI H K hK => ?_) ?_
    · have h1 : xv 1 = .pointer (some ⟨g, 0, none⟩) := (H 1 (.edge (by kernel_rfl))).2
      have f4 : F.tmps.getD 4 undef = .pointer (some ⟨g, 0, none⟩) := (hF 4).trans (Eq.trans (by kernel_rfl) h1)
      clear H hN hd hX hF
      refine on_plain rfl ?_
      go_simp
      exact hK.out _ _ rfl trivial (by simpa [upB, upd] using hI)
    refine EachF.cons 4 rfl (fun dn xv W F hF hd hN hX hI H K hK => ?_) ?_
    · have h2 : xv 2 = .pointer (some ⟨g, 0, none⟩) := (H 2 (.edge (by kernel_rfl))).2
      have f5 : F.tmps.getD 5 undef = .pointer (some ⟨g, 0, none⟩) := (hF 5).trans (Eq.trans (by kernel_rfl) h2)
      clear H hN hd hX hF
      refine on_plain rfl ?_
      go_simp
      exact hK.out _ _ rfl trivial (by simpa [upB, upd] using hI)
    refine EachF.cons 5 rfl (fun dn xv W F hF hd hN hX hI H K hK => ?_) ?_
    · have h3 : xv 3 = .pointer (some ⟨g, 0, none⟩) := (H 3 (.edge (by kernel_rfl))).2
      have f6 : F.tmps.getD 6 undef = .pointer (some ⟨g, 0, none⟩) := (hF 6).trans (Eq.trans (by kernel_rfl) h3)
      have k0 := (hI.bel.cell (p := ⟨g, 0, none⟩) HG.out).trans HC0.out
      clear H hN hd hX hF
      refine on_plain rfl ?_
      go_simp
      exact hK.out _ _ rfl trivial (by simpa [upB, upd] using hI)
    refine EachF.cons 6 rfl (fun dn xv W F hF hd hN hX hI H K hK => ?_) ?_
    · have f0 : F.tmps.getD 0 undef = .pointer (some ⟨g, 0, none⟩) := (hF 0).trans (by kernel_rfl)
      clear H hN hd hX hF
      refine on_plain rfl ?_
      go_simp
      exact hK.out _ _ rfl trivial (by simpa [upB, upd] using hI)
    refine EachF.cons 7 rfl (fun dn xv W F hF hd hN hX hI H K hK => ?_) ?_
    · have h5 : xv 5 = .pointer (some ⟨g, 0, none⟩) := (H 5 (.edge (by kernel_rfl))).2
      have f8 : F.tmps.getD 8 undef = .pointer (some ⟨g, 0, none⟩) := (hF 8).trans (Eq.trans (by kernel_rfl) h5)
      clear H hN hd hX hF
      refine on_plain rfl ?_
      go_simp
      exact hK.out _ _ rfl trivial (by simpa [upB, upd] using hI)
    refine EachF.cons 8 rfl (fun dn xv W F hF hd hN hX hI H K hK => ?_) ?_
    · have h6 : xv 6 = .pointer (some ⟨g, 0, none⟩) := (H 6 (.edge (by kernel_rfl))).2
      have f9 : F.tmps.getD 9 undef = .pointer (some ⟨g, 0, none⟩) := (hF 9).trans (Eq.trans (by kernel_rfl) h6)
      clear H hN hd hX hF
      refine on_plain rfl ?_
      go_simp
      exact hK.out _ _ rfl trivial (by simpa [upB, upd] using hI)
    refine EachF.cons 9 rfl (fun dn xv W F hF hd hN hX hI H K hK => ?_) ?_
    · have h7 : xv 7 = .pointer (some ⟨g, 0, none⟩) := (H 7 (.edge (by kernel_rfl))).2
      have f10 : F.tmps.getD 10 undef = .pointer (some ⟨g, 0, none⟩) := (hF 10).trans (Eq.trans (by kernel_rfl) h7)
      clear H hN hd hX hF
      refine on_plain rfl ?_
      go_simp
      exact hK.out _ _ rfl trivial (by simpa [upB, upd] using hI)
    refine EachF.cons 10 rfl (fun dn xv W F hF hd hN hX hI H K hK => ?_) ?_
    · have h8 : xv 8 = .pointer (some ⟨g, 1, none⟩) := (H 8 (.edge (by kernel_rfl))).2
      have f11 : F.tmps.getD 11 undef = .pointer (some ⟨g, 1, none⟩) := (hF 11).trans (Eq.trans (by kernel_rfl) h8)
      have k1 := (hI.bel.cell (p := ⟨g, 1, none⟩) HG.out).trans HC1.out
      clear H hN hd hX hF
      refine on_plain rfl ?_
      go_simp
      exact hK.out _ _ rfl trivial (by simpa [upB, upd] using hI)
    refine EachF.cons 11 rfl (fun dn xv W F hF hd hN hX hI H K hK => ?_) ?_
    · have h9 : xv 9 = .slice none 0 0 := (H 9 (.edge (by kernel_rfl))).2
      have f12 : F.tmps.getD 12 undef = .slice none 0 0 := (hF 12).trans (Eq.trans (by kernel_rfl) h9)
      clear H hN hd hX hF
      refine on_plain rfl ?_
      go_simp
      exact hK.out _ _ rfl trivial (by simpa [upB, upd] using hI)
    refine EachF.cons 12 rfl (fun dn xv W F hF hd hN hX hI H K hK => ?_) ?_
    · have h10 : xv 10 = .int .i64 0 := (H 10 (.edge (by kernel_rfl))).2
      have f13 : F.tmps.getD 13 undef = .int .i64 0 := (hF 13).trans (Eq.trans (by kernel_rfl) h10)
      clear H hN hd hX hF
      refine on_plain rfl ?_
      go_simp
      exact hK.out _ _ rfl trivial (by simpa [upB, upd] using hI)
    refine EachF.cons 13 rfl (fun dn xv W F hF hd hN hX hI H K hK => ?_) ?_
    · have h11 : xv 11 = .int .i64 0 := (H 11 (.edge (by kernel_rfl))).2
      have f14 : F.tmps.getD 14 undef = .int .i64 0 := (hF 14).trans (Eq.trans (by kernel_rfl) h11)
      clear H hN hd hX hF
      refine on_plain rfl ?_
      go_simp
      exact hK.out _ _ rfl trivial (by simpa [upB, upd] using hI)
    refine EachF.cons 14 rfl (fun dn xv W F hF hd hN hX hI H K hK => ?_) ?_
    · have h4 : xv 4 = .int .u64 0 := (H 4 (.edge (by kernel_rfl))).2
      have f7 : F.tmps.getD 7 undef = .int .u64 0 := (hF 7).trans (Eq.trans (by kernel_rfl) h4)
      have h12 : xv 12 = .int .u64 0 := (H 12 (.edge (by kernel_rfl))).2
      have f15 : F.tmps.getD 15 undef = .int .u64 0 := (hF 15).trans (Eq.trans (by kernel_rfl) h12)
      clear H hN hd hX hF
      refine on_plain rfl ?_
      go_simp
      exact hK.out _ _ rfl trivial (by simpa [upB, upd] using hI)
    refine EachF.cons 15 rfl (fun dn xv W F hF hd hN hX hI H K hK => ?_) ?_
    · have h13 : xv 13 = .int .u64 0 := (H 13 (.edge (by kernel_rfl))).2
      have f16 : F.tmps.getD 16 undef = .int .u64 0 := (hF 16).trans (Eq.trans (by kernel_rfl) h13)
      clear H hN hd hX hF
      refine on_plain rfl ?_
      go_simp
      exact hK.out _ _ rfl trivial (by simpa [upB, upd] using hI)
    exact EachF.nil
  · intro dn xv W hI H
    have q14 : xv 14 = .int .u64 0 := (H 14 (of_decide_eq_true (by kernel_rfl))).2
    have hS : Sep w W [] := hI
    clear H hI
    simp only [putAll, Act.put, List.setIfInBounds_toArray, List.set_cons_zero, List.set_cons_succ, Nat.reduceAdd, q14]
    clear q14
    have HS := Lib.hid hS
    clear hS
    go_wp2_with fail
    go_ret
    exact ⟨rfl, HS.out.bel⟩
set_option maxHeartbeats 12800000 in
theorem takeUp_any {w0 w : World} {Qs : List SP} {g base : Nat} {bx : Value} {got : Nat} {sn : Int} {si : Nat} {peer : Int} {conn inc known heard sent now finc fconn seq c : Nat} {A : Option Addr} {body : List UInt8}
    (h : Sep w0 w (Ce g 72 (lkCells base bx got sn si peer conn inc known false heard sent) :: Qs)) (hsn : sn ≠ 0) (hm : mayB 1 peer sn finc fconn si conn 0 seq body.length = true) (hbl : body.length ≤ maxLen) (hinc : inc < finc) :
    Calls Try.prog 15 #[.pointer (some ⟨g, 0, none⟩), .int .u64 (now : Int), .agg #[.int .i64 1, .int .i64 peer, .int .i64 sn, .int .u64 (finc : Int), .int .u64 (fconn : Int), .int .u64 (si : Int), .int .u64 (conn : Int), .int .u64 0, .int .u64 (seq : Int), .slice A body.length c]] w fun e w' => ∃ vF vE A2 c2, e = .returned (.agg #[vF, vE]) ∧ Sep w0 w' (Rw 51 10 vF 1 (heCells 0 sn si peer conn finc fconn).toList :: Rw 49 4 vE 1 [.int .i64 1, .int .i64 peer, .int .u64 (finc : Int), .slice none 0 0] :: Ce g 72 (lkCells 0 (.slice A2 0 c2) 0 sn si peer conn finc fconn true now sent) :: Qs) := by
  have HSN := Lib.hid hsn
  have HM := Lib.hid hm
  have HBL := Lib.hid hbl
  have hnl : ((finc : Int) < (inc : Int)) = False := by simp; omega
  have hne : ((finc : Int) == (inc : Int)) = false := beq_eq_false_iff_ne.2 (by omega)
  have hdd : decide ((finc : Int) < (inc : Int)) = false := decide_eq_false (by omega)
  have hdn : ((finc : Int) != (inc : Int)) = true := by simp; omega
  have HHE := Lib.hid (fun (W : World) hh => hello_any W g 0 (.slice none 0 0) 0 sn si peer conn finc fconn false now sent hh)
  obtain ⟨xs, HXS⟩ : ∃ l, Hid ((heCells 0 sn si peer conn finc fconn).toList = l) := ⟨_, Lib.hid rfl⟩
  have HX1 : Hid (∀ u ∈ xs, u.oneCell' = true) := Lib.hid (by
    rw [← HXS.out]
    intro u hu
    simp only [heCells, List.mem_cons, List.not_mem_nil, or_false] at hu
    rcases hu with rfl | rfl | rfl | rfl | rfl | rfl | rfl | rfl | rfl | rfl <;> rfl)
  have HS0 := Lib.hid (show Sep w0 (((((w.alloc (.cells #[.pointer (some ⟨g, 0, none⟩)] 26)).alloc (.cells #[.int .u64 (now : Int)] 28)).alloc (.cells #[.int .i64 1, .int .i64 peer, .int .i64 sn, .int .u64 (finc : Int), .int .u64 (fconn : Int), .int .u64 (si : Int), .int .u64 (conn : Int), .int .u64 0, .int .u64 (seq : Int), .slice A body.length c] 51)).alloc (.cells #[.slice none 0 0, .slice none 0 0] 43)).alloc (.cells #[.slice none 0 0, .slice none 0 0] 43)) (Rw 51 10 (.slice none 0 0) 0 [] :: Ce (w.heap.size + 1 + 1 + 1 + 1) 43 #[.slice none 0 0, .slice none 0 0] :: Ce (w.heap.size + 1 + 1 + 1) 43 #[.slice none 0 0, .slice none 0 0] :: Ce (w.heap.size + 1 + 1) 51 #[.int .i64 1, .int .i64 peer, .int .i64 sn, .int .u64 (finc : Int), .int .u64 (fconn : Int), .int .u64 (si : Int), .int .u64 (conn : Int), .int .u64 0, .int .u64 (seq : Int), .slice A body.length c] :: Ce (w.heap.size + 1) 28 #[.int .u64 (now : Int)] :: Ce w.heap.size 26 #[.pointer (some ⟨g, 0, none⟩)] :: Ce g 72 #[.int .u64 (base : Int), bx, .int .u64 (got : Int), .int .i64 sn, .int .u64 (si : Int), .int .i64 peer, .int .u64 (conn : Int), .int .u64 (inc : Int), .int .u64 (known : Int), .bool false, .int .u64 (heard : Int), .int .u64 (sent : Int)] :: Qs) by
    have := sep_ceF (sep_ceF (sep_ceF (sep_ceF (sep_ceF h #[.pointer (some ⟨g, 0, none⟩)] 26) #[.int .u64 (now : Int)] 28) #[.int .i64 1, .int .i64 peer, .int .i64 sn, .int .u64 (finc : Int), .int .u64 (fconn : Int), .int .u64 (si : Int), .int .u64 (conn : Int), .int .u64 0, .int .u64 (seq : Int), .slice A body.length c] 51) #[.slice none 0 0, .slice none 0 0] 43) #[.slice none 0 0, .slice none 0 0] 43
    simp only [World.size_alloc] at this
    exact (sep_rwNil this _ _).lastFront)
  clear h hsn hm hbl
  rw [HXS.out]
  go_enter Try.func15, Try.ntmps15
  go_wp2_with fail
  refine wp_region_f (fun dn xv W => Sep w0 W (Rw 51 10 (.slice none 0 0) 0 [] :: Ce (w.heap.size + 1 + 1 + 1 + 1) 43 #[.slice none 0 0, .slice none 0 0] :: Ce (w.heap.size + 1 + 1 + 1) 43 #[.slice none 0 0, .slice none 0 0] :: Ce (w.heap.size + 1 + 1) 51 #[.int .i64 1, .int .i64 peer, .int .i64 sn, .int .u64 (finc : Int), .int .u64 (fconn : Int), .int .u64 (si : Int), .int .u64 (conn : Int), .int .u64 0, .int .u64 (seq : Int), .slice A body.length c] :: Ce (w.heap.size + 1) 28 #[.int .u64 (now : Int)] :: Ce w.heap.size 26 #[.pointer (some ⟨g, 0, none⟩)] :: Ce g 72 #[.int .u64 (base : Int), bx, .int .u64 (got : Int), .int .i64 sn, .int .u64 (si : Int), .int .i64 peer, .int .u64 (conn : Int), .int .u64 (inc : Int), .int .u64 (known : Int), .bool false, .int .u64 (heard : Int), .int .u64 (sent : Int)] :: Qs)) (fun _ _ => True) [fun v _ => v = .pointer (some ⟨g, 0, none⟩), fun v _ => v = .bool true, fun v _ => v = .bool false, fun v _ => v = .bool false, fun v _ => v = .agg #[.int .i64 1, .int .i64 peer, .int .i64 sn, .int .u64 (finc : Int), .int .u64 (fconn : Int), .int .u64 (si : Int), .int .u64 (conn : Int), .int .u64 0, .int .u64 (seq : Int), .slice A body.length c], fun v _ => v = .bool true, fun v _ => v = .bool false, fun v _ => v = .bool false, fun v _ => v = .bool false, fun v _ => v = .pointer (some ⟨w.heap.size + 1 + 1, 1, none⟩), fun v _ => v = .int .i64 peer, fun v _ => v = .pointer (some ⟨g, 0, none⟩), fun v _ => v = .pointer (some ⟨g, 0, none⟩), fun v _ => v = .pointer (some ⟨g, 5, none⟩), fun v _ => v = .int .i64 peer, fun v _ => v = .bool false, fun v _ => v = .bool false, fun v _ => v = .bool false, fun v _ => v = .pointer (some ⟨w.heap.size + 1 + 1, 2, none⟩), fun v _ => v = .int .i64 sn, fun v _ => v = .pointer (some ⟨g, 0, none⟩), fun v _ => v = .pointer (some ⟨g, 0, none⟩), fun v _ => v = .pointer (some ⟨g, 3, none⟩), fun v _ => v = .pointer (some ⟨g, 3, none⟩), fun v _ => v = .int .i64 sn, fun v _ => v = .bool false, fun v _ => v = .bool false] (by kernel_rfl) (by kernel_rfl) (by kernel_rfl) (by kernel_rfl) (fun xv => by simpa using HS0.out.drew)
    (by exact ⟨fun _ _ _ _ h => h, fun _ _ _ _ h => h, fun _ _ _ _ h => h, fun _ _ _ _ h => h, fun _ _ _ _ h => h, fun _ _ _ _ h => h, fun _ _ _ _ h => h, fun _ _ _ _ h => h, fun _ _ _ _ h => h, fun _ _ _ _ h => h, fun _ _ _ _ h => h, fun _ _ _ _ h => h, fun _ _ _ _ h => h, fun _ _ _ _ h => h, fun _ _ _ _ h => h, fun _ _ _ _ h => h, fun _ _ _ _ h => h, fun _ _ _ _ h => h, fun _ _ _ _ h => h, fun _ _ _ _ h => h, fun _ _ _ _ h => h, fun _ _ _ _ h => h, fun _ _ _ _ h => h, fun _ _ _ _ h => h, fun _ _ _ _ h => h, fun _ _ _ _ h => h, fun _ _ _ _ h => h, trivial⟩) ?_ ?_
  · refine EachF.cons 1 rfl (fun dn xv W F hF hd hN hX hI H K hK => ?_) ?_
    · have f3 : F.tmps.getD 3 undef = .pointer (some ⟨w.heap.size, 0, none⟩) := (hF 3).trans (by kernel_rfl)
      have k5_0 := sep_ceAt (i := 5) hI rfl 0 rfl
      clear H hN hd hX hF
      refine on_plain rfl ?_
      go_simp
      exact hK.out _ _ rfl trivial (by simpa [upB, upd] using hI)
    refine EachF.cons 2 rfl (fun dn xv W F hF hd hN hX hI H K hK => ?_) ?_
    · have h0 : xv 0 = .pointer (some ⟨g, 0, none⟩) := (H 0 (.edge (by kernel_rfl))).2
      have f16 : F.tmps.getD 16 undef = .pointer (some ⟨g, 0, none⟩) := (hF 16).trans (Eq.trans (by kernel_rfl) h0)
      clear H hN hd hX hF
      refine on_plain rfl ?_
      go_simp
      refine (made_yes W g sn HSN.out (sep_ceAt (i := 6) hI rfl 3 rfl)).mono ?_
      rintro e W' ⟨rfl, hb⟩
      exact hK.out _ W' rfl trivial (by simpa [upB, upd] using hI.grow hb)
    refine EachF.cons 3 rfl (fun dn xv W F hF hd hN hX hI H K hK => ?_) ?_
    · have h1 : xv 1 = .bool true := (H 1 (.edge (by kernel_rfl))).2
      have f17 : F.tmps.getD 17 undef = .bool true := (hF 17).trans (Eq.trans (by kernel_rfl) h1)
      clear H hN hd hX hF
      refine on_plain rfl ?_
      go_simp
      exact hK.out _ _ rfl trivial (by simpa [upB, upd] using hI)
    refine EachF.cons 4 rfl (fun dn xv W F hF hd hN hX hI H K hK => ?_) ?_
    · have h2 : xv 2 = .bool false := (H 2 (.edge (by kernel_rfl))).2
      have f18 : F.tmps.getD 18 undef = .bool false := (hF 18).trans (Eq.trans (by kernel_rfl) h2)
      clear H hN hd hX hF
      refine on_plain rfl ?_
      go_simp
      exact hK.out _ _ rfl trivial (by simpa [upB, upd] using hI)
    refine EachF.cons 5 rfl (fun dn xv W F hF hd hN hX hI H K hK => ?_) ?_
    · have f5 : F.tmps.getD 5 undef = .pointer (some ⟨w.heap.size + 1 + 1, 0, none⟩) := (hF 5).trans (by kernel_rfl)
      have h3 : xv 3 = .bool false := (H 3 (.edge (by kernel_rfl))).2
      have f19 : F.tmps.getD 19 undef = .bool false := (hF 19).trans (Eq.trans (by kernel_rfl) h3)
      have k3_0 := sep_ceAt (i := 3) hI rfl 0 rfl
      have k3_1 := sep_ceAt (i := 3) hI rfl 1 rfl
      have k3_2 := sep_ceAt (i := 3) hI rfl 2 rfl
      have k3_3 := sep_ceAt (i := 3) hI rfl 3 rfl
      have k3_4 := sep_ceAt (i := 3) hI rfl 4 rfl
      have k3_5 := sep_ceAt (i := 3) hI rfl 5 rfl
      have k3_6 := sep_ceAt (i := 3) hI rfl 6 rfl
      have k3_7 := sep_ceAt (i := 3) hI rfl 7 rfl
      have k3_8 := sep_ceAt (i := 3) hI rfl 8 rfl
      have k3_9 := sep_ceAt (i := 3) hI rfl 9 rfl
      clear H hN hd hX hF
      refine on_guard rfl (by kernel_rfl) f19 ?_
      go_simp
      exact hK.out _ _ rfl trivial (by simpa [upB, upd] using hI)
    refine EachF.cons 6 rfl (fun dn xv W F hF hd hN hX hI H K hK => ?_) ?_
    · have h4 : xv 4 = .agg #[.int .i64 1, .int .i64 peer, .int .i64 sn, .int .u64 (finc : Int), .int .u64 (fconn : Int), .int .u64 (si : Int), .int .u64 (conn : Int), .int .u64 0, .int .u64 (seq : Int), .slice A body.length c] := (H 4 (.edge (by kernel_rfl))).2
      have f20 : F.tmps.getD 20 undef = .agg #[.int .i64 1, .int .i64 peer, .int .i64 sn, .int .u64 (finc : Int), .int .u64 (fconn : Int), .int .u64 (si : Int), .int .u64 (conn : Int), .int .u64 0, .int .u64 (seq : Int), .slice A body.length c] := (hF 20).trans (Eq.trans (by kernel_rfl) h4)
      have h3 : xv 3 = .bool false := (H 3 (.edge (by kernel_rfl))).2
      have f19 : F.tmps.getD 19 undef = .bool false := (hF 19).trans (Eq.trans (by kernel_rfl) h3)
      clear H hN hd hX hF
      refine on_guard rfl (by kernel_rfl) f19 ?_
      go_simp
      refine (mayFk (w := W) (c := c) (A := A) HM.out HBL.out).mono ?_
      rintro e W' ⟨rfl, hb⟩
      exact hK.out _ W' rfl trivial (by simpa [upB, upd] using hI.grow hb)
    refine EachF.cons 7 rfl (fun dn xv W F hF hd hN hX hI H K hK => ?_) ?_
    · have h5 : xv 5 = .bool true := (H 5 (.edge (by kernel_rfl))).2
      have f21 : F.tmps.getD 21 undef = .bool true := (hF 21).trans (Eq.trans (by kernel_rfl) h5)
      have h3 : xv 3 = .bool false := (H 3 (.edge (by kernel_rfl))).2
      have f19 : F.tmps.getD 19 undef = .bool false := (hF 19).trans (Eq.trans (by kernel_rfl) h3)
      clear H hN hd hX hF
      refine on_guard rfl (by kernel_rfl) f19 ?_
      go_simp
      exact hK.out _ _ rfl trivial (by simpa [upB, upd] using hI)
    refine EachF.cons 8 rfl (fun dn xv W F hF hd hN hX hI H K hK => ?_) ?_
    · have h3 : xv 3 = .bool false := (H 3 (.edge (by kernel_rfl))).2
      have f19 : F.tmps.getD 19 undef = .bool false := (hF 19).trans (Eq.trans (by kernel_rfl) h3)
      have h6 : xv 6 = .bool false := (H 6 (.edge (by kernel_rfl))).2
      have f22 : F.tmps.getD 22 undef = .bool false := (hF 22).trans (Eq.trans (by kernel_rfl) h6)
      clear H hN hd hX hF
      refine on_plain rfl ?_
      go_simp
      exact hK.out _ _ rfl trivial (by simpa [upB, upd] using hI)
    refine EachF.cons 9 rfl (fun dn xv W F hF hd hN hX hI H K hK => ?_) ?_
    · have h7 : xv 7 = .bool false := (H 7 (.edge (by kernel_rfl))).2
      have f23 : F.tmps.getD 23 undef = .bool false := (hF 23).trans (Eq.trans (by kernel_rfl) h7)
      clear H hN hd hX hF
      refine on_plain rfl ?_
      go_simp
      exact hK.out _ _ rfl trivial (by simpa [upB, upd] using hI)
    refine EachF.cons 10 rfl (fun dn xv W F hF hd hN hX hI H K hK => ?_) ?_
    · have f5 : F.tmps.getD 5 undef = .pointer (some ⟨w.heap.size + 1 + 1, 0, none⟩) := (hF 5).trans (by kernel_rfl)
      have h8 : xv 8 = .bool false := (H 8 (.edge (by kernel_rfl))).2
      have f24 : F.tmps.getD 24 undef = .bool false := (hF 24).trans (Eq.trans (by kernel_rfl) h8)
      clear H hN hd hX hF
      refine on_guard rfl (by kernel_rfl) f24 ?_
      go_simp
      exact hK.out _ _ rfl trivial (by simpa [upB, upd] using hI)
    refine EachF.cons 11 rfl (fun dn xv W F hF hd hN hX hI H K hK => ?_) ?_
    · have h9 : xv 9 = .pointer (some ⟨w.heap.size + 1 + 1, 1, none⟩) := (H 9 (.edge (by kernel_rfl))).2
      have f25 : F.tmps.getD 25 undef = .pointer (some ⟨w.heap.size + 1 + 1, 1, none⟩) := (hF 25).trans (Eq.trans (by kernel_rfl) h9)
      have h8 : xv 8 = .bool false := (H 8 (.edge (by kernel_rfl))).2
      have f24 : F.tmps.getD 24 undef = .bool false := (hF 24).trans (Eq.trans (by kernel_rfl) h8)
      have k3_1 := sep_ceAt (i := 3) hI rfl 1 rfl
      clear H hN hd hX hF
      refine on_guard rfl (by kernel_rfl) f24 ?_
      go_simp
      exact hK.out _ _ rfl trivial (by simpa [upB, upd] using hI)
    refine EachF.cons 12 rfl (fun dn xv W F hF hd hN hX hI H K hK => ?_) ?_
    · have f3 : F.tmps.getD 3 undef = .pointer (some ⟨w.heap.size, 0, none⟩) := (hF 3).trans (by kernel_rfl)
      have h8 : xv 8 = .bool false := (H 8 (.edge (by kernel_rfl))).2
      have f24 : F.tmps.getD 24 undef = .bool false := (hF 24).trans (Eq.trans (by kernel_rfl) h8)
      have k5_0 := sep_ceAt (i := 5) hI rfl 0 rfl
      clear H hN hd hX hF
      refine on_guard rfl (by kernel_rfl) f24 ?_
      go_simp
      exact hK.out _ _ rfl trivial (by simpa [upB, upd] using hI)
    refine EachF.cons 13 rfl (fun dn xv W F hF hd hN hX hI H K hK => ?_) ?_
    · have h11 : xv 11 = .pointer (some ⟨g, 0, none⟩) := (H 11 (.edge (by kernel_rfl))).2
      have f27 : F.tmps.getD 27 undef = .pointer (some ⟨g, 0, none⟩) := (hF 27).trans (Eq.trans (by kernel_rfl) h11)
      have h8 : xv 8 = .bool false := (H 8 (.edge (by kernel_rfl))).2
      have f24 : F.tmps.getD 24 undef = .bool false := (hF 24).trans (Eq.trans (by kernel_rfl) h8)
      clear H hN hd hX hF
      refine on_guard rfl (by kernel_rfl) f24 ?_
      go_simp
      exact hK.out _ _ rfl trivial (by simpa [upB, upd] using hI)
    refine EachF.cons 14 rfl (fun dn xv W F hF hd hN hX hI H K hK => ?_) ?_
    · have h12 : xv 12 = .pointer (some ⟨g, 0, none⟩) := (H 12 (.edge (by kernel_rfl))).2
      have f28 : F.tmps.getD 28 undef = .pointer (some ⟨g, 0, none⟩) := (hF 28).trans (Eq.trans (by kernel_rfl) h12)
      have h8 : xv 8 = .bool false := (H 8 (.edge (by kernel_rfl))).2
      have f24 : F.tmps.getD 24 undef = .bool false := (hF 24).trans (Eq.trans (by kernel_rfl) h8)
      clear H hN hd hX hF
      refine on_guard rfl (by kernel_rfl) f24 ?_
      go_simp
      exact hK.out _ _ rfl trivial (by simpa [upB, upd] using hI)
    refine EachF.cons 15 rfl (fun dn xv W F hF hd hN hX hI H K hK => ?_) ?_
    · have h13 : xv 13 = .pointer (some ⟨g, 5, none⟩) := (H 13 (.edge (by kernel_rfl))).2
      have f29 : F.tmps.getD 29 undef = .pointer (some ⟨g, 5, none⟩) := (hF 29).trans (Eq.trans (by kernel_rfl) h13)
      have h8 : xv 8 = .bool false := (H 8 (.edge (by kernel_rfl))).2
      have f24 : F.tmps.getD 24 undef = .bool false := (hF 24).trans (Eq.trans (by kernel_rfl) h8)
      have k6_5 := sep_ceAt (i := 6) hI rfl 5 rfl
      clear H hN hd hX hF
      refine on_guard rfl (by kernel_rfl) f24 ?_
      go_simp
      exact hK.out _ _ rfl trivial (by simpa [upB, upd] using hI)
    refine EachF.cons 16 rfl (fun dn xv W F hF hd hN hX hI H K hK => ?_) ?_
    · have h10 : xv 10 = .int .i64 peer := (H 10 (.edge (by kernel_rfl))).2
      have f26 : F.tmps.getD 26 undef = .int .i64 peer := (hF 26).trans (Eq.trans (by kernel_rfl) h10)
      have h14 : xv 14 = .int .i64 peer := (H 14 (.edge (by kernel_rfl))).2
      have f30 : F.tmps.getD 30 undef = .int .i64 peer := (hF 30).trans (Eq.trans (by kernel_rfl) h14)
      have h8 : xv 8 = .bool false := (H 8 (.edge (by kernel_rfl))).2
      have f24 : F.tmps.getD 24 undef = .bool false := (hF 24).trans (Eq.trans (by kernel_rfl) h8)
      clear H hN hd hX hF
      refine on_guard rfl (by kernel_rfl) f24 ?_
      go_simp
      exact hK.out _ _ rfl trivial (by simpa [upB, upd] using hI)
    refine EachF.cons 17 rfl (fun dn xv W F hF hd hN hX hI H K hK => ?_) ?_
    · have h8 : xv 8 = .bool false := (H 8 (.edge (by kernel_rfl))).2
      have f24 : F.tmps.getD 24 undef = .bool false := (hF 24).trans (Eq.trans (by kernel_rfl) h8)
      have h15 : xv 15 = .bool false := (H 15 (.edge (by kernel_rfl))).2
      have f31 : F.tmps.getD 31 undef = .bool false := (hF 31).trans (Eq.trans (by kernel_rfl) h15)
      clear H hN hd hX hF
      refine on_plain rfl ?_
      go_simp
      exact hK.out _ _ rfl trivial (by simpa [upB, upd] using hI)
    refine EachF.cons 18 rfl (fun dn xv W F hF hd hN hX hI H K hK => ?_) ?_
    · have h16 : xv 16 = .bool false := (H 16 (.edge (by kernel_rfl))).2
      have f32 : F.tmps.getD 32 undef = .bool false := (hF 32).trans (Eq.trans (by kernel_rfl) h16)
      clear H hN hd hX hF
      refine on_plain rfl ?_
      go_simp
      exact hK.out _ _ rfl trivial (by simpa [upB, upd] using hI)
    refine EachF.cons 19 rfl (fun dn xv W F hF hd hN hX hI H K hK => ?_) ?_
    · have f5 : F.tmps.getD 5 undef = .pointer (some ⟨w.heap.size + 1 + 1, 0, none⟩) := (hF 5).trans (by kernel_rfl)
      have h17 : xv 17 = .bool false := (H 17 (.edge (by kernel_rfl))).2
      have f33 : F.tmps.getD 33 undef = .bool false := (hF 33).trans (Eq.trans (by kernel_rfl) h17)
      clear H hN hd hX hF
      refine on_guard rfl (by kernel_rfl) f33 ?_
      go_simp
      exact hK.out _ _ rfl trivial (by simpa [upB, upd] using hI)
    refine EachF.cons 20 rfl (fun dn xv W F hF hd hN hX hI H K hK => ?_) ?_
    · have h18 : xv 18 = .pointer (some ⟨w.heap.size + 1 + 1, 2, none⟩) := (H 18 (.edge (by kernel_rfl))).2
      have f34 : F.tmps.getD 34 undef = .pointer (some ⟨w.heap.size + 1 + 1, 2, none⟩) := (hF 34).trans (Eq.trans (by kernel_rfl) h18)
      have h17 : xv 17 = .bool false := (H 17 (.edge (by kernel_rfl))).2
      have f33 : F.tmps.getD 33 undef = .bool false := (hF 33).trans (Eq.trans (by kernel_rfl) h17)
      have k3_2 := sep_ceAt (i := 3) hI rfl 2 rfl
      clear H hN hd hX hF
      refine on_guard rfl (by kernel_rfl) f33 ?_
      go_simp
      exact hK.out _ _ rfl trivial (by simpa [upB, upd] using hI)
    refine EachF.cons 21 rfl (fun dn xv W F hF hd hN hX hI H K hK => ?_) ?_
    · have f3 : F.tmps.getD 3 undef = .pointer (some ⟨w.heap.size, 0, none⟩) := (hF 3).trans (by kernel_rfl)
      have h17 : xv 17 = .bool false := (H 17 (.edge (by kernel_rfl))).2
      have f33 : F.tmps.getD 33 undef = .bool false := (hF 33).trans (Eq.trans (by kernel_rfl) h17)
      have k5_0 := sep_ceAt (i := 5) hI rfl 0 rfl
      clear H hN hd hX hF
      refine on_guard rfl (by kernel_rfl) f33 ?_
      go_simp
      exact hK.out _ _ rfl trivial (by simpa [upB, upd] using hI)
    refine EachF.cons 22 rfl (fun dn xv W F hF hd hN hX hI H K hK => ?_) ?_
    · have h20 : xv 20 = .pointer (some ⟨g, 0, none⟩) := (H 20 (.edge (by kernel_rfl))).2
      have f36 : F.tmps.getD 36 undef = .pointer (some ⟨g, 0, none⟩) := (hF 36).trans (Eq.trans (by kernel_rfl) h20)
      have h17 : xv 17 = .bool false := (H 17 (.edge (by kernel_rfl))).2
      have f33 : F.tmps.getD 33 undef = .bool false := (hF 33).trans (Eq.trans (by kernel_rfl) h17)
      clear H hN hd hX hF
      refine on_guard rfl (by kernel_rfl) f33 ?_
      go_simp
      exact hK.out _ _ rfl trivial (by simpa [upB, upd] using hI)
    refine EachF.cons 23 rfl (fun dn xv W F hF hd hN hX hI H K hK => ?_) ?_
    · have h21 : xv 21 = .pointer (some ⟨g, 0, none⟩) := (H 21 (.edge (by kernel_rfl))).2
      have f37 : F.tmps.getD 37 undef = .pointer (some ⟨g, 0, none⟩) := (hF 37).trans (Eq.trans (by kernel_rfl) h21)
      have h17 : xv 17 = .bool false := (H 17 (.edge (by kernel_rfl))).2
      have f33 : F.tmps.getD 33 undef = .bool false := (hF 33).trans (Eq.trans (by kernel_rfl) h17)
      clear H hN hd hX hF
      refine on_guard rfl (by kernel_rfl) f33 ?_
      go_simp
      exact hK.out _ _ rfl trivial (by simpa [upB, upd] using hI)
    refine EachF.cons 24 rfl (fun dn xv W F hF hd hN hX hI H K hK => ?_) ?_
    · have h22 : xv 22 = .pointer (some ⟨g, 3, none⟩) := (H 22 (.edge (by kernel_rfl))).2
      have f38 : F.tmps.getD 38 undef = .pointer (some ⟨g, 3, none⟩) := (hF 38).trans (Eq.trans (by kernel_rfl) h22)
      have h17 : xv 17 = .bool false := (H 17 (.edge (by kernel_rfl))).2
      have f33 : F.tmps.getD 33 undef = .bool false := (hF 33).trans (Eq.trans (by kernel_rfl) h17)
      clear H hN hd hX hF
      refine on_guard rfl (by kernel_rfl) f33 ?_
      go_simp
      exact hK.out _ _ rfl trivial (by simpa [upB, upd] using hI)
    refine EachF.cons 25 rfl (fun dn xv W F hF hd hN hX hI H K hK => ?_) ?_
    · have h23 : xv 23 = .pointer (some ⟨g, 3, none⟩) := (H 23 (.edge (by kernel_rfl))).2
      have f39 : F.tmps.getD 39 undef = .pointer (some ⟨g, 3, none⟩) := (hF 39).trans (Eq.trans (by kernel_rfl) h23)
      have h17 : xv 17 = .bool false := (H 17 (.edge (by kernel_rfl))).2
      have f33 : F.tmps.getD 33 undef = .bool false := (hF 33).trans (Eq.trans (by kernel_rfl) h17)
      have k6_3 := sep_ceAt (i := 6) hI rfl 3 rfl
      clear H hN hd hX hF
      refine on_guard rfl (by kernel_rfl) f33 ?_
      go_simp
      exact hK.out _ _ rfl trivial (by simpa [upB, upd] using hI)
    refine EachF.cons 26 rfl (fun dn xv W F hF hd hN hX hI H K hK => ?_) ?_
    · have h19 : xv 19 = .int .i64 sn := (H 19 (.edge (by kernel_rfl))).2
      have f35 : F.tmps.getD 35 undef = .int .i64 sn := (hF 35).trans (Eq.trans (by kernel_rfl) h19)
      have h24 : xv 24 = .int .i64 sn := (H 24 (.edge (by kernel_rfl))).2
      have f40 : F.tmps.getD 40 undef = .int .i64 sn := (hF 40).trans (Eq.trans (by kernel_rfl) h24)
      have h17 : xv 17 = .bool false := (H 17 (.edge (by kernel_rfl))).2
      have f33 : F.tmps.getD 33 undef = .bool false := (hF 33).trans (Eq.trans (by kernel_rfl) h17)
      clear H hN hd hX hF
      refine on_guard rfl (by kernel_rfl) f33 ?_
      go_simp
      exact hK.out _ _ rfl trivial (by simpa [upB, upd] using hI)
    refine EachF.cons 27 rfl (fun dn xv W F hF hd hN hX hI H K hK => ?_) ?_
    · have h17 : xv 17 = .bool false := (H 17 (.edge (by kernel_rfl))).2
      have f33 : F.tmps.getD 33 undef = .bool false := (hF 33).trans (Eq.trans (by kernel_rfl) h17)
      have h25 : xv 25 = .bool false := (H 25 (.edge (by kernel_rfl))).2
      have f41 : F.tmps.getD 41 undef = .bool false := (hF 41).trans (Eq.trans (by kernel_rfl) h25)
      clear H hN hd hX hF
      refine on_plain rfl ?_
      go_simp
      exact hK.out _ _ rfl trivial (by simpa [upB, upd] using hI)
    exact EachF.nil
  · intro dn xv W hI H
    have q26 : xv 26 = .bool false := (H 26 (of_decide_eq_true (by kernel_rfl))).2
    have hS : Sep w0 W (Rw 51 10 (.slice none 0 0) 0 [] :: Ce (w.heap.size + 1 + 1 + 1 + 1) 43 #[.slice none 0 0, .slice none 0 0] :: Ce (w.heap.size + 1 + 1 + 1) 43 #[.slice none 0 0, .slice none 0 0] :: Ce (w.heap.size + 1 + 1) 51 #[.int .i64 1, .int .i64 peer, .int .i64 sn, .int .u64 (finc : Int), .int .u64 (fconn : Int), .int .u64 (si : Int), .int .u64 (conn : Int), .int .u64 0, .int .u64 (seq : Int), .slice A body.length c] :: Ce (w.heap.size + 1) 28 #[.int .u64 (now : Int)] :: Ce w.heap.size 26 #[.pointer (some ⟨g, 0, none⟩)] :: Ce g 72 #[.int .u64 (base : Int), bx, .int .u64 (got : Int), .int .i64 sn, .int .u64 (si : Int), .int .i64 peer, .int .u64 (conn : Int), .int .u64 (inc : Int), .int .u64 (known : Int), .bool false, .int .u64 (heard : Int), .int .u64 (sent : Int)] :: Qs) := hI
    clear H hI
    simp only [putAll, Act.put, List.setIfInBounds_toArray, List.set_cons_zero, List.set_cons_succ, Nat.reduceAdd, q26]
    clear q26
    have HS2 := Lib.hid hS
    clear hS
    obtain ⟨W2, HW2⟩ : ∃ x, Hid (W = x) := ⟨_, Lib.hid rfl⟩
    rw [HW2.out] at HS2 ⊢
    go_wp2_with fail
    refine wp_region_f (fun dn xv W => Sep w0 W (Rw 51 10 (.slice none 0 0) 0 [] :: Ce (w.heap.size + 1 + 1 + 1 + 1) 43 #[.slice none 0 0, .slice none 0 0] :: Ce (w.heap.size + 1 + 1 + 1) 43 #[.slice none 0 0, .slice none 0 0] :: Ce (w.heap.size + 1 + 1) 51 #[.int .i64 1, .int .i64 peer, .int .i64 sn, .int .u64 (finc : Int), .int .u64 (fconn : Int), .int .u64 (si : Int), .int .u64 (conn : Int), .int .u64 0, .int .u64 (seq : Int), .slice A body.length c] :: Ce (w.heap.size + 1) 28 #[.int .u64 (now : Int)] :: Ce w.heap.size 26 #[.pointer (some ⟨g, 0, none⟩)] :: Ce g 72 #[.int .u64 (base : Int), bx, .int .u64 (got : Int), .int .i64 sn, .int .u64 (si : Int), .int .i64 peer, .int .u64 (conn : Int), .int .u64 (inc : Int), .int .u64 (known : Int), .bool false, .int .u64 (heard : Int), .int .u64 (sent : Int)] :: Qs)) (fun _ _ => True) [fun v _ => v = .pointer (some ⟨w.heap.size + 1 + 1, 3, none⟩), fun v _ => v = .int .u64 (finc : Int), fun v _ => v = .pointer (some ⟨g, 0, none⟩), fun v _ => v = .pointer (some ⟨g, 0, none⟩), fun v _ => v = .pointer (some ⟨g, 7, none⟩), fun v _ => v = .int .u64 (inc : Int), fun v _ => v = .bool false, fun v _ => v = .bool false, fun v _ => v = .pointer (some ⟨w.heap.size + 1 + 1, 3, none⟩), fun v _ => v = .int .u64 (finc : Int), fun v _ => v = .pointer (some ⟨g, 0, none⟩), fun v _ => v = .pointer (some ⟨g, 0, none⟩), fun v _ => v = .pointer (some ⟨g, 7, none⟩), fun v _ => v = .int .u64 (inc : Int), fun v _ => v = .bool false, fun v _ => v = .bool false, fun v _ => v = undef, fun v _ => v = undef, fun v _ => v = undef, fun v _ => v = undef, fun v _ => v = undef, fun v _ => v = undef, fun v _ => v = undef, fun v _ => v = .bool false, fun v _ => v = .bool false] (by kernel_rfl) (by kernel_rfl) (by kernel_rfl) (by kernel_rfl) (fun xv => by simpa using HS2.out.drew)
      (by exact ⟨fun _ _ _ _ h => h, fun _ _ _ _ h => h, fun _ _ _ _ h => h, fun _ _ _ _ h => h, fun _ _ _ _ h => h, fun _ _ _ _ h => h, fun _ _ _ _ h => h, fun _ _ _ _ h => h, fun _ _ _ _ h => h, fun _ _ _ _ h => h, fun _ _ _ _ h => h, fun _ _ _ _ h => h, fun _ _ _ _ h => h, fun _ _ _ _ h => h, fun _ _ _ _ h => h, fun _ _ _ _ h => h, fun _ _ _ _ h => h, fun _ _ _ _ h => h, fun _ _ _ _ h => h, fun _ _ _ _ h => h, fun _ _ _ _ h => h, fun _ _ _ _ h => h, fun _ _ _ _ h => h, fun _ _ _ _ h => h, fun _ _ _ _ h => h, trivial⟩) ?_ ?_
    · refine EachF.cons 1 rfl (fun dn xv W F hF hd hN hX hI H K hK => ?_) ?_
      · have f5 : F.tmps.getD 5 undef = .pointer (some ⟨w.heap.size + 1 + 1, 0, none⟩) := (hF 5).trans (by kernel_rfl)
        clear H hN hd hX hF
        refine on_plain rfl ?_
        go_simp
        exact hK.out _ _ rfl trivial (by simpa [upB, upd] using hI)
      refine EachF.cons 2 rfl (fun dn xv W F hF hd hN hX hI H K hK => ?_) ?_
      · have h0 : xv 0 = .pointer (some ⟨w.heap.size + 1 + 1, 3, none⟩) := (H 0 (.edge (by kernel_rfl))).2
        have f44 : F.tmps.getD 44 undef = .pointer (some ⟨w.heap.size + 1 + 1, 3, none⟩) := (hF 44).trans (Eq.trans (by kernel_rfl) h0)
        have k3_3 := sep_ceAt (i := 3) hI rfl 3 rfl
        clear H hN hd hX hF
        refine on_plain rfl ?_
        go_simp
        exact hK.out _ _ rfl trivial (by simpa [upB, upd] using hI)
      refine EachF.cons 3 rfl (fun dn xv W F hF hd hN hX hI H K hK => ?_) ?_
      · have f3 : F.tmps.getD 3 undef = .pointer (some ⟨w.heap.size, 0, none⟩) := (hF 3).trans (by kernel_rfl)
        have k5_0 := sep_ceAt (i := 5) hI rfl 0 rfl
        clear H hN hd hX hF
        refine on_plain rfl ?_
        go_simp
        exact hK.out _ _ rfl trivial (by simpa [upB, upd] using hI)
      refine EachF.cons 4 rfl (fun dn xv W F hF hd hN hX hI H K hK => ?_) ?_
      · have h2 : xv 2 = .pointer (some ⟨g, 0, none⟩) := (H 2 (.edge (by kernel_rfl))).2
        have f46 : F.tmps.getD 46 undef = .pointer (some ⟨g, 0, none⟩) := (hF 46).trans (Eq.trans (by kernel_rfl) h2)
        clear H hN hd hX hF
        refine on_plain rfl ?_
        go_simp
        exact hK.out _ _ rfl trivial (by simpa [upB, upd] using hI)
      refine EachF.cons 5 rfl (fun dn xv W F hF hd hN hX hI H K hK => ?_) ?_
      · have h3 : xv 3 = .pointer (some ⟨g, 0, none⟩) := (H 3 (.edge (by kernel_rfl))).2
        have f47 : F.tmps.getD 47 undef = .pointer (some ⟨g, 0, none⟩) := (hF 47).trans (Eq.trans (by kernel_rfl) h3)
        clear H hN hd hX hF
        refine on_plain rfl ?_
        go_simp
        exact hK.out _ _ rfl trivial (by simpa [upB, upd] using hI)
      refine EachF.cons 6 rfl (fun dn xv W F hF hd hN hX hI H K hK => ?_) ?_
      · have h4 : xv 4 = .pointer (some ⟨g, 7, none⟩) := (H 4 (.edge (by kernel_rfl))).2
        have f48 : F.tmps.getD 48 undef = .pointer (some ⟨g, 7, none⟩) := (hF 48).trans (Eq.trans (by kernel_rfl) h4)
        have k6_7 := sep_ceAt (i := 6) hI rfl 7 rfl
        clear H hN hd hX hF
        refine on_plain rfl ?_
        go_simp
        exact hK.out _ _ rfl trivial (by simpa [upB, upd] using hI)
      refine EachF.cons 7 rfl (fun dn xv W F hF hd hN hX hI H K hK => ?_) ?_
      · have h1 : xv 1 = .int .u64 (finc : Int) := (H 1 (.edge (by kernel_rfl))).2
        have f45 : F.tmps.getD 45 undef = .int .u64 (finc : Int) := (hF 45).trans (Eq.trans (by kernel_rfl) h1)
        have h5 : xv 5 = .int .u64 (inc : Int) := (H 5 (.edge (by kernel_rfl))).2
        have f49 : F.tmps.getD 49 undef = .int .u64 (inc : Int) := (hF 49).trans (Eq.trans (by kernel_rfl) h5)
        clear H hN hd hX hF
        refine on_plain rfl ?_
        go_simp
        exact hK.out _ _ rfl trivial (by simpa [upB, upd] using hI)
      refine EachF.cons 8 rfl (fun dn xv W F hF hd hN hX hI H K hK => ?_) ?_
      · have h6 : xv 6 = .bool false := (H 6 (.edge (by kernel_rfl))).2
        have f50 : F.tmps.getD 50 undef = .bool false := (hF 50).trans (Eq.trans (by kernel_rfl) h6)
        clear H hN hd hX hF
        refine on_plain rfl ?_
        go_simp
        exact hK.out _ _ rfl trivial (by simpa [upB, upd] using hI)
      refine EachF.cons 9 rfl (fun dn xv W F hF hd hN hX hI H K hK => ?_) ?_
      · have f5 : F.tmps.getD 5 undef = .pointer (some ⟨w.heap.size + 1 + 1, 0, none⟩) := (hF 5).trans (by kernel_rfl)
        have h7 : xv 7 = .bool false := (H 7 (.edge (by kernel_rfl))).2
        have f51 : F.tmps.getD 51 undef = .bool false := (hF 51).trans (Eq.trans (by kernel_rfl) h7)
        clear H hN hd hX hF
        refine on_guard rfl (by kernel_rfl) f51 ?_
        go_simp
        exact hK.out _ _ rfl trivial (by simpa [upB, upd] using hI)
      refine EachF.cons 10 rfl (fun dn xv W F hF hd hN hX hI H K hK => ?_) ?_
      · have h8 : xv 8 = .pointer (some ⟨w.heap.size + 1 + 1, 3, none⟩) := (H 8 (.edge (by kernel_rfl))).2
        have f52 : F.tmps.getD 52 undef = .pointer (some ⟨w.heap.size + 1 + 1, 3, none⟩) := (hF 52).trans (Eq.trans (by kernel_rfl) h8)
        have h7 : xv 7 = .bool false := (H 7 (.edge (by kernel_rfl))).2
        have f51 : F.tmps.getD 51 undef = .bool false := (hF 51).trans (Eq.trans (by kernel_rfl) h7)
        have k3_3 := sep_ceAt (i := 3) hI rfl 3 rfl
        clear H hN hd hX hF
        refine on_guard rfl (by kernel_rfl) f51 ?_
        go_simp
        exact hK.out _ _ rfl trivial (by simpa [upB, upd] using hI)
      refine EachF.cons 11 rfl (fun dn xv W F hF hd hN hX hI H K hK => ?_) ?_
      · have f3 : F.tmps.getD 3 undef = .pointer (some ⟨w.heap.size, 0, none⟩) := (hF 3).trans (by kernel_rfl)
        have h7 : xv 7 = .bool false := (H 7 (.edge (by kernel_rfl))).2
        have f51 : F.tmps.getD 51 undef = .bool false := (hF 51).trans (Eq.trans (by kernel_rfl) h7)
        have k5_0 := sep_ceAt (i := 5) hI rfl 0 rfl
        clear H hN hd hX hF
        refine on_guard rfl (by kernel_rfl) f51 ?_
        go_simp
        exact hK.out _ _ rfl trivial (by simpa [upB, upd] using hI)
      refine EachF.cons 12 rfl (fun dn xv W F hF hd hN hX hI H K hK => ?_) ?_
      · have h10 : xv 10 = .pointer (some ⟨g, 0, none⟩) := (H 10 (.edge (by kernel_rfl))).2
        have f54 : F.tmps.getD 54 undef = .pointer (some ⟨g, 0, none⟩) := (hF 54).trans (Eq.trans (by kernel_rfl) h10)
        have h7 : xv 7 = .bool false := (H 7 (.edge (by kernel_rfl))).2
        have f51 : F.tmps.getD 51 undef = .bool false := (hF 51).trans (Eq.trans (by kernel_rfl) h7)
        clear H hN hd hX hF
        refine on_guard rfl (by kernel_rfl) f51 ?_
        go_simp
        exact hK.out _ _ rfl trivial (by simpa [upB, upd] using hI)
      refine EachF.cons 13 rfl (fun dn xv W F hF hd hN hX hI H K hK => ?_) ?_
      · have h11 : xv 11 = .pointer (some ⟨g, 0, none⟩) := (H 11 (.edge (by kernel_rfl))).2
        have f55 : F.tmps.getD 55 undef = .pointer (some ⟨g, 0, none⟩) := (hF 55).trans (Eq.trans (by kernel_rfl) h11)
        have h7 : xv 7 = .bool false := (H 7 (.edge (by kernel_rfl))).2
        have f51 : F.tmps.getD 51 undef = .bool false := (hF 51).trans (Eq.trans (by kernel_rfl) h7)
        clear H hN hd hX hF
        refine on_guard rfl (by kernel_rfl) f51 ?_
        go_simp
        exact hK.out _ _ rfl trivial (by simpa [upB, upd] using hI)
      refine EachF.cons 14 rfl (fun dn xv W F hF hd hN hX hI H K hK => ?_) ?_
      · have h12 : xv 12 = .pointer (some ⟨g, 7, none⟩) := (H 12 (.edge (by kernel_rfl))).2
        have f56 : F.tmps.getD 56 undef = .pointer (some ⟨g, 7, none⟩) := (hF 56).trans (Eq.trans (by kernel_rfl) h12)
        have h7 : xv 7 = .bool false := (H 7 (.edge (by kernel_rfl))).2
        have f51 : F.tmps.getD 51 undef = .bool false := (hF 51).trans (Eq.trans (by kernel_rfl) h7)
        have k6_7 := sep_ceAt (i := 6) hI rfl 7 rfl
        clear H hN hd hX hF
        refine on_guard rfl (by kernel_rfl) f51 ?_
        go_simp
        exact hK.out _ _ rfl trivial (by simpa [upB, upd] using hI)
      refine EachF.cons 15 rfl (fun dn xv W F hF hd hN hX hI H K hK => ?_) ?_
      · have h9 : xv 9 = .int .u64 (finc : Int) := (H 9 (.edge (by kernel_rfl))).2
        have f53 : F.tmps.getD 53 undef = .int .u64 (finc : Int) := (hF 53).trans (Eq.trans (by kernel_rfl) h9)
        have h13 : xv 13 = .int .u64 (inc : Int) := (H 13 (.edge (by kernel_rfl))).2
        have f57 : F.tmps.getD 57 undef = .int .u64 (inc : Int) := (hF 57).trans (Eq.trans (by kernel_rfl) h13)
        have h7 : xv 7 = .bool false := (H 7 (.edge (by kernel_rfl))).2
        have f51 : F.tmps.getD 51 undef = .bool false := (hF 51).trans (Eq.trans (by kernel_rfl) h7)
        clear H hN hd hX hF
        refine on_guard rfl (by kernel_rfl) f51 ?_
        go_simp
        exact hK.out _ _ rfl trivial (by simpa [upB, upd] using hI)
      refine EachF.cons 16 rfl (fun dn xv W F hF hd hN hX hI H K hK => ?_) ?_
      · have h14 : xv 14 = .bool false := (H 14 (.edge (by kernel_rfl))).2
        have f58 : F.tmps.getD 58 undef = .bool false := (hF 58).trans (Eq.trans (by kernel_rfl) h14)
        have h7 : xv 7 = .bool false := (H 7 (.edge (by kernel_rfl))).2
        have f51 : F.tmps.getD 51 undef = .bool false := (hF 51).trans (Eq.trans (by kernel_rfl) h7)
        clear H hN hd hX hF
        refine on_guard rfl (by kernel_rfl) f51 ?_
        go_simp
        exact hK.out _ _ rfl trivial (by simpa [upB, upd] using hI)
      refine EachF.cons 17 rfl (fun dn xv W F hF hd hN hX hI H K hK => ?_) ?_
      · have h15 : xv 15 = .bool false := (H 15 (.edge (by kernel_rfl))).2
        have f59 : F.tmps.getD 59 undef = .bool false := (hF 59).trans (Eq.trans (by kernel_rfl) h15)
        clear H hN hd hX hF
        refine off_guard rfl (by kernel_rfl) f59 (by decide) ?_
        exact hK.out _ _ rfl trivial (by simpa [upB, upd] using hI)
      refine EachF.cons 18 rfl (fun dn xv W F hF hd hN hX hI H K hK => ?_) ?_
      · have h15 : xv 15 = .bool false := (H 15 (.edge (by kernel_rfl))).2
        have f59 : F.tmps.getD 59 undef = .bool false := (hF 59).trans (Eq.trans (by kernel_rfl) h15)
        have k3_4 := sep_ceAt (i := 3) hI rfl 4 rfl
        clear H hN hd hX hF
        refine off_guard rfl (by kernel_rfl) f59 (by decide) ?_
        exact hK.out _ _ rfl trivial (by simpa [upB, upd] using hI)
      refine EachF.cons 19 rfl (fun dn xv W F hF hd hN hX hI H K hK => ?_) ?_
      · have h15 : xv 15 = .bool false := (H 15 (.edge (by kernel_rfl))).2
        have f59 : F.tmps.getD 59 undef = .bool false := (hF 59).trans (Eq.trans (by kernel_rfl) h15)
        have k5_0 := sep_ceAt (i := 5) hI rfl 0 rfl
        clear H hN hd hX hF
        refine off_guard rfl (by kernel_rfl) f59 (by decide) ?_
        exact hK.out _ _ rfl trivial (by simpa [upB, upd] using hI)
      refine EachF.cons 20 rfl (fun dn xv W F hF hd hN hX hI H K hK => ?_) ?_
      · have h15 : xv 15 = .bool false := (H 15 (.edge (by kernel_rfl))).2
        have f59 : F.tmps.getD 59 undef = .bool false := (hF 59).trans (Eq.trans (by kernel_rfl) h15)
        clear H hN hd hX hF
        refine off_guard rfl (by kernel_rfl) f59 (by decide) ?_
        exact hK.out _ _ rfl trivial (by simpa [upB, upd] using hI)
      refine EachF.cons 21 rfl (fun dn xv W F hF hd hN hX hI H K hK => ?_) ?_
      · have h15 : xv 15 = .bool false := (H 15 (.edge (by kernel_rfl))).2
        have f59 : F.tmps.getD 59 undef = .bool false := (hF 59).trans (Eq.trans (by kernel_rfl) h15)
        clear H hN hd hX hF
        refine off_guard rfl (by kernel_rfl) f59 (by decide) ?_
        exact hK.out _ _ rfl trivial (by simpa [upB, upd] using hI)
      refine EachF.cons 22 rfl (fun dn xv W F hF hd hN hX hI H K hK => ?_) ?_
      · have h15 : xv 15 = .bool false := (H 15 (.edge (by kernel_rfl))).2
        have f59 : F.tmps.getD 59 undef = .bool false := (hF 59).trans (Eq.trans (by kernel_rfl) h15)
        have k6_8 := sep_ceAt (i := 6) hI rfl 8 rfl
        clear H hN hd hX hF
        refine off_guard rfl (by kernel_rfl) f59 (by decide) ?_
        exact hK.out _ _ rfl trivial (by simpa [upB, upd] using hI)
      refine EachF.cons 23 rfl (fun dn xv W F hF hd hN hX hI H K hK => ?_) ?_
      · have h15 : xv 15 = .bool false := (H 15 (.edge (by kernel_rfl))).2
        have f59 : F.tmps.getD 59 undef = .bool false := (hF 59).trans (Eq.trans (by kernel_rfl) h15)
        clear H hN hd hX hF
        refine off_guard rfl (by kernel_rfl) f59 (by decide) ?_
        exact hK.out _ _ rfl trivial (by simpa [upB, upd] using hI)
      refine EachF.cons 24 rfl (fun dn xv W F hF hd hN hX hI H K hK => ?_) ?_
      · have h15 : xv 15 = .bool false := (H 15 (.edge (by kernel_rfl))).2
        have f59 : F.tmps.getD 59 undef = .bool false := (hF 59).trans (Eq.trans (by kernel_rfl) h15)
        have h22 : xv 22 = undef := (H 22 (.edge (by kernel_rfl))).2
        have f66 : F.tmps.getD 66 undef = undef := (hF 66).trans (Eq.trans (by kernel_rfl) h22)
        have h7 : xv 7 = .bool false := (H 7 (.edge (by kernel_rfl))).2
        have f51 : F.tmps.getD 51 undef = .bool false := (hF 51).trans (Eq.trans (by kernel_rfl) h7)
        clear H hN hd hX hF
        refine on_guard rfl (by kernel_rfl) f51 ?_
        go_simp
        exact hK.out _ _ rfl trivial (by simpa [upB, upd] using hI)
      refine EachF.cons 25 rfl (fun dn xv W F hF hd hN hX hI H K hK => ?_) ?_
      · have h7 : xv 7 = .bool false := (H 7 (.edge (by kernel_rfl))).2
        have f51 : F.tmps.getD 51 undef = .bool false := (hF 51).trans (Eq.trans (by kernel_rfl) h7)
        have h23 : xv 23 = .bool false := (H 23 (.edge (by kernel_rfl))).2
        have f67 : F.tmps.getD 67 undef = .bool false := (hF 67).trans (Eq.trans (by kernel_rfl) h23)
        clear H hN hd hX hF
        refine on_plain rfl ?_
        go_simp
        exact hK.out _ _ rfl trivial (by simpa [upB, upd] using hI)
      exact EachF.nil
    · intro dn xv W hI H
      have q24 : xv 24 = .bool false := (H 24 (of_decide_eq_true (by kernel_rfl))).2
      have hS : Sep w0 W (Rw 51 10 (.slice none 0 0) 0 [] :: Ce (w.heap.size + 1 + 1 + 1 + 1) 43 #[.slice none 0 0, .slice none 0 0] :: Ce (w.heap.size + 1 + 1 + 1) 43 #[.slice none 0 0, .slice none 0 0] :: Ce (w.heap.size + 1 + 1) 51 #[.int .i64 1, .int .i64 peer, .int .i64 sn, .int .u64 (finc : Int), .int .u64 (fconn : Int), .int .u64 (si : Int), .int .u64 (conn : Int), .int .u64 0, .int .u64 (seq : Int), .slice A body.length c] :: Ce (w.heap.size + 1) 28 #[.int .u64 (now : Int)] :: Ce w.heap.size 26 #[.pointer (some ⟨g, 0, none⟩)] :: Ce g 72 #[.int .u64 (base : Int), bx, .int .u64 (got : Int), .int .i64 sn, .int .u64 (si : Int), .int .i64 peer, .int .u64 (conn : Int), .int .u64 (inc : Int), .int .u64 (known : Int), .bool false, .int .u64 (heard : Int), .int .u64 (sent : Int)] :: Qs) := hI
      clear H hI
      simp only [putAll, Act.put, List.setIfInBounds_toArray, List.set_cons_zero, List.set_cons_succ, Nat.reduceAdd, q24]
      clear q24
      have HS4 := Lib.hid hS
      clear hS
      have kl := sep_ceAt (i := 5) HS4.out rfl 0 rfl
      obtain ⟨W4, HW4⟩ : ∃ x, Hid (W = x) := ⟨_, Lib.hid rfl⟩
      rw [HW4.out] at HS4 kl ⊢
      go_wp2_with fail
      clear kl
      refine (teller_any W4 g (w.heap.size + 1 + 1 + 1 + 1)).mono ?_
      rintro e W5 ⟨rfl, rfl⟩
      have HS4' : Hid (Sep w0 ((W4.alloc (.cells #[.pointer (some ⟨g, 0, none⟩)] 26)).alloc (.cells #[.pointer (some ⟨w.heap.size + 1 + 1 + 1 + 1, 0, none⟩)] 92)) (Rw 51 10 (.slice none 0 0) 0 [] :: Ce (w.heap.size + 1 + 1 + 1 + 1) 43 #[.slice none 0 0, .slice none 0 0] :: Ce (w.heap.size + 1 + 1 + 1) 43 #[.slice none 0 0, .slice none 0 0] :: Ce (w.heap.size + 1 + 1) 51 #[.int .i64 1, .int .i64 peer, .int .i64 sn, .int .u64 (finc : Int), .int .u64 (fconn : Int), .int .u64 (si : Int), .int .u64 (conn : Int), .int .u64 0, .int .u64 (seq : Int), .slice A body.length c] :: Ce (w.heap.size + 1) 28 #[.int .u64 (now : Int)] :: Ce w.heap.size 26 #[.pointer (some ⟨g, 0, none⟩)] :: Ce g 72 #[.int .u64 (base : Int), bx, .int .u64 (got : Int), .int .i64 sn, .int .u64 (si : Int), .int .i64 peer, .int .u64 (conn : Int), .int .u64 (inc : Int), .int .u64 (known : Int), .bool false, .int .u64 (heard : Int), .int .u64 (sent : Int)] :: (Ce (W4.heap.size + 1) 92 #[.pointer (some ⟨w.heap.size + 1 + 1 + 1 + 1, 0, none⟩)] :: Ce W4.heap.size 26 #[.pointer (some ⟨g, 0, none⟩)] :: Qs))) := Lib.hid (by
        have hx := sep_ceF (sep_ceF HS4.out #[.pointer (some ⟨g, 0, none⟩)] 26) #[.pointer (some ⟨w.heap.size + 1 + 1 + 1 + 1, 0, none⟩)] 92
        rw [World.size_alloc] at hx
        exact ((((((hx.toFront 8 rfl).toFront 8 rfl).toFront 8 rfl).toFront 8 rfl).toFront 8 rfl).toFront 8 rfl).toFront 8 rfl)
      have HS4 := HS4'
      clear HS4'
      obtain ⟨Qz, HQz⟩ : ∃ Q, Hid ((Ce (W4.heap.size + 1) 92 #[.pointer (some ⟨w.heap.size + 1 + 1 + 1 + 1, 0, none⟩)] :: Ce W4.heap.size 26 #[.pointer (some ⟨g, 0, none⟩)] :: Qs) = Q) := ⟨_, Lib.hid rfl⟩
      rw [HQz.out] at HS4
      go_wp2_with fail
      refine wp_region_f (fun dn xv W => Sep w0 W (Rw 51 10 (.slice none 0 0) 0 [] :: Ce (w.heap.size + 1 + 1 + 1 + 1) 43 #[.slice none 0 0, .slice none 0 0] :: Ce (w.heap.size + 1 + 1 + 1) 43 #[.slice none 0 0, .slice none 0 0] :: Ce (w.heap.size + 1 + 1) 51 #[.int .i64 1, .int .i64 peer, .int .i64 sn, .int .u64 (finc : Int), .int .u64 (fconn : Int), .int .u64 (si : Int), .int .u64 (conn : Int), .int .u64 0, .int .u64 (seq : Int), .slice A body.length c] :: Ce (w.heap.size + 1) 28 #[.int .u64 (now : Int)] :: Ce w.heap.size 26 #[.pointer (some ⟨g, 0, none⟩)] :: Ce g 72 #[.int .u64 (base : Int), bx, .int .u64 (got : Int), .int .i64 sn, .int .u64 (si : Int), .int .i64 peer, .int .u64 (conn : Int), .int .u64 (inc : Int), .int .u64 (known : Int), .bool false, .int .u64 (heard : Int), .int .u64 (sent : Int)] :: Qz)) (fun _ _ => True) [fun v _ => v = .pointer (some ⟨w.heap.size + 1 + 1, 3, none⟩), fun v _ => v = .int .u64 (finc : Int), fun v _ => v = .pointer (some ⟨g, 0, none⟩), fun v _ => v = .pointer (some ⟨g, 0, none⟩), fun v _ => v = .pointer (some ⟨g, 7, none⟩), fun v _ => v = .int .u64 (inc : Int), fun v _ => v = .bool true, fun v _ => v = .bool true, fun v _ => v = undef, fun v _ => v = undef, fun v _ => v = undef, fun v _ => v = undef, fun v _ => v = undef, fun v _ => v = undef, fun v _ => v = undef, fun v _ => v = .bool true] (by kernel_rfl) (by kernel_rfl) (by kernel_rfl) (by kernel_rfl) (fun xv => by simpa using HS4.out.drew)
        (by exact ⟨fun _ _ _ _ h => h, fun _ _ _ _ h => h, fun _ _ _ _ h => h, fun _ _ _ _ h => h, fun _ _ _ _ h => h, fun _ _ _ _ h => h, fun _ _ _ _ h => h, fun _ _ _ _ h => h, fun _ _ _ _ h => h, fun _ _ _ _ h => h, fun _ _ _ _ h => h, fun _ _ _ _ h => h, fun _ _ _ _ h => h, fun _ _ _ _ h => h, fun _ _ _ _ h => h, fun _ _ _ _ h => h, trivial⟩) ?_ ?_
      · refine EachF.cons 1 rfl (fun dn xv W F hF hd hN hX hI H K hK => ?_) ?_
        · have f5 : F.tmps.getD 5 undef = .pointer (some ⟨w.heap.size + 1 + 1, 0, none⟩) := (hF 5).trans (by kernel_rfl)
          clear H hN hd hX hF
          refine on_plain rfl ?_
          go_simp
          exact hK.out _ _ rfl trivial (by simpa [upB, upd] using hI)
        refine EachF.cons 2 rfl (fun dn xv W F hF hd hN hX hI H K hK => ?_) ?_
        · have h0 : xv 0 = .pointer (some ⟨w.heap.size + 1 + 1, 3, none⟩) := (H 0 (.edge (by kernel_rfl))).2
          have f72 : F.tmps.getD 72 undef = .pointer (some ⟨w.heap.size + 1 + 1, 3, none⟩) := (hF 72).trans (Eq.trans (by kernel_rfl) h0)
          have k3_3 := sep_ceAt (i := 3) hI rfl 3 rfl
          clear H hN hd hX hF
          refine on_plain rfl ?_
          go_simp
          exact hK.out _ _ rfl trivial (by simpa [upB, upd] using hI)
        refine EachF.cons 3 rfl (fun dn xv W F hF hd hN hX hI H K hK => ?_) ?_
        · have f3 : F.tmps.getD 3 undef = .pointer (some ⟨w.heap.size, 0, none⟩) := (hF 3).trans (by kernel_rfl)
          have k5_0 := sep_ceAt (i := 5) hI rfl 0 rfl
          clear H hN hd hX hF
          refine on_plain rfl ?_
          go_simp
          exact hK.out _ _ rfl trivial (by simpa [upB, upd] using hI)
        refine EachF.cons 4 rfl (fun dn xv W F hF hd hN hX hI H K hK => ?_) ?_
        · have h2 : xv 2 = .pointer (some ⟨g, 0, none⟩) := (H 2 (.edge (by kernel_rfl))).2
          have f74 : F.tmps.getD 74 undef = .pointer (some ⟨g, 0, none⟩) := (hF 74).trans (Eq.trans (by kernel_rfl) h2)
          clear H hN hd hX hF
          refine on_plain rfl ?_
          go_simp
          exact hK.out _ _ rfl trivial (by simpa [upB, upd] using hI)
        refine EachF.cons 5 rfl (fun dn xv W F hF hd hN hX hI H K hK => ?_) ?_
        · have h3 : xv 3 = .pointer (some ⟨g, 0, none⟩) := (H 3 (.edge (by kernel_rfl))).2
          have f75 : F.tmps.getD 75 undef = .pointer (some ⟨g, 0, none⟩) := (hF 75).trans (Eq.trans (by kernel_rfl) h3)
          clear H hN hd hX hF
          refine on_plain rfl ?_
          go_simp
          exact hK.out _ _ rfl trivial (by simpa [upB, upd] using hI)
        refine EachF.cons 6 rfl (fun dn xv W F hF hd hN hX hI H K hK => ?_) ?_
        · have h4 : xv 4 = .pointer (some ⟨g, 7, none⟩) := (H 4 (.edge (by kernel_rfl))).2
          have f76 : F.tmps.getD 76 undef = .pointer (some ⟨g, 7, none⟩) := (hF 76).trans (Eq.trans (by kernel_rfl) h4)
          have k6_7 := sep_ceAt (i := 6) hI rfl 7 rfl
          clear H hN hd hX hF
          refine on_plain rfl ?_
          go_simp
          exact hK.out _ _ rfl trivial (by simpa [upB, upd] using hI)
        refine EachF.cons 7 rfl (fun dn xv W F hF hd hN hX hI H K hK => ?_) ?_
        · have h1 : xv 1 = .int .u64 (finc : Int) := (H 1 (.edge (by kernel_rfl))).2
          have f73 : F.tmps.getD 73 undef = .int .u64 (finc : Int) := (hF 73).trans (Eq.trans (by kernel_rfl) h1)
          have h5 : xv 5 = .int .u64 (inc : Int) := (H 5 (.edge (by kernel_rfl))).2
          have f77 : F.tmps.getD 77 undef = .int .u64 (inc : Int) := (hF 77).trans (Eq.trans (by kernel_rfl) h5)
          clear H hN hd hX hF
          refine on_plain rfl ?_
          go_simp
          exact hK.out _ _ rfl trivial (by simpa [upB, upd] using hI)
        refine EachF.cons 8 rfl (fun dn xv W F hF hd hN hX hI H K hK => ?_) ?_
        · have h6 : xv 6 = .bool true := (H 6 (.edge (by kernel_rfl))).2
          have f78 : F.tmps.getD 78 undef = .bool true := (hF 78).trans (Eq.trans (by kernel_rfl) h6)
          clear H hN hd hX hF
          refine on_plain rfl ?_
          go_simp
          exact hK.out _ _ rfl trivial (by simpa [upB, upd] using hI)
        refine EachF.cons 9 rfl (fun dn xv W F hF hd hN hX hI H K hK => ?_) ?_
        · have h7 : xv 7 = .bool true := (H 7 (.edge (by kernel_rfl))).2
          have f79 : F.tmps.getD 79 undef = .bool true := (hF 79).trans (Eq.trans (by kernel_rfl) h7)
          clear H hN hd hX hF
          refine off_guard rfl (by kernel_rfl) f79 (by decide) ?_
          exact hK.out _ _ rfl trivial (by simpa [upB, upd] using hI)
        refine EachF.cons 10 rfl (fun dn xv W F hF hd hN hX hI H K hK => ?_) ?_
        · have h7 : xv 7 = .bool true := (H 7 (.edge (by kernel_rfl))).2
          have f79 : F.tmps.getD 79 undef = .bool true := (hF 79).trans (Eq.trans (by kernel_rfl) h7)
          have k3_4 := sep_ceAt (i := 3) hI rfl 4 rfl
          clear H hN hd hX hF
          refine off_guard rfl (by kernel_rfl) f79 (by decide) ?_
          exact hK.out _ _ rfl trivial (by simpa [upB, upd] using hI)
        refine EachF.cons 11 rfl (fun dn xv W F hF hd hN hX hI H K hK => ?_) ?_
        · have h7 : xv 7 = .bool true := (H 7 (.edge (by kernel_rfl))).2
          have f79 : F.tmps.getD 79 undef = .bool true := (hF 79).trans (Eq.trans (by kernel_rfl) h7)
          have k5_0 := sep_ceAt (i := 5) hI rfl 0 rfl
          clear H hN hd hX hF
          refine off_guard rfl (by kernel_rfl) f79 (by decide) ?_
          exact hK.out _ _ rfl trivial (by simpa [upB, upd] using hI)
        refine EachF.cons 12 rfl (fun dn xv W F hF hd hN hX hI H K hK => ?_) ?_
        · have h7 : xv 7 = .bool true := (H 7 (.edge (by kernel_rfl))).2
          have f79 : F.tmps.getD 79 undef = .bool true := (hF 79).trans (Eq.trans (by kernel_rfl) h7)
          clear H hN hd hX hF
          refine off_guard rfl (by kernel_rfl) f79 (by decide) ?_
          exact hK.out _ _ rfl trivial (by simpa [upB, upd] using hI)
        refine EachF.cons 13 rfl (fun dn xv W F hF hd hN hX hI H K hK => ?_) ?_
        · have h7 : xv 7 = .bool true := (H 7 (.edge (by kernel_rfl))).2
          have f79 : F.tmps.getD 79 undef = .bool true := (hF 79).trans (Eq.trans (by kernel_rfl) h7)
          clear H hN hd hX hF
          refine off_guard rfl (by kernel_rfl) f79 (by decide) ?_
          exact hK.out _ _ rfl trivial (by simpa [upB, upd] using hI)
        refine EachF.cons 14 rfl (fun dn xv W F hF hd hN hX hI H K hK => ?_) ?_
        · have h7 : xv 7 = .bool true := (H 7 (.edge (by kernel_rfl))).2
          have f79 : F.tmps.getD 79 undef = .bool true := (hF 79).trans (Eq.trans (by kernel_rfl) h7)
          have k6_8 := sep_ceAt (i := 6) hI rfl 8 rfl
          clear H hN hd hX hF
          refine off_guard rfl (by kernel_rfl) f79 (by decide) ?_
          exact hK.out _ _ rfl trivial (by simpa [upB, upd] using hI)
        refine EachF.cons 15 rfl (fun dn xv W F hF hd hN hX hI H K hK => ?_) ?_
        · have h7 : xv 7 = .bool true := (H 7 (.edge (by kernel_rfl))).2
          have f79 : F.tmps.getD 79 undef = .bool true := (hF 79).trans (Eq.trans (by kernel_rfl) h7)
          clear H hN hd hX hF
          refine off_guard rfl (by kernel_rfl) f79 (by decide) ?_
          exact hK.out _ _ rfl trivial (by simpa [upB, upd] using hI)
        refine EachF.cons 16 rfl (fun dn xv W F hF hd hN hX hI H K hK => ?_) ?_
        · have h7 : xv 7 = .bool true := (H 7 (.edge (by kernel_rfl))).2
          have f79 : F.tmps.getD 79 undef = .bool true := (hF 79).trans (Eq.trans (by kernel_rfl) h7)
          have h14 : xv 14 = undef := (H 14 (.edge (by kernel_rfl))).2
          have f86 : F.tmps.getD 86 undef = undef := (hF 86).trans (Eq.trans (by kernel_rfl) h14)
          clear H hN hd hX hF
          refine on_plain rfl ?_
          go_simp
          exact hK.out _ _ rfl trivial (by simpa [upB, upd] using hI)
        exact EachF.nil
      · intro dn xv W hI H
        have q15 : xv 15 = .bool true := (H 15 (of_decide_eq_true (by kernel_rfl))).2
        have hS : Sep w0 W (Rw 51 10 (.slice none 0 0) 0 [] :: Ce (w.heap.size + 1 + 1 + 1 + 1) 43 #[.slice none 0 0, .slice none 0 0] :: Ce (w.heap.size + 1 + 1 + 1) 43 #[.slice none 0 0, .slice none 0 0] :: Ce (w.heap.size + 1 + 1) 51 #[.int .i64 1, .int .i64 peer, .int .i64 sn, .int .u64 (finc : Int), .int .u64 (fconn : Int), .int .u64 (si : Int), .int .u64 (conn : Int), .int .u64 0, .int .u64 (seq : Int), .slice A body.length c] :: Ce (w.heap.size + 1) 28 #[.int .u64 (now : Int)] :: Ce w.heap.size 26 #[.pointer (some ⟨g, 0, none⟩)] :: Ce g 72 #[.int .u64 (base : Int), bx, .int .u64 (got : Int), .int .i64 sn, .int .u64 (si : Int), .int .i64 peer, .int .u64 (conn : Int), .int .u64 (inc : Int), .int .u64 (known : Int), .bool false, .int .u64 (heard : Int), .int .u64 (sent : Int)] :: Qz) := hI
        clear H hI
        simp only [putAll, Act.put, List.setIfInBounds_toArray, List.set_cons_zero, List.set_cons_succ, Nat.reduceAdd, q15]
        clear q15
        have HS7 := Lib.hid hS
        clear hS
        have kl := sep_ceAt (i := 5) HS7.out rfl 0 rfl
        obtain ⟨W7, HW7⟩ : ∃ x, Hid (W = x) := ⟨_, Lib.hid rfl⟩
        rw [HW7.out] at HS7 kl ⊢
        go_wp2_with fail
        clear kl
        refine (sep_down0 (i := 6) HS7.out rfl).mono ?_
        rintro e W8 ⟨rfl, hs8⟩
        have HS8 := Lib.hid (show Sep w0 W8 (Rw 51 10 (.slice none 0 0) 0 [] :: Ce (w.heap.size + 1 + 1 + 1 + 1) 43 #[.slice none 0 0, .slice none 0 0] :: Ce (w.heap.size + 1 + 1 + 1) 43 #[.slice none 0 0, .slice none 0 0] :: Ce (w.heap.size + 1 + 1) 51 #[.int .i64 1, .int .i64 peer, .int .i64 sn, .int .u64 (finc : Int), .int .u64 (fconn : Int), .int .u64 (si : Int), .int .u64 (conn : Int), .int .u64 0, .int .u64 (seq : Int), .slice A body.length c] :: Ce (w.heap.size + 1) 28 #[.int .u64 (now : Int)] :: Ce w.heap.size 26 #[.pointer (some ⟨g, 0, none⟩)] :: Ce g 72 #[.int .u64 0, .slice none 0 0, .int .u64 0, .int .i64 sn, .int .u64 (si : Int), .int .i64 peer, .int .u64 (conn : Int), .int .u64 (inc : Int), .int .u64 (known : Int), .bool false, .int .u64 (heard : Int), .int .u64 (sent : Int)] :: Qz) from hs8)
        clear hs8 HS7
        have HP9 : ∀ (dn : Nat → Bool) (W : World), (if dn 11 = true then Sep w0 W (Rw 51 10 (.slice none 0 0) 0 [] :: Ce (w.heap.size + 1 + 1 + 1 + 1) 43 #[.slice none 0 0, .slice none 0 0] :: Ce (w.heap.size + 1 + 1 + 1) 43 #[.slice none 0 0, .slice none 0 0] :: Ce (w.heap.size + 1 + 1) 51 #[.int .i64 1, .int .i64 peer, .int .i64 sn, .int .u64 (finc : Int), .int .u64 (fconn : Int), .int .u64 (si : Int), .int .u64 (conn : Int), .int .u64 0, .int .u64 (seq : Int), .slice A body.length c] :: Ce (w.heap.size + 1) 28 #[.int .u64 (now : Int)] :: Ce w.heap.size 26 #[.pointer (some ⟨g, 0, none⟩)] :: Ce g 72 #[.int .u64 0, .slice none 0 0, .int .u64 0, .int .i64 sn, .int .u64 (si : Int), .int .i64 peer, .int .u64 (conn : Int), .int .u64 (finc : Int), .int .u64 (fconn : Int), .bool false, .int .u64 (heard : Int), .int .u64 (sent : Int)] :: Qz) else if dn 8 = true then Sep w0 W (Rw 51 10 (.slice none 0 0) 0 [] :: Ce (w.heap.size + 1 + 1 + 1 + 1) 43 #[.slice none 0 0, .slice none 0 0] :: Ce (w.heap.size + 1 + 1 + 1) 43 #[.slice none 0 0, .slice none 0 0] :: Ce (w.heap.size + 1 + 1) 51 #[.int .i64 1, .int .i64 peer, .int .i64 sn, .int .u64 (finc : Int), .int .u64 (fconn : Int), .int .u64 (si : Int), .int .u64 (conn : Int), .int .u64 0, .int .u64 (seq : Int), .slice A body.length c] :: Ce (w.heap.size + 1) 28 #[.int .u64 (now : Int)] :: Ce w.heap.size 26 #[.pointer (some ⟨g, 0, none⟩)] :: Ce g 72 #[.int .u64 0, .slice none 0 0, .int .u64 0, .int .i64 sn, .int .u64 (si : Int), .int .i64 peer, .int .u64 (conn : Int), .int .u64 (finc : Int), .int .u64 (known : Int), .bool false, .int .u64 (heard : Int), .int .u64 (sent : Int)] :: Qz) else Sep w0 W (Rw 51 10 (.slice none 0 0) 0 [] :: Ce (w.heap.size + 1 + 1 + 1 + 1) 43 #[.slice none 0 0, .slice none 0 0] :: Ce (w.heap.size + 1 + 1 + 1) 43 #[.slice none 0 0, .slice none 0 0] :: Ce (w.heap.size + 1 + 1) 51 #[.int .i64 1, .int .i64 peer, .int .i64 sn, .int .u64 (finc : Int), .int .u64 (fconn : Int), .int .u64 (si : Int), .int .u64 (conn : Int), .int .u64 0, .int .u64 (seq : Int), .slice A body.length c] :: Ce (w.heap.size + 1) 28 #[.int .u64 (now : Int)] :: Ce w.heap.size 26 #[.pointer (some ⟨g, 0, none⟩)] :: Ce g 72 #[.int .u64 0, .slice none 0 0, .int .u64 0, .int .i64 sn, .int .u64 (si : Int), .int .i64 peer, .int .u64 (conn : Int), .int .u64 (inc : Int), .int .u64 (known : Int), .bool false, .int .u64 (heard : Int), .int .u64 (sent : Int)] :: Qz)) → ∃ cs, Sep w0 W (Rw 51 10 (.slice none 0 0) 0 [] :: Ce (w.heap.size + 1 + 1 + 1 + 1) 43 #[.slice none 0 0, .slice none 0 0] :: Ce (w.heap.size + 1 + 1 + 1) 43 #[.slice none 0 0, .slice none 0 0] :: Ce (w.heap.size + 1 + 1) 51 #[.int .i64 1, .int .i64 peer, .int .i64 sn, .int .u64 (finc : Int), .int .u64 (fconn : Int), .int .u64 (si : Int), .int .u64 (conn : Int), .int .u64 0, .int .u64 (seq : Int), .slice A body.length c] :: Ce (w.heap.size + 1) 28 #[.int .u64 (now : Int)] :: Ce w.heap.size 26 #[.pointer (some ⟨g, 0, none⟩)] :: Ce g 72 cs :: Qz) := fun dn W h => by
          split at h
          · exact ⟨_, h⟩
          split at h
          · exact ⟨_, h⟩
          exact ⟨_, h⟩
        go_wp2_with fail
        refine wp_region_f (fun dn xv W => if dn 11 = true then Sep w0 W (Rw 51 10 (.slice none 0 0) 0 [] :: Ce (w.heap.size + 1 + 1 + 1 + 1) 43 #[.slice none 0 0, .slice none 0 0] :: Ce (w.heap.size + 1 + 1 + 1) 43 #[.slice none 0 0, .slice none 0 0] :: Ce (w.heap.size + 1 + 1) 51 #[.int .i64 1, .int .i64 peer, .int .i64 sn, .int .u64 (finc : Int), .int .u64 (fconn : Int), .int .u64 (si : Int), .int .u64 (conn : Int), .int .u64 0, .int .u64 (seq : Int), .slice A body.length c] :: Ce (w.heap.size + 1) 28 #[.int .u64 (now : Int)] :: Ce w.heap.size 26 #[.pointer (some ⟨g, 0, none⟩)] :: Ce g 72 #[.int .u64 0, .slice none 0 0, .int .u64 0, .int .i64 sn, .int .u64 (si : Int), .int .i64 peer, .int .u64 (conn : Int), .int .u64 (finc : Int), .int .u64 (fconn : Int), .bool false, .int .u64 (heard : Int), .int .u64 (sent : Int)] :: Qz) else if dn 8 = true then Sep w0 W (Rw 51 10 (.slice none 0 0) 0 [] :: Ce (w.heap.size + 1 + 1 + 1 + 1) 43 #[.slice none 0 0, .slice none 0 0] :: Ce (w.heap.size + 1 + 1 + 1) 43 #[.slice none 0 0, .slice none 0 0] :: Ce (w.heap.size + 1 + 1) 51 #[.int .i64 1, .int .i64 peer, .int .i64 sn, .int .u64 (finc : Int), .int .u64 (fconn : Int), .int .u64 (si : Int), .int .u64 (conn : Int), .int .u64 0, .int .u64 (seq : Int), .slice A body.length c] :: Ce (w.heap.size + 1) 28 #[.int .u64 (now : Int)] :: Ce w.heap.size 26 #[.pointer (some ⟨g, 0, none⟩)] :: Ce g 72 #[.int .u64 0, .slice none 0 0, .int .u64 0, .int .i64 sn, .int .u64 (si : Int), .int .i64 peer, .int .u64 (conn : Int), .int .u64 (finc : Int), .int .u64 (known : Int), .bool false, .int .u64 (heard : Int), .int .u64 (sent : Int)] :: Qz) else Sep w0 W (Rw 51 10 (.slice none 0 0) 0 [] :: Ce (w.heap.size + 1 + 1 + 1 + 1) 43 #[.slice none 0 0, .slice none 0 0] :: Ce (w.heap.size + 1 + 1 + 1) 43 #[.slice none 0 0, .slice none 0 0] :: Ce (w.heap.size + 1 + 1) 51 #[.int .i64 1, .int .i64 peer, .int .i64 sn, .int .u64 (finc : Int), .int .u64 (fconn : Int), .int .u64 (si : Int), .int .u64 (conn : Int), .int .u64 0, .int .u64 (seq : Int), .slice A body.length c] :: Ce (w.heap.size + 1) 28 #[.int .u64 (now : Int)] :: Ce w.heap.size 26 #[.pointer (some ⟨g, 0, none⟩)] :: Ce g 72 #[.int .u64 0, .slice none 0 0, .int .u64 0, .int .i64 sn, .int .u64 (si : Int), .int .i64 peer, .int .u64 (conn : Int), .int .u64 (inc : Int), .int .u64 (known : Int), .bool false, .int .u64 (heard : Int), .int .u64 (sent : Int)] :: Qz)) (fun _ _ => True) [fun v _ => v = .pointer (some ⟨g, 0, none⟩), fun v _ => v = .pointer (some ⟨g, 0, none⟩), fun v _ => v = .pointer (some ⟨w.heap.size + 1 + 1, 3, none⟩), fun v _ => v = .int .u64 (finc : Int), fun v _ => v = .pointer (some ⟨w.heap.size + 1 + 1, 4, none⟩), fun v _ => v = .int .u64 (fconn : Int), fun v _ => v = .pointer (some ⟨g, 0, none⟩), fun v _ => v = .pointer (some ⟨g, 7, none⟩), fun v _ => True, fun v _ => v = .pointer (some ⟨g, 0, none⟩), fun v _ => v = .pointer (some ⟨g, 8, none⟩), fun v _ => True] (by kernel_rfl) (by kernel_rfl) (by kernel_rfl) (by kernel_rfl) (fun xv => by simpa using HS8.out.drew)
          (by exact ⟨fun _ _ _ _ h => h, fun _ _ _ _ h => h, fun _ _ _ _ h => h, fun _ _ _ _ h => h, fun _ _ _ _ h => h, fun _ _ _ _ h => h, fun _ _ _ _ h => h, fun _ _ _ _ h => h, fun _ _ _ _ h => h, fun _ _ _ _ h => h, fun _ _ _ _ h => h, fun _ _ _ _ h => h, trivial⟩) ?_ ?_
        · refine EachF.cons 1 rfl (fun dn xv W F hF hd hN hX hI H K hK => ?_) ?_
          · have f3 : F.tmps.getD 3 undef = .pointer (some ⟨w.heap.size, 0, none⟩) := (hF 3).trans (by kernel_rfl)
            obtain ⟨_, hp⟩ := HP9 dn W hI
            have k5_0 := sep_ceAt (i := 5) hp rfl 0 rfl
            clear H hN hd hX hF
            refine on_plain rfl ?_
            go_simp
            exact hK.out _ _ rfl trivial (by simpa [upB, upd] using hI)
          refine EachF.cons 2 rfl (fun dn xv W F hF hd hN hX hI H K hK => ?_) ?_
          · have f3 : F.tmps.getD 3 undef = .pointer (some ⟨w.heap.size, 0, none⟩) := (hF 3).trans (by kernel_rfl)
            obtain ⟨_, hp⟩ := HP9 dn W hI
            have k5_0 := sep_ceAt (i := 5) hp rfl 0 rfl
            clear H hN hd hX hF
            refine on_plain rfl ?_
            go_simp
            exact hK.out _ _ rfl trivial (by simpa [upB, upd] using hI)
          refine EachF.cons 3 rfl (fun dn xv W F hF hd hN hX hI H K hK => ?_) ?_
          · have f5 : F.tmps.getD 5 undef = .pointer (some ⟨w.heap.size + 1 + 1, 0, none⟩) := (hF 5).trans (by kernel_rfl)
            clear H hN hd hX hF
            refine on_plain rfl ?_
            go_simp
            exact hK.out _ _ rfl trivial (by simpa [upB, upd] using hI)
          refine EachF.cons 4 rfl (fun dn xv W F hF hd hN hX hI H K hK => ?_) ?_
          · have h2 : xv 2 = .pointer (some ⟨w.heap.size + 1 + 1, 3, none⟩) := (H 2 (.edge (by kernel_rfl))).2
            have f93 : F.tmps.getD 93 undef = .pointer (some ⟨w.heap.size + 1 + 1, 3, none⟩) := (hF 93).trans (Eq.trans (by kernel_rfl) h2)
            obtain ⟨_, hp⟩ := HP9 dn W hI
            have k3_3 := sep_ceAt (i := 3) hp rfl 3 rfl
            clear H hN hd hX hF
            refine on_plain rfl ?_
            go_simp
            exact hK.out _ _ rfl trivial (by simpa [upB, upd] using hI)
          refine EachF.cons 5 rfl (fun dn xv W F hF hd hN hX hI H K hK => ?_) ?_
          · have f5 : F.tmps.getD 5 undef = .pointer (some ⟨w.heap.size + 1 + 1, 0, none⟩) := (hF 5).trans (by kernel_rfl)
            clear H hN hd hX hF
            refine on_plain rfl ?_
            go_simp
            exact hK.out _ _ rfl trivial (by simpa [upB, upd] using hI)
          refine EachF.cons 6 rfl (fun dn xv W F hF hd hN hX hI H K hK => ?_) ?_
          · have h4 : xv 4 = .pointer (some ⟨w.heap.size + 1 + 1, 4, none⟩) := (H 4 (.edge (by kernel_rfl))).2
            have f95 : F.tmps.getD 95 undef = .pointer (some ⟨w.heap.size + 1 + 1, 4, none⟩) := (hF 95).trans (Eq.trans (by kernel_rfl) h4)
            obtain ⟨_, hp⟩ := HP9 dn W hI
            have k3_4 := sep_ceAt (i := 3) hp rfl 4 rfl
            clear H hN hd hX hF
            refine on_plain rfl ?_
            go_simp
            exact hK.out _ _ rfl trivial (by simpa [upB, upd] using hI)
          refine EachF.cons 7 rfl (fun dn xv W F hF hd hN hX hI H K hK => ?_) ?_
          · have h0 : xv 0 = .pointer (some ⟨g, 0, none⟩) := (H 0 (.edge (by kernel_rfl))).2
            have f91 : F.tmps.getD 91 undef = .pointer (some ⟨g, 0, none⟩) := (hF 91).trans (Eq.trans (by kernel_rfl) h0)
            clear H hN hd hX hF
            refine on_plain rfl ?_
            go_simp
            exact hK.out _ _ rfl trivial (by simpa [upB, upd] using hI)
          refine EachF.cons 8 rfl (fun dn xv W F hF hd hN hX hI H K hK => ?_) ?_
          · have h6 : xv 6 = .pointer (some ⟨g, 0, none⟩) := (H 6 (.edge (by kernel_rfl))).2
            have f97 : F.tmps.getD 97 undef = .pointer (some ⟨g, 0, none⟩) := (hF 97).trans (Eq.trans (by kernel_rfl) h6)
            clear H hN hd hX hF
            refine on_plain rfl ?_
            go_simp
            exact hK.out _ _ rfl trivial (by simpa [upB, upd] using hI)
          refine EachF.cons 9 rfl (fun dn xv W F hF hd hN hX hI H K hK => ?_) ?_
          · have h3 : xv 3 = .int .u64 (finc : Int) := (H 3 (.edge (by kernel_rfl))).2
            have f94 : F.tmps.getD 94 undef = .int .u64 (finc : Int) := (hF 94).trans (Eq.trans (by kernel_rfl) h3)
            have h7 : xv 7 = .pointer (some ⟨g, 7, none⟩) := (H 7 (.edge (by kernel_rfl))).2
            have f98 : F.tmps.getD 98 undef = .pointer (some ⟨g, 7, none⟩) := (hF 98).trans (Eq.trans (by kernel_rfl) h7)
            have q11 : dn 11 = false := hN 11 (.edge (by kernel_rfl))
            have hS : Sep w0 W (Rw 51 10 (.slice none 0 0) 0 [] :: Ce (w.heap.size + 1 + 1 + 1 + 1) 43 #[.slice none 0 0, .slice none 0 0] :: Ce (w.heap.size + 1 + 1 + 1) 43 #[.slice none 0 0, .slice none 0 0] :: Ce (w.heap.size + 1 + 1) 51 #[.int .i64 1, .int .i64 peer, .int .i64 sn, .int .u64 (finc : Int), .int .u64 (fconn : Int), .int .u64 (si : Int), .int .u64 (conn : Int), .int .u64 0, .int .u64 (seq : Int), .slice A body.length c] :: Ce (w.heap.size + 1) 28 #[.int .u64 (now : Int)] :: Ce w.heap.size 26 #[.pointer (some ⟨g, 0, none⟩)] :: Ce g 72 #[.int .u64 0, .slice none 0 0, .int .u64 0, .int .i64 sn, .int .u64 (si : Int), .int .i64 peer, .int .u64 (conn : Int), .int .u64 (inc : Int), .int .u64 (known : Int), .bool false, .int .u64 (heard : Int), .int .u64 (sent : Int)] :: Qz) := by simpa [hd, q11] using hI
            clear hI hN hd hX hF H
            refine on_plain rfl ?_
            have kk7 := sep_ceAt (i := 6) hS rfl 7 rfl
            have yy7 := sep_ceFrozen (i := 6) hS rfl 7
            have hs : Sep w0 (W.setCell ⟨g, 7, none⟩ (.int .u64 (finc : Int))) (Rw 51 10 (.slice none 0 0) 0 [] :: Ce (w.heap.size + 1 + 1 + 1 + 1) 43 #[.slice none 0 0, .slice none 0 0] :: Ce (w.heap.size + 1 + 1 + 1) 43 #[.slice none 0 0, .slice none 0 0] :: Ce (w.heap.size + 1 + 1) 51 #[.int .i64 1, .int .i64 peer, .int .i64 sn, .int .u64 (finc : Int), .int .u64 (fconn : Int), .int .u64 (si : Int), .int .u64 (conn : Int), .int .u64 0, .int .u64 (seq : Int), .slice A body.length c] :: Ce (w.heap.size + 1) 28 #[.int .u64 (now : Int)] :: Ce w.heap.size 26 #[.pointer (some ⟨g, 0, none⟩)] :: Ce g 72 #[.int .u64 0, .slice none 0 0, .int .u64 0, .int .i64 sn, .int .u64 (si : Int), .int .i64 peer, .int .u64 (conn : Int), .int .u64 (finc : Int), .int .u64 (known : Int), .bool false, .int .u64 (heard : Int), .int .u64 (sent : Int)] :: Qz) := sep_ceSet (i := 6) hS rfl 7 (.int .u64 (finc : Int))
            go_simp
            exact hK.out undef _ trivial trivial (by simpa [upB, upd, q11] using hs)
          refine EachF.cons 10 rfl (fun dn xv W F hF hd hN hX hI H K hK => ?_) ?_
          · have h1 : xv 1 = .pointer (some ⟨g, 0, none⟩) := (H 1 (.edge (by kernel_rfl))).2
            have f92 : F.tmps.getD 92 undef = .pointer (some ⟨g, 0, none⟩) := (hF 92).trans (Eq.trans (by kernel_rfl) h1)
            clear H hN hd hX hF
            refine on_plain rfl ?_
            go_simp
            exact hK.out _ _ rfl trivial (by simpa [upB, upd] using hI)
          refine EachF.cons 11 rfl (fun dn xv W F hF hd hN hX hI H K hK => ?_) ?_
          · have h9 : xv 9 = .pointer (some ⟨g, 0, none⟩) := (H 9 (.edge (by kernel_rfl))).2
            have f99 : F.tmps.getD 99 undef = .pointer (some ⟨g, 0, none⟩) := (hF 99).trans (Eq.trans (by kernel_rfl) h9)
            clear H hN hd hX hF
            refine on_plain rfl ?_
            go_simp
            exact hK.out _ _ rfl trivial (by simpa [upB, upd] using hI)
          refine EachF.cons 12 rfl (fun dn xv W F hF hd hN hX hI H K hK => ?_) ?_
          · have h5 : xv 5 = .int .u64 (fconn : Int) := (H 5 (.edge (by kernel_rfl))).2
            have f96 : F.tmps.getD 96 undef = .int .u64 (fconn : Int) := (hF 96).trans (Eq.trans (by kernel_rfl) h5)
            have h10 : xv 10 = .pointer (some ⟨g, 8, none⟩) := (H 10 (.edge (by kernel_rfl))).2
            have f100 : F.tmps.getD 100 undef = .pointer (some ⟨g, 8, none⟩) := (hF 100).trans (Eq.trans (by kernel_rfl) h10)
            have q8 : dn 8 = true := (H 8 (.edge (by kernel_rfl))).1
            have hS : Sep w0 W (Rw 51 10 (.slice none 0 0) 0 [] :: Ce (w.heap.size + 1 + 1 + 1 + 1) 43 #[.slice none 0 0, .slice none 0 0] :: Ce (w.heap.size + 1 + 1 + 1) 43 #[.slice none 0 0, .slice none 0 0] :: Ce (w.heap.size + 1 + 1) 51 #[.int .i64 1, .int .i64 peer, .int .i64 sn, .int .u64 (finc : Int), .int .u64 (fconn : Int), .int .u64 (si : Int), .int .u64 (conn : Int), .int .u64 0, .int .u64 (seq : Int), .slice A body.length c] :: Ce (w.heap.size + 1) 28 #[.int .u64 (now : Int)] :: Ce w.heap.size 26 #[.pointer (some ⟨g, 0, none⟩)] :: Ce g 72 #[.int .u64 0, .slice none 0 0, .int .u64 0, .int .i64 sn, .int .u64 (si : Int), .int .i64 peer, .int .u64 (conn : Int), .int .u64 (finc : Int), .int .u64 (known : Int), .bool false, .int .u64 (heard : Int), .int .u64 (sent : Int)] :: Qz) := by simpa [hd, q8] using hI
            clear hI hN hd hX hF H
            refine on_plain rfl ?_
            have kk8 := sep_ceAt (i := 6) hS rfl 8 rfl
            have yy8 := sep_ceFrozen (i := 6) hS rfl 8
            have hs : Sep w0 (W.setCell ⟨g, 8, none⟩ (.int .u64 (fconn : Int))) (Rw 51 10 (.slice none 0 0) 0 [] :: Ce (w.heap.size + 1 + 1 + 1 + 1) 43 #[.slice none 0 0, .slice none 0 0] :: Ce (w.heap.size + 1 + 1 + 1) 43 #[.slice none 0 0, .slice none 0 0] :: Ce (w.heap.size + 1 + 1) 51 #[.int .i64 1, .int .i64 peer, .int .i64 sn, .int .u64 (finc : Int), .int .u64 (fconn : Int), .int .u64 (si : Int), .int .u64 (conn : Int), .int .u64 0, .int .u64 (seq : Int), .slice A body.length c] :: Ce (w.heap.size + 1) 28 #[.int .u64 (now : Int)] :: Ce w.heap.size 26 #[.pointer (some ⟨g, 0, none⟩)] :: Ce g 72 #[.int .u64 0, .slice none 0 0, .int .u64 0, .int .i64 sn, .int .u64 (si : Int), .int .i64 peer, .int .u64 (conn : Int), .int .u64 (finc : Int), .int .u64 (fconn : Int), .bool false, .int .u64 (heard : Int), .int .u64 (sent : Int)] :: Qz) := sep_ceSet (i := 6) hS rfl 8 (.int .u64 (fconn : Int))
            go_simp
            exact hK.out undef _ trivial trivial (by simpa [upB, upd] using hs)
          exact EachF.nil
        · intro dn xv W hI H
          have qe : dn 11 = true := (H 11 (of_decide_eq_true (by kernel_rfl))).1
          have hS : Sep w0 W (Rw 51 10 (.slice none 0 0) 0 [] :: Ce (w.heap.size + 1 + 1 + 1 + 1) 43 #[.slice none 0 0, .slice none 0 0] :: Ce (w.heap.size + 1 + 1 + 1) 43 #[.slice none 0 0, .slice none 0 0] :: Ce (w.heap.size + 1 + 1) 51 #[.int .i64 1, .int .i64 peer, .int .i64 sn, .int .u64 (finc : Int), .int .u64 (fconn : Int), .int .u64 (si : Int), .int .u64 (conn : Int), .int .u64 0, .int .u64 (seq : Int), .slice A body.length c] :: Ce (w.heap.size + 1) 28 #[.int .u64 (now : Int)] :: Ce w.heap.size 26 #[.pointer (some ⟨g, 0, none⟩)] :: Ce g 72 #[.int .u64 0, .slice none 0 0, .int .u64 0, .int .i64 sn, .int .u64 (si : Int), .int .i64 peer, .int .u64 (conn : Int), .int .u64 (finc : Int), .int .u64 (fconn : Int), .bool false, .int .u64 (heard : Int), .int .u64 (sent : Int)] :: Qz) := by simpa [qe] using hI
          clear H hI qe
          simp only [putAll, Act.put, List.setIfInBounds_toArray, List.set_cons_zero, List.set_cons_succ, Nat.reduceAdd]
          have HS9 := Lib.hid hS
          clear hS
          have kl := sep_ceAt (i := 5) HS9.out rfl 0 rfl
          have kn := sep_ceAt (i := 4) HS9.out rfl 0 rfl
          have kh := sep_ceAt (i := 6) HS9.out rfl 10 rfl
          have yh := sep_ceFrozen (i := 6) HS9.out rfl 10
          have hs10 := sep_ceSet (i := 6) HS9.out rfl 10 (.int .u64 (now : Int))
          obtain ⟨W9, HW9⟩ : ∃ x, Hid (W = x) := ⟨_, Lib.hid rfl⟩
          rw [HW9.out] at HS9 kl kn kh yh hs10 ⊢
          have HS10 := Lib.hid (show Sep w0 _ (Rw 51 10 (.slice none 0 0) 0 [] :: Ce (w.heap.size + 1 + 1 + 1 + 1) 43 #[.slice none 0 0, .slice none 0 0] :: Ce (w.heap.size + 1 + 1 + 1) 43 #[.slice none 0 0, .slice none 0 0] :: Ce (w.heap.size + 1 + 1) 51 #[.int .i64 1, .int .i64 peer, .int .i64 sn, .int .u64 (finc : Int), .int .u64 (fconn : Int), .int .u64 (si : Int), .int .u64 (conn : Int), .int .u64 0, .int .u64 (seq : Int), .slice A body.length c] :: Ce (w.heap.size + 1) 28 #[.int .u64 (now : Int)] :: Ce w.heap.size 26 #[.pointer (some ⟨g, 0, none⟩)] :: Ce g 72 #[.int .u64 0, .slice none 0 0, .int .u64 0, .int .i64 sn, .int .u64 (si : Int), .int .i64 peer, .int .u64 (conn : Int), .int .u64 (finc : Int), .int .u64 (fconn : Int), .bool false, .int .u64 (now : Int), .int .u64 (sent : Int)] :: Qz) from hs10)
          clear hs10
          go_wp2_with fail
          clear kl kn kh yh
          refine wp_region_f (fun dn xv W => Sep w0 W (Rw 51 10 (.slice none 0 0) 0 [] :: Ce (w.heap.size + 1 + 1 + 1 + 1) 43 #[.slice none 0 0, .slice none 0 0] :: Ce (w.heap.size + 1 + 1 + 1) 43 #[.slice none 0 0, .slice none 0 0] :: Ce (w.heap.size + 1 + 1) 51 #[.int .i64 1, .int .i64 peer, .int .i64 sn, .int .u64 (finc : Int), .int .u64 (fconn : Int), .int .u64 (si : Int), .int .u64 (conn : Int), .int .u64 0, .int .u64 (seq : Int), .slice A body.length c] :: Ce (w.heap.size + 1) 28 #[.int .u64 (now : Int)] :: Ce w.heap.size 26 #[.pointer (some ⟨g, 0, none⟩)] :: Ce g 72 #[.int .u64 0, .slice none 0 0, .int .u64 0, .int .i64 sn, .int .u64 (si : Int), .int .i64 peer, .int .u64 (conn : Int), .int .u64 (finc : Int), .int .u64 (fconn : Int), .bool false, .int .u64 (now : Int), .int .u64 (sent : Int)] :: Qz)) (fun _ _ => True) [fun v _ => v = .pointer (some ⟨w.heap.size + 1 + 1, 5, none⟩), fun v _ => v = .int .u64 (si : Int), fun v _ => v = .pointer (some ⟨g, 0, none⟩), fun v _ => v = .pointer (some ⟨g, 0, none⟩), fun v _ => v = .pointer (some ⟨g, 3, none⟩), fun v _ => v = .pointer (some ⟨g, 4, none⟩), fun v _ => v = .int .u64 (si : Int), fun v _ => v = .bool false, fun v _ => v = .bool false, fun v _ => v = .pointer (some ⟨w.heap.size + 1 + 1, 6, none⟩), fun v _ => v = .int .u64 (conn : Int), fun v _ => v = .pointer (some ⟨g, 0, none⟩), fun v _ => v = .pointer (some ⟨g, 0, none⟩), fun v _ => v = .pointer (some ⟨g, 6, none⟩), fun v _ => v = .int .u64 (conn : Int), fun v _ => v = .bool false, fun v _ => v = .bool false] (by kernel_rfl) (by kernel_rfl) (by kernel_rfl) (by kernel_rfl) (fun xv => by simpa using HS10.out.drew)
            (by exact ⟨fun _ _ _ _ h => h, fun _ _ _ _ h => h, fun _ _ _ _ h => h, fun _ _ _ _ h => h, fun _ _ _ _ h => h, fun _ _ _ _ h => h, fun _ _ _ _ h => h, fun _ _ _ _ h => h, fun _ _ _ _ h => h, fun _ _ _ _ h => h, fun _ _ _ _ h => h, fun _ _ _ _ h => h, fun _ _ _ _ h => h, fun _ _ _ _ h => h, fun _ _ _ _ h => h, fun _ _ _ _ h => h, fun _ _ _ _ h => h, trivial⟩) ?_ ?_
          · refine EachF.cons 1 rfl (fun dn xv W F hF hd hN hX hI H K hK => ?_) ?_
            · have f5 : F.tmps.getD 5 undef = .pointer (some ⟨w.heap.size + 1 + 1, 0, none⟩) := (hF 5).trans (by kernel_rfl)
              clear H hN hd hX hF
              refine on_plain rfl ?_
              go_simp
              exact hK.out _ _ rfl trivial (by simpa [upB, upd] using hI)
            refine EachF.cons 2 rfl (fun dn xv W F hF hd hN hX hI H K hK => ?_) ?_
            · have h0 : xv 0 = .pointer (some ⟨w.heap.size + 1 + 1, 5, none⟩) := (H 0 (.edge (by kernel_rfl))).2
              have f105 : F.tmps.getD 105 undef = .pointer (some ⟨w.heap.size + 1 + 1, 5, none⟩) := (hF 105).trans (Eq.trans (by kernel_rfl) h0)
              have k3_5 := sep_ceAt (i := 3) hI rfl 5 rfl
              clear H hN hd hX hF
              refine on_plain rfl ?_
              go_simp
              exact hK.out _ _ rfl trivial (by simpa [upB, upd] using hI)
            refine EachF.cons 3 rfl (fun dn xv W F hF hd hN hX hI H K hK => ?_) ?_
            · have f3 : F.tmps.getD 3 undef = .pointer (some ⟨w.heap.size, 0, none⟩) := (hF 3).trans (by kernel_rfl)
              have k5_0 := sep_ceAt (i := 5) hI rfl 0 rfl
              clear H hN hd hX hF
              refine on_plain rfl ?_
              go_simp
              exact hK.out _ _ rfl trivial (by simpa [upB, upd] using hI)
            refine EachF.cons 4 rfl (fun dn xv W F hF hd hN hX hI H K hK => ?_) ?_
            · have h2 : xv 2 = .pointer (some ⟨g, 0, none⟩) := (H 2 (.edge (by kernel_rfl))).2
              have f107 : F.tmps.getD 107 undef = .pointer (some ⟨g, 0, none⟩) := (hF 107).trans (Eq.trans (by kernel_rfl) h2)
              clear H hN hd hX hF
              refine on_plain rfl ?_
              go_simp
              exact hK.out _ _ rfl trivial (by simpa [upB, upd] using hI)
            refine EachF.cons 5 rfl (fun dn xv W F hF hd hN hX hI H K hK => ?_) ?_
            · have h3 : xv 3 = .pointer (some ⟨g, 0, none⟩) := (H 3 (.edge (by kernel_rfl))).2
              have f108 : F.tmps.getD 108 undef = .pointer (some ⟨g, 0, none⟩) := (hF 108).trans (Eq.trans (by kernel_rfl) h3)
              clear H hN hd hX hF
              refine on_plain rfl ?_
              go_simp
              exact hK.out _ _ rfl trivial (by simpa [upB, upd] using hI)
            refine EachF.cons 6 rfl (fun dn xv W F hF hd hN hX hI H K hK => ?_) ?_
            · have h4 : xv 4 = .pointer (some ⟨g, 3, none⟩) := (H 4 (.edge (by kernel_rfl))).2
              have f109 : F.tmps.getD 109 undef = .pointer (some ⟨g, 3, none⟩) := (hF 109).trans (Eq.trans (by kernel_rfl) h4)
              clear H hN hd hX hF
              refine on_plain rfl ?_
              go_simp
              exact hK.out _ _ rfl trivial (by simpa [upB, upd] using hI)
            refine EachF.cons 7 rfl (fun dn xv W F hF hd hN hX hI H K hK => ?_) ?_
            · have h5 : xv 5 = .pointer (some ⟨g, 4, none⟩) := (H 5 (.edge (by kernel_rfl))).2
              have f110 : F.tmps.getD 110 undef = .pointer (some ⟨g, 4, none⟩) := (hF 110).trans (Eq.trans (by kernel_rfl) h5)
              have k6_4 := sep_ceAt (i := 6) hI rfl 4 rfl
              clear H hN hd hX hF
              refine on_plain rfl ?_
              go_simp
              exact hK.out _ _ rfl trivial (by simpa [upB, upd] using hI)
            refine EachF.cons 8 rfl (fun dn xv W F hF hd hN hX hI H K hK => ?_) ?_
            · have h1 : xv 1 = .int .u64 (si : Int) := (H 1 (.edge (by kernel_rfl))).2
              have f106 : F.tmps.getD 106 undef = .int .u64 (si : Int) := (hF 106).trans (Eq.trans (by kernel_rfl) h1)
              have h6 : xv 6 = .int .u64 (si : Int) := (H 6 (.edge (by kernel_rfl))).2
              have f111 : F.tmps.getD 111 undef = .int .u64 (si : Int) := (hF 111).trans (Eq.trans (by kernel_rfl) h6)
              clear H hN hd hX hF
              refine on_plain rfl ?_
              go_simp
              exact hK.out _ _ rfl trivial (by simpa [upB, upd] using hI)
            refine EachF.cons 9 rfl (fun dn xv W F hF hd hN hX hI H K hK => ?_) ?_
            · have h7 : xv 7 = .bool false := (H 7 (.edge (by kernel_rfl))).2
              have f112 : F.tmps.getD 112 undef = .bool false := (hF 112).trans (Eq.trans (by kernel_rfl) h7)
              clear H hN hd hX hF
              refine on_plain rfl ?_
              go_simp
              exact hK.out _ _ rfl trivial (by simpa [upB, upd] using hI)
            refine EachF.cons 10 rfl (fun dn xv W F hF hd hN hX hI H K hK => ?_) ?_
            · have f5 : F.tmps.getD 5 undef = .pointer (some ⟨w.heap.size + 1 + 1, 0, none⟩) := (hF 5).trans (by kernel_rfl)
              have h8 : xv 8 = .bool false := (H 8 (.edge (by kernel_rfl))).2
              have f113 : F.tmps.getD 113 undef = .bool false := (hF 113).trans (Eq.trans (by kernel_rfl) h8)
              clear H hN hd hX hF
              refine on_guard rfl (by kernel_rfl) f113 ?_
              go_simp
              exact hK.out _ _ rfl trivial (by simpa [upB, upd] using hI)
            refine EachF.cons 11 rfl (fun dn xv W F hF hd hN hX hI H K hK => ?_) ?_
            · have h9 : xv 9 = .pointer (some ⟨w.heap.size + 1 + 1, 6, none⟩) := (H 9 (.edge (by kernel_rfl))).2
              have f114 : F.tmps.getD 114 undef = .pointer (some ⟨w.heap.size + 1 + 1, 6, none⟩) := (hF 114).trans (Eq.trans (by kernel_rfl) h9)
              have h8 : xv 8 = .bool false := (H 8 (.edge (by kernel_rfl))).2
              have f113 : F.tmps.getD 113 undef = .bool false := (hF 113).trans (Eq.trans (by kernel_rfl) h8)
              have k3_6 := sep_ceAt (i := 3) hI rfl 6 rfl
              clear H hN hd hX hF
              refine on_guard rfl (by kernel_rfl) f113 ?_
              go_simp
              exact hK.out _ _ rfl trivial (by simpa [upB, upd] using hI)
            refine EachF.cons 12 rfl (fun dn xv W F hF hd hN hX hI H K hK => ?_) ?_
            · have f3 : F.tmps.getD 3 undef = .pointer (some ⟨w.heap.size, 0, none⟩) := (hF 3).trans (by kernel_rfl)
              have h8 : xv 8 = .bool false := (H 8 (.edge (by kernel_rfl))).2
              have f113 : F.tmps.getD 113 undef = .bool false := (hF 113).trans (Eq.trans (by kernel_rfl) h8)
              have k5_0 := sep_ceAt (i := 5) hI rfl 0 rfl
              clear H hN hd hX hF
              refine on_guard rfl (by kernel_rfl) f113 ?_
              go_simp
              exact hK.out _ _ rfl trivial (by simpa [upB, upd] using hI)
            refine EachF.cons 13 rfl (fun dn xv W F hF hd hN hX hI H K hK => ?_) ?_
            · have h11 : xv 11 = .pointer (some ⟨g, 0, none⟩) := (H 11 (.edge (by kernel_rfl))).2
              have f116 : F.tmps.getD 116 undef = .pointer (some ⟨g, 0, none⟩) := (hF 116).trans (Eq.trans (by kernel_rfl) h11)
              have h8 : xv 8 = .bool false := (H 8 (.edge (by kernel_rfl))).2
              have f113 : F.tmps.getD 113 undef = .bool false := (hF 113).trans (Eq.trans (by kernel_rfl) h8)
              clear H hN hd hX hF
              refine on_guard rfl (by kernel_rfl) f113 ?_
              go_simp
              exact hK.out _ _ rfl trivial (by simpa [upB, upd] using hI)
            refine EachF.cons 14 rfl (fun dn xv W F hF hd hN hX hI H K hK => ?_) ?_
            · have h12 : xv 12 = .pointer (some ⟨g, 0, none⟩) := (H 12 (.edge (by kernel_rfl))).2
              have f117 : F.tmps.getD 117 undef = .pointer (some ⟨g, 0, none⟩) := (hF 117).trans (Eq.trans (by kernel_rfl) h12)
              have h8 : xv 8 = .bool false := (H 8 (.edge (by kernel_rfl))).2
              have f113 : F.tmps.getD 113 undef = .bool false := (hF 113).trans (Eq.trans (by kernel_rfl) h8)
              clear H hN hd hX hF
              refine on_guard rfl (by kernel_rfl) f113 ?_
              go_simp
              exact hK.out _ _ rfl trivial (by simpa [upB, upd] using hI)
            refine EachF.cons 15 rfl (fun dn xv W F hF hd hN hX hI H K hK => ?_) ?_
            · have h13 : xv 13 = .pointer (some ⟨g, 6, none⟩) := (H 13 (.edge (by kernel_rfl))).2
              have f118 : F.tmps.getD 118 undef = .pointer (some ⟨g, 6, none⟩) := (hF 118).trans (Eq.trans (by kernel_rfl) h13)
              have h8 : xv 8 = .bool false := (H 8 (.edge (by kernel_rfl))).2
              have f113 : F.tmps.getD 113 undef = .bool false := (hF 113).trans (Eq.trans (by kernel_rfl) h8)
              have k6_6 := sep_ceAt (i := 6) hI rfl 6 rfl
              clear H hN hd hX hF
              refine on_guard rfl (by kernel_rfl) f113 ?_
              go_simp
              exact hK.out _ _ rfl trivial (by simpa [upB, upd] using hI)
            refine EachF.cons 16 rfl (fun dn xv W F hF hd hN hX hI H K hK => ?_) ?_
            · have h10 : xv 10 = .int .u64 (conn : Int) := (H 10 (.edge (by kernel_rfl))).2
              have f115 : F.tmps.getD 115 undef = .int .u64 (conn : Int) := (hF 115).trans (Eq.trans (by kernel_rfl) h10)
              have h14 : xv 14 = .int .u64 (conn : Int) := (H 14 (.edge (by kernel_rfl))).2
              have f119 : F.tmps.getD 119 undef = .int .u64 (conn : Int) := (hF 119).trans (Eq.trans (by kernel_rfl) h14)
              have h8 : xv 8 = .bool false := (H 8 (.edge (by kernel_rfl))).2
              have f113 : F.tmps.getD 113 undef = .bool false := (hF 113).trans (Eq.trans (by kernel_rfl) h8)
              clear H hN hd hX hF
              refine on_guard rfl (by kernel_rfl) f113 ?_
              go_simp
              exact hK.out _ _ rfl trivial (by simpa [upB, upd] using hI)
            refine EachF.cons 17 rfl (fun dn xv W F hF hd hN hX hI H K hK => ?_) ?_
            · have h8 : xv 8 = .bool false := (H 8 (.edge (by kernel_rfl))).2
              have f113 : F.tmps.getD 113 undef = .bool false := (hF 113).trans (Eq.trans (by kernel_rfl) h8)
              have h15 : xv 15 = .bool false := (H 15 (.edge (by kernel_rfl))).2
              have f120 : F.tmps.getD 120 undef = .bool false := (hF 120).trans (Eq.trans (by kernel_rfl) h15)
              clear H hN hd hX hF
              refine on_plain rfl ?_
              go_simp
              exact hK.out _ _ rfl trivial (by simpa [upB, upd] using hI)
            exact EachF.nil
          · intro dn xv W hI H
            have q16 : xv 16 = .bool false := (H 16 (of_decide_eq_true (by kernel_rfl))).2
            have hS : Sep w0 W (Rw 51 10 (.slice none 0 0) 0 [] :: Ce (w.heap.size + 1 + 1 + 1 + 1) 43 #[.slice none 0 0, .slice none 0 0] :: Ce (w.heap.size + 1 + 1 + 1) 43 #[.slice none 0 0, .slice none 0 0] :: Ce (w.heap.size + 1 + 1) 51 #[.int .i64 1, .int .i64 peer, .int .i64 sn, .int .u64 (finc : Int), .int .u64 (fconn : Int), .int .u64 (si : Int), .int .u64 (conn : Int), .int .u64 0, .int .u64 (seq : Int), .slice A body.length c] :: Ce (w.heap.size + 1) 28 #[.int .u64 (now : Int)] :: Ce w.heap.size 26 #[.pointer (some ⟨g, 0, none⟩)] :: Ce g 72 #[.int .u64 0, .slice none 0 0, .int .u64 0, .int .i64 sn, .int .u64 (si : Int), .int .i64 peer, .int .u64 (conn : Int), .int .u64 (finc : Int), .int .u64 (fconn : Int), .bool false, .int .u64 (now : Int), .int .u64 (sent : Int)] :: Qz) := hI
            clear H hI
            simp only [putAll, Act.put, List.setIfInBounds_toArray, List.set_cons_zero, List.set_cons_succ, Nat.reduceAdd, q16]
            clear q16
            have HS11 := Lib.hid hS
            clear hS
            have kl := sep_ceAt (i := 5) HS11.out rfl 0 rfl
            have kf := sep_ceAt (i := 3) HS11.out rfl 0 rfl
            have ku := sep_ceAt (i := 6) HS11.out rfl 9 rfl
            have yu := sep_ceFrozen (i := 6) HS11.out rfl 9
            have hs12 := sep_ceSet (i := 6) HS11.out rfl 9 (.bool true)
            obtain ⟨W11, HW11⟩ : ∃ x, Hid (W = x) := ⟨_, Lib.hid rfl⟩
            rw [HW11.out] at HS11 kl kf ku yu hs12 ⊢
            have HS12 := Lib.hid (show Sep w0 _ (Rw 51 10 (.slice none 0 0) 0 [] :: Ce (w.heap.size + 1 + 1 + 1 + 1) 43 #[.slice none 0 0, .slice none 0 0] :: Ce (w.heap.size + 1 + 1 + 1) 43 #[.slice none 0 0, .slice none 0 0] :: Ce (w.heap.size + 1 + 1) 51 #[.int .i64 1, .int .i64 peer, .int .i64 sn, .int .u64 (finc : Int), .int .u64 (fconn : Int), .int .u64 (si : Int), .int .u64 (conn : Int), .int .u64 0, .int .u64 (seq : Int), .slice A body.length c] :: Ce (w.heap.size + 1) 28 #[.int .u64 (now : Int)] :: Ce w.heap.size 26 #[.pointer (some ⟨g, 0, none⟩)] :: Ce g 72 #[.int .u64 0, .slice none 0 0, .int .u64 0, .int .i64 sn, .int .u64 (si : Int), .int .i64 peer, .int .u64 (conn : Int), .int .u64 (finc : Int), .int .u64 (fconn : Int), .bool true, .int .u64 (now : Int), .int .u64 (sent : Int)] :: Qz) from hs12)
            clear hs12
            go_wp2_with fail
            clear kl kf ku yu
            have HS13 : Hid (Sep w0 (W11.setCell ⟨g, 9, none⟩ (.bool true)) (Rw 49 4 (.slice none 0 0) 0 [] :: Ce (w.heap.size + 1 + 1 + 1 + 1) 43 #[.slice none 0 0, .slice none 0 0] :: Ce (W4.heap.size + 1) 92 #[.pointer (some ⟨w.heap.size + 1 + 1 + 1 + 1, 0, none⟩)] :: Ce W4.heap.size 26 #[.pointer (some ⟨g, 0, none⟩)] :: Ce g 72 #[.int .u64 0, .slice none 0 0, .int .u64 0, .int .i64 sn, .int .u64 (si : Int), .int .i64 peer, .int .u64 (conn : Int), .int .u64 (finc : Int), .int .u64 (fconn : Int), .bool true, .int .u64 (now : Int), .int .u64 (sent : Int)] :: Rw 51 10 (.slice none 0 0) 0 [] :: Ce (w.heap.size + 1 + 1 + 1) 43 #[.slice none 0 0, .slice none 0 0] :: Ce (w.heap.size + 1 + 1) 51 #[.int .i64 1, .int .i64 peer, .int .i64 sn, .int .u64 (finc : Int), .int .u64 (fconn : Int), .int .u64 (si : Int), .int .u64 (conn : Int), .int .u64 0, .int .u64 (seq : Int), .slice A body.length c] :: Ce (w.heap.size + 1) 28 #[.int .u64 (now : Int)] :: Ce w.heap.size 26 #[.pointer (some ⟨g, 0, none⟩)] :: Qs)) := Lib.hid (by
              have hx := HS12.out
              rw [← HQz.out] at hx
              have hx := (sep_rwNil hx 49 4).lastFront
              have hx := hx.toFront 7 rfl
              have hx := hx.toFront 9 rfl
              have hx := hx.toFront 9 rfl
              have hx := hx.toFront 5 rfl
              have hx := hx.toFront 4 rfl
              exact hx)
            clear HS11 HS12
            refine (tell_any (vF := .slice none 0 0) (base := 0) (bx := .slice none 0 0) (got := 0) (sn := sn) (si := si) (peer := peer) (conn := conn) (inc := finc) (known := fconn) (heard := now) (sent := sent) (up := true) 1 HS13.out HSN.out).mono ?_
            rintro e W13 ⟨rfl, vE, hs13⟩
            obtain ⟨AE, cE, rfl, _, _, _⟩ := sep_rwForm (i := 0) hs13 rfl
            obtain ⟨Qy, HQy⟩ : ∃ Q, Hid ((Rw 49 4 (.slice AE 1 cE) 1 [.int .i64 1, .int .i64 peer, .int .u64 (finc : Int), .slice none 0 0] :: Ce (W4.heap.size + 1) 92 #[.pointer (some ⟨w.heap.size + 1 + 1 + 1 + 1, 0, none⟩)] :: Ce W4.heap.size 26 #[.pointer (some ⟨g, 0, none⟩)] :: Qs) = Q) := ⟨_, Lib.hid rfl⟩
            have HS14 : Hid (Sep w0 W13 (Rw 51 10 (.slice none 0 0) 0 [] :: Ce (w.heap.size + 1 + 1 + 1 + 1) 43 #[.slice none 0 0, .slice AE 1 cE] :: Ce (w.heap.size + 1 + 1 + 1) 43 #[.slice none 0 0, .slice none 0 0] :: Ce (w.heap.size + 1 + 1) 51 #[.int .i64 1, .int .i64 peer, .int .i64 sn, .int .u64 (finc : Int), .int .u64 (fconn : Int), .int .u64 (si : Int), .int .u64 (conn : Int), .int .u64 0, .int .u64 (seq : Int), .slice A body.length c] :: Ce (w.heap.size + 1) 28 #[.int .u64 (now : Int)] :: Ce w.heap.size 26 #[.pointer (some ⟨g, 0, none⟩)] :: Ce g 72 #[.int .u64 0, .slice none 0 0, .int .u64 0, .int .i64 sn, .int .u64 (si : Int), .int .i64 peer, .int .u64 (conn : Int), .int .u64 (finc : Int), .int .u64 (fconn : Int), .bool true, .int .u64 (now : Int), .int .u64 (sent : Int)] :: Qy)) := Lib.hid (by
              rw [← HQy.out]
              have hx := hs13.toFront 4 rfl
              have hx := hx.toFront 9 rfl
              have hx := hx.toFront 9 rfl
              have hx := hx.toFront 9 rfl
              have hx := hx.toFront 9 rfl
              have hx := hx.toFront 6 rfl
              have hx := hx.toFront 9 rfl
              exact hx)
            clear HS13 hs13
            have HP20 : ∀ (dn : Nat → Bool) (W : World), (if dn 13 = true then ∃ AB cB, Sep w0 W (Rw 51 10 (.slice none 0 0) 0 [] :: Ce (w.heap.size + 1 + 1 + 1 + 1) 43 #[.slice none 0 0, .slice AE 1 cE] :: Ce (w.heap.size + 1 + 1 + 1) 43 #[.slice none 0 0, .slice none 0 0] :: Ce (w.heap.size + 1 + 1) 51 #[.int .i64 1, .int .i64 peer, .int .i64 sn, .int .u64 (finc : Int), .int .u64 (fconn : Int), .int .u64 (si : Int), .int .u64 (conn : Int), .int .u64 0, .int .u64 (seq : Int), .slice A body.length c] :: Ce (w.heap.size + 1) 28 #[.int .u64 (now : Int)] :: Ce w.heap.size 26 #[.pointer (some ⟨g, 0, none⟩)] :: Ce g 72 #[.int .u64 0, .slice AB 0 cB, .int .u64 0, .int .i64 sn, .int .u64 (si : Int), .int .i64 peer, .int .u64 (conn : Int), .int .u64 (finc : Int), .int .u64 (fconn : Int), .bool true, .int .u64 (now : Int), .int .u64 (sent : Int)] :: Qy) else Sep w0 W (Rw 51 10 (.slice none 0 0) 0 [] :: Ce (w.heap.size + 1 + 1 + 1 + 1) 43 #[.slice none 0 0, .slice AE 1 cE] :: Ce (w.heap.size + 1 + 1 + 1) 43 #[.slice none 0 0, .slice none 0 0] :: Ce (w.heap.size + 1 + 1) 51 #[.int .i64 1, .int .i64 peer, .int .i64 sn, .int .u64 (finc : Int), .int .u64 (fconn : Int), .int .u64 (si : Int), .int .u64 (conn : Int), .int .u64 0, .int .u64 (seq : Int), .slice A body.length c] :: Ce (w.heap.size + 1) 28 #[.int .u64 (now : Int)] :: Ce w.heap.size 26 #[.pointer (some ⟨g, 0, none⟩)] :: Ce g 72 #[.int .u64 0, .slice none 0 0, .int .u64 0, .int .i64 sn, .int .u64 (si : Int), .int .i64 peer, .int .u64 (conn : Int), .int .u64 (finc : Int), .int .u64 (fconn : Int), .bool true, .int .u64 (now : Int), .int .u64 (sent : Int)] :: Qy)) → ∃ cs, Sep w0 W (Rw 51 10 (.slice none 0 0) 0 [] :: Ce (w.heap.size + 1 + 1 + 1 + 1) 43 #[.slice none 0 0, .slice AE 1 cE] :: Ce (w.heap.size + 1 + 1 + 1) 43 #[.slice none 0 0, .slice none 0 0] :: Ce (w.heap.size + 1 + 1) 51 #[.int .i64 1, .int .i64 peer, .int .i64 sn, .int .u64 (finc : Int), .int .u64 (fconn : Int), .int .u64 (si : Int), .int .u64 (conn : Int), .int .u64 0, .int .u64 (seq : Int), .slice A body.length c] :: Ce (w.heap.size + 1) 28 #[.int .u64 (now : Int)] :: Ce w.heap.size 26 #[.pointer (some ⟨g, 0, none⟩)] :: Ce g 72 cs :: Qy) := fun dn W h => by
              split at h
              · obtain ⟨_, _, h⟩ := h
                exact ⟨_, h⟩
              exact ⟨_, h⟩
            go_wp2_with fail
            refine wp_region_f (fun dn xv W => Sep w0 W (Rw 51 10 (.slice none 0 0) 0 [] :: Ce (w.heap.size + 1 + 1 + 1 + 1) 43 #[.slice none 0 0, .slice AE 1 cE] :: Ce (w.heap.size + 1 + 1 + 1) 43 #[.slice none 0 0, .slice none 0 0] :: Ce (w.heap.size + 1 + 1) 51 #[.int .i64 1, .int .i64 peer, .int .i64 sn, .int .u64 (finc : Int), .int .u64 (fconn : Int), .int .u64 (si : Int), .int .u64 (conn : Int), .int .u64 0, .int .u64 (seq : Int), .slice A body.length c] :: Ce (w.heap.size + 1) 28 #[.int .u64 (now : Int)] :: Ce w.heap.size 26 #[.pointer (some ⟨g, 0, none⟩)] :: Ce g 72 #[.int .u64 0, .slice none 0 0, .int .u64 0, .int .i64 sn, .int .u64 (si : Int), .int .i64 peer, .int .u64 (conn : Int), .int .u64 (finc : Int), .int .u64 (fconn : Int), .bool true, .int .u64 (now : Int), .int .u64 (sent : Int)] :: Qy)) (fun W W' => Below W.heap.size W W') [fun v _ => v = .pointer (some ⟨g, 0, none⟩), fun v _ => v = .pointer (some ⟨g, 0, none⟩), fun v _ => v = .pointer (some ⟨g, 0, none⟩), fun v _ => v = .pointer (some ⟨g, 0, none⟩), fun v _ => v = .int .u64 0, fun v _ => v = .pointer (some ⟨g, 0, none⟩), fun v _ => v = .int .u64 0, ZAt, fun v _ => v = .int .u64 0, fun v _ => True] (by kernel_rfl) (by kernel_rfl) (by kernel_rfl) (by kernel_rfl) (fun xv => by simpa using HS14.out.drew)
              (by exact ⟨fun _ _ _ _ h => h, fun _ _ _ _ h => h, fun _ _ _ _ h => h, fun _ _ _ _ h => h, fun _ _ _ _ h => h, fun _ _ _ _ h => h, fun _ _ _ _ h => h, fun v W W' hR h => h.below hR, fun _ _ _ _ h => h, fun _ _ _ _ h => h, trivial⟩) ?_ ?_
            · refine EachF.cons 1 rfl (fun dn xv W F hF hd hN hX hI H K hK => ?_) ?_
              · have f3 : F.tmps.getD 3 undef = .pointer (some ⟨w.heap.size, 0, none⟩) := (hF 3).trans (by kernel_rfl)
                have k5_0 := sep_ceAt (i := 5) hI rfl 0 rfl
                clear H hN hd hX hF
                refine on_plain rfl ?_
                go_simp
                exact hK.out _ _ rfl (Below.refl _ _) (by simpa [upB, upd] using hI)
              refine EachF.cons 2 rfl (fun dn xv W F hF hd hN hX hI H K hK => ?_) ?_
              · have h0 : xv 0 = .pointer (some ⟨g, 0, none⟩) := (H 0 (.edge (by kernel_rfl))).2
                have f143 : F.tmps.getD 143 undef = .pointer (some ⟨g, 0, none⟩) := (hF 143).trans (Eq.trans (by kernel_rfl) h0)
                clear H hN hd hX hF
                refine on_plain rfl ?_
                go_simp
                exact hK.out _ _ rfl (Below.refl _ _) (by simpa [upB, upd] using hI)
              refine EachF.cons 3 rfl (fun dn xv W F hF hd hN hX hI H K hK => ?_) ?_
              · have h1 : xv 1 = .pointer (some ⟨g, 0, none⟩) := (H 1 (.edge (by kernel_rfl))).2
                have f144 : F.tmps.getD 144 undef = .pointer (some ⟨g, 0, none⟩) := (hF 144).trans (Eq.trans (by kernel_rfl) h1)
                clear H hN hd hX hF
                refine on_plain rfl ?_
                go_simp
                exact hK.out _ _ rfl (Below.refl _ _) (by simpa [upB, upd] using hI)
              refine EachF.cons 4 rfl (fun dn xv W F hF hd hN hX hI H K hK => ?_) ?_
              · have h2 : xv 2 = .pointer (some ⟨g, 0, none⟩) := (H 2 (.edge (by kernel_rfl))).2
                have f145 : F.tmps.getD 145 undef = .pointer (some ⟨g, 0, none⟩) := (hF 145).trans (Eq.trans (by kernel_rfl) h2)
                clear H hN hd hX hF
                refine on_plain rfl ?_
                go_simp
                exact hK.out _ _ rfl (Below.refl _ _) (by simpa [upB, upd] using hI)
              refine EachF.cons 5 rfl (fun dn xv W F hF hd hN hX hI H K hK => ?_) ?_
              · have h3 : xv 3 = .pointer (some ⟨g, 0, none⟩) := (H 3 (.edge (by kernel_rfl))).2
                have f146 : F.tmps.getD 146 undef = .pointer (some ⟨g, 0, none⟩) := (hF 146).trans (Eq.trans (by kernel_rfl) h3)
                have k6_0 := sep_ceAt (i := 6) hI rfl 0 rfl
                clear H hN hd hX hF
                refine on_plain rfl ?_
                go_simp
                exact hK.out _ _ rfl (Below.refl _ _) (by simpa [upB, upd] using hI)
              refine EachF.cons 6 rfl (fun dn xv W F hF hd hN hX hI H K hK => ?_) ?_
              · have f3 : F.tmps.getD 3 undef = .pointer (some ⟨w.heap.size, 0, none⟩) := (hF 3).trans (by kernel_rfl)
                have k5_0 := sep_ceAt (i := 5) hI rfl 0 rfl
                clear H hN hd hX hF
                refine on_plain rfl ?_
                go_simp
                exact hK.out _ _ rfl (Below.refl _ _) (by simpa [upB, upd] using hI)
              refine EachF.cons 7 rfl (fun dn xv W F hF hd hN hX hI H K hK => ?_) ?_
              · have h5 : xv 5 = .pointer (some ⟨g, 0, none⟩) := (H 5 (.edge (by kernel_rfl))).2
                have f148 : F.tmps.getD 148 undef = .pointer (some ⟨g, 0, none⟩) := (hF 148).trans (Eq.trans (by kernel_rfl) h5)
                clear H hN hd hX hF
                refine on_plain rfl ?_
                go_simp
                refine (last0 W g (sep_ceAt (i := 6) hI rfl 0 rfl) (sep_ceAt (i := 6) hI rfl 1 rfl)).mono ?_
                rintro e W' ⟨rfl, hb⟩
                exact hK.out _ W' rfl hb (by simpa [upB, upd] using hI.grow hb)
              refine EachF.cons 8 rfl (fun dn xv W F hF hd hN hX hI H K hK => ?_) ?_
              · clear H hN hd hX hF
                refine on_plain rfl ?_
                go_simp
                exact hK.out _ _ (ZAt.new W) ((Below.refl _ _).alloc (Nat.le_refl _) _) (by simpa [upB, upd] using hI.alloc _)
              refine EachF.cons 9 rfl (fun dn xv W F hF hd hN hX hI H K hK => ?_) ?_
              · have h4 : xv 4 = .int .u64 0 := (H 4 (.edge (by kernel_rfl))).2
                have f147 : F.tmps.getD 147 undef = .int .u64 0 := (hF 147).trans (Eq.trans (by kernel_rfl) h4)
                clear H hN hd hX hF
                refine on_plain rfl ?_
                go_simp
                exact hK.out _ _ rfl (Below.refl _ _) (by simpa [upB, upd] using hI)
              refine EachF.cons 10 rfl (fun dn xv W F hF hd hN hX hI H K hK => ?_) ?_
              · have h7 := (H 7 (.edge (by kernel_rfl))).2
                simp only [Dl] at h7
                have f11 : F.tmps.getD 11 undef = xv 7 := (hF 11).trans (by kernel_rfl)
                have h6 : xv 6 = .int .u64 0 := (H 6 (.edge (by kernel_rfl))).2
                have f149 : F.tmps.getD 149 undef = .int .u64 0 := (hF 149).trans (Eq.trans (by kernel_rfl) h6)
                clear H hN hd hX hF
                refine on_plain rfl ?_
                obtain ⟨a, ea, hlt, ha⟩ := h7
                rw [ea] at f11
                have k0 : W.cell? ⟨a, 0, none⟩ = some (.int .u64 0) := by rw [cell_of_row W a 0 _ _ _ ha]; rfl
                have y0 : W.frozen? ⟨a, 0, none⟩ = false := by simp [World.frozen?, ha]
                have hb := ZAt.set ha
                go_simp
                exact hK.out undef _ trivial hb (by simpa [upB, upd] using hI.grow hb)
              exact EachF.nil
            · intro dn xv W hI H
              have q7 := (H 7 (of_decide_eq_true (by kernel_rfl))).2
              simp only [Dl] at q7
              have q8 : xv 8 = .int .u64 0 := (H 8 (of_decide_eq_true (by kernel_rfl))).2
              have hS : Sep w0 W (Rw 51 10 (.slice none 0 0) 0 [] :: Ce (w.heap.size + 1 + 1 + 1 + 1) 43 #[.slice none 0 0, .slice AE 1 cE] :: Ce (w.heap.size + 1 + 1 + 1) 43 #[.slice none 0 0, .slice none 0 0] :: Ce (w.heap.size + 1 + 1) 51 #[.int .i64 1, .int .i64 peer, .int .i64 sn, .int .u64 (finc : Int), .int .u64 (fconn : Int), .int .u64 (si : Int), .int .u64 (conn : Int), .int .u64 0, .int .u64 (seq : Int), .slice A body.length c] :: Ce (w.heap.size + 1) 28 #[.int .u64 (now : Int)] :: Ce w.heap.size 26 #[.pointer (some ⟨g, 0, none⟩)] :: Ce g 72 #[.int .u64 0, .slice none 0 0, .int .u64 0, .int .i64 sn, .int .u64 (si : Int), .int .i64 peer, .int .u64 (conn : Int), .int .u64 (finc : Int), .int .u64 (fconn : Int), .bool true, .int .u64 (now : Int), .int .u64 (sent : Int)] :: Qy) := hI
              clear H hI
              simp only [putAll, Act.put, List.setIfInBounds_toArray, List.set_cons_zero, List.set_cons_succ, Nat.reduceAdd, q8]
              clear q8
              clear q7
              have HS19 := Lib.hid hS
              clear hS
              obtain ⟨W19, HW19⟩ : ∃ x, Hid (W = x) := ⟨_, Lib.hid rfl⟩
              rw [HW19.out] at HS19 ⊢
              go_wp2_with fail
              refine wp_region_f (fun dn xv W => if dn 13 = true then ∃ AB cB, Sep w0 W (Rw 51 10 (.slice none 0 0) 0 [] :: Ce (w.heap.size + 1 + 1 + 1 + 1) 43 #[.slice none 0 0, .slice AE 1 cE] :: Ce (w.heap.size + 1 + 1 + 1) 43 #[.slice none 0 0, .slice none 0 0] :: Ce (w.heap.size + 1 + 1) 51 #[.int .i64 1, .int .i64 peer, .int .i64 sn, .int .u64 (finc : Int), .int .u64 (fconn : Int), .int .u64 (si : Int), .int .u64 (conn : Int), .int .u64 0, .int .u64 (seq : Int), .slice A body.length c] :: Ce (w.heap.size + 1) 28 #[.int .u64 (now : Int)] :: Ce w.heap.size 26 #[.pointer (some ⟨g, 0, none⟩)] :: Ce g 72 #[.int .u64 0, .slice AB 0 cB, .int .u64 0, .int .i64 sn, .int .u64 (si : Int), .int .i64 peer, .int .u64 (conn : Int), .int .u64 (finc : Int), .int .u64 (fconn : Int), .bool true, .int .u64 (now : Int), .int .u64 (sent : Int)] :: Qy) else Sep w0 W (Rw 51 10 (.slice none 0 0) 0 [] :: Ce (w.heap.size + 1 + 1 + 1 + 1) 43 #[.slice none 0 0, .slice AE 1 cE] :: Ce (w.heap.size + 1 + 1 + 1) 43 #[.slice none 0 0, .slice none 0 0] :: Ce (w.heap.size + 1 + 1) 51 #[.int .i64 1, .int .i64 peer, .int .i64 sn, .int .u64 (finc : Int), .int .u64 (fconn : Int), .int .u64 (si : Int), .int .u64 (conn : Int), .int .u64 0, .int .u64 (seq : Int), .slice A body.length c] :: Ce (w.heap.size + 1) 28 #[.int .u64 (now : Int)] :: Ce w.heap.size 26 #[.pointer (some ⟨g, 0, none⟩)] :: Ce g 72 #[.int .u64 0, .slice none 0 0, .int .u64 0, .int .i64 sn, .int .u64 (si : Int), .int .i64 peer, .int .u64 (conn : Int), .int .u64 (finc : Int), .int .u64 (fconn : Int), .bool true, .int .u64 (now : Int), .int .u64 (sent : Int)] :: Qy)) (fun _ _ => True) [fun v _ => v = .pointer (some ⟨g, 0, none⟩), fun v _ => v = .pointer (some ⟨g, 0, none⟩), fun v _ => v = .pointer (some ⟨g, 0, none⟩), fun v _ => v = .pointer (some ⟨g, 0, none⟩), fun v _ => v = .agg #[.int .u64 0, .slice none 0 0], fun v _ => v = .pointer (some ⟨w.heap.size + 1 + 1, 7, none⟩), fun v _ => v = .int .u64 0, fun v _ => ∃ AB cB, v = .tuple #[.agg #[.int .u64 0, .slice AB 0 cB], .bool false], fun v _ => ∃ AB cB, v = .tuple #[.agg #[.int .u64 0, .slice AB 0 cB], .bool false], fun v _ => ∃ AB cB, v = .agg #[.int .u64 0, .slice AB 0 cB], fun v _ => v = .bool false, fun v _ => v = .pointer (some ⟨g, 0, none⟩), fun v _ => v = .pointer (some ⟨g, 0, none⟩), fun v _ => True] (by kernel_rfl) (by kernel_rfl) (by kernel_rfl) (by kernel_rfl) (fun xv => by simpa using HS19.out.drew)
                (by exact ⟨fun _ _ _ _ h => h, fun _ _ _ _ h => h, fun _ _ _ _ h => h, fun _ _ _ _ h => h, fun _ _ _ _ h => h, fun _ _ _ _ h => h, fun _ _ _ _ h => h, fun _ _ _ _ h => h, fun _ _ _ _ h => h, fun _ _ _ _ h => h, fun _ _ _ _ h => h, fun _ _ _ _ h => h, fun _ _ _ _ h => h, fun _ _ _ _ h => h, trivial⟩) ?_ ?_
              · refine EachF.cons 1 rfl (fun dn xv W F hF hd hN hX hI H K hK => ?_) ?_
                · have f3 : F.tmps.getD 3 undef = .pointer (some ⟨w.heap.size, 0, none⟩) := (hF 3).trans (by kernel_rfl)
                  obtain ⟨_, hp⟩ := HP20 dn W hI
                  have k5_0 := sep_ceAt (i := 5) hp rfl 0 rfl
                  clear H hN hd hX hF
                  refine on_plain rfl ?_
                  go_simp
                  exact hK.out _ _ rfl trivial (by simpa [upB, upd] using hI)
                refine EachF.cons 2 rfl (fun dn xv W F hF hd hN hX hI H K hK => ?_) ?_
                · have f3 : F.tmps.getD 3 undef = .pointer (some ⟨w.heap.size, 0, none⟩) := (hF 3).trans (by kernel_rfl)
                  obtain ⟨_, hp⟩ := HP20 dn W hI
                  have k5_0 := sep_ceAt (i := 5) hp rfl 0 rfl
                  clear H hN hd hX hF
                  refine on_plain rfl ?_
                  go_simp
                  exact hK.out _ _ rfl trivial (by simpa [upB, upd] using hI)
                refine EachF.cons 3 rfl (fun dn xv W F hF hd hN hX hI H K hK => ?_) ?_
                · have h1 : xv 1 = .pointer (some ⟨g, 0, none⟩) := (H 1 (.edge (by kernel_rfl))).2
                  have f152 : F.tmps.getD 152 undef = .pointer (some ⟨g, 0, none⟩) := (hF 152).trans (Eq.trans (by kernel_rfl) h1)
                  clear H hN hd hX hF
                  refine on_plain rfl ?_
                  go_simp
                  exact hK.out _ _ rfl trivial (by simpa [upB, upd] using hI)
                refine EachF.cons 4 rfl (fun dn xv W F hF hd hN hX hI H K hK => ?_) ?_
                · have h2 : xv 2 = .pointer (some ⟨g, 0, none⟩) := (H 2 (.edge (by kernel_rfl))).2
                  have f153 : F.tmps.getD 153 undef = .pointer (some ⟨g, 0, none⟩) := (hF 153).trans (Eq.trans (by kernel_rfl) h2)
                  clear H hN hd hX hF
                  refine on_plain rfl ?_
                  go_simp
                  exact hK.out _ _ rfl trivial (by simpa [upB, upd] using hI)
                refine EachF.cons 5 rfl (fun dn xv W F hF hd hN hX hI H K hK => ?_) ?_
                · have h3 : xv 3 = .pointer (some ⟨g, 0, none⟩) := (H 3 (.edge (by kernel_rfl))).2
                  have f154 : F.tmps.getD 154 undef = .pointer (some ⟨g, 0, none⟩) := (hF 154).trans (Eq.trans (by kernel_rfl) h3)
                  have q13 : dn 13 = false := hN 13 (.more (j := 9) (by kernel_rfl) (.more (j := 8) (by kernel_rfl) (.more (j := 7) (by kernel_rfl) (.edge (by kernel_rfl)))))
                  rw [if_neg (by simp [q13])] at hI
                  have kg0 := sep_ceAt (i := 6) hI rfl 0 rfl
                  have kg1 := sep_ceAt (i := 6) hI rfl 1 rfl
                  clear H hN hd hX hF
                  refine on_plain rfl ?_
                  go_simp
                  exact hK.out _ W rfl trivial (by simpa [upB, upd, q13] using hI)
                refine EachF.cons 6 rfl (fun dn xv W F hF hd hN hX hI H K hK => ?_) ?_
                · have f5 : F.tmps.getD 5 undef = .pointer (some ⟨w.heap.size + 1 + 1, 0, none⟩) := (hF 5).trans (by kernel_rfl)
                  clear H hN hd hX hF
                  refine on_plain rfl ?_
                  go_simp
                  exact hK.out _ _ rfl trivial (by simpa [upB, upd] using hI)
                refine EachF.cons 7 rfl (fun dn xv W F hF hd hN hX hI H K hK => ?_) ?_
                · have h5 : xv 5 = .pointer (some ⟨w.heap.size + 1 + 1, 7, none⟩) := (H 5 (.edge (by kernel_rfl))).2
                  have f156 : F.tmps.getD 156 undef = .pointer (some ⟨w.heap.size + 1 + 1, 7, none⟩) := (hF 156).trans (Eq.trans (by kernel_rfl) h5)
                  obtain ⟨_, hp⟩ := HP20 dn W hI
                  have k3_7 := sep_ceAt (i := 3) hp rfl 7 rfl
                  clear H hN hd hX hF
                  refine on_plain rfl ?_
                  go_simp
                  exact hK.out _ _ rfl trivial (by simpa [upB, upd] using hI)
                refine EachF.cons 8 rfl (fun dn xv W F hF hd hN hX hI H K hK => ?_) ?_
                · have h4 : xv 4 = .agg #[.int .u64 0, .slice none 0 0] := (H 4 (.edge (by kernel_rfl))).2
                  have f155 : F.tmps.getD 155 undef = .agg #[.int .u64 0, .slice none 0 0] := (hF 155).trans (Eq.trans (by kernel_rfl) h4)
                  have h6 : xv 6 = .int .u64 0 := (H 6 (.edge (by kernel_rfl))).2
                  have f157 : F.tmps.getD 157 undef = .int .u64 0 := (hF 157).trans (Eq.trans (by kernel_rfl) h6)
                  have q13 : dn 13 = false := hN 13 (.more (j := 9) (by kernel_rfl) (.more (j := 8) (by kernel_rfl) (.edge (by kernel_rfl))))
                  rw [if_neg (by simp [q13])] at hI
                  clear H hN hd hX hF
                  refine on_plain rfl ?_
                  go_simp
                  refine (acked0 W).mono ?_
                  rintro e W' ⟨Av, cv, rfl, hb⟩
                  exact hK.out _ W' ⟨Av, cv, rfl⟩ trivial (by simpa [upB, upd, q13] using hI.grow hb)
                refine EachF.cons 9 rfl (fun dn xv W F hF hd hN hX hI H K hK => ?_) ?_
                · have h7 := (H 7 (.edge (by kernel_rfl))).2
                  simp only [Dl] at h7
                  have f158 : F.tmps.getD 158 undef = xv 7 := (hF 158).trans (by kernel_rfl)
                  obtain ⟨Av, cv, ev⟩ := h7
                  rw [ev] at f158
                  clear H hN hd hX hF
                  refine on_plain rfl ?_
                  go_simp
                  exact hK.out _ W ⟨_, _, rfl⟩ trivial (by simpa [upB, upd] using hI)
                refine EachF.cons 10 rfl (fun dn xv W F hF hd hN hX hI H K hK => ?_) ?_
                · have h8 := (H 8 (.edge (by kernel_rfl))).2
                  simp only [Dl] at h8
                  have f150 : F.tmps.getD 150 undef = xv 8 := (hF 150).trans (by kernel_rfl)
                  obtain ⟨Av, cv, ev⟩ := h8
                  rw [ev] at f150
                  clear H hN hd hX hF
                  refine on_plain rfl ?_
                  go_simp
                  exact hK.out _ W ⟨_, _, rfl⟩ trivial (by simpa [upB, upd] using hI)
                refine EachF.cons 11 rfl (fun dn xv W F hF hd hN hX hI H K hK => ?_) ?_
                · have h8 := (H 8 (.edge (by kernel_rfl))).2
                  simp only [Dl] at h8
                  have f150 : F.tmps.getD 150 undef = xv 8 := (hF 150).trans (by kernel_rfl)
                  obtain ⟨Av, cv, ev⟩ := h8
                  rw [ev] at f150
                  clear H hN hd hX hF
                  refine on_plain rfl ?_
                  go_simp
                  exact hK.out _ _ rfl trivial (by simpa [upB, upd] using hI)
                refine EachF.cons 12 rfl (fun dn xv W F hF hd hN hX hI H K hK => ?_) ?_
                · have h0 : xv 0 = .pointer (some ⟨g, 0, none⟩) := (H 0 (.edge (by kernel_rfl))).2
                  have f151 : F.tmps.getD 151 undef = .pointer (some ⟨g, 0, none⟩) := (hF 151).trans (Eq.trans (by kernel_rfl) h0)
                  clear H hN hd hX hF
                  refine on_plain rfl ?_
                  go_simp
                  exact hK.out _ _ rfl trivial (by simpa [upB, upd] using hI)
                refine EachF.cons 13 rfl (fun dn xv W F hF hd hN hX hI H K hK => ?_) ?_
                · have h11 : xv 11 = .pointer (some ⟨g, 0, none⟩) := (H 11 (.edge (by kernel_rfl))).2
                  have f161 : F.tmps.getD 161 undef = .pointer (some ⟨g, 0, none⟩) := (hF 161).trans (Eq.trans (by kernel_rfl) h11)
                  clear H hN hd hX hF
                  refine on_plain rfl ?_
                  go_simp
                  exact hK.out _ _ rfl trivial (by simpa [upB, upd] using hI)
                refine EachF.cons 14 rfl (fun dn xv W F hF hd hN hX hI H K hK => ?_) ?_
                · have h9 := (H 9 (.edge (by kernel_rfl))).2
                  simp only [Dl] at h9
                  have f159 : F.tmps.getD 159 undef = xv 9 := (hF 159).trans (by kernel_rfl)
                  have h12 : xv 12 = .pointer (some ⟨g, 0, none⟩) := (H 12 (.edge (by kernel_rfl))).2
                  have f162 : F.tmps.getD 162 undef = .pointer (some ⟨g, 0, none⟩) := (hF 162).trans (Eq.trans (by kernel_rfl) h12)
                  have hS : Sep w0 W (Rw 51 10 (.slice none 0 0) 0 [] :: Ce (w.heap.size + 1 + 1 + 1 + 1) 43 #[.slice none 0 0, .slice AE 1 cE] :: Ce (w.heap.size + 1 + 1 + 1) 43 #[.slice none 0 0, .slice none 0 0] :: Ce (w.heap.size + 1 + 1) 51 #[.int .i64 1, .int .i64 peer, .int .i64 sn, .int .u64 (finc : Int), .int .u64 (fconn : Int), .int .u64 (si : Int), .int .u64 (conn : Int), .int .u64 0, .int .u64 (seq : Int), .slice A body.length c] :: Ce (w.heap.size + 1) 28 #[.int .u64 (now : Int)] :: Ce w.heap.size 26 #[.pointer (some ⟨g, 0, none⟩)] :: Ce g 72 #[.int .u64 0, .slice none 0 0, .int .u64 0, .int .i64 sn, .int .u64 (si : Int), .int .i64 peer, .int .u64 (conn : Int), .int .u64 (finc : Int), .int .u64 (fconn : Int), .bool true, .int .u64 (now : Int), .int .u64 (sent : Int)] :: Qy) := by simpa [hd] using hI
                  clear hI hN hd hX hF H
                  refine on_plain rfl ?_
                  have hc0 := sep_ceAt (i := 6) hS rfl 0 rfl
                  have hc1 := sep_ceAt (i := 6) hS rfl 1 rfl
                  have hf0 := sep_ceFrozen (i := 6) hS rfl 0
                  have hf1 := sep_ceFrozen (i := 6) hS rfl 1
                  obtain ⟨Av, cv, ev⟩ := h9
                  rw [ev] at f159
                  have hs0 := sep_ceSet (i := 6) (sep_ceSet (i := 6) hS rfl 0 (.int .u64 0)) rfl 1 (.slice Av 0 cv)
                  have hs : ∃ AB cB, Sep w0 ((W.setCell ⟨g, 0, none⟩ (.int .u64 0)).setCell ⟨g, 1, none⟩ (.slice Av 0 cv)) (Rw 51 10 (.slice none 0 0) 0 [] :: Ce (w.heap.size + 1 + 1 + 1 + 1) 43 #[.slice none 0 0, .slice AE 1 cE] :: Ce (w.heap.size + 1 + 1 + 1) 43 #[.slice none 0 0, .slice none 0 0] :: Ce (w.heap.size + 1 + 1) 51 #[.int .i64 1, .int .i64 peer, .int .i64 sn, .int .u64 (finc : Int), .int .u64 (fconn : Int), .int .u64 (si : Int), .int .u64 (conn : Int), .int .u64 0, .int .u64 (seq : Int), .slice A body.length c] :: Ce (w.heap.size + 1) 28 #[.int .u64 (now : Int)] :: Ce w.heap.size 26 #[.pointer (some ⟨g, 0, none⟩)] :: Ce g 72 #[.int .u64 0, .slice AB 0 cB, .int .u64 0, .int .i64 sn, .int .u64 (si : Int), .int .i64 peer, .int .u64 (conn : Int), .int .u64 (finc : Int), .int .u64 (fconn : Int), .bool true, .int .u64 (now : Int), .int .u64 (sent : Int)] :: Qy) := ⟨_, _, hs0⟩
                  go_simp
                  exact hK.out undef _ trivial trivial (by simpa [upB, upd] using hs)
                exact EachF.nil
              · intro dn xv W hI H
                have qe : dn 13 = true := (H 13 (of_decide_eq_true (by kernel_rfl))).1
                have hS : ∃ AB cB, Sep w0 W (Rw 51 10 (.slice none 0 0) 0 [] :: Ce (w.heap.size + 1 + 1 + 1 + 1) 43 #[.slice none 0 0, .slice AE 1 cE] :: Ce (w.heap.size + 1 + 1 + 1) 43 #[.slice none 0 0, .slice none 0 0] :: Ce (w.heap.size + 1 + 1) 51 #[.int .i64 1, .int .i64 peer, .int .i64 sn, .int .u64 (finc : Int), .int .u64 (fconn : Int), .int .u64 (si : Int), .int .u64 (conn : Int), .int .u64 0, .int .u64 (seq : Int), .slice A body.length c] :: Ce (w.heap.size + 1) 28 #[.int .u64 (now : Int)] :: Ce w.heap.size 26 #[.pointer (some ⟨g, 0, none⟩)] :: Ce g 72 #[.int .u64 0, .slice AB 0 cB, .int .u64 0, .int .i64 sn, .int .u64 (si : Int), .int .i64 peer, .int .u64 (conn : Int), .int .u64 (finc : Int), .int .u64 (fconn : Int), .bool true, .int .u64 (now : Int), .int .u64 (sent : Int)] :: Qy) := by simpa [qe] using hI
                clear H hI qe
                simp only [putAll, Act.put, List.setIfInBounds_toArray, List.set_cons_zero, List.set_cons_succ, Nat.reduceAdd]
                obtain ⟨AB, cB, hS⟩ := hS
                have HS20 := Lib.hid hS
                clear hS
                have HHE := Lib.hid (fun (W : World) hh => hello_any W g 0 (.slice AB 0 cB) 0 sn si peer conn finc fconn true now sent hh)
                have kl := sep_ceAt (i := 5) HS20.out rfl 0 rfl
                have kf := sep_ceAt (i := 3) HS20.out rfl 0 rfl
                have kb := sep_ceAt (i := 6) HS20.out rfl 0 rfl
                obtain ⟨W20, HW20⟩ : ∃ x, Hid (W = x) := ⟨_, Lib.hid rfl⟩
                rw [HW20.out] at HS20 kl kf kb ⊢
                have HKO : ∀ (dn : Nat → Bool) (xv : Nat → Value) (W : World), (if dn 7 = true then ∃ vF, Sep w0 W (Rw 51 10 vF 1 xs :: Ce (w.heap.size + 1 + 1 + 1 + 1) 43 #[vF, .slice AE 1 cE] :: Ce (w.heap.size + 1 + 1 + 1) 43 #[.slice none 0 0, .slice none 0 0] :: Ce (w.heap.size + 1 + 1) 51 #[.int .i64 1, .int .i64 peer, .int .i64 sn, .int .u64 (finc : Int), .int .u64 (fconn : Int), .int .u64 (si : Int), .int .u64 (conn : Int), .int .u64 0, .int .u64 (seq : Int), .slice A body.length c] :: Ce (w.heap.size + 1) 28 #[.int .u64 (now : Int)] :: Ce w.heap.size 26 #[.pointer (some ⟨g, 0, none⟩)] :: Ce g 72 #[.int .u64 0, .slice AB 0 cB, .int .u64 0, .int .i64 sn, .int .u64 (si : Int), .int .i64 peer, .int .u64 (conn : Int), .int .u64 (finc : Int), .int .u64 (fconn : Int), .bool true, .int .u64 (now : Int), .int .u64 (sent : Int)] :: Qy) else if dn 5 = true then Sep w0 W (Rw 51 10 (xv 5) 1 xs :: Ce (w.heap.size + 1 + 1 + 1 + 1) 43 #[.slice none 0 0, .slice AE 1 cE] :: Ce (w.heap.size + 1 + 1 + 1) 43 #[.slice none 0 0, .slice none 0 0] :: Ce (w.heap.size + 1 + 1) 51 #[.int .i64 1, .int .i64 peer, .int .i64 sn, .int .u64 (finc : Int), .int .u64 (fconn : Int), .int .u64 (si : Int), .int .u64 (conn : Int), .int .u64 0, .int .u64 (seq : Int), .slice A body.length c] :: Ce (w.heap.size + 1) 28 #[.int .u64 (now : Int)] :: Ce w.heap.size 26 #[.pointer (some ⟨g, 0, none⟩)] :: Ce g 72 #[.int .u64 0, .slice AB 0 cB, .int .u64 0, .int .i64 sn, .int .u64 (si : Int), .int .i64 peer, .int .u64 (conn : Int), .int .u64 (finc : Int), .int .u64 (fconn : Int), .bool true, .int .u64 (now : Int), .int .u64 (sent : Int)] :: Qy) else if dn 4 = true then Sep w0 W (Rw 51 10 (.slice none 0 0) 0 [] :: Ce (w.heap.size + 1 + 1 + 1 + 1) 43 #[.slice none 0 0, .slice AE 1 cE] :: Ce (w.heap.size + 1 + 1 + 1) 43 #[.slice none 0 0, .slice none 0 0] :: Ce (w.heap.size + 1 + 1) 51 #[.int .i64 1, .int .i64 peer, .int .i64 sn, .int .u64 (finc : Int), .int .u64 (fconn : Int), .int .u64 (si : Int), .int .u64 (conn : Int), .int .u64 0, .int .u64 (seq : Int), .slice A body.length c] :: Ce (w.heap.size + 1) 28 #[.int .u64 (now : Int)] :: Ce w.heap.size 26 #[.pointer (some ⟨g, 0, none⟩)] :: Ce g 72 #[.int .u64 0, .slice AB 0 cB, .int .u64 0, .int .i64 sn, .int .u64 (si : Int), .int .i64 peer, .int .u64 (conn : Int), .int .u64 (finc : Int), .int .u64 (fconn : Int), .bool true, .int .u64 (now : Int), .int .u64 (sent : Int)] :: Qy) ∧ OneF xs (xv 4) W else if dn 3 = true then Sep w0 W (Rw 51 10 (.slice none 0 0) 0 [] :: Ce (w.heap.size + 1 + 1 + 1 + 1) 43 #[.slice none 0 0, .slice AE 1 cE] :: Ce (w.heap.size + 1 + 1 + 1) 43 #[.slice none 0 0, .slice none 0 0] :: Ce (w.heap.size + 1 + 1) 51 #[.int .i64 1, .int .i64 peer, .int .i64 sn, .int .u64 (finc : Int), .int .u64 (fconn : Int), .int .u64 (si : Int), .int .u64 (conn : Int), .int .u64 0, .int .u64 (seq : Int), .slice A body.length c] :: Ce (w.heap.size + 1) 28 #[.int .u64 (now : Int)] :: Ce w.heap.size 26 #[.pointer (some ⟨g, 0, none⟩)] :: Ce g 72 #[.int .u64 0, .slice AB 0 cB, .int .u64 0, .int .i64 sn, .int .u64 (si : Int), .int .i64 peer, .int .u64 (conn : Int), .int .u64 (finc : Int), .int .u64 (fconn : Int), .bool true, .int .u64 (now : Int), .int .u64 (sent : Int)] :: Qy) else Sep w0 W (Rw 51 10 (.slice none 0 0) 0 [] :: Ce (w.heap.size + 1 + 1 + 1 + 1) 43 #[.slice none 0 0, .slice AE 1 cE] :: Ce (w.heap.size + 1 + 1 + 1) 43 #[.slice none 0 0, .slice none 0 0] :: Ce (w.heap.size + 1 + 1) 51 #[.int .i64 1, .int .i64 peer, .int .i64 sn, .int .u64 (finc : Int), .int .u64 (fconn : Int), .int .u64 (si : Int), .int .u64 (conn : Int), .int .u64 0, .int .u64 (seq : Int), .slice A body.length c] :: Ce (w.heap.size + 1) 28 #[.int .u64 (now : Int)] :: Ce w.heap.size 26 #[.pointer (some ⟨g, 0, none⟩)] :: Ce g 72 #[.int .u64 0, .slice AB 0 cB, .int .u64 0, .int .i64 sn, .int .u64 (si : Int), .int .i64 peer, .int .u64 (conn : Int), .int .u64 (finc : Int), .int .u64 (fconn : Int), .bool true, .int .u64 (now : Int), .int .u64 (sent : Int)] :: Qy)) → dn 7 = false → W.cell? ⟨w.heap.size + 1 + 1 + 1 + 1, 0, none⟩ = some (.slice none 0 0) := fun dn xv W h h0 => by
                  rw [if_neg (by simp [h0])] at h
                  split at h
                  · exact sep_ceAt (i := 1) h rfl 0 rfl
                  split at h
                  · exact sep_ceAt (i := 1) h.1 rfl 0 rfl
                  split at h
                  · exact sep_ceAt (i := 1) h rfl 0 rfl
                  exact sep_ceAt (i := 1) h rfl 0 rfl
                have HKL : ∀ (dn : Nat → Bool) (xv : Nat → Value) (W : World), (if dn 7 = true then ∃ vF, Sep w0 W (Rw 51 10 vF 1 xs :: Ce (w.heap.size + 1 + 1 + 1 + 1) 43 #[vF, .slice AE 1 cE] :: Ce (w.heap.size + 1 + 1 + 1) 43 #[.slice none 0 0, .slice none 0 0] :: Ce (w.heap.size + 1 + 1) 51 #[.int .i64 1, .int .i64 peer, .int .i64 sn, .int .u64 (finc : Int), .int .u64 (fconn : Int), .int .u64 (si : Int), .int .u64 (conn : Int), .int .u64 0, .int .u64 (seq : Int), .slice A body.length c] :: Ce (w.heap.size + 1) 28 #[.int .u64 (now : Int)] :: Ce w.heap.size 26 #[.pointer (some ⟨g, 0, none⟩)] :: Ce g 72 #[.int .u64 0, .slice AB 0 cB, .int .u64 0, .int .i64 sn, .int .u64 (si : Int), .int .i64 peer, .int .u64 (conn : Int), .int .u64 (finc : Int), .int .u64 (fconn : Int), .bool true, .int .u64 (now : Int), .int .u64 (sent : Int)] :: Qy) else if dn 5 = true then Sep w0 W (Rw 51 10 (xv 5) 1 xs :: Ce (w.heap.size + 1 + 1 + 1 + 1) 43 #[.slice none 0 0, .slice AE 1 cE] :: Ce (w.heap.size + 1 + 1 + 1) 43 #[.slice none 0 0, .slice none 0 0] :: Ce (w.heap.size + 1 + 1) 51 #[.int .i64 1, .int .i64 peer, .int .i64 sn, .int .u64 (finc : Int), .int .u64 (fconn : Int), .int .u64 (si : Int), .int .u64 (conn : Int), .int .u64 0, .int .u64 (seq : Int), .slice A body.length c] :: Ce (w.heap.size + 1) 28 #[.int .u64 (now : Int)] :: Ce w.heap.size 26 #[.pointer (some ⟨g, 0, none⟩)] :: Ce g 72 #[.int .u64 0, .slice AB 0 cB, .int .u64 0, .int .i64 sn, .int .u64 (si : Int), .int .i64 peer, .int .u64 (conn : Int), .int .u64 (finc : Int), .int .u64 (fconn : Int), .bool true, .int .u64 (now : Int), .int .u64 (sent : Int)] :: Qy) else if dn 4 = true then Sep w0 W (Rw 51 10 (.slice none 0 0) 0 [] :: Ce (w.heap.size + 1 + 1 + 1 + 1) 43 #[.slice none 0 0, .slice AE 1 cE] :: Ce (w.heap.size + 1 + 1 + 1) 43 #[.slice none 0 0, .slice none 0 0] :: Ce (w.heap.size + 1 + 1) 51 #[.int .i64 1, .int .i64 peer, .int .i64 sn, .int .u64 (finc : Int), .int .u64 (fconn : Int), .int .u64 (si : Int), .int .u64 (conn : Int), .int .u64 0, .int .u64 (seq : Int), .slice A body.length c] :: Ce (w.heap.size + 1) 28 #[.int .u64 (now : Int)] :: Ce w.heap.size 26 #[.pointer (some ⟨g, 0, none⟩)] :: Ce g 72 #[.int .u64 0, .slice AB 0 cB, .int .u64 0, .int .i64 sn, .int .u64 (si : Int), .int .i64 peer, .int .u64 (conn : Int), .int .u64 (finc : Int), .int .u64 (fconn : Int), .bool true, .int .u64 (now : Int), .int .u64 (sent : Int)] :: Qy) ∧ OneF xs (xv 4) W else if dn 3 = true then Sep w0 W (Rw 51 10 (.slice none 0 0) 0 [] :: Ce (w.heap.size + 1 + 1 + 1 + 1) 43 #[.slice none 0 0, .slice AE 1 cE] :: Ce (w.heap.size + 1 + 1 + 1) 43 #[.slice none 0 0, .slice none 0 0] :: Ce (w.heap.size + 1 + 1) 51 #[.int .i64 1, .int .i64 peer, .int .i64 sn, .int .u64 (finc : Int), .int .u64 (fconn : Int), .int .u64 (si : Int), .int .u64 (conn : Int), .int .u64 0, .int .u64 (seq : Int), .slice A body.length c] :: Ce (w.heap.size + 1) 28 #[.int .u64 (now : Int)] :: Ce w.heap.size 26 #[.pointer (some ⟨g, 0, none⟩)] :: Ce g 72 #[.int .u64 0, .slice AB 0 cB, .int .u64 0, .int .i64 sn, .int .u64 (si : Int), .int .i64 peer, .int .u64 (conn : Int), .int .u64 (finc : Int), .int .u64 (fconn : Int), .bool true, .int .u64 (now : Int), .int .u64 (sent : Int)] :: Qy) else Sep w0 W (Rw 51 10 (.slice none 0 0) 0 [] :: Ce (w.heap.size + 1 + 1 + 1 + 1) 43 #[.slice none 0 0, .slice AE 1 cE] :: Ce (w.heap.size + 1 + 1 + 1) 43 #[.slice none 0 0, .slice none 0 0] :: Ce (w.heap.size + 1 + 1) 51 #[.int .i64 1, .int .i64 peer, .int .i64 sn, .int .u64 (finc : Int), .int .u64 (fconn : Int), .int .u64 (si : Int), .int .u64 (conn : Int), .int .u64 0, .int .u64 (seq : Int), .slice A body.length c] :: Ce (w.heap.size + 1) 28 #[.int .u64 (now : Int)] :: Ce w.heap.size 26 #[.pointer (some ⟨g, 0, none⟩)] :: Ce g 72 #[.int .u64 0, .slice AB 0 cB, .int .u64 0, .int .i64 sn, .int .u64 (si : Int), .int .i64 peer, .int .u64 (conn : Int), .int .u64 (finc : Int), .int .u64 (fconn : Int), .bool true, .int .u64 (now : Int), .int .u64 (sent : Int)] :: Qy)) → W.cell? ⟨w.heap.size, 0, none⟩ = some (.pointer (some ⟨g, 0, none⟩)) := fun dn xv W h => by
                  split at h
                  · obtain ⟨vF, h⟩ := h
                    exact sep_ceAt (i := 5) h rfl 0 rfl
                  split at h
                  · exact sep_ceAt (i := 5) h rfl 0 rfl
                  split at h
                  · exact sep_ceAt (i := 5) h.1 rfl 0 rfl
                  split at h
                  · exact sep_ceAt (i := 5) h rfl 0 rfl
                  exact sep_ceAt (i := 5) h rfl 0 rfl
                go_wp2_with fail
                clear kl kf kb
                refine wp_region_f (fun dn xv W => if dn 7 = true then ∃ vF, Sep w0 W (Rw 51 10 vF 1 xs :: Ce (w.heap.size + 1 + 1 + 1 + 1) 43 #[vF, .slice AE 1 cE] :: Ce (w.heap.size + 1 + 1 + 1) 43 #[.slice none 0 0, .slice none 0 0] :: Ce (w.heap.size + 1 + 1) 51 #[.int .i64 1, .int .i64 peer, .int .i64 sn, .int .u64 (finc : Int), .int .u64 (fconn : Int), .int .u64 (si : Int), .int .u64 (conn : Int), .int .u64 0, .int .u64 (seq : Int), .slice A body.length c] :: Ce (w.heap.size + 1) 28 #[.int .u64 (now : Int)] :: Ce w.heap.size 26 #[.pointer (some ⟨g, 0, none⟩)] :: Ce g 72 #[.int .u64 0, .slice AB 0 cB, .int .u64 0, .int .i64 sn, .int .u64 (si : Int), .int .i64 peer, .int .u64 (conn : Int), .int .u64 (finc : Int), .int .u64 (fconn : Int), .bool true, .int .u64 (now : Int), .int .u64 (sent : Int)] :: Qy) else if dn 5 = true then Sep w0 W (Rw 51 10 (xv 5) 1 xs :: Ce (w.heap.size + 1 + 1 + 1 + 1) 43 #[.slice none 0 0, .slice AE 1 cE] :: Ce (w.heap.size + 1 + 1 + 1) 43 #[.slice none 0 0, .slice none 0 0] :: Ce (w.heap.size + 1 + 1) 51 #[.int .i64 1, .int .i64 peer, .int .i64 sn, .int .u64 (finc : Int), .int .u64 (fconn : Int), .int .u64 (si : Int), .int .u64 (conn : Int), .int .u64 0, .int .u64 (seq : Int), .slice A body.length c] :: Ce (w.heap.size + 1) 28 #[.int .u64 (now : Int)] :: Ce w.heap.size 26 #[.pointer (some ⟨g, 0, none⟩)] :: Ce g 72 #[.int .u64 0, .slice AB 0 cB, .int .u64 0, .int .i64 sn, .int .u64 (si : Int), .int .i64 peer, .int .u64 (conn : Int), .int .u64 (finc : Int), .int .u64 (fconn : Int), .bool true, .int .u64 (now : Int), .int .u64 (sent : Int)] :: Qy) else if dn 4 = true then Sep w0 W (Rw 51 10 (.slice none 0 0) 0 [] :: Ce (w.heap.size + 1 + 1 + 1 + 1) 43 #[.slice none 0 0, .slice AE 1 cE] :: Ce (w.heap.size + 1 + 1 + 1) 43 #[.slice none 0 0, .slice none 0 0] :: Ce (w.heap.size + 1 + 1) 51 #[.int .i64 1, .int .i64 peer, .int .i64 sn, .int .u64 (finc : Int), .int .u64 (fconn : Int), .int .u64 (si : Int), .int .u64 (conn : Int), .int .u64 0, .int .u64 (seq : Int), .slice A body.length c] :: Ce (w.heap.size + 1) 28 #[.int .u64 (now : Int)] :: Ce w.heap.size 26 #[.pointer (some ⟨g, 0, none⟩)] :: Ce g 72 #[.int .u64 0, .slice AB 0 cB, .int .u64 0, .int .i64 sn, .int .u64 (si : Int), .int .i64 peer, .int .u64 (conn : Int), .int .u64 (finc : Int), .int .u64 (fconn : Int), .bool true, .int .u64 (now : Int), .int .u64 (sent : Int)] :: Qy) ∧ OneF xs (xv 4) W else if dn 3 = true then Sep w0 W (Rw 51 10 (.slice none 0 0) 0 [] :: Ce (w.heap.size + 1 + 1 + 1 + 1) 43 #[.slice none 0 0, .slice AE 1 cE] :: Ce (w.heap.size + 1 + 1 + 1) 43 #[.slice none 0 0, .slice none 0 0] :: Ce (w.heap.size + 1 + 1) 51 #[.int .i64 1, .int .i64 peer, .int .i64 sn, .int .u64 (finc : Int), .int .u64 (fconn : Int), .int .u64 (si : Int), .int .u64 (conn : Int), .int .u64 0, .int .u64 (seq : Int), .slice A body.length c] :: Ce (w.heap.size + 1) 28 #[.int .u64 (now : Int)] :: Ce w.heap.size 26 #[.pointer (some ⟨g, 0, none⟩)] :: Ce g 72 #[.int .u64 0, .slice AB 0 cB, .int .u64 0, .int .i64 sn, .int .u64 (si : Int), .int .i64 peer, .int .u64 (conn : Int), .int .u64 (finc : Int), .int .u64 (fconn : Int), .bool true, .int .u64 (now : Int), .int .u64 (sent : Int)] :: Qy) else Sep w0 W (Rw 51 10 (.slice none 0 0) 0 [] :: Ce (w.heap.size + 1 + 1 + 1 + 1) 43 #[.slice none 0 0, .slice AE 1 cE] :: Ce (w.heap.size + 1 + 1 + 1) 43 #[.slice none 0 0, .slice none 0 0] :: Ce (w.heap.size + 1 + 1) 51 #[.int .i64 1, .int .i64 peer, .int .i64 sn, .int .u64 (finc : Int), .int .u64 (fconn : Int), .int .u64 (si : Int), .int .u64 (conn : Int), .int .u64 0, .int .u64 (seq : Int), .slice A body.length c] :: Ce (w.heap.size + 1) 28 #[.int .u64 (now : Int)] :: Ce w.heap.size 26 #[.pointer (some ⟨g, 0, none⟩)] :: Ce g 72 #[.int .u64 0, .slice AB 0 cB, .int .u64 0, .int .i64 sn, .int .u64 (si : Int), .int .i64 peer, .int .u64 (conn : Int), .int .u64 (finc : Int), .int .u64 (fconn : Int), .bool true, .int .u64 (now : Int), .int .u64 (sent : Int)] :: Qy)) (fun _ _ => True) [fun v _ => v = .pointer (some ⟨w.heap.size + 1 + 1 + 1 + 1, 0, none⟩), fun v _ => v = .slice none 0 0, fun v _ => v = .pointer (some ⟨g, 0, none⟩), fun v _ => v = .agg #[.int .i64 1, .int .i64 sn, .int .i64 peer, .int .u64 (si : Int), .int .u64 (conn : Int), .int .u64 (finc : Int), .int .u64 (fconn : Int), .int .u64 0, .int .u64 0, .slice none 0 0], fun v _ => True, fun v _ => True, fun v _ => v = .pointer (some ⟨w.heap.size + 1 + 1 + 1 + 1, 0, none⟩), fun v _ => True] (by kernel_rfl) (by kernel_rfl) (by kernel_rfl) (by kernel_rfl) (fun xv => by simpa using HS20.out.drew)
                  (by exact ⟨fun _ _ _ _ h => h, fun _ _ _ _ h => h, fun _ _ _ _ h => h, fun _ _ _ _ h => h, fun _ _ _ _ h => h, fun _ _ _ _ h => h, fun _ _ _ _ h => h, fun _ _ _ _ h => h, trivial⟩) ?_ ?_
                · refine EachF.cons 1 rfl (fun dn xv W F hF hd hN hX hI H K hK => ?_) ?_
                  · have f7 : F.tmps.getD 7 undef = .pointer (some ⟨w.heap.size + 1 + 1 + 1 + 1, 0, none⟩) := (hF 7).trans (by kernel_rfl)
                    clear H hN hd hX hF
                    refine on_plain rfl ?_
                    go_simp
                    exact hK.out _ _ rfl trivial (by simpa [upB, upd] using hI)
                  refine EachF.cons 2 rfl (fun dn xv W F hF hd hN hX hI H K hK => ?_) ?_
                  · have h0 : xv 0 = .pointer (some ⟨w.heap.size + 1 + 1 + 1 + 1, 0, none⟩) := (H 0 (.edge (by kernel_rfl))).2
                    have f217 : F.tmps.getD 217 undef = .pointer (some ⟨w.heap.size + 1 + 1 + 1 + 1, 0, none⟩) := (hF 217).trans (Eq.trans (by kernel_rfl) h0)
                    have kk := HKO dn xv W hI (hN 7 (.more (j := 5) (by kernel_rfl) (.edge (by kernel_rfl))))
                    clear H hN hd hX hF
                    refine on_plain rfl ?_
                    go_simp
                    exact hK.out _ _ rfl trivial (by simpa [upB, upd] using hI)
                  refine EachF.cons 3 rfl (fun dn xv W F hF hd hN hX hI H K hK => ?_) ?_
                  · have f3 : F.tmps.getD 3 undef = .pointer (some ⟨w.heap.size, 0, none⟩) := (hF 3).trans (by kernel_rfl)
                    have kl := HKL dn xv W hI
                    clear H hN hd hX hF
                    refine on_plain rfl ?_
                    go_simp
                    exact hK.out _ _ rfl trivial (by simpa [upB, upd] using hI)
                  refine EachF.cons 4 rfl (fun dn xv W F hF hd hN hX hI H K hK => ?_) ?_
                  · have h2 : xv 2 = .pointer (some ⟨g, 0, none⟩) := (H 2 (.edge (by kernel_rfl))).2
                    have f219 : F.tmps.getD 219 undef = .pointer (some ⟨g, 0, none⟩) := (hF 219).trans (Eq.trans (by kernel_rfl) h2)
                    have q4 : dn 4 = false := hN 4 (.edge (by kernel_rfl))
                    have q5 : dn 5 = false := hN 5 (.more (j := 4) (by kernel_rfl) (.edge (by kernel_rfl)))
                    have q7 : dn 7 = false := hN 7 (.more (j := 5) (by kernel_rfl) (.more (j := 4) (by kernel_rfl) (.edge (by kernel_rfl))))
                    have hS : Sep w0 W (Rw 51 10 (.slice none 0 0) 0 [] :: Ce (w.heap.size + 1 + 1 + 1 + 1) 43 #[.slice none 0 0, .slice AE 1 cE] :: Ce (w.heap.size + 1 + 1 + 1) 43 #[.slice none 0 0, .slice none 0 0] :: Ce (w.heap.size + 1 + 1) 51 #[.int .i64 1, .int .i64 peer, .int .i64 sn, .int .u64 (finc : Int), .int .u64 (fconn : Int), .int .u64 (si : Int), .int .u64 (conn : Int), .int .u64 0, .int .u64 (seq : Int), .slice A body.length c] :: Ce (w.heap.size + 1) 28 #[.int .u64 (now : Int)] :: Ce w.heap.size 26 #[.pointer (some ⟨g, 0, none⟩)] :: Ce g 72 #[.int .u64 0, .slice AB 0 cB, .int .u64 0, .int .i64 sn, .int .u64 (si : Int), .int .i64 peer, .int .u64 (conn : Int), .int .u64 (finc : Int), .int .u64 (fconn : Int), .bool true, .int .u64 (now : Int), .int .u64 (sent : Int)] :: Qy) := by simpa [hd, q4, q5, q7] using hI
                    clear hI hN hd hX hF H
                    refine on_plain rfl ?_
                    go_simp
                    refine (HHE.out W (sep_ceHeap (i := 6) hS rfl)).mono ?_
                    rintro e W' ⟨rfl, hb⟩
                    have hs : Sep w0 W' (Rw 51 10 (.slice none 0 0) 0 [] :: Ce (w.heap.size + 1 + 1 + 1 + 1) 43 #[.slice none 0 0, .slice AE 1 cE] :: Ce (w.heap.size + 1 + 1 + 1) 43 #[.slice none 0 0, .slice none 0 0] :: Ce (w.heap.size + 1 + 1) 51 #[.int .i64 1, .int .i64 peer, .int .i64 sn, .int .u64 (finc : Int), .int .u64 (fconn : Int), .int .u64 (si : Int), .int .u64 (conn : Int), .int .u64 0, .int .u64 (seq : Int), .slice A body.length c] :: Ce (w.heap.size + 1) 28 #[.int .u64 (now : Int)] :: Ce w.heap.size 26 #[.pointer (some ⟨g, 0, none⟩)] :: Ce g 72 #[.int .u64 0, .slice AB 0 cB, .int .u64 0, .int .i64 sn, .int .u64 (si : Int), .int .i64 peer, .int .u64 (conn : Int), .int .u64 (finc : Int), .int .u64 (fconn : Int), .bool true, .int .u64 (now : Int), .int .u64 (sent : Int)] :: Qy) := hS.grow hb
                    exact hK.out _ W' rfl trivial (by simpa [upB, upd, q4, q5, q7] using hs)
                  refine EachF.cons 5 rfl (fun dn xv W F hF hd hN hX hI H K hK => ?_) ?_
                  · have h3 : xv 3 = .agg #[.int .i64 1, .int .i64 sn, .int .i64 peer, .int .u64 (si : Int), .int .u64 (conn : Int), .int .u64 (finc : Int), .int .u64 (fconn : Int), .int .u64 0, .int .u64 0, .slice none 0 0] := (H 3 (.edge (by kernel_rfl))).2
                    have f220 : F.tmps.getD 220 undef = .agg #[.int .i64 1, .int .i64 sn, .int .i64 peer, .int .u64 (si : Int), .int .u64 (conn : Int), .int .u64 (finc : Int), .int .u64 (fconn : Int), .int .u64 0, .int .u64 0, .slice none 0 0] := (hF 220).trans (Eq.trans (by kernel_rfl) h3)
                    have q3 : dn 3 = true := (H 3 (.edge (by kernel_rfl))).1
                    have q5 : dn 5 = false := hN 5 (.edge (by kernel_rfl))
                    have q7 : dn 7 = false := hN 7 (.more (j := 5) (by kernel_rfl) (.edge (by kernel_rfl)))
                    have hS : Sep w0 W (Rw 51 10 (.slice none 0 0) 0 [] :: Ce (w.heap.size + 1 + 1 + 1 + 1) 43 #[.slice none 0 0, .slice AE 1 cE] :: Ce (w.heap.size + 1 + 1 + 1) 43 #[.slice none 0 0, .slice none 0 0] :: Ce (w.heap.size + 1 + 1) 51 #[.int .i64 1, .int .i64 peer, .int .i64 sn, .int .u64 (finc : Int), .int .u64 (fconn : Int), .int .u64 (si : Int), .int .u64 (conn : Int), .int .u64 0, .int .u64 (seq : Int), .slice A body.length c] :: Ce (w.heap.size + 1) 28 #[.int .u64 (now : Int)] :: Ce w.heap.size 26 #[.pointer (some ⟨g, 0, none⟩)] :: Ce g 72 #[.int .u64 0, .slice AB 0 cB, .int .u64 0, .int .i64 sn, .int .u64 (si : Int), .int .i64 peer, .int .u64 (conn : Int), .int .u64 (finc : Int), .int .u64 (fconn : Int), .bool true, .int .u64 (now : Int), .int .u64 (sent : Int)] :: Qy) := by simpa [hd, q5, q7, q3] using hI
                    clear hI hN hd hX hF H
                    refine on_plain rfl ?_
                    have g220 := f220
                    rw [Array.getD_eq_getD_getElem?] at g220
                    go_simp
                    have hb : Below W.heap.size W (W.alloc (.cells #[.int .i64 1, .int .i64 sn, .int .i64 peer, .int .u64 (si : Int), .int .u64 (conn : Int), .int .u64 (finc : Int), .int .u64 (fconn : Int), .int .u64 0, .int .u64 0, .slice none 0 0] 51)) := (Below.refl _ _).alloc (Nat.le_refl _) _
                    have hs : Sep w0 (W.alloc (.cells #[.int .i64 1, .int .i64 sn, .int .i64 peer, .int .u64 (si : Int), .int .u64 (conn : Int), .int .u64 (finc : Int), .int .u64 (fconn : Int), .int .u64 0, .int .u64 0, .slice none 0 0] 51)) (Rw 51 10 (.slice none 0 0) 0 [] :: Ce (w.heap.size + 1 + 1 + 1 + 1) 43 #[.slice none 0 0, .slice AE 1 cE] :: Ce (w.heap.size + 1 + 1 + 1) 43 #[.slice none 0 0, .slice none 0 0] :: Ce (w.heap.size + 1 + 1) 51 #[.int .i64 1, .int .i64 peer, .int .i64 sn, .int .u64 (finc : Int), .int .u64 (fconn : Int), .int .u64 (si : Int), .int .u64 (conn : Int), .int .u64 0, .int .u64 (seq : Int), .slice A body.length c] :: Ce (w.heap.size + 1) 28 #[.int .u64 (now : Int)] :: Ce w.heap.size 26 #[.pointer (some ⟨g, 0, none⟩)] :: Ce g 72 #[.int .u64 0, .slice AB 0 cB, .int .u64 0, .int .i64 sn, .int .u64 (si : Int), .int .i64 peer, .int .u64 (conn : Int), .int .u64 (finc : Int), .int .u64 (fconn : Int), .bool true, .int .u64 (now : Int), .int .u64 (sent : Int)] :: Qy) ∧ OneF xs (.slice (some ⟨W.heap.size, 0, none⟩) 1 1) (W.alloc (.cells #[.int .i64 1, .int .i64 sn, .int .i64 peer, .int .u64 (si : Int), .int .u64 (conn : Int), .int .u64 (finc : Int), .int .u64 (fconn : Int), .int .u64 0, .int .u64 0, .slice none 0 0] 51)) := ⟨hS.grow hb, HXS.out ▸ OneF.new W _⟩
                    exact hK.out _ _ trivial trivial (by simpa [upB, upd, q5, q7] using hs)
                  refine EachF.cons 6 rfl (fun dn xv W F hF hd hN hX hI H K hK => ?_) ?_
                  · have h1 : xv 1 = .slice none 0 0 := (H 1 (.edge (by kernel_rfl))).2
                    have f218 : F.tmps.getD 218 undef = .slice none 0 0 := (hF 218).trans (Eq.trans (by kernel_rfl) h1)
                    have h4 := (H 4 (.edge (by kernel_rfl))).2
                    simp only [Dl] at h4
                    have f221 : F.tmps.getD 221 undef = xv 4 := (hF 221).trans (by kernel_rfl)
                    have q4 : dn 4 = true := (H 4 (.edge (by kernel_rfl))).1
                    have q7 : dn 7 = false := hN 7 (.edge (by kernel_rfl))
                    have hS : Sep w0 W (Rw 51 10 (.slice none 0 0) 0 [] :: Ce (w.heap.size + 1 + 1 + 1 + 1) 43 #[.slice none 0 0, .slice AE 1 cE] :: Ce (w.heap.size + 1 + 1 + 1) 43 #[.slice none 0 0, .slice none 0 0] :: Ce (w.heap.size + 1 + 1) 51 #[.int .i64 1, .int .i64 peer, .int .i64 sn, .int .u64 (finc : Int), .int .u64 (fconn : Int), .int .u64 (si : Int), .int .u64 (conn : Int), .int .u64 0, .int .u64 (seq : Int), .slice A body.length c] :: Ce (w.heap.size + 1) 28 #[.int .u64 (now : Int)] :: Ce w.heap.size 26 #[.pointer (some ⟨g, 0, none⟩)] :: Ce g 72 #[.int .u64 0, .slice AB 0 cB, .int .u64 0, .int .i64 sn, .int .u64 (si : Int), .int .i64 peer, .int .u64 (conn : Int), .int .u64 (finc : Int), .int .u64 (fconn : Int), .bool true, .int .u64 (now : Int), .int .u64 (sent : Int)] :: Qy) ∧ OneF xs (xv 4) W := by simpa [hd, q7, q4] using hI
                    clear hI hN hd hX hF H
                    refine on_plain rfl ?_
                    obtain ⟨s1, A3, c3, e3, hl3, hh3⟩ := hS
                    have fex := f221.trans e3
                    refine sep_opAppW rowFrames (i := 0) (s := .tmp 218) (x := .tmp 221) (m := 1) (news := xs) (by rfl) f218 fex s1 rfl (by rw [hl3]) hh3 HX1.out (by unfold maxLen; omega) (by omega) ?_
                    intro v W' hs0
                    have hs : Sep w0 W' (Rw 51 10 v 1 xs :: Ce (w.heap.size + 1 + 1 + 1 + 1) 43 #[.slice none 0 0, .slice AE 1 cE] :: Ce (w.heap.size + 1 + 1 + 1) 43 #[.slice none 0 0, .slice none 0 0] :: Ce (w.heap.size + 1 + 1) 51 #[.int .i64 1, .int .i64 peer, .int .i64 sn, .int .u64 (finc : Int), .int .u64 (fconn : Int), .int .u64 (si : Int), .int .u64 (conn : Int), .int .u64 0, .int .u64 (seq : Int), .slice A body.length c] :: Ce (w.heap.size + 1) 28 #[.int .u64 (now : Int)] :: Ce w.heap.size 26 #[.pointer (some ⟨g, 0, none⟩)] :: Ce g 72 #[.int .u64 0, .slice AB 0 cB, .int .u64 0, .int .i64 sn, .int .u64 (si : Int), .int .i64 peer, .int .u64 (conn : Int), .int .u64 (finc : Int), .int .u64 (fconn : Int), .bool true, .int .u64 (now : Int), .int .u64 (sent : Int)] :: Qy) := hs0
                    exact hK.out v W' trivial trivial (by simpa [upB, upd, q7] using hs)
                  refine EachF.cons 7 rfl (fun dn xv W F hF hd hN hX hI H K hK => ?_) ?_
                  · have f7 : F.tmps.getD 7 undef = .pointer (some ⟨w.heap.size + 1 + 1 + 1 + 1, 0, none⟩) := (hF 7).trans (by kernel_rfl)
                    clear H hN hd hX hF
                    refine on_plain rfl ?_
                    go_simp
                    exact hK.out _ _ rfl trivial (by simpa [upB, upd] using hI)
                  refine EachF.cons 8 rfl (fun dn xv W F hF hd hN hX hI H K hK => ?_) ?_
                  · have h5 := (H 5 (.edge (by kernel_rfl))).2
                    simp only [Dl] at h5
                    have f222 : F.tmps.getD 222 undef = xv 5 := (hF 222).trans (by kernel_rfl)
                    have h6 : xv 6 = .pointer (some ⟨w.heap.size + 1 + 1 + 1 + 1, 0, none⟩) := (H 6 (.edge (by kernel_rfl))).2
                    have f223 : F.tmps.getD 223 undef = .pointer (some ⟨w.heap.size + 1 + 1 + 1 + 1, 0, none⟩) := (hF 223).trans (Eq.trans (by kernel_rfl) h6)
                    have q5 : dn 5 = true := (H 5 (.edge (by kernel_rfl))).1
                    have hS : Sep w0 W (Rw 51 10 (xv 5) 1 xs :: Ce (w.heap.size + 1 + 1 + 1 + 1) 43 #[.slice none 0 0, .slice AE 1 cE] :: Ce (w.heap.size + 1 + 1 + 1) 43 #[.slice none 0 0, .slice none 0 0] :: Ce (w.heap.size + 1 + 1) 51 #[.int .i64 1, .int .i64 peer, .int .i64 sn, .int .u64 (finc : Int), .int .u64 (fconn : Int), .int .u64 (si : Int), .int .u64 (conn : Int), .int .u64 0, .int .u64 (seq : Int), .slice A body.length c] :: Ce (w.heap.size + 1) 28 #[.int .u64 (now : Int)] :: Ce w.heap.size 26 #[.pointer (some ⟨g, 0, none⟩)] :: Ce g 72 #[.int .u64 0, .slice AB 0 cB, .int .u64 0, .int .i64 sn, .int .u64 (si : Int), .int .i64 peer, .int .u64 (conn : Int), .int .u64 (finc : Int), .int .u64 (fconn : Int), .bool true, .int .u64 (now : Int), .int .u64 (sent : Int)] :: Qy) := by simpa [hd, q5] using hI
                    clear hI hN hd hX hF H
                    refine on_plain rfl ?_
                    obtain ⟨A2, c2, e2, _⟩ := sep_rwForm (i := 0) hS rfl
                    have hc3 := sep_ceAt (i := 1) hS rfl 0 rfl
                    have hf3 := sep_ceFrozen (i := 1) hS rfl 0
                    rw [e2] at hS
                    have hs0 := sep_ceSet (i := 1) hS rfl 0 (.slice A2 1 c2)
                    have hs : ∃ vF, Sep w0 (W.setCell ⟨w.heap.size + 1 + 1 + 1 + 1, 0, none⟩ (.slice A2 1 c2)) (Rw 51 10 vF 1 xs :: Ce (w.heap.size + 1 + 1 + 1 + 1) 43 #[vF, .slice AE 1 cE] :: Ce (w.heap.size + 1 + 1 + 1) 43 #[.slice none 0 0, .slice none 0 0] :: Ce (w.heap.size + 1 + 1) 51 #[.int .i64 1, .int .i64 peer, .int .i64 sn, .int .u64 (finc : Int), .int .u64 (fconn : Int), .int .u64 (si : Int), .int .u64 (conn : Int), .int .u64 0, .int .u64 (seq : Int), .slice A body.length c] :: Ce (w.heap.size + 1) 28 #[.int .u64 (now : Int)] :: Ce w.heap.size 26 #[.pointer (some ⟨g, 0, none⟩)] :: Ce g 72 #[.int .u64 0, .slice AB 0 cB, .int .u64 0, .int .i64 sn, .int .u64 (si : Int), .int .i64 peer, .int .u64 (conn : Int), .int .u64 (finc : Int), .int .u64 (fconn : Int), .bool true, .int .u64 (now : Int), .int .u64 (sent : Int)] :: Qy) := ⟨_, hs0⟩
                    clear hs0
                    go_simp
                    exact hK.out undef _ trivial trivial (by simpa [upB, upd] using hs)
                  exact EachF.nil
                · intro dn xv W hI H
                  have qe : dn 7 = true := (H 7 (of_decide_eq_true (by kernel_rfl))).1
                  have hS : ∃ vF, Sep w0 W (Rw 51 10 vF 1 xs :: Ce (w.heap.size + 1 + 1 + 1 + 1) 43 #[vF, .slice AE 1 cE] :: Ce (w.heap.size + 1 + 1 + 1) 43 #[.slice none 0 0, .slice none 0 0] :: Ce (w.heap.size + 1 + 1) 51 #[.int .i64 1, .int .i64 peer, .int .i64 sn, .int .u64 (finc : Int), .int .u64 (fconn : Int), .int .u64 (si : Int), .int .u64 (conn : Int), .int .u64 0, .int .u64 (seq : Int), .slice A body.length c] :: Ce (w.heap.size + 1) 28 #[.int .u64 (now : Int)] :: Ce w.heap.size 26 #[.pointer (some ⟨g, 0, none⟩)] :: Ce g 72 #[.int .u64 0, .slice AB 0 cB, .int .u64 0, .int .i64 sn, .int .u64 (si : Int), .int .i64 peer, .int .u64 (conn : Int), .int .u64 (finc : Int), .int .u64 (fconn : Int), .bool true, .int .u64 (now : Int), .int .u64 (sent : Int)] :: Qy) := by simpa [qe] using hI
                  clear H hI qe
                  simp only [putAll, Act.put, List.setIfInBounds_toArray, List.set_cons_zero, List.set_cons_succ, Nat.reduceAdd]
                  obtain ⟨vF, hS⟩ := hS
                  obtain ⟨A2, c2, rfl, _⟩ := sep_rwForm (i := 0) hS rfl
                  have HS34 := Lib.hid hS
                  clear hS
                  have k0 := sep_ceAt (i := 2) HS34.out rfl 0 rfl
                  have k1 := sep_ceAt (i := 2) HS34.out rfl 1 rfl
                  have y0 := sep_ceFrozen (i := 2) HS34.out rfl 0
                  have y1 := sep_ceFrozen (i := 2) HS34.out rfl 1
                  have z0 := sep_ceAt (i := 1) HS34.out rfl 0 rfl
                  have z1 := sep_ceAt (i := 1) HS34.out rfl 1 rfl
                  go_wp2_with fail
                  have hs5 := sep_ceSet (i := 2) HS34.out rfl 0 (.slice A2 1 c2)
                  have hs6 := sep_ceSet (i := 2) hs5 rfl 1 (.slice AE 1 cE)
                  refine bodyPost_ret (v := .agg #[.slice A2 1 c2, .slice AE 1 cE]) (by simp [results, Try.results15, go_sem, k0, k1]) rfl ?_
                  rw [← HQy.out] at hs6
                  have hx := ((((hs6.drop 1).drop 1).drop 1).drop 1).drop 1
                  have hx := (hx.drop 3).drop 3
                  have hx := hx.toFront 2 rfl
                  have hx := hx.toFront 1 rfl
                  exact ⟨_, _, AB, cB, rfl, hx⟩
end Go.Proofs.Ytngegjboenfmeaa
