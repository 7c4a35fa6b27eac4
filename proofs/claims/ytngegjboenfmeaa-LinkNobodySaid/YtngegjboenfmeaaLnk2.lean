/- The hello of a link. -/
import Derived.Test.YtngegjboenfmeaaLnk
namespace Go.Proofs.Ytngegjboenfmeaa
open Go Go.RowKit
set_option linter.unusedVariables false
set_option maxRecDepth 100000
set_option linter.unusedSimpArgs false

/-- a link that New made: its twelve cells -/
def lkCells (base : Nat) (bx : Value) (got : Nat) (sn : Int) (si : Nat) (peer : Int) (conn inc known : Nat) (up : Bool) (heard sent : Nat) : Array Value := #[.int .u64 (base : Int), bx, .int .u64 (got : Int), .int .i64 sn, .int .u64 (si : Int), .int .i64 peer, .int .u64 (conn : Int), .int .u64 (inc : Int), .int .u64 (known : Int), .bool up, .int .u64 (heard : Int), .int .u64 (sent : Int)]
def heCells (got : Nat) (sn : Int) (si : Nat) (peer : Int) (conn inc known : Nat) : Array Value := #[.int .i64 1, .int .i64 sn, .int .i64 peer, .int .u64 (si : Int), .int .u64 (conn : Int), .int .u64 (inc : Int), .int .u64 (known : Int), .int .u64 (got : Int), .int .u64 0, .slice none 0 0]
set_option maxHeartbeats 1600000 in
theorem hello_any (w : World) (g base : Nat) (bx : Value) (got : Nat) (sn : Int) (si : Nat) (peer : Int) (conn inc known : Nat) (up : Bool) (heard sent : Nat) (h : w.heap[g]? = some (.cells (lkCells base bx got sn si peer conn inc known up heard sent) 72 (0, 0))) :
    Calls Try.prog 37 #[.pointer (some ⟨g, 0, none⟩)] w fun e w' => e = .returned (.agg (heCells got sn si peer conn inc known)) ∧ Below w.heap.size w w' := by
  have HG := Lib.hid (lt_of_heap h)
  have HC0 : Hid (w.cell? ⟨g, 0, none⟩ = some (.int .u64 (base : Int))) := Lib.hid (by rw [cell_of_row w g 0 _ _ _ h]; rfl)
  have HC1 : Hid (w.cell? ⟨g, 1, none⟩ = some (bx)) := Lib.hid (by rw [cell_of_row w g 1 _ _ _ h]; rfl)
  have HC2 : Hid (w.cell? ⟨g, 2, none⟩ = some (.int .u64 (got : Int))) := Lib.hid (by rw [cell_of_row w g 2 _ _ _ h]; rfl)
  have HC3 : Hid (w.cell? ⟨g, 3, none⟩ = some (.int .i64 sn)) := Lib.hid (by rw [cell_of_row w g 3 _ _ _ h]; rfl)
  have HC4 : Hid (w.cell? ⟨g, 4, none⟩ = some (.int .u64 (si : Int))) := Lib.hid (by rw [cell_of_row w g 4 _ _ _ h]; rfl)
  have HC5 : Hid (w.cell? ⟨g, 5, none⟩ = some (.int .i64 peer)) := Lib.hid (by rw [cell_of_row w g 5 _ _ _ h]; rfl)
  have HC6 : Hid (w.cell? ⟨g, 6, none⟩ = some (.int .u64 (conn : Int))) := Lib.hid (by rw [cell_of_row w g 6 _ _ _ h]; rfl)
  have HC7 : Hid (w.cell? ⟨g, 7, none⟩ = some (.int .u64 (inc : Int))) := Lib.hid (by rw [cell_of_row w g 7 _ _ _ h]; rfl)
  have HC8 : Hid (w.cell? ⟨g, 8, none⟩ = some (.int .u64 (known : Int))) := Lib.hid (by rw [cell_of_row w g 8 _ _ _ h]; rfl)
  have HC9 : Hid (w.cell? ⟨g, 9, none⟩ = some (.bool up)) := Lib.hid (by rw [cell_of_row w g 9 _ _ _ h]; rfl)
  have HC10 : Hid (w.cell? ⟨g, 10, none⟩ = some (.int .u64 (heard : Int))) := Lib.hid (by rw [cell_of_row w g 10 _ _ _ h]; rfl)
  have HC11 : Hid (w.cell? ⟨g, 11, none⟩ = some (.int .u64 (sent : Int))) := Lib.hid (by rw [cell_of_row w g 11 _ _ _ h]; rfl)
  have HS0 := Lib.hid (show Sep w (w.alloc (.cells #[.int .i64 0, .int .i64 0, .int .i64 0, .int .u64 0, .int .u64 0, .int .u64 0, .int .u64 0, .int .u64 0, .int .u64 0, .slice none 0 0] 51)) [Ce w.heap.size 51 #[.int .i64 0, .int .i64 0, .int .i64 0, .int .u64 0, .int .u64 0, .int .u64 0, .int .u64 0, .int .u64 0, .int .u64 0, .slice none 0 0]] from sep_ce (Sep.nil w) _ _)
  have HBL : ∀ (dn : Nat → Bool) (W : World), (if dn 32 = true then Sep w W [Ce w.heap.size 51 #[.int .i64 1, .int .i64 sn, .int .i64 peer, .int .u64 (si : Int), .int .u64 (conn : Int), .int .u64 (inc : Int), .int .u64 (known : Int), .int .u64 (got : Int), .int .u64 0, .slice none 0 0]] else Sep w W [Ce w.heap.size 51 #[.int .i64 0, .int .i64 0, .int .i64 0, .int .u64 0, .int .u64 0, .int .u64 0, .int .u64 0, .int .u64 0, .int .u64 0, .slice none 0 0]]) → Below w.heap.size w W := fun dn W h => by split at h <;> exact h.bel
  clear h
  unfold heCells
  go_enter Try.func37, Try.ntmps37
  go_wp2_with fail
  refine wp_region_f (fun dn xv W => if dn 32 = true then Sep w W [Ce w.heap.size 51 #[.int .i64 1, .int .i64 sn, .int .i64 peer, .int .u64 (si : Int), .int .u64 (conn : Int), .int .u64 (inc : Int), .int .u64 (known : Int), .int .u64 (got : Int), .int .u64 0, .slice none 0 0]] else Sep w W [Ce w.heap.size 51 #[.int .i64 0, .int .i64 0, .int .i64 0, .int .u64 0, .int .u64 0, .int .u64 0, .int .u64 0, .int .u64 0, .int .u64 0, .slice none 0 0]]) (fun _ _ => True) [fun v _ => v = .pointer (some ⟨g, 0, none⟩), fun v _ => v = .pointer (some ⟨g, 0, none⟩), fun v _ => v = .pointer (some ⟨g, 3, none⟩), fun v _ => v = .pointer (some ⟨g, 3, none⟩), fun v _ => v = .int .i64 sn, fun v _ => v = .pointer (some ⟨g, 0, none⟩), fun v _ => v = .pointer (some ⟨g, 0, none⟩), fun v _ => v = .pointer (some ⟨g, 5, none⟩), fun v _ => v = .int .i64 peer, fun v _ => v = .pointer (some ⟨g, 0, none⟩), fun v _ => v = .pointer (some ⟨g, 0, none⟩), fun v _ => v = .pointer (some ⟨g, 3, none⟩), fun v _ => v = .pointer (some ⟨g, 4, none⟩), fun v _ => v = .int .u64 (si : Int), fun v _ => v = .pointer (some ⟨g, 0, none⟩), fun v _ => v = .pointer (some ⟨g, 0, none⟩), fun v _ => v = .pointer (some ⟨g, 6, none⟩), fun v _ => v = .int .u64 (conn : Int), fun v _ => v = .pointer (some ⟨g, 0, none⟩), fun v _ => v = .pointer (some ⟨g, 0, none⟩), fun v _ => v = .pointer (some ⟨g, 7, none⟩), fun v _ => v = .int .u64 (inc : Int), fun v _ => v = .pointer (some ⟨g, 0, none⟩), fun v _ => v = .pointer (some ⟨g, 0, none⟩), fun v _ => v = .pointer (some ⟨g, 8, none⟩), fun v _ => v = .int .u64 (known : Int), fun v _ => v = .pointer (some ⟨g, 0, none⟩), fun v _ => v = .pointer (some ⟨g, 0, none⟩), fun v _ => v = .pointer (some ⟨g, 2, none⟩), fun v _ => v = .pointer (some ⟨g, 2, none⟩), fun v _ => v = .int .u64 (got : Int), fun v _ => v = .agg #[.int .i64 1, .int .i64 sn, .int .i64 peer, .int .u64 (si : Int), .int .u64 (conn : Int), .int .u64 (inc : Int), .int .u64 (known : Int), .int .u64 (got : Int), .int .u64 0, .slice none 0 0], fun v _ => True] (by kernel_rfl) (by kernel_rfl) (by kernel_rfl) (by kernel_rfl) (fun xv => by simpa using HS0.out.drew)
    (by exact ⟨fun _ _ _ _ h => h, fun _ _ _ _ h => h, fun _ _ _ _ h => h, fun _ _ _ _ h => h, fun _ _ _ _ h => h, fun _ _ _ _ h => h, fun _ _ _ _ h => h, fun _ _ _ _ h => h, fun _ _ _ _ h => h, fun _ _ _ _ h => h, fun _ _ _ _ h => h, fun _ _ _ _ h => h, fun _ _ _ _ h => h, fun _ _ _ _ h => h, fun _ _ _ _ h => h, fun _ _ _ _ h => h, fun _ _ _ _ h => h, fun _ _ _ _ h => h, fun _ _ _ _ h => h, fun _ _ _ _ h => h, fun _ _ _ _ h => h, fun _ _ _ _ h => h, fun _ _ _ _ h => h, fun _ _ _ _ h => h, fun _ _ _ _ h => h, fun _ _ _ _ h => h, fun _ _ _ _ h => h, fun _ _ _ _ h => h, fun _ _ _ _ h => h, fun _ _ _ _ h => h, fun _ _ _ _ h => h, fun _ _ _ _ h => h, fun _ _ _ _ h => h, trivial⟩) ?_ ?_
  · refine EachF.cons 1 rfl (fun dn xv W F hF hd hN hX hI H K hK => ?_) ?_
    · have f0 : F.tmps.getD 0 undef = .pointer (some ⟨g, 0, none⟩) := (hF 0).trans (by kernel_rfl)
      clear H hN hd hX hF
      refine on_plain rfl ?_
      go_simp
      exact hK.out _ _ rfl trivial (by simpa [upB, upd] using hI)
    refine EachF.cons 2 rfl (fun dn xv W F hF hd hN hX hI H K hK => ?_) ?_
    · have h0 : xv 0 = .pointer (some ⟨g, 0, none⟩) := (H 0 (.edge (by kernel_rfl))).2
      have f3 : F.tmps.getD 3 undef = .pointer (some ⟨g, 0, none⟩) := (hF 3).trans (Eq.trans (by kernel_rfl) h0)
      clear H hN hd hX hF
      refine on_plain rfl ?_
      go_simp
      exact hK.out _ _ rfl trivial (by simpa [upB, upd] using hI)
    refine EachF.cons 3 rfl (fun dn xv W F hF hd hN hX hI H K hK => ?_) ?_
    · have h1 : xv 1 = .pointer (some ⟨g, 0, none⟩) := (H 1 (.edge (by kernel_rfl))).2
      have f4 : F.tmps.getD 4 undef = .pointer (some ⟨g, 0, none⟩) := (hF 4).trans (Eq.trans (by kernel_rfl) h1)
      clear H hN hd hX hF
      refine on_plain rfl ?_
      go_simp
      exact hK.out _ _ rfl trivial (by simpa [upB, upd] using hI)
    refine EachF.cons 4 rfl (fun dn xv W F hF hd hN hX hI H K hK => ?_) ?_
    · have h2 : xv 2 = .pointer (some ⟨g, 3, none⟩) := (H 2 (.edge (by kernel_rfl))).2
      have f5 : F.tmps.getD 5 undef = .pointer (some ⟨g, 3, none⟩) := (hF 5).trans (Eq.trans (by kernel_rfl) h2)
      clear H hN hd hX hF
      refine on_plain rfl ?_
      go_simp
      exact hK.out _ _ rfl trivial (by simpa [upB, upd] using hI)
    refine EachF.cons 5 rfl (fun dn xv W F hF hd hN hX hI H K hK => ?_) ?_
    · have h3 : xv 3 = .pointer (some ⟨g, 3, none⟩) := (H 3 (.edge (by kernel_rfl))).2
      have f6 : F.tmps.getD 6 undef = .pointer (some ⟨g, 3, none⟩) := (hF 6).trans (Eq.trans (by kernel_rfl) h3)
      have k3 := ((HBL dn W hI).cell (p := ⟨g, 3, none⟩) HG.out).trans HC3.out
      clear H hN hd hX hF
      refine on_plain rfl ?_
      go_simp
      exact hK.out _ _ rfl trivial (by simpa [upB, upd] using hI)
    refine EachF.cons 6 rfl (fun dn xv W F hF hd hN hX hI H K hK => ?_) ?_
    · have f0 : F.tmps.getD 0 undef = .pointer (some ⟨g, 0, none⟩) := (hF 0).trans (by kernel_rfl)
      clear H hN hd hX hF
      refine on_plain rfl ?_
      go_simp
      exact hK.out _ _ rfl trivial (by simpa [upB, upd] using hI)
    refine EachF.cons 7 rfl (fun dn xv W F hF hd hN hX hI H K hK => ?_) ?_
    · have h5 : xv 5 = .pointer (some ⟨g, 0, none⟩) := (H 5 (.edge (by kernel_rfl))).2
      have f8 : F.tmps.getD 8 undef = .pointer (some ⟨g, 0, none⟩) := (hF 8).trans (Eq.trans (by kernel_rfl) h5)
      clear H hN hd hX hF
      refine on_plain rfl ?_
      go_simp
      exact hK.out _ _ rfl trivial (by simpa [upB, upd] using hI)
    refine EachF.cons 8 rfl (fun dn xv W F hF hd hN hX hI H K hK => ?_) ?_
    · have h6 : xv 6 = .pointer (some ⟨g, 0, none⟩) := (H 6 (.edge (by kernel_rfl))).2
      have f9 : F.tmps.getD 9 undef = .pointer (some ⟨g, 0, none⟩) := (hF 9).trans (Eq.trans (by kernel_rfl) h6)
      clear H hN hd hX hF
      refine on_plain rfl ?_
      go_simp
      exact hK.out _ _ rfl trivial (by simpa [upB, upd] using hI)
    refine EachF.cons 9 rfl (fun dn xv W F hF hd hN hX hI H K hK => ?_) ?_
    · have h7 : xv 7 = .pointer (some ⟨g, 5, none⟩) := (H 7 (.edge (by kernel_rfl))).2
      have f10 : F.tmps.getD 10 undef = .pointer (some ⟨g, 5, none⟩) := (hF 10).trans (Eq.trans (by kernel_rfl) h7)
      have k5 := ((HBL dn W hI).cell (p := ⟨g, 5, none⟩) HG.out).trans HC5.out
      clear H hN hd hX hF
      refine on_plain rfl ?_
      go_simp
      exact hK.out _ _ rfl trivial (by simpa [upB, upd] using hI)
    refine EachF.cons 10 rfl (fun dn xv W F hF hd hN hX hI H K hK => ?_) ?_
    · have f0 : F.tmps.getD 0 undef = .pointer (some ⟨g, 0, none⟩) := (hF 0).trans (by kernel_rfl)
      clear H hN hd hX hF
      refine on_plain rfl ?_
      go_simp
      exact hK.out _ _ rfl trivial (by simpa [upB, upd] using hI)
    refine EachF.cons 11 rfl (fun dn xv W F hF hd hN hX hI H K hK => ?_) ?_
    · have h9 : xv 9 = .pointer (some ⟨g, 0, none⟩) := (H 9 (.edge (by kernel_rfl))).2
      have f12 : F.tmps.getD 12 undef = .pointer (some ⟨g, 0, none⟩) := (hF 12).trans (Eq.trans (by kernel_rfl) h9)
      clear H hN hd hX hF
      refine on_plain rfl ?_
      go_simp
      exact hK.out _ _ rfl trivial (by simpa [upB, upd] using hI)
    refine EachF.cons 12 rfl (fun dn xv W F hF hd hN hX hI H K hK => ?_) ?_
    · have h10 : xv 10 = .pointer (some ⟨g, 0, none⟩) := (H 10 (.edge (by kernel_rfl))).2
      have f13 : F.tmps.getD 13 undef = .pointer (some ⟨g, 0, none⟩) := (hF 13).trans (Eq.trans (by kernel_rfl) h10)
      clear H hN hd hX hF
      refine on_plain rfl ?_
      go_simp
      exact hK.out _ _ rfl trivial (by simpa [upB, upd] using hI)
    refine EachF.cons 13 rfl (fun dn xv W F hF hd hN hX hI H K hK => ?_) ?_
    · have h11 : xv 11 = .pointer (some ⟨g, 3, none⟩) := (H 11 (.edge (by kernel_rfl))).2
      have f14 : F.tmps.getD 14 undef = .pointer (some ⟨g, 3, none⟩) := (hF 14).trans (Eq.trans (by kernel_rfl) h11)
      clear H hN hd hX hF
      refine on_plain rfl ?_
      go_simp
      exact hK.out _ _ rfl trivial (by simpa [upB, upd] using hI)
    refine EachF.cons 14 rfl (fun dn xv W F hF hd hN hX hI H K hK => ?_) ?_
    · have h12 : xv 12 = .pointer (some ⟨g, 4, none⟩) := (H 12 (.edge (by kernel_rfl))).2
      have f15 : F.tmps.getD 15 undef = .pointer (some ⟨g, 4, none⟩) := (hF 15).trans (Eq.trans (by kernel_rfl) h12)
      have k4 := ((HBL dn W hI).cell (p := ⟨g, 4, none⟩) HG.out).trans HC4.out
      clear H hN hd hX hF
      refine on_plain rfl ?_
      go_simp
      exact hK.out _ _ rfl trivial (by simpa [upB, upd] using hI)
    refine EachF.cons 15 rfl (fun dn xv W F hF hd hN hX hI H K hK => ?_) ?_
    · have f0 : F.tmps.getD 0 undef = .pointer (some ⟨g, 0, none⟩) := (hF 0).trans (by kernel_rfl)
      clear H hN hd hX hF
      refine on_plain rfl ?_
      go_simp
      exact hK.out _ _ rfl trivial (by simpa [upB, upd] using hI)
    refine EachF.cons 16 rfl (fun dn xv W F hF hd hN hX hI H K hK => ?_) ?_
    · have h14 : xv 14 = .pointer (some ⟨g, 0, none⟩) := (H 14 (.edge (by kernel_rfl))).2
      have f17 : F.tmps.getD 17 undef = .pointer (some ⟨g, 0, none⟩) := (hF 17).trans (Eq.trans (by kernel_rfl) h14)
      clear H hN hd hX hF
      refine on_plain rfl ?_
      go_simp
      exact hK.out _ _ rfl trivial (by simpa [upB, upd] using hI)
    refine EachF.cons 17 rfl (fun dn xv W F hF hd hN hX hI H K hK => ?_) ?_
    · have h15 : xv 15 = .pointer (some ⟨g, 0, none⟩) := (H 15 (.edge (by kernel_rfl))).2
      have f18 : F.tmps.getD 18 undef = .pointer (some ⟨g, 0, none⟩) := (hF 18).trans (Eq.trans (by kernel_rfl) h15)
      clear H hN hd hX hF
      refine on_plain rfl ?_
      go_simp
      exact hK.out _ _ rfl trivial (by simpa [upB, upd] using hI)
    refine EachF.cons 18 rfl (fun dn xv W F hF hd hN hX hI H K hK => ?_) ?_
    · have h16 : xv 16 = .pointer (some ⟨g, 6, none⟩) := (H 16 (.edge (by kernel_rfl))).2
      have f19 : F.tmps.getD 19 undef = .pointer (some ⟨g, 6, none⟩) := (hF 19).trans (Eq.trans (by kernel_rfl) h16)
      have k6 := ((HBL dn W hI).cell (p := ⟨g, 6, none⟩) HG.out).trans HC6.out
      clear H hN hd hX hF
      refine on_plain rfl ?_
      go_simp
      exact hK.out _ _ rfl trivial (by simpa [upB, upd] using hI)
    refine EachF.cons 19 rfl (fun dn xv W F hF hd hN hX hI H K hK => ?_) ?_
    · have f0 : F.tmps.getD 0 undef = .pointer (some ⟨g, 0, none⟩) := (hF 0).trans (by kernel_rfl)
      clear H hN hd hX hF
      refine on_plain rfl ?_
      go_simp
      exact hK.out _ _ rfl trivial (by simpa [upB, upd] using hI)
    refine EachF.cons 20 rfl (fun dn xv W F hF hd hN hX hI H K hK => ?_) ?_
    · have h18 : xv 18 = .pointer (some ⟨g, 0, none⟩) := (H 18 (.edge (by kernel_rfl))).2
      have f21 : F.tmps.getD 21 undef = .pointer (some ⟨g, 0, none⟩) := (hF 21).trans (Eq.trans (by kernel_rfl) h18)
      clear H hN hd hX hF
      refine on_plain rfl ?_
      go_simp
      exact hK.out _ _ rfl trivial (by simpa [upB, upd] using hI)
    refine EachF.cons 21 rfl (fun dn xv W F hF hd hN hX hI H K hK => ?_) ?_
    · have h19 : xv 19 = .pointer (some ⟨g, 0, none⟩) := (H 19 (.edge (by kernel_rfl))).2
      have f22 : F.tmps.getD 22 undef = .pointer (some ⟨g, 0, none⟩) := (hF 22).trans (Eq.trans (by kernel_rfl) h19)
      clear H hN hd hX hF
      refine on_plain rfl ?_
      go_simp
      exact hK.out _ _ rfl trivial (by simpa [upB, upd] using hI)
    refine EachF.cons 22 rfl (fun dn xv W F hF hd hN hX hI H K hK => ?_) ?_
    · have h20 : xv 20 = .pointer (some ⟨g, 7, none⟩) := (H 20 (.edge (by kernel_rfl))).2
      have f23 : F.tmps.getD 23 undef = .pointer (some ⟨g, 7, none⟩) := (hF 23).trans (Eq.trans (by kernel_rfl) h20)
      have k7 := ((HBL dn W hI).cell (p := ⟨g, 7, none⟩) HG.out).trans HC7.out
      clear H hN hd hX hF
      refine on_plain rfl ?_
      go_simp
      exact hK.out _ _ rfl trivial (by simpa [upB, upd] using hI)
    refine EachF.cons 23 rfl (fun dn xv W F hF hd hN hX hI H K hK => ?_) ?_
    · have f0 : F.tmps.getD 0 undef = .pointer (some ⟨g, 0, none⟩) := (hF 0).trans (by kernel_rfl)
      clear H hN hd hX hF
      refine on_plain rfl ?_
      go_simp
      exact hK.out _ _ rfl trivial (by simpa [upB, upd] using hI)
    refine EachF.cons 24 rfl (fun dn xv W F hF hd hN hX hI H K hK => ?_) ?_
    · have h22 : xv 22 = .pointer (some ⟨g, 0, none⟩) := (H 22 (.edge (by kernel_rfl))).2
      have f25 : F.tmps.getD 25 undef = .pointer (some ⟨g, 0, none⟩) := (hF 25).trans (Eq.trans (by kernel_rfl) h22)
      clear H hN hd hX hF
      refine on_plain rfl ?_
      go_simp
      exact hK.out _ _ rfl trivial (by simpa [upB, upd] using hI)
    refine EachF.cons 25 rfl (fun dn xv W F hF hd hN hX hI H K hK => ?_) ?_
    · have h23 : xv 23 = .pointer (some ⟨g, 0, none⟩) := (H 23 (.edge (by kernel_rfl))).2
      have f26 : F.tmps.getD 26 undef = .pointer (some ⟨g, 0, none⟩) := (hF 26).trans (Eq.trans (by kernel_rfl) h23)
      clear H hN hd hX hF
      refine on_plain rfl ?_
      go_simp
      exact hK.out _ _ rfl trivial (by simpa [upB, upd] using hI)
    refine EachF.cons 26 rfl (fun dn xv W F hF hd hN hX hI H K hK => ?_) ?_
    · have h24 : xv 24 = .pointer (some ⟨g, 8, none⟩) := (H 24 (.edge (by kernel_rfl))).2
      have f27 : F.tmps.getD 27 undef = .pointer (some ⟨g, 8, none⟩) := (hF 27).trans (Eq.trans (by kernel_rfl) h24)
      have k8 := ((HBL dn W hI).cell (p := ⟨g, 8, none⟩) HG.out).trans HC8.out
      clear H hN hd hX hF
      refine on_plain rfl ?_
      go_simp
      exact hK.out _ _ rfl trivial (by simpa [upB, upd] using hI)
    refine EachF.cons 27 rfl (fun dn xv W F hF hd hN hX hI H K hK => ?_) ?_
    · have f0 : F.tmps.getD 0 undef = .pointer (some ⟨g, 0, none⟩) := (hF 0).trans (by kernel_rfl)
      clear H hN hd hX hF
      refine on_plain rfl ?_
      go_simp
      exact hK.out _ _ rfl trivial (by simpa [upB, upd] using hI)
    refine EachF.cons 28 rfl (fun dn xv W F hF hd hN hX hI H K hK => ?_) ?_
    · have h26 : xv 26 = .pointer (some ⟨g, 0, none⟩) := (H 26 (.edge (by kernel_rfl))).2
      have f29 : F.tmps.getD 29 undef = .pointer (some ⟨g, 0, none⟩) := (hF 29).trans (Eq.trans (by kernel_rfl) h26)
      clear H hN hd hX hF
      refine on_plain rfl ?_
      go_simp
      exact hK.out _ _ rfl trivial (by simpa [upB, upd] using hI)
    refine EachF.cons 29 rfl (fun dn xv W F hF hd hN hX hI H K hK => ?_) ?_
    · have h27 : xv 27 = .pointer (some ⟨g, 0, none⟩) := (H 27 (.edge (by kernel_rfl))).2
      have f30 : F.tmps.getD 30 undef = .pointer (some ⟨g, 0, none⟩) := (hF 30).trans (Eq.trans (by kernel_rfl) h27)
      clear H hN hd hX hF
      refine on_plain rfl ?_
      go_simp
      exact hK.out _ _ rfl trivial (by simpa [upB, upd] using hI)
    refine EachF.cons 30 rfl (fun dn xv W F hF hd hN hX hI H K hK => ?_) ?_
    · have h28 : xv 28 = .pointer (some ⟨g, 2, none⟩) := (H 28 (.edge (by kernel_rfl))).2
      have f31 : F.tmps.getD 31 undef = .pointer (some ⟨g, 2, none⟩) := (hF 31).trans (Eq.trans (by kernel_rfl) h28)
      clear H hN hd hX hF
      refine on_plain rfl ?_
      go_simp
      exact hK.out _ _ rfl trivial (by simpa [upB, upd] using hI)
    refine EachF.cons 31 rfl (fun dn xv W F hF hd hN hX hI H K hK => ?_) ?_
    · have h29 : xv 29 = .pointer (some ⟨g, 2, none⟩) := (H 29 (.edge (by kernel_rfl))).2
      have f32 : F.tmps.getD 32 undef = .pointer (some ⟨g, 2, none⟩) := (hF 32).trans (Eq.trans (by kernel_rfl) h29)
      have k2 := ((HBL dn W hI).cell (p := ⟨g, 2, none⟩) HG.out).trans HC2.out
      clear H hN hd hX hF
      refine on_plain rfl ?_
      go_simp
      exact hK.out _ _ rfl trivial (by simpa [upB, upd] using hI)
    refine EachF.cons 32 rfl (fun dn xv W F hF hd hN hX hI H K hK => ?_) ?_
    · have h4 : xv 4 = .int .i64 sn := (H 4 (.edge (by kernel_rfl))).2
      have f7 : F.tmps.getD 7 undef = .int .i64 sn := (hF 7).trans (Eq.trans (by kernel_rfl) h4)
      have h8 : xv 8 = .int .i64 peer := (H 8 (.edge (by kernel_rfl))).2
      have f11 : F.tmps.getD 11 undef = .int .i64 peer := (hF 11).trans (Eq.trans (by kernel_rfl) h8)
      have h13 : xv 13 = .int .u64 (si : Int) := (H 13 (.edge (by kernel_rfl))).2
      have f16 : F.tmps.getD 16 undef = .int .u64 (si : Int) := (hF 16).trans (Eq.trans (by kernel_rfl) h13)
      have h17 : xv 17 = .int .u64 (conn : Int) := (H 17 (.edge (by kernel_rfl))).2
      have f20 : F.tmps.getD 20 undef = .int .u64 (conn : Int) := (hF 20).trans (Eq.trans (by kernel_rfl) h17)
      have h21 : xv 21 = .int .u64 (inc : Int) := (H 21 (.edge (by kernel_rfl))).2
      have f24 : F.tmps.getD 24 undef = .int .u64 (inc : Int) := (hF 24).trans (Eq.trans (by kernel_rfl) h21)
      have h25 : xv 25 = .int .u64 (known : Int) := (H 25 (.edge (by kernel_rfl))).2
      have f28 : F.tmps.getD 28 undef = .int .u64 (known : Int) := (hF 28).trans (Eq.trans (by kernel_rfl) h25)
      have h30 : xv 30 = .int .u64 (got : Int) := (H 30 (.edge (by kernel_rfl))).2
      have f33 : F.tmps.getD 33 undef = .int .u64 (got : Int) := (hF 33).trans (Eq.trans (by kernel_rfl) h30)
      clear H hN hd hX hF
      refine on_plain rfl ?_
      have g7 := f7
      have g11 := f11
      have g16 := f16
      have g20 := f20
      have g24 := f24
      have g28 := f28
      have g33 := f33
      rw [Array.getD_eq_getD_getElem?] at g7 g11 g16 g20 g24 g28 g33
      go_simp
      exact hK.out _ _ rfl trivial (by simpa [upB, upd] using hI)
    refine EachF.cons 33 rfl (fun dn xv W F hF hd hN hX hI H K hK => ?_) ?_
    · have f2 : F.tmps.getD 2 undef = .pointer (some ⟨w.heap.size, 0, none⟩) := (hF 2).trans (by kernel_rfl)
      have h31 : xv 31 = .agg #[.int .i64 1, .int .i64 sn, .int .i64 peer, .int .u64 (si : Int), .int .u64 (conn : Int), .int .u64 (inc : Int), .int .u64 (known : Int), .int .u64 (got : Int), .int .u64 0, .slice none 0 0] := (H 31 (.edge (by kernel_rfl))).2
      have f34 : F.tmps.getD 34 undef = .agg #[.int .i64 1, .int .i64 sn, .int .i64 peer, .int .u64 (si : Int), .int .u64 (conn : Int), .int .u64 (inc : Int), .int .u64 (known : Int), .int .u64 (got : Int), .int .u64 0, .slice none 0 0] := (hF 34).trans (Eq.trans (by kernel_rfl) h31)
      have hS : Sep w W [Ce w.heap.size 51 #[.int .i64 0, .int .i64 0, .int .i64 0, .int .u64 0, .int .u64 0, .int .u64 0, .int .u64 0, .int .u64 0, .int .u64 0, .slice none 0 0]] := by simpa [hd] using hI
      clear hI hN hd hX hF H
      refine on_plain rfl ?_
      have k0 := sep_ceAt (i := 0) hS rfl 0 rfl
      have y0 := sep_ceFrozen (i := 0) hS rfl 0
      have k1 := sep_ceAt (i := 0) hS rfl 1 rfl
      have y1 := sep_ceFrozen (i := 0) hS rfl 1
      have k2 := sep_ceAt (i := 0) hS rfl 2 rfl
      have y2 := sep_ceFrozen (i := 0) hS rfl 2
      have k3 := sep_ceAt (i := 0) hS rfl 3 rfl
      have y3 := sep_ceFrozen (i := 0) hS rfl 3
      have k4 := sep_ceAt (i := 0) hS rfl 4 rfl
      have y4 := sep_ceFrozen (i := 0) hS rfl 4
      have k5 := sep_ceAt (i := 0) hS rfl 5 rfl
      have y5 := sep_ceFrozen (i := 0) hS rfl 5
      have k6 := sep_ceAt (i := 0) hS rfl 6 rfl
      have y6 := sep_ceFrozen (i := 0) hS rfl 6
      have k7 := sep_ceAt (i := 0) hS rfl 7 rfl
      have y7 := sep_ceFrozen (i := 0) hS rfl 7
      have k8 := sep_ceAt (i := 0) hS rfl 8 rfl
      have y8 := sep_ceFrozen (i := 0) hS rfl 8
      have k9 := sep_ceAt (i := 0) hS rfl 9 rfl
      have y9 := sep_ceFrozen (i := 0) hS rfl 9
      have hs := sep_put10c (i := 0) hS rfl (.int .i64 1) (.int .i64 sn) (.int .i64 peer) (.int .u64 (si : Int)) (.int .u64 (conn : Int)) (.int .u64 (inc : Int)) (.int .u64 (known : Int)) (.int .u64 (got : Int)) (.int .u64 0) (.slice none 0 0)
      go_simp
      exact hK.out undef _ trivial trivial (by simpa [upB, upd] using hs)
    exact EachF.nil
  · intro dn xv W hI H
    have qe : dn 32 = true := (H 32 (of_decide_eq_true (by kernel_rfl))).1
    have hS : Sep w W [Ce w.heap.size 51 #[.int .i64 1, .int .i64 sn, .int .i64 peer, .int .u64 (si : Int), .int .u64 (conn : Int), .int .u64 (inc : Int), .int .u64 (known : Int), .int .u64 (got : Int), .int .u64 0, .slice none 0 0]] := by simpa [qe] using hI
    clear H hI qe
    simp only [putAll, Act.put, List.setIfInBounds_toArray, List.set_cons_zero, List.set_cons_succ, Nat.reduceAdd]
    have HS1 := Lib.hid hS
    clear hS
    have k0 := sep_ceAt (i := 0) HS1.out rfl 0 rfl
    have k1 := sep_ceAt (i := 0) HS1.out rfl 1 rfl
    have k2 := sep_ceAt (i := 0) HS1.out rfl 2 rfl
    have k3 := sep_ceAt (i := 0) HS1.out rfl 3 rfl
    have k4 := sep_ceAt (i := 0) HS1.out rfl 4 rfl
    have k5 := sep_ceAt (i := 0) HS1.out rfl 5 rfl
    have k6 := sep_ceAt (i := 0) HS1.out rfl 6 rfl
    have k7 := sep_ceAt (i := 0) HS1.out rfl 7 rfl
    have k8 := sep_ceAt (i := 0) HS1.out rfl 8 rfl
    have k9 := sep_ceAt (i := 0) HS1.out rfl 9 rfl
    go_wp2_with fail
    refine bodyPost_ret (v := .agg #[.int .i64 1, .int .i64 sn, .int .i64 peer, .int .u64 (si : Int), .int .u64 (conn : Int), .int .u64 (inc : Int), .int .u64 (known : Int), .int .u64 (got : Int), .int .u64 0, .slice none 0 0]) (by simp [results, Try.results37, go_sem, k0, k1, k2, k3, k4, k5, k6, k7, k8, k9]) rfl ?_
    exact ⟨rfl, HS1.out.bel⟩
end Go.Proofs.Ytngegjboenfmeaa
