/- Peer of a link; what a link tells. -/
import Derived.Test.YtngegjboenfmeaaLnk5
import Derived.Test.YtngegjboenfmeaaSepF
namespace Go.Proofs.Ytngegjboenfmeaa
open Go Go.RowKit
set_option linter.unusedVariables false
set_option maxRecDepth 100000
set_option linter.unusedSimpArgs false

set_option maxHeartbeats 1600000 in
theorem peer_any (w : World) (g base : Nat) (bx : Value) (got : Nat) (sn : Int) (si : Nat) (peer : Int) (conn inc known : Nat) (up : Bool) (heard sent : Nat) (hsn : sn ≠ 0) (h : w.heap[g]? = some (.cells (lkCells base bx got sn si peer conn inc known up heard sent) 72 (0, 0))) :
    Calls Try.prog 24 #[.pointer (some ⟨g, 0, none⟩)] w fun e w' => e = .returned (.agg #[.int .i64 peer, .int .u64 (inc : Int)]) ∧ Below w.heap.size w w' := by
  have HSN := Lib.hid hsn
  have HG := Lib.hid (lt_of_heap h)
  have HC5 : Hid (w.cell? ⟨g, 5, none⟩ = some (.int .i64 peer)) := Lib.hid (by rw [cell_of_row w g 5 _ _ _ h]; rfl)
  have HC7 : Hid (w.cell? ⟨g, 7, none⟩ = some (.int .u64 (inc : Int))) := Lib.hid (by rw [cell_of_row w g 7 _ _ _ h]; rfl)
  have HC3 : Hid (w.cell? ⟨g, 3, none⟩ = some (.int .i64 sn)) := Lib.hid (by rw [cell_of_row w g 3 _ _ _ h]; rfl)
  have HS0 := Lib.hid (show Sep w (w.alloc (.cells #[.int .i64 0, .int .u64 0] 46)) [Ce w.heap.size 46 #[.int .i64 0, .int .u64 0]] from sep_ce (Sep.nil w) _ _)
  have HBL : ∀ (dn : Nat → Bool) (W : World), (if dn 9 = true then Sep w W [Ce w.heap.size 46 #[.int .i64 peer, .int .u64 (inc : Int)]] else Sep w W [Ce w.heap.size 46 #[.int .i64 0, .int .u64 0]]) → Below w.heap.size w W := fun dn W h => by split at h <;> exact h.bel
  clear h hsn
  go_enter Try.func24, Try.ntmps24
  go_wp2_with fail
  refine (made_yes _ g sn HSN.out ((HS0.out.bel.cell (p := ⟨g, 3, none⟩) HG.out).trans HC3.out)).mono ?_
  rintro e w1 ⟨rfl, hb1⟩
  have HS1 := Lib.hid (HS0.out.grow hb1)
  clear HS0 hb1
  go_wp2_with fail
  refine wp_region_f (fun dn xv W => if dn 9 = true then Sep w W [Ce w.heap.size 46 #[.int .i64 peer, .int .u64 (inc : Int)]] else Sep w W [Ce w.heap.size 46 #[.int .i64 0, .int .u64 0]]) (fun _ _ => True) [fun v _ => v = .pointer (some ⟨g, 0, none⟩), fun v _ => v = .pointer (some ⟨g, 0, none⟩), fun v _ => v = .pointer (some ⟨g, 5, none⟩), fun v _ => v = .int .i64 peer, fun v _ => v = .pointer (some ⟨g, 0, none⟩), fun v _ => v = .pointer (some ⟨g, 0, none⟩), fun v _ => v = .pointer (some ⟨g, 7, none⟩), fun v _ => v = .int .u64 (inc : Int), fun v _ => v = .agg #[.int .i64 peer, .int .u64 (inc : Int)], fun v _ => True] (by kernel_rfl) (by kernel_rfl) (by kernel_rfl) (by kernel_rfl) (fun xv => by simpa using HS1.out.drew)
    (by exact ⟨fun _ _ _ _ h => h, fun _ _ _ _ h => h, fun _ _ _ _ h => h, fun _ _ _ _ h => h, fun _ _ _ _ h => h, fun _ _ _ _ h => h, fun _ _ _ _ h => h, fun _ _ _ _ h => h, fun _ _ _ _ h => h, fun _ _ _ _ h => h, trivial⟩) ?_ ?_
  · refine EachF.cons 1 rfl (fun dn xv W F hF hd hN hX hI H K hK => ?_) ?_
    · have f0 : F.tmps.getD 0 undef = .pointer (some ⟨g, 0, none⟩) := (hF 0).trans (by kernel_rfl)
      clear H hN hd hX hF
      refine on_plain rfl ?_
      go_simp
      exact hK.out _ _ rfl trivial (by simpa [upB, upd] using hI)
    refine EachF.cons 2 rfl (fun dn xv W F hF hd hN hX hI H K hK => ?_) ?_
    · have h0 : xv 0 = .pointer (some ⟨g, 0, none⟩) := (H 0 (.edge (by kernel_rfl))).2
      have f7 : F.tmps.getD 7 undef = .pointer (some ⟨g, 0, none⟩) := (hF 7).trans (Eq.trans (by kernel_rfl) h0)
      clear H hN hd hX hF
      refine on_plain rfl ?_
      go_simp
      exact hK.out _ _ rfl trivial (by simpa [upB, upd] using hI)
    refine EachF.cons 3 rfl (fun dn xv W F hF hd hN hX hI H K hK => ?_) ?_
    · have h1 : xv 1 = .pointer (some ⟨g, 0, none⟩) := (H 1 (.edge (by kernel_rfl))).2
      have f8 : F.tmps.getD 8 undef = .pointer (some ⟨g, 0, none⟩) := (hF 8).trans (Eq.trans (by kernel_rfl) h1)
      clear H hN hd hX hF
      refine on_plain rfl ?_
      go_simp
      exact hK.out _ _ rfl trivial (by simpa [upB, upd] using hI)
    refine EachF.cons 4 rfl (fun dn xv W F hF hd hN hX hI H K hK => ?_) ?_
    · have h2 : xv 2 = .pointer (some ⟨g, 5, none⟩) := (H 2 (.edge (by kernel_rfl))).2
      have f9 : F.tmps.getD 9 undef = .pointer (some ⟨g, 5, none⟩) := (hF 9).trans (Eq.trans (by kernel_rfl) h2)
      have k5 := ((HBL dn W hI).cell (p := ⟨g, 5, none⟩) HG.out).trans HC5.out
      clear H hN hd hX hF
      refine on_plain rfl ?_
      go_simp
      exact hK.out _ _ rfl trivial (by simpa [upB, upd] using hI)
    refine EachF.cons 5 rfl (fun dn xv W F hF hd hN hX hI H K hK => ?_) ?_
    · have f0 : F.tmps.getD 0 undef = .pointer (some ⟨g, 0, none⟩) := (hF 0).trans (by kernel_rfl)
      clear H hN hd hX hF
      refine on_plain rfl ?_
      go_simp
      exact hK.out _ _ rfl trivial (by simpa [upB, upd] using hI)
    refine EachF.cons 6 rfl (fun dn xv W F hF hd hN hX hI H K hK => ?_) ?_
    · have h4 : xv 4 = .pointer (some ⟨g, 0, none⟩) := (H 4 (.edge (by kernel_rfl))).2
      have f11 : F.tmps.getD 11 undef = .pointer (some ⟨g, 0, none⟩) := (hF 11).trans (Eq.trans (by kernel_rfl) h4)
      clear H hN hd hX hF
      refine on_plain rfl ?_
      go_simp
      exact hK.out _ _ rfl trivial (by simpa [upB, upd] using hI)
    refine EachF.cons 7 rfl (fun dn xv W F hF hd hN hX hI H K hK => ?_) ?_
    · have h5 : xv 5 = .pointer (some ⟨g, 0, none⟩) := (H 5 (.edge (by kernel_rfl))).2
      have f12 : F.tmps.getD 12 undef = .pointer (some ⟨g, 0, none⟩) := (hF 12).trans (Eq.trans (by kernel_rfl) h5)
      clear H hN hd hX hF
      refine on_plain rfl ?_
      go_simp
      exact hK.out _ _ rfl trivial (by simpa [upB, upd] using hI)
    refine EachF.cons 8 rfl (fun dn xv W F hF hd hN hX hI H K hK => ?_) ?_
    · have h6 : xv 6 = .pointer (some ⟨g, 7, none⟩) := (H 6 (.edge (by kernel_rfl))).2
      have f13 : F.tmps.getD 13 undef = .pointer (some ⟨g, 7, none⟩) := (hF 13).trans (Eq.trans (by kernel_rfl) h6)
      have k7 := ((HBL dn W hI).cell (p := ⟨g, 7, none⟩) HG.out).trans HC7.out
      clear H hN hd hX hF
      refine on_plain rfl ?_
      go_simp
      exact hK.out _ _ rfl trivial (by simpa [upB, upd] using hI)
    refine EachF.cons 9 rfl (fun dn xv W F hF hd hN hX hI H K hK => ?_) ?_
    · have h3 : xv 3 = .int .i64 peer := (H 3 (.edge (by kernel_rfl))).2
      have f10 : F.tmps.getD 10 undef = .int .i64 peer := (hF 10).trans (Eq.trans (by kernel_rfl) h3)
      have h7 : xv 7 = .int .u64 (inc : Int) := (H 7 (.edge (by kernel_rfl))).2
      have f14 : F.tmps.getD 14 undef = .int .u64 (inc : Int) := (hF 14).trans (Eq.trans (by kernel_rfl) h7)
      clear H hN hd hX hF
      refine on_plain rfl ?_
      have g10 := f10
      have g14 := f14
      rw [Array.getD_eq_getD_getElem?] at g10 g14
      go_simp
      exact hK.out _ _ rfl trivial (by simpa [upB, upd] using hI)
    refine EachF.cons 10 rfl (fun dn xv W F hF hd hN hX hI H K hK => ?_) ?_
    · have f2 : F.tmps.getD 2 undef = .pointer (some ⟨w.heap.size, 0, none⟩) := (hF 2).trans (by kernel_rfl)
      have h8 : xv 8 = .agg #[.int .i64 peer, .int .u64 (inc : Int)] := (H 8 (.edge (by kernel_rfl))).2
      have f15 : F.tmps.getD 15 undef = .agg #[.int .i64 peer, .int .u64 (inc : Int)] := (hF 15).trans (Eq.trans (by kernel_rfl) h8)
      have hS : Sep w W [Ce w.heap.size 46 #[.int .i64 0, .int .u64 0]] := by simpa [hd] using hI
      clear hI hN hd hX hF H
      refine on_plain rfl ?_
      have q0 := sep_ceAt (i := 0) hS rfl 0 rfl
      have q1 := sep_ceAt (i := 0) hS rfl 1 rfl
      have y0 := sep_ceFrozen (i := 0) hS rfl 0
      have y1 := sep_ceFrozen (i := 0) hS rfl 1
      have hs : Sep w ((W.setCell ⟨w.heap.size, 0, none⟩ (.int .i64 peer)).setCell ⟨w.heap.size, 1, none⟩ (.int .u64 (inc : Int))) [Ce w.heap.size 46 #[.int .i64 peer, .int .u64 (inc : Int)]] := sep_ceSet (i := 0) (sep_ceSet (i := 0) hS rfl 0 (.int .i64 peer)) rfl 1 (.int .u64 (inc : Int))
      go_simp
      exact hK.out undef _ trivial trivial (by simpa [upB, upd] using hs)
    exact EachF.nil
  · intro dn xv W hI H
    have qe : dn 9 = true := (H 9 (of_decide_eq_true (by kernel_rfl))).1
    have hS : Sep w W [Ce w.heap.size 46 #[.int .i64 peer, .int .u64 (inc : Int)]] := by simpa [qe] using hI
    clear H hI qe
    simp only [putAll, Act.put, List.setIfInBounds_toArray, List.set_cons_zero, List.set_cons_succ, Nat.reduceAdd]
    have k0 := sep_ceAt (i := 0) hS rfl 0 rfl
    have k1 := sep_ceAt (i := 0) hS rfl 1 rfl
    have HS2 := Lib.hid hS
    clear hS
    go_wp2_with fail
    refine bodyPost_ret (v := .agg #[.int .i64 peer, .int .u64 (inc : Int)]) (by simp [results, Try.results24, go_sem, k0, k1]) rfl ?_
    exact ⟨rfl, HS2.out.bel⟩
/-- a row of one event -/
def OneE (xs : List Value) (v : Value) (w : World) : Prop := ∃ A c, v = .slice A 1 c ∧ xs.length = 1 * 4 ∧ Has w w.heap.size A xs
theorem OneE.new (w : World) (cs : Array Value) (h : cs.toList.length = 1 * 4 := by rfl) : OneE cs.toList (.slice (some ⟨w.heap.size, 0, none⟩) 1 1) (w.alloc (.cells cs 49)) := ⟨_, 1, rfl, h, by have := has_new w cs 49; simpa using this⟩
set_option maxHeartbeats 3200000 in
theorem tell_any {w0 w : World} {Qs : List SP} {o q1 q0 g base : Nat} {bx vF : Value} {got : Nat} {sn : Int} {si : Nat} {peer : Int} {conn inc known heard sent : Nat} {up : Bool} (kind : Int) (h : Sep w0 w (Rw 49 4 (.slice none 0 0) 0 [] :: Ce o 43 #[vF, .slice none 0 0] :: Ce q1 92 #[.pointer (some ⟨o, 0, none⟩)] :: Ce q0 26 #[.pointer (some ⟨g, 0, none⟩)] :: Ce g 72 #[.int .u64 (base : Int), bx, .int .u64 (got : Int), .int .i64 sn, .int .u64 (si : Int), .int .i64 peer, .int .u64 (conn : Int), .int .u64 (inc : Int), .int .u64 (known : Int), .bool up, .int .u64 (heard : Int), .int .u64 (sent : Int)] :: Qs)) (hsn : sn ≠ 0) :
    Calls Try.prog 56 #[.int .i64 kind, .slice none 0 0, .pointer (some ⟨q1, 0, none⟩), .pointer (some ⟨q0, 0, none⟩)] w fun e w' => e = .returned (.tuple #[]) ∧ ∃ vE, Sep w0 w' (Rw 49 4 vE 1 [.int .i64 kind, .int .i64 peer, .int .u64 (inc : Int), .slice none 0 0] :: Ce o 43 #[vF, vE] :: Ce q1 92 #[.pointer (some ⟨o, 0, none⟩)] :: Ce q0 26 #[.pointer (some ⟨g, 0, none⟩)] :: Ce g 72 #[.int .u64 (base : Int), bx, .int .u64 (got : Int), .int .i64 sn, .int .u64 (si : Int), .int .i64 peer, .int .u64 (conn : Int), .int .u64 (inc : Int), .int .u64 (known : Int), .bool up, .int .u64 (heard : Int), .int .u64 (sent : Int)] :: Qs) := by
  have HS0 := Lib.hid h
  have HPE := Lib.hid (fun (W : World) hh => peer_any W g base bx got sn si peer conn inc known up heard sent hsn hh)
  obtain ⟨xs, HXS⟩ : ∃ l, Hid ((#[.int .i64 kind, .int .i64 peer, .int .u64 (inc : Int), .slice none 0 0] : Array Value).toList = l) := ⟨_, Lib.hid rfl⟩
  have HX1 : Hid (∀ u ∈ xs, u.oneCell' = true) := Lib.hid (by
    rw [← HXS.out]
    intro u hu
    simp only [List.mem_cons, List.not_mem_nil, or_false] at hu
    rcases hu with rfl | rfl | rfl | rfl <;> rfl)
  have HKO : ∀ (dn : Nat → Bool) (xv : Nat → Value) (W : World), (if dn 14 = true then ∃ vE, Sep w0 W (Rw 49 4 vE 1 xs :: Ce o 43 #[vF, vE] :: Ce q1 92 #[.pointer (some ⟨o, 0, none⟩)] :: Ce q0 26 #[.pointer (some ⟨g, 0, none⟩)] :: Ce g 72 #[.int .u64 (base : Int), bx, .int .u64 (got : Int), .int .i64 sn, .int .u64 (si : Int), .int .i64 peer, .int .u64 (conn : Int), .int .u64 (inc : Int), .int .u64 (known : Int), .bool up, .int .u64 (heard : Int), .int .u64 (sent : Int)] :: Qs) else if dn 11 = true then Sep w0 W (Rw 49 4 (xv 11) 1 xs :: Ce o 43 #[vF, .slice none 0 0] :: Ce q1 92 #[.pointer (some ⟨o, 0, none⟩)] :: Ce q0 26 #[.pointer (some ⟨g, 0, none⟩)] :: Ce g 72 #[.int .u64 (base : Int), bx, .int .u64 (got : Int), .int .i64 sn, .int .u64 (si : Int), .int .i64 peer, .int .u64 (conn : Int), .int .u64 (inc : Int), .int .u64 (known : Int), .bool up, .int .u64 (heard : Int), .int .u64 (sent : Int)] :: Qs) else if dn 10 = true then Sep w0 W (Rw 49 4 (.slice none 0 0) 0 [] :: Ce o 43 #[vF, .slice none 0 0] :: Ce q1 92 #[.pointer (some ⟨o, 0, none⟩)] :: Ce q0 26 #[.pointer (some ⟨g, 0, none⟩)] :: Ce g 72 #[.int .u64 (base : Int), bx, .int .u64 (got : Int), .int .i64 sn, .int .u64 (si : Int), .int .i64 peer, .int .u64 (conn : Int), .int .u64 (inc : Int), .int .u64 (known : Int), .bool up, .int .u64 (heard : Int), .int .u64 (sent : Int)] :: Qs) ∧ OneE xs (xv 10) W else if dn 7 = true then Sep w0 W (Rw 49 4 (.slice none 0 0) 0 [] :: Ce o 43 #[vF, .slice none 0 0] :: Ce q1 92 #[.pointer (some ⟨o, 0, none⟩)] :: Ce q0 26 #[.pointer (some ⟨g, 0, none⟩)] :: Ce g 72 #[.int .u64 (base : Int), bx, .int .u64 (got : Int), .int .i64 sn, .int .u64 (si : Int), .int .i64 peer, .int .u64 (conn : Int), .int .u64 (inc : Int), .int .u64 (known : Int), .bool up, .int .u64 (heard : Int), .int .u64 (sent : Int)] :: Qs) else Sep w0 W (Rw 49 4 (.slice none 0 0) 0 [] :: Ce o 43 #[vF, .slice none 0 0] :: Ce q1 92 #[.pointer (some ⟨o, 0, none⟩)] :: Ce q0 26 #[.pointer (some ⟨g, 0, none⟩)] :: Ce g 72 #[.int .u64 (base : Int), bx, .int .u64 (got : Int), .int .i64 sn, .int .u64 (si : Int), .int .i64 peer, .int .u64 (conn : Int), .int .u64 (inc : Int), .int .u64 (known : Int), .bool up, .int .u64 (heard : Int), .int .u64 (sent : Int)] :: Qs)) → dn 14 = false → W.cell? ⟨o, 1, none⟩ = some (.slice none 0 0) := fun dn xv W h h0 => by
    rw [if_neg (by simp [h0])] at h
    split at h
    · exact sep_ceAt (i := 1) h rfl 1 rfl
    split at h
    · exact sep_ceAt (i := 1) h.1 rfl 1 rfl
    split at h
    · exact sep_ceAt (i := 1) h rfl 1 rfl
    exact sep_ceAt (i := 1) h rfl 1 rfl
  have HKP : ∀ (dn : Nat → Bool) (xv : Nat → Value) (W : World), (if dn 14 = true then ∃ vE, Sep w0 W (Rw 49 4 vE 1 xs :: Ce o 43 #[vF, vE] :: Ce q1 92 #[.pointer (some ⟨o, 0, none⟩)] :: Ce q0 26 #[.pointer (some ⟨g, 0, none⟩)] :: Ce g 72 #[.int .u64 (base : Int), bx, .int .u64 (got : Int), .int .i64 sn, .int .u64 (si : Int), .int .i64 peer, .int .u64 (conn : Int), .int .u64 (inc : Int), .int .u64 (known : Int), .bool up, .int .u64 (heard : Int), .int .u64 (sent : Int)] :: Qs) else if dn 11 = true then Sep w0 W (Rw 49 4 (xv 11) 1 xs :: Ce o 43 #[vF, .slice none 0 0] :: Ce q1 92 #[.pointer (some ⟨o, 0, none⟩)] :: Ce q0 26 #[.pointer (some ⟨g, 0, none⟩)] :: Ce g 72 #[.int .u64 (base : Int), bx, .int .u64 (got : Int), .int .i64 sn, .int .u64 (si : Int), .int .i64 peer, .int .u64 (conn : Int), .int .u64 (inc : Int), .int .u64 (known : Int), .bool up, .int .u64 (heard : Int), .int .u64 (sent : Int)] :: Qs) else if dn 10 = true then Sep w0 W (Rw 49 4 (.slice none 0 0) 0 [] :: Ce o 43 #[vF, .slice none 0 0] :: Ce q1 92 #[.pointer (some ⟨o, 0, none⟩)] :: Ce q0 26 #[.pointer (some ⟨g, 0, none⟩)] :: Ce g 72 #[.int .u64 (base : Int), bx, .int .u64 (got : Int), .int .i64 sn, .int .u64 (si : Int), .int .i64 peer, .int .u64 (conn : Int), .int .u64 (inc : Int), .int .u64 (known : Int), .bool up, .int .u64 (heard : Int), .int .u64 (sent : Int)] :: Qs) ∧ OneE xs (xv 10) W else if dn 7 = true then Sep w0 W (Rw 49 4 (.slice none 0 0) 0 [] :: Ce o 43 #[vF, .slice none 0 0] :: Ce q1 92 #[.pointer (some ⟨o, 0, none⟩)] :: Ce q0 26 #[.pointer (some ⟨g, 0, none⟩)] :: Ce g 72 #[.int .u64 (base : Int), bx, .int .u64 (got : Int), .int .i64 sn, .int .u64 (si : Int), .int .i64 peer, .int .u64 (conn : Int), .int .u64 (inc : Int), .int .u64 (known : Int), .bool up, .int .u64 (heard : Int), .int .u64 (sent : Int)] :: Qs) else Sep w0 W (Rw 49 4 (.slice none 0 0) 0 [] :: Ce o 43 #[vF, .slice none 0 0] :: Ce q1 92 #[.pointer (some ⟨o, 0, none⟩)] :: Ce q0 26 #[.pointer (some ⟨g, 0, none⟩)] :: Ce g 72 #[.int .u64 (base : Int), bx, .int .u64 (got : Int), .int .i64 sn, .int .u64 (si : Int), .int .i64 peer, .int .u64 (conn : Int), .int .u64 (inc : Int), .int .u64 (known : Int), .bool up, .int .u64 (heard : Int), .int .u64 (sent : Int)] :: Qs)) → W.cell? ⟨q1, 0, none⟩ = some (.pointer (some ⟨o, 0, none⟩)) ∧ W.cell? ⟨q0, 0, none⟩ = some (.pointer (some ⟨g, 0, none⟩)) := fun dn xv W h => by
    split at h
    · obtain ⟨vE, h⟩ := h
      exact ⟨sep_ceAt (i := 2) h rfl 0 rfl, sep_ceAt (i := 3) h rfl 0 rfl⟩
    split at h
    · exact ⟨sep_ceAt (i := 2) h rfl 0 rfl, sep_ceAt (i := 3) h rfl 0 rfl⟩
    split at h
    · exact ⟨sep_ceAt (i := 2) h.1 rfl 0 rfl, sep_ceAt (i := 3) h.1 rfl 0 rfl⟩
    split at h
    · exact ⟨sep_ceAt (i := 2) h rfl 0 rfl, sep_ceAt (i := 3) h rfl 0 rfl⟩
    exact ⟨sep_ceAt (i := 2) h rfl 0 rfl, sep_ceAt (i := 3) h rfl 0 rfl⟩
  clear h hsn
  rw [show [.int .i64 kind, .int .i64 peer, .int .u64 (inc : Int), .slice none 0 0] = xs from HXS.out]
  go_enter Try.func56, Try.ntmps56
  go_wp2_with fail
  refine wp_region_f (fun dn xv W => if dn 14 = true then ∃ vE, Sep w0 W (Rw 49 4 vE 1 xs :: Ce o 43 #[vF, vE] :: Ce q1 92 #[.pointer (some ⟨o, 0, none⟩)] :: Ce q0 26 #[.pointer (some ⟨g, 0, none⟩)] :: Ce g 72 #[.int .u64 (base : Int), bx, .int .u64 (got : Int), .int .i64 sn, .int .u64 (si : Int), .int .i64 peer, .int .u64 (conn : Int), .int .u64 (inc : Int), .int .u64 (known : Int), .bool up, .int .u64 (heard : Int), .int .u64 (sent : Int)] :: Qs) else if dn 11 = true then Sep w0 W (Rw 49 4 (xv 11) 1 xs :: Ce o 43 #[vF, .slice none 0 0] :: Ce q1 92 #[.pointer (some ⟨o, 0, none⟩)] :: Ce q0 26 #[.pointer (some ⟨g, 0, none⟩)] :: Ce g 72 #[.int .u64 (base : Int), bx, .int .u64 (got : Int), .int .i64 sn, .int .u64 (si : Int), .int .i64 peer, .int .u64 (conn : Int), .int .u64 (inc : Int), .int .u64 (known : Int), .bool up, .int .u64 (heard : Int), .int .u64 (sent : Int)] :: Qs) else if dn 10 = true then Sep w0 W (Rw 49 4 (.slice none 0 0) 0 [] :: Ce o 43 #[vF, .slice none 0 0] :: Ce q1 92 #[.pointer (some ⟨o, 0, none⟩)] :: Ce q0 26 #[.pointer (some ⟨g, 0, none⟩)] :: Ce g 72 #[.int .u64 (base : Int), bx, .int .u64 (got : Int), .int .i64 sn, .int .u64 (si : Int), .int .i64 peer, .int .u64 (conn : Int), .int .u64 (inc : Int), .int .u64 (known : Int), .bool up, .int .u64 (heard : Int), .int .u64 (sent : Int)] :: Qs) ∧ OneE xs (xv 10) W else if dn 7 = true then Sep w0 W (Rw 49 4 (.slice none 0 0) 0 [] :: Ce o 43 #[vF, .slice none 0 0] :: Ce q1 92 #[.pointer (some ⟨o, 0, none⟩)] :: Ce q0 26 #[.pointer (some ⟨g, 0, none⟩)] :: Ce g 72 #[.int .u64 (base : Int), bx, .int .u64 (got : Int), .int .i64 sn, .int .u64 (si : Int), .int .i64 peer, .int .u64 (conn : Int), .int .u64 (inc : Int), .int .u64 (known : Int), .bool up, .int .u64 (heard : Int), .int .u64 (sent : Int)] :: Qs) else Sep w0 W (Rw 49 4 (.slice none 0 0) 0 [] :: Ce o 43 #[vF, .slice none 0 0] :: Ce q1 92 #[.pointer (some ⟨o, 0, none⟩)] :: Ce q0 26 #[.pointer (some ⟨g, 0, none⟩)] :: Ce g 72 #[.int .u64 (base : Int), bx, .int .u64 (got : Int), .int .i64 sn, .int .u64 (si : Int), .int .i64 peer, .int .u64 (conn : Int), .int .u64 (inc : Int), .int .u64 (known : Int), .bool up, .int .u64 (heard : Int), .int .u64 (sent : Int)] :: Qs)) (fun _ _ => True) [fun v _ => v = .pointer (some ⟨o, 0, none⟩), fun v _ => v = .pointer (some ⟨o, 0, none⟩), fun v _ => v = .pointer (some ⟨o, 0, none⟩), fun v _ => v = .pointer (some ⟨o, 1, none⟩), fun v _ => v = .slice none 0 0, fun v _ => v = .int .i64 kind, fun v _ => v = .pointer (some ⟨g, 0, none⟩), fun v _ => v = .agg #[.int .i64 peer, .int .u64 (inc : Int)], fun v _ => v = .slice none 0 0, fun v _ => v = .agg #[.int .i64 kind, .int .i64 peer, .int .u64 (inc : Int), .slice none 0 0], fun v _ => True, fun v _ => True, fun v _ => v = .pointer (some ⟨o, 0, none⟩), fun v _ => v = .pointer (some ⟨o, 1, none⟩), fun v _ => True] (by kernel_rfl) (by kernel_rfl) (by kernel_rfl) (by kernel_rfl) (fun xv => by simpa using HS0.out.drew)
    (by exact ⟨fun _ _ _ _ h => h, fun _ _ _ _ h => h, fun _ _ _ _ h => h, fun _ _ _ _ h => h, fun _ _ _ _ h => h, fun _ _ _ _ h => h, fun _ _ _ _ h => h, fun _ _ _ _ h => h, fun _ _ _ _ h => h, fun _ _ _ _ h => h, fun _ _ _ _ h => h, fun _ _ _ _ h => h, fun _ _ _ _ h => h, fun _ _ _ _ h => h, fun _ _ _ _ h => h, trivial⟩) ?_ ?_
  · refine EachF.cons 1 rfl (fun dn xv W F hF hd hN hX hI H K hK => ?_) ?_
    · have f2 : F.tmps.getD 2 undef = .pointer (some ⟨q1, 0, none⟩) := (hF 2).trans (by kernel_rfl)
      have ka := (HKP dn xv W hI).1
      clear H hN hd hX hF
      refine on_plain rfl ?_
      go_simp
      exact hK.out _ _ rfl trivial (by simpa [upB, upd] using hI)
    refine EachF.cons 2 rfl (fun dn xv W F hF hd hN hX hI H K hK => ?_) ?_
    · have f2 : F.tmps.getD 2 undef = .pointer (some ⟨q1, 0, none⟩) := (hF 2).trans (by kernel_rfl)
      have ka := (HKP dn xv W hI).1
      clear H hN hd hX hF
      refine on_plain rfl ?_
      go_simp
      exact hK.out _ _ rfl trivial (by simpa [upB, upd] using hI)
    refine EachF.cons 3 rfl (fun dn xv W F hF hd hN hX hI H K hK => ?_) ?_
    · have h1 : xv 1 = .pointer (some ⟨o, 0, none⟩) := (H 1 (.edge (by kernel_rfl))).2
      have f7 : F.tmps.getD 7 undef = .pointer (some ⟨o, 0, none⟩) := (hF 7).trans (Eq.trans (by kernel_rfl) h1)
      clear H hN hd hX hF
      refine on_plain rfl ?_
      go_simp
      exact hK.out _ _ rfl trivial (by simpa [upB, upd] using hI)
    refine EachF.cons 4 rfl (fun dn xv W F hF hd hN hX hI H K hK => ?_) ?_
    · have h2 : xv 2 = .pointer (some ⟨o, 0, none⟩) := (H 2 (.edge (by kernel_rfl))).2
      have f8 : F.tmps.getD 8 undef = .pointer (some ⟨o, 0, none⟩) := (hF 8).trans (Eq.trans (by kernel_rfl) h2)
      clear H hN hd hX hF
      refine on_plain rfl ?_
      go_simp
      exact hK.out _ _ rfl trivial (by simpa [upB, upd] using hI)
    refine EachF.cons 5 rfl (fun dn xv W F hF hd hN hX hI H K hK => ?_) ?_
    · have h3 : xv 3 = .pointer (some ⟨o, 1, none⟩) := (H 3 (.edge (by kernel_rfl))).2
      have f9 : F.tmps.getD 9 undef = .pointer (some ⟨o, 1, none⟩) := (hF 9).trans (Eq.trans (by kernel_rfl) h3)
      have kk := HKO dn xv W hI (hN 14 (.more (j := 11) (by kernel_rfl) (.edge (by kernel_rfl))))
      clear H hN hd hX hF
      refine on_plain rfl ?_
      go_simp
      exact hK.out _ _ rfl trivial (by simpa [upB, upd] using hI)
    refine EachF.cons 6 rfl (fun dn xv W F hF hd hN hX hI H K hK => ?_) ?_
    · have f0 : F.tmps.getD 0 undef = .int .i64 kind := (hF 0).trans (by kernel_rfl)
      clear H hN hd hX hF
      refine on_plain rfl ?_
      go_simp
      exact hK.out _ _ rfl trivial (by simpa [upB, upd] using hI)
    refine EachF.cons 7 rfl (fun dn xv W F hF hd hN hX hI H K hK => ?_) ?_
    · have f3 : F.tmps.getD 3 undef = .pointer (some ⟨q0, 0, none⟩) := (hF 3).trans (by kernel_rfl)
      have kb := (HKP dn xv W hI).2
      clear H hN hd hX hF
      refine on_plain rfl ?_
      go_simp
      exact hK.out _ _ rfl trivial (by simpa [upB, upd] using hI)
    refine EachF.cons 8 rfl (fun dn xv W F hF hd hN hX hI H K hK => ?_) ?_
    · have h6 : xv 6 = .pointer (some ⟨g, 0, none⟩) := (H 6 (.edge (by kernel_rfl))).2
      have f12 : F.tmps.getD 12 undef = .pointer (some ⟨g, 0, none⟩) := (hF 12).trans (Eq.trans (by kernel_rfl) h6)
      have q10 : dn 10 = false := hN 10 (.more (j := 9) (by kernel_rfl) (.edge (by kernel_rfl)))
      have q11 : dn 11 = false := hN 11 (.more (j := 10) (by kernel_rfl) (.more (j := 9) (by kernel_rfl) (.edge (by kernel_rfl))))
      have q14 : dn 14 = false := hN 14 (.more (j := 11) (by kernel_rfl) (.more (j := 10) (by kernel_rfl) (.more (j := 9) (by kernel_rfl) (.edge (by kernel_rfl)))))
      have hS : Sep w0 W (Rw 49 4 (.slice none 0 0) 0 [] :: Ce o 43 #[vF, .slice none 0 0] :: Ce q1 92 #[.pointer (some ⟨o, 0, none⟩)] :: Ce q0 26 #[.pointer (some ⟨g, 0, none⟩)] :: Ce g 72 #[.int .u64 (base : Int), bx, .int .u64 (got : Int), .int .i64 sn, .int .u64 (si : Int), .int .i64 peer, .int .u64 (conn : Int), .int .u64 (inc : Int), .int .u64 (known : Int), .bool up, .int .u64 (heard : Int), .int .u64 (sent : Int)] :: Qs) := by simpa [hd, q10, q11, q14] using hI
      clear hI hN hd hX hF H
      refine on_plain rfl ?_
      go_simp
      refine (HPE.out W (sep_ceHeap (i := 4) hS rfl)).mono ?_
      rintro e W' ⟨rfl, hb⟩
      have hs : Sep w0 W' (Rw 49 4 (.slice none 0 0) 0 [] :: Ce o 43 #[vF, .slice none 0 0] :: Ce q1 92 #[.pointer (some ⟨o, 0, none⟩)] :: Ce q0 26 #[.pointer (some ⟨g, 0, none⟩)] :: Ce g 72 #[.int .u64 (base : Int), bx, .int .u64 (got : Int), .int .i64 sn, .int .u64 (si : Int), .int .i64 peer, .int .u64 (conn : Int), .int .u64 (inc : Int), .int .u64 (known : Int), .bool up, .int .u64 (heard : Int), .int .u64 (sent : Int)] :: Qs) := hS.grow hb
      exact hK.out _ W' rfl trivial (by simpa [upB, upd, q10, q11, q14] using hs)
    refine EachF.cons 9 rfl (fun dn xv W F hF hd hN hX hI H K hK => ?_) ?_
    · have f1 : F.tmps.getD 1 undef = .slice none 0 0 := (hF 1).trans (by kernel_rfl)
      clear H hN hd hX hF
      refine on_plain rfl ?_
      go_simp
      exact hK.out _ _ rfl trivial (by simpa [upB, upd] using hI)
    refine EachF.cons 10 rfl (fun dn xv W F hF hd hN hX hI H K hK => ?_) ?_
    · have h5 : xv 5 = .int .i64 kind := (H 5 (.edge (by kernel_rfl))).2
      have f11 : F.tmps.getD 11 undef = .int .i64 kind := (hF 11).trans (Eq.trans (by kernel_rfl) h5)
      have h7 : xv 7 = .agg #[.int .i64 peer, .int .u64 (inc : Int)] := (H 7 (.edge (by kernel_rfl))).2
      have f13 : F.tmps.getD 13 undef = .agg #[.int .i64 peer, .int .u64 (inc : Int)] := (hF 13).trans (Eq.trans (by kernel_rfl) h7)
      have h8 : xv 8 = .slice none 0 0 := (H 8 (.edge (by kernel_rfl))).2
      have f14 : F.tmps.getD 14 undef = .slice none 0 0 := (hF 14).trans (Eq.trans (by kernel_rfl) h8)
      clear H hN hd hX hF
      refine on_plain rfl ?_
      have g11 := f11
      have g13 := f13
      have g14 := f14
      rw [Array.getD_eq_getD_getElem?] at g11 g13 g14
      go_simp
      exact hK.out _ _ rfl trivial (by simpa [upB, upd] using hI)
    refine EachF.cons 11 rfl (fun dn xv W F hF hd hN hX hI H K hK => ?_) ?_
    · have h9 : xv 9 = .agg #[.int .i64 kind, .int .i64 peer, .int .u64 (inc : Int), .slice none 0 0] := (H 9 (.edge (by kernel_rfl))).2
      have f15 : F.tmps.getD 15 undef = .agg #[.int .i64 kind, .int .i64 peer, .int .u64 (inc : Int), .slice none 0 0] := (hF 15).trans (Eq.trans (by kernel_rfl) h9)
      have q7 : dn 7 = true := (H 7 (.more (j := 9) (by kernel_rfl) (.edge (by kernel_rfl)))).1
      have q11 : dn 11 = false := hN 11 (.edge (by kernel_rfl))
      have q14 : dn 14 = false := hN 14 (.more (j := 11) (by kernel_rfl) (.edge (by kernel_rfl)))
      have hS : Sep w0 W (Rw 49 4 (.slice none 0 0) 0 [] :: Ce o 43 #[vF, .slice none 0 0] :: Ce q1 92 #[.pointer (some ⟨o, 0, none⟩)] :: Ce q0 26 #[.pointer (some ⟨g, 0, none⟩)] :: Ce g 72 #[.int .u64 (base : Int), bx, .int .u64 (got : Int), .int .i64 sn, .int .u64 (si : Int), .int .i64 peer, .int .u64 (conn : Int), .int .u64 (inc : Int), .int .u64 (known : Int), .bool up, .int .u64 (heard : Int), .int .u64 (sent : Int)] :: Qs) := by simpa [hd, q11, q14, q7] using hI
      clear hI hN hd hX hF H
      refine on_plain rfl ?_
      have g15 := f15
      rw [Array.getD_eq_getD_getElem?] at g15
      go_simp
      have hb : Below W.heap.size W (W.alloc (.cells #[.int .i64 kind, .int .i64 peer, .int .u64 (inc : Int), .slice none 0 0] 49)) := (Below.refl _ _).alloc (Nat.le_refl _) _
      have hs : Sep w0 (W.alloc (.cells #[.int .i64 kind, .int .i64 peer, .int .u64 (inc : Int), .slice none 0 0] 49)) (Rw 49 4 (.slice none 0 0) 0 [] :: Ce o 43 #[vF, .slice none 0 0] :: Ce q1 92 #[.pointer (some ⟨o, 0, none⟩)] :: Ce q0 26 #[.pointer (some ⟨g, 0, none⟩)] :: Ce g 72 #[.int .u64 (base : Int), bx, .int .u64 (got : Int), .int .i64 sn, .int .u64 (si : Int), .int .i64 peer, .int .u64 (conn : Int), .int .u64 (inc : Int), .int .u64 (known : Int), .bool up, .int .u64 (heard : Int), .int .u64 (sent : Int)] :: Qs) ∧ OneE xs (.slice (some ⟨W.heap.size, 0, none⟩) 1 1) (W.alloc (.cells #[.int .i64 kind, .int .i64 peer, .int .u64 (inc : Int), .slice none 0 0] 49)) := ⟨hS.grow hb, HXS.out ▸ OneE.new W _⟩
      exact hK.out _ _ trivial trivial (by simpa [upB, upd, q11, q14] using hs)
    refine EachF.cons 12 rfl (fun dn xv W F hF hd hN hX hI H K hK => ?_) ?_
    · have h4 : xv 4 = .slice none 0 0 := (H 4 (.edge (by kernel_rfl))).2
      have f10 : F.tmps.getD 10 undef = .slice none 0 0 := (hF 10).trans (Eq.trans (by kernel_rfl) h4)
      have h10 := (H 10 (.edge (by kernel_rfl))).2
      simp only [Dl] at h10
      have f16 : F.tmps.getD 16 undef = xv 10 := (hF 16).trans (by kernel_rfl)
      have q10 : dn 10 = true := (H 10 (.edge (by kernel_rfl))).1
      have q14 : dn 14 = false := hN 14 (.edge (by kernel_rfl))
      have hS : Sep w0 W (Rw 49 4 (.slice none 0 0) 0 [] :: Ce o 43 #[vF, .slice none 0 0] :: Ce q1 92 #[.pointer (some ⟨o, 0, none⟩)] :: Ce q0 26 #[.pointer (some ⟨g, 0, none⟩)] :: Ce g 72 #[.int .u64 (base : Int), bx, .int .u64 (got : Int), .int .i64 sn, .int .u64 (si : Int), .int .i64 peer, .int .u64 (conn : Int), .int .u64 (inc : Int), .int .u64 (known : Int), .bool up, .int .u64 (heard : Int), .int .u64 (sent : Int)] :: Qs) ∧ OneE xs (xv 10) W := by simpa [hd, q14, q10] using hI
      clear hI hN hd hX hF H
      refine on_plain rfl ?_
      obtain ⟨s1, A3, c3, e3, hl3, hh3⟩ := hS
      have fex := f16.trans e3
      refine sep_opAppW rowEvents (i := 0) (s := .tmp 10) (x := .tmp 16) (m := 1) (news := xs) (by rfl) f10 fex s1 rfl (by rw [hl3]) hh3 HX1.out (by unfold maxLen; omega) (by omega) ?_
      intro v W' hs0
      have hs : Sep w0 W' (Rw 49 4 v 1 xs :: Ce o 43 #[vF, .slice none 0 0] :: Ce q1 92 #[.pointer (some ⟨o, 0, none⟩)] :: Ce q0 26 #[.pointer (some ⟨g, 0, none⟩)] :: Ce g 72 #[.int .u64 (base : Int), bx, .int .u64 (got : Int), .int .i64 sn, .int .u64 (si : Int), .int .i64 peer, .int .u64 (conn : Int), .int .u64 (inc : Int), .int .u64 (known : Int), .bool up, .int .u64 (heard : Int), .int .u64 (sent : Int)] :: Qs) := hs0
      exact hK.out v W' trivial trivial (by simpa [upB, upd, q14] using hs)
    refine EachF.cons 13 rfl (fun dn xv W F hF hd hN hX hI H K hK => ?_) ?_
    · have h0 : xv 0 = .pointer (some ⟨o, 0, none⟩) := (H 0 (.edge (by kernel_rfl))).2
      have f6 : F.tmps.getD 6 undef = .pointer (some ⟨o, 0, none⟩) := (hF 6).trans (Eq.trans (by kernel_rfl) h0)
      clear H hN hd hX hF
      refine on_plain rfl ?_
      go_simp
      exact hK.out _ _ rfl trivial (by simpa [upB, upd] using hI)
    refine EachF.cons 14 rfl (fun dn xv W F hF hd hN hX hI H K hK => ?_) ?_
    · have h12 : xv 12 = .pointer (some ⟨o, 0, none⟩) := (H 12 (.edge (by kernel_rfl))).2
      have f18 : F.tmps.getD 18 undef = .pointer (some ⟨o, 0, none⟩) := (hF 18).trans (Eq.trans (by kernel_rfl) h12)
      clear H hN hd hX hF
      refine on_plain rfl ?_
      go_simp
      exact hK.out _ _ rfl trivial (by simpa [upB, upd] using hI)
    refine EachF.cons 15 rfl (fun dn xv W F hF hd hN hX hI H K hK => ?_) ?_
    · have h11 := (H 11 (.edge (by kernel_rfl))).2
      simp only [Dl] at h11
      have f17 : F.tmps.getD 17 undef = xv 11 := (hF 17).trans (by kernel_rfl)
      have h13 : xv 13 = .pointer (some ⟨o, 1, none⟩) := (H 13 (.edge (by kernel_rfl))).2
      have f19 : F.tmps.getD 19 undef = .pointer (some ⟨o, 1, none⟩) := (hF 19).trans (Eq.trans (by kernel_rfl) h13)
      have q11 : dn 11 = true := (H 11 (.edge (by kernel_rfl))).1
      have hS : Sep w0 W (Rw 49 4 (xv 11) 1 xs :: Ce o 43 #[vF, .slice none 0 0] :: Ce q1 92 #[.pointer (some ⟨o, 0, none⟩)] :: Ce q0 26 #[.pointer (some ⟨g, 0, none⟩)] :: Ce g 72 #[.int .u64 (base : Int), bx, .int .u64 (got : Int), .int .i64 sn, .int .u64 (si : Int), .int .i64 peer, .int .u64 (conn : Int), .int .u64 (inc : Int), .int .u64 (known : Int), .bool up, .int .u64 (heard : Int), .int .u64 (sent : Int)] :: Qs) := by simpa [hd, q11] using hI
      clear hI hN hd hX hF H
      refine on_plain rfl ?_
      obtain ⟨A2, c2, e2, _⟩ := sep_rwForm (i := 0) hS rfl
      have hc3 := sep_ceAt (i := 1) hS rfl 1 rfl
      have hf3 := sep_ceFrozen (i := 1) hS rfl 1
      rw [e2] at hS
      have hs0 := sep_ceSet (i := 1) hS rfl 1 (.slice A2 1 c2)
      have hs : ∃ vE, Sep w0 (W.setCell ⟨o, 1, none⟩ (.slice A2 1 c2)) (Rw 49 4 vE 1 xs :: Ce o 43 #[vF, vE] :: Ce q1 92 #[.pointer (some ⟨o, 0, none⟩)] :: Ce q0 26 #[.pointer (some ⟨g, 0, none⟩)] :: Ce g 72 #[.int .u64 (base : Int), bx, .int .u64 (got : Int), .int .i64 sn, .int .u64 (si : Int), .int .i64 peer, .int .u64 (conn : Int), .int .u64 (inc : Int), .int .u64 (known : Int), .bool up, .int .u64 (heard : Int), .int .u64 (sent : Int)] :: Qs) := ⟨_, hs0⟩
      clear hs0
      go_simp
      exact hK.out undef _ trivial trivial (by simpa [upB, upd] using hs)
    exact EachF.nil
  · intro dn xv W hI H
    have qe : dn 14 = true := (H 14 (of_decide_eq_true (by kernel_rfl))).1
    have hS : ∃ vE, Sep w0 W (Rw 49 4 vE 1 xs :: Ce o 43 #[vF, vE] :: Ce q1 92 #[.pointer (some ⟨o, 0, none⟩)] :: Ce q0 26 #[.pointer (some ⟨g, 0, none⟩)] :: Ce g 72 #[.int .u64 (base : Int), bx, .int .u64 (got : Int), .int .i64 sn, .int .u64 (si : Int), .int .i64 peer, .int .u64 (conn : Int), .int .u64 (inc : Int), .int .u64 (known : Int), .bool up, .int .u64 (heard : Int), .int .u64 (sent : Int)] :: Qs) := by simpa [qe] using hI
    clear H hI qe
    simp only [putAll, Act.put, List.setIfInBounds_toArray, List.set_cons_zero, List.set_cons_succ, Nat.reduceAdd]
    obtain ⟨vE, hS⟩ := hS
    have HS1 := Lib.hid hS
    clear hS
    go_wp2_with fail
    go_end0
    exact ⟨rfl, _, HS1.out⟩
end Go.Proofs.Ytngegjboenfmeaa
