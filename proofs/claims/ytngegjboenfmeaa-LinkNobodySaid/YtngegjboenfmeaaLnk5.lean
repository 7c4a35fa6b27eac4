/- New of a link; Tick of a link that is not up. -/
import Derived.Test.YtngegjboenfmeaaLnk2
import Derived.Test.YtngegjboenfmeaaRow
import Derived.Test.YtngegjboenfmeaaRgIn
namespace Go.Proofs.Ytngegjboenfmeaa
open Go Go.RowKit
set_option linter.unusedVariables false
set_option maxRecDepth 100000
set_option linter.unusedSimpArgs false

theorem sep_rwFrom {w0 w : World} {Ps : List SP} {i : Nat} {e : TypeId} {size n : Nat} {v : Value} {xs : List Value} (h : Sep w0 w Ps) (hi : Ps[i]? = some (Rw e size v n xs)) : w.ownsRow w0.heap.size e size v n xs := by
  obtain ⟨F, ⟨h1, hF⟩, _, hlt, _⟩ := h.upd hi
  refine ⟨h1.1, ?_⟩
  rcases h1.2 with q | ⟨k, cap, cur, rfl, f1, f2⟩
  · exact .inl q
  · exact .inr ⟨k, cap, cur, rfl, (hlt k ((hF k).2 rfl)).1, f2⟩
theorem made_yes (w : World) (g : Nat) (sn : Int) (hsn : sn ≠ 0) (k3 : w.cell? ⟨g, 3, none⟩ = some (.int .i64 sn)) : Calls Try.prog 33 #[.pointer (some ⟨g, 0, none⟩)] w fun e w' => e = .returned (.bool true) ∧ Below w.heap.size w w' := by
  have es : (sn == 0) = false := beq_eq_false_iff_ne.2 hsn
  have ds : (sn != 0) = true := by simp [hsn]
  clear hsn
  go_enter Try.func33, Try.ntmps33
  go_wp2_with fail
  go_ret
  exact ⟨rfl, Below.refl _ _⟩
set_option maxHeartbeats 1600000 in
theorem newLink_any (w : World) (sn : Int) (si : Nat) (peer : Int) (h1 : 1 ≤ sn) (h2 : sn ≤ 10) (h3 : si ≠ 0) (h4 : si ≤ 34359738367) (h5 : 1 ≤ peer) (h6 : peer ≤ 10) (h7 : peer ≠ sn) :
    Calls Try.prog 17 #[.agg #[.int .i64 sn, .int .u64 (si : Int)], .int .i64 peer] w fun e w' => ∃ g, e = .returned (.tuple #[.pointer (some ⟨g, 0, none⟩), .int .i64 0]) ∧ w.heap.size ≤ g ∧ w'.heap[g]? = some (.cells (lkCells 0 (.slice none 0 0) 0 sn si peer 1 0 0 false 0 0) 72 (0, 0)) ∧ Below w.heap.size w w' := by
  have HM : Hid (mayPB sn si = true) := Lib.hid (decide_eq_true ⟨h1, h2, h3⟩)
  have ep : (peer == sn) = false := beq_eq_false_iff_ne.2 h7
  have HS0 := Lib.hid (show Sep w (w.alloc (.cells #[.int .i64 sn, .int .u64 (si : Int)] 46)) [Ce w.heap.size 46 #[.int .i64 sn, .int .u64 (si : Int)]] from sep_ce (Sep.nil w) _ _)
  clear h3 h7
  unfold lkCells
  go_enter Try.func17, Try.ntmps17
  go_wp2_with fail
  refine (procMay_any _ sn si).mono ?_
  rintro e w1 ⟨rfl, hb1⟩
  rw [HM.out]
  have HS1 := Lib.hid (HS0.out.grow hb1)
  clear HS0 hb1
  have k0 := sep_ceAt (i := 0) HS1.out rfl 0 rfl
  have k1 := sep_ceAt (i := 0) HS1.out rfl 1 rfl
  go_wp2_with fail
  go_ret2
  refine ⟨_, rfl, HS1.out.size, heap_alloc_new _ _, HS1.out.bel.alloc HS1.out.size _⟩
/-- a row of one frame -/
def OneF (xs : List Value) (v : Value) (w : World) : Prop := ∃ A c, v = .slice A 1 c ∧ xs.length = 1 * 10 ∧ Has w w.heap.size A xs
theorem OneF.new (w : World) (cs : Array Value) (h : cs.toList.length = 1 * 10 := by rfl) : OneF cs.toList (.slice (some ⟨w.heap.size, 0, none⟩) 1 1) (w.alloc (.cells cs 51)) := ⟨_, 1, rfl, h, by have := has_new w cs 51; simpa using this⟩
set_option maxHeartbeats 3200000 in
theorem tickDown_any (w : World) (now : Nat) (g base : Nat) (bx : Value) (got : Nat) (sn : Int) (si : Nat) (peer : Int) (conn inc known heard sent : Nat) (hsn : sn ≠ 0) (h : w.heap[g]? = some (.cells (lkCells base bx got sn si peer conn inc known false heard sent) 72 (0, 0))) :
    Calls Try.prog 14 #[.pointer (some ⟨g, 0, none⟩), .int .u64 (now : Int)] w fun e w' => ∃ vF, e = .returned (.agg #[vF, .slice none 0 0]) ∧ w'.ownsRow w.heap.size 51 10 vF 1 (heCells got sn si peer conn inc known).toList ∧ Below w.heap.size w w' := by
  have hlt := lt_of_heap h
  have HH := Lib.hid h
  have HSN := Lib.hid hsn
  have HHE := Lib.hid (fun (W : World) hh => hello_any W g base bx got sn si peer conn inc known false heard sent hh)
  have HGW : ∀ {W : World}, Below w.heap.size w W → W.heap[g]? = some (.cells (lkCells base bx got sn si peer conn inc known false heard sent) 72 (0, 0)) := fun hb => (hb.block g hlt).trans HH.out
  obtain ⟨xs, HXS⟩ : ∃ l, Hid ((heCells got sn si peer conn inc known).toList = l) := ⟨_, Lib.hid rfl⟩
  have HX1 : Hid (∀ u ∈ xs, u.oneCell' = true) := Lib.hid (by
    rw [← HXS.out]
    intro u hu
    simp only [heCells, List.mem_cons, List.not_mem_nil, or_false] at hu
    rcases hu with rfl | rfl | rfl | rfl | rfl | rfl | rfl | rfl | rfl | rfl <;> rfl)
  have HS0 := Lib.hid (show Sep w (((w.alloc (.cells #[.pointer (some ⟨g, 0, none⟩)] 26)).alloc (.cells #[.slice none 0 0, .slice none 0 0] 43)).alloc (.cells #[.slice none 0 0, .slice none 0 0] 43)) [Ce w.heap.size 26 #[.pointer (some ⟨g, 0, none⟩)], Ce (w.heap.size + 1) 43 #[.slice none 0 0, .slice none 0 0], Ce (w.heap.size + 1 + 1) 43 #[.slice none 0 0, .slice none 0 0], Rw 51 10 (.slice none 0 0) 0 []] by
    have := sep_ce (sep_ce (sep_ce (Sep.nil w) #[.pointer (some ⟨g, 0, none⟩)] 26) #[.slice none 0 0, .slice none 0 0] 43) #[.slice none 0 0, .slice none 0 0] 43
    simp only [World.size_alloc] at this
    exact sep_rwNil this _ _)
  have HKO : ∀ (dn : Nat → Bool) (xv : Nat → Value) (W : World), (if dn 7 = true then ∃ vF, Sep w W [Ce w.heap.size 26 #[.pointer (some ⟨g, 0, none⟩)], Ce (w.heap.size + 1) 43 #[.slice none 0 0, .slice none 0 0], Ce (w.heap.size + 1 + 1) 43 #[vF, .slice none 0 0], Rw 51 10 vF 1 xs] else if dn 5 = true then Sep w W [Ce w.heap.size 26 #[.pointer (some ⟨g, 0, none⟩)], Ce (w.heap.size + 1) 43 #[.slice none 0 0, .slice none 0 0], Ce (w.heap.size + 1 + 1) 43 #[.slice none 0 0, .slice none 0 0], Rw 51 10 (xv 5) 1 xs] else if dn 4 = true then Sep w W [Ce w.heap.size 26 #[.pointer (some ⟨g, 0, none⟩)], Ce (w.heap.size + 1) 43 #[.slice none 0 0, .slice none 0 0], Ce (w.heap.size + 1 + 1) 43 #[.slice none 0 0, .slice none 0 0], Rw 51 10 (.slice none 0 0) 0 []] ∧ OneF xs (xv 4) W else if dn 3 = true then Sep w W [Ce w.heap.size 26 #[.pointer (some ⟨g, 0, none⟩)], Ce (w.heap.size + 1) 43 #[.slice none 0 0, .slice none 0 0], Ce (w.heap.size + 1 + 1) 43 #[.slice none 0 0, .slice none 0 0], Rw 51 10 (.slice none 0 0) 0 []] else Sep w W [Ce w.heap.size 26 #[.pointer (some ⟨g, 0, none⟩)], Ce (w.heap.size + 1) 43 #[.slice none 0 0, .slice none 0 0], Ce (w.heap.size + 1 + 1) 43 #[.slice none 0 0, .slice none 0 0], Rw 51 10 (.slice none 0 0) 0 []]) → dn 7 = false → W.cell? ⟨w.heap.size + 1 + 1, 0, none⟩ = some (.slice none 0 0) := fun dn xv W h h0 => by
    rw [if_neg (by simp [h0])] at h
    split at h
    · exact sep_ceAt (i := 2) h rfl 0 rfl
    split at h
    · exact sep_ceAt (i := 2) h.1 rfl 0 rfl
    split at h
    · exact sep_ceAt (i := 2) h rfl 0 rfl
    exact sep_ceAt (i := 2) h rfl 0 rfl
  have HKL : ∀ (dn : Nat → Bool) (xv : Nat → Value) (W : World), (if dn 7 = true then ∃ vF, Sep w W [Ce w.heap.size 26 #[.pointer (some ⟨g, 0, none⟩)], Ce (w.heap.size + 1) 43 #[.slice none 0 0, .slice none 0 0], Ce (w.heap.size + 1 + 1) 43 #[vF, .slice none 0 0], Rw 51 10 vF 1 xs] else if dn 5 = true then Sep w W [Ce w.heap.size 26 #[.pointer (some ⟨g, 0, none⟩)], Ce (w.heap.size + 1) 43 #[.slice none 0 0, .slice none 0 0], Ce (w.heap.size + 1 + 1) 43 #[.slice none 0 0, .slice none 0 0], Rw 51 10 (xv 5) 1 xs] else if dn 4 = true then Sep w W [Ce w.heap.size 26 #[.pointer (some ⟨g, 0, none⟩)], Ce (w.heap.size + 1) 43 #[.slice none 0 0, .slice none 0 0], Ce (w.heap.size + 1 + 1) 43 #[.slice none 0 0, .slice none 0 0], Rw 51 10 (.slice none 0 0) 0 []] ∧ OneF xs (xv 4) W else if dn 3 = true then Sep w W [Ce w.heap.size 26 #[.pointer (some ⟨g, 0, none⟩)], Ce (w.heap.size + 1) 43 #[.slice none 0 0, .slice none 0 0], Ce (w.heap.size + 1 + 1) 43 #[.slice none 0 0, .slice none 0 0], Rw 51 10 (.slice none 0 0) 0 []] else Sep w W [Ce w.heap.size 26 #[.pointer (some ⟨g, 0, none⟩)], Ce (w.heap.size + 1) 43 #[.slice none 0 0, .slice none 0 0], Ce (w.heap.size + 1 + 1) 43 #[.slice none 0 0, .slice none 0 0], Rw 51 10 (.slice none 0 0) 0 []]) → W.cell? ⟨w.heap.size, 0, none⟩ = some (.pointer (some ⟨g, 0, none⟩)) := fun dn xv W h => by
    split at h
    · obtain ⟨vF, h⟩ := h
      exact sep_ceAt (i := 0) h rfl 0 rfl
    split at h
    · exact sep_ceAt (i := 0) h rfl 0 rfl
    split at h
    · exact sep_ceAt (i := 0) h.1 rfl 0 rfl
    split at h
    · exact sep_ceAt (i := 0) h rfl 0 rfl
    exact sep_ceAt (i := 0) h rfl 0 rfl
  clear h hsn
  rw [HXS.out]
  go_enter Try.func14, Try.ntmps14
  go_wp2_with fail
  refine (made_yes _ g sn HSN.out (by rw [cell_of_row _ g 3 _ _ _ (HGW HS0.out.bel)]; rfl)).mono ?_
  rintro e w1 ⟨rfl, hb1⟩
  have HS3 := Lib.hid (show Sep w w1 [Ce w.heap.size 26 #[.pointer (some ⟨g, 0, none⟩)], Ce (w.heap.size + 1) 43 #[.slice none 0 0, .slice none 0 0], Ce (w.heap.size + 1 + 1) 43 #[.slice none 0 0, .slice none 0 0], Rw 51 10 (.slice none 0 0) 0 []] from HS0.out.grow hb1)
  clear HS0 hb1
  have kl := sep_ceAt (i := 0) HS3.out rfl 0 rfl
  have ku : w1.cell? ⟨g, 9, none⟩ = some (.bool false) := by rw [cell_of_row _ g 9 _ _ _ (HGW HS3.out.bel)]; rfl
  go_wp2_with fail
  clear kl ku
  refine wp_region_f (fun dn xv W => if dn 7 = true then ∃ vF, Sep w W [Ce w.heap.size 26 #[.pointer (some ⟨g, 0, none⟩)], Ce (w.heap.size + 1) 43 #[.slice none 0 0, .slice none 0 0], Ce (w.heap.size + 1 + 1) 43 #[vF, .slice none 0 0], Rw 51 10 vF 1 xs] else if dn 5 = true then Sep w W [Ce w.heap.size 26 #[.pointer (some ⟨g, 0, none⟩)], Ce (w.heap.size + 1) 43 #[.slice none 0 0, .slice none 0 0], Ce (w.heap.size + 1 + 1) 43 #[.slice none 0 0, .slice none 0 0], Rw 51 10 (xv 5) 1 xs] else if dn 4 = true then Sep w W [Ce w.heap.size 26 #[.pointer (some ⟨g, 0, none⟩)], Ce (w.heap.size + 1) 43 #[.slice none 0 0, .slice none 0 0], Ce (w.heap.size + 1 + 1) 43 #[.slice none 0 0, .slice none 0 0], Rw 51 10 (.slice none 0 0) 0 []] ∧ OneF xs (xv 4) W else if dn 3 = true then Sep w W [Ce w.heap.size 26 #[.pointer (some ⟨g, 0, none⟩)], Ce (w.heap.size + 1) 43 #[.slice none 0 0, .slice none 0 0], Ce (w.heap.size + 1 + 1) 43 #[.slice none 0 0, .slice none 0 0], Rw 51 10 (.slice none 0 0) 0 []] else Sep w W [Ce w.heap.size 26 #[.pointer (some ⟨g, 0, none⟩)], Ce (w.heap.size + 1) 43 #[.slice none 0 0, .slice none 0 0], Ce (w.heap.size + 1 + 1) 43 #[.slice none 0 0, .slice none 0 0], Rw 51 10 (.slice none 0 0) 0 []]) (fun _ _ => True) [fun v _ => v = .pointer (some ⟨w.heap.size + 1 + 1, 0, none⟩), fun v _ => v = .slice none 0 0, fun v _ => v = .pointer (some ⟨g, 0, none⟩), fun v _ => v = .agg #[.int .i64 1, .int .i64 sn, .int .i64 peer, .int .u64 (si : Int), .int .u64 (conn : Int), .int .u64 (inc : Int), .int .u64 (known : Int), .int .u64 (got : Int), .int .u64 0, .slice none 0 0], fun v _ => True, fun v _ => True, fun v _ => v = .pointer (some ⟨w.heap.size + 1 + 1, 0, none⟩), fun v _ => True] (by kernel_rfl) (by kernel_rfl) (by kernel_rfl) (by kernel_rfl) (fun xv => by simpa using HS3.out.drew)
    (by exact ⟨fun _ _ _ _ h => h, fun _ _ _ _ h => h, fun _ _ _ _ h => h, fun _ _ _ _ h => h, fun _ _ _ _ h => h, fun _ _ _ _ h => h, fun _ _ _ _ h => h, fun _ _ _ _ h => h, trivial⟩) ?_ ?_
  · refine EachF.cons 1 rfl (fun dn xv W F hF hd hN hX hI H K hK => ?_) ?_
    · have f5 : F.tmps.getD 5 undef = .pointer (some ⟨w.heap.size + 1 + 1, 0, none⟩) := (hF 5).trans (by kernel_rfl)
      clear H hN hd hX hF
      refine on_plain rfl ?_
      go_simp
      exact hK.out _ _ rfl trivial (by simpa [upB, upd] using hI)
    refine EachF.cons 2 rfl (fun dn xv W F hF hd hN hX hI H K hK => ?_) ?_
    · have h0 : xv 0 = .pointer (some ⟨w.heap.size + 1 + 1, 0, none⟩) := (H 0 (.edge (by kernel_rfl))).2
      have f36 : F.tmps.getD 36 undef = .pointer (some ⟨w.heap.size + 1 + 1, 0, none⟩) := (hF 36).trans (Eq.trans (by kernel_rfl) h0)
      have kk := HKO dn xv W hI (hN 7 (.more (j := 5) (by kernel_rfl) (.edge (by kernel_rfl))))
      clear H hN hd hX hF
      refine on_plain rfl ?_
      go_simp
      exact hK.out _ _ rfl trivial (by simpa [upB, upd] using hI)
    refine EachF.cons 3 rfl (fun dn xv W F hF hd hN hX hI H K hK => ?_) ?_
    · have f2 : F.tmps.getD 2 undef = .pointer (some ⟨w.heap.size, 0, none⟩) := (hF 2).trans (by kernel_rfl)
      have kl := HKL dn xv W hI
      clear H hN hd hX hF
      refine on_plain rfl ?_
      go_simp
      exact hK.out _ _ rfl trivial (by simpa [upB, upd] using hI)
    refine EachF.cons 4 rfl (fun dn xv W F hF hd hN hX hI H K hK => ?_) ?_
    · have h2 : xv 2 = .pointer (some ⟨g, 0, none⟩) := (H 2 (.edge (by kernel_rfl))).2
      have f38 : F.tmps.getD 38 undef = .pointer (some ⟨g, 0, none⟩) := (hF 38).trans (Eq.trans (by kernel_rfl) h2)
      have q4 : dn 4 = false := hN 4 (.edge (by kernel_rfl))
      have q5 : dn 5 = false := hN 5 (.more (j := 4) (by kernel_rfl) (.edge (by kernel_rfl)))
      have q7 : dn 7 = false := hN 7 (.more (j := 5) (by kernel_rfl) (.more (j := 4) (by kernel_rfl) (.edge (by kernel_rfl))))
      have hS : Sep w W [Ce w.heap.size 26 #[.pointer (some ⟨g, 0, none⟩)], Ce (w.heap.size + 1) 43 #[.slice none 0 0, .slice none 0 0], Ce (w.heap.size + 1 + 1) 43 #[.slice none 0 0, .slice none 0 0], Rw 51 10 (.slice none 0 0) 0 []] := by simpa [hd, q4, q5, q7] using hI
      clear hI hN hd hX hF H
      refine on_plain rfl ?_
      go_simp
      refine (HHE.out W (HGW hS.bel)).mono ?_
      rintro e W' ⟨rfl, hb⟩
      have hs : Sep w W' [Ce w.heap.size 26 #[.pointer (some ⟨g, 0, none⟩)], Ce (w.heap.size + 1) 43 #[.slice none 0 0, .slice none 0 0], Ce (w.heap.size + 1 + 1) 43 #[.slice none 0 0, .slice none 0 0], Rw 51 10 (.slice none 0 0) 0 []] := hS.grow hb
      exact hK.out _ W' rfl trivial (by simpa [upB, upd, q4, q5, q7] using hs)
    refine EachF.cons 5 rfl (fun dn xv W F hF hd hN hX hI H K hK => ?_) ?_
    · have h3 : xv 3 = .agg #[.int .i64 1, .int .i64 sn, .int .i64 peer, .int .u64 (si : Int), .int .u64 (conn : Int), .int .u64 (inc : Int), .int .u64 (known : Int), .int .u64 (got : Int), .int .u64 0, .slice none 0 0] := (H 3 (.edge (by kernel_rfl))).2
      have f39 : F.tmps.getD 39 undef = .agg #[.int .i64 1, .int .i64 sn, .int .i64 peer, .int .u64 (si : Int), .int .u64 (conn : Int), .int .u64 (inc : Int), .int .u64 (known : Int), .int .u64 (got : Int), .int .u64 0, .slice none 0 0] := (hF 39).trans (Eq.trans (by kernel_rfl) h3)
      have q3 : dn 3 = true := (H 3 (.edge (by kernel_rfl))).1
      have q5 : dn 5 = false := hN 5 (.edge (by kernel_rfl))
      have q7 : dn 7 = false := hN 7 (.more (j := 5) (by kernel_rfl) (.edge (by kernel_rfl)))
      have hS : Sep w W [Ce w.heap.size 26 #[.pointer (some ⟨g, 0, none⟩)], Ce (w.heap.size + 1) 43 #[.slice none 0 0, .slice none 0 0], Ce (w.heap.size + 1 + 1) 43 #[.slice none 0 0, .slice none 0 0], Rw 51 10 (.slice none 0 0) 0 []] := by simpa [hd, q5, q7, q3] using hI
      clear hI hN hd hX hF H
      refine on_plain rfl ?_
      have g39 := f39
      rw [Array.getD_eq_getD_getElem?] at g39
      go_simp
      have hb : Below W.heap.size W (W.alloc (.cells #[.int .i64 1, .int .i64 sn, .int .i64 peer, .int .u64 (si : Int), .int .u64 (conn : Int), .int .u64 (inc : Int), .int .u64 (known : Int), .int .u64 (got : Int), .int .u64 0, .slice none 0 0] 51)) := (Below.refl _ _).alloc (Nat.le_refl _) _
      have hs : Sep w (W.alloc (.cells #[.int .i64 1, .int .i64 sn, .int .i64 peer, .int .u64 (si : Int), .int .u64 (conn : Int), .int .u64 (inc : Int), .int .u64 (known : Int), .int .u64 (got : Int), .int .u64 0, .slice none 0 0] 51)) [Ce w.heap.size 26 #[.pointer (some ⟨g, 0, none⟩)], Ce (w.heap.size + 1) 43 #[.slice none 0 0, .slice none 0 0], Ce (w.heap.size + 1 + 1) 43 #[.slice none 0 0, .slice none 0 0], Rw 51 10 (.slice none 0 0) 0 []] ∧ OneF xs (.slice (some ⟨W.heap.size, 0, none⟩) 1 1) (W.alloc (.cells #[.int .i64 1, .int .i64 sn, .int .i64 peer, .int .u64 (si : Int), .int .u64 (conn : Int), .int .u64 (inc : Int), .int .u64 (known : Int), .int .u64 (got : Int), .int .u64 0, .slice none 0 0] 51)) := ⟨hS.grow hb, HXS.out ▸ OneF.new W _⟩
      exact hK.out _ _ trivial trivial (by simpa [upB, upd, q5, q7] using hs)
    refine EachF.cons 6 rfl (fun dn xv W F hF hd hN hX hI H K hK => ?_) ?_
    · have h1 : xv 1 = .slice none 0 0 := (H 1 (.edge (by kernel_rfl))).2
      have f37 : F.tmps.getD 37 undef = .slice none 0 0 := (hF 37).trans (Eq.trans (by kernel_rfl) h1)
      have h4 := (H 4 (.edge (by kernel_rfl))).2
      simp only [Dl] at h4
      have f40 : F.tmps.getD 40 undef = xv 4 := (hF 40).trans (by kernel_rfl)
      have q4 : dn 4 = true := (H 4 (.edge (by kernel_rfl))).1
      have q7 : dn 7 = false := hN 7 (.edge (by kernel_rfl))
      have hS : Sep w W [Ce w.heap.size 26 #[.pointer (some ⟨g, 0, none⟩)], Ce (w.heap.size + 1) 43 #[.slice none 0 0, .slice none 0 0], Ce (w.heap.size + 1 + 1) 43 #[.slice none 0 0, .slice none 0 0], Rw 51 10 (.slice none 0 0) 0 []] ∧ OneF xs (xv 4) W := by simpa [hd, q7, q4] using hI
      clear hI hN hd hX hF H
      refine on_plain rfl ?_
      obtain ⟨s1, A3, c3, e3, hl3, hh3⟩ := hS
      have f40x := f40.trans e3
      refine sep_opAppW rowFrames (i := 3) (s := .tmp 37) (x := .tmp 40) (m := 1) (news := xs) (by rfl) f37 f40x s1 rfl (by rw [hl3]) hh3 HX1.out (by unfold maxLen; omega) (by omega) ?_
      intro v W' hs0
      have hs : Sep w W' [Ce w.heap.size 26 #[.pointer (some ⟨g, 0, none⟩)], Ce (w.heap.size + 1) 43 #[.slice none 0 0, .slice none 0 0], Ce (w.heap.size + 1 + 1) 43 #[.slice none 0 0, .slice none 0 0], Rw 51 10 v 1 xs] := hs0
      exact hK.out v W' trivial trivial (by simpa [upB, upd, q7] using hs)
    refine EachF.cons 7 rfl (fun dn xv W F hF hd hN hX hI H K hK => ?_) ?_
    · have f5 : F.tmps.getD 5 undef = .pointer (some ⟨w.heap.size + 1 + 1, 0, none⟩) := (hF 5).trans (by kernel_rfl)
      clear H hN hd hX hF
      refine on_plain rfl ?_
      go_simp
      exact hK.out _ _ rfl trivial (by simpa [upB, upd] using hI)
    refine EachF.cons 8 rfl (fun dn xv W F hF hd hN hX hI H K hK => ?_) ?_
    · have h5 := (H 5 (.edge (by kernel_rfl))).2
      simp only [Dl] at h5
      have f41 : F.tmps.getD 41 undef = xv 5 := (hF 41).trans (by kernel_rfl)
      have h6 : xv 6 = .pointer (some ⟨w.heap.size + 1 + 1, 0, none⟩) := (H 6 (.edge (by kernel_rfl))).2
      have f42 : F.tmps.getD 42 undef = .pointer (some ⟨w.heap.size + 1 + 1, 0, none⟩) := (hF 42).trans (Eq.trans (by kernel_rfl) h6)
      have q5 : dn 5 = true := (H 5 (.edge (by kernel_rfl))).1
      have hS : Sep w W [Ce w.heap.size 26 #[.pointer (some ⟨g, 0, none⟩)], Ce (w.heap.size + 1) 43 #[.slice none 0 0, .slice none 0 0], Ce (w.heap.size + 1 + 1) 43 #[.slice none 0 0, .slice none 0 0], Rw 51 10 (xv 5) 1 xs] := by simpa [hd, q5] using hI
      clear hI hN hd hX hF H
      refine on_plain rfl ?_
      obtain ⟨A2, c2, e2, _⟩ := sep_rwForm (i := 3) hS rfl
      have f41x := f41.trans e2
      have hc3 := sep_ceAt (i := 2) hS rfl 0 rfl
      have hf3 := sep_ceFrozen (i := 2) hS rfl 0
      rw [e2] at hS
      have hs0 := sep_ceSet (i := 2) hS rfl 0 (.slice A2 1 c2)
      have hs : ∃ vF, Sep w (W.setCell ⟨w.heap.size + 1 + 1, 0, none⟩ (.slice A2 1 c2)) [Ce w.heap.size 26 #[.pointer (some ⟨g, 0, none⟩)], Ce (w.heap.size + 1) 43 #[.slice none 0 0, .slice none 0 0], Ce (w.heap.size + 1 + 1) 43 #[vF, .slice none 0 0], Rw 51 10 vF 1 xs] := ⟨_, hs0⟩
      clear hs0
      go_simp
      exact hK.out undef _ trivial trivial (by simpa [upB, upd] using hs)
    exact EachF.nil
  · intro dn xv W hI H
    have qe : dn 7 = true := (H 7 (of_decide_eq_true (by kernel_rfl))).1
    have hS : ∃ vF, Sep w W [Ce w.heap.size 26 #[.pointer (some ⟨g, 0, none⟩)], Ce (w.heap.size + 1) 43 #[.slice none 0 0, .slice none 0 0], Ce (w.heap.size + 1 + 1) 43 #[vF, .slice none 0 0], Rw 51 10 vF 1 xs] := by simpa [qe] using hI
    clear H hI qe
    simp only [putAll, Act.put, List.setIfInBounds_toArray, List.set_cons_zero, List.set_cons_succ, Nat.reduceAdd]
    obtain ⟨vF, hS⟩ := hS
    obtain ⟨A2, c2, rfl, _⟩ := sep_rwForm (i := 3) hS rfl
    have HS4 := Lib.hid hS
    clear hS
    have kl := sep_ceAt (i := 0) HS4.out rfl 0 rfl
    have ku : W.cell? ⟨g, 9, none⟩ = some (.bool false) := by rw [cell_of_row _ g 9 _ _ _ (HGW HS4.out.bel)]; rfl
    have k0 := sep_ceAt (i := 1) HS4.out rfl 0 rfl
    have k1 := sep_ceAt (i := 1) HS4.out rfl 1 rfl
    have y0 := sep_ceFrozen (i := 1) HS4.out rfl 0
    have y1 := sep_ceFrozen (i := 1) HS4.out rfl 1
    have z0 := sep_ceAt (i := 2) HS4.out rfl 0 rfl
    have z1 := sep_ceAt (i := 2) HS4.out rfl 1 rfl
    go_wp2_with fail
    have hs5 := sep_ceSet (i := 1) HS4.out rfl 0 (.slice A2 1 c2)
    have hs6 := sep_ceSet (i := 1) hs5 rfl 1 (.slice none 0 0)
    refine bodyPost_ret (v := .agg #[.slice A2 1 c2, .slice none 0 0]) (by simp [results, Try.results14, go_sem, k0, k1]) rfl ?_
    exact ⟨_, rfl, sep_rwFrom (i := 3) hs6 rfl, hs6.bel⟩
end Go.Proofs.Ytngegjboenfmeaa
