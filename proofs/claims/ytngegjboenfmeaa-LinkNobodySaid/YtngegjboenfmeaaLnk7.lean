/- A sender of nothing; last of a link of nothing. -/
import Derived.Test.YtngegjboenfmeaaLnk6
import Derived.Test.YtngegjboenfmeaaWinA
namespace Go.Proofs.Ytngegjboenfmeaa
open Go Go.RowKit
set_option linter.unusedVariables false
set_option maxRecDepth 100000
set_option linter.unusedSimpArgs false

set_option maxHeartbeats 800000 in
theorem wmay0 (w : World) : Calls Try.prog 57 #[.agg #[.int .u64 0, .slice none 0 0]] w fun e w' => e = .returned (.bool true) ∧ Below w.heap.size w w' := by
  have HB := Lib.hid (below_box (w := w) (.cells #[.int .u64 0, .slice none 0 0] 68))
  go_enter Try.func57, Try.ntmps57
  go_wp2_with fail
  go_loopw [22] (fun iv wr => iv = .int .i64 0 ∧ wr = w.alloc (.cells #[.int .u64 0, .slice none 0 0] 68)) (fun iv _ => 0)
  case atStart => exact ⟨rfl, rfl⟩
  case round =>
    obtain ⟨rfl, rfl⟩ := hrel
    go_wp2_with fail
    go_ret
    exact ⟨rfl, HB.out⟩
theorem ownB_slice {w : World} {base : Nat} {v : Value} (h : OwnB w base v []) : ∃ A c, v = .slice A 0 c := by
  obtain ⟨A, c, e, _⟩ := h.form (by simp)
  exact ⟨A, c, e⟩
set_option maxHeartbeats 1600000 in
theorem acked0 (w : World) : Calls Try.prog 42 #[.agg #[.int .u64 0, .slice none 0 0], .int .u64 0] w fun e w' => ∃ A c, e = .returned (.tuple #[.agg #[.int .u64 0, .slice A 0 c], .bool false]) ∧ Below w.heap.size w w' := by
  have HS0 := Lib.hid (show Sep w ((w.alloc (.cells #[.int .u64 0, .slice none 0 0] 68)).alloc (.cells #[.int .u64 0, .slice none 0 0] 68)) [Ce w.heap.size 68 #[.int .u64 0, .slice none 0 0], Ce (w.heap.size + 1) 68 #[.int .u64 0, .slice none 0 0]] by
    have := sep_ce (sep_ce (Sep.nil w) #[.int .u64 0, .slice none 0 0] 68) #[.int .u64 0, .slice none 0 0] 68
    simp only [World.size_alloc] at this
    exact this)
  have HP2 : ∀ (dn : Nat → Bool) (W : World), (if dn 6 = true then ∃ A c, Sep w W [Ce w.heap.size 68 #[.int .u64 0, .slice none 0 0], Ce (w.heap.size + 1) 68 #[.int .u64 0, .slice A 0 c]] else Sep w W [Ce w.heap.size 68 #[.int .u64 0, .slice none 0 0], Ce (w.heap.size + 1) 68 #[.int .u64 0, .slice none 0 0]]) → ∃ cs, Sep w W [Ce w.heap.size 68 #[.int .u64 0, .slice none 0 0], cs] := fun dn W h => by
    split at h
    · obtain ⟨_, _, h⟩ := h
      exact ⟨_, h⟩
    exact ⟨_, h⟩
  go_enter Try.func42, Try.ntmps42
  go_wp2_with fail
  refine wp_region_f (fun dn xv W => Sep w W [Ce w.heap.size 68 #[.int .u64 0, .slice none 0 0], Ce (w.heap.size + 1) 68 #[.int .u64 0, .slice none 0 0]]) (fun _ _ => True) [fun v _ => v = .agg #[.int .u64 0, .slice none 0 0], fun v _ => v = .bool true, fun v _ => v = .bool false, fun v _ => v = .bool false, fun v _ => v = .int .u64 0, fun v _ => v = .pointer (some ⟨w.heap.size, 0, none⟩), fun v _ => v = .int .u64 0, fun v _ => v = .bool true, fun v _ => v = .bool true, fun v _ => v = .bool true, fun v _ => v = undef, fun v _ => v = undef, fun v _ => v = undef, fun v _ => v = undef, fun v _ => v = undef, fun v _ => v = undef, fun v _ => v = undef, fun v _ => v = undef, fun v _ => v = .bool true] (by kernel_rfl) (by kernel_rfl) (by kernel_rfl) (by kernel_rfl) (fun xv => by simpa using HS0.out.drew)
    (by exact ⟨fun _ _ _ _ h => h, fun _ _ _ _ h => h, fun _ _ _ _ h => h, fun _ _ _ _ h => h, fun _ _ _ _ h => h, fun _ _ _ _ h => h, fun _ _ _ _ h => h, fun _ _ _ _ h => h, fun _ _ _ _ h => h, fun _ _ _ _ h => h, fun _ _ _ _ h => h, fun _ _ _ _ h => h, fun _ _ _ _ h => h, fun _ _ _ _ h => h, fun _ _ _ _ h => h, fun _ _ _ _ h => h, fun _ _ _ _ h => h, fun _ _ _ _ h => h, fun _ _ _ _ h => h, trivial⟩) ?_ ?_
  · refine EachF.cons 1 rfl (fun dn xv W F hF hd hN hX hI H K hK => ?_) ?_
    · have f2 : F.tmps.getD 2 undef = .pointer (some ⟨w.heap.size, 0, none⟩) := (hF 2).trans (by kernel_rfl)
      have k0 := sep_ceAt (i := 0) hI rfl 0 rfl
      have k1 := sep_ceAt (i := 0) hI rfl 1 rfl
      clear H hN hd hX hF
      refine on_plain rfl ?_
      go_simp
      exact hK.out _ _ rfl trivial (by simpa [upB, upd] using hI)
    refine EachF.cons 2 rfl (fun dn xv W F hF hd hN hX hI H K hK => ?_) ?_
    · have h0 : xv 0 = .agg #[.int .u64 0, .slice none 0 0] := (H 0 (.edge (by kernel_rfl))).2
      have f6 : F.tmps.getD 6 undef = .agg #[.int .u64 0, .slice none 0 0] := (hF 6).trans (Eq.trans (by kernel_rfl) h0)
      clear H hN hd hX hF
      refine on_plain rfl ?_
      go_simp
      refine (wmay0 W).mono ?_
      rintro e W' ⟨rfl, hb⟩
      exact hK.out _ W' rfl trivial (by simpa [upB, upd] using hI.grow hb)
    refine EachF.cons 3 rfl (fun dn xv W F hF hd hN hX hI H K hK => ?_) ?_
    · have h1 : xv 1 = .bool true := (H 1 (.edge (by kernel_rfl))).2
      have f7 : F.tmps.getD 7 undef = .bool true := (hF 7).trans (Eq.trans (by kernel_rfl) h1)
      clear H hN hd hX hF
      refine on_plain rfl ?_
      go_simp
      exact hK.out _ _ rfl trivial (by simpa [upB, upd] using hI)
    refine EachF.cons 4 rfl (fun dn xv W F hF hd hN hX hI H K hK => ?_) ?_
    · have h2 : xv 2 = .bool false := (H 2 (.edge (by kernel_rfl))).2
      have f8 : F.tmps.getD 8 undef = .bool false := (hF 8).trans (Eq.trans (by kernel_rfl) h2)
      clear H hN hd hX hF
      refine on_plain rfl ?_
      go_simp
      exact hK.out _ _ rfl trivial (by simpa [upB, upd] using hI)
    refine EachF.cons 5 rfl (fun dn xv W F hF hd hN hX hI H K hK => ?_) ?_
    · have f1 : F.tmps.getD 1 undef = .int .u64 0 := (hF 1).trans (by kernel_rfl)
      have h3 : xv 3 = .bool false := (H 3 (.edge (by kernel_rfl))).2
      have f9 : F.tmps.getD 9 undef = .bool false := (hF 9).trans (Eq.trans (by kernel_rfl) h3)
      clear H hN hd hX hF
      refine on_guard rfl (by kernel_rfl) f9 ?_
      go_simp
      exact hK.out _ _ rfl trivial (by simpa [upB, upd] using hI)
    refine EachF.cons 6 rfl (fun dn xv W F hF hd hN hX hI H K hK => ?_) ?_
    · have f2 : F.tmps.getD 2 undef = .pointer (some ⟨w.heap.size, 0, none⟩) := (hF 2).trans (by kernel_rfl)
      have h3 : xv 3 = .bool false := (H 3 (.edge (by kernel_rfl))).2
      have f9 : F.tmps.getD 9 undef = .bool false := (hF 9).trans (Eq.trans (by kernel_rfl) h3)
      clear H hN hd hX hF
      refine on_guard rfl (by kernel_rfl) f9 ?_
      go_simp
      exact hK.out _ _ rfl trivial (by simpa [upB, upd] using hI)
    refine EachF.cons 7 rfl (fun dn xv W F hF hd hN hX hI H K hK => ?_) ?_
    · have h5 : xv 5 = .pointer (some ⟨w.heap.size, 0, none⟩) := (H 5 (.edge (by kernel_rfl))).2
      have f11 : F.tmps.getD 11 undef = .pointer (some ⟨w.heap.size, 0, none⟩) := (hF 11).trans (Eq.trans (by kernel_rfl) h5)
      have h3 : xv 3 = .bool false := (H 3 (.edge (by kernel_rfl))).2
      have f9 : F.tmps.getD 9 undef = .bool false := (hF 9).trans (Eq.trans (by kernel_rfl) h3)
      have k0 := sep_ceAt (i := 0) hI rfl 0 rfl
      clear H hN hd hX hF
      refine on_guard rfl (by kernel_rfl) f9 ?_
      go_simp
      exact hK.out _ _ rfl trivial (by simpa [upB, upd] using hI)
    refine EachF.cons 8 rfl (fun dn xv W F hF hd hN hX hI H K hK => ?_) ?_
    · have h4 : xv 4 = .int .u64 0 := (H 4 (.edge (by kernel_rfl))).2
      have f10 : F.tmps.getD 10 undef = .int .u64 0 := (hF 10).trans (Eq.trans (by kernel_rfl) h4)
      have h6 : xv 6 = .int .u64 0 := (H 6 (.edge (by kernel_rfl))).2
      have f12 : F.tmps.getD 12 undef = .int .u64 0 := (hF 12).trans (Eq.trans (by kernel_rfl) h6)
      have h3 : xv 3 = .bool false := (H 3 (.edge (by kernel_rfl))).2
      have f9 : F.tmps.getD 9 undef = .bool false := (hF 9).trans (Eq.trans (by kernel_rfl) h3)
      clear H hN hd hX hF
      refine on_guard rfl (by kernel_rfl) f9 ?_
      go_simp
      exact hK.out _ _ rfl trivial (by simpa [upB, upd] using hI)
    refine EachF.cons 9 rfl (fun dn xv W F hF hd hN hX hI H K hK => ?_) ?_
    · have h3 : xv 3 = .bool false := (H 3 (.edge (by kernel_rfl))).2
      have f9 : F.tmps.getD 9 undef = .bool false := (hF 9).trans (Eq.trans (by kernel_rfl) h3)
      have h7 : xv 7 = .bool true := (H 7 (.edge (by kernel_rfl))).2
      have f13 : F.tmps.getD 13 undef = .bool true := (hF 13).trans (Eq.trans (by kernel_rfl) h7)
      clear H hN hd hX hF
      refine on_plain rfl ?_
      go_simp
      exact hK.out _ _ rfl trivial (by simpa [upB, upd] using hI)
    refine EachF.cons 10 rfl (fun dn xv W F hF hd hN hX hI H K hK => ?_) ?_
    · have h8 : xv 8 = .bool true := (H 8 (.edge (by kernel_rfl))).2
      have f14 : F.tmps.getD 14 undef = .bool true := (hF 14).trans (Eq.trans (by kernel_rfl) h8)
      clear H hN hd hX hF
      refine on_plain rfl ?_
      go_simp
      exact hK.out _ _ rfl trivial (by simpa [upB, upd] using hI)
    refine EachF.cons 11 rfl (fun dn xv W F hF hd hN hX hI H K hK => ?_) ?_
    · have h9 : xv 9 = .bool true := (H 9 (.edge (by kernel_rfl))).2
      have f15 : F.tmps.getD 15 undef = .bool true := (hF 15).trans (Eq.trans (by kernel_rfl) h9)
      clear H hN hd hX hF
      refine off_guard rfl (by kernel_rfl) f15 (by decide) ?_
      exact hK.out _ _ rfl trivial (by simpa [upB, upd] using hI)
    refine EachF.cons 12 rfl (fun dn xv W F hF hd hN hX hI H K hK => ?_) ?_
    · have h9 : xv 9 = .bool true := (H 9 (.edge (by kernel_rfl))).2
      have f15 : F.tmps.getD 15 undef = .bool true := (hF 15).trans (Eq.trans (by kernel_rfl) h9)
      clear H hN hd hX hF
      refine off_guard rfl (by kernel_rfl) f15 (by decide) ?_
      exact hK.out _ _ rfl trivial (by simpa [upB, upd] using hI)
    refine EachF.cons 13 rfl (fun dn xv W F hF hd hN hX hI H K hK => ?_) ?_
    · have h9 : xv 9 = .bool true := (H 9 (.edge (by kernel_rfl))).2
      have f15 : F.tmps.getD 15 undef = .bool true := (hF 15).trans (Eq.trans (by kernel_rfl) h9)
      have k0 := sep_ceAt (i := 0) hI rfl 0 rfl
      clear H hN hd hX hF
      refine off_guard rfl (by kernel_rfl) f15 (by decide) ?_
      exact hK.out _ _ rfl trivial (by simpa [upB, upd] using hI)
    refine EachF.cons 14 rfl (fun dn xv W F hF hd hN hX hI H K hK => ?_) ?_
    · have h9 : xv 9 = .bool true := (H 9 (.edge (by kernel_rfl))).2
      have f15 : F.tmps.getD 15 undef = .bool true := (hF 15).trans (Eq.trans (by kernel_rfl) h9)
      clear H hN hd hX hF
      refine off_guard rfl (by kernel_rfl) f15 (by decide) ?_
      exact hK.out _ _ rfl trivial (by simpa [upB, upd] using hI)
    refine EachF.cons 15 rfl (fun dn xv W F hF hd hN hX hI H K hK => ?_) ?_
    · have h9 : xv 9 = .bool true := (H 9 (.edge (by kernel_rfl))).2
      have f15 : F.tmps.getD 15 undef = .bool true := (hF 15).trans (Eq.trans (by kernel_rfl) h9)
      have k0 := sep_ceAt (i := 0) hI rfl 0 rfl
      have k1 := sep_ceAt (i := 0) hI rfl 1 rfl
      clear H hN hd hX hF
      refine off_guard rfl (by kernel_rfl) f15 (by decide) ?_
      exact hK.out _ _ rfl trivial (by simpa [upB, upd] using hI)
    refine EachF.cons 16 rfl (fun dn xv W F hF hd hN hX hI H K hK => ?_) ?_
    · have h9 : xv 9 = .bool true := (H 9 (.edge (by kernel_rfl))).2
      have f15 : F.tmps.getD 15 undef = .bool true := (hF 15).trans (Eq.trans (by kernel_rfl) h9)
      clear H hN hd hX hF
      refine off_guard rfl (by kernel_rfl) f15 (by decide) ?_
      exact hK.out _ _ rfl trivial (by simpa [upB, upd] using hI)
    refine EachF.cons 17 rfl (fun dn xv W F hF hd hN hX hI H K hK => ?_) ?_
    · have h9 : xv 9 = .bool true := (H 9 (.edge (by kernel_rfl))).2
      have f15 : F.tmps.getD 15 undef = .bool true := (hF 15).trans (Eq.trans (by kernel_rfl) h9)
      clear H hN hd hX hF
      refine off_guard rfl (by kernel_rfl) f15 (by decide) ?_
      exact hK.out _ _ rfl trivial (by simpa [upB, upd] using hI)
    refine EachF.cons 18 rfl (fun dn xv W F hF hd hN hX hI H K hK => ?_) ?_
    · have h9 : xv 9 = .bool true := (H 9 (.edge (by kernel_rfl))).2
      have f15 : F.tmps.getD 15 undef = .bool true := (hF 15).trans (Eq.trans (by kernel_rfl) h9)
      clear H hN hd hX hF
      refine off_guard rfl (by kernel_rfl) f15 (by decide) ?_
      exact hK.out _ _ rfl trivial (by simpa [upB, upd] using hI)
    refine EachF.cons 19 rfl (fun dn xv W F hF hd hN hX hI H K hK => ?_) ?_
    · have h9 : xv 9 = .bool true := (H 9 (.edge (by kernel_rfl))).2
      have f15 : F.tmps.getD 15 undef = .bool true := (hF 15).trans (Eq.trans (by kernel_rfl) h9)
      have h17 : xv 17 = undef := (H 17 (.edge (by kernel_rfl))).2
      have f23 : F.tmps.getD 23 undef = undef := (hF 23).trans (Eq.trans (by kernel_rfl) h17)
      clear H hN hd hX hF
      refine on_plain rfl ?_
      go_simp
      exact hK.out _ _ rfl trivial (by simpa [upB, upd] using hI)
    exact EachF.nil
  · intro dn xv W hI H
    have q18 : xv 18 = .bool true := (H 18 (of_decide_eq_true (by kernel_rfl))).2
    have hS : Sep w W [Ce w.heap.size 68 #[.int .u64 0, .slice none 0 0], Ce (w.heap.size + 1) 68 #[.int .u64 0, .slice none 0 0]] := hI
    clear H hI
    simp only [putAll, Act.put, List.setIfInBounds_toArray, List.set_cons_zero, List.set_cons_succ, Nat.reduceAdd, q18]
    clear q18
    have HS1 := Lib.hid hS
    clear hS
    go_wp2_with fail
    refine wp_region_f (fun dn xv W => if dn 6 = true then ∃ A c, Sep w W [Ce w.heap.size 68 #[.int .u64 0, .slice none 0 0], Ce (w.heap.size + 1) 68 #[.int .u64 0, .slice A 0 c]] else Sep w W [Ce w.heap.size 68 #[.int .u64 0, .slice none 0 0], Ce (w.heap.size + 1) 68 #[.int .u64 0, .slice none 0 0]]) (fun _ _ => True) [fun v _ => v = .pointer (some ⟨w.heap.size, 0, none⟩), fun v _ => v = .int .u64 0, fun v _ => v = .pointer (some ⟨w.heap.size, 1, none⟩), fun v _ => v = .slice none 0 0, fun v _ => ∃ A c, v = .slice A 0 c, fun v _ => ∃ A c, v = .agg #[.int .u64 0, .slice A 0 c], fun v _ => True, fun v _ => v = .bool false] (by kernel_rfl) (by kernel_rfl) (by kernel_rfl) (by kernel_rfl) (fun xv => by simpa using HS1.out.drew)
      (by exact ⟨fun _ _ _ _ h => h, fun _ _ _ _ h => h, fun _ _ _ _ h => h, fun _ _ _ _ h => h, fun _ _ _ _ h => h, fun _ _ _ _ h => h, fun _ _ _ _ h => h, fun _ _ _ _ h => h, trivial⟩) ?_ ?_
    · refine EachF.cons 1 rfl (fun dn xv W F hF hd hN hX hI H K hK => ?_) ?_
      · have f2 : F.tmps.getD 2 undef = .pointer (some ⟨w.heap.size, 0, none⟩) := (hF 2).trans (by kernel_rfl)
        clear H hN hd hX hF
        refine on_plain rfl ?_
        go_simp
        exact hK.out _ _ rfl trivial (by simpa [upB, upd] using hI)
      refine EachF.cons 2 rfl (fun dn xv W F hF hd hN hX hI H K hK => ?_) ?_
      · have h0 : xv 0 = .pointer (some ⟨w.heap.size, 0, none⟩) := (H 0 (.edge (by kernel_rfl))).2
        have f25 : F.tmps.getD 25 undef = .pointer (some ⟨w.heap.size, 0, none⟩) := (hF 25).trans (Eq.trans (by kernel_rfl) h0)
        obtain ⟨_, hp⟩ := HP2 dn W hI
        have k0 := sep_ceAt (i := 0) hp rfl 0 rfl
        clear H hN hd hX hF
        refine on_plain rfl ?_
        go_simp
        exact hK.out _ _ rfl trivial (by simpa [upB, upd] using hI)
      refine EachF.cons 3 rfl (fun dn xv W F hF hd hN hX hI H K hK => ?_) ?_
      · have f2 : F.tmps.getD 2 undef = .pointer (some ⟨w.heap.size, 0, none⟩) := (hF 2).trans (by kernel_rfl)
        clear H hN hd hX hF
        refine on_plain rfl ?_
        go_simp
        exact hK.out _ _ rfl trivial (by simpa [upB, upd] using hI)
      refine EachF.cons 4 rfl (fun dn xv W F hF hd hN hX hI H K hK => ?_) ?_
      · have h2 : xv 2 = .pointer (some ⟨w.heap.size, 1, none⟩) := (H 2 (.edge (by kernel_rfl))).2
        have f27 : F.tmps.getD 27 undef = .pointer (some ⟨w.heap.size, 1, none⟩) := (hF 27).trans (Eq.trans (by kernel_rfl) h2)
        obtain ⟨_, hp⟩ := HP2 dn W hI
        have k1 := sep_ceAt (i := 0) hp rfl 1 rfl
        clear H hN hd hX hF
        refine on_plain rfl ?_
        go_simp
        exact hK.out _ _ rfl trivial (by simpa [upB, upd] using hI)
      refine EachF.cons 5 rfl (fun dn xv W F hF hd hN hX hI H K hK => ?_) ?_
      · have h3 : xv 3 = .slice none 0 0 := (H 3 (.edge (by kernel_rfl))).2
        have f28 : F.tmps.getD 28 undef = .slice none 0 0 := (hF 28).trans (Eq.trans (by kernel_rfl) h3)
        have q6 : dn 6 = false := hN 6 (.more (j := 5) (by kernel_rfl) (.edge (by kernel_rfl)))
        rw [if_neg (by simp [q6])] at hI
        clear H hN hd hX hF
        refine on_plain rfl ?_
        go_simp
        refine (copied_any W 0 none 0 [] ⟨[], Has.nil, Parts.nil⟩ (Nat.zero_le _) (by unfold Fit; simp)).mono ?_
        rintro e W' ⟨v, rfl, ho, hb⟩
        obtain ⟨Av, cv, ev⟩ := ownB_slice ho
        exact hK.out v W' ⟨Av, cv, ev⟩ trivial (by simpa [upB, upd, q6] using hI.grow hb)
      refine EachF.cons 6 rfl (fun dn xv W F hF hd hN hX hI H K hK => ?_) ?_
      · have h1 : xv 1 = .int .u64 0 := (H 1 (.edge (by kernel_rfl))).2
        have f26 : F.tmps.getD 26 undef = .int .u64 0 := (hF 26).trans (Eq.trans (by kernel_rfl) h1)
        have h4 := (H 4 (.edge (by kernel_rfl))).2
        simp only [Dl] at h4
        have f29 : F.tmps.getD 29 undef = xv 4 := (hF 29).trans (by kernel_rfl)
        obtain ⟨Av, cv, ev⟩ := h4
        rw [ev] at f29
        clear H hN hd hX hF
        refine on_plain rfl ?_
        have g26 := f26
        have g29 := f29
        rw [Array.getD_eq_getD_getElem?] at g26 g29
        go_simp
        exact hK.out _ W ⟨_, _, rfl⟩ trivial (by simpa [upB, upd] using hI)
      refine EachF.cons 7 rfl (fun dn xv W F hF hd hN hX hI H K hK => ?_) ?_
      · have f4 : F.tmps.getD 4 undef = .pointer (some ⟨w.heap.size + 1, 0, none⟩) := (hF 4).trans (by kernel_rfl)
        have h5 := (H 5 (.edge (by kernel_rfl))).2
        simp only [Dl] at h5
        have f30 : F.tmps.getD 30 undef = xv 5 := (hF 30).trans (by kernel_rfl)
        have hS : Sep w W [Ce w.heap.size 68 #[.int .u64 0, .slice none 0 0], Ce (w.heap.size + 1) 68 #[.int .u64 0, .slice none 0 0]] := by simpa [hd] using hI
        clear hI hN hd hX hF H
        refine on_plain rfl ?_
        have hc0 := sep_ceAt (i := 1) hS rfl 0 rfl
        have hc1 := sep_ceAt (i := 1) hS rfl 1 rfl
        have hf0 := sep_ceFrozen (i := 1) hS rfl 0
        have hf1 := sep_ceFrozen (i := 1) hS rfl 1
        obtain ⟨Av, cv, ev⟩ := h5
        rw [ev] at f30
        have hs0 := sep_ceSet (i := 1) (sep_ceSet (i := 1) hS rfl 0 (.int .u64 0)) rfl 1 (.slice Av 0 cv)
        have hs : ∃ A c, Sep w ((W.setCell ⟨w.heap.size + 1, 0, none⟩ (.int .u64 0)).setCell ⟨w.heap.size + 1, 1, none⟩ (.slice Av 0 cv)) [Ce w.heap.size 68 #[.int .u64 0, .slice none 0 0], Ce (w.heap.size + 1) 68 #[.int .u64 0, .slice A 0 c]] := ⟨_, _, hs0⟩
        go_simp
        exact hK.out undef _ trivial trivial (by simpa [upB, upd] using hs)
      refine EachF.cons 8 rfl (fun dn xv W F hF hd hN hX hI H K hK => ?_) ?_
      · clear H hN hd hX hF
        refine on_plain rfl ?_
        go_simp
        exact hK.out _ _ rfl trivial (by simpa [upB, upd] using hI)
      exact EachF.nil
    · intro dn xv W hI H
      have q7 : xv 7 = .bool false := (H 7 (of_decide_eq_true (by kernel_rfl))).2
      have qe : dn 6 = true := (H 6 (of_decide_eq_true (by kernel_rfl))).1
      have hS : ∃ A c, Sep w W [Ce w.heap.size 68 #[.int .u64 0, .slice none 0 0], Ce (w.heap.size + 1) 68 #[.int .u64 0, .slice A 0 c]] := by simpa [qe] using hI
      clear H hI qe
      simp only [putAll, Act.put, List.setIfInBounds_toArray, List.set_cons_zero, List.set_cons_succ, Nat.reduceAdd, q7]
      clear q7
      obtain ⟨Av, cv, hS⟩ := hS
      have k0 := sep_ceAt (i := 1) hS rfl 0 rfl
      have k1 := sep_ceAt (i := 1) hS rfl 1 rfl
      have HS2 := Lib.hid hS
      clear hS
      go_wp2_with fail
      refine bodyPost_ret (v := .tuple #[.agg #[.int .u64 0, .slice Av 0 cv], .bool false]) (by simp [results, Try.results42, go_sem, k0, k1]) rfl ?_
      exact ⟨_, _, rfl, HS2.out.bel⟩
end Go.Proofs.Ytngegjboenfmeaa
