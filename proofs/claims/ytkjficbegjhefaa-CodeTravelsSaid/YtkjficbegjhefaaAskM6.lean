/- meant, of Raw. -/
import Derived.Test.YtkjficbegjhefaaAsk
namespace Go.Proofs.Ytkjficbegjhefaa
open Go Go.RowKit
set_option linter.unusedVariables false
set_option linter.unusedSimpArgs false
set_option linter.unnecessarySimpa false
set_option maxRecDepth 100000
section
variable {w0 w : World} {Ps : List SP}
set_option maxHeartbeats 800000 in
theorem sep_meant6 {i g : Nat} {l : List UInt8} {bad : Bool} (z n : Int) (h : Sep w0 w Ps) (hi : Ps[i]? = some (Rf g l bad)) (hl : l.length ≤ 1000000000) (hn1 : -9223372036854775808 ≤ n) (hn2 : n ≤ 9223372036854775807) (hk : z % 9 = ((6 : Nat) : Int)) :
    Calls Try.prog 30 #[.pointer (some ⟨g, 0, none⟩), .agg #[.int .i64 z, .int .i64 n]] w fun e w' => e = .returned (.tuple #[.int .u64 ((askR l bad 6 n).1.1 : Int), .string ⟨(askR l bad 6 n).1.2.toArray⟩]) ∧ Sep w0 w' (Ps.set i (Rf g (askR l bad 6 n).2.1 (askR l bad 6 n).2.2)) := by
  obtain ⟨q, hq1, hq2, hq3, hq4⟩ := mod9 z
  rw [hk] at hq4
  have HI := Lib.hid hi
  have HS := Lib.hid (h.alloc (.cells #[.int .i64 z, .int .i64 n] 60))
  have hb1 : 0 ≤ q + 9 := by omega
  clear h hi hk
  replace hq4 : (q + 9) % 9 = 6 := hq4
  simp only [askR, if_true, if_false, show ¬ (6 = 0) by omega, show ¬ (6 = 1) by omega, show ¬ (6 = 2) by omega, show ¬ (6 = 3) by omega, show ¬ (6 = 4) by omega, show ¬ (6 = 5) by omega]
  have HCB := Lib.hid (show (w.alloc (.cells #[.int .i64 z, .int .i64 n] 60)).cell? ⟨w.heap.size, 1, none⟩ = some (.int .i64 n) by rw [cell_of_row _ _ 1 _ _ _ (heap_alloc_new w _)]; rfl)
  obtain ⟨T, D, b2, HTD⟩ : ∃ T D b2, Hid (rRaw l bad n = (T, D, b2)) := ⟨_, _, _, Lib.hid rfl⟩
  simp only [HTD.out]
  go_enter Try.func30, Try.ntmps30
  go_wp2_with fail
  have HSB := HS
  obtain ⟨WB, hWB⟩ : ∃ WB, WB = (w.alloc (.cells #[.int .i64 z, .int .i64 n] 60)) := ⟨_, rfl⟩
  rw [← hWB] at HCB HSB ⊢
  simp only [hq4]
  clear hWB HS hq4 hq3
  refine wp_region_stage (fun dn xv W => if dn 3 = true then Sep w0 W (Ps.set i (Rf g D b2) ++ [By (xv 3) T]) else W = WB.drew) (fun _ _ => True) [fun v _ => v = .pointer (some ⟨g, 0, none⟩), fun v _ => v = .pointer (some ⟨w.heap.size, 1, none⟩), fun v _ => v = .int .i64 n, fun v _ => ∃ A1 c1, v = .slice A1 T.length c1, fun v _ => v = .string ⟨T.toArray⟩, fun v _ => v = .int .u64 0, fun v _ => v = .string ⟨T.toArray⟩] (by kernel_rfl) (by kernel_rfl) (by kernel_rfl) (fun xv => by simpa using (rfl : WB.drew = WB.drew))
    ⟨fun _ _ _ _ h => h, fun _ _ _ _ h => h, fun _ _ _ _ h => h, fun _ _ _ _ h => h, fun _ _ _ _ h => h, fun _ _ _ _ h => h, fun _ _ _ _ h => h, trivial⟩ ?_ ?_
  · refine EachOpS.cons 1 rfl (fun dn xv W hd hN hX hI H K hK => ?_) ?_
    · clear hX
      clear H hN hd
      simp only [putAll, Act.put, List.setIfInBounds_toArray, List.set_cons_zero, List.set_cons_succ]
      go_simp
      exact hK.out _ _ _ (by simp only [putAll, Act.put, List.setIfInBounds_toArray, List.set_cons_zero, List.set_cons_succ]) rfl trivial (by simpa [upB, upd] using hI)
    refine EachOpS.cons 2 rfl (fun dn xv W hd hN hX hI H K hK => ?_) ?_
    · clear hX
      clear H hN hd
      simp only [putAll, Act.put, List.setIfInBounds_toArray, List.set_cons_zero, List.set_cons_succ]
      go_simp
      exact hK.out _ _ _ (by simp only [putAll, Act.put, List.setIfInBounds_toArray, List.set_cons_zero, List.set_cons_succ]) rfl trivial (by simpa [upB, upd] using hI)
    refine EachOpS.cons 3 rfl (fun dn xv W hd hN hX hI H K hK => ?_) ?_
    · have h1 : xv 1 = .pointer (some ⟨w.heap.size, 1, none⟩) := (H 1 (.edge (by kernel_rfl))).2
      clear hX
      have hc1 : W.cell? ⟨w.heap.size, 1, none⟩ = some (.int .i64 n) := by
        have hW : W = WB.drew := by simpa [hN 3 (.edge (by kernel_rfl))] using hI
        rw [hW]; exact HCB.out
      clear H hN hd
      simp only [putAll, Act.put, List.setIfInBounds_toArray, List.set_cons_zero, List.set_cons_succ, h1]
      go_simp
      exact hK.out _ _ _ (by simp only [putAll, Act.put, List.setIfInBounds_toArray, List.set_cons_zero, List.set_cons_succ, h1]) rfl trivial (by simpa [upB, upd] using hI)
    refine EachOpS.cons 4 rfl (fun dn xv W hd hN hX hI H K hK => ?_) ?_
    · have h0 : xv 0 = .pointer (some ⟨g, 0, none⟩) := (H 0 (.edge (by kernel_rfl))).2
      have h2 : xv 2 = .int .i64 n := (H 2 (.edge (by kernel_rfl))).2
      clear hX
      have hS : W = WB.drew := by simpa [hd] using hI
      clear hI hN hd 
      clear H
      simp only [putAll, Act.put, List.setIfInBounds_toArray, List.set_cons_zero, List.set_cons_succ, h0, h2]
      go_simp
      refine (sep_refRaw (z := n) HSB.out.drew HI.out hl).mono ?_
      rintro e W' ⟨v, rfl, hs⟩
      rw [HTD.out] at hs
      obtain ⟨A1, c1, e1, _⟩ := sep_byForm hs get_append_last
      exact hK.out _ v W' (by simp only [putAll, Act.put, List.setIfInBounds_toArray, List.set_cons_zero, List.set_cons_succ, h0, h2]) ⟨A1, c1, e1⟩ trivial (by simpa [upB, upd] using hs)
    refine EachOpS.cons 5 rfl (fun dn xv W hd hN hX hI H K hK => ?_) ?_
    · have h3 := (H 3 (.edge (by kernel_rfl))).2
      simp only [Dl] at h3
      clear hX
      have hs : Sep w0 W (Ps.set i (Rf g D b2) ++ [By (xv 3) T]) := by simpa [(H 3 (.edge (by kernel_rfl))).1] using hI
      clear h3
      clear H hN hd
      simp only [putAll, Act.put, List.setIfInBounds_toArray, List.set_cons_zero, List.set_cons_succ]
      go_simp
      obtain ⟨A1, c1, e1, _, _, hh⟩ := sep_byForm hs get_append_last
      have hcv := run_str (c := c1) hh
      clear hs hh
      rw [e1]
      go_simp
      exact hK.out _ _ _ (by simp only [putAll, Act.put, List.setIfInBounds_toArray, List.set_cons_zero, List.set_cons_succ]; rw [e1]) rfl trivial (by simpa [upB, upd] using hI)
    refine EachOpS.cons 6 rfl (fun dn xv W hd hN hX hI H K hK => ?_) ?_
    · clear hX
      clear H hN hd
      simp only [putAll, Act.put, List.setIfInBounds_toArray, List.set_cons_zero, List.set_cons_succ]
      go_simp
      exact hK.out _ _ _ (by simp only [putAll, Act.put, List.setIfInBounds_toArray, List.set_cons_zero, List.set_cons_succ]) rfl trivial (by simpa [upB, upd] using hI)
    refine EachOpS.cons 7 rfl (fun dn xv W hd hN hX hI H K hK => ?_) ?_
    · have h4 : xv 4 = .string ⟨T.toArray⟩ := (H 4 (.edge (by kernel_rfl))).2
      clear hX
      clear H hN hd
      simp only [putAll, Act.put, List.setIfInBounds_toArray, List.set_cons_zero, List.set_cons_succ, h4]
      go_simp
      exact hK.out _ _ _ (by simp only [putAll, Act.put, List.setIfInBounds_toArray, List.set_cons_zero, List.set_cons_succ, h4]) rfl trivial (by simpa [upB, upd] using hI)
    exact EachOpS.nil
  · intro dn xv W hI H
    have q5 : xv 5 = .int .u64 0 := (H 5 (of_decide_eq_true (by kernel_rfl))).2
    have q6 : xv 6 = .string ⟨T.toArray⟩ := (H 6 (of_decide_eq_true (by kernel_rfl))).2
    have qe : dn 3 = true := (H 3 (of_decide_eq_true (by kernel_rfl))).1
    have hS : Sep w0 W (Ps.set i (Rf g D b2) ++ [By (xv 3) T]) := by simpa [qe] using hI
    clear H hI qe
    simp only [putAll, Act.put, List.setIfInBounds_toArray, List.set_cons_zero, List.set_cons_succ, Nat.reduceAdd, q5, q6]
    clear q5 q6
    have hs4 := hS.drop Ps.length
    rw [erase_append_last] at hs4
    have HS4 := Lib.hid hs4
    clear hs4 hS
    go_wp2
    go_ret2
    exact ⟨rfl, HS4.out⟩
end
end Go.Proofs.Ytkjficbegjhefaa
