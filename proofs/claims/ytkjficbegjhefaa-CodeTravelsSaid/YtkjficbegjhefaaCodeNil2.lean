/- Nil Readers and Writers, asked. -/
import Derived.Test.YtkjficbegjhefaaCodeNil
import Derived.Outline
namespace Go.Proofs.Ytkjficbegjhefaa
open Go Go.RowKit
set_option linter.unusedVariables false
set_option linter.unusedSimpArgs false
set_option maxRecDepth 100000

theorem askR_bad (k : Nat) (hk : k < 9) (n : Int) : askR [] true k n = ((if k = 8 then 3 else 0, []), [], true) := by
  match k, hk with
  | 0, _ => rfl
  | 1, _ => rfl
  | 2, _ => rfl
  | 3, _ => rfl
  | 4, _ => rfl
  | 5, _ => rfl
  | 6, _ => rfl
  | 7, _ => rfl
  | 8, _ => rfl
section
variable {w0 w : World} {Ps : List SP}
set_option maxHeartbeats 1600000 in
theorem sep_asked_nil (z n : Int) (h : Sep w0 w Ps) (k : Nat) (hk9 : k < 9) (hk : z % 9 = (k : Int)) :
    Calls Try.prog 29 #[.pointer none, .agg #[.int .i64 z, .int .i64 n]] w fun e w' => e = .returned (.tuple #[.int .u64 ((askR [] true k n).1.1 : Int), .string ⟨(askR [] true k n).1.2.toArray⟩]) ∧ Sep w0 w' Ps := by
  obtain ⟨q, hq1, hq2, hq3, hq4⟩ := mod9 z
  rw [hk] at hq4
  rw [askR_bad k hk9 n]
  have HS := Lib.hid (h.alloc (.cells #[.int .i64 z, .int .i64 n] 60))
  have hb1 : 0 ≤ q + 9 := by omega
  clear h hk
  match k, hk9 with
  | 0, _ =>
    replace hq4 : (q + 9) % 9 = 0 := hq4
    go_enter Try.func29, Try.ntmps29
    go_wp2_with fail
    refine (rU8_nil _).mono ?_
    rintro e w2 ⟨rfl, rfl⟩
    go_wp2
    go_ret2
    exact ⟨rfl, HS.out⟩
  | 1, _ =>
    replace hq4 : (q + 9) % 9 = 1 := hq4
    go_enter Try.func29, Try.ntmps29
    go_wp2_with fail
    refine (rU16_nil _).mono ?_
    rintro e w2 ⟨rfl, rfl⟩
    go_wp2
    go_ret2
    exact ⟨rfl, HS.out⟩
  | 2, _ =>
    replace hq4 : (q + 9) % 9 = 2 := hq4
    go_enter Try.func29, Try.ntmps29
    go_wp2_with fail
    refine (rU32_nil _).mono ?_
    rintro e w2 ⟨rfl, rfl⟩
    go_wp2
    go_ret2
    exact ⟨rfl, HS.out⟩
  | 3, _ =>
    replace hq4 : (q + 9) % 9 = 3 := hq4
    go_enter Try.func29, Try.ntmps29
    go_wp2_with fail
    refine (rU64_nil _).mono ?_
    rintro e w2 ⟨rfl, rfl⟩
    go_wp2
    go_ret2
    exact ⟨rfl, HS.out⟩
  | 4, _ =>
    replace hq4 : (q + 9) % 9 = 4 := hq4
    go_enter Try.func29, Try.ntmps29
    go_wp2_with fail
    refine (rUint_nil _).mono ?_
    rintro e w2 ⟨rfl, rfl⟩
    go_wp2
    go_ret2
    exact ⟨rfl, HS.out⟩
  | 5, _ =>
    replace hq4 : (q + 9) % 9 = 5 := hq4
    go_enter Try.func29, Try.ntmps29
    go_wp2_with fail
    refine (rText_nil _ n).mono ?_
    rintro e w2 ⟨rfl, rfl⟩
    go_wp2
    go_ret2
    exact ⟨rfl, HS.out⟩
  | 6, _ =>
    replace hq4 : (q + 9) % 9 = 6 := hq4
    go_enter Try.func29, Try.ntmps29
    go_wp2_with fail
    refine (rRaw_nil _ n).mono ?_
    rintro e w2 ⟨rfl, rfl⟩
    have e2 : ∀ W : World, (convert 26 9 (.slice none 0 0)).run Try.prog W = .ok (.string ⟨#[]⟩) W := fun W => run_str (B := 0) (l := []) Has.nil
    have hcl : ∀ (W : World) ty, (Builtin.clear_ #[26] ty #[.slice none 0 0]).run Try.prog W = .ok (.tuple #[]) W := fun W ty => by simp [Builtin.clear_, run_underlying Try.underlying26]
    go_wp2
    go_ret2
    exact ⟨rfl, HS.out⟩
  | 7, _ =>
    replace hq4 : (q + 9) % 9 = 7 := hq4
    go_enter Try.func29, Try.ntmps29
    go_wp2_with fail
    refine (rFail_nil _).mono ?_
    rintro e w2 ⟨rfl, rfl⟩
    go_wp2
    go_ret2
    exact ⟨rfl, HS.out⟩
  | 8, _ =>
    replace hq4 : (q + 9) % 9 = 8 := hq4
    go_enter Try.func29, Try.ntmps29
    go_wp2_with fail
    refine (rEnd_nil _).mono ?_
    rintro e w2 ⟨rfl, rfl⟩
    go_wp2
    go_ret2
    exact ⟨rfl, HS.out⟩

set_option maxHeartbeats 1600000 in
theorem sep_stands_nil {j g2 : Nat} (h : Sep w0 w Ps) (hj : Ps[j]? = some (Rf g2 [] true)) :
    Calls Try.prog 31 #[.pointer none, .pointer (some ⟨g2, 0, none⟩)] w fun e w' => e = .returned (.bool true) ∧ Sep w0 w' Ps := by
  have HS := Lib.hid h
  have HJ := Lib.hid hj
  obtain ⟨F, rb, hr, _⟩ := h.get hj
  obtain ⟨A, c, h0, h1, _⟩ := hr.parts
  clear h hj hr
  go_enter Try.func31, Try.ntmps31
  go_wp2_with fail
  clear h0 h1
  refine wp_region_stage (fun dn xv W => Sep w0 W Ps) (fun W W' => Below W.heap.size W W') [fun v _ => v = .pointer none, fun v _ => v = .int .i64 0, fun v _ => v = .pointer (some ⟨g2, 0, none⟩), fun v _ => v = .pointer (some ⟨g2, 0, none⟩), fun v _ => v = .pointer (some ⟨g2, 0, none⟩), fun v _ => ∃ A1 c1, v = .slice A1 0 c1, fun v _ => v = .int .i64 0, fun v _ => v = .bool true, fun v _ => v = .bool true, fun v _ => v = .pointer none, fun v _ => v = .int .i64 3, fun v _ => v = .int .i64 3, fun v _ => v = .bool true, fun v _ => v = .bool true, fun v _ => v = .bool true] (by kernel_rfl) (by kernel_rfl) (by kernel_rfl) (fun xv => by simpa using HS.out.drew)
    ⟨fun _ _ _ _ h => h, fun _ _ _ _ h => h, fun _ _ _ _ h => h, fun _ _ _ _ h => h, fun _ _ _ _ h => h, fun _ _ _ _ h => h, fun _ _ _ _ h => h, fun _ _ _ _ h => h, fun _ _ _ _ h => h, fun _ _ _ _ h => h, fun _ _ _ _ h => h, fun _ _ _ _ h => h, fun _ _ _ _ h => h, fun _ _ _ _ h => h, fun _ _ _ _ h => h, trivial⟩ ?_ ?_
  · refine EachOpS.cons 1 rfl (fun dn xv W hd hN hX hI H K hK => ?_) ?_
    · clear hX
      clear H hN hd
      simp only [putAll, Act.put, List.setIfInBounds_toArray, List.set_cons_zero, List.set_cons_succ]
      go_simp
      exact hK.out _ _ _ (by simp only [putAll, Act.put, List.setIfInBounds_toArray, List.set_cons_zero, List.set_cons_succ]) rfl (Below.refl _ _) (by simpa [upB, upd] using hI)
    refine EachOpS.cons 2 rfl (fun dn xv W hd hN hX hI H K hK => ?_) ?_
    · have h0 : xv 0 = .pointer none := (H 0 (.edge (by kernel_rfl))).2
      clear hX
      clear H hN hd
      simp only [putAll, Act.put, List.setIfInBounds_toArray, List.set_cons_zero, List.set_cons_succ, h0]
      go_simp
      refine (rLeft_nil _).mono ?_
      rintro e W' ⟨rfl, rfl⟩
      exact hK.out _ _ _ (by simp only [putAll, Act.put, List.setIfInBounds_toArray, List.set_cons_zero, List.set_cons_succ, h0]) rfl (Below.refl _ _) (by simpa [upB, upd] using hI)
    refine EachOpS.cons 3 rfl (fun dn xv W hd hN hX hI H K hK => ?_) ?_
    · clear hX
      clear H hN hd
      simp only [putAll, Act.put, List.setIfInBounds_toArray, List.set_cons_zero, List.set_cons_succ]
      go_simp
      exact hK.out _ _ _ (by simp only [putAll, Act.put, List.setIfInBounds_toArray, List.set_cons_zero, List.set_cons_succ]) rfl (Below.refl _ _) (by simpa [upB, upd] using hI)
    refine EachOpS.cons 4 rfl (fun dn xv W hd hN hX hI H K hK => ?_) ?_
    · have h2 : xv 2 = .pointer (some ⟨g2, 0, none⟩) := (H 2 (.edge (by kernel_rfl))).2
      clear hX
      clear H hN hd
      simp only [putAll, Act.put, List.setIfInBounds_toArray, List.set_cons_zero, List.set_cons_succ, h2]
      go_simp
      exact hK.out _ _ _ (by simp only [putAll, Act.put, List.setIfInBounds_toArray, List.set_cons_zero, List.set_cons_succ, h2]) rfl (Below.refl _ _) (by simpa [upB, upd] using hI)
    refine EachOpS.cons 5 rfl (fun dn xv W hd hN hX hI H K hK => ?_) ?_
    · have h3 : xv 3 = .pointer (some ⟨g2, 0, none⟩) := (H 3 (.edge (by kernel_rfl))).2
      clear hX
      clear H hN hd
      simp only [putAll, Act.put, List.setIfInBounds_toArray, List.set_cons_zero, List.set_cons_succ, h3]
      go_simp
      exact hK.out _ _ _ (by simp only [putAll, Act.put, List.setIfInBounds_toArray, List.set_cons_zero, List.set_cons_succ, h3]) rfl (Below.refl _ _) (by simpa [upB, upd] using hI)
    refine EachOpS.cons 6 rfl (fun dn xv W hd hN hX hI H K hK => ?_) ?_
    · have h4 : xv 4 = .pointer (some ⟨g2, 0, none⟩) := (H 4 (.edge (by kernel_rfl))).2
      clear hX
      clear H hN hd
      simp only [putAll, Act.put, List.setIfInBounds_toArray, List.set_cons_zero, List.set_cons_succ, h4]
      obtain ⟨F0, rb0, hr0, _⟩ := hI.get HJ.out
      obtain ⟨A1, c1, hc0, _⟩ := hr0.parts
      rw [List.length_nil] at hc0
      go_simp
      exact hK.out _ _ _ (by simp only [putAll, Act.put, List.setIfInBounds_toArray, List.set_cons_zero, List.set_cons_succ, h4]) ⟨A1, c1, rfl⟩ (Below.refl _ _) (by simpa [upB, upd] using hI)
    refine EachOpS.cons 7 rfl (fun dn xv W hd hN hX hI H K hK => ?_) ?_
    · have h5 := (H 5 (.edge (by kernel_rfl))).2
      simp only [Dl] at h5
      clear hX
      clear H hN hd
      simp only [putAll, Act.put, List.setIfInBounds_toArray, List.set_cons_zero, List.set_cons_succ]
      obtain ⟨A1, c1, e0⟩ := h5
      rw [e0]
      go_simp
      exact hK.out _ _ _ (by simp only [putAll, Act.put, List.setIfInBounds_toArray, List.set_cons_zero, List.set_cons_succ]; rw [e0]) rfl (Below.refl _ _) (by simpa [upB, upd] using hI)
    refine EachOpS.cons 8 rfl (fun dn xv W hd hN hX hI H K hK => ?_) ?_
    · have h1 : xv 1 = .int .i64 0 := (H 1 (.edge (by kernel_rfl))).2
      have h6 : xv 6 = .int .i64 0 := (H 6 (.edge (by kernel_rfl))).2
      clear hX
      clear H hN hd
      simp only [putAll, Act.put, List.setIfInBounds_toArray, List.set_cons_zero, List.set_cons_succ, h1, h6]
      go_simp
      exact hK.out _ _ _ (by simp only [putAll, Act.put, List.setIfInBounds_toArray, List.set_cons_zero, List.set_cons_succ, h1, h6]) rfl (Below.refl _ _) (by simpa [upB, upd] using hI)
    refine EachOpS.cons 9 rfl (fun dn xv W hd hN hX hI H K hK => ?_) ?_
    · have h7 : xv 7 = .bool true := (H 7 (.edge (by kernel_rfl))).2
      clear hX
      clear H hN hd
      simp only [putAll, Act.put, List.setIfInBounds_toArray, List.set_cons_zero, List.set_cons_succ, h7]
      go_simp
      exact hK.out _ _ _ (by simp only [putAll, Act.put, List.setIfInBounds_toArray, List.set_cons_zero, List.set_cons_succ, h7]) rfl (Below.refl _ _) (by simpa [upB, upd] using hI)
    refine EachOpS.cons 10 rfl (fun dn xv W hd hN hX hI H K hK => ?_) ?_
    · have h8 : xv 8 = .bool true := (H 8 (.edge (by kernel_rfl))).2
      clear hX
      clear H hN hd
      simp only [putAll, Act.put, List.setIfInBounds_toArray, List.set_cons_zero, List.set_cons_succ, h8]
      go_simp
      exact hK.out _ _ _ (by simp only [putAll, Act.put, List.setIfInBounds_toArray, List.set_cons_zero, List.set_cons_succ, h8]) rfl (Below.refl _ _) (by simpa [upB, upd] using hI)
    refine EachOpS.cons 11 rfl (fun dn xv W hd hN hX hI H K hK => ?_) ?_
    · have h8 : xv 8 = .bool true := (H 8 (.edge (by kernel_rfl))).2
      have h9 : xv 9 = .pointer none := (H 9 (.edge (by kernel_rfl))).2
      clear hX
      clear H hN hd
      simp only [putAll, Act.put, List.setIfInBounds_toArray, List.set_cons_zero, List.set_cons_succ, h8, h9]
      go_simp
      refine (rErr_nil _).mono ?_
      rintro e W' ⟨rfl, rfl⟩
      exact hK.out _ _ _ (by simp only [putAll, Act.put, List.setIfInBounds_toArray, List.set_cons_zero, List.set_cons_succ, h8, h9]) rfl (Below.refl _ _) (by simpa [upB, upd] using hI)
    refine EachOpS.cons 12 rfl (fun dn xv W hd hN hX hI H K hK => ?_) ?_
    · have h8 : xv 8 = .bool true := (H 8 (.edge (by kernel_rfl))).2
      clear hX
      clear H hN hd
      simp only [putAll, Act.put, List.setIfInBounds_toArray, List.set_cons_zero, List.set_cons_succ, h8]
      go_simp
      exact hK.out _ _ _ (by simp only [putAll, Act.put, List.setIfInBounds_toArray, List.set_cons_zero, List.set_cons_succ, h8]) rfl (Below.refl _ _) (by simpa [upB, upd] using hI)
    refine EachOpS.cons 13 rfl (fun dn xv W hd hN hX hI H K hK => ?_) ?_
    · have h8 : xv 8 = .bool true := (H 8 (.edge (by kernel_rfl))).2
      have h10 : xv 10 = .int .i64 3 := (H 10 (.edge (by kernel_rfl))).2
      have h11 : xv 11 = .int .i64 3 := (H 11 (.edge (by kernel_rfl))).2
      clear hX
      clear H hN hd
      simp only [putAll, Act.put, List.setIfInBounds_toArray, List.set_cons_zero, List.set_cons_succ, h8, h10, h11]
      go_simp
      exact hK.out _ _ _ (by simp only [putAll, Act.put, List.setIfInBounds_toArray, List.set_cons_zero, List.set_cons_succ, h8, h10, h11]) rfl (Below.refl _ _) (by simpa [upB, upd] using hI)
    refine EachOpS.cons 14 rfl (fun dn xv W hd hN hX hI H K hK => ?_) ?_
    · have h8 : xv 8 = .bool true := (H 8 (.edge (by kernel_rfl))).2
      have h12 : xv 12 = .bool true := (H 12 (.edge (by kernel_rfl))).2
      clear hX
      clear H hN hd
      simp only [putAll, Act.put, List.setIfInBounds_toArray, List.set_cons_zero, List.set_cons_succ, h8, h12]
      go_simp
      exact hK.out _ _ _ (by simp only [putAll, Act.put, List.setIfInBounds_toArray, List.set_cons_zero, List.set_cons_succ, h8, h12]) rfl (Below.refl _ _) (by simpa [upB, upd] using hI)
    refine EachOpS.cons 15 rfl (fun dn xv W hd hN hX hI H K hK => ?_) ?_
    · have h13 : xv 13 = .bool true := (H 13 (.edge (by kernel_rfl))).2
      clear hX
      clear H hN hd
      simp only [putAll, Act.put, List.setIfInBounds_toArray, List.set_cons_zero, List.set_cons_succ, h13]
      go_simp
      exact hK.out _ _ _ (by simp only [putAll, Act.put, List.setIfInBounds_toArray, List.set_cons_zero, List.set_cons_succ, h13]) rfl (Below.refl _ _) (by simpa [upB, upd] using hI)
    exact EachOpS.nil
  · intro dn xv W hI H
    have q14 : xv 14 = .bool true := (H 14 (of_decide_eq_true (by kernel_rfl))).2
    have hS : Sep w0 W Ps := hI
    clear H hI
    simp only [putAll, Act.put, List.setIfInBounds_toArray, List.set_cons_zero, List.set_cons_succ, Nat.reduceAdd, q14]
    clear q14
    have HS2 := Lib.hid hS
    clear hS
    go_wp2
    go_ret
    exact ⟨rfl, HS2.out⟩
end
set_option maxHeartbeats 400000 in
theorem wPut_nil (w : World) (b : Nat) (h0 : w.cell? ⟨b, 0, none⟩ = some (.int .u64 1)) (h1 : w.cell? ⟨b, 1, none⟩ = some (.int .u64 2)) : Calls Try.prog 14 #[.pointer none, .slice (some ⟨b, 0, none⟩) 2 2] w fun e w' => e = .returned (.tuple #[]) ∧ w = w' := by
  go_enter Try.func14, Try.ntmps14
  go_wp2
  go_loop [8] (fun iv => ∃ k : Nat, k ≤ 2 ∧ iv = .int .i64 k) (fun iv => 2 - (intOf iv).toNat)
  case atStart => exact ⟨0, by omega, rfl⟩
  case round =>
    obtain ⟨k, hk, rfl⟩ := hrel
    rcases (by omega : k = 0 ∨ k = 1 ∨ k = 2) with rfl | rfl | rfl
    · go_wp2_with fail
      refine (wUint_nil w 1 (by omega)).mono ?_
      rintro e w' ⟨rfl, rfl⟩
      go_wp2
      go_round
      case rel => exact ⟨1, by omega, rfl⟩
      case measure => simp [intOf]
    · go_wp2_with fail
      refine (wUint_nil w 2 (by omega)).mono ?_
      rintro e w' ⟨rfl, rfl⟩
      go_wp2
      go_round
      case rel => exact ⟨2, by omega, rfl⟩
      case measure => simp [intOf]
    · go_wp2
      go_end0
      exact ⟨rfl, rfl⟩
end Go.Proofs.Ytkjficbegjhefaa
