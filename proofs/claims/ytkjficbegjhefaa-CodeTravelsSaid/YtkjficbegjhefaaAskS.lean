/- stands. -/
import Derived.Test.YtkjficbegjhefaaAsk
namespace Go.Proofs.Ytkjficbegjhefaa
open Go Go.RowKit
set_option linter.unusedVariables false
set_option linter.unusedSimpArgs false
set_option linter.unnecessarySimpa false
set_option maxRecDepth 100000
section
variable {w0 w : World} {Ps : List SP}

set_option maxHeartbeats 1600000 in
theorem sep_stands {i j g g2 : Nat} {l : List UInt8} {bad : Bool} (h : Sep w0 w Ps) (hi : Ps[i]? = some (Rd g l bad)) (hj : Ps[j]? = some (Rf g2 l bad)) :
    Calls Try.prog 31 #[.pointer (some ⟨g, 0, none⟩), .pointer (some ⟨g2, 0, none⟩)] w fun e w' => e = .returned (.bool true) ∧ Sep w0 w' Ps := by
  have HS := Lib.hid h
  have HI := Lib.hid hi
  have HJ := Lib.hid hj
  obtain ⟨F, rb, hr, _⟩ := h.get hj
  obtain ⟨A, c, h0, h1, _⟩ := hr.parts
  clear h hi hj hr
  cases bad with
  | false =>
    go_enter Try.func31, Try.ntmps31
    go_wp2_with fail
    clear h0 h1
    refine wp_region_stage (fun dn xv W => Sep w0 W Ps) (fun W W' => Below W.heap.size W W') [fun v _ => v = .pointer (some ⟨g, 0, none⟩), fun v _ => v = .int .i64 (l.length : Int), fun v _ => v = .pointer (some ⟨g2, 0, none⟩), fun v _ => v = .pointer (some ⟨g2, 0, none⟩), fun v _ => v = .pointer (some ⟨g2, 0, none⟩), fun v _ => ∃ A1 c1, v = .slice A1 l.length c1, fun v _ => v = .int .i64 (l.length : Int), fun v _ => v = .bool true, fun v _ => v = .bool true, fun v _ => v = .pointer (some ⟨g, 0, none⟩), fun v _ => v = .int .i64 0, fun v _ => v = .int .i64 0, fun v _ => v = .bool true, fun v _ => v = .bool true, fun v _ => v = .bool true] (by kernel_rfl) (by kernel_rfl) (by kernel_rfl) (fun xv => by simpa using HS.out.drew)
      ⟨fun _ _ _ _ h => h, fun _ _ _ _ h => h, fun _ _ _ _ h => h, fun _ _ _ _ h => h, fun _ _ _ _ h => h, fun _ _ _ _ h => h, fun _ _ _ _ h => h, fun _ _ _ _ h => h, fun _ _ _ _ h => h, fun _ _ _ _ h => h, fun _ _ _ _ h => h, fun _ _ _ _ h => h, fun _ _ _ _ h => h, fun _ _ _ _ h => h, fun _ _ _ _ h => h, trivial⟩ ?_ ?_
    · refine EachOpS.cons 1 rfl (fun dn xv W hd hN hX hI H K hK => ?_) ?_
      · clear hX
        clear H hN hd
        simp only [putAll, Act.put, List.setIfInBounds_toArray, List.set_cons_zero, List.set_cons_succ]
        go_simp
        exact hK.out _ _ _ (by simp only [putAll, Act.put, List.setIfInBounds_toArray, List.set_cons_zero, List.set_cons_succ]) rfl (Below.refl _ _) (by simpa [upB, upd] using hI)
      refine EachOpS.cons 2 rfl (fun dn xv W hd hN hX hI H K hK => ?_) ?_
      · have h0 : xv 0 = .pointer (some ⟨g, 0, none⟩) := (H 0 (.edge (by kernel_rfl))).2
        clear hX
        clear H hN hd
        simp only [putAll, Act.put, List.setIfInBounds_toArray, List.set_cons_zero, List.set_cons_succ, h0]
        go_simp
        refine (sep_left hI HI.out).mono ?_
        rintro e W' ⟨rfl, rfl⟩
        exact hK.out _ _ _ (by simp only [putAll, Act.put, List.setIfInBounds_toArray, List.set_cons_zero, List.set_cons_succ, h0]) rfl (Below.refl _ _) (by simpa [upB, upd] using hI)
      refine EachOpS.cons 3 rfl (fun dn xv W hd hN hX hI H K hK => ?_) ?_
      · clear hX
        clear H hN hd
        simp only [putAll, Act.put, List.setIfInBounds_toArray, List.set_cons_zero, List.set_cons_succ]
        go_simp
        exact hK.out _ _ _ (by simp only [putAll, Act.put, List.setIfInBounds_toArray, List.set_cons_zero, List.set_cons_succ]) rfl (Below.refl _ _) (by simpa [upB, upd] using hI)
      refine EachOpS.cons 4 rfl (fun dn xv W hd hN hX hI H K hK => ?_) ?_
      · have h2 : xv 2 = .pointer (some ⟨g2, 0, none⟩) := (H 2 (.edge (by kernel_rfl))).2
        clear hX
        clear H hN hd
        simp only [putAll, Act.put, List.setIfInBounds_toArray, List.set_cons_zero, List.set_cons_succ, h2]
        go_simp
        exact hK.out _ _ _ (by simp only [putAll, Act.put, List.setIfInBounds_toArray, List.set_cons_zero, List.set_cons_succ, h2]) rfl (Below.refl _ _) (by simpa [upB, upd] using hI)
      refine EachOpS.cons 5 rfl (fun dn xv W hd hN hX hI H K hK => ?_) ?_
      · have h3 : xv 3 = .pointer (some ⟨g2, 0, none⟩) := (H 3 (.edge (by kernel_rfl))).2
        clear hX
        clear H hN hd
        simp only [putAll, Act.put, List.setIfInBounds_toArray, List.set_cons_zero, List.set_cons_succ, h3]
        go_simp
        exact hK.out _ _ _ (by simp only [putAll, Act.put, List.setIfInBounds_toArray, List.set_cons_zero, List.set_cons_succ, h3]) rfl (Below.refl _ _) (by simpa [upB, upd] using hI)
      refine EachOpS.cons 6 rfl (fun dn xv W hd hN hX hI H K hK => ?_) ?_
      · have h4 : xv 4 = .pointer (some ⟨g2, 0, none⟩) := (H 4 (.edge (by kernel_rfl))).2
        clear hX
        clear H hN hd
        simp only [putAll, Act.put, List.setIfInBounds_toArray, List.set_cons_zero, List.set_cons_succ, h4]
        obtain ⟨F0, rb0, hr0, _⟩ := hI.get HJ.out
        obtain ⟨A1, c1, hc0, _⟩ := hr0.parts
        go_simp
        exact hK.out _ _ _ (by simp only [putAll, Act.put, List.setIfInBounds_toArray, List.set_cons_zero, List.set_cons_succ, h4]) ⟨A1, c1, rfl⟩ (Below.refl _ _) (by simpa [upB, upd] using hI)
      refine EachOpS.cons 7 rfl (fun dn xv W hd hN hX hI H K hK => ?_) ?_
      · have h5 := (H 5 (.edge (by kernel_rfl))).2
        simp only [Dl] at h5
        clear hX
        clear H hN hd
        simp only [putAll, Act.put, List.setIfInBounds_toArray, List.set_cons_zero, List.set_cons_succ]
        obtain ⟨A1, c1, e0⟩ := h5
        rw [e0]
        go_simp
        exact hK.out _ _ _ (by simp only [putAll, Act.put, List.setIfInBounds_toArray, List.set_cons_zero, List.set_cons_succ]; rw [e0]) rfl (Below.refl _ _) (by simpa [upB, upd] using hI)
      refine EachOpS.cons 8 rfl (fun dn xv W hd hN hX hI H K hK => ?_) ?_
      · have h1 : xv 1 = .int .i64 (l.length : Int) := (H 1 (.edge (by kernel_rfl))).2
        have h6 : xv 6 = .int .i64 (l.length : Int) := (H 6 (.edge (by kernel_rfl))).2
        clear hX
        clear H hN hd
        simp only [putAll, Act.put, List.setIfInBounds_toArray, List.set_cons_zero, List.set_cons_succ, h1, h6]
        go_simp
        exact hK.out _ _ _ (by simp only [putAll, Act.put, List.setIfInBounds_toArray, List.set_cons_zero, List.set_cons_succ, h1, h6]) rfl (Below.refl _ _) (by simpa [upB, upd] using hI)
      refine EachOpS.cons 9 rfl (fun dn xv W hd hN hX hI H K hK => ?_) ?_
      · have h7 : xv 7 = .bool true := (H 7 (.edge (by kernel_rfl))).2
        clear hX
        clear H hN hd
        simp only [putAll, Act.put, List.setIfInBounds_toArray, List.set_cons_zero, List.set_cons_succ, h7]
        go_simp
        exact hK.out _ _ _ (by simp only [putAll, Act.put, List.setIfInBounds_toArray, List.set_cons_zero, List.set_cons_succ, h7]) rfl (Below.refl _ _) (by simpa [upB, upd] using hI)
      refine EachOpS.cons 10 rfl (fun dn xv W hd hN hX hI H K hK => ?_) ?_
      · have h8 : xv 8 = .bool true := (H 8 (.edge (by kernel_rfl))).2
        clear hX
        clear H hN hd
        simp only [putAll, Act.put, List.setIfInBounds_toArray, List.set_cons_zero, List.set_cons_succ, h8]
        go_simp
        exact hK.out _ _ _ (by simp only [putAll, Act.put, List.setIfInBounds_toArray, List.set_cons_zero, List.set_cons_succ, h8]) rfl (Below.refl _ _) (by simpa [upB, upd] using hI)
      refine EachOpS.cons 11 rfl (fun dn xv W hd hN hX hI H K hK => ?_) ?_
      · have h8 : xv 8 = .bool true := (H 8 (.edge (by kernel_rfl))).2
        have h9 : xv 9 = .pointer (some ⟨g, 0, none⟩) := (H 9 (.edge (by kernel_rfl))).2
        clear hX
        clear H hN hd
        simp only [putAll, Act.put, List.setIfInBounds_toArray, List.set_cons_zero, List.set_cons_succ, h8, h9]
        go_simp
        refine (sep_err hI HI.out).mono ?_
        rintro e W' ⟨rfl, rfl⟩
        simp only [errOf, Bool.false_eq_true, if_false, if_true]
        exact hK.out _ _ _ (by simp only [putAll, Act.put, List.setIfInBounds_toArray, List.set_cons_zero, List.set_cons_succ, h8, h9]) rfl (Below.refl _ _) (by simpa [upB, upd] using hI)
      refine EachOpS.cons 12 rfl (fun dn xv W hd hN hX hI H K hK => ?_) ?_
      · have h8 : xv 8 = .bool true := (H 8 (.edge (by kernel_rfl))).2
        clear hX
        clear H hN hd
        simp only [putAll, Act.put, List.setIfInBounds_toArray, List.set_cons_zero, List.set_cons_succ, h8]
        go_simp
        exact hK.out _ _ _ (by simp only [putAll, Act.put, List.setIfInBounds_toArray, List.set_cons_zero, List.set_cons_succ, h8]) rfl (Below.refl _ _) (by simpa [upB, upd] using hI)
      refine EachOpS.cons 13 rfl (fun dn xv W hd hN hX hI H K hK => ?_) ?_
      · have h8 : xv 8 = .bool true := (H 8 (.edge (by kernel_rfl))).2
        have h10 : xv 10 = .int .i64 0 := (H 10 (.edge (by kernel_rfl))).2
        have h11 : xv 11 = .int .i64 0 := (H 11 (.edge (by kernel_rfl))).2
        clear hX
        clear H hN hd
        simp only [putAll, Act.put, List.setIfInBounds_toArray, List.set_cons_zero, List.set_cons_succ, h8, h10, h11]
        go_simp
        exact hK.out _ _ _ (by simp only [putAll, Act.put, List.setIfInBounds_toArray, List.set_cons_zero, List.set_cons_succ, h8, h10, h11]) rfl (Below.refl _ _) (by simpa [upB, upd] using hI)
      refine EachOpS.cons 14 rfl (fun dn xv W hd hN hX hI H K hK => ?_) ?_
      · have h8 : xv 8 = .bool true := (H 8 (.edge (by kernel_rfl))).2
        have h12 : xv 12 = .bool true := (H 12 (.edge (by kernel_rfl))).2
        clear hX
        clear H hN hd
        simp only [putAll, Act.put, List.setIfInBounds_toArray, List.set_cons_zero, List.set_cons_succ, h8, h12]
        go_simp
        exact hK.out _ _ _ (by simp only [putAll, Act.put, List.setIfInBounds_toArray, List.set_cons_zero, List.set_cons_succ, h8, h12]) rfl (Below.refl _ _) (by simpa [upB, upd] using hI)
      refine EachOpS.cons 15 rfl (fun dn xv W hd hN hX hI H K hK => ?_) ?_
      · have h13 : xv 13 = .bool true := (H 13 (.edge (by kernel_rfl))).2
        clear hX
        clear H hN hd
        simp only [putAll, Act.put, List.setIfInBounds_toArray, List.set_cons_zero, List.set_cons_succ, h13]
        go_simp
        exact hK.out _ _ _ (by simp only [putAll, Act.put, List.setIfInBounds_toArray, List.set_cons_zero, List.set_cons_succ, h13]) rfl (Below.refl _ _) (by simpa [upB, upd] using hI)
      exact EachOpS.nil
    · intro dn xv W hI H
      have q14 : xv 14 = .bool true := (H 14 (of_decide_eq_true (by kernel_rfl))).2
      have hS : Sep w0 W Ps := hI
      clear H hI
      simp only [putAll, Act.put, List.setIfInBounds_toArray, List.set_cons_zero, List.set_cons_succ, Nat.reduceAdd, q14]
      clear q14
      have HS2 := Lib.hid hS
      clear hS
      go_wp2
      go_ret
      exact ⟨rfl, HS2.out⟩
  | true =>
    go_enter Try.func31, Try.ntmps31
    go_wp2_with fail
    clear h0 h1
    refine wp_region_stage (fun dn xv W => Sep w0 W Ps) (fun W W' => Below W.heap.size W W') [fun v _ => v = .pointer (some ⟨g, 0, none⟩), fun v _ => v = .int .i64 (l.length : Int), fun v _ => v = .pointer (some ⟨g2, 0, none⟩), fun v _ => v = .pointer (some ⟨g2, 0, none⟩), fun v _ => v = .pointer (some ⟨g2, 0, none⟩), fun v _ => ∃ A1 c1, v = .slice A1 l.length c1, fun v _ => v = .int .i64 (l.length : Int), fun v _ => v = .bool true, fun v _ => v = .bool true, fun v _ => v = .pointer (some ⟨g, 0, none⟩), fun v _ => v = .int .i64 3, fun v _ => v = .int .i64 3, fun v _ => v = .bool true, fun v _ => v = .bool true, fun v _ => v = .bool true] (by kernel_rfl) (by kernel_rfl) (by kernel_rfl) (fun xv => by simpa using HS.out.drew)
      ⟨fun _ _ _ _ h => h, fun _ _ _ _ h => h, fun _ _ _ _ h => h, fun _ _ _ _ h => h, fun _ _ _ _ h => h, fun _ _ _ _ h => h, fun _ _ _ _ h => h, fun _ _ _ _ h => h, fun _ _ _ _ h => h, fun _ _ _ _ h => h, fun _ _ _ _ h => h, fun _ _ _ _ h => h, fun _ _ _ _ h => h, fun _ _ _ _ h => h, fun _ _ _ _ h => h, trivial⟩ ?_ ?_
    · refine EachOpS.cons 1 rfl (fun dn xv W hd hN hX hI H K hK => ?_) ?_
      · clear hX
        clear H hN hd
        simp only [putAll, Act.put, List.setIfInBounds_toArray, List.set_cons_zero, List.set_cons_succ]
        go_simp
        exact hK.out _ _ _ (by simp only [putAll, Act.put, List.setIfInBounds_toArray, List.set_cons_zero, List.set_cons_succ]) rfl (Below.refl _ _) (by simpa [upB, upd] using hI)
      refine EachOpS.cons 2 rfl (fun dn xv W hd hN hX hI H K hK => ?_) ?_
      · have h0 : xv 0 = .pointer (some ⟨g, 0, none⟩) := (H 0 (.edge (by kernel_rfl))).2
        clear hX
        clear H hN hd
        simp only [putAll, Act.put, List.setIfInBounds_toArray, List.set_cons_zero, List.set_cons_succ, h0]
        go_simp
        refine (sep_left hI HI.out).mono ?_
        rintro e W' ⟨rfl, rfl⟩
        exact hK.out _ _ _ (by simp only [putAll, Act.put, List.setIfInBounds_toArray, List.set_cons_zero, List.set_cons_succ, h0]) rfl (Below.refl _ _) (by simpa [upB, upd] using hI)
      refine EachOpS.cons 3 rfl (fun dn xv W hd hN hX hI H K hK => ?_) ?_
      · clear hX
        clear H hN hd
        simp only [putAll, Act.put, List.setIfInBounds_toArray, List.set_cons_zero, List.set_cons_succ]
        go_simp
        exact hK.out _ _ _ (by simp only [putAll, Act.put, List.setIfInBounds_toArray, List.set_cons_zero, List.set_cons_succ]) rfl (Below.refl _ _) (by simpa [upB, upd] using hI)
      refine EachOpS.cons 4 rfl (fun dn xv W hd hN hX hI H K hK => ?_) ?_
      · have h2 : xv 2 = .pointer (some ⟨g2, 0, none⟩) := (H 2 (.edge (by kernel_rfl))).2
        clear hX
        clear H hN hd
        simp only [putAll, Act.put, List.setIfInBounds_toArray, List.set_cons_zero, List.set_cons_succ, h2]
        go_simp
        exact hK.out _ _ _ (by simp only [putAll, Act.put, List.setIfInBounds_toArray, List.set_cons_zero, List.set_cons_succ, h2]) rfl (Below.refl _ _) (by simpa [upB, upd] using hI)
      refine EachOpS.cons 5 rfl (fun dn xv W hd hN hX hI H K hK => ?_) ?_
      · have h3 : xv 3 = .pointer (some ⟨g2, 0, none⟩) := (H 3 (.edge (by kernel_rfl))).2
        clear hX
        clear H hN hd
        simp only [putAll, Act.put, List.setIfInBounds_toArray, List.set_cons_zero, List.set_cons_succ, h3]
        go_simp
        exact hK.out _ _ _ (by simp only [putAll, Act.put, List.setIfInBounds_toArray, List.set_cons_zero, List.set_cons_succ, h3]) rfl (Below.refl _ _) (by simpa [upB, upd] using hI)
      refine EachOpS.cons 6 rfl (fun dn xv W hd hN hX hI H K hK => ?_) ?_
      · have h4 : xv 4 = .pointer (some ⟨g2, 0, none⟩) := (H 4 (.edge (by kernel_rfl))).2
        clear hX
        clear H hN hd
        simp only [putAll, Act.put, List.setIfInBounds_toArray, List.set_cons_zero, List.set_cons_succ, h4]
        obtain ⟨F0, rb0, hr0, _⟩ := hI.get HJ.out
        obtain ⟨A1, c1, hc0, _⟩ := hr0.parts
        go_simp
        exact hK.out _ _ _ (by simp only [putAll, Act.put, List.setIfInBounds_toArray, List.set_cons_zero, List.set_cons_succ, h4]) ⟨A1, c1, rfl⟩ (Below.refl _ _) (by simpa [upB, upd] using hI)
      refine EachOpS.cons 7 rfl (fun dn xv W hd hN hX hI H K hK => ?_) ?_
      · have h5 := (H 5 (.edge (by kernel_rfl))).2
        simp only [Dl] at h5
        clear hX
        clear H hN hd
        simp only [putAll, Act.put, List.setIfInBounds_toArray, List.set_cons_zero, List.set_cons_succ]
        obtain ⟨A1, c1, e0⟩ := h5
        rw [e0]
        go_simp
        exact hK.out _ _ _ (by simp only [putAll, Act.put, List.setIfInBounds_toArray, List.set_cons_zero, List.set_cons_succ]; rw [e0]) rfl (Below.refl _ _) (by simpa [upB, upd] using hI)
      refine EachOpS.cons 8 rfl (fun dn xv W hd hN hX hI H K hK => ?_) ?_
      · have h1 : xv 1 = .int .i64 (l.length : Int) := (H 1 (.edge (by kernel_rfl))).2
        have h6 : xv 6 = .int .i64 (l.length : Int) := (H 6 (.edge (by kernel_rfl))).2
        clear hX
        clear H hN hd
        simp only [putAll, Act.put, List.setIfInBounds_toArray, List.set_cons_zero, List.set_cons_succ, h1, h6]
        go_simp
        exact hK.out _ _ _ (by simp only [putAll, Act.put, List.setIfInBounds_toArray, List.set_cons_zero, List.set_cons_succ, h1, h6]) rfl (Below.refl _ _) (by simpa [upB, upd] using hI)
      refine EachOpS.cons 9 rfl (fun dn xv W hd hN hX hI H K hK => ?_) ?_
      · have h7 : xv 7 = .bool true := (H 7 (.edge (by kernel_rfl))).2
        clear hX
        clear H hN hd
        simp only [putAll, Act.put, List.setIfInBounds_toArray, List.set_cons_zero, List.set_cons_succ, h7]
        go_simp
        exact hK.out _ _ _ (by simp only [putAll, Act.put, List.setIfInBounds_toArray, List.set_cons_zero, List.set_cons_succ, h7]) rfl (Below.refl _ _) (by simpa [upB, upd] using hI)
      refine EachOpS.cons 10 rfl (fun dn xv W hd hN hX hI H K hK => ?_) ?_
      · have h8 : xv 8 = .bool true := (H 8 (.edge (by kernel_rfl))).2
        clear hX
        clear H hN hd
        simp only [putAll, Act.put, List.setIfInBounds_toArray, List.set_cons_zero, List.set_cons_succ, h8]
        go_simp
        exact hK.out _ _ _ (by simp only [putAll, Act.put, List.setIfInBounds_toArray, List.set_cons_zero, List.set_cons_succ, h8]) rfl (Below.refl _ _) (by simpa [upB, upd] using hI)
      refine EachOpS.cons 11 rfl (fun dn xv W hd hN hX hI H K hK => ?_) ?_
      · have h8 : xv 8 = .bool true := (H 8 (.edge (by kernel_rfl))).2
        have h9 : xv 9 = .pointer (some ⟨g, 0, none⟩) := (H 9 (.edge (by kernel_rfl))).2
        clear hX
        clear H hN hd
        simp only [putAll, Act.put, List.setIfInBounds_toArray, List.set_cons_zero, List.set_cons_succ, h8, h9]
        go_simp
        refine (sep_err hI HI.out).mono ?_
        rintro e W' ⟨rfl, rfl⟩
        simp only [errOf, Bool.false_eq_true, if_false, if_true]
        exact hK.out _ _ _ (by simp only [putAll, Act.put, List.setIfInBounds_toArray, List.set_cons_zero, List.set_cons_succ, h8, h9]) rfl (Below.refl _ _) (by simpa [upB, upd] using hI)
      refine EachOpS.cons 12 rfl (fun dn xv W hd hN hX hI H K hK => ?_) ?_
      · have h8 : xv 8 = .bool true := (H 8 (.edge (by kernel_rfl))).2
        clear hX
        clear H hN hd
        simp only [putAll, Act.put, List.setIfInBounds_toArray, List.set_cons_zero, List.set_cons_succ, h8]
        go_simp
        exact hK.out _ _ _ (by simp only [putAll, Act.put, List.setIfInBounds_toArray, List.set_cons_zero, List.set_cons_succ, h8]) rfl (Below.refl _ _) (by simpa [upB, upd] using hI)
      refine EachOpS.cons 13 rfl (fun dn xv W hd hN hX hI H K hK => ?_) ?_
      · have h8 : xv 8 = .bool true := (H 8 (.edge (by kernel_rfl))).2
        have h10 : xv 10 = .int .i64 3 := (H 10 (.edge (by kernel_rfl))).2
        have h11 : xv 11 = .int .i64 3 := (H 11 (.edge (by kernel_rfl))).2
        clear hX
        clear H hN hd
        simp only [putAll, Act.put, List.setIfInBounds_toArray, List.set_cons_zero, List.set_cons_succ, h8, h10, h11]
        go_simp
        exact hK.out _ _ _ (by simp only [putAll, Act.put, List.setIfInBounds_toArray, List.set_cons_zero, List.set_cons_succ, h8, h10, h11]) rfl (Below.refl _ _) (by simpa [upB, upd] using hI)
      refine EachOpS.cons 14 rfl (fun dn xv W hd hN hX hI H K hK => ?_) ?_
      · have h8 : xv 8 = .bool true := (H 8 (.edge (by kernel_rfl))).2
        have h12 : xv 12 = .bool true := (H 12 (.edge (by kernel_rfl))).2
        clear hX
        clear H hN hd
        simp only [putAll, Act.put, List.setIfInBounds_toArray, List.set_cons_zero, List.set_cons_succ, h8, h12]
        go_simp
        exact hK.out _ _ _ (by simp only [putAll, Act.put, List.setIfInBounds_toArray, List.set_cons_zero, List.set_cons_succ, h8, h12]) rfl (Below.refl _ _) (by simpa [upB, upd] using hI)
      refine EachOpS.cons 15 rfl (fun dn xv W hd hN hX hI H K hK => ?_) ?_
      · have h13 : xv 13 = .bool true := (H 13 (.edge (by kernel_rfl))).2
        clear hX
        clear H hN hd
        simp only [putAll, Act.put, List.setIfInBounds_toArray, List.set_cons_zero, List.set_cons_succ, h13]
        go_simp
        exact hK.out _ _ _ (by simp only [putAll, Act.put, List.setIfInBounds_toArray, List.set_cons_zero, List.set_cons_succ, h13]) rfl (Below.refl _ _) (by simpa [upB, upd] using hI)
      exact EachOpS.nil
    · intro dn xv W hI H
      have q14 : xv 14 = .bool true := (H 14 (of_decide_eq_true (by kernel_rfl))).2
      have hS : Sep w0 W Ps := hI
      clear H hI
      simp only [putAll, Act.put, List.setIfInBounds_toArray, List.set_cons_zero, List.set_cons_succ, Nat.reduceAdd, q14]
      clear q14
      have HS2 := Lib.hid hS
      clear hS
      go_wp2
      go_ret
      exact ⟨rfl, HS2.out⟩
end
end Go.Proofs.Ytkjficbegjhefaa
