/- meant. -/
import Derived.Test.YtkjficbegjhefaaAskM6
namespace Go.Proofs.Ytkjficbegjhefaa
open Go Go.RowKit
set_option linter.unusedVariables false
set_option linter.unusedSimpArgs false
set_option linter.unnecessarySimpa false
set_option maxRecDepth 100000
section
variable {w0 w : World} {Ps : List SP}
set_option maxHeartbeats 3200000 in
theorem sep_meant {i g : Nat} {l : List UInt8} {bad : Bool} (z n : Int) (h : Sep w0 w Ps) (hi : Ps[i]? = some (Rf g l bad)) (hl : l.length ≤ 1000000000) (hn1 : -9223372036854775808 ≤ n) (hn2 : n ≤ 9223372036854775807) (k : Nat) (hk9 : k < 9) (hk : z % 9 = (k : Int)) :
    Calls Try.prog 30 #[.pointer (some ⟨g, 0, none⟩), .agg #[.int .i64 z, .int .i64 n]] w fun e w' => e = .returned (.tuple #[.int .u64 ((askR l bad k n).1.1 : Int), .string ⟨(askR l bad k n).1.2.toArray⟩]) ∧ Sep w0 w' (Ps.set i (Rf g (askR l bad k n).2.1 (askR l bad k n).2.2)) := by
  obtain ⟨q, hq1, hq2, hq3, hq4⟩ := mod9 z
  rw [hk] at hq4
  have HI := Lib.hid hi
  have HS := Lib.hid (h.alloc (.cells #[.int .i64 z, .int .i64 n] 60))
  have hb1 : 0 ≤ q + 9 := by omega
  have HS0 := Lib.hid h
  have HK := Lib.hid hk
  clear h hi hk
  match k, hk9 with
  | 0, _ =>
    replace hq4 : (q + 9) % 9 = 0 := hq4
    simp only [askR, if_true]
    go_enter Try.func30, Try.ntmps30
    go_wp2_with fail
    refine (sep_readsF HS.out HI.out (rWide_left l bad 1) (fun rb hr => refWideR_any (w.alloc (.cells #[.int .i64 z, .int .i64 n] 60)) g rb l bad 1 hr (by omega) hl)).mono ?_
    rintro e w2 ⟨rfl, hs2⟩
    have HS2 := Lib.hid hs2
    clear hs2
    go_wp2
    go_ret2
    exact ⟨rfl, HS2.out⟩
  | 1, _ =>
    replace hq4 : (q + 9) % 9 = 1 := hq4
    simp only [askR, if_true, if_false, show ¬ (1 = 0) by omega]
    go_enter Try.func30, Try.ntmps30
    go_wp2_with fail
    refine (sep_readsF HS.out HI.out (rWide_left l bad 2) (fun rb hr => refWideR_any (w.alloc (.cells #[.int .i64 z, .int .i64 n] 60)) g rb l bad 2 hr (by omega) hl)).mono ?_
    rintro e w2 ⟨rfl, hs2⟩
    have HS2 := Lib.hid hs2
    clear hs2
    go_wp2
    go_ret2
    exact ⟨rfl, HS2.out⟩
  | 2, _ =>
    replace hq4 : (q + 9) % 9 = 2 := hq4
    simp only [askR, if_true, if_false, show ¬ (2 = 0) by omega, show ¬ (2 = 1) by omega]
    go_enter Try.func30, Try.ntmps30
    go_wp2_with fail
    refine (sep_readsF HS.out HI.out (rWide_left l bad 4) (fun rb hr => refWideR_any (w.alloc (.cells #[.int .i64 z, .int .i64 n] 60)) g rb l bad 4 hr (by omega) hl)).mono ?_
    rintro e w2 ⟨rfl, hs2⟩
    have HS2 := Lib.hid hs2
    clear hs2
    go_wp2
    go_ret2
    exact ⟨rfl, HS2.out⟩
  | 3, _ =>
    replace hq4 : (q + 9) % 9 = 3 := hq4
    simp only [askR, if_true, if_false, show ¬ (3 = 0) by omega, show ¬ (3 = 1) by omega, show ¬ (3 = 2) by omega]
    go_enter Try.func30, Try.ntmps30
    go_wp2_with fail
    refine (sep_readsF HS.out HI.out (rWide_left l bad 8) (fun rb hr => refWideR_any (w.alloc (.cells #[.int .i64 z, .int .i64 n] 60)) g rb l bad 8 hr (by omega) hl)).mono ?_
    rintro e w2 ⟨rfl, hs2⟩
    have HS2 := Lib.hid hs2
    clear hs2
    go_wp2
    go_ret2
    exact ⟨rfl, HS2.out⟩
  | 4, _ =>
    replace hq4 : (q + 9) % 9 = 4 := hq4
    simp only [askR, if_true, if_false, show ¬ (4 = 0) by omega, show ¬ (4 = 1) by omega, show ¬ (4 = 2) by omega, show ¬ (4 = 3) by omega]
    go_enter Try.func30, Try.ntmps30
    go_wp2_with fail
    refine (sep_readsF HS.out HI.out (rUint_left' l bad) (fun rb hr => refUintR_any (w.alloc (.cells #[.int .i64 z, .int .i64 n] 60)) g rb l bad hr hl)).mono ?_
    rintro e w2 ⟨rfl, hs2⟩
    have HS2 := Lib.hid hs2
    clear hs2
    go_wp2
    go_ret2
    exact ⟨rfl, HS2.out⟩
  | 5, _ =>
    replace hq4 : (q + 9) % 9 = 5 := hq4
    simp only [askR, if_true, if_false, show ¬ (5 = 0) by omega, show ¬ (5 = 1) by omega, show ¬ (5 = 2) by omega, show ¬ (5 = 3) by omega, show ¬ (5 = 4) by omega]
    go_enter Try.func30, Try.ntmps30
    go_wp2_with fail
    refine (sep_readsF HS.out HI.out (rText_left' l bad n) (fun rb hr => refTextR_any (w.alloc (.cells #[.int .i64 z, .int .i64 n] 60)) g rb l bad n hr hl hn1 hn2)).mono ?_
    rintro e w2 ⟨rfl, hs2⟩
    have HS2 := Lib.hid hs2
    clear hs2
    go_wp2
    go_ret2
    exact ⟨rfl, HS2.out⟩
  | 6, _ => exact sep_meant6 z n HS0.out HI.out hl hn1 hn2 HK.out
  | 7, _ =>
    replace hq4 : (q + 9) % 9 = 7 := hq4
    simp only [askR, if_true, if_false, show ¬ (7 = 0) by omega, show ¬ (7 = 1) by omega, show ¬ (7 = 2) by omega, show ¬ (7 = 3) by omega, show ¬ (7 = 4) by omega, show ¬ (7 = 5) by omega, show ¬ (7 = 6) by omega]
    have hps : ∃ rb, Rdf (w.alloc (.cells #[.int .i64 z, .int .i64 n] 60)) g rb l bad ∧ (w.alloc (.cells #[.int .i64 z, .int .i64 n] 60)).cell? ⟨g, 1, none⟩ = some (.bool bad) ∧ (w.alloc (.cells #[.int .i64 z, .int .i64 n] 60)).frozen? ⟨g, 1, none⟩ = false := by
      obtain ⟨F, rb, hr, _⟩ := HS.out.get HI.out
      obtain ⟨A, c, h0, h1, f0, f1, _⟩ := hr.parts
      exact ⟨rb, hr, h1, f1⟩
    obtain ⟨rb, _, hc1, hf1⟩ := hps
    have HS2 := Lib.hid (sep_setBad HS.out HI.out true)
    go_enter Try.func30, Try.ntmps30
    go_wp2
    go_ret2
    exact ⟨rfl, HS2.out⟩
  | 8, _ =>
    replace hq4 : (q + 9) % 9 = 8 := hq4
    simp only [askR, if_true, if_false, show ¬ (8 = 0) by omega, show ¬ (8 = 1) by omega, show ¬ (8 = 2) by omega, show ¬ (8 = 3) by omega, show ¬ (8 = 4) by omega, show ¬ (8 = 5) by omega, show ¬ (8 = 6) by omega, show ¬ (8 = 7) by omega]
    cases hre : rEnd l bad with
    | true =>
      have HRE := Lib.hid hre
      clear hre
      go_enter Try.func30, Try.ntmps30
      go_wp2_with fail
      refine (sep_readsF (bad' := true) (v := .bool true) HS.out HI.out (Nat.le_refl _) (fun rb hr => by have h3 := refEnd_any (w.alloc (.cells #[.int .i64 z, .int .i64 n] 60)) g rb l bad hr hl; rw [HRE.out] at h3; exact h3)).mono ?_
      rintro e w2 ⟨rfl, hs2⟩
      have HS2 := Lib.hid hs2
      clear hs2
      go_wp2
      go_ret2
      exact ⟨rfl, HS2.out⟩
    | false =>
      have HRE := Lib.hid hre
      clear hre
      go_enter Try.func30, Try.ntmps30
      go_wp2_with fail
      refine (sep_readsF (bad' := false) (v := .bool false) HS.out HI.out (Nat.le_refl _) (fun rb hr => by have h3 := refEnd_any (w.alloc (.cells #[.int .i64 z, .int .i64 n] 60)) g rb l bad hr hl; rw [HRE.out] at h3; exact h3)).mono ?_
      rintro e w2 ⟨rfl, hs2⟩
      have HS2 := Lib.hid hs2
      clear hs2
      go_wp2
      go_ret2
      exact ⟨rfl, HS2.out⟩
end
end Go.Proofs.Ytkjficbegjhefaa
