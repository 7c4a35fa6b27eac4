/- The document's Reader: Wide, Uint, Text, End. -/
import Derived.Test.YtcjafbpgjlcdpaaDoorRefR2
namespace Go.Proofs.YtcjafbpgjlcdpaaDoor
open Go Go.RowKit
set_option linter.unusedVariables false
set_option maxRecDepth 100000

theorem rWide_raw (l : List UInt8) (bad : Bool) (n : Nat) : rWide l bad n = (Code.leNat (rRaw l bad (n : Int)).1, (rRaw l bad (n : Int)).2) := by
  unfold rWide rRaw
  by_cases h : bad = true ∨ l.length < n
  · rw [if_pos h, if_pos (by rcases h with h | h; exact .inl h; exact .inr (.inr (by omega)))]; rfl
  · rw [if_neg h, if_neg (fun e => h (by rcases e with e | e | e; exact .inl e; omega; exact .inr (by omega))), Int.toNat_natCast]
theorem rRaw_length (l : List UInt8) (bad : Bool) (n : Nat) : (rRaw l bad (n : Int)).1.length ≤ n := by
  unfold rRaw
  split
  · simp
  · simp; omega
theorem rRaw_length' (l : List UInt8) (bad : Bool) (z : Int) : (rRaw l bad z).1.length ≤ l.length := by
  unfold rRaw
  split
  · simp
  · simp; omega
theorem readsF_drew {w1 : World} {g rb : Nat} {l : List UInt8} {bad : Bool} (n : Nat) (h : Rdf w1 g rb l bad) : Rdf (w1.drewN n) g rb l bad := h
theorem chg_drewN {w w1 : World} {g : Nat} (n : Nat) (h : Chg w w1 g none) : Chg w (w1.drewN n) g none := ⟨h.os, h.tape, h.output, h.size, h.block⟩

theorem rUint_raw (l : List UInt8) (bad : Bool) : rUint l bad = (worthN 7 (rRaw l bad (if grp l = 0 then -1 else (grp l : Int))).1, (rRaw l bad (if grp l = 0 then -1 else (grp l : Int))).2) ∧ worthN 7 (rRaw l bad (if grp l = 0 then -1 else (grp l : Int))).1 < 18446744073709551616 := by
  unfold rUint rRaw grp
  cases bad with
  | true =>
    simp only [if_true, true_or]
    exact ⟨rfl, by simp [worthN]⟩
  | false =>
    simp only [Bool.false_eq_true, if_false, false_or]
    cases hn : Code.num l with
    | none =>
      simp only [if_true]
      rw [if_pos (.inl (by omega))]
      exact ⟨rfl, by simp [worthN]⟩
    | some p =>
      obtain ⟨x, n⟩ := p
      have h1 := Code.num_len hn
      have h2 := worthN7 l 0 x n hn
      have h3 := (Code.num_form hn).1
      simp only
      rw [if_neg (show ¬ n = 0 by omega), if_neg (by omega), Int.toNat_natCast]
      simp only
      rw [h2]
      exact ⟨rfl, h3⟩

set_option maxHeartbeats 400000 in
theorem refUintR_any (w : World) (g rb : Nat) (l : List UInt8) (bad : Bool) (hR : Rdf w g rb l bad) (hl : l.length ≤ 1000000000) :
    Calls Tryd.prog 38 #[.pointer (some ⟨g, 0, none⟩)] w (ReadsF w g rb (.int .u64 (rUint l bad).1) (rUint l bad).2.1 (rUint l bad).2.2) := by
  have HR := Lib.hid hR
  clear hR
  obtain ⟨e1, hv⟩ := rUint_raw l bad
  rw [e1]
  have HV := Lib.hid hv
  have hlen := rRaw_length' l bad (if grp l = 0 then -1 else (grp l : Int))
  clear e1 hv
  obtain ⟨q, HQ⟩ : ∃ q, Hid (grp l = q) := ⟨_, Lib.hid rfl⟩
  rw [HQ.out] at HV hlen ⊢
  by_cases h0 : q = 0
  · rw [if_pos h0] at HV hlen ⊢
    subst h0
    go_enter Tryd.func38, Tryd.ntmps38
    go_wp2_with fail
    refine (groups_any w g rb l bad HR.out hl).mono ?_
    rintro e w0 ⟨rfl, rfl⟩
    rw [HQ.out]
    go_wp2_with fail
    refine (refRaw_any w g rb l bad (-1) HR.out hl).mono ?_
    rintro e w1 ⟨v1, ho1, rfl, hr1, hc1⟩
    generalize rRaw l bad (-1) = R at *
    obtain ⟨T, D, b2⟩ := R
    dsimp only at *
    obtain ⟨A1, c1, rfl, _, _, h1⟩ := ho1.form
    have H1 := Lib.hid h1
    have HR1 := Lib.hid hr1
    have HC1 := Lib.hid hc1
    clear ho1 h1 hr1 hc1
    go_wp2_with fail
    refine (worth7_any w1 w1.heap.size A1 c1 T H1.out HV.out (by omega)).mono ?_
    rintro e w2 ⟨rfl, n2, rfl⟩
    go_wp2
    go_ret
    exact ⟨rfl, readsF_drew n2 HR1.out, chg_drewN n2 HC1.out⟩
  · rw [if_neg h0] at HV hlen ⊢
    have hq0 : ((q : Int) == 0) = false := beq_eq_false_iff_ne.2 (by omega)
    go_enter Tryd.func38, Tryd.ntmps38
    go_wp2_with fail
    refine (groups_any w g rb l bad HR.out hl).mono ?_
    rintro e w0 ⟨rfl, rfl⟩
    rw [HQ.out]
    go_wp2_with fail
    refine (refRaw_any w g rb l bad q HR.out hl).mono ?_
    rintro e w1 ⟨v1, ho1, rfl, hr1, hc1⟩
    generalize rRaw l bad (q : Int) = R at *
    obtain ⟨T, D, b2⟩ := R
    dsimp only at *
    obtain ⟨A1, c1, rfl, _, _, h1⟩ := ho1.form
    have H1 := Lib.hid h1
    have HR1 := Lib.hid hr1
    have HC1 := Lib.hid hc1
    clear ho1 h1 hr1 hc1
    go_wp2_with fail
    refine (worth7_any w1 w1.heap.size A1 c1 T H1.out HV.out (by omega)).mono ?_
    rintro e w2 ⟨rfl, n2, rfl⟩
    go_wp2
    go_ret
    exact ⟨rfl, readsF_drew n2 HR1.out, chg_drewN n2 HC1.out⟩

end Go.Proofs.YtcjafbpgjlcdpaaDoor
