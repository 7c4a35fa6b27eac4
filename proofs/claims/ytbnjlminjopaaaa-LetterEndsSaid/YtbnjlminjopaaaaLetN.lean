/- The plain law of letters, on: no letter's bytes are a beginning of another's. No program in sight. -/
import Derived.Test.YtbnjlminjopaaaaLetQ
namespace Go.Proofs.Ytbnjlminjopaaaa
open Go Go.RowKit
set_option linter.unusedVariables false
set_option maxRecDepth 100000

/-- reading a letter's bytes, with anything behind them -/
theorem rd_plain_app {x : Lt} (h : x.may = true) (hf : x.fits) (R : List UInt8) : rdLt (x.plain ++ R) = x ∧ (rdW (x.plain ++ R)).2 = (R, false) := by
  obtain ⟨a, b, _⟩ := Lt.may_iff h
  obtain ⟨f1, f2, f3, f4⟩ := hf
  have hk := Lt.kinds h
  obtain ⟨kind, node, pinc, round, snode, sinc, n, body, cid, cut, want⟩ := x
  simp only at a b hk f1 f2 f3 f4
  obtain ⟨kn, rfl⟩ := Int.eq_ofNat_of_zero_le (show 0 ≤ kind by rcases hk with h | h | h <;> omega)
  obtain ⟨nn, rfl⟩ := Int.eq_ofNat_of_zero_le (show 0 ≤ node by omega)
  obtain ⟨sn, rfl⟩ := Int.eq_ofNat_of_zero_le (show 0 ≤ snode by omega)
  obtain ⟨X, HX⟩ : ∃ X, X = (⟨(kn : Nat), (nn : Nat), pinc, round, (sn : Nat), sinc, n, body, cid, cut, want⟩ : Lt) := ⟨_, rfl⟩
  obtain ⟨T, HT⟩ : ∃ T, T = X.tail := ⟨_, rfl⟩
  have hpl : X.plain ++ R = UInt8.ofNat kn :: UInt8.ofNat nn :: (Code.short pinc ++ (Code.short round ++ UInt8.ofNat sn :: (Code.short sinc ++ (T ++ R)))) := by
    rw [HT, HX]
    simp [Lt.plain, Lt.head]
  have e1 : rdK (X.plain ++ R) = (kn, UInt8.ofNat nn :: (Code.short pinc ++ (Code.short round ++ UInt8.ofNat sn :: (Code.short sinc ++ (T ++ R)))), false) := by
    rw [hpl]
    exact g8_put kn (by rcases hk with h | h | h <;> omega) _
  have e2 : rdP (X.plain ++ R) = ((nn, pinc), Code.short round ++ UInt8.ofNat sn :: (Code.short sinc ++ (T ++ R)), false) := by
    unfold rdP
    rw [e1]
    exact gP_put nn pinc _ (by omega) f1 (decide_eq_true a)
  have e3 : rdI (X.plain ++ R) = ((round, sn, sinc), T ++ R, false) := by
    unfold rdI
    rw [e2]
    exact gI_put round sn sinc _ f2 (by omega) f3 (decide_eq_true b)
  have e4 : (rdN (X.plain ++ R)).1 = n ∧ (rdB (X.plain ++ R)).1 = body ∧ (rdC (X.plain ++ R)).1 = cid ∧ (rdX (X.plain ++ R)).1 = cut ∧ rdW (X.plain ++ R) = (want, R, false) := by
    unfold rdW rdX rdC rdB rdN
    rw [e1, e3]
    simp only
    rcases hk with ⟨k, h1, h2, h3, h4, h5, h6⟩ | ⟨k, h1, h2, ⟨h3, h4⟩, h5⟩ | ⟨k, h1, h2, h3, ⟨h4, h5⟩⟩
    · have k' : kn = 7 := by omega
      subst k' h4 h5 h6
      have eT : T = UInt8.ofNat n :: Code.text body := by rw [HT, HX]; rfl
      have g1 : g8 (T ++ R, false) = (n, Code.text body ++ R, false) := by rw [eT]; exact g8_put n (by omega) _
      have g2 : gT (Code.text body ++ R, false) = (body, R, false) := gT_put body R h3
      simp [g1, g2]
    · have k' : kn = 8 := by omega
      subst k' h1 h2 h5
      have eT : T = Code.short cid ++ cutB cut := by rw [HT, HX]; rfl
      have g1 : gU (T ++ R, false) = (cid, cutB cut ++ R, false) := by rw [eT, List.append_assoc]; exact gU_put cid f4 _
      have g2 : gC (cutB cut ++ R, false) = (cut, R, false) := gC_put cut (by omega) h4 R
      simp [g1, g2]
    · have k' : kn = 9 := by omega
      subst k' h1 h2 h3
      have eT : T = cutB cut ++ [if want then 1 else 0] := by rw [HT, HX]; rfl
      have g1 : gC (T ++ R, false) = (cut, (if want then 1 else 0) :: R, false) := by rw [eT, List.append_assoc]; exact gC_put cut (by omega) h5 _
      have g2 : gW ((if want then 1 else 0) :: R, false) = (want, R, false) := gW_put want R
      simp [g1, g2]
  obtain ⟨t1, t2, t3, t4, t5⟩ := e4
  rw [HX] at *
  refine ⟨?_, by rw [t5]⟩
  unfold rdLt
  rw [e1, e2, e3, t1, t2, t3, t4, t5]
/-- no letter's bytes are a beginning of another's -/
theorem plainL_free {x y : Lt} (hx : x.may = true) (fx : x.fits) (hy : y.may = true) (fy : y.fits) {R : List UInt8} (h : x.plain = y.plain ++ R) : x = y ∧ R = [] := by
  obtain ⟨a1, a2⟩ := rd_plain hx fx
  obtain ⟨b1, b2⟩ := rd_plain_app hy fy R
  rw [h, b1] at a1
  rw [h, b2] at a2
  exact ⟨a1.symm, (Prod.mk.inj a2).1⟩
theorem not_isLt_take {x : Lt} (hx : x.may = true) (fx : x.fits) {k : Nat} (hk : k < x.plain.length) (y : Lt) : ¬ IsLt (x.plain.take k) y := fun h => by
  have e : x.plain = y.plain ++ x.plain.drop k := by rw [← h.2.2, List.take_append_drop]
  have hd := congrArg List.length (plainL_free hx fx h.1 h.2.1 e).2
  rw [List.length_drop, List.length_nil] at hd
  omega
theorem not_isLt_app {x : Lt} (hx : x.may = true) (fx : x.fits) {R : List UInt8} (hR : R ≠ []) (y : Lt) : ¬ IsLt (x.plain ++ R) y := fun h =>
  hR (plainL_free h.1 h.2.1 hx fx h.2.2.symm).2
end Go.Proofs.Ytbnjlminjopaaaa
