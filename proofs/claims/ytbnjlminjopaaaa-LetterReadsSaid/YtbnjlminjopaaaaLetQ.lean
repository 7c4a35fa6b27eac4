/- The plain law of letters: what is read of bytes. No program in sight. -/
import Derived.Test.YtbnjlminjopaaaaLetE
import Derived.Test.YtbnjlminjopaaaaLetG
namespace Go.Proofs.Ytbnjlminjopaaaa
open Go Go.RowKit
set_option linter.unusedVariables false
set_option maxRecDepth 100000

/-- k bytes at the front, as numbers -/
def gL : Nat → Rs → List Nat × Rs
  | 0, s => ([], s)
  | k + 1, s => ((g8 s).1 :: (gL k (g8 s).2).1, (gL k (g8 s).2).2)
/-- a cut at the front -/
def gC (s : Rs) : List Nat × Rs := gL (g8 s).1 (g8 s).2
/-- a yes or no at the front -/
def gW (s : Rs) : Bool × Rs := (decide ((g8 s).1 = 1), (g8 s).2.1, (g8 s).2.2 || decide (1 < (g8 s).1))
theorem gL_snoc (k : Nat) (s : Rs) : gL (k + 1) s = ((gL k s).1 ++ [(g8 (gL k s).2).1], (g8 (gL k s).2).2) := by
  induction k generalizing s with
  | zero => rfl
  | succ k ih =>
    rw [show gL (k + 1 + 1) s = ((g8 s).1 :: (gL (k + 1) (g8 s).2).1, (gL (k + 1) (g8 s).2).2) from rfl, ih]
    rfl
theorem gL_length (k : Nat) (s : Rs) : (gL k s).1.length = k := by
  induction k generalizing s with
  | zero => rfl
  | succ k ih => show ((g8 s).1 :: (gL k (g8 s).2).1).length = k + 1; rw [List.length_cons, ih]
theorem gL_lt (k : Nat) (s : Rs) : ∀ x ∈ (gL k s).1, x < 256 := by
  induction k generalizing s with
  | zero => intro x hx; cases hx
  | succ k ih =>
    intro x hx
    rcases List.mem_cons.1 hx with rfl | hx
    · exact g8_lt s
    · exact ih _ x hx
theorem gL_len (k : Nat) (s : Rs) : (gL k s).2.1.length ≤ s.1.length := by
  induction k generalizing s with
  | zero => exact Nat.le_refl _
  | succ k ih => exact Nat.le_trans (ih (g8 s).2) (g8_len s)
theorem gC_len (s : Rs) : (gC s).2.1.length ≤ s.1.length := Nat.le_trans (gL_len _ _) (g8_len s)
theorem gW_len (s : Rs) : (gW s).2.1.length ≤ s.1.length := g8_len s
theorem gL_put (l : List Nat) (hl : ∀ x ∈ l, x < 256) (R : List UInt8) : gL l.length (l.map UInt8.ofNat ++ R, false) = (l, R, false) := by
  induction l with
  | nil => rfl
  | cons x l ih =>
    have h1 : g8 ((x :: l).map UInt8.ofNat ++ R, false) = (x, l.map UInt8.ofNat ++ R, false) := g8_put x (hl x (List.mem_cons_self ..)) _
    rw [List.length_cons, show gL (l.length + 1) ((x :: l).map UInt8.ofNat ++ R, false) = ((g8 ((x :: l).map UInt8.ofNat ++ R, false)).1 :: (gL l.length (g8 ((x :: l).map UInt8.ofNat ++ R, false)).2).1, (gL l.length (g8 ((x :: l).map UInt8.ofNat ++ R, false)).2).2) from rfl, h1]
    simp only
    rw [ih fun y hy => hl y (List.mem_cons_of_mem _ hy)]
theorem gC_put (l : List Nat) (h : l.length < 256) (hl : ∀ x ∈ l, x < 256) (R : List UInt8) : gC (cutB l ++ R, false) = (l, R, false) := by
  have h1 : g8 (cutB l ++ R, false) = (l.length, l.map UInt8.ofNat ++ R, false) := g8_put _ h _
  unfold gC
  rw [h1]
  exact gL_put l hl R
theorem gW_put (b : Bool) (R : List UInt8) : gW ((if b then 1 else 0) :: R, false) = (b, R, false) := by
  have h1 : g8 ((if b then 1 else 0) :: R, false) = ((if b then 1 else 0), R, false) := by
    cases b
    · exact g8_put 0 (by omega) R
    · exact g8_put 1 (by omega) R
  unfold gW
  rw [h1]
  cases b <;> rfl
theorem gL_ok {k : Nat} {s : Rs} (h : (gL k s).2.2 = false) : s.2 = false ∧ s.1 = (gL k s).1.map UInt8.ofNat ++ (gL k s).2.1 := by
  induction k generalizing s with
  | zero => exact ⟨h, rfl⟩
  | succ k ih =>
    obtain ⟨h1, h2⟩ := ih (s := (g8 s).2) h
    obtain ⟨h3, h4, _⟩ := g8_ok h1
    refine ⟨h3, ?_⟩
    rw [h2] at h4
    exact h4
theorem gC_ok {s : Rs} (h : (gC s).2.2 = false) : s.2 = false ∧ s.1 = cutB (gC s).1 ++ (gC s).2.1 := by
  obtain ⟨h1, h2⟩ := gL_ok (k := (g8 s).1) (s := (g8 s).2) h
  obtain ⟨h3, h4, _⟩ := g8_ok h1
  refine ⟨h3, ?_⟩
  rw [h2] at h4
  unfold cutB
  rw [show (gC s).1.length = (g8 s).1 from gL_length _ _]
  exact h4
theorem gW_ok {s : Rs} (h : (gW s).2.2 = false) : s.2 = false ∧ s.1 = (if (gW s).1 then 1 else 0) :: (gW s).2.1 := by
  have h' : ((g8 s).2.2 || decide (1 < (g8 s).1)) = false := h
  rw [Bool.or_eq_false_iff, decide_eq_false_iff_not] at h'
  obtain ⟨h1, h2⟩ := h'
  obtain ⟨h3, h4, _⟩ := g8_ok h1
  refine ⟨h3, ?_⟩
  rw [h4]
  show UInt8.ofNat (g8 s).1 :: (g8 s).2.1 = (if (decide ((g8 s).1 = 1)) = true then 1 else 0) :: (g8 s).2.1
  rcases (show (g8 s).1 = 0 ∨ (g8 s).1 = 1 by omega) with e | e <;> rw [e] <;> rfl
theorem gP_put (n x : Nat) (R : List UInt8) (hn : n < 256) (hx : x < 18446744073709551616) (hm : mayPB (n : Nat) x = true) : gP (UInt8.ofNat n :: (Code.short x ++ R), false) = ((n, x), R, false) := by
  have h1 : g8 (UInt8.ofNat n :: (Code.short x ++ R), false) = (n, Code.short x ++ R, false) := g8_put n hn _
  have h2 : gU (Code.short x ++ R, false) = (x, R, false) := gU_put x hx R
  unfold gP
  rw [h1]
  simp only
  rw [h2]
  simp only
  rw [if_neg (by rw [hm]; simp)]
theorem gP_ok {s : Rs} (h : (gP s).2.2 = false) : s.2 = false ∧ s.1 = UInt8.ofNat (gP s).1.1 :: (Code.short (gP s).1.2 ++ (gP s).2.1) := by
  unfold gP at *
  split at h
  · cases h
  · rename_i hn
    rw [if_neg hn]
    obtain ⟨h1, h2, _⟩ := gU_ok (s := (g8 s).2) h
    obtain ⟨h3, h4, _⟩ := g8_ok h1
    refine ⟨h3, ?_⟩
    rw [h2] at h4
    exact h4
theorem gI_put (r n x : Nat) (R : List UInt8) (hr : r < 18446744073709551616) (hn : n < 256) (hx : x < 18446744073709551616) (hm : mayIdB r (n : Nat) x = true) : gI (Code.short r ++ UInt8.ofNat n :: (Code.short x ++ R), false) = ((r, n, x), R, false) := by
  have hp : mayPB (n : Nat) x = true := decide_eq_true (of_decide_eq_true hm).1
  have h1 : gU (Code.short r ++ UInt8.ofNat n :: (Code.short x ++ R), false) = (r, UInt8.ofNat n :: (Code.short x ++ R), false) := gU_put r hr _
  have h2 := gP_put n x R hn hx hp
  unfold gI
  rw [h1]
  simp only
  rw [h2]
  simp only
  rw [if_neg (by rw [hm]; simp)]
theorem gI_ok {s : Rs} (h : (gI s).2.2 = false) : s.2 = false ∧ s.1 = Code.short (gI s).1.1 ++ UInt8.ofNat (gI s).1.2.1 :: (Code.short (gI s).1.2.2 ++ (gI s).2.1) := by
  unfold gI at *
  split at h
  · cases h
  · rename_i hn
    rw [if_neg hn]
    obtain ⟨h1, h2⟩ := gP_ok (s := (gU s).2) h
    obtain ⟨h3, h4, _⟩ := gU_ok h1
    refine ⟨h3, ?_⟩
    rw [h2] at h4
    exact h4

/-- what the program reads of the bytes -/
def rdK (m : List UInt8) : Nat × Rs := g8 (m, false)
def rdP (m : List UInt8) : (Nat × Nat) × Rs := gP (rdK m).2
def rdI (m : List UInt8) : (Nat × Nat × Nat) × Rs := gI (rdP m).2
def rdN (m : List UInt8) : Nat × Rs := if (rdK m).1 = 7 then g8 (rdI m).2 else (0, (rdI m).2)
def rdB (m : List UInt8) : List UInt8 × Rs := if (rdK m).1 = 7 then gT (rdN m).2 else ([], (rdN m).2)
def rdC (m : List UInt8) : Nat × Rs := if (rdK m).1 = 8 then gU (rdB m).2 else (0, (rdB m).2)
def rdX (m : List UInt8) : List Nat × Rs := if (rdK m).1 = 8 ∨ (rdK m).1 = 9 then gC (rdC m).2 else ([], (rdC m).2)
def rdW (m : List UInt8) : Bool × Rs := if (rdK m).1 = 9 then gW (rdX m).2 else (false, (rdX m).2)
def rdLt (m : List UInt8) : Lt := ⟨((rdK m).1 : Nat), ((rdP m).1.1 : Nat), (rdP m).1.2, (rdI m).1.1, ((rdI m).1.2.1 : Nat), (rdI m).1.2.2, (rdN m).1, (rdB m).1, (rdC m).1, (rdX m).1, (rdW m).1⟩
def Lt.fits (x : Lt) : Prop := x.pinc < 18446744073709551616 ∧ x.round < 18446744073709551616 ∧ x.sinc < 18446744073709551616 ∧ x.cid < 18446744073709551616
/-- these bytes are this letter's -/
def IsLt (b : List UInt8) (x : Lt) : Prop := x.may = true ∧ x.fits ∧ b = x.plain

theorem Lt.kinds {x : Lt} (h : x.may = true) : (x.kind = 7 ∧ 1 ≤ x.n ∧ x.n ≤ 16 ∧ x.body.length ≤ 64 ∧ x.cid = 0 ∧ x.cut = [] ∧ x.want = false) ∨ (x.kind = 8 ∧ x.n = 0 ∧ x.body = [] ∧ (x.cut.length ≤ 6 ∧ ∀ y ∈ x.cut, y < 256) ∧ x.want = false) ∨ (x.kind = 9 ∧ x.n = 0 ∧ x.body = [] ∧ x.cid = 0 ∧ (x.cut.length ≤ 6 ∧ ∀ y ∈ x.cut, y < 256)) := by
  obtain ⟨_, _, h | h | h⟩ := Lt.may_iff h
  · obtain ⟨a, b, c, d, e, f, g⟩ := h
    exact .inl ⟨a, b, c, d, e, List.eq_nil_of_length_eq_zero f, g⟩
  · obtain ⟨a, b, c, d, ⟨_, e, e'⟩, f⟩ := h
    exact .inr (.inl ⟨a, b, List.eq_nil_of_length_eq_zero c, ⟨e, fun y hy => by have := e' y hy; omega⟩, f⟩)
  · obtain ⟨a, b, c, d, ⟨_, e, e'⟩⟩ := h
    exact .inr (.inr ⟨a, b, List.eq_nil_of_length_eq_zero c, d, ⟨e, fun y hy => by have := e' y hy; omega⟩⟩)
theorem rd_fits (m : List UInt8) (h1 : (rdW m).2.2 = false) (h2 : (rdLt m).may = true) : (rdLt m).fits := by
  have hp : (rdP m).1.2 < 18446744073709551616 := by
    unfold rdP gP
    split
    · exact Nat.zero_lt_succ _
    · exact gU_lt _
  have hr : (rdI m).1.1 < 18446744073709551616 := by
    unfold rdI gI
    split
    · exact Nat.zero_lt_succ _
    · exact gU_lt _
  have hs : (rdI m).1.2.2 < 18446744073709551616 := by
    unfold rdI gI
    split
    · exact Nat.zero_lt_succ _
    · show (gP (gU (rdP m).2).2).1.2 < _
      unfold gP
      split
      · exact Nat.zero_lt_succ _
      · exact gU_lt _
  have hc : (rdC m).1 < 18446744073709551616 := by
    unfold rdC
    split
    · exact gU_lt _
    · exact Nat.zero_lt_succ _
  exact ⟨hp, hr, hs, hc⟩
theorem rd_tail {m : List UInt8} (hb : (rdW m).2.2 = false) (hnil : (rdW m).2.1 = []) (h2 : (rdLt m).may = true) : (rdI m).2.2 = false ∧ (rdI m).2.1 = (rdLt m).tail := by
  have ek : (rdLt m).kind = ((rdK m).1 : Nat) := rfl
  rcases Lt.kinds h2 with ⟨e, _⟩ | ⟨e, _⟩ | ⟨e, _⟩
  · have eK : (rdK m).1 = 7 := by omega
    have eT : (rdLt m).tail = UInt8.ofNat (rdN m).1 :: Code.text (rdB m).1 := if_pos e
    have e1 : rdN m = g8 (rdI m).2 := if_pos eK
    have e2 : rdB m = gT (rdN m).2 := if_pos eK
    have e3 : rdC m = (0, (rdB m).2) := if_neg (by omega)
    have e4 : rdX m = ([], (rdC m).2) := if_neg (by omega)
    have e5 : rdW m = (false, (rdX m).2) := if_neg (by omega)
    rw [e5, e4, e3] at hb hnil
    simp only at hb hnil
    rw [e2] at hb hnil
    obtain ⟨q1, q2, _⟩ := gT_ok hb
    rw [e1] at q1
    obtain ⟨p1, p2, _⟩ := g8_ok q1
    refine ⟨p1, ?_⟩
    rw [p2, eT, e2, ← e1, q2, hnil, List.append_nil]
  · have eK : (rdK m).1 = 8 := by omega
    have eT : (rdLt m).tail = Code.short (rdC m).1 ++ cutB (rdX m).1 := (if_neg (by omega)).trans (if_pos e)
    have e1 : rdN m = (0, (rdI m).2) := if_neg (by omega)
    have e2 : rdB m = ([], (rdN m).2) := if_neg (by omega)
    have e3 : rdC m = gU (rdB m).2 := if_pos eK
    have e4 : rdX m = gC (rdC m).2 := if_pos (.inl eK)
    have e5 : rdW m = (false, (rdX m).2) := if_neg (by omega)
    rw [e5] at hb hnil
    simp only at hb hnil
    rw [e4] at hb hnil
    obtain ⟨q1, q2⟩ := gC_ok hb
    rw [e3] at q1
    obtain ⟨p1, p2, _⟩ := gU_ok q1
    rw [e2, e1] at p1
    refine ⟨p1, ?_⟩
    have e6 : (rdI m).2.1 = (rdB m).2.1 := by rw [e2, e1]
    rw [e6, p2, eT, e4, ← e3, q2, hnil, List.append_nil]
  · have eK : (rdK m).1 = 9 := by omega
    have eT : (rdLt m).tail = cutB (rdX m).1 ++ [if (rdW m).1 then 1 else 0] := (if_neg (by omega)).trans (if_neg (by omega))
    have e1 : rdN m = (0, (rdI m).2) := if_neg (by omega)
    have e2 : rdB m = ([], (rdN m).2) := if_neg (by omega)
    have e3 : rdC m = (0, (rdB m).2) := if_neg (by omega)
    have e4 : rdX m = gC (rdC m).2 := if_pos (.inr eK)
    have e5 : rdW m = gW (rdX m).2 := if_pos eK
    rw [e5] at hb hnil
    obtain ⟨q1, q2⟩ := gW_ok hb
    rw [e4] at q1
    obtain ⟨p1, p2⟩ := gC_ok q1
    rw [e3, e2, e1] at p1
    refine ⟨p1, ?_⟩
    have e6 : (rdI m).2.1 = (rdC m).2.1 := by rw [e3, e2, e1]
    rw [e6, p2, eT, e5, ← e4, q2, hnil]
theorem rd_ok {m : List UInt8} (h1 : rEnd (rdW m).2.1 (rdW m).2.2 = false) (h2 : (rdLt m).may = true) : m = (rdLt m).plain := by
  unfold rEnd at h1
  simp only [Bool.or_eq_false_iff, decide_eq_false_iff_not, Nat.not_lt] at h1
  obtain ⟨hb, hl⟩ := h1
  have hnil : (rdW m).2.1 = [] := List.eq_nil_of_length_eq_zero (by omega)
  obtain ⟨i1, i2⟩ := rd_tail hb hnil h2
  obtain ⟨p1, p2⟩ := gI_ok (s := (rdP m).2) i1
  obtain ⟨q1, q2⟩ := gP_ok (s := (rdK m).2) p1
  obtain ⟨k1, k2, _⟩ := g8_ok (s := (m, false)) q1
  have e1 : m = UInt8.ofNat (rdK m).1 :: (rdK m).2.1 := k2
  have e2 : (rdK m).2.1 = UInt8.ofNat (rdP m).1.1 :: (Code.short (rdP m).1.2 ++ (rdP m).2.1) := q2
  have e3 : (rdP m).2.1 = Code.short (rdI m).1.1 ++ UInt8.ofNat (rdI m).1.2.1 :: (Code.short (rdI m).1.2.2 ++ (rdI m).2.1) := p2
  have e5 : (rdLt m).plain = UInt8.ofNat (rdK m).1 :: UInt8.ofNat (rdP m).1.1 :: (Code.short (rdP m).1.2 ++ (Code.short (rdI m).1.1 ++ UInt8.ofNat (rdI m).1.2.1 :: Code.short (rdI m).1.2.2)) ++ (rdLt m).tail := rfl
  rw [e5, ← i2]
  conv => lhs; rw [e1, e2, e3]
  simp
/-- reading a letter's bytes -/
theorem rd_plain {x : Lt} (h : x.may = true) (hf : x.fits) : rdLt x.plain = x ∧ (rdW x.plain).2 = ([], false) := by
  obtain ⟨a, b, _⟩ := Lt.may_iff h
  obtain ⟨f1, f2, f3, f4⟩ := hf
  have hk := Lt.kinds h
  obtain ⟨kind, node, pinc, round, snode, sinc, n, body, cid, cut, want⟩ := x
  simp only at a b hk f1 f2 f3 f4
  obtain ⟨kn, rfl⟩ := Int.eq_ofNat_of_zero_le (show 0 ≤ kind by rcases hk with h | h | h <;> omega)
  obtain ⟨nn, rfl⟩ := Int.eq_ofNat_of_zero_le (show 0 ≤ node by omega)
  obtain ⟨sn, rfl⟩ := Int.eq_ofNat_of_zero_le (show 0 ≤ snode by omega)
  obtain ⟨X, HX⟩ : ∃ X, X = (⟨(kn : Nat), (nn : Nat), pinc, round, (sn : Nat), sinc, n, body, cid, cut, want⟩ : Lt) := ⟨_, rfl⟩
  obtain ⟨T, HT⟩ : ∃ T, T = X.tail := ⟨_, rfl⟩
  have hpl : X.plain = UInt8.ofNat kn :: UInt8.ofNat nn :: (Code.short pinc ++ (Code.short round ++ UInt8.ofNat sn :: (Code.short sinc ++ T))) := by
    rw [HT, HX]
    simp [Lt.plain, Lt.head]
  have e1 : rdK X.plain = (kn, UInt8.ofNat nn :: (Code.short pinc ++ (Code.short round ++ UInt8.ofNat sn :: (Code.short sinc ++ T))), false) := by
    rw [hpl]
    exact g8_put kn (by rcases hk with h | h | h <;> omega) _
  have e2 : rdP X.plain = ((nn, pinc), Code.short round ++ UInt8.ofNat sn :: (Code.short sinc ++ T), false) := by
    unfold rdP
    rw [e1]
    exact gP_put nn pinc _ (by omega) f1 (decide_eq_true a)
  have e3 : rdI X.plain = ((round, sn, sinc), T, false) := by
    unfold rdI
    rw [e2]
    exact gI_put round sn sinc _ f2 (by omega) f3 (decide_eq_true b)
  have e4 : (rdN X.plain).1 = n ∧ (rdB X.plain).1 = body ∧ (rdC X.plain).1 = cid ∧ (rdX X.plain).1 = cut ∧ rdW X.plain = (want, [], false) := by
    unfold rdW rdX rdC rdB rdN
    rw [e1, e3]
    simp only
    rcases hk with ⟨k, h1, h2, h3, h4, h5, h6⟩ | ⟨k, h1, h2, ⟨h3, h4⟩, h5⟩ | ⟨k, h1, h2, h3, ⟨h4, h5⟩⟩
    · have k' : kn = 7 := by omega
      subst k' h4 h5 h6
      have eT : T = UInt8.ofNat n :: Code.text body := by rw [HT, HX]; rfl
      have g1 : g8 (T, false) = (n, Code.text body, false) := by rw [eT]; exact g8_put n (by omega) _
      have g2 : gT (Code.text body, false) = (body, [], false) := by
        have := gT_put body [] h3
        rwa [List.append_nil] at this
      simp [g1, g2]
    · have k' : kn = 8 := by omega
      subst k' h1 h2 h5
      have eT : T = Code.short cid ++ cutB cut := by rw [HT, HX]; rfl
      have g1 : gU (T, false) = (cid, cutB cut, false) := by rw [eT]; exact gU_put cid f4 _
      have g2 : gC (cutB cut, false) = (cut, [], false) := by
        have := gC_put cut (by omega) h4 []
        rwa [List.append_nil] at this
      simp [g1, g2]
    · have k' : kn = 9 := by omega
      subst k' h1 h2 h3
      have eT : T = cutB cut ++ [if want then 1 else 0] := by rw [HT, HX]; rfl
      have g1 : gC (T, false) = (cut, [if want then 1 else 0], false) := by rw [eT]; exact gC_put cut (by omega) h5 _
      have g2 : gW ([if want then 1 else 0], false) = (want, [], false) := gW_put want []
      simp [g1, g2]
  obtain ⟨t1, t2, t3, t4, t5⟩ := e4
  rw [HX] at *
  refine ⟨?_, by rw [t5]⟩
  unfold rdLt
  rw [e1, e2, e3, t1, t2, t3, t4, t5]
theorem plainL_inj {x y : Lt} (hx : x.may = true) (fx : x.fits) (hy : y.may = true) (fy : y.fits) (h : x.plain = y.plain) : x = y := by
  rw [← (rd_plain hx fx).1, ← (rd_plain hy fy).1, h]
theorem IsLt.inj {b : List UInt8} {x y : Lt} (h1 : IsLt b x) (h2 : IsLt b y) : x = y := plainL_inj h1.1 h1.2.1 h2.1 h2.2.1 (h1.2.2.symm.trans h2.2.2)
/-- what the program's reading answers -/
theorem isLt_rd (b : List UInt8) (x : Lt) : IsLt b x ↔ rEnd (rdW b).2.1 (rdW b).2.2 = false ∧ (rdLt b).may = true ∧ x = rdLt b := by
  constructor
  · rintro ⟨h1, h2, rfl⟩
    obtain ⟨q1, q2⟩ := rd_plain h1 h2
    rw [q1, q2]
    exact ⟨rfl, h1, rfl⟩
  · rintro ⟨h1, h2, rfl⟩
    have hb : (rdW b).2.2 = false := by
      unfold rEnd at h1
      exact (Bool.or_eq_false_iff.1 h1).1
    exact ⟨h2, rd_fits b hb h2, rd_ok h1 h2⟩
end Go.Proofs.Ytbnjlminjopaaaa
