/- The plain law of frames: their bytes, and what is read of bytes. No program in sight. -/
import Derived.Test.YtcjafbpgjlcdpaaDoorFrm
import Derived.Test.YtcjafbpgjlcdpaaDoorCodeR4
import Derived.Test.YtcjafbpgjlcdpaaDoorCodeNum
import Derived.Test.YtcjafbpgjlcdpaaDoorRefR4
import Derived.Test.YtcjafbpgjlcdpaaDoorCrcBits
namespace Go.Proofs.YtcjafbpgjlcdpaaDoor
open Go Go.RowKit
set_option linter.unusedVariables false
set_option maxRecDepth 100000

def Fr.may (f : Fr) : Bool := mayB f.kind f.fr f.to f.inc f.conn f.pinc f.pconn f.ack f.seq f.body.length
def Fr.nums (f : Fr) : List Nat := [f.inc, f.conn, f.pinc, f.pconn, f.ack, f.seq]
def Fr.tail (f : Fr) : List UInt8 := if f.kind = 2 then Code.text f.body else []
/-- a frame's bytes, ahead of their sum -/
def Fr.plain (f : Fr) : List UInt8 := [UInt8.ofNat f.kind.toNat, UInt8.ofNat f.fr.toNat, UInt8.ofNat f.to.toNat] ++ Code.shorts f.nums ++ f.tail
/-- these bytes are this frame's -/
def IsFr (b : List UInt8) (f : Fr) : Prop := f.may = true ∧ b = Crc.sealed f.plain

theorem Fr.may_iff {f : Fr} (h : f.may = true) : (1 ≤ f.fr ∧ f.fr ≤ 10) ∧ (1 ≤ f.to ∧ f.to ≤ 10) ∧ f.fr ≠ f.to ∧ (f.inc < 34359738368 ∧ f.conn < 34359738368 ∧ f.pinc < 34359738368 ∧ f.pconn < 34359738368 ∧ f.ack < 34359738368 ∧ f.seq < 34359738368) ∧ f.inc ≠ 0 ∧ f.conn ≠ 0 ∧
    ((f.pinc = 0 ∧ f.pconn = 0 ∧ f.ack = 0) ∨ (f.pinc ≠ 0 ∧ f.pconn ≠ 0)) ∧ ((f.kind = 1 ∧ f.seq = 0 ∧ f.body.length = 0) ∨ (f.kind = 2 ∧ f.pinc ≠ 0 ∧ f.pconn ≠ 0 ∧ f.seq ≠ 0 ∧ 1 ≤ f.body.length ∧ f.body.length ≤ 448)) := of_decide_eq_true h
theorem Fr.kinds {f : Fr} (h : f.may = true) : (f.kind = 1 ∧ f.body = []) ∨ (f.kind = 2 ∧ 1 ≤ f.body.length ∧ f.body.length ≤ 448) := by
  obtain ⟨_, _, _, _, _, _, _, h | h⟩ := Fr.may_iff h
  · exact .inl ⟨h.1, List.eq_nil_of_length_eq_zero h.2.2⟩
  · exact .inr ⟨h.1, h.2.2.2.2⟩
theorem Fr.nil_may : Fr.nil.may = false := by decide
theorem short5 {x : Nat} (h : x < 34359738368) : (Code.short x).length ≤ 5 := by
  unfold Code.short
  rw [Code.shortF_more 10 4 x (by rw [Nat.pow_succ]; have := Code.pow10; omega) (by simpa using h)]
  exact (Code.shortF_length 4 x).2
theorem short2 {x : Nat} (h : x < 16384) : (Code.short x).length ≤ 2 := by
  unfold Code.short
  rw [Code.shortF_more 10 1 x (by rw [Nat.pow_succ]; have := Code.pow10; omega) (by simpa using h)]
  exact (Code.shortF_length 1 x).2
theorem Fr.shorts_len {f : Fr} (h : f.may = true) : (Code.shorts f.nums).length ≤ 30 := by
  obtain ⟨_, _, _, ⟨h1, h2, h3, h4, h5, h6⟩, _⟩ := Fr.may_iff h
  have := short5 h1
  have := short5 h2
  have := short5 h3
  have := short5 h4
  have := short5 h5
  have := short5 h6
  simp only [Fr.nums, Code.shorts, List.map_cons, List.map_nil, List.flatten_cons, List.flatten_nil, List.length_append, List.length_nil]
  omega
theorem Fr.plain_len {f : Fr} (h : f.may = true) : f.plain.length ≤ 500 := by
  have h1 := Fr.shorts_len h
  have h2 : f.tail.length ≤ 450 := by
    unfold Fr.tail
    rcases Fr.kinds h with ⟨e, _⟩ | ⟨e, h3, h4⟩
    · rw [if_neg (by omega)]; simp
    · rw [if_pos e]
      have := short2 (show f.body.length < 16384 by omega)
      unfold Code.text
      rw [List.length_append]
      omega
  unfold Fr.plain
  simp only [List.length_append, List.length_cons, List.length_nil]
  omega
theorem sealed_len (l : List UInt8) : (Crc.sealed l).length = l.length + 4 := by simp [Crc.sealed, Crc.le4]

/-- what is taken of the front, with the reader's fault -/
abbrev Rs := List UInt8 × Bool
def g8 (s : Rs) : Nat × Rs := rWide s.1 s.2 1
def gU (s : Rs) : Nat × Rs := rUint s.1 s.2
def gT (s : Rs) : List UInt8 × Rs := rText s.1 s.2 448
theorem g8_put (x : Nat) (hx : x < 256) (R : List UInt8) : g8 (UInt8.ofNat x :: R, false) = (x, R, false) := by
  unfold g8 rWide
  rw [if_neg (by simp)]
  simp [Code.leNat]
  omega
theorem gU_put (x : Nat) (hx : x < 18446744073709551616) (R : List UInt8) : gU (Code.short x ++ R, false) = (x, R, false) := by
  unfold gU rUint
  simp only [Bool.false_eq_true, if_false]
  rw [Code.num_short x hx R]
  simp
theorem gT_put (t R : List UInt8) (ht : t.length ≤ 448) : gT (Code.text t ++ R, false) = (t, R, false) := by
  have h := Code.num_short t.length (by omega) (t ++ R)
  have e : Code.text t ++ R = Code.short t.length ++ (t ++ R) := by unfold Code.text; rw [List.append_assoc]
  unfold gT
  rw [e, rText_yes _ _ t.length (Code.short t.length).length h (by rw [List.length_append, List.length_append]; omega)]
  simp
theorem g8_ok {s : Rs} (h : (g8 s).2.2 = false) : s.2 = false ∧ s.1 = UInt8.ofNat (g8 s).1 :: (g8 s).2.1 ∧ (g8 s).1 < 256 := by
  unfold g8 rWide at *
  split at h
  · cases h
  · rename_i hn
    rw [if_neg hn]
    obtain ⟨l, bad⟩ := s
    simp only [not_or, Bool.not_eq_true, Nat.not_lt] at hn
    cases l with
    | nil => simp at hn
    | cons c r =>
      refine ⟨hn.1, ?_, ?_⟩
      · simp [Code.leNat]
      · have := c.toNat_lt
        simp [Code.leNat]
        omega
theorem gU_ok {s : Rs} (h : (gU s).2.2 = false) : s.2 = false ∧ s.1 = Code.short (gU s).1 ++ (gU s).2.1 ∧ (gU s).1 < 18446744073709551616 := by
  obtain ⟨l, bad⟩ := s
  unfold gU rUint at *
  cases bad with
  | true => simp at h
  | false =>
    simp only [Bool.false_eq_true, if_false] at h ⊢
    cases hn : Code.num l with
    | none => rw [hn] at h; simp at h
    | some p =>
      obtain ⟨x, n⟩ := p
      obtain ⟨h1, h2, h3⟩ := Code.num_form hn
      exact ⟨trivial, by simp only; rw [← h2, List.take_append_drop], h1⟩
theorem gT_ok {s : Rs} (h : (gT s).2.2 = false) : s.2 = false ∧ s.1 = Code.text (gT s).1 ++ (gT s).2.1 ∧ (gT s).1.length ≤ 448 := by
  obtain ⟨l, bad⟩ := s
  unfold gT at *
  cases bad with
  | true => simp [rText_bad] at h
  | false =>
    simp only at h ⊢
    cases hn : Code.num l with
    | none => rw [rText_none _ _ _ hn] at h; cases h
    | some p =>
      obtain ⟨x, n⟩ := p
      by_cases hc : 0 ≤ (448 : Int) ∧ (x : Int) ≤ 448 ∧ x ≤ l.length - n
      · rw [rText_yes _ _ _ _ hn hc]
        obtain ⟨h1, h2, h3⟩ := Code.num_form hn
        have hl := Code.num_len hn
        have hx : ((l.drop n).take x).length = x := by simp; omega
        refine ⟨trivial, ?_, by simp only [hx]; omega⟩
        simp only
        unfold Code.text
        rw [hx, ← h2, List.append_assoc, List.take_append_drop, List.take_append_drop]
      · rw [rText_no _ _ _ _ _ hn hc] at h; cases h

/-- what the six numbers at the front are -/
structure Six where
  a : Nat
  b : Nat
  c : Nat
  d : Nat
  e : Nat
  f : Nat
  s : Rs
def g6 (s : Rs) : Six :=
  ⟨(gU s).1, (gU (gU s).2).1, (gU (gU (gU s).2).2).1, (gU (gU (gU (gU s).2).2).2).1, (gU (gU (gU (gU (gU s).2).2).2).2).1, (gU (gU (gU (gU (gU (gU s).2).2).2).2).2).1, (gU (gU (gU (gU (gU (gU s).2).2).2).2).2).2⟩
theorem g6_put (a b c d e f : Nat) (R : List UInt8) (ha : a < 34359738368) (hb : b < 34359738368) (hc : c < 34359738368) (hd : d < 34359738368) (he : e < 34359738368) (hf : f < 34359738368) :
    g6 (Code.shorts [a, b, c, d, e, f] ++ R, false) = ⟨a, b, c, d, e, f, R, false⟩ := by
  have h : Code.shorts [a, b, c, d, e, f] ++ R = Code.short a ++ (Code.short b ++ (Code.short c ++ (Code.short d ++ (Code.short e ++ (Code.short f ++ R))))) := by simp [Code.shorts]
  unfold g6
  rw [h]
  simp only [gU_put a (by omega), gU_put b (by omega), gU_put c (by omega), gU_put d (by omega), gU_put e (by omega), gU_put f (by omega)]
theorem g6_ok {s : Rs} (h : (g6 s).s.2 = false) : s.2 = false ∧ s.1 = Code.shorts [(g6 s).a, (g6 s).b, (g6 s).c, (g6 s).d, (g6 s).e, (g6 s).f] ++ (g6 s).s.1 := by
  unfold g6 at *
  simp only at h ⊢
  obtain ⟨h6, e6, _⟩ := gU_ok h
  obtain ⟨h5, e5, _⟩ := gU_ok h6
  obtain ⟨h4, e4, _⟩ := gU_ok h5
  obtain ⟨h3, e3, _⟩ := gU_ok h4
  obtain ⟨h2, e2, _⟩ := gU_ok h3
  obtain ⟨h1, e1, _⟩ := gU_ok h2
  refine ⟨h1, ?_⟩
  generalize (gU (gU (gU (gU (gU (gU s).2).2).2).2).2) = s6 at *
  generalize (gU (gU (gU (gU (gU s).2).2).2).2) = s5 at *
  generalize (gU (gU (gU (gU s).2).2).2) = s4 at *
  generalize (gU (gU (gU s).2).2) = s3 at *
  generalize (gU (gU s).2) = s2 at *
  generalize gU s = s1 at *
  rw [e1, e2, e3, e4, e5, e6]
  simp [Code.shorts]

/-- what the program reads of the inner bytes -/
def rdK (m : List UInt8) : Nat × Rs := g8 (m, false)
def rdF (m : List UInt8) : Nat × Rs := g8 (rdK m).2
def rdT (m : List UInt8) : Nat × Rs := g8 (rdF m).2
def rd6 (m : List UInt8) : Six := g6 (rdT m).2
def rdB (m : List UInt8) : List UInt8 × Rs := if (rdK m).1 = 2 then gT (rd6 m).s else ([], (rd6 m).s)
def rdFr (m : List UInt8) : Fr := ⟨((rdK m).1 : Nat), ((rdF m).1 : Nat), ((rdT m).1 : Nat), (rd6 m).a, (rd6 m).b, (rd6 m).c, (rd6 m).d, (rd6 m).e, (rd6 m).f, (rdB m).1⟩
theorem ofNat_toNat_int (n : Nat) : ((n : Int)).toNat = n := by omega
theorem rd_ok {m : List UInt8} (h1 : rEnd (rdB m).2.1 (rdB m).2.2 = false) (h2 : (rdFr m).may = true) : m = (rdFr m).plain := by
  unfold rEnd at h1
  simp only [Bool.or_eq_false_iff, decide_eq_false_iff_not, Nat.not_lt] at h1
  obtain ⟨hb, hl⟩ := h1
  have hnil : (rdB m).2.1 = [] := List.eq_nil_of_length_eq_zero (by omega)
  have hk := Fr.kinds h2
  have ek : (rdFr m).kind = ((rdK m).1 : Nat) := rfl
  have eY : (rdFr m).body = (rdB m).1 := rfl
  have key : (rd6 m).s.2 = false ∧ (rd6 m).s.1 = (rdFr m).tail := by
    rcases hk with ⟨e, _⟩ | ⟨e, _, _⟩
    · have eB : rdB m = ([], (rd6 m).s) := if_neg (by omega)
      have eT : (rdFr m).tail = [] := if_neg (by omega)
      rw [eB] at hb hnil
      rw [eT]
      exact ⟨hb, hnil⟩
    · have eB : rdB m = gT (rd6 m).s := if_pos (by omega)
      have eT : (rdFr m).tail = Code.text (rdFr m).body := if_pos e
      rw [eB] at hb hnil
      obtain ⟨q1, q2, _⟩ := gT_ok hb
      rw [eT, eY, eB]
      exact ⟨q1, by rw [q2, hnil, List.append_nil]⟩
  obtain ⟨q1, q2⟩ := key
  obtain ⟨p1, p2⟩ := g6_ok q1
  obtain ⟨t1, t2, _⟩ := g8_ok (s := (rdF m).2) p1
  obtain ⟨f1, f2, _⟩ := g8_ok (s := (rdK m).2) t1
  obtain ⟨k1, k2, _⟩ := g8_ok (s := (m, false)) f1
  simp only at k2
  have e2 : (rdK m).2.1 = UInt8.ofNat (rdF m).1 :: (rdF m).2.1 := f2
  have e3 : (rdF m).2.1 = UInt8.ofNat (rdT m).1 :: (rdT m).2.1 := t2
  have e4 : (rdT m).2.1 = Code.shorts [(rd6 m).a, (rd6 m).b, (rd6 m).c, (rd6 m).d, (rd6 m).e, (rd6 m).f] ++ (rd6 m).s.1 := p2
  have e1 : m = UInt8.ofNat (rdK m).1 :: (rdK m).2.1 := k2
  have e5 : (rdFr m).plain = UInt8.ofNat (rdK m).1 :: UInt8.ofNat (rdF m).1 :: UInt8.ofNat (rdT m).1 :: (Code.shorts [(rd6 m).a, (rd6 m).b, (rd6 m).c, (rd6 m).d, (rd6 m).e, (rd6 m).f] ++ (rdFr m).tail) := rfl
  rw [e5, ← q2, ← e4, ← e3, ← e2]
  exact e1
theorem mid_nat {z : Int} (h0 : 1 ≤ z) (h1 : z ≤ 10) : ((z.toNat : Nat) : Int) = z ∧ z.toNat < 256 := by omega
theorem kind_nat {f : Fr} (h : f.may = true) : ((f.kind.toNat : Nat) : Int) = f.kind ∧ f.kind.toNat < 256 := by
  rcases Fr.kinds h with ⟨e, _⟩ | ⟨e, _⟩ <;> rw [e] <;> decide
/-- reading a frame's bytes -/
theorem rd_plain {f : Fr} (h : f.may = true) : rdFr f.plain = f ∧ (rdB f.plain).2 = ([], false) := by
  obtain ⟨⟨a1, a2⟩, ⟨b1, b2⟩, _, ⟨c1, c2, c3, c4, c5, c6⟩, _⟩ := Fr.may_iff h
  obtain ⟨n1, n2⟩ := kind_nat h
  obtain ⟨n3, n4⟩ := mid_nat a1 a2
  obtain ⟨n5, n6⟩ := mid_nat b1 b2
  have e1 : rdK f.plain = (f.kind.toNat, UInt8.ofNat f.fr.toNat :: UInt8.ofNat f.to.toNat :: (Code.shorts f.nums ++ f.tail), false) := by
    unfold rdK Fr.plain
    exact g8_put _ n2 _
  have e2 : rdF f.plain = (f.fr.toNat, UInt8.ofNat f.to.toNat :: (Code.shorts f.nums ++ f.tail), false) := by
    unfold rdF
    rw [e1]
    exact g8_put _ n4 _
  have e3 : rdT f.plain = (f.to.toNat, Code.shorts f.nums ++ f.tail, false) := by
    unfold rdT
    rw [e2]
    exact g8_put _ n6 _
  have e4 : rd6 f.plain = ⟨f.inc, f.conn, f.pinc, f.pconn, f.ack, f.seq, f.tail, false⟩ := by
    unfold rd6
    rw [e3]
    exact g6_put _ _ _ _ _ _ _ c1 c2 c3 c4 c5 c6
  have e5 : rdB f.plain = (f.body, [], false) := by
    unfold rdB Fr.tail at *
    rw [e1, e4]
    simp only
    rcases Fr.kinds h with ⟨e, e'⟩ | ⟨e, h3, h4⟩
    · rw [if_neg (by omega), if_neg (by omega), e']
    · rw [if_pos (by omega), if_pos e]
      have := gT_put f.body [] h4
      rwa [List.append_nil] at this
  refine ⟨?_, by rw [e5]⟩
  unfold rdFr
  rw [e1, e2, e3, e4, e5]
  obtain ⟨kind, fr, to, inc, conn, pinc, pconn, ack, seq, body⟩ := f
  simp only [Fr.mk.injEq, and_true] at n1 n3 n5 ⊢
  exact ⟨n1, n3, n5⟩
theorem plain_inj {f g : Fr} (hf : f.may = true) (hg : g.may = true) (h : f.plain = g.plain) : f = g := by
  rw [← (rd_plain hf).1, ← (rd_plain hg).1, h]
theorem sealed_inj {l m : List UInt8} (h : Crc.sealed l = Crc.sealed m) : l = m := by
  have h1 := Crc.opened_sealed l
  rw [h, Crc.opened_sealed] at h1
  exact (Option.some.inj h1).symm
theorem IsFr.inj {b : List UInt8} {f g : Fr} (h1 : IsFr b f) (h2 : IsFr b g) : f = g := plain_inj h1.1 h2.1 (sealed_inj (h1.2.symm.trans h2.2))
theorem opened_some {b m : List UInt8} (h : Crc.opened b = some m) : b = Crc.sealed m := by
  unfold Crc.opened at h
  split at h
  · rename_i h4
    injection h with h
    rw [← h]; exact h4.2.symm
  · cases h
theorem isFr_opened {b : List UInt8} {f : Fr} (h : IsFr b f) : Crc.opened b = some f.plain := by rw [h.2]; exact Crc.opened_sealed _
/-- what the program's reading answers -/
theorem isFr_rd {b m : List UInt8} (ho : Crc.opened b = some m) (f : Fr) : IsFr b f ↔ rEnd (rdB m).2.1 (rdB m).2.2 = false ∧ (rdFr m).may = true ∧ f = rdFr m := by
  constructor
  · intro h
    have e := isFr_opened h
    rw [ho] at e
    injection e with e
    subst e
    obtain ⟨h1, h2⟩ := rd_plain h.1
    rw [h1, h2]
    exact ⟨rfl, h.1, rfl⟩
  · rintro ⟨h1, h2, rfl⟩
    exact ⟨h2, by rw [← rd_ok h1 h2]; exact opened_some ho⟩

/-- what the document's reading reads -/
def rf6 (m : List UInt8) : Six := g6 (m.drop 3, false)
def rfB (m : List UInt8) : List UInt8 × Rs := if 0 < (rf6 m).s.1.length then gT (rf6 m).s else ([], (rf6 m).s)
def rfFr (m : List UInt8) : Fr := ⟨((m.getD 0 0).toNat : Nat), ((m.getD 1 0).toNat : Nat), ((m.getD 2 0).toNat : Nat), (rf6 m).a, (rf6 m).b, (rf6 m).c, (rf6 m).d, (rf6 m).e, (rf6 m).f, (rfB m).1⟩
theorem rf_plain {f : Fr} (h : f.may = true) : rfFr f.plain = f ∧ (rfB f.plain).2.2 = false ∧ 3 ≤ f.plain.length := by
  obtain ⟨⟨a1, a2⟩, ⟨b1, b2⟩, _, ⟨c1, c2, c3, c4, c5, c6⟩, _⟩ := Fr.may_iff h
  obtain ⟨n1, n2⟩ := kind_nat h
  obtain ⟨n3, n4⟩ := mid_nat a1 a2
  obtain ⟨n5, n6⟩ := mid_nat b1 b2
  have e0 : f.plain = UInt8.ofNat f.kind.toNat :: UInt8.ofNat f.fr.toNat :: UInt8.ofNat f.to.toNat :: (Code.shorts f.nums ++ f.tail) := rfl
  have e4 : rf6 f.plain = ⟨f.inc, f.conn, f.pinc, f.pconn, f.ack, f.seq, f.tail, false⟩ := by
    unfold rf6
    rw [e0]
    exact g6_put _ _ _ _ _ _ _ c1 c2 c3 c4 c5 c6
  have e5 : rfB f.plain = (f.body, [], false) := by
    unfold rfB
    rw [e4]
    simp only
    rcases Fr.kinds h with ⟨e, e'⟩ | ⟨e, h3, h4⟩
    · have eT : f.tail = [] := if_neg (by omega)
      rw [eT, if_neg (by simp), e']
    · have eT : f.tail = Code.text f.body := if_pos e
      have hlen : 0 < (Code.text f.body).length := by unfold Code.text; rw [List.length_append]; omega
      rw [eT, if_pos hlen]
      have := gT_put f.body [] h4
      rwa [List.append_nil] at this
  refine ⟨?_, by rw [e5], by rw [e0]; simp⟩
  unfold rfFr
  rw [e4, e5, e0]
  obtain ⟨kind, fr, to, inc, conn, pinc, pconn, ack, seq, body⟩ := f
  simp only [Fr.mk.injEq, and_true, List.getD_cons_zero, List.getD_cons_succ, UInt8.toNat_ofNat'] at n1 n2 n3 n4 n5 n6 ⊢
  omega
theorem isFr_rf {b m : List UInt8} (ho : Crc.opened b = some m) (f : Fr) : IsFr b f ↔ 3 ≤ m.length ∧ (rfB m).2.2 = false ∧ (rfFr m).may = true ∧ Crc.sealed (rfFr m).plain = b ∧ f = rfFr m := by
  constructor
  · intro h
    have e := isFr_opened h
    rw [ho] at e
    injection e with e
    subst e
    obtain ⟨h1, h2, h3⟩ := rf_plain h.1
    rw [h1, h2]
    exact ⟨h3, rfl, h.1, h.2.symm, rfl⟩
  · rintro ⟨h0, h1, h2, h3, rfl⟩
    exact ⟨h2, h3.symm⟩
end Go.Proofs.YtcjafbpgjlcdpaaDoor
