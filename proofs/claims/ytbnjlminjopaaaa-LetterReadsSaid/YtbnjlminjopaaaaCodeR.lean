/- The walks of package code's Reader. -/
import Derived.Test.YtbnjlminjopaaaaCodeW3
import Derived.Test.YtbnjlminjopaaaaCodeNum
namespace Go.Proofs.Ytbnjlminjopaaaa
open Go Go.RowKit
set_option linter.unusedVariables false
set_option maxRecDepth 100000

/-- the cells at A: xs, in the block rb -/
def HasIn (w : World) (rb : Nat) (A : Option Addr) (xs : List Value) : Prop :=
  ∀ (j : Nat) (u : Value), xs[j]? = some u → ∃ o : Nat, A = some ⟨rb, o, none⟩ ∧ w.cell? ⟨rb, o + j, none⟩ = some u
theorem HasIn.has {w : World} {rb : Nat} {A : Option Addr} {xs : List Value} (h : HasIn w rb A xs) : Has w w.heap.size A xs := fun j u hu => by
  obtain ⟨o, e, hc⟩ := h j u hu
  exact ⟨rb, o, e, World.block_lt_of_cell? w _ hc, hc⟩
theorem HasIn.nil {w : World} {rb : Nat} {A : Option Addr} : HasIn w rb A [] := fun j u hu => by simp at hu
theorem HasIn.take {w : World} {rb : Nat} {A : Option Addr} {xs : List Value} (h : HasIn w rb A xs) (k : Nat) : HasIn w rb A (xs.take k) := fun j u hu => h j u (by
  rw [List.getElem?_take] at hu
  split at hu
  · exact hu
  · cases hu)
theorem HasIn.drop {w : World} {rb : Nat} {A : Option Addr} {xs : List Value} (h : HasIn w rb A xs) (k cap : Nat) (hc : xs.length ≤ cap) : HasIn w rb (if cap = k then A else A.map (·.add k)) (xs.drop k) := fun j u hu => by
  rw [List.getElem?_drop] at hu
  have hl : k + j < xs.length := by
    rcases Nat.lt_or_ge (k + j) xs.length with hlt | hge
    · exact hlt
    · rw [List.getElem?_eq_none hge] at hu; cases hu
  obtain ⟨o, rfl, hcell⟩ := h _ u hu
  rw [if_neg (by omega)]
  exact ⟨o + k, by simp [add_mk], by rw [Nat.add_assoc]; exact hcell⟩
theorem HasIn.keep {w w' : World} {rb : Nat} {A : Option Addr} {xs : List Value} (h : HasIn w rb A xs) (hb : 0 < xs.length → w'.heap[rb]? = w.heap[rb]?) : HasIn w' rb A xs := fun j u hu => by
  obtain ⟨o, e, hc⟩ := h j u hu
  have hl : 0 < xs.length := by
    rcases Nat.eq_zero_or_pos xs.length with h0 | h0
    · rw [List.eq_nil_of_length_eq_zero h0] at hu; simp at hu
    · exact h0
  exact ⟨o, e, by rw [World.cell?_of_block (w := w) (hb hl)]; exact hc⟩

/-- A READER: its struct is block g; what is left lies in block rb -/
def Rdr (w : World) (g rb : Nat) (l : List UInt8) (bad : Bool) : Prop :=
  ∃ A c, w.heap[g]? = some (.cells #[.slice A l.length c, .bool bad] 88 (0, 0)) ∧ l.length ≤ c ∧ c ≤ maxLen ∧ HasIn w rb A (us l)
theorem Rdr.lt {w : World} {g rb : Nat} {l : List UInt8} {bad : Bool} (h : Rdr w g rb l bad) : g < w.heap.size := by
  obtain ⟨A, c, h1, _⟩ := h
  rcases Nat.lt_or_ge g w.heap.size with hlt | hge
  · exact hlt
  · rw [Array.getElem?_eq_none hge] at h1; cases h1
/-- the row is another block than the struct -/
theorem Rdr.ne {w : World} {g rb : Nat} {A : Option Addr} {x y : Value} {l : List UInt8} {t : TypeId} (h1 : w.heap[g]? = some (.cells #[x, y] t (0, 0))) (hx : ∀ k n, x ≠ .int k n) (hy : ∀ k n, y ≠ .int k n) (h : HasIn w rb A (us l)) (hl : 0 < (us l).length) : rb ≠ g := by
  intro e
  subst e
  obtain ⟨o, _, hc⟩ := h 0 _ (List.getElem?_eq_getElem hl)
  rw [cell_of_row w rb _ _ _ _ h1] at hc
  have hu : (us l)[0] = .int .u8 ((l[0]'(by rwa [us_length] at hl)).toNat : Int) := by simp [us]
  rw [hu] at hc
  match h0 : o + 0, hc with
  | 0, hc => simp at hc; exact hx _ _ hc
  | 1, hc => simp at hc; exact hy _ _ hc
  | n + 2, hc => simp at hc
theorem Rdr.keep {w w' : World} {g rb g2 : Nat} {r2 : Option Nat} {l : List UInt8} {bad : Bool} (h : Rdr w g rb l bad) (hc : Chg w w' g2 r2) (h1 : g ≠ g2) (h2 : some g ≠ r2) (h3 : 0 < l.length → rb ≠ g2) (h4 : 0 < l.length → some rb ≠ r2) : Rdr w' g rb l bad := by
  have hlt := h.lt
  obtain ⟨A, c, e1, e2, e3, e4⟩ := h
  refine ⟨A, c, by rw [hc.block g hlt h1 h2]; exact e1, e2, e3, e4.keep fun hl => ?_⟩
  obtain ⟨o, _, hcl⟩ := e4 0 _ (List.getElem?_eq_getElem hl)
  rw [us_length] at hl
  exact hc.block rb (World.block_lt_of_cell? w _ hcl) (h3 hl) (h4 hl)
theorem Rdr.row_lt {w : World} {g rb : Nat} {l : List UInt8} {bad : Bool} (h : Rdr w g rb l bad) (hl : 0 < l.length) : rb < w.heap.size := by
  obtain ⟨A, c, e1, e2, e3, e4⟩ := h
  obtain ⟨o, _, hcl⟩ := e4 0 _ (List.getElem?_eq_getElem (show 0 < (us l).length by rw [us_length]; exact hl))
  exact World.block_lt_of_cell? w _ hcl
theorem Rdr.grow {w w' : World} {g rb : Nat} {l : List UInt8} {bad : Bool} (h : Rdr w g rb l bad) (hb : Below w.heap.size w w') : Rdr w' g rb l bad := by
  have hlt := h.lt
  obtain ⟨A, c, e1, e2, e3, e4⟩ := h
  refine ⟨A, c, by rw [hb.block g hlt]; exact e1, e2, e3, e4.keep fun hl => ?_⟩
  obtain ⟨o, _, hcl⟩ := e4 0 _ (List.getElem?_eq_getElem hl)
  exact hb.block rb (World.block_lt_of_cell? w _ hcl)
theorem chg_set (w : World) (g o : Nat) (v : Value) : Chg w (w.setCell ⟨g, o, none⟩ v) g none :=
  ⟨rfl, rfl, rfl, by simp [World.setCell], fun k hk h1 _ => Below.heap_setCell w ⟨g, o, none⟩ v k h1⟩
/-- its two cells are written -/
theorem Rdr.setBad {w : World} {g rb : Nat} {l : List UInt8} {bad : Bool} (h : Rdr w g rb l bad) (b : Bool) : Rdr (w.setCell ⟨g, 1, none⟩ (.bool b)) g rb l b := by
  obtain ⟨A, c, e1, e2, e3, e4⟩ := h
  refine ⟨A, c, by simp [World.setCell, Array.getElem?_modify, e1], e2, e3, e4.keep fun hl => ?_⟩
  exact Below.heap_setCell w _ _ rb (Rdr.ne e1 (fun _ _ => by simp) (fun _ _ => by simp) e4 hl)
theorem Rdr.setLeft {w : World} {g rb : Nat} {l : List UInt8} {bad : Bool} (h : Rdr w g rb l bad) {A' : Option Addr} {c' : Nat} {l' : List UInt8} (h1 : l'.length ≤ c') (h2 : c' ≤ maxLen) (h3 : HasIn w rb A' (us l')) : Rdr (w.setCell ⟨g, 0, none⟩ (.slice A' l'.length c')) g rb l' bad := by
  obtain ⟨A, c, e1, e2, e3, e4⟩ := h
  refine ⟨A', c', by simp [World.setCell, Array.getElem?_modify, e1], h1, h2, h3.keep fun hl => ?_⟩
  exact Below.heap_setCell w _ _ rb (Rdr.ne e1 (fun _ _ => by simp) (fun _ _ => by simp) h3 hl)
/-- what the walks ask of it -/
theorem Rdr.parts {w : World} {g rb : Nat} {l : List UInt8} {bad : Bool} (h : Rdr w g rb l bad) : ∃ A c, w.cell? ⟨g, 0, none⟩ = some (.slice A l.length c) ∧ w.cell? ⟨g, 1, none⟩ = some (.bool bad) ∧ w.frozen? ⟨g, 0, none⟩ = false ∧ w.frozen? ⟨g, 1, none⟩ = false ∧ l.length ≤ c ∧ c ≤ maxLen ∧ HasIn w rb A (us l) := by
  obtain ⟨A, c, e1, e2, e3, e4⟩ := h
  exact ⟨A, c, by rw [cell_of_row w g 0 _ _ _ e1]; rfl, by rw [cell_of_row w g 1 _ _ _ e1]; rfl, by simp [World.frozen?, e1], by simp [World.frozen?, e1], e2, e3, e4⟩

set_option maxHeartbeats 400000 in
theorem newReader_any (w : World) (B : Nat) (A : Option Addr) (c : Nat) (l : List UInt8) (h : Has w B A (us l)) (hB : B ≤ w.heap.size) (hl : l.length ≤ 1000000000) :
    Calls Try.prog 39 #[.slice A l.length c] w fun e w' => ∃ g rb, e = .returned (.pointer (some ⟨g, 0, none⟩)) ∧ w.heap.size ≤ g ∧ w.heap.size ≤ rb ∧ Rdr w' g rb l false ∧ Below w.heap.size w w' := by
  go_enter Try.func39, Try.ntmps39
  go_wp2_with fail
  refine (clone_any w B A c l h hB hl).mono ?_
  rintro e w1 ⟨v1, rfl, ho1, hb1⟩
  obtain ⟨A1, c1, rfl, hc1, hm1, h1⟩ := ho1.form
  have HI : ∃ rb, w.heap.size ≤ rb ∧ HasIn w1 rb A1 (us l) := by
    rcases ho1.2 with ⟨_, hn⟩ | ⟨g, cap, cur, hv, hg, hh, _⟩
    · refine ⟨w.heap.size, Nat.le_refl _, ?_⟩
      rw [List.eq_nil_of_length_eq_zero hn]
      exact HasIn.nil
    · injection hv with hA _ _
      subst hA
      refine ⟨g, hg, fun j u hu => ?_⟩
      obtain ⟨b, o, e, _, hc⟩ := h1 j u hu
      injection e with e
      injection e with e1 e2
      subst e1 e2
      exact ⟨0, rfl, hc⟩
  obtain ⟨rb, hrb, hin⟩ := HI
  have HIN := Lib.hid hin
  clear ho1 h1 hin
  go_wp2
  go_ret
  refine ⟨_, rb, rfl, hb1.size, hrb, ⟨A1, c1, heap_alloc_new w1 _, hc1, hm1, HIN.out.keep fun hl => ?_⟩, hb1.alloc hb1.size _⟩
  obtain ⟨o, _, hcl⟩ := HIN.out 0 _ (List.getElem?_eq_getElem hl)
  exact Below.heap_alloc w1 _ rb (World.block_lt_of_cell? w1 _ hcl)

/-- what 'take' answers -/
def Takes (w : World) (g rb : Nat) (l : List UInt8) (n : Nat) (e : Ending) (w' : World) : Prop :=
  ∃ A, e = .returned (.slice A n n) ∧ HasIn w' rb A (us (l.take n)) ∧ Rdr w' g rb (l.drop n) false ∧ Chg w w' g none ∧ w'.heap.size = w.heap.size

set_option maxHeartbeats 400000 in
theorem take_yes (w : World) (g rb : Nat) (l : List UInt8) (n : Nat) (hR : Rdr w g rb l false) (hn : n ≤ l.length) (hl : l.length ≤ 1000000000) :
    Calls Try.prog 58 #[.pointer (some ⟨g, 0, none⟩), .int .i64 n] w (Takes w g rb l n) := by
  have HR := Lib.hid hR
  obtain ⟨A, c, h0, h1, f0, f1, hc, hm, hin⟩ := hR.parts
  have HIN := Lib.hid hin
  clear hR hin
  have i1 : (0 : Int) ≤ (n : Int) := by omega
  have i2 : (n : Int) ≤ (c : Int) := by omega
  have i3 : (n : Int) ≤ (l.length : Int) := by omega
  have e1 : (l.drop n).length = l.length - n := by simp
  have HW := Lib.hid (show Rdr (w.setCell ⟨g, 0, none⟩ (.slice (if c = n then A else A.map (·.add n)) (l.length - n) (c - n))) g rb (l.drop n) false by
    have := HR.out.setLeft (A' := if c = n then A else A.map (·.add n)) (c' := c - n) (l' := l.drop n) (by rw [e1]; omega) (by omega) (by rw [us_drop]; exact HIN.out.drop n c (by rw [us_length]; exact hc))
    rwa [e1] at this)
  have HT := Lib.hid (show ∀ v, HasIn (w.setCell ⟨g, 0, none⟩ v) rb A (us (l.take n)) from fun v => by
    rw [us_take]
    refine (HIN.out.take n).keep fun hl => ?_
    obtain ⟨A2, c2, e2, _⟩ := HR.out
    exact Below.heap_setCell w _ _ rb (Rdr.ne e2 (fun _ _ => by simp) (fun _ _ => by simp) HIN.out (by rw [List.length_take] at hl; omega)))
  clear e1
  go_enter Try.func58, Try.ntmps58
  go_wp2
  · have hcn : c = n := by assumption
    go_ret
    refine ⟨A, rfl, HT.out _, ?_, chg_set _ _ _ _, by simp [World.setCell]⟩
    have := HW.out
    rw [if_pos hcn, hcn, Nat.sub_self] at this
    exact this
  · have hcn : ¬ c = n := by assumption
    go_ret
    refine ⟨A, rfl, HT.out _, ?_, chg_set _ _ _ _, by simp [World.setCell]⟩
    have := HW.out
    rw [if_neg hcn] at this
    exact this

set_option maxHeartbeats 400000 in
theorem take_no (w : World) (g rb : Nat) (l : List UInt8) (bad : Bool) (z : Int) (hR : Rdr w g rb l bad) (hz : bad = true ∨ z < 0 ∨ (l.length : Int) < z) :
    Calls Try.prog 58 #[.pointer (some ⟨g, 0, none⟩), .int .i64 z] w fun e w' => e = .returned (.slice none 0 0) ∧ Rdr w' g rb l true ∧ Chg w w' g none ∧ w'.heap.size = w.heap.size := by
  have HR := Lib.hid hR
  obtain ⟨A, c, h0, h1, f0, f1, hc, hm, hin⟩ := hR.parts
  clear hR hin
  cases bad with
  | true =>
    clear hz
    go_enter Try.func58, Try.ntmps58
    go_wp2
    go_ret
    exact ⟨rfl, HR.out.setBad true, chg_set _ _ _ _, by simp [World.setCell]⟩
  | false =>
    have hz' : z < 0 ∨ (l.length : Int) < z := by simpa using hz
    clear hz
    by_cases h2 : z < 0
    · clear hz'
      go_enter Try.func58, Try.ntmps58
      go_wp2
      go_ret
      exact ⟨rfl, HR.out.setBad true, chg_set _ _ _ _, by simp [World.setCell]⟩
    · have h3 : (l.length : Int) < z := by omega
      clear hz'
      go_enter Try.func58, Try.ntmps58
      go_wp2
      go_ret
      exact ⟨rfl, HR.out.setBad true, chg_set _ _ _ _, by simp [World.setCell]⟩

/-- a number's answer -/
def numAns (bad : Bool) (l : List UInt8) : Nat × Nat := if bad then (0, 0) else match Code.num l with
  | none => (0, 0)
  | some p => p

theorem and_127 (c : UInt8) : bits .and .u8 (c.toNat : Int) 127 = ((c.toNat % 128 : Nat) : Int) := by
  have := c.toNat_lt
  rw [show (127 : Int) = ((127 : Nat) : Int) from rfl, u8_and_nat _ _ (by omega) (by omega), nat_mask7]
theorem pow_le9 (k : Nat) (hk : k ≤ 9) : 128 ^ k ≤ 9223372036854775808 := by
  have h1 : 128 ^ k ≤ 128 ^ 9 := Nat.pow_le_pow_right (by omega) hk
  have h2 : (128 : Nat) ^ 9 = 9223372036854775808 := by decide
  omega
theorem or_group (x d k : Nat) (hx : x < 128 ^ k) (hk : k ≤ 9) (hd : d < 128) (h9 : k = 9 → d ≤ 1) :
    bits .or .u64 (x : Int) (IntKind.u64.wrap ((d : Int) * 2 ^ (7 * k))) = ((x + d * 128 ^ k : Nat) : Int) ∧ x + d * 128 ^ k < 18446744073709551616 := by
  have hp := pow_le9 k hk
  have e2 : (2 : Nat) ^ (7 * k) = 128 ^ k := by rw [Nat.pow_mul]
  have hm : d * 128 ^ k ≤ 18446744073709551616 - 128 ^ k := by
    rcases Nat.lt_or_ge k 9 with h | h
    · have h3 : 128 ^ k ≤ 128 ^ 8 := Nat.pow_le_pow_right (by omega) (by omega)
      have h4 : (128 : Nat) ^ 8 = 72057594037927936 := by decide
      have h5 : d * 128 ^ k ≤ 127 * 128 ^ k := Nat.mul_le_mul_right _ (by omega)
      omega
    · have h5 : d * 128 ^ k ≤ 1 * 128 ^ k := Nat.mul_le_mul_right _ (by have := h9 (by omega); omega)
      omega
  have e3 : IntKind.u64.wrap ((d : Int) * 2 ^ (7 * k)) = ((d * 128 ^ k : Nat) : Int) := by
    have e4 : ((d : Int) * 2 ^ (7 * k)) = ((d * 128 ^ k : Nat) : Int) := by rw [← e2]; simp
    rw [e4, IntKind.wrap_u64]
    omega
  refine ⟨?_, by omega⟩
  rw [e3, u64_or_nat _ _ (by omega) (by omega), Nat.or_comm]
  congr 1
  have e5 := nat_join (7 * k) (d * 128 ^ k) x (by rw [e2]; exact Nat.mul_mod_left _ _) (by rw [e2]; exact hx)
  rw [e5]; omega

/-- how the reading goes on -/
def goesOn (l : List UInt8) (k x : Nat) : Prop := Code.num l = (Code.numF k (l.drop k)).map fun p => (x + 128 ^ k * p.1, k + p.2)

set_option maxHeartbeats 800000 in
theorem number_any (w : World) (g rb : Nat) (l : List UInt8) (bad : Bool) (hR : Rdr w g rb l bad) (hl : l.length ≤ 1000000000) :
    Calls Try.prog 57 #[.pointer (some ⟨g, 0, none⟩)] w fun e w' => e = .returned (.tuple #[.int .u64 (numAns bad l).1, .int .i64 (numAns bad l).2]) ∧ w = w' := by
  obtain ⟨A, c, h0, h1, f0, f1, hc, hm, hin⟩ := hR.parts
  have HIN := Lib.hid hin
  clear hR hin
  cases bad with
  | true =>
    go_enter Try.func57, Try.ntmps57
    go_wp2
    go_ret2
    exact ⟨rfl, rfl⟩
  | false =>
    have HN := Lib.hid (show numAns false l = match Code.num l with | none => (0, 0) | some p => p from rfl)
    generalize numAns false l = ans at *
    go_enter Try.func57, Try.ntmps57
    go_wp2
    go_loop [4, 16] (fun xv iv => ∃ (k x : Nat), k ≤ l.length ∧ k ≤ 9 ∧ iv = .int .i64 k ∧ xv = .int .u64 x ∧ Hid (x < 128 ^ k) ∧ Hid (goesOn l k x)) (fun _ iv => l.length - (intOf iv).toNat)
    case atStart => exact ⟨0, 0, Nat.zero_le _, by omega, rfl, rfl, Lib.hid (by simp), Lib.hid (by unfold goesOn Code.num; cases h : Code.numF 0 l <;> simp [h])⟩
    case round =>
      obtain ⟨k, x, hk, hk9, rfl, rfl, HX, HG⟩ := hrel
      by_cases hkt : k < l.length
      · obtain ⟨o, hA, hcell0⟩ := HIN.out k _ (us_at hkt)
        subst hA
        have hcell := hcell0
        clear hcell0
        have HD := Lib.hid (show l.drop k = l[k] :: l.drop (k + 1) from List.drop_eq_getElem_cons hkt)
        have hbt := l[k].toNat_lt
        have ea := and_127 l[k]
        generalize l[k] = ch at *
        have HG2 := Lib.hid (show Code.num l = ((Code.numF k (ch :: l.drop (k + 1))).map fun p => (x + 128 ^ k * p.1, k + p.2)) by have := HG.out; unfold goesOn at this; rw [HD.out] at this; exact this)
        by_cases h91 : k = 9 ∧ 1 < ch.toNat
        · have HZ := Lib.hid (show ans = (0, 0) by
            rw [HN.out, HG2.out, Code.numF, if_pos h91]; rfl)
          obtain ⟨rfl, h1c⟩ := h91
          clear ea
          go_wp2
          go_ret2
          exact ⟨by rw [HZ.out]; rfl, rfl⟩
        · have h9' : k = 9 → ch.toNat ≤ 1 := fun e => by omega
          obtain ⟨d, hd⟩ : ∃ d, ch.toNat % 128 = d := ⟨_, rfl⟩
          have hd128 : d < 128 := by omega
          obtain ⟨eo, HO⟩ := or_group x d k HX.out hk9 hd128 (fun e => by have := h9' e; omega)
          have HB := Lib.hid HO
          have HDd := Lib.hid hd
          rw [hd] at ea
          obtain ⟨x', HX'⟩ : ∃ x', Hid (x + d * 128 ^ k = x') := ⟨_, Lib.hid rfl⟩
          rw [HX'.out] at eo HB
          clear HO hd h91
          have key : ch.toNat < 128 → ¬ (ch.toNat = 0 ∧ 0 < k) → ans = (x', k + 1) := fun h128 hn0 => by
            rw [HN.out, HG2.out, Code.numF, if_neg (fun e => by have := h9' e.1; omega), if_pos h128, if_neg hn0]
            simp only [Option.map_some]
            have : d = ch.toNat := by have := HDd.out; omega
            rw [← HX'.out, this, Nat.mul_comm]
          have HK := Lib.hid key
          have keyz : ch.toNat = 0 → 0 < k → ans = (0, 0) := fun h128 hn0 => by
            rw [HN.out, HG2.out, Code.numF, if_neg (fun e => by have := h9' e.1; omega), if_pos (by omega), if_pos ⟨h128, hn0⟩]; rfl
          have HKZ := Lib.hid keyz
          clear key keyz
          by_cases hlt : ch.toNat < 128
          · by_cases hk9' : k = 9
            · have e9 : ((k : Int) == 9) = true := beq_iff_eq.2 (by omega)
              have hc1 : ch.toNat ≤ 1 := h9' hk9'
              have hkp : 0 < k := by omega
              clear h9' hk9'
              by_cases h00 : ch.toNat = 0
              · have ec : ((ch.toNat : Int) == 0) = true := beq_iff_eq.2 (by omega)
                have HZ := Lib.hid (HKZ.out h00 hkp)
                clear h00
                go_wp2
                go_ret2
                exact ⟨by rw [HZ.out]; rfl, rfl⟩
              · have ec : ((ch.toNat : Int) == 0) = false := beq_eq_false_iff_ne.2 (by omega)
                have HZ := Lib.hid (HK.out hlt (fun e => h00 e.1))
                clear h00
                go_wp2
                go_ret2
                exact ⟨by rw [HZ.out]; rfl, rfl⟩
            · have e9 : ((k : Int) == 9) = false := beq_eq_false_iff_ne.2 (by omega)
              clear h9' hk9'
              by_cases h00 : ch.toNat = 0
              · have ec : ((ch.toNat : Int) == 0) = true := beq_iff_eq.2 (by omega)
                by_cases hkp : 0 < k
                · have HZ := Lib.hid (HKZ.out h00 hkp)
                  clear h00
                  go_wp2
                  go_ret2
                  exact ⟨by rw [HZ.out]; rfl, rfl⟩
                · have HZ := Lib.hid (HK.out hlt (fun e => hkp e.2))
                  clear h00
                  go_wp2
                  go_ret2
                  exact ⟨by rw [HZ.out]; rfl, rfl⟩
              · have ec : ((ch.toNat : Int) == 0) = false := beq_eq_false_iff_ne.2 (by omega)
                have HZ := Lib.hid (HK.out hlt (fun e => h00 e.1))
                clear h00
                go_wp2
                go_ret2
                exact ⟨by rw [HZ.out]; rfl, rfl⟩
          · have hk8 : k < 9 := by
              rcases Nat.lt_or_ge k 9 with h | h
              · exact h
              · have := h9' (by omega); omega
            have e9 : ((k : Int) == 9) = false := beq_eq_false_iff_ne.2 (by omega)
            have HN2 := Lib.hid (show goesOn l (k + 1) x' by
              have h5 := HG2.out
              unfold goesOn
              rw [Code.numF, if_neg (fun e => by have := h9' e.1; omega), if_neg hlt] at h5
              rw [h5]
              cases Code.numF (k + 1) (l.drop (k + 1)) with
              | none => rfl
              | some p =>
                obtain ⟨y, n⟩ := p
                simp only [Option.map_some, Option.some.injEq, Prod.mk.injEq]
                have e6 := HDd.out
                refine ⟨?_, by omega⟩
                rw [← HX'.out, e6, Nat.mul_add, Nat.pow_succ, Nat.mul_comm d, Nat.mul_assoc, Nat.add_assoc])
            have HX2 := Lib.hid (show x' < 128 ^ (k + 1) by
              have h6 := HX.out
              rw [← HX'.out, Nat.pow_succ]
              have h7 : d * 128 ^ k ≤ 127 * 128 ^ k := Nat.mul_le_mul_right _ (by omega)
              omega)
            clear h9'
            go_wp2
            go_round
            case rel => exact ⟨k + 1, x', by omega, by omega, by go_num, rfl, HX2, HN2⟩
            case measure => simp [intOf]; omega
      · have HZ := Lib.hid (show ans = (0, 0) by
          have h5 := HG.out
          unfold goesOn at h5
          rw [List.drop_of_length_le (by omega)] at h5
          rw [HN.out, h5]; rfl)
        go_wp2
        go_ret2
        exact ⟨by rw [HZ.out]; rfl, rfl⟩
end Go.Proofs.Ytbnjlminjopaaaa
