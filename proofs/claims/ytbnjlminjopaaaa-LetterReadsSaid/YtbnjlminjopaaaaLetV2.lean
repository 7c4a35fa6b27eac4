/- The walk of the document's reader of layer 3: a number. -/
import Derived.Test.YtbnjlminjopaaaaLetV
namespace Go.Proofs.Ytbnjlminjopaaaa
open Go Go.RowKit
set_option linter.unusedVariables false
set_option maxRecDepth 100000

/-- alike, or both at fault -/
def St (a b : Rs) : Prop := b.2 = a.2 ∧ (a.2 = false → b = a)
/-- the reader stands so, or is at fault as that one is -/
def RiTo (w0 : World) (Ps : List SP) (i g : Nat) (a : Rs) (w' : World) : Prop := ∃ s', St a s' ∧ Sep w0 w' (Ps.set i (Ri w0 g s'))
theorem St.refl (a : Rs) : St a a := ⟨rfl, fun _ => rfl⟩
theorem St.fault (l : List UInt8) {a : Rs} (h : a.2 = true) : St a (l, true) := ⟨h.symm, fun e => by rw [h] at e; cases e⟩
theorem gU_bad (l : List UInt8) : gU (l, true) = (0, l, true) := rfl
theorem gU_none {l : List UInt8} (h : Code.num l = none) : gU (l, false) = (0, l, true) := by
  unfold gU rUint
  simp [h]
theorem gU_some {l : List UInt8} {x n : Nat} (h : Code.num l = some (x, n)) : gU (l, false) = (x, l.drop n, false) := by
  unfold gU rUint
  simp [h]
theorem wrap_add (x y : Nat) (h : x + y < 18446744073709551616) : IntKind.u64.wrap ((x : Int) + (y : Int)) = ((x + y : Nat) : Int) := by rw [IntKind.wrap_u64]; omega
theorem shl_group (x d k : Nat) (hx : x < 128 ^ k) (hk : k ≤ 9) (hd : d < 128) (h9 : k = 9 → d ≤ 1) :
    IntKind.u64.wrap ((d : Int) * 2 ^ (7 * k)) = ((d * 128 ^ k : Nat) : Int) ∧ x + d * 128 ^ k < 18446744073709551616 := by
  obtain ⟨_, h2⟩ := or_group x d k hx hk hd h9
  refine ⟨?_, h2⟩
  have e2 : (2 : Nat) ^ (7 * k) = 128 ^ k := by rw [Nat.pow_mul]
  have e4 : ((d : Int) * 2 ^ (7 * k)) = ((d * 128 ^ k : Nat) : Int) := by rw [← e2]; simp
  rw [e4, IntKind.wrap_u64]
  omega
set_option maxHeartbeats 1600000 in
theorem sep_iU {w0 w : World} {Ps : List SP} {i g : Nat} {s : Rs} (h : Sep w0 w Ps) (hi : Ps[i]? = some (Ri w0 g s)) :
    Calls Try.prog 51 #[.pointer (some ⟨g, 0, none⟩)] w fun e w' => e = .returned (.int .u64 ((gU s).1 : Int)) ∧ RiTo w0 Ps i g (gU s).2 w' := by
  have hlt := (List.getElem?_eq_some_iff.1 hi).1
  obtain ⟨l, bad⟩ := s
  have HS := Lib.hid (show Sep w0 w (Ps.set i (Ri w0 g (l.drop 0, bad))) by
    have e : Ps.set i (Ri w0 g (l, bad)) = Ps := by
      apply List.ext_getElem?
      intro n
      by_cases hn : n = i
      · subst hn
        rw [List.getElem?_set_self hlt, hi]
      · rw [List.getElem?_set_ne (fun e => hn e.symm)]
    rw [List.drop_zero, e]
    exact h)
  have HL := Lib.hid hlt
  clear h hi hlt
  go_enter Try.func51, Try.ntmps51
  go_wp2_with fail
  go_loopw [3, 4] (fun xv iv wr => ∃ (k x : Nat), k ≤ 9 ∧ iv = .int .i64 (k : Int) ∧ xv = .int .u64 (x : Int) ∧ Hid (x < 128 ^ k) ∧ Hid (goesOn l k x) ∧ (bad = true → k = 0) ∧ Hid (Sep w0 wr (Ps.set i (Ri w0 g (l.drop k, bad))))) (fun _ iv _ => 10 - (intOf iv).toNat)
  case atStart => exact ⟨0, 0, by omega, rfl, rfl, Lib.hid (by simp), Lib.hid (by unfold goesOn Code.num; cases h : Code.numF 0 l <;> simp [h]), fun _ => rfl, HS⟩
  case round =>
    obtain ⟨k, x, hk9, rfl, rfl, HX, HG, hbad, HR⟩ := hrel
    go_wp2_with fail
    refine (sep_i8 HR.out (List.getElem?_set_self HL.out)).mono ?_
    rintro e w2 ⟨rfl, hs2⟩
    rw [List.set_set] at hs2
    by_cases hf : bad = true ∨ l.drop k = []
    · have HF := Lib.hid (g8_fault (l.drop k) bad hf)
      rw [HF.out] at hs2 ⊢
      have HS2 := Lib.hid hs2
      have HZ : Hid ((gU (l, bad)).1 = 0 ∧ (gU (l, bad)).2.2 = true) := Lib.hid (by
        rcases hf with hf | hf
        · rw [hf]; exact ⟨rfl, rfl⟩
        · cases bad
          · rw [gU_none (by have := HG.out; unfold goesOn at this; rw [hf] at this; simpa [Code.numF] using this)]; exact ⟨rfl, rfl⟩
          · exact ⟨rfl, rfl⟩)
      obtain ⟨A2, c2, _, k1, _, _, _, _, _⟩ := sep_riAt HS2.out (List.getElem?_set_self HL.out)
      clear hs2 hf HR
      go_wp2_with fail
      go_ret
      exact ⟨by rw [HZ.out.1]; rfl, _, St.fault _ HZ.out.2, HS2.out⟩
    · have hb : bad = false := by cases bad <;> simp_all
      subst hb
      obtain ⟨ch, r, hd⟩ : ∃ ch r, l.drop k = ch :: r := by
        cases h : l.drop k with
        | nil => exact (hf (.inr h)).elim
        | cons a b => exact ⟨a, b, rfl⟩
      have HR1 : Hid (r = l.drop (k + 1)) := Lib.hid (by rw [← List.drop_drop, hd]; rfl)
      rw [hd, g8_cons] at hs2
      rw [hd, g8_cons]
      simp only at hs2 ⊢
      have HS2 := Lib.hid hs2
      have HG2 := Lib.hid (show Code.num l = ((Code.numF k (ch :: r)).map fun p => (x + 128 ^ k * p.1, k + p.2)) by have := HG.out; unfold goesOn at this; rw [hd] at this; exact this)
      obtain ⟨A2, c2, _, k1, _, y1, _, _, _⟩ := sep_riAt HS2.out (List.getElem?_set_self HL.out)
      simp only at k1
      have hbt := ch.toNat_lt
      clear hs2 hf HR hbad hd
      have m0 : ((ch.toNat : Nat) : Int) % 18446744073709551616 = ((ch.toNat : Nat) : Int) := by omega
      by_cases h91 : k = 9 ∧ 1 < ch.toNat
      · have HZ := Lib.hid (gU_none (l := l) (by rw [HG2.out, Code.numF, if_pos h91]; rfl))
        obtain ⟨rfl, h1c⟩ := h91
        go_wp2_with fail
        go_ret
        have h := sep_riBad HS2.out (List.getElem?_set_self HL.out)
        rw [List.set_set] at h
        exact ⟨by rw [HZ.out]; rfl, _, St.fault _ (by rw [HZ.out]), h⟩
      · have h9' : k = 9 → ch.toNat ≤ 1 := fun e => by omega
        obtain ⟨d, hd⟩ : ∃ d, ch.toNat % 128 = d := ⟨_, rfl⟩
        have hd128 : d < 128 := by omega
        have md : ((ch.toNat : Nat) : Int) % 128 = (d : Int) := by omega
        obtain ⟨es, HO⟩ := shl_group x d k HX.out hk9 hd128 (fun e => by have := h9' e; omega)
        have ew := wrap_add x (d * 128 ^ k) HO
        have HB := Lib.hid HO
        have HDd := Lib.hid hd
        obtain ⟨x', HX'⟩ : ∃ x', Hid (x + d * 128 ^ k = x') := ⟨_, Lib.hid rfl⟩
        obtain ⟨y', HY'⟩ : ∃ y', Hid (d * 128 ^ k = y') := ⟨_, Lib.hid rfl⟩
        rw [HX'.out] at ew HB
        rw [HY'.out] at es ew
        clear HO hd h91
        have e7 : (7 * (k : Int)).toNat = 7 * k := by omega
        have KN : Hid (ch.toNat = 0 → 0 < k → gU (l, false) = (0, l, true)) := Lib.hid fun h0 hk => gU_none (by
          rw [HG2.out, Code.numF, if_neg (fun e => by have := h9' e.1; omega), if_pos (by omega), if_pos ⟨h0, hk⟩]; rfl)
        have KY : Hid (ch.toNat < 128 → ¬ (ch.toNat = 0 ∧ 0 < k) → gU (l, false) = (x', r, false)) := Lib.hid fun h128 hn0 => by
          rw [gU_some (x := x') (n := k + 1) (by
            rw [HG2.out, Code.numF, if_neg (fun e => by have := h9' e.1; omega), if_pos h128, if_neg hn0]
            simp only [Option.map_some]
            have : d = ch.toNat := by have := HDd.out; omega
            rw [← HX'.out, this, Nat.mul_comm]), HR1.out]
        have HSB := Lib.hid (sep_riBad HS2.out (List.getElem?_set_self HL.out))
        rw [List.set_set] at HSB
        by_cases hlt : ch.toNat < 128
        · by_cases h00 : ch.toNat = 0 ∧ 0 < k
          · have ec : ((ch.toNat : Int) == 0) = true := beq_iff_eq.2 (by omega)
            have HZ := Lib.hid (KN.out h00.1 h00.2)
            have hkp : 0 < k := h00.2
            by_cases hk9' : k = 9
            · have e9 : ((k : Int) == 9) = true := beq_iff_eq.2 (by omega)
              have hc1 : ch.toNat ≤ 1 := h9' hk9'
              clear h9' hk9' h00
              go_wp2_with fail
              go_ret
              exact ⟨by rw [HZ.out]; rfl, _, St.fault _ (by rw [HZ.out]), HSB.out⟩
            · have e9 : ((k : Int) == 9) = false := beq_eq_false_iff_ne.2 (by omega)
              clear h9' hk9' h00
              go_wp2_with fail
              go_ret
              exact ⟨by rw [HZ.out]; rfl, _, St.fault _ (by rw [HZ.out]), HSB.out⟩
          · have HZ := Lib.hid (KY.out hlt h00)
            have HFIN : Hid (RiTo w0 Ps i g (gU (l, false)).2 w2) := Lib.hid ⟨_, by rw [HZ.out]; exact St.refl _, HS2.out⟩
            by_cases hk9' : k = 9
            · have e9 : ((k : Int) == 9) = true := beq_iff_eq.2 (by omega)
              have hc1 : ch.toNat ≤ 1 := h9' hk9'
              have ec : ((ch.toNat : Int) == 0) = false := beq_eq_false_iff_ne.2 (by omega)
              clear h9' hk9' h00
              go_wp2_with fail
              go_ret
              exact ⟨by rw [HZ.out]; rfl, HFIN.out⟩
            · have e9 : ((k : Int) == 9) = false := beq_eq_false_iff_ne.2 (by omega)
              by_cases hc0 : ch.toNat = 0
              · have ec : ((ch.toNat : Int) == 0) = true := beq_iff_eq.2 (by omega)
                have hkp : ¬ 0 < k := by omega
                clear h9' hk9' h00 hc0
                go_wp2_with fail
                go_ret
                exact ⟨by rw [HZ.out]; rfl, HFIN.out⟩
              · have ec : ((ch.toNat : Int) == 0) = false := beq_eq_false_iff_ne.2 (by omega)
                clear h9' hk9' h00 hc0
                go_wp2_with fail
                go_ret
                exact ⟨by rw [HZ.out]; rfl, HFIN.out⟩
        · have hk9' : k ≠ 9 := fun e => by have := h9' e; omega
          have e9 : ((k : Int) == 9) = false := beq_eq_false_iff_ne.2 (by omega)
          have HXN : Hid (x' < 128 ^ (k + 1)) := Lib.hid (by
            rw [← HX'.out, Nat.pow_succ]
            have h5 : d * 128 ^ k ≤ 127 * 128 ^ k := Nat.mul_le_mul_right _ (by omega)
            have := HX.out
            omega)
          have HGN : Hid (goesOn l (k + 1) x') := Lib.hid (by
            unfold goesOn
            rw [HG2.out, Code.numF, if_neg (fun e => hk9' e.1), if_neg hlt, ← HR1.out]
            cases Code.numF (k + 1) r with
            | none => rfl
            | some p =>
              simp only [Option.map_some, Option.some.injEq, Prod.mk.injEq]
              rw [← HX'.out, HDd.out, Nat.pow_succ]
              constructor
              · rw [Nat.mul_add, Nat.mul_comm (128 ^ k) d, Nat.mul_assoc]; omega
              · omega)
          have hk8 : k ≤ 8 := by omega
          rw [HR1.out] at HS2
          clear h9' hk9'
          go_wp2_with fail
          go_roundw
          case rel => exact ⟨k + 1, x', by omega, by go_num, rfl, HXN, HGN, fun h => (by cases h), HS2⟩
          case measure => simp [intOf]; omega
end Go.Proofs.Ytbnjlminjopaaaa
