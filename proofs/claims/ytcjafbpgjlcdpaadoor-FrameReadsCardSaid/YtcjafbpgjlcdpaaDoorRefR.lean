/- The walks of the document's Reader of layer 2. -/
import Derived.Test.YtcjafbpgjlcdpaaDoorCodeWide2
import Derived.Deep.QuietTactic
import Derived.BigQuiet
namespace Go.Proofs.YtcjafbpgjlcdpaaDoor
open Go Go.RowKit
set_option linter.unusedVariables false
set_option maxRecDepth 100000

/-- THE DOCUMENT's READER: its struct is block g; what is left lies in block rb -/
def Rdf (w : World) (g rb : Nat) (l : List UInt8) (bad : Bool) : Prop :=
  ∃ A c, w.heap[g]? = some (.cells #[.slice A l.length c, .bool bad] 67 (0, 0)) ∧ l.length ≤ c ∧ c ≤ maxLen ∧ HasIn w rb A (us l)
theorem Rdf.lt {w : World} {g rb : Nat} {l : List UInt8} {bad : Bool} (h : Rdf w g rb l bad) : g < w.heap.size := by
  obtain ⟨A, c, h1, _⟩ := h
  rcases Nat.lt_or_ge g w.heap.size with hlt | hge
  · exact hlt
  · rw [Array.getElem?_eq_none hge] at h1; cases h1
theorem Rdf.keep {w w' : World} {g rb g2 : Nat} {r2 : Option Nat} {l : List UInt8} {bad : Bool} (h : Rdf w g rb l bad) (hc : Chg w w' g2 r2) (h1 : g ≠ g2) (h2 : some g ≠ r2) (h3 : 0 < l.length → rb ≠ g2) (h4 : 0 < l.length → some rb ≠ r2) : Rdf w' g rb l bad := by
  have hlt := h.lt
  obtain ⟨A, c, e1, e2, e3, e4⟩ := h
  refine ⟨A, c, by rw [hc.block g hlt h1 h2]; exact e1, e2, e3, e4.keep fun hl => ?_⟩
  obtain ⟨o, _, hcl⟩ := e4 0 _ (List.getElem?_eq_getElem hl)
  rw [us_length] at hl
  exact hc.block rb (World.block_lt_of_cell? w _ hcl) (h3 hl) (h4 hl)
theorem Rdf.row_lt {w : World} {g rb : Nat} {l : List UInt8} {bad : Bool} (h : Rdf w g rb l bad) (hl : 0 < l.length) : rb < w.heap.size := by
  obtain ⟨A, c, e1, e2, e3, e4⟩ := h
  obtain ⟨o, _, hcl⟩ := e4 0 _ (List.getElem?_eq_getElem (show 0 < (us l).length by rw [us_length]; exact hl))
  exact World.block_lt_of_cell? w _ hcl
theorem Rdf.grow {w w' : World} {g rb : Nat} {l : List UInt8} {bad : Bool} (h : Rdf w g rb l bad) (hb : Below w.heap.size w w') : Rdf w' g rb l bad := by
  have hlt := h.lt
  obtain ⟨A, c, e1, e2, e3, e4⟩ := h
  refine ⟨A, c, by rw [hb.block g hlt]; exact e1, e2, e3, e4.keep fun hl => ?_⟩
  obtain ⟨o, _, hcl⟩ := e4 0 _ (List.getElem?_eq_getElem hl)
  exact hb.block rb (World.block_lt_of_cell? w _ hcl)
/-- its two cells are written -/
theorem Rdf.setBad {w : World} {g rb : Nat} {l : List UInt8} {bad : Bool} (h : Rdf w g rb l bad) (b : Bool) : Rdf (w.setCell ⟨g, 1, none⟩ (.bool b)) g rb l b := by
  obtain ⟨A, c, e1, e2, e3, e4⟩ := h
  refine ⟨A, c, by simp [World.setCell, Array.getElem?_modify, e1], e2, e3, e4.keep fun hl => ?_⟩
  exact Below.heap_setCell w _ _ rb (Rdr.ne e1 (fun _ _ => by simp) (fun _ _ => by simp) e4 hl)
theorem Rdf.setLeft {w : World} {g rb : Nat} {l : List UInt8} {bad : Bool} (h : Rdf w g rb l bad) {A' : Option Addr} {c' : Nat} {l' : List UInt8} (h1 : l'.length ≤ c') (h2 : c' ≤ maxLen) (h3 : HasIn w rb A' (us l')) : Rdf (w.setCell ⟨g, 0, none⟩ (.slice A' l'.length c')) g rb l' bad := by
  obtain ⟨A, c, e1, e2, e3, e4⟩ := h
  refine ⟨A', c', by simp [World.setCell, Array.getElem?_modify, e1], h1, h2, h3.keep fun hl => ?_⟩
  exact Below.heap_setCell w _ _ rb (Rdr.ne e1 (fun _ _ => by simp) (fun _ _ => by simp) h3 hl)
/-- what the walks ask of it -/
theorem Rdf.parts {w : World} {g rb : Nat} {l : List UInt8} {bad : Bool} (h : Rdf w g rb l bad) : ∃ A c, w.cell? ⟨g, 0, none⟩ = some (.slice A l.length c) ∧ w.cell? ⟨g, 1, none⟩ = some (.bool bad) ∧ w.frozen? ⟨g, 0, none⟩ = false ∧ w.frozen? ⟨g, 1, none⟩ = false ∧ l.length ≤ c ∧ c ≤ maxLen ∧ HasIn w rb A (us l) := by
  obtain ⟨A, c, e1, e2, e3, e4⟩ := h
  exact ⟨A, c, by rw [cell_of_row w g 0 _ _ _ e1]; rfl, by rw [cell_of_row w g 1 _ _ _ e1]; rfl, by simp [World.frozen?, e1], by simp [World.frozen?, e1], e2, e3, e4⟩


def ReadsF (w : World) (g rb : Nat) (v : Value) (l : List UInt8) (bad : Bool) (e : Ending) (w' : World) : Prop := e = .returned v ∧ Rdf w' g rb l bad ∧ Chg w w' g none

/-- how many groups -/
def grp (l : List UInt8) : Nat := match Code.num l with
  | none => 0
  | some p => p.2
theorem grp_goes (l : List UInt8) (k : Nat) (ch : UInt8) (r : List UInt8) (h : (Code.num l).map (·.2) = (Code.numF k (ch :: r)).map fun p => k + p.2) :
    (k = 9 ∧ 1 < ch.toNat → grp l = 0) ∧ (¬ (k = 9 ∧ 1 < ch.toNat) → ch.toNat < 128 → ch.toNat = 0 ∧ 0 < k → grp l = 0) ∧ (¬ (k = 9 ∧ 1 < ch.toNat) → ch.toNat < 128 → ¬ (ch.toNat = 0 ∧ 0 < k) → grp l = k + 1) ∧
      (¬ (k = 9 ∧ 1 < ch.toNat) → ¬ ch.toNat < 128 → (Code.num l).map (·.2) = (Code.numF (k + 1) r).map fun p => (k + 1) + p.2) := by
  have hg : grp l = ((Code.num l).map (·.2)).getD 0 := by unfold grp; cases Code.num l <;> rfl
  rw [Code.numF] at h
  refine ⟨fun h1 => ?_, fun h1 h2 h3 => ?_, fun h1 h2 h3 => ?_, fun h1 h2 => ?_⟩
  · rw [hg, h, if_pos h1]; rfl
  · rw [hg, h, if_neg h1, if_pos h2, if_pos h3]; rfl
  · rw [hg, h, if_neg h1, if_pos h2, if_neg h3]; rfl
  · rw [h, if_neg h1, if_neg h2]
    cases Code.numF (k + 1) r with
    | none => rfl
    | some p => simp only [Option.map_some, Option.some.injEq]; omega
theorem grp_none (l : List UInt8) (k : Nat) (h : (Code.num l).map (·.2) = (Code.numF k []).map fun p => k + p.2) : grp l = 0 := by
  have hg : grp l = ((Code.num l).map (·.2)).getD 0 := by unfold grp; cases Code.num l <;> rfl
  rw [hg, h]; rfl
theorem grp_ten (l r : List UInt8) (c : UInt8) (k : Nat) (hk : k = 9) (hc : ¬ c.toNat < 128) (h : (Code.num l).map (·.2) = (Code.numF k (c :: r)).map fun p => k + p.2) : grp l = 0 := (grp_goes l k c r h).1 ⟨hk, by omega⟩

set_option maxHeartbeats 1600000 in
theorem groups_any (w : World) (g rb : Nat) (l : List UInt8) (bad : Bool) (hR : Rdf w g rb l bad) (hl : l.length ≤ 1000000000) :
    Calls Tryd.prog 54 #[.pointer (some ⟨g, 0, none⟩)] w fun e w' => e = .returned (.int .i64 (grp l)) ∧ w = w' := by
  obtain ⟨A, c, h0, h1, f0, f1, hc, hm, hin⟩ := hR.parts
  have HIN := Lib.hid hin
  clear hR hin
  obtain ⟨ans, HA⟩ : ∃ ans, Hid (grp l = ans) := ⟨_, Lib.hid rfl⟩
  rw [HA.out]
  go_enter Tryd.func54, Tryd.ntmps54
  go_wp2
  go_loop [2, 3] (fun s2 iv => ∃ k : Nat, k ≤ l.length ∧ k ≤ 10 ∧ s2 = .int .i64 0 ∧ iv = .int .i64 ((k : Int) + 1) ∧ Hid (if k = 10 then grp l = 0 else (Code.num l).map (·.2) = (Code.numF k (l.drop k)).map fun p => k + p.2)) (fun _ iv => l.length + 1 - (intOf iv).toNat)
  case atStart => exact ⟨0, Nat.zero_le _, by omega, rfl, rfl, Lib.hid (by simp only [show ¬ (0 = 10) by omega, if_false]; unfold Code.num; cases h : Code.numF 0 l <;> simp [h])⟩
  case round =>
    obtain ⟨k, hk, hk10, rfl, rfl, HG⟩ := hrel
    by_cases hkt : k < l.length
    · by_cases hk9 : k = 10
      · have HZ := Lib.hid (show ans = 0 by rw [← HA.out]; have := HG.out; rw [if_pos hk9] at this; exact this)
        subst hk9
        have d1 : decide ((11 : Int) ≤ (l.length : Int)) = true := decide_eq_true (by omega)
        go_wp2
        go_ret
        exact ⟨by rw [HZ.out]; rfl, rfl⟩
      · obtain ⟨o, hA, hcell0⟩ := HIN.out k _ (us_at hkt)
        subst hA
        have HD := Lib.hid (show l.drop k = l[k] :: l.drop (k + 1) from List.drop_eq_getElem_cons hkt)
        have hbt := l[k].toNat_lt
        have HG1 := HG.out
        rw [if_neg hk9, HD.out] at HG1
        have H4 := Lib.hid (grp_goes l k l[k] (l.drop (k + 1)) HG1)
        have hcell := hcell0
        have h9c : k = 9 → w.cell? ⟨rb, o + 9, none⟩ = some (.int .u8 (l[k].toNat : Int)) := fun e => by subst e; exact hcell0
        have H9 := Lib.hid h9c
        have e1 : ((k : Int) + 1 - 1) = (k : Int) := by omega
        have e2 : ((k : Int) + 1 - 1).toNat = k := by omega
        clear hcell0 h9c HG1
        generalize l[k] = ch at *
        rw [HA.out] at H4
        have hle : (k : Int) + 1 ≤ (l.length : Int) := by omega
        by_cases hlt : ch.toNat < 128
        · by_cases hz : ch.toNat = 0 ∧ 0 < k
          · have HZ := Lib.hid (H4.out.2.1 (by omega) hlt hz)
            have ez : ((ch.toNat : Int) == 0) = true := beq_iff_eq.2 (by omega)
            have hk0 : (1 : Int) < (k : Int) + 1 := by omega
            obtain ⟨hz1, hz2⟩ := hz
            clear hz1
            go_wp2
            go_ret
            exact ⟨by rw [HZ.out]; rfl, rfl⟩
          · by_cases h91 : k = 9 ∧ 1 < ch.toNat
            · have HZ := Lib.hid (H4.out.1 h91)
              obtain ⟨rfl, h1c⟩ := h91
              have ez : ((ch.toNat : Int) == 0) = false := beq_eq_false_iff_ne.2 (by omega)
              have hcell9 := H9.out rfl
              have hl10 : (9 : Int) < (l.length : Int) := by omega
              clear hz
              go_wp2
              go_ret
              exact ⟨by rw [HZ.out]; rfl, rfl⟩
            · have HZ := Lib.hid (H4.out.2.2.1 h91 hlt hz)
              by_cases hk0 : k = 0
              · subst hk0
                have hcell' : w.cell? ⟨rb, o, none⟩ = some (.int .u8 (ch.toNat : Int)) := hcell
                clear hz h91 e1 e2 hcell
                go_wp2
                go_ret
                exact ⟨by rw [HZ.out]; rfl, rfl⟩
              · have ez : ((ch.toNat : Int) == 0) = false := beq_eq_false_iff_ne.2 (by omega)
                by_cases hk99 : k = 9
                · subst hk99
                  have hcell9 := H9.out rfl
                  have hl10 : (9 : Int) < (l.length : Int) := by omega
                  have hc1 : ¬ 1 < ch.toNat := by omega
                  clear hz h91
                  go_wp2
                  go_ret
                  exact ⟨by rw [HZ.out]; rfl, rfl⟩
                · have e10 : (((k : Int) + 1) == 10) = false := beq_eq_false_iff_ne.2 (by omega)
                  clear hz h91
                  go_wp2
                  go_ret
                  exact ⟨by rw [HZ.out]; go_num, rfl⟩
        · have HN := Lib.hid (show if k + 1 = 10 then ans = 0 else (Code.num l).map (·.2) = (Code.numF (k + 1) (l.drop (k + 1))).map fun p => (k + 1) + p.2 by
            by_cases h9 : k = 9
            · rw [if_pos (by omega)]; exact H4.out.1 ⟨h9, by omega⟩
            · rw [if_neg (by omega)]; exact H4.out.2.2.2 (by omega) hlt)
          go_wp2
          go_round
          case rel => exact ⟨k + 1, by omega, by omega, rfl, by go_num, Lib.hid (by rw [HA.out]; exact HN.out)⟩
          case measure => simp [intOf]; omega
    · have HZ := Lib.hid (show ans = 0 by
        rw [← HA.out]
        have := HG.out
        by_cases h10 : k = 10
        · rw [if_pos h10] at this; exact this
        · rw [if_neg h10, List.drop_eq_nil_of_le (by omega)] at this
          exact grp_none l k this)
      have hgt : ¬ ((k : Int) + 1 ≤ (l.length : Int)) := by omega
      go_wp2
      go_ret
      exact ⟨by rw [HZ.out]; rfl, rfl⟩

/-- the worth of bytes, of so many bits each, the lowest first -/
def worthN (b : Nat) : List UInt8 → Nat
  | [] => 0
  | c :: r => c.toNat % 2 ^ b + 2 ^ b * worthN b r
theorem worthN_drop (b : Nat) : ∀ (l : List UInt8) (k : Nat), worthN b (l.drop k) ≤ worthN b l
  | [], k => by simp
  | c :: r, 0 => by simp
  | c :: r, k + 1 => by
    have h1 := worthN_drop b r k
    have h2 : worthN b r ≤ 2 ^ b * worthN b r := Nat.le_mul_of_pos_left _ (Nat.pow_pos (by omega))
    simp only [List.drop_succ_cons, worthN]
    omega
theorem worthN8 (l : List UInt8) : worthN 8 l = Code.leNat l := by
  induction l with
  | nil => rfl
  | cons c r ih =>
    have := c.toNat_lt
    rw [worthN, Code.leNat, ih, Nat.mod_eq_of_lt (by omega)]
theorem worthN7 : ∀ (l : List UInt8) (i x n : Nat), Code.numF i l = some (x, n) → worthN 7 (l.take n) = x
  | [], _, _, _, h => by simp [Code.numF] at h
  | c :: r, i, x, n, h => by
    rw [Code.numF] at h
    split at h
    · cases h
    · split at h
      · split at h
        · cases h
        · rename_i hc _
          simp only [Option.some.injEq, Prod.mk.injEq] at h
          obtain ⟨rfl, rfl⟩ := h
          simp [worthN]
          omega
      · split at h
        · cases h
        · rename_i y m hm
          simp only [Option.some.injEq, Prod.mk.injEq] at h
          obtain ⟨rfl, rfl⟩ := h
          rw [List.take_succ_cons, worthN, worthN7 r (i + 1) y m hm]

theorem or_shl (b c x : Nat) (hb : b ≤ 8) (hx : c % 2 ^ b + 2 ^ b * x < 18446744073709551616) : bits .or .u64 ((x * 2 ^ b : Nat) : Int) ((c % 2 ^ b : Nat) : Int) = ((c % 2 ^ b + 2 ^ b * x : Nat) : Int) := by
  have h1 : x * 2 ^ b < 18446744073709551616 := by rw [Nat.mul_comm]; omega
  have h2 : c % 2 ^ b < 2 ^ b := Nat.mod_lt _ (Nat.pow_pos (by omega))
  rw [bits_or_u64_nat _ _ h1 (by omega)]
  congr 1
  have e5 := nat_join b (x * 2 ^ b) (c % 2 ^ b) (Nat.mul_mod_left _ _) h2
  rw [e5, Nat.mul_comm]; omega
end Go.Proofs.YtcjafbpgjlcdpaaDoor
