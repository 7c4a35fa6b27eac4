/- The walks of window.may, window.due, window.Take and of the document's Count, Body, May, Due, Take. -/
import Derived.Test.YtmjlehofjholaaaWinA
namespace Go.Proofs.Ytmjlehofjholaaa
open Go Go.RowKit
set_option linter.unusedVariables false
set_option maxRecDepth 100000

def bodyB (l : List UInt8) : Bool := decide (1 ≤ l.length) && decide (l.length ≤ 448)
def mayB (base : Nat) (L : List (List UInt8)) : Bool := decide (L.length ≤ 48) && decide (base + L.length ≤ 34359738367) && L.all bodyB
def okTo (L : List (List UInt8)) (k : Nat) : Prop := (L.take k).all bodyB = true
theorem okTo_zero (L : List (List UInt8)) : okTo L 0 := by simp [okTo]
theorem okTo_succ {L : List (List UInt8)} {k : Nat} (h : okTo L k) (hk : k < L.length) (hb : bodyB L[k] = true) : okTo L (k + 1) := by
  unfold okTo at *
  rw [List.take_succ_eq_append_getElem hk, List.all_append, h]
  simp [hb]
theorem body_yes {l : List UInt8} (h1 : 1 ≤ l.length) (h2 : l.length ≤ 448) : bodyB l = true := by simp [bodyB, h1, h2]
theorem body_no1 {l : List UInt8} (h1 : l.length < 1) : bodyB l = false := by simp [bodyB]; omega
theorem body_no2 {l : List UInt8} (h1 : 448 < l.length) : bodyB l = false := by simp [bodyB]; omega
theorem all_end {L : List (List UInt8)} {k : Nat} (h : okTo L k) (hk : L.length ≤ k) : L.all bodyB = true := by
  unfold okTo at h
  rwa [List.take_of_length_le hk] at h
theorem all_no {L : List (List UInt8)} {k : Nat} (hk : k < L.length) (hb : bodyB L[k] = false) : L.all bodyB = false := by
  rw [List.all_eq_false]
  exact ⟨L[k], List.getElem_mem hk, by simp [hb]⟩
theorem may_is {base : Nat} {L : List (List UInt8)} {r : Bool} (h1 : L.length ≤ 48) (h2 : base + L.length ≤ 34359738367) (h : L.all bodyB = r) : mayB base L = r := by simp [mayB, h1, h2, h]
theorem may_no {base : Nat} {L : List (List UInt8)} (h : 48 < L.length ∨ 34359738367 < base + L.length) : mayB base L = false := by
  unfold mayB
  rcases h with h | h
  · rw [decide_eq_false (by omega)]; rfl
  · rw [decide_eq_false (p := base + L.length ≤ 34359738367) (by omega)]; simp

theorem ret_b {a b : Bool} (h : a = b) : Ending.returned (.bool b) = .returned (.bool a) := by rw [h]

set_option maxHeartbeats 800000 in
theorem may_any (w : World) (B base : Nat) (A : Option Addr) (c : Nat) (L : List (List UInt8)) (h : Bx w B A L) (hB : B ≤ w.heap.size) (hb : base < 18446744073709551616) (hm : L.length ≤ maxLen) :
    Calls Try.prog 28 #[.agg #[.int .u64 (base : Int), .slice A L.length c]] w fun e w' => e = .returned (.bool (mayB base L)) ∧ Below w.heap.size w w' := by
  unfold maxLen at hm
  have H := Lib.hid h
  clear h
  by_cases h1 : L.length ≤ 48
  · by_cases h2 : base + L.length ≤ 34359738367
    · have g1 : base ≤ 34359738367 := by omega
      go_enter Try.func28, Try.ntmps28
      go_wp2
      go_loop [22] (fun i => ∃ k : Nat, k ≤ L.length ∧ i = .int .i64 (k : Int) ∧ okTo L k) (fun i => L.length - (intOf i).toNat)
      case atStart => exact ⟨0, by omega, rfl, okTo_zero L⟩
      case round =>
        obtain ⟨k, hk, rfl, ho⟩ := hrel
        by_cases hlt : k < L.length
        · obtain ⟨b, o, A1, c1, rfl, hbB, hc, q1, q2, q3, hh⟩ := (H.out.below ((Below.refl B w).alloc hB (.cells #[.int .u64 (base : Int), .slice A L.length c] 25))).at_ hlt
          have HN := Lib.hid (@all_no L k hlt)
          have HS := Lib.hid (@okTo_succ L k ho hlt)
          clear hh ho
          obtain ⟨l, Hl⟩ : ∃ l, Hid (L[k] = l) := ⟨_, Lib.hid rfl⟩
          rw [Hl.out] at hc q1 q3 HN HS
          unfold maxLen at q2
          by_cases g3 : l.length < 1
          · go_wp2
            go_ret
            exact ⟨ret_b (may_is h1 h2 (HN.out (body_no1 g3))), (Below.refl _ _).alloc (Nat.le_refl _) _⟩
          · by_cases g4 : 448 < l.length
            · go_wp2
              go_ret
              exact ⟨ret_b (may_is h1 h2 (HN.out (body_no2 g4))), (Below.refl _ _).alloc (Nat.le_refl _) _⟩
            · go_wp2
              go_round
              case rel => exact ⟨k + 1, by omega, by go_num, HS.out (body_yes (by omega) (by omega))⟩
              case measure => simp [intOf]; omega
        · go_wp2
          go_ret
          exact ⟨ret_b (may_is h1 h2 (all_end ho (by omega))), (Below.refl _ _).alloc (Nat.le_refl _) _⟩
    · have g1 : ((34359738367 : Int) - (L.length : Int)) < (base : Int) := by omega
      go_enter Try.func28, Try.ntmps28
      go_wp2
      go_ret
      exact ⟨ret_b (may_no (.inr (by omega))), (Below.refl _ _).alloc (Nat.le_refl _) _⟩
  · have g1 : 48 < L.length := by omega
    go_enter Try.func28, Try.ntmps28
    go_wp2
    go_ret
    exact ⟨ret_b (may_no (.inl (by omega))), (Below.refl _ _).alloc (Nat.le_refl _) _⟩
end Go.Proofs.Ytmjlehofjholaaa
