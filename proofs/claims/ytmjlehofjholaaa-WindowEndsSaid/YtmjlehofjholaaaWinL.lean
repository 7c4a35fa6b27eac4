/- The statements' small helpers: long, Same. -/
import Derived.Test.YtmjlehofjholaaaWinT
import Derived.Deep.QuietTactic
import Derived.BigQuiet
import Derived.RegionTactic
import Derived.ChangeAlike
import Derived.IntWalk
namespace Go.Proofs.Ytmjlehofjholaaa
open Go Go.RowKit Go.Shelf
set_option linter.unusedVariables false
set_option maxRecDepth 100000
attribute [local go_sem] Oper.semAt_some

def lsum (L : List (List UInt8)) : Nat := (L.map fun l => 1 + l.length / 64).sum
theorem lsum_snoc (L : List (List UInt8)) (l : List UInt8) : lsum (L ++ [l]) = lsum L + (1 + l.length / 64) := by simp [lsum]
theorem lsum_app (L M : List (List UInt8)) : lsum (L ++ M) = lsum L + lsum M := by simp [lsum]
theorem lsum_take (L : List (List UInt8)) (k : Nat) : lsum (L.take k) ≤ lsum L := by
  have := lsum_app (L.take k) (L.drop k)
  rw [List.take_append_drop] at this
  omega
theorem lsum_len (L : List (List UInt8)) : L.length ≤ lsum L := by
  induction L with
  | nil => simp
  | cons a L ih => simp [lsum] at *; omega
theorem lsum_mem {L : List (List UInt8)} {l : List UInt8} (h : l ∈ L) : l.length / 64 ≤ lsum L := by
  induction L with
  | nil => simp at h
  | cons a L ih =>
    rcases List.mem_cons.1 h with rfl | h
    · simp [lsum]; omega
    · have := ih h
      simp [lsum] at *
      omega
def longB (L : List (List UInt8)) : Bool := decide (2000 < lsum L)
theorem long_fit {L : List (List UInt8)} (h : longB L = false) : Fit L := by
  have h1 : ¬ 2000 < lsum L := by simpa [longB] using h
  have h2 := lsum_len L
  refine ⟨by omega, fun l hl => ?_⟩
  have h3 := lsum_mem hl
  omega
theorem long_yes {L : List (List UInt8)} {k : Nat} (h : 2000 < lsum (L.take k)) : longB L = true := by
  have := lsum_take L k
  simp [longB]; omega
theorem long_no {L : List (List UInt8)} {k : Nat} (h : lsum (L.take k) ≤ 2000) (hk : L.length ≤ k) : longB L = false := by
  rw [List.take_of_length_le hk] at h
  simp [longB]; omega

set_option maxHeartbeats 800000 in
theorem long_any (w : World) (B base : Nat) (A : Option Addr) (c : Nat) (L : List (List UInt8)) (h : Bx w B A L) (hB : B ≤ w.heap.size) (hm : L.length ≤ maxLen) :
    Calls Try.prog 10 #[.agg #[.int .u64 (base : Int), .slice A L.length c]] w fun e w' => e = .returned (.bool (longB L)) ∧ Below w.heap.size w w' := by
  unfold maxLen at hm
  have H := Lib.hid h
  clear h
  go_enter Try.func10, Try.ntmps10
  go_wp2
  go_loop [3, 4] (fun n i => ∃ k m : Nat, k ≤ L.length ∧ i = .int .i64 (k : Int) ∧ n = .int .i64 (m : Int) ∧ m ≤ 2000 ∧ Hid (lsum (L.take k) = m)) (fun _ i => L.length - (intOf i).toNat)
  case atStart => exact ⟨0, 0, by omega, rfl, rfl, by omega, Lib.hid rfl⟩
  case round =>
    obtain ⟨k, m, hk, rfl, rfl, hm2, HM⟩ := hrel
    by_cases hlt : k < L.length
    · obtain ⟨b, o, A1, c1, rfl, hbB, hc, q1, q2, q3, hh⟩ := (H.out.below ((Below.refl B w).alloc hB (.cells #[.int .u64 (base : Int), .slice A L.length c] 25))).at_ hlt
      have HS : Hid (lsum (L.take (k + 1)) = m + (1 + L[k].length / 64)) := Lib.hid (by rw [List.take_succ_eq_append_getElem hlt, lsum_snoc, HM.out])
      clear hh
      obtain ⟨l, Hl⟩ : ∃ l, Hid (L[k] = l) := ⟨_, Lib.hid rfl⟩
      rw [Hl.out] at hc q1 q3 HS
      unfold maxLen at q2
      obtain ⟨d, Hd⟩ : ∃ d, Hid (l.length / 64 = d) := ⟨_, Lib.hid rfl⟩
      have hd : (l.length : Int) / 64 = (d : Int) := by rw [← Hd.out]; rfl
      have hdb : d ≤ l.length := by rw [← Hd.out]; omega
      rw [Hd.out] at HS
      by_cases g : 2000 < m + (1 + d)
      · have g' : (2000 : Int) < (m : Int) + (1 + (d : Int)) := by omega
        go_wp2
        go_ret
        exact ⟨ret_b (long_yes (by rw [HS.out]; exact g)), (Below.refl _ _).alloc (Nat.le_refl _) _⟩
      · have g' : decide ((2000 : Int) < (m : Int) + (1 + (d : Int))) = false := decide_eq_false (by omega)
        go_wp2
        go_round
        case rel => exact ⟨k + 1, m + (1 + d), by omega, by go_num, by go_num, by omega, HS⟩
        case measure => simp [intOf]; omega
    · go_wp2
      go_ret
      exact ⟨ret_b (long_no (by rw [HM.out]; exact hm2) (by omega)), (Below.refl _ _).alloc (Nat.le_refl _) _⟩

def sameB (b1 : Nat) (L1 : List (List UInt8)) (b2 : Nat) (L2 : List (List UInt8)) : Bool := decide (b1 = b2 ∧ L1 = L2)
theorem same_no {b1 b2 : Nat} {L1 L2 : List (List UInt8)} (h : b1 ≠ b2 ∨ L1 ≠ L2) : sameB b1 L1 b2 L2 = false := by
  simp only [sameB, decide_eq_false_iff_not]
  rintro ⟨h1, h2⟩
  rcases h with h | h
  · exact h h1
  · exact h h2
theorem same_yes {b1 b2 : Nat} {L1 L2 : List (List UInt8)} (h : b1 = b2) (h2 : L1 = L2) : sameB b1 L1 b2 L2 = true := by simp [sameB, h, h2]
set_option maxHeartbeats 1000000 in
theorem same_any (w : World) (B b1 b2 : Nat) (A1 A2 : Option Addr) (c1 c2 : Nat) (L1 L2 : List (List UInt8)) (h1 : Bx w B A1 L1) (h2 : Bx w B A2 L2) (hB : B ≤ w.heap.size) (hm1 : L1.length ≤ maxLen) (hm2 : L2.length ≤ maxLen) :
    Calls Try.prog 15 #[.agg #[.int .u64 (b1 : Int), .slice A1 L1.length c1], .agg #[.int .u64 (b2 : Int), .slice A2 L2.length c2]] w fun e w' => e = .returned (.bool (sameB b1 L1 b2 L2)) ∧ Below w.heap.size w w' := by
  unfold maxLen at hm1 hm2
  have H1 := Lib.hid h1
  have H2 := Lib.hid h2
  clear h1 h2
  have fin : ∀ (o o' : Obj) (n : Nat), Below w.heap.size w (((w.alloc o).alloc o').drewN n) := fun o o' n => below_drewN (((Below.refl _ _).alloc (Nat.le_refl _) _).alloc (by simp) _) n
  have fin0 : ∀ (o o' : Obj), Below w.heap.size w ((w.alloc o).alloc o') := fun o o' => ((Below.refl _ _).alloc (Nat.le_refl _) _).alloc (by simp) _
  by_cases hb : b1 = b2
  · by_cases hl : L1.length = L2.length
    · have e1 : ((b1 : Int) != (b2 : Int)) = false := by simp; omega
      have e2 : ((L1.length : Int) != (L2.length : Int)) = false := by simp; omega
      have HL := Lib.hid hl
      have HBE := Lib.hid hb
      have hl1 : L1.length ≤ L2.length := by omega
      have hl2 : L2.length ≤ L1.length := by omega
      clear hl hb
      go_enter Try.func15, Try.ntmps15
      go_wp2
      obtain ⟨W, HW⟩ : ∃ W, Hid (W = (w.alloc (.cells #[.int .u64 (b1 : Int), .slice A1 L1.length c1] 25)).alloc (.cells #[.int .u64 (b2 : Int), .slice A2 L2.length c2] 25)) := ⟨_, Lib.hid rfl⟩
      have k1 : W.cell? ⟨w.heap.size, 1, none⟩ = some (.slice A1 L1.length c1) := by rw [HW.out]; simp [go_sem]
      have k2 : W.cell? ⟨w.heap.size + 1, 1, none⟩ = some (.slice A2 L2.length c2) := by rw [HW.out]; simp [go_sem]
      have hbW : Below w.heap.size w W := by rw [HW.out]; exact fin0 _ _
      rw [← HW.out]
      have H1 := Lib.hid (H1.out.below (hbW.mono hB))
      have H2 := Lib.hid (H2.out.below (hbW.mono hB))
      go_loopw [5] (fun i wr => ∃ k n : Nat, k ≤ L1.length ∧ i = .int .i64 (k : Int) ∧ Hid (L1.take k = L2.take k) ∧ wr = W.drewN n) (fun i _ => L1.length - (intOf i).toNat)
      case atStart => exact ⟨0, 0, by omega, rfl, Lib.hid rfl, rfl⟩
      case round =>
        obtain ⟨k, n, hk, rfl, HT, rfl⟩ := hrel
        clear e1 e2
        by_cases hlt : k < L1.length
        · have hlt2 : k < L2.length := by omega
          obtain ⟨x1, o1, a1, d1, rfl, r1, r2, r3, r4, r5, r6⟩ := H1.out.at_ hlt
          obtain ⟨x2, o2, a2, d2, rfl, s1, s2, s3, s4, s5, s6⟩ := H2.out.at_ hlt2
          have HS1 : Hid (L1.take (k + 1) = L1.take k ++ [L1[k]]) := Lib.hid (List.take_succ_eq_append_getElem hlt)
          have HS2 : Hid (L2.take (k + 1) = L2.take k ++ [L2[k]]) := Lib.hid (List.take_succ_eq_append_getElem hlt2)
          have HN : Hid (L1[k] ≠ L2[k] → L1 ≠ L2) := Lib.hid (fun hne e => hne (by subst e; rfl))
          have t1 := fun n => run_str (c := d1) (r6.below (below_drewN (Below.refl B W) n))
          have t2 := fun n => run_str (c := d2) (s6.below (below_drewN (Below.refl B W) n))
          clear r6 s6
          obtain ⟨l1, Hl1⟩ : ∃ l, Hid (L1[k] = l) := ⟨_, Lib.hid rfl⟩
          obtain ⟨l2, Hl2⟩ : ∃ l, Hid (L2[k] = l) := ⟨_, Lib.hid rfl⟩
          rw [Hl1.out] at r2 r3 r5 HS1 t1
          rw [Hl2.out] at s2 s3 s5 HS2 t2
          rw [Hl1.out, Hl2.out] at HN
          have i0 : (0 : Int) ≤ (k : Int) := by omega
          have i1 : (k : Int) < (L1.length : Int) := by omega
          have i2 : (k : Int) < (L2.length : Int) := by omega
          by_cases hne : l1 = l2
          · subst hne
            go_wp2_with fail
            go_quiet (fail)
            go_wp2_with fail
            go_roundw
            case rel => exact ⟨k + 1, n + nq, by omega, by go_num, Lib.hid (by rw [HS1.out, HS2.out, HT.out]), rfl⟩
            case measure => simp [intOf]; omega
          · have e3 : (!l1 == l2) = true := by simpa using hne
            have HN2 := Lib.hid (HN.out hne)
            clear HN hne
            go_wp2_with fail
            go_quiet (fail)
            go_wp2_with fail
            go_ret
            exact ⟨ret_b (same_no (.inr HN2.out)), below_drewN (below_drewN hbW _) _⟩
        · go_wp2
          go_ret
          exact ⟨ret_b (same_yes HBE.out (by have := HT.out; rw [List.take_of_length_le (by omega), List.take_of_length_le (by omega)] at this; exact this)), below_drewN hbW _⟩
    · have e1 : ((b1 : Int) != (b2 : Int)) = false := by simp; omega
      have e2 : ((L1.length : Int) != (L2.length : Int)) = true := by simp; omega
      have HN := Lib.hid (show L1 ≠ L2 from fun e => hl (by rw [e]))
      clear hl hb
      go_enter Try.func15, Try.ntmps15
      go_wp2
      go_ret
      exact ⟨ret_b (same_no (.inr HN.out)), fin0 _ _⟩
  · have e1 : ((b1 : Int) != (b2 : Int)) = true := by simp; omega
    go_enter Try.func15, Try.ntmps15
    go_wp2
    go_ret
    exact ⟨ret_b (same_no (.inl hb)), fin0 _ _⟩
end Go.Proofs.Ytmjlehofjholaaa
