/- May a frame be, as the program says. -/
import Derived.Test.YtngegjboenfmeaaFrm
namespace Go.Proofs.Ytngegjboenfmeaa
open Go Go.RowKit
set_option linter.unusedVariables false
set_option maxRecDepth 100000
theorem index6_0 (w : World) (a b c d e f : Nat) : (Instr.index 120 (.agg #[.int .u64 (a : Int), .int .u64 (b : Int), .int .u64 (c : Int), .int .u64 (d : Int), .int .u64 (e : Int), .int .u64 (f : Int)]) (.int .i64 0)).run Try.prog w = .ok (.int .u64 (a : Int)) w := by kernel_rfl
theorem index6_1 (w : World) (a b c d e f : Nat) : (Instr.index 120 (.agg #[.int .u64 (a : Int), .int .u64 (b : Int), .int .u64 (c : Int), .int .u64 (d : Int), .int .u64 (e : Int), .int .u64 (f : Int)]) (.int .i64 1)).run Try.prog w = .ok (.int .u64 (b : Int)) w := by kernel_rfl
theorem index6_2 (w : World) (a b c d e f : Nat) : (Instr.index 120 (.agg #[.int .u64 (a : Int), .int .u64 (b : Int), .int .u64 (c : Int), .int .u64 (d : Int), .int .u64 (e : Int), .int .u64 (f : Int)]) (.int .i64 2)).run Try.prog w = .ok (.int .u64 (c : Int)) w := by kernel_rfl
theorem index6_3 (w : World) (a b c d e f : Nat) : (Instr.index 120 (.agg #[.int .u64 (a : Int), .int .u64 (b : Int), .int .u64 (c : Int), .int .u64 (d : Int), .int .u64 (e : Int), .int .u64 (f : Int)]) (.int .i64 3)).run Try.prog w = .ok (.int .u64 (d : Int)) w := by kernel_rfl
theorem index6_4 (w : World) (a b c d e f : Nat) : (Instr.index 120 (.agg #[.int .u64 (a : Int), .int .u64 (b : Int), .int .u64 (c : Int), .int .u64 (d : Int), .int .u64 (e : Int), .int .u64 (f : Int)]) (.int .i64 4)).run Try.prog w = .ok (.int .u64 (e : Int)) w := by kernel_rfl
theorem index6_5 (w : World) (a b c d e f : Nat) : (Instr.index 120 (.agg #[.int .u64 (a : Int), .int .u64 (b : Int), .int .u64 (c : Int), .int .u64 (d : Int), .int .u64 (e : Int), .int .u64 (f : Int)]) (.int .i64 5)).run Try.prog w = .ok (.int .u64 (f : Int)) w := by kernel_rfl
/-- the six numbers, one by one -/
theorem index6 (w : World) (a b c d e f : Nat) (k : Nat) (hk : k < 6) : (Instr.index 120 (.agg #[.int .u64 (a : Int), .int .u64 (b : Int), .int .u64 (c : Int), .int .u64 (d : Int), .int .u64 (e : Int), .int .u64 (f : Int)]) (.int .i64 (k : Int))).run Try.prog w = .ok (.int .u64 (([a, b, c, d, e, f][k]'hk : Nat) : Int)) w := by
  have h : k = 0 ∨ k = 1 ∨ k = 2 ∨ k = 3 ∨ k = 4 ∨ k = 5 := by omega
  rcases h with rfl | rfl | rfl | rfl | rfl | rfl
  · exact index6_0 w _ _ _ _ _ _
  · exact index6_1 w _ _ _ _ _ _
  · exact index6_2 w _ _ _ _ _ _
  · exact index6_3 w _ _ _ _ _ _
  · exact index6_4 w _ _ _ _ _ _
  · exact index6_5 w _ _ _ _ _ _
theorem six_no {kind fr to : Int} {inc conn pinc pconn ack seq n k : Nat} (hk : k < 6) (h : ¬ [inc, conn, pinc, pconn, ack, seq][k]'hk < 34359738368) : mayB kind fr to inc conn pinc pconn ack seq n = false := by
  have h6 : k = 0 ∨ k = 1 ∨ k = 2 ∨ k = 3 ∨ k = 4 ∨ k = 5 := by omega
  rcases h6 with rfl | rfl | rfl | rfl | rfl | rfl <;> (simp only [List.getElem_cons_zero, List.getElem_cons_succ] at h; exact decide_eq_false (by omega))
theorem six_yes {inc conn pinc pconn ack seq : Nat} (h : ∀ j (hj : j < 6), [inc, conn, pinc, pconn, ack, seq][j]'hj < 34359738368) : inc < 34359738368 ∧ conn < 34359738368 ∧ pinc < 34359738368 ∧ pconn < 34359738368 ∧ ack < 34359738368 ∧ seq < 34359738368 :=
  ⟨h 0 (by omega), h 1 (by omega), h 2 (by omega), h 3 (by omega), h 4 (by omega), h 5 (by omega)⟩
set_option maxHeartbeats 1600000 in
theorem may_any (w : World) (kind fr to : Int) (inc conn pinc pconn ack seq n c : Nat) (A : Option Addr) (hn : n ≤ maxLen) :
    Calls Try.prog 40 #[.agg #[.int .i64 kind, .int .i64 fr, .int .i64 to, .int .u64 (inc : Int), .int .u64 (conn : Int), .int .u64 (pinc : Int), .int .u64 (pconn : Int), .int .u64 (ack : Int), .int .u64 (seq : Int), .slice A n c]] w fun e w' => e = .returned (.bool (mayB kind fr to inc conn pinc pconn ack seq n)) ∧ Below w.heap.size w w' := by
  unfold maxLen at hn
  go_enter Try.func40, Try.ntmps40
  go_wp2_with fail
  refine (node_any _ fr).mono ?_
  rintro e w1 ⟨rfl, rfl⟩
  by_cases h1 : 1 ≤ fr ∧ fr ≤ 10
  · rw [nodeB_yes h1]
    go_wp2_with fail
    refine (node_any _ to).mono ?_
    rintro e w1 ⟨rfl, rfl⟩
    by_cases h2 : 1 ≤ to ∧ to ≤ 10
    · rw [nodeB_yes h2]
      by_cases h3 : fr = to
      · have e3 : (fr == to) = true := by simp; omega
        go_wp2_with fail
        go_ret
        exact ⟨ret_bool (decide_eq_false (by omega)), below_box _⟩
      · have e3 : (fr == to) = false := by simp; omega
        have IX := fun W k hk => index6 W inc conn pinc pconn ack seq k hk
        go_wp2_with fail
        go_loop [36] (fun iv => ∃ k : Nat, k ≤ 6 ∧ iv = .int .i64 (k : Int) ∧ Hid (∀ j (hj : j < 6), j < k → [inc, conn, pinc, pconn, ack, seq][j]'hj < 34359738368)) (fun iv => 6 - (intOf iv).toNat)
        case atStart => exact ⟨0, by omega, rfl, Lib.hid (fun j hj h => by omega)⟩
        case round =>
          obtain ⟨k, hk, rfl, HA⟩ := hrel
          by_cases hkt : k < 6
          · have ix := IX (w.alloc (Obj.cells #[.int .i64 kind, .int .i64 fr, .int .i64 to, .int .u64 (inc : Int), .int .u64 (conn : Int), .int .u64 (pinc : Int), .int .u64 (pconn : Int), .int .u64 (ack : Int), .int .u64 (seq : Int), .slice A n c] 51)) k hkt
            obtain ⟨x, Hx⟩ : ∃ x, Hid ([inc, conn, pinc, pconn, ack, seq][k]'hkt = x) := ⟨_, Lib.hid rfl⟩
            rw [Hx.out] at ix
            clear IX
            by_cases hx : x < 34359738368
            · have gx : ¬ (34359738367 : Int) < (x : Int) := by omega
              go_wp2_with fail
              go_round
              case rel => exact ⟨k + 1, by omega, by go_num, Lib.hid (fun j hj h => by
                rcases Nat.lt_or_ge j k with h' | h'
                · exact HA.out j hj h'
                · obtain rfl : j = k := by omega
                  rw [Hx.out]; exact hx)⟩
              case measure => simp [intOf]; omega
            · have gx : (34359738367 : Int) < (x : Int) := by omega
              go_wp2_with fail
              go_ret
              exact ⟨ret_bool (six_no hkt (by rw [Hx.out]; exact hx)), below_box _⟩
          · have h6 := six_yes (fun j hj => HA.out j hj (by omega))
            clear IX HA
            by_cases z_inc : inc = 0
            · have e_inc : (((inc : Nat) : Int) == 0) = true := by simp; omega
              have d_inc : (((inc : Nat) : Int) != 0) = false := by simp; omega
              have g_inc : decide ((0 : Int) < ((inc : Nat) : Int)) = false := decide_eq_false (by omega)
              go_wp2_with fail
              go_ret
              exact ⟨ret_bool (decide_eq_false (by omega)), below_box _⟩
            · have e_inc : (((inc : Nat) : Int) == 0) = false := by simp; omega
              have d_inc : (((inc : Nat) : Int) != 0) = true := by simp; omega
              have g_inc : decide ((0 : Int) < ((inc : Nat) : Int)) = true := decide_eq_true (by omega)
              by_cases z_conn : conn = 0
              · have e_conn : (((conn : Nat) : Int) == 0) = true := by simp; omega
                have d_conn : (((conn : Nat) : Int) != 0) = false := by simp; omega
                have g_conn : decide ((0 : Int) < ((conn : Nat) : Int)) = false := decide_eq_false (by omega)
                go_wp2_with fail
                go_ret
                exact ⟨ret_bool (decide_eq_false (by omega)), below_box _⟩
              · have e_conn : (((conn : Nat) : Int) == 0) = false := by simp; omega
                have d_conn : (((conn : Nat) : Int) != 0) = true := by simp; omega
                have g_conn : decide ((0 : Int) < ((conn : Nat) : Int)) = true := decide_eq_true (by omega)
                by_cases z_pinc : pinc = 0
                · have e_pinc : (((pinc : Nat) : Int) == 0) = true := by simp; omega
                  have d_pinc : (((pinc : Nat) : Int) != 0) = false := by simp; omega
                  have g_pinc : decide ((0 : Int) < ((pinc : Nat) : Int)) = false := decide_eq_false (by omega)
                  by_cases z_pconn : pconn = 0
                  · have e_pconn : (((pconn : Nat) : Int) == 0) = true := by simp; omega
                    have d_pconn : (((pconn : Nat) : Int) != 0) = false := by simp; omega
                    have g_pconn : decide ((0 : Int) < ((pconn : Nat) : Int)) = false := decide_eq_false (by omega)
                    by_cases z_ack : ack = 0
                    · have e_ack : (((ack : Nat) : Int) == 0) = true := by simp; omega
                      have d_ack : (((ack : Nat) : Int) != 0) = false := by simp; omega
                      have g_ack : decide ((0 : Int) < ((ack : Nat) : Int)) = false := decide_eq_false (by omega)
                      by_cases i_kind1 : kind = 1
                      · have ei_kind1 : (kind == 1) = true := by simp; omega
                        by_cases z_seq : seq = 0
                        · have e_seq : (((seq : Nat) : Int) == 0) = true := by simp; omega
                          have d_seq : (((seq : Nat) : Int) != 0) = false := by simp; omega
                          have g_seq : decide ((0 : Int) < ((seq : Nat) : Int)) = false := decide_eq_false (by omega)
                          by_cases hn0 : n = 0
                          · have e_n : (((n : Nat) : Int) == 0) = true := by simp; omega
                            go_wp2_with fail
                            go_ret
                            exact ⟨ret_bool (decide_eq_true (by omega)), below_box _⟩
                          · have e_n : (((n : Nat) : Int) == 0) = false := by simp; omega
                            go_wp2_with fail
                            go_ret
                            exact ⟨ret_bool (decide_eq_false (by omega)), below_box _⟩
                        · have e_seq : (((seq : Nat) : Int) == 0) = false := by simp; omega
                          have d_seq : (((seq : Nat) : Int) != 0) = true := by simp; omega
                          have g_seq : decide ((0 : Int) < ((seq : Nat) : Int)) = true := decide_eq_true (by omega)
                          go_wp2_with fail
                          go_ret
                          exact ⟨ret_bool (decide_eq_false (by omega)), below_box _⟩
                      · have ei_kind1 : (kind == 1) = false := by simp; omega
                        by_cases i_kind2 : kind = 2
                        · have ei_kind2 : (kind == 2) = true := by simp; omega
                          by_cases z_seq : seq = 0
                          · have e_seq : (((seq : Nat) : Int) == 0) = true := by simp; omega
                            have d_seq : (((seq : Nat) : Int) != 0) = false := by simp; omega
                            have g_seq : decide ((0 : Int) < ((seq : Nat) : Int)) = false := decide_eq_false (by omega)
                            go_wp2_with fail
                            go_ret
                            exact ⟨ret_bool (decide_eq_false (by omega)), below_box _⟩
                          · have e_seq : (((seq : Nat) : Int) == 0) = false := by simp; omega
                            have d_seq : (((seq : Nat) : Int) != 0) = true := by simp; omega
                            have g_seq : decide ((0 : Int) < ((seq : Nat) : Int)) = true := decide_eq_true (by omega)
                            go_wp2_with fail
                            go_ret
                            exact ⟨ret_bool (decide_eq_false (by omega)), below_box _⟩
                        · have ei_kind2 : (kind == 2) = false := by simp; omega
                          go_wp2_with fail
                          go_ret
                          exact ⟨ret_bool (decide_eq_false (by omega)), below_box _⟩
                    · have e_ack : (((ack : Nat) : Int) == 0) = false := by simp; omega
                      have d_ack : (((ack : Nat) : Int) != 0) = true := by simp; omega
                      have g_ack : decide ((0 : Int) < ((ack : Nat) : Int)) = true := decide_eq_true (by omega)
                      go_wp2_with fail
                      go_ret
                      exact ⟨ret_bool (decide_eq_false (by omega)), below_box _⟩
                  · have e_pconn : (((pconn : Nat) : Int) == 0) = false := by simp; omega
                    have d_pconn : (((pconn : Nat) : Int) != 0) = true := by simp; omega
                    have g_pconn : decide ((0 : Int) < ((pconn : Nat) : Int)) = true := decide_eq_true (by omega)
                    by_cases z_ack : ack = 0
                    · have e_ack : (((ack : Nat) : Int) == 0) = true := by simp; omega
                      have d_ack : (((ack : Nat) : Int) != 0) = false := by simp; omega
                      have g_ack : decide ((0 : Int) < ((ack : Nat) : Int)) = false := decide_eq_false (by omega)
                      go_wp2_with fail
                      go_ret
                      exact ⟨ret_bool (decide_eq_false (by omega)), below_box _⟩
                    · have e_ack : (((ack : Nat) : Int) == 0) = false := by simp; omega
                      have d_ack : (((ack : Nat) : Int) != 0) = true := by simp; omega
                      have g_ack : decide ((0 : Int) < ((ack : Nat) : Int)) = true := decide_eq_true (by omega)
                      go_wp2_with fail
                      go_ret
                      exact ⟨ret_bool (decide_eq_false (by omega)), below_box _⟩
                · have e_pinc : (((pinc : Nat) : Int) == 0) = false := by simp; omega
                  have d_pinc : (((pinc : Nat) : Int) != 0) = true := by simp; omega
                  have g_pinc : decide ((0 : Int) < ((pinc : Nat) : Int)) = true := decide_eq_true (by omega)
                  by_cases z_pconn : pconn = 0
                  · have e_pconn : (((pconn : Nat) : Int) == 0) = true := by simp; omega
                    have d_pconn : (((pconn : Nat) : Int) != 0) = false := by simp; omega
                    have g_pconn : decide ((0 : Int) < ((pconn : Nat) : Int)) = false := decide_eq_false (by omega)
                    go_wp2_with fail
                    go_ret
                    exact ⟨ret_bool (decide_eq_false (by omega)), below_box _⟩
                  · have e_pconn : (((pconn : Nat) : Int) == 0) = false := by simp; omega
                    have d_pconn : (((pconn : Nat) : Int) != 0) = true := by simp; omega
                    have g_pconn : decide ((0 : Int) < ((pconn : Nat) : Int)) = true := decide_eq_true (by omega)
                    by_cases i_kind1 : kind = 1
                    · have ei_kind1 : (kind == 1) = true := by simp; omega
                      by_cases z_seq : seq = 0
                      · have e_seq : (((seq : Nat) : Int) == 0) = true := by simp; omega
                        have d_seq : (((seq : Nat) : Int) != 0) = false := by simp; omega
                        have g_seq : decide ((0 : Int) < ((seq : Nat) : Int)) = false := decide_eq_false (by omega)
                        by_cases hn0 : n = 0
                        · have e_n : (((n : Nat) : Int) == 0) = true := by simp; omega
                          go_wp2_with fail
                          go_ret
                          exact ⟨ret_bool (decide_eq_true (by omega)), below_box _⟩
                        · have e_n : (((n : Nat) : Int) == 0) = false := by simp; omega
                          go_wp2_with fail
                          go_ret
                          exact ⟨ret_bool (decide_eq_false (by omega)), below_box _⟩
                      · have e_seq : (((seq : Nat) : Int) == 0) = false := by simp; omega
                        have d_seq : (((seq : Nat) : Int) != 0) = true := by simp; omega
                        have g_seq : decide ((0 : Int) < ((seq : Nat) : Int)) = true := decide_eq_true (by omega)
                        go_wp2_with fail
                        go_ret
                        exact ⟨ret_bool (decide_eq_false (by omega)), below_box _⟩
                    · have ei_kind1 : (kind == 1) = false := by simp; omega
                      by_cases i_kind2 : kind = 2
                      · have ei_kind2 : (kind == 2) = true := by simp; omega
                        by_cases z_seq : seq = 0
                        · have e_seq : (((seq : Nat) : Int) == 0) = true := by simp; omega
                          have d_seq : (((seq : Nat) : Int) != 0) = false := by simp; omega
                          have g_seq : decide ((0 : Int) < ((seq : Nat) : Int)) = false := decide_eq_false (by omega)
                          go_wp2_with fail
                          go_ret
                          exact ⟨ret_bool (decide_eq_false (by omega)), below_box _⟩
                        · have e_seq : (((seq : Nat) : Int) == 0) = false := by simp; omega
                          have d_seq : (((seq : Nat) : Int) != 0) = true := by simp; omega
                          have g_seq : decide ((0 : Int) < ((seq : Nat) : Int)) = true := decide_eq_true (by omega)
                          by_cases hn1 : 1 ≤ n
                          · go_wp2_with fail
                            go_ret
                            exact ⟨ret_bool (decide_eq_decide.2 (by omega)), below_box _⟩
                          · go_wp2_with fail
                            go_ret
                            exact ⟨ret_bool (decide_eq_false (by omega)), below_box _⟩
                      · have ei_kind2 : (kind == 2) = false := by simp; omega
                        go_wp2_with fail
                        go_ret
                        exact ⟨ret_bool (decide_eq_false (by omega)), below_box _⟩
    · rw [nodeB_no h2]
      go_wp2_with fail
      go_ret
      exact ⟨ret_bool (decide_eq_false (by omega)), below_box _⟩
  · rw [nodeB_no h1]
    go_wp2_with fail
    go_ret
    exact ⟨ret_bool (decide_eq_false (by omega)), below_box _⟩
end Go.Proofs.Ytngegjboenfmeaa
