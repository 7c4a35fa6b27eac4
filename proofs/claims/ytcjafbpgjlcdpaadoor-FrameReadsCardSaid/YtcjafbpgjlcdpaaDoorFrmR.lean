/- May a frame be, as the document says. -/
import Derived.Test.YtcjafbpgjlcdpaaDoorFrm
namespace Go.Proofs.YtcjafbpgjlcdpaaDoor
open Go Go.RowKit
set_option linter.unusedVariables false
set_option maxRecDepth 100000
set_option maxHeartbeats 1600000 in
theorem refMay_any (w : World) (kind fr to : Int) (inc conn pinc pconn ack seq n c : Nat) (A : Option Addr) (hn : n ≤ maxLen) :
    Calls Tryd.prog 11 #[.agg #[.int .i64 kind, .int .i64 fr, .int .i64 to, .int .u64 (inc : Int), .int .u64 (conn : Int), .int .u64 (pinc : Int), .int .u64 (pconn : Int), .int .u64 (ack : Int), .int .u64 (seq : Int), .slice A n c]] w fun e w' => e = .returned (.bool (mayB kind fr to inc conn pinc pconn ack seq n)) ∧ Below w.heap.size w w' := by
  unfold maxLen at hn
  go_enter Tryd.func11, Tryd.ntmps11
  go_wp2_with fail
  refine (refNode_any _ fr).mono ?_
  rintro e w1 ⟨rfl, rfl⟩
  by_cases h1 : 1 ≤ fr ∧ fr ≤ 10
  · rw [nodeB_yes h1]
    go_wp2_with fail
    refine (refNode_any _ to).mono ?_
    rintro e w1 ⟨rfl, rfl⟩
    by_cases h2 : 1 ≤ to ∧ to ≤ 10
    · rw [nodeB_yes h2]
      by_cases h3 : fr = to
      · have e3 : (fr == to) = true := by simp; omega
        go_wp2_with fail
        go_ret
        exact ⟨ret_bool (decide_eq_false (by omega)), below_box _⟩
      · have e3 : (fr == to) = false := by simp; omega
        go_wp2_with fail
        refine (refCount_any _ inc).mono ?_
        rintro e w1 ⟨rfl, rfl⟩
        by_cases c_inc : inc < 34359738368
        · rw [countB_yes c_inc]
          go_wp2_with fail
          refine (refCount_any _ conn).mono ?_
          rintro e w1 ⟨rfl, rfl⟩
          by_cases c_conn : conn < 34359738368
          · rw [countB_yes c_conn]
            go_wp2_with fail
            refine (refCount_any _ pinc).mono ?_
            rintro e w1 ⟨rfl, rfl⟩
            by_cases c_pinc : pinc < 34359738368
            · rw [countB_yes c_pinc]
              go_wp2_with fail
              refine (refCount_any _ pconn).mono ?_
              rintro e w1 ⟨rfl, rfl⟩
              by_cases c_pconn : pconn < 34359738368
              · rw [countB_yes c_pconn]
                go_wp2_with fail
                refine (refCount_any _ ack).mono ?_
                rintro e w1 ⟨rfl, rfl⟩
                by_cases c_ack : ack < 34359738368
                · rw [countB_yes c_ack]
                  go_wp2_with fail
                  refine (refCount_any _ seq).mono ?_
                  rintro e w1 ⟨rfl, rfl⟩
                  by_cases c_seq : seq < 34359738368
                  · rw [countB_yes c_seq]
                    by_cases z_inc : inc = 0
                    · have e_inc : (((inc : Nat) : Int) == 0) = true := by simp; omega
                      have d_inc : (((inc : Nat) : Int) != 0) = false := by simp; omega
                      go_wp2_with fail
                      go_ret
                      exact ⟨ret_bool (decide_eq_false (by omega)), below_box _⟩
                    · have e_inc : (((inc : Nat) : Int) == 0) = false := by simp; omega
                      have d_inc : (((inc : Nat) : Int) != 0) = true := by simp; omega
                      by_cases z_conn : conn = 0
                      · have e_conn : (((conn : Nat) : Int) == 0) = true := by simp; omega
                        have d_conn : (((conn : Nat) : Int) != 0) = false := by simp; omega
                        go_wp2_with fail
                        go_ret
                        exact ⟨ret_bool (decide_eq_false (by omega)), below_box _⟩
                      · have e_conn : (((conn : Nat) : Int) == 0) = false := by simp; omega
                        have d_conn : (((conn : Nat) : Int) != 0) = true := by simp; omega
                        by_cases z_pinc : pinc = 0
                        · have e_pinc : (((pinc : Nat) : Int) == 0) = true := by simp; omega
                          have d_pinc : (((pinc : Nat) : Int) != 0) = false := by simp; omega
                          by_cases z_pconn : pconn = 0
                          · have e_pconn : (((pconn : Nat) : Int) == 0) = true := by simp; omega
                            have d_pconn : (((pconn : Nat) : Int) != 0) = false := by simp; omega
                            by_cases z_ack : ack = 0
                            · have e_ack : (((ack : Nat) : Int) == 0) = true := by simp; omega
                              have d_ack : (((ack : Nat) : Int) != 0) = false := by simp; omega
                              by_cases i_kind1 : kind = 1
                              · have ei_kind1 : (kind == 1) = true := by simp; omega
                                by_cases z_seq : seq = 0
                                · have e_seq : (((seq : Nat) : Int) == 0) = true := by simp; omega
                                  have d_seq : (((seq : Nat) : Int) != 0) = false := by simp; omega
                                  by_cases hn0 : n = 0
                                  · have e_n : (((n : Nat) : Int) == 0) = true := by simp; omega
                                    go_wp2_with fail
                                    go_ret
                                    exact ⟨ret_bool (decide_eq_true (by omega)), below_box _⟩
                                  · have e_n : (((n : Nat) : Int) == 0) = false := by simp; omega
                                    go_wp2_with fail
                                    go_ret
                                    exact ⟨ret_bool (decide_eq_false (by omega)), below_box _⟩
                                · have e_seq : (((seq : Nat) : Int) == 0) = false := by simp; omega
                                  have d_seq : (((seq : Nat) : Int) != 0) = true := by simp; omega
                                  go_wp2_with fail
                                  go_ret
                                  exact ⟨ret_bool (decide_eq_false (by omega)), below_box _⟩
                              · have ei_kind1 : (kind == 1) = false := by simp; omega
                                by_cases i_kind2 : kind = 2
                                · have ei_kind2 : (kind == 2) = true := by simp; omega
                                  go_wp2_with fail
                                  go_ret
                                  exact ⟨ret_bool (decide_eq_false (by omega)), below_box _⟩
                                · have ei_kind2 : (kind == 2) = false := by simp; omega
                                  go_wp2_with fail
                                  go_ret
                                  exact ⟨ret_bool (decide_eq_false (by omega)), below_box _⟩
                            · have e_ack : (((ack : Nat) : Int) == 0) = false := by simp; omega
                              have d_ack : (((ack : Nat) : Int) != 0) = true := by simp; omega
                              go_wp2_with fail
                              go_ret
                              exact ⟨ret_bool (decide_eq_false (by omega)), below_box _⟩
                          · have e_pconn : (((pconn : Nat) : Int) == 0) = false := by simp; omega
                            have d_pconn : (((pconn : Nat) : Int) != 0) = true := by simp; omega
                            go_wp2_with fail
                            go_ret
                            exact ⟨ret_bool (decide_eq_false (by omega)), below_box _⟩
                        · have e_pinc : (((pinc : Nat) : Int) == 0) = false := by simp; omega
                          have d_pinc : (((pinc : Nat) : Int) != 0) = true := by simp; omega
                          by_cases z_pconn : pconn = 0
                          · have e_pconn : (((pconn : Nat) : Int) == 0) = true := by simp; omega
                            have d_pconn : (((pconn : Nat) : Int) != 0) = false := by simp; omega
                            go_wp2_with fail
                            go_ret
                            exact ⟨ret_bool (decide_eq_false (by omega)), below_box _⟩
                          · have e_pconn : (((pconn : Nat) : Int) == 0) = false := by simp; omega
                            have d_pconn : (((pconn : Nat) : Int) != 0) = true := by simp; omega
                            by_cases i_kind1 : kind = 1
                            · have ei_kind1 : (kind == 1) = true := by simp; omega
                              by_cases z_seq : seq = 0
                              · have e_seq : (((seq : Nat) : Int) == 0) = true := by simp; omega
                                have d_seq : (((seq : Nat) : Int) != 0) = false := by simp; omega
                                by_cases hn0 : n = 0
                                · have e_n : (((n : Nat) : Int) == 0) = true := by simp; omega
                                  go_wp2_with fail
                                  go_ret
                                  exact ⟨ret_bool (decide_eq_true (by omega)), below_box _⟩
                                · have e_n : (((n : Nat) : Int) == 0) = false := by simp; omega
                                  go_wp2_with fail
                                  go_ret
                                  exact ⟨ret_bool (decide_eq_false (by omega)), below_box _⟩
                              · have e_seq : (((seq : Nat) : Int) == 0) = false := by simp; omega
                                have d_seq : (((seq : Nat) : Int) != 0) = true := by simp; omega
                                go_wp2_with fail
                                go_ret
                                exact ⟨ret_bool (decide_eq_false (by omega)), below_box _⟩
                            · have ei_kind1 : (kind == 1) = false := by simp; omega
                              by_cases i_kind2 : kind = 2
                              · have ei_kind2 : (kind == 2) = true := by simp; omega
                                by_cases z_seq : seq = 0
                                · have e_seq : (((seq : Nat) : Int) == 0) = true := by simp; omega
                                  have d_seq : (((seq : Nat) : Int) != 0) = false := by simp; omega
                                  go_wp2_with fail
                                  go_ret
                                  exact ⟨ret_bool (decide_eq_false (by omega)), below_box _⟩
                                · have e_seq : (((seq : Nat) : Int) == 0) = false := by simp; omega
                                  have d_seq : (((seq : Nat) : Int) != 0) = true := by simp; omega
                                  by_cases hn1 : 1 ≤ n
                                  · go_wp2_with fail
                                    go_ret
                                    exact ⟨ret_bool (decide_eq_decide.2 (by omega)), below_box _⟩
                                  · go_wp2_with fail
                                    go_ret
                                    exact ⟨ret_bool (decide_eq_false (by omega)), below_box _⟩
                              · have ei_kind2 : (kind == 2) = false := by simp; omega
                                go_wp2_with fail
                                go_ret
                                exact ⟨ret_bool (decide_eq_false (by omega)), below_box _⟩
                  · rw [countB_no c_seq]
                    go_wp2_with fail
                    go_ret
                    exact ⟨ret_bool (decide_eq_false (by omega)), below_box _⟩
                · rw [countB_no c_ack]
                  go_wp2_with fail
                  go_ret
                  exact ⟨ret_bool (decide_eq_false (by omega)), below_box _⟩
              · rw [countB_no c_pconn]
                go_wp2_with fail
                go_ret
                exact ⟨ret_bool (decide_eq_false (by omega)), below_box _⟩
            · rw [countB_no c_pinc]
              go_wp2_with fail
              go_ret
              exact ⟨ret_bool (decide_eq_false (by omega)), below_box _⟩
          · rw [countB_no c_conn]
            go_wp2_with fail
            go_ret
            exact ⟨ret_bool (decide_eq_false (by omega)), below_box _⟩
        · rw [countB_no c_inc]
          go_wp2_with fail
          go_ret
          exact ⟨ret_bool (decide_eq_false (by omega)), below_box _⟩
    · rw [nodeB_no h2]
      go_wp2_with fail
      go_ret
      exact ⟨ret_bool (decide_eq_false (by omega)), below_box _⟩
  · rw [nodeB_no h1]
    go_wp2_with fail
    go_ret
    exact ⟨ret_bool (decide_eq_false (by omega)), below_box _⟩
end Go.Proofs.YtcjafbpgjlcdpaaDoor
