/- May a letter be, as the program says. -/
import Derived.Test.YtbnjlminjopaaaaLet
namespace Go.Proofs.Ytbnjlminjopaaaa
open Go Go.RowKit
set_option linter.unusedVariables false
set_option linter.unusedSimpArgs false
set_option maxRecDepth 100000
/-- what a letter's kind asks -/
def letKB (kind : Int) (n nb cid cl : Nat) (cb want : Bool) : Bool := decide ((kind = 7 ∧ 1 ≤ n ∧ n ≤ 16 ∧ nb ≤ 64 ∧ cid = 0 ∧ cl = 0 ∧ want = false) ∨ (kind = 8 ∧ n = 0 ∧ nb = 0 ∧ cid ≠ 0 ∧ cb = true ∧ want = false) ∨ (kind = 9 ∧ n = 0 ∧ nb = 0 ∧ cid = 0 ∧ cb = true))
def letMB (kind node : Int) (pinc round : Nat) (snode : Int) (sinc n nb cid : Nat) (cut : List Nat) (want : Bool) : Bool := mayPB node pinc && (mayIdB round snode sinc && letKB kind n nb cid cut.length (mayCutB cut) want)
def Lt.may (x : Lt) : Bool := letMB x.kind x.node x.pinc x.round x.snode x.sinc x.n x.body.length x.cid x.cut x.want
theorem cells_at {W W' : World} {g : Nat} {t : TypeId} (cs : Array Value) (h : W.heap[g]? = some (.cells cs t (0, 0))) (hb : Below W.heap.size W W') (hg : g < W.heap.size) (j : Nat) (v : Value) (hv : cs[j]? = some v) : W'.cell? ⟨g, j, none⟩ = some v := by
  rw [hb.cell hg, cell_of_row W g j _ _ _ h]; exact hv
set_option maxHeartbeats 4000000 in
theorem letMay_any (w : World) (B : Nat) (kind node : Int) (pinc round : Nat) (snode : Int) (sinc n nb cid : Nat) (cut : List Nat) (want : Bool) (A A2 : Option Addr) (c c2 : Nat) (hA : Has w B A2 (u64s cut)) (hB : B ≤ w.heap.size) (hnb : nb ≤ 1000000000) (hcl : cut.length ≤ 1000000) (hx : ∀ x ∈ cut, x < 18446744073709551616) :
    Calls Try.prog 11 #[.agg #[.int .i64 kind, .int .i64 node, .int .u64 (pinc : Int), .int .u64 (round : Int), .int .i64 snode, .int .u64 (sinc : Int), .int .u64 (n : Int), .slice A nb c, .int .u64 (cid : Int), .slice A2 cut.length c2, .bool want]] w fun e w' => e = .returned (.bool (letMB kind node pinc round snode sinc n nb cid cut want)) ∧ Below w.heap.size w w' := by
  have HA := Lib.hid (hA.more hB)
  have HX := Lib.hid hx
  clear hA hx
  obtain ⟨W, HW⟩ : ∃ W, Hid (w.alloc (.cells #[.int .i64 kind, .int .i64 node, .int .u64 (pinc : Int), .int .u64 (round : Int), .int .i64 snode, .int .u64 (sinc : Int), .int .u64 (n : Int), .slice A nb c, .int .u64 (cid : Int), .slice A2 cut.length c2, .bool want] 30) = W) := ⟨_, Lib.hid rfl⟩
  have hWB : Below w.heap.size w W := by rw [← HW.out]; exact below_box _
  have hz : w.heap.size < W.heap.size := by rw [← HW.out]; simp
  have KS := fun W' (hb : Below W.heap.size W W') => cells_at (t := 30) #[.int .i64 kind, .int .i64 node, .int .u64 (pinc : Int), .int .u64 (round : Int), .int .i64 snode, .int .u64 (sinc : Int), .int .u64 (n : Int), .slice A nb c, .int .u64 (cid : Int), .slice A2 cut.length c2, .bool want] (show W.heap[w.heap.size]? = _ by rw [← HW.out]; exact heap_alloc_new w _) hb hz
  have HB0 := Lib.hid hWB
  go_enter Try.func11, Try.ntmps11
  go_wp2_with fail
  rw [HW.out]
  refine (procMay_any W node pinc).mono ?_
  rintro e w1 ⟨rfl, hb1⟩
  have hBw := hWB.trans (hb1.mono hWB.size)
  have HB1 := Lib.hid hb1
  have HB := Lib.hid hBw
  have k0 := (KS w1 HB1.out) 0 _ rfl
  have k1 := (KS w1 HB1.out) 1 _ rfl
  have k2 := (KS w1 HB1.out) 2 _ rfl
  have k3 := (KS w1 HB1.out) 3 _ rfl
  have k4 := (KS w1 HB1.out) 4 _ rfl
  have k5 := (KS w1 HB1.out) 5 _ rfl
  have k6 := (KS w1 HB1.out) 6 _ rfl
  have k7 := (KS w1 HB1.out) 7 _ rfl
  have k8 := (KS w1 HB1.out) 8 _ rfl
  have k9 := (KS w1 HB1.out) 9 _ rfl
  have k10 := (KS w1 HB1.out) 10 _ rfl
  clear hBw hb1 hWB
  cases hp : mayPB node pinc with
  | false =>
    go_wp2_with fail
    go_ret
    exact ⟨ret_bool (by unfold letMB; simp [hp]), HB.out⟩
  | true =>
      go_wp2_with fail
      refine (viewMayId_any w1 round snode sinc).mono ?_
      rintro e w2 ⟨rfl, hb2⟩
      have HB2 := Lib.hid (HB1.out.trans (hb2.mono HB1.out.size))
      have HB := Lib.hid (HB.out.trans (hb2.mono HB.out.size))
      clear k0 k1 k2 k3 k4 k5 k6 k7 k8 k9 k10
      have k0 := (KS w2 HB2.out) 0 _ rfl
      have k1 := (KS w2 HB2.out) 1 _ rfl
      have k2 := (KS w2 HB2.out) 2 _ rfl
      have k3 := (KS w2 HB2.out) 3 _ rfl
      have k4 := (KS w2 HB2.out) 4 _ rfl
      have k5 := (KS w2 HB2.out) 5 _ rfl
      have k6 := (KS w2 HB2.out) 6 _ rfl
      have k7 := (KS w2 HB2.out) 7 _ rfl
      have k8 := (KS w2 HB2.out) 8 _ rfl
      have k9 := (KS w2 HB2.out) 9 _ rfl
      have k10 := (KS w2 HB2.out) 10 _ rfl
      clear KS
      cases hi : mayIdB round snode sinc with
      | false =>
        go_wp2_with fail
        go_ret
        exact ⟨ret_bool (by unfold letMB; simp [hp, hi]), HB.out⟩
      | true =>
      have HA2 := Lib.hid (HA.out.below HB.out)
      by_cases i7 : kind = 7
      · subst i7
        by_cases z_cid : cid = 0
        · have e_cid : (((cid : Nat) : Int) == 0) = true := by simp; omega
          have d_cid : (((cid : Nat) : Int) != 0) = false := by simp; omega
          have g_cid : decide ((0 : Int) < ((cid : Nat) : Int)) = false := decide_eq_false (by omega)
          cases want with
          | true =>
            go_wp2_with fail
            go_ret
            exact ⟨ret_bool (by unfold letMB; simp [letKB, hp, hi] <;> omega), HB.out⟩
          | false =>
            by_cases h1 : 1 ≤ n
            · by_cases h2 : n ≤ 16
              · by_cases h3 : nb ≤ 64
                · by_cases hcl0 : cut.length = 0
                  · have e_cl : (((cut.length : Nat) : Int) == 0) = true := by simp; exact List.eq_nil_of_length_eq_zero hcl0
                    go_wp2_with fail
                    go_ret
                    exact ⟨ret_bool (by have hce : cut = [] := List.eq_nil_of_length_eq_zero hcl0; unfold letMB; simp [letKB, hp, hi, hce] <;> omega), HB.out⟩
                  · have e_cl : (((cut.length : Nat) : Int) == 0) = false := by simp; intro h; exact hcl0 (by rw [h]; rfl)
                    go_wp2_with fail
                    go_ret
                    exact ⟨ret_bool (by have hce : ¬ cut = [] := fun h => hcl0 (by rw [h]; rfl); unfold letMB; simp [letKB, hp, hi, hce] <;> omega), HB.out⟩
                · go_wp2_with fail
                  go_ret
                  exact ⟨ret_bool (by unfold letMB; simp [letKB, hp, hi] <;> omega), HB.out⟩
              · go_wp2_with fail
                go_ret
                exact ⟨ret_bool (by unfold letMB; simp [letKB, hp, hi] <;> omega), HB.out⟩
            · go_wp2_with fail
              go_ret
              exact ⟨ret_bool (by unfold letMB; simp [letKB, hp, hi] <;> omega), HB.out⟩
        · have e_cid : (((cid : Nat) : Int) == 0) = false := by simp; omega
          have d_cid : (((cid : Nat) : Int) != 0) = true := by simp; omega
          have g_cid : decide ((0 : Int) < ((cid : Nat) : Int)) = true := decide_eq_true (by omega)
          go_wp2_with fail
          go_ret
          exact ⟨ret_bool (by unfold letMB; simp [letKB, hp, hi] <;> omega), HB.out⟩
      · have e7 : (kind == 7) = false := by simp; omega
        have d7 : (kind != 7) = true := by simp; omega
        by_cases i8 : kind = 8
        · subst i8
          by_cases z_n : n = 0
          · have e_n : (((n : Nat) : Int) == 0) = true := by simp; omega
            have d_n : (((n : Nat) : Int) != 0) = false := by simp; omega
            have g_n : decide ((0 : Int) < ((n : Nat) : Int)) = false := decide_eq_false (by omega)
            by_cases z_nb : nb = 0
            · have e_nb : (((nb : Nat) : Int) == 0) = true := by simp; omega
              have d_nb : (((nb : Nat) : Int) != 0) = false := by simp; omega
              have g_nb : decide ((0 : Int) < ((nb : Nat) : Int)) = false := decide_eq_false (by omega)
              cases want with
              | true =>
                go_wp2_with fail
                go_ret
                exact ⟨ret_bool (by unfold letMB; simp [letKB, hp, hi] <;> omega), HB.out⟩
              | false =>
                by_cases z_cid : cid = 0
                · have e_cid : (((cid : Nat) : Int) == 0) = true := by simp; omega
                  have d_cid : (((cid : Nat) : Int) != 0) = false := by simp; omega
                  have g_cid : decide ((0 : Int) < ((cid : Nat) : Int)) = false := decide_eq_false (by omega)
                  go_wp2_with fail
                  go_ret
                  exact ⟨ret_bool (by unfold letMB; simp [letKB, hp, hi] <;> omega), HB.out⟩
                · have e_cid : (((cid : Nat) : Int) == 0) = false := by simp; omega
                  have d_cid : (((cid : Nat) : Int) != 0) = true := by simp; omega
                  have g_cid : decide ((0 : Int) < ((cid : Nat) : Int)) = true := decide_eq_true (by omega)
                  go_wp2_with fail
                  refine (mayCut_any w2 w.heap.size A2 c2 cut HA2.out (by omega) HX.out).mono ?_
                  rintro e w3 ⟨rfl, rfl⟩
                  obtain ⟨cb, HCB⟩ : ∃ b, Hid (mayCutB cut = b) := ⟨_, Lib.hid rfl⟩
                  rw [HCB.out]
                  go_wp2_with fail
                  go_ret
                  exact ⟨ret_bool (by unfold letMB; rw [HCB.out]; cases cb <;> simp [letKB, hp, hi] <;> omega), HB.out⟩
            · have e_nb : (((nb : Nat) : Int) == 0) = false := by simp; omega
              have d_nb : (((nb : Nat) : Int) != 0) = true := by simp; omega
              have g_nb : decide ((0 : Int) < ((nb : Nat) : Int)) = true := decide_eq_true (by omega)
              go_wp2_with fail
              go_ret
              exact ⟨ret_bool (by unfold letMB; simp [letKB, hp, hi] <;> omega), HB.out⟩
          · have e_n : (((n : Nat) : Int) == 0) = false := by simp; omega
            have d_n : (((n : Nat) : Int) != 0) = true := by simp; omega
            have g_n : decide ((0 : Int) < ((n : Nat) : Int)) = true := decide_eq_true (by omega)
            go_wp2_with fail
            go_ret
            exact ⟨ret_bool (by unfold letMB; simp [letKB, hp, hi] <;> omega), HB.out⟩
        · have e8 : (kind == 8) = false := by simp; omega
          have d8 : (kind != 8) = true := by simp; omega
          by_cases i9 : kind = 9
          · subst i9
            by_cases z_n : n = 0
            · have e_n : (((n : Nat) : Int) == 0) = true := by simp; omega
              have d_n : (((n : Nat) : Int) != 0) = false := by simp; omega
              have g_n : decide ((0 : Int) < ((n : Nat) : Int)) = false := decide_eq_false (by omega)
              by_cases z_nb : nb = 0
              · have e_nb : (((nb : Nat) : Int) == 0) = true := by simp; omega
                have d_nb : (((nb : Nat) : Int) != 0) = false := by simp; omega
                have g_nb : decide ((0 : Int) < ((nb : Nat) : Int)) = false := decide_eq_false (by omega)
                by_cases z_cid : cid = 0
                · have e_cid : (((cid : Nat) : Int) == 0) = true := by simp; omega
                  have d_cid : (((cid : Nat) : Int) != 0) = false := by simp; omega
                  have g_cid : decide ((0 : Int) < ((cid : Nat) : Int)) = false := decide_eq_false (by omega)
                  go_wp2_with fail
                  refine (mayCut_any w2 w.heap.size A2 c2 cut HA2.out (by omega) HX.out).mono ?_
                  rintro e w3 ⟨rfl, rfl⟩
                  obtain ⟨cb, HCB⟩ : ∃ b, Hid (mayCutB cut = b) := ⟨_, Lib.hid rfl⟩
                  rw [HCB.out]
                  go_wp2_with fail
                  go_ret
                  exact ⟨ret_bool (by unfold letMB; rw [HCB.out]; cases cb <;> simp [letKB, hp, hi] <;> omega), HB.out⟩
                · have e_cid : (((cid : Nat) : Int) == 0) = false := by simp; omega
                  have d_cid : (((cid : Nat) : Int) != 0) = true := by simp; omega
                  have g_cid : decide ((0 : Int) < ((cid : Nat) : Int)) = true := decide_eq_true (by omega)
                  go_wp2_with fail
                  go_ret
                  exact ⟨ret_bool (by unfold letMB; simp [letKB, hp, hi] <;> omega), HB.out⟩
              · have e_nb : (((nb : Nat) : Int) == 0) = false := by simp; omega
                have d_nb : (((nb : Nat) : Int) != 0) = true := by simp; omega
                have g_nb : decide ((0 : Int) < ((nb : Nat) : Int)) = true := decide_eq_true (by omega)
                go_wp2_with fail
                go_ret
                exact ⟨ret_bool (by unfold letMB; simp [letKB, hp, hi] <;> omega), HB.out⟩
            · have e_n : (((n : Nat) : Int) == 0) = false := by simp; omega
              have d_n : (((n : Nat) : Int) != 0) = true := by simp; omega
              have g_n : decide ((0 : Int) < ((n : Nat) : Int)) = true := decide_eq_true (by omega)
              go_wp2_with fail
              go_ret
              exact ⟨ret_bool (by unfold letMB; simp [letKB, hp, hi] <;> omega), HB.out⟩
          · have e9 : (kind == 9) = false := by simp; omega
            have d9 : (kind != 9) = true := by simp; omega
            by_cases z_n : n = 0
            · have e_n : (((n : Nat) : Int) == 0) = true := by simp; omega
              have d_n : (((n : Nat) : Int) != 0) = false := by simp; omega
              have g_n : decide ((0 : Int) < ((n : Nat) : Int)) = false := decide_eq_false (by omega)
              by_cases z_nb : nb = 0
              · have e_nb : (((nb : Nat) : Int) == 0) = true := by simp; omega
                have d_nb : (((nb : Nat) : Int) != 0) = false := by simp; omega
                have g_nb : decide ((0 : Int) < ((nb : Nat) : Int)) = false := decide_eq_false (by omega)
                by_cases z_cid : cid = 0
                · have e_cid : (((cid : Nat) : Int) == 0) = true := by simp; omega
                  have d_cid : (((cid : Nat) : Int) != 0) = false := by simp; omega
                  have g_cid : decide ((0 : Int) < ((cid : Nat) : Int)) = false := decide_eq_false (by omega)
                  cases want with
                  | true =>
                    go_wp2_with fail
                    go_ret
                    exact ⟨ret_bool (by unfold letMB; simp [letKB, hp, hi] <;> omega), HB.out⟩
                  | false =>
                    go_wp2_with fail
                    go_ret
                    exact ⟨ret_bool (by unfold letMB; simp [letKB, hp, hi] <;> omega), HB.out⟩
                · have e_cid : (((cid : Nat) : Int) == 0) = false := by simp; omega
                  have d_cid : (((cid : Nat) : Int) != 0) = true := by simp; omega
                  have g_cid : decide ((0 : Int) < ((cid : Nat) : Int)) = true := decide_eq_true (by omega)
                  go_wp2_with fail
                  go_ret
                  exact ⟨ret_bool (by unfold letMB; simp [letKB, hp, hi] <;> omega), HB.out⟩
              · have e_nb : (((nb : Nat) : Int) == 0) = false := by simp; omega
                have d_nb : (((nb : Nat) : Int) != 0) = true := by simp; omega
                have g_nb : decide ((0 : Int) < ((nb : Nat) : Int)) = true := decide_eq_true (by omega)
                go_wp2_with fail
                go_ret
                exact ⟨ret_bool (by unfold letMB; simp [letKB, hp, hi] <;> omega), HB.out⟩
            · have e_n : (((n : Nat) : Int) == 0) = false := by simp; omega
              have d_n : (((n : Nat) : Int) != 0) = true := by simp; omega
              have g_n : decide ((0 : Int) < ((n : Nat) : Int)) = true := decide_eq_true (by omega)
              go_wp2_with fail
              go_ret
              exact ⟨ret_bool (by unfold letMB; simp [letKB, hp, hi] <;> omega), HB.out⟩
end Go.Proofs.Ytbnjlminjopaaaa
