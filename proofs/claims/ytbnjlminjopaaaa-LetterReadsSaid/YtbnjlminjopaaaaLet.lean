/- Letters: lives, names of views, cuts: may they be? The program's answers and the document's. -/
import Derived.Test.YtbnjlminjopaaaaCodeW3
import Derived.Deep.QuietTactic
import Derived.BigQuiet
namespace Go.Proofs.Ytbnjlminjopaaaa
open Go Go.RowKit
set_option linter.unusedVariables false
set_option maxRecDepth 100000

/-- a letter, its body and its cut but by what they hold -/
structure Lt where
  kind : Int
  node : Int
  pinc : Nat
  round : Nat
  snode : Int
  sinc : Nat
  n : Nat
  body : List UInt8
  cid : Nat
  cut : List Nat
  want : Bool
/-- its eleven cells -/
def Lt.cells (x : Lt) (A : Option Addr) (c : Nat) (A2 : Option Addr) (c2 : Nat) : Array Value := #[.int .i64 x.kind, .int .i64 x.node, .int .u64 (x.pinc : Int), .int .u64 (x.round : Int), .int .i64 x.snode, .int .u64 (x.sinc : Int), .int .u64 (x.n : Int), .slice A x.body.length c, .int .u64 (x.cid : Int), .slice A2 x.cut.length c2, .bool x.want]
def Lt.nil : Lt := ⟨0, 0, 0, 0, 0, 0, 0, [], 0, [], false⟩
def mayPB (node : Int) (inc : Nat) : Bool := decide (1 ≤ node ∧ node ≤ 10 ∧ inc ≠ 0)
def mayIdB (round : Nat) (node : Int) (inc : Nat) : Bool := decide ((1 ≤ node ∧ node ≤ 10 ∧ inc ≠ 0) ∧ (round = 0 ∨ node ≤ 4))
def mayCutB (l : List Nat) : Bool := decide (1 ≤ l.length ∧ l.length ≤ 6 ∧ ∀ x ∈ l, x ≤ 16)
theorem ret_bool {b c : Bool} (h : b = c) : Ending.returned (.bool c) = Ending.returned (.bool b) := by rw [h]
theorem below_box {w : World} (o : Obj) : Below w.heap.size w (w.alloc o) := (Below.refl _ _).alloc (Nat.le_refl _) _
set_option maxHeartbeats 800000 in
theorem procMay_any (w : World) (node : Int) (inc : Nat) : Calls Try.prog 20 #[.agg #[.int .i64 node, .int .u64 (inc : Int)]] w fun e w' => e = .returned (.bool (mayPB node inc)) ∧ Below w.heap.size w w' := by
  by_cases h1 : 1 ≤ node
  · by_cases h2 : node ≤ 10
    · by_cases h3 : inc = 0
      · have e_inc : (((inc : Nat) : Int) == 0) = true := by simp; omega
        have d_inc : (((inc : Nat) : Int) != 0) = false := by simp; omega
        have g_inc : decide ((0 : Int) < ((inc : Nat) : Int)) = false := decide_eq_false (by omega)
        go_enter Try.func20, Try.ntmps20
        go_wp2
        go_ret
        exact ⟨ret_bool (decide_eq_false (by omega)), below_box _⟩
      · have e_inc : (((inc : Nat) : Int) == 0) = false := by simp; omega
        have d_inc : (((inc : Nat) : Int) != 0) = true := by simp; omega
        have g_inc : decide ((0 : Int) < ((inc : Nat) : Int)) = true := decide_eq_true (by omega)
        go_enter Try.func20, Try.ntmps20
        go_wp2
        go_ret
        exact ⟨ret_bool (by first | exact decide_eq_true (by omega) | exact decide_eq_decide.2 (by omega)), below_box _⟩
    · go_enter Try.func20, Try.ntmps20
      go_wp2
      go_ret
      exact ⟨ret_bool (decide_eq_false (by omega)), below_box _⟩
  · go_enter Try.func20, Try.ntmps20
    go_wp2
    go_ret
    exact ⟨ret_bool (decide_eq_false (by omega)), below_box _⟩
set_option maxHeartbeats 800000 in
theorem ref03May_any (w : World) (node : Int) (inc : Nat) : Calls Try.prog 23 #[.agg #[.int .i64 node, .int .u64 (inc : Int)]] w fun e w' => e = .returned (.bool (mayPB node inc)) ∧ Below w.heap.size w w' := by
  by_cases h1 : 1 ≤ node
  · by_cases h2 : node ≤ 10
    · by_cases h3 : inc = 0
      · have e_inc : (((inc : Nat) : Int) == 0) = true := by simp; omega
        have d_inc : (((inc : Nat) : Int) != 0) = false := by simp; omega
        have g_inc : decide ((0 : Int) < ((inc : Nat) : Int)) = false := decide_eq_false (by omega)
        go_enter Try.func23, Try.ntmps23
        go_wp2
        go_ret
        exact ⟨ret_bool (decide_eq_false (by omega)), below_box _⟩
      · have e_inc : (((inc : Nat) : Int) == 0) = false := by simp; omega
        have d_inc : (((inc : Nat) : Int) != 0) = true := by simp; omega
        have g_inc : decide ((0 : Int) < ((inc : Nat) : Int)) = true := decide_eq_true (by omega)
        go_enter Try.func23, Try.ntmps23
        go_wp2
        go_ret
        exact ⟨ret_bool (by first | exact decide_eq_true (by omega) | exact decide_eq_decide.2 (by omega)), below_box _⟩
    · go_enter Try.func23, Try.ntmps23
      go_wp2
      go_ret
      exact ⟨ret_bool (decide_eq_false (by omega)), below_box _⟩
  · go_enter Try.func23, Try.ntmps23
    go_wp2
    go_ret
    exact ⟨ret_bool (decide_eq_false (by omega)), below_box _⟩
set_option maxHeartbeats 800000 in
theorem viewMayId_any (w : World) (round : Nat) (node : Int) (inc : Nat) : Calls Try.prog 21 #[.agg #[.int .u64 (round : Int), .int .i64 node, .int .u64 (inc : Int)]] w fun e w' => e = .returned (.bool (mayIdB round node inc)) ∧ Below w.heap.size w w' := by
  go_enter Try.func21, Try.ntmps21
  go_wp2_with fail
  refine (procMay_any _ node inc).mono ?_
  rintro e w1 ⟨rfl, hb1⟩
  have hb := (below_box (w := w) (.cells #[.int .u64 (round : Int), .int .i64 node, .int .u64 (inc : Int)] 26)).trans (hb1.mono (by simp))
  have k0 : w1.cell? ⟨w.heap.size, 0, none⟩ = some (.int .u64 (round : Int)) := by rw [hb1.cell (by simp)]; simp [go_sem]
  have k1 : w1.cell? ⟨w.heap.size, 1, none⟩ = some (.int .i64 node) := by rw [hb1.cell (by simp)]; simp [go_sem]
  have HB := Lib.hid hb
  clear hb1 hb
  by_cases h1 : 1 ≤ node ∧ node ≤ 10 ∧ inc ≠ 0
  · rw [show mayPB node inc = true from decide_eq_true h1]
    by_cases h2 : round = 0
    · have e_round : (((round : Nat) : Int) == 0) = true := by simp; omega
      have d_round : (((round : Nat) : Int) != 0) = false := by simp; omega
      have g_round : decide ((0 : Int) < ((round : Nat) : Int)) = false := decide_eq_false (by omega)
      go_wp2_with fail
      go_ret
      exact ⟨ret_bool (decide_eq_true (by omega)), HB.out⟩
    · have e_round : (((round : Nat) : Int) == 0) = false := by simp; omega
      have d_round : (((round : Nat) : Int) != 0) = true := by simp; omega
      have g_round : decide ((0 : Int) < ((round : Nat) : Int)) = true := decide_eq_true (by omega)
      go_wp2_with fail
      go_ret
      exact ⟨ret_bool (decide_eq_decide.2 (by omega)), HB.out⟩
  · rw [show mayPB node inc = false from decide_eq_false h1]
    go_wp2_with fail
    go_ret
    exact ⟨ret_bool (decide_eq_false (by omega)), HB.out⟩
set_option maxHeartbeats 800000 in
theorem ref04MayId_any (w : World) (round : Nat) (node : Int) (inc : Nat) : Calls Try.prog 24 #[.agg #[.int .u64 (round : Int), .int .i64 node, .int .u64 (inc : Int)]] w fun e w' => e = .returned (.bool (mayIdB round node inc)) ∧ Below w.heap.size w w' := by
  go_enter Try.func24, Try.ntmps24
  go_wp2_with fail
  refine (ref03May_any _ node inc).mono ?_
  rintro e w1 ⟨rfl, hb1⟩
  have hb := (below_box (w := w) (.cells #[.int .u64 (round : Int), .int .i64 node, .int .u64 (inc : Int)] 26)).trans (hb1.mono (by simp))
  have k0 : w1.cell? ⟨w.heap.size, 0, none⟩ = some (.int .u64 (round : Int)) := by rw [hb1.cell (by simp)]; simp [go_sem]
  have k1 : w1.cell? ⟨w.heap.size, 1, none⟩ = some (.int .i64 node) := by rw [hb1.cell (by simp)]; simp [go_sem]
  have HB := Lib.hid hb
  clear hb1 hb
  by_cases h1 : 1 ≤ node ∧ node ≤ 10 ∧ inc ≠ 0
  · rw [show mayPB node inc = true from decide_eq_true h1]
    by_cases h2 : round = 0
    · have e_round : (((round : Nat) : Int) == 0) = true := by simp; omega
      have d_round : (((round : Nat) : Int) != 0) = false := by simp; omega
      have g_round : decide ((0 : Int) < ((round : Nat) : Int)) = false := decide_eq_false (by omega)
      go_wp2_with fail
      go_ret
      exact ⟨ret_bool (decide_eq_true (by omega)), HB.out⟩
    · have e_round : (((round : Nat) : Int) == 0) = false := by simp; omega
      have d_round : (((round : Nat) : Int) != 0) = true := by simp; omega
      have g_round : decide ((0 : Int) < ((round : Nat) : Int)) = true := decide_eq_true (by omega)
      go_wp2_with fail
      go_ret
      exact ⟨ret_bool (decide_eq_decide.2 (by omega)), HB.out⟩
  · rw [show mayPB node inc = false from decide_eq_false h1]
    go_wp2_with fail
    go_ret
    exact ⟨ret_bool (decide_eq_false (by omega)), HB.out⟩
theorem u64s_at {l : List Nat} {k : Nat} (h : k < l.length) : (u64s l)[k]? = some (.int .u64 ((l[k] : Nat) : Int)) := by simp [u64s, h]
theorem has_u64 {w : World} {B b o : Nat} {l : List Nat} (h : Has w B (some ⟨b, o, none⟩) (u64s l)) {k : Nat} (hk : k < l.length) : w.cell? ⟨b, o + k, none⟩ = some (.int .u64 ((l[k] : Nat) : Int)) := by
  obtain ⟨b', o', e, _, hc⟩ := h k _ (u64s_at hk)
  injection e with e
  injection e with e1 e2
  rw [e1, e2]
  exact hc
theorem has_u64_form {w : World} {B : Nat} {A : Option Addr} {l : List Nat} (h : Has w B A (u64s l)) (hl : 0 < l.length) : ∃ b o, A = some ⟨b, o, none⟩ ∧ b < B := by
  obtain ⟨b, o, e, hb, _⟩ := h 0 _ (u64s_at hl)
  exact ⟨b, o, e, hb⟩
set_option maxHeartbeats 800000 in
theorem max_any (w : World) (B : Nat) (A : Option Addr) (c : Nat) (l : List Nat) (hA : Has w B A (u64s l)) (h1 : 1 ≤ l.length) (h2 : l.length ≤ 1000000) (hx : ∀ x ∈ l, x < 18446744073709551616) :
    Calls Try.prog 52 #[.slice A l.length c] w fun e w' => (∃ m : Nat, e = .returned (.int .u64 (m : Int)) ∧ m ∈ l ∧ ∀ x ∈ l, x ≤ m) ∧ w = w' := by
  obtain ⟨b, o, rfl, hb⟩ := has_u64_form hA (by omega)
  have HC := Lib.hid (fun k hk => has_u64 hA (k := k) hk)
  have HX := Lib.hid hx
  clear hA hx
  have c0 := HC.out 0 (by omega)
  rw [Nat.add_zero] at c0
  obtain ⟨n, HN⟩ : ∃ n, Hid (l.length = n) := ⟨_, Lib.hid rfl⟩
  rw [HN.out] at h1 h2 ⊢
  obtain ⟨x0, Hx0⟩ : ∃ x, Hid (l[0]'(by rw [HN.out]; omega) = x) := ⟨_, Lib.hid rfl⟩
  rw [Hx0.out] at c0
  go_enter Try.func52, Try.ntmps52
  go_wp2_with fail
  clear c0
  go_loop [3, 4] (fun mv iv => ∃ k m : Nat, 1 ≤ k ∧ k ≤ n ∧ iv = .int .i64 (k : Int) ∧ mv = .int .u64 (m : Int) ∧ Hid (m ∈ l.take k) ∧ Hid (∀ x ∈ l.take k, x ≤ m)) (fun _ iv => n - (intOf iv).toNat)
  case atStart =>
    refine ⟨1, x0, Nat.le_refl _, h1, rfl, rfl, Lib.hid ?_, Lib.hid ?_⟩
    · rw [List.take_succ_eq_append_getElem (by rw [HN.out]; omega), Hx0.out]; simp
    · rw [List.take_succ_eq_append_getElem (by rw [HN.out]; omega), Hx0.out]; simp
  case round =>
    obtain ⟨k, m, hk1, hk, rfl, rfl, HMI, HMA⟩ := hrel
    by_cases hkt : k < n
    · have hkl : k < l.length := by rw [HN.out]; exact hkt
      have ck := HC.out k hkl
      have HT := Lib.hid (List.take_succ_eq_append_getElem hkl)
      obtain ⟨x, Hx⟩ : ∃ x, Hid (l[k] = x) := ⟨_, Lib.hid rfl⟩
      rw [Hx.out] at ck HT
      by_cases hmx : m < x
      · go_wp2_with fail
        go_round
        case rel =>
          refine ⟨k + 1, x, by omega, by omega, by go_num, rfl, Lib.hid ?_, Lib.hid ?_⟩
          · rw [HT.out]; simp
          · rw [HT.out]
            intro y hy
            rcases List.mem_append.1 hy with hy | hy
            · have := HMA.out y hy; omega
            · simp at hy; omega
        case measure => simp [intOf]; omega
      · go_wp2_with fail
        go_round
        case rel =>
          refine ⟨k + 1, m, by omega, by omega, by go_num, rfl, Lib.hid ?_, Lib.hid ?_⟩
          · rw [HT.out]; exact List.mem_append_left _ HMI.out
          · rw [HT.out]
            intro y hy
            rcases List.mem_append.1 hy with hy | hy
            · exact HMA.out y hy
            · simp at hy; omega
        case measure => simp [intOf]; omega
    · have HK := Lib.hid (show l.take k = l by rw [List.take_of_length_le]; rw [HN.out]; omega)
      rw [HK.out] at HMI HMA
      go_wp2_with fail
      go_ret
      exact ⟨⟨m, rfl, HMI.out, HMA.out⟩, rfl⟩
theorem mayCutB_no {l : List Nat} (h : l.length < 1 ∨ 6 < l.length ∨ ∃ x ∈ l, 16 < x) : mayCutB l = false := decide_eq_false (by
  rintro ⟨h1, h2, h3⟩
  rcases h with h | h | ⟨x, hx, h⟩
  · omega
  · omega
  · have := h3 x hx; omega)
set_option maxHeartbeats 800000 in
theorem mayCut_any (w : World) (B : Nat) (A : Option Addr) (c : Nat) (l : List Nat) (hA : Has w B A (u64s l)) (h2 : l.length ≤ 1000000) (hx : ∀ x ∈ l, x < 18446744073709551616) :
    Calls Try.prog 22 #[.slice A l.length c] w fun e w' => e = .returned (.bool (mayCutB l)) ∧ w = w' := by
  have HA := Lib.hid hA
  have HX := Lib.hid hx
  clear hA hx
  by_cases h1 : l.length < 1
  · go_enter Try.func22, Try.ntmps22
    go_wp2
    go_ret
    exact ⟨ret_bool (mayCutB_no (.inl h1)), rfl⟩
  · by_cases h6 : 6 < l.length
    · go_enter Try.func22, Try.ntmps22
      go_wp2
      go_ret
      exact ⟨ret_bool (mayCutB_no (.inr (.inl h6))), rfl⟩
    · go_enter Try.func22, Try.ntmps22
      go_wp2_with fail
      refine (max_any w B A c l HA.out (by omega) h2 HX.out).mono ?_
      rintro e w1 ⟨⟨m, rfl, hm1, hm2⟩, rfl⟩
      have HM1 := Lib.hid hm1
      have HM2 := Lib.hid hm2
      clear hm1 hm2
      go_wp2_with fail
      go_ret
      refine ⟨ret_bool (decide_eq_decide.2 ⟨fun h => ?_, fun h => ⟨by omega, by omega, fun x hx => ?_⟩⟩), rfl⟩
      · have := h.2.2 m HM1.out; omega
      · have := HM2.out x hx; omega
set_option maxHeartbeats 800000 in
theorem refCut_any (w : World) (B : Nat) (A : Option Addr) (c : Nat) (l : List Nat) (hA : Has w B A (u64s l)) (h2 : l.length ≤ 1000000) :
    Calls Try.prog 25 #[.slice A l.length c] w fun e w' => e = .returned (.bool (mayCutB l)) ∧ w = w' := by
  have HC := Lib.hid hA
  clear hA
  go_enter Try.func25, Try.ntmps25
  go_wp2_with fail
  go_loop [3] (fun iv => ∃ k : Nat, k ≤ l.length ∧ iv = .int .i64 (k : Int) ∧ Hid (∀ x ∈ l.take k, x ≤ 16)) (fun iv => l.length - (intOf iv).toNat)
  case atStart => exact ⟨0, Nat.zero_le _, rfl, Lib.hid (by simp)⟩
  case round =>
    obtain ⟨k, hk, rfl, HMA⟩ := hrel
    by_cases hkt : k < l.length
    · obtain ⟨b, o, rfl, hb⟩ := has_u64_form HC.out (by omega)
      have ck := has_u64 HC.out hkt
      have HT := Lib.hid (List.take_succ_eq_append_getElem hkt)
      have HME := Lib.hid (List.getElem_mem hkt)
      obtain ⟨x, Hx⟩ : ∃ x, Hid (l[k] = x) := ⟨_, Lib.hid rfl⟩
      rw [Hx.out] at ck HT HME
      by_cases hmx : 16 < x
      · go_wp2_with fail
        go_ret
        exact ⟨ret_bool (mayCutB_no (.inr (.inr ⟨x, HME.out, hmx⟩))), rfl⟩
      · go_wp2_with fail
        go_round
        case rel =>
          refine ⟨k + 1, by omega, by go_num, Lib.hid ?_⟩
          rw [HT.out]
          intro y hy
          rcases List.mem_append.1 hy with hy | hy
          · exact HMA.out y hy
          · simp at hy; omega
        case measure => simp [intOf]; omega
    · have HK := Lib.hid (show l.take k = l by rw [List.take_of_length_le]; omega)
      rw [HK.out] at HMA
      by_cases h1 : 1 ≤ l.length
      · go_wp2_with fail
        go_ret
        exact ⟨ret_bool (decide_eq_decide.2 ⟨fun h => by omega, fun h => ⟨h1, by omega, HMA.out⟩⟩), rfl⟩
      · go_wp2_with fail
        go_ret
        exact ⟨ret_bool (mayCutB_no (.inl (by omega))), rfl⟩
end Go.Proofs.Ytbnjlminjopaaaa
