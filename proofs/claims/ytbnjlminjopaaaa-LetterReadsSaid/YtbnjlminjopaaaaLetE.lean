/- The walk of letter.Encode. -/
import Derived.Test.YtbnjlminjopaaaaLetP
namespace Go.Proofs.Ytbnjlminjopaaaa
open Go Go.RowKit
set_option linter.unusedVariables false
set_option maxRecDepth 100000

theorem Lt.may_iff {x : Lt} (h : x.may = true) : (1 ≤ x.node ∧ x.node ≤ 10 ∧ x.pinc ≠ 0) ∧ ((1 ≤ x.snode ∧ x.snode ≤ 10 ∧ x.sinc ≠ 0) ∧ (x.round = 0 ∨ x.snode ≤ 4)) ∧
    ((x.kind = 7 ∧ 1 ≤ x.n ∧ x.n ≤ 16 ∧ x.body.length ≤ 64 ∧ x.cid = 0 ∧ x.cut.length = 0 ∧ x.want = false) ∨ (x.kind = 8 ∧ x.n = 0 ∧ x.body.length = 0 ∧ x.cid ≠ 0 ∧ (1 ≤ x.cut.length ∧ x.cut.length ≤ 6 ∧ ∀ y ∈ x.cut, y ≤ 16) ∧ x.want = false) ∨ (x.kind = 9 ∧ x.n = 0 ∧ x.body.length = 0 ∧ x.cid = 0 ∧ (1 ≤ x.cut.length ∧ x.cut.length ≤ 6 ∧ ∀ y ∈ x.cut, y ≤ 16))) := by
  unfold Lt.may letMB at h
  rw [Bool.and_eq_true, Bool.and_eq_true] at h
  obtain ⟨h1, h2, h3⟩ := h
  refine ⟨of_decide_eq_true h1, of_decide_eq_true h2, ?_⟩
  rcases of_decide_eq_true h3 with h | ⟨a, b, c, d, e, f⟩ | ⟨a, b, c, d, e⟩
  · exact .inl h
  · exact .inr (.inl ⟨a, b, c, d, of_decide_eq_true e, f⟩)
  · exact .inr (.inr ⟨a, b, c, d, of_decide_eq_true e⟩)
theorem mayL {w : World} {B : Nat} {x : Lt} {A A2 : Option Addr} {c c2 : Nat} {b : Bool} (hb : x.may = b) (hA : Has w B A2 (u64s x.cut)) (hB : B ≤ w.heap.size) (h1 : x.body.length ≤ 1000000000) (h2 : x.cut.length ≤ 1000000) (hx : ∀ y ∈ x.cut, y < 18446744073709551616) :
    Calls Try.prog 11 #[.agg (x.cells A c A2 c2)] w fun e w' => e = .returned (.bool b) ∧ Below w.heap.size w w' := by
  have h := letMay_any w B x.kind x.node x.pinc x.round x.snode x.sinc x.n x.body.length x.cid x.cut x.want A A2 c c2 hA hB h1 h2 hx
  rw [show letMB x.kind x.node x.pinc x.round x.snode x.sinc x.n x.body.length x.cid x.cut x.want = b from hb] at h
  exact h
set_option maxHeartbeats 1600000 in
theorem encL_no (w : World) (B : Nat) (x : Lt) (A A2 : Option Addr) (c c2 : Nat) (hA : Has w B A2 (u64s x.cut)) (hB : B ≤ w.heap.size) (h1 : x.body.length ≤ 1000000000) (h2 : x.cut.length ≤ 1000000) (hx : ∀ y ∈ x.cut, y < 18446744073709551616) (hm : x.may = false) :
    Calls Try.prog 16 #[.agg (x.cells A c A2 c2)] w fun e w' => e = .returned (.tuple #[.slice none 0 0, .int .i64 3]) ∧ Below w.heap.size w w' := by
  have HM := mayL (w := w.alloc (.cells (x.cells A c A2 c2) 30)) (A := A) (c := c) (c2 := c2) hm (hA.alloc hB _) (le_alloc hB _) h1 h2 hx
  clear hA hm hx h1 h2 hB
  obtain ⟨kind, node, pinc, round, snode, sinc, n, body, cid, cut, want⟩ := x
  simp only [Lt.cells] at *
  go_enter Try.func16, Try.ntmps16
  go_wp2_with fail
  refine HM.mono ?_
  rintro e w1 ⟨rfl, hb1⟩
  go_wp2_with fail
  go_ret2
  exact ⟨rfl, (below_box _).trans (hb1.mono (by simp))⟩

theorem sep_byBaseL {w0 w : World} {Ps : List SP} {i : Nat} {v : Value} {l : List UInt8} (h : Sep w0 w Ps) (hi : Ps[i]? = some (By v l)) : Own w w0.heap.size v l := by
  obtain ⟨F, ⟨h1, hF⟩, _, hlt, _⟩ := h.upd hi
  refine ⟨h1.1, ?_⟩
  rcases h1.2 with e | ⟨k, cap, cur, rfl, f1, f2, f3⟩
  · exact .inl e
  · exact .inr ⟨k, cap, cur, rfl, (hlt k ((hF k).2 rfl)).1, f2, f3⟩
set_option maxHeartbeats 6400000 in
theorem encL_core (w : World) (kn nn : Nat) (pinc round : Nat) (sn sinc n : Nat) (body : List UInt8) (cid : Nat) (cut : List Nat) (want : Bool) (A A2 : Option Addr) (c c2 : Nat) (hA : Has w w.heap.size A (us body)) (hA2 : Has w w.heap.size A2 (u64s cut)) (hm : (Lt.mk kn nn pinc round sn sinc n body cid cut want).may = true) (hk : kn = 7 ∨ kn = 8 ∨ kn = 9) (hn1 : nn < 256) (hn2 : sn < 256) (hn3 : n < 256)
    (hx1 : pinc < 18446744073709551616) (hx2 : round < 18446744073709551616) (hx3 : sinc < 18446744073709551616) (hx4 : cid < 18446744073709551616) (hbl : body.length ≤ 64) (hcl : cut.length ≤ 6) (hcx : ∀ y ∈ cut, y < 256) :
    Calls Try.prog 16 #[.agg #[.int .i64 (kn : Int), .int .i64 (nn : Int), .int .u64 (pinc : Int), .int .u64 (round : Int), .int .i64 (sn : Int), .int .u64 (sinc : Int), .int .u64 (n : Int), .slice A body.length c, .int .u64 (cid : Int), .slice A2 cut.length c2, .bool want]] w fun e w' => ∃ v, e = .returned (.tuple #[v, .int .i64 0]) ∧ Own w' w.heap.size v (Lt.mk kn nn pinc round sn sinc n body cid cut want).plain ∧ Below w.heap.size w w' := by
  have HA := Lib.hid hA
  have HA2 := Lib.hid hA2
  have HX1 := Lib.hid hx1
  have HX2 := Lib.hid hx2
  have HX3 := Lib.hid hx3
  have HX4 := Lib.hid hx4
  have HCX := Lib.hid hcx
  have HM := mayL (w := w.alloc (.cells #[.int .i64 (kn : Int), .int .i64 (nn : Int), .int .u64 (pinc : Int), .int .u64 (round : Int), .int .i64 (sn : Int), .int .u64 (sinc : Int), .int .u64 (n : Int), .slice A body.length c, .int .u64 (cid : Int), .slice A2 cut.length c2, .bool want] 30)) (x := (Lt.mk kn nn pinc round sn sinc n body cid cut want)) (A := A) (c := c) (c2 := c2) hm (hA2.alloc (Nat.le_refl _) _) (le_alloc (Nat.le_refl _) _) (by simp only; omega) (by simp only; omega) (fun y hy => by have := hcx y hy; omega)
  simp only [Lt.cells] at HM
  clear hA hA2 hm hx1 hx2 hx3 hx4 hcx
  have HS0 := Lib.hid (show Sep w (w.alloc (.cells #[.int .i64 (kn : Int), .int .i64 (nn : Int), .int .u64 (pinc : Int), .int .u64 (round : Int), .int .i64 (sn : Int), .int .u64 (sinc : Int), .int .u64 (n : Int), .slice A body.length c, .int .u64 (cid : Int), .slice A2 cut.length c2, .bool want] 30)) [Ce w.heap.size 30 #[.int .i64 (kn : Int), .int .i64 (nn : Int), .int .u64 (pinc : Int), .int .u64 (round : Int), .int .i64 (sn : Int), .int .u64 (sinc : Int), .int .u64 (n : Int), .slice A body.length c, .int .u64 (cid : Int), .slice A2 cut.length c2, .bool want]] from sep_ce (Sep.nil w) #[.int .i64 (kn : Int), .int .i64 (nn : Int), .int .u64 (pinc : Int), .int .u64 (round : Int), .int .i64 (sn : Int), .int .u64 (sinc : Int), .int .u64 (n : Int), .slice A body.length c, .int .u64 (cid : Int), .slice A2 cut.length c2, .bool want] 30)
  obtain ⟨P, HP⟩ : ∃ P, Hid ((Lt.mk kn nn pinc round sn sinc n body cid cut want).plain = P) := ⟨_, Lib.hid rfl⟩
  rw [HP.out]
  have hk2 : kn < 256 := by omega
  go_enter Try.func16, Try.ntmps16
  go_wp2_with fail
  refine HM.mono ?_
  rintro e w1 ⟨rfl, hb1⟩
  have HS1 := Lib.hid (HS0.out.grow hb1)
  clear HM HS0 hb1
  have HS2 := Lib.hid (show Sep w (w1.alloc (.cells #[.slice none 0 0] 52)) [Ce w.heap.size 30 #[.int .i64 (kn : Int), .int .i64 (nn : Int), .int .u64 (pinc : Int), .int .u64 (round : Int), .int .i64 (sn : Int), .int .u64 (sinc : Int), .int .u64 (n : Int), .slice A body.length c, .int .u64 (cid : Int), .slice A2 cut.length c2, .bool want], Wr w1.heap.size []] from sep_zeroWriter HS1.out)
  have hlt := sep_ceLt (i := 0) HS1.out rfl
  have k0 := sep_ceAt (i := 0) HS1.out rfl 0 rfl
  have m0 : ((kn : Nat) : Int) % 256 = ((kn : Nat) : Int) := by omega
  go_wp2_with fail
  clear k0 m0 hlt HS1
  obtain ⟨w2, HW2⟩ : ∃ W, Hid (w1.alloc (.cells #[.slice none 0 0] 52) = W) := ⟨_, Lib.hid rfl⟩
  obtain ⟨g2, HG2⟩ : ∃ g, Hid (w1.heap.size = g) := ⟨_, Lib.hid rfl⟩
  rw [HW2.out, HG2.out] at HS2 ⊢
  refine (sep_writes (i := 1) (l' := [] ++ Code.wide 1 kn) HS2.out rfl (fun r hr => wU8_any _ 0 g2 r [] kn hr (Nat.zero_le _) (by omega) (by simp))).mono ?_
  rintro e w3 ⟨rfl, hs3⟩
  have HS3 := Lib.hid (show Sep w w3 [Ce w.heap.size 30 #[.int .i64 (kn : Int), .int .i64 (nn : Int), .int .u64 (pinc : Int), .int .u64 (round : Int), .int .i64 (sn : Int), .int .u64 (sinc : Int), .int .u64 (n : Int), .slice A body.length c, .int .u64 (cid : Int), .slice A2 cut.length c2, .bool want], Wr g2 [UInt8.ofNat kn]] from hs3)
  clear hs3 HS2
  have k1 := sep_ceAt (i := 0) HS3.out rfl 1 rfl
  have k2 := sep_ceAt (i := 0) HS3.out rfl 2 rfl
  have HS3a := Lib.hid (HS3.out.alloc (.cells #[.int .i64 (nn : Int), .int .u64 (pinc : Int)] 24))
  go_wp2_with fail
  clear k1 k2 HS3
  refine (sep_putP (i := 1) (node := nn) (inc := pinc) (b := w3.heap.size) (o := 0) HS3a.out rfl (by simp [go_sem]) (by simp [go_sem]) hn1 HX1.out (by simp)).mono ?_
  rintro e w4 ⟨rfl, hs4⟩
  obtain ⟨L4, HL4⟩ : ∃ L, Hid ([UInt8.ofNat kn] ++ [UInt8.ofNat nn] ++ Code.short pinc = L) := ⟨_, Lib.hid rfl⟩
  have hl4 : L4.length ≤ 20 := by rw [← HL4.out]; have := (Code.short_length pinc).2; simp; omega
  have HS4 := Lib.hid (show Sep w w4 [Ce w.heap.size 30 #[.int .i64 (kn : Int), .int .i64 (nn : Int), .int .u64 (pinc : Int), .int .u64 (round : Int), .int .i64 (sn : Int), .int .u64 (sinc : Int), .int .u64 (n : Int), .slice A body.length c, .int .u64 (cid : Int), .slice A2 cut.length c2, .bool want], Wr g2 L4] by rw [← HL4.out]; exact hs4)
  clear hs4 HS3a
  have k3 := sep_ceAt (i := 0) HS4.out rfl 3 rfl
  have k4 := sep_ceAt (i := 0) HS4.out rfl 4 rfl
  have k5 := sep_ceAt (i := 0) HS4.out rfl 5 rfl
  go_wp2_with fail
  clear k3 k4 k5
  refine (sep_putId (i := 1) (round := round) (node := sn) (inc := sinc) HS4.out rfl hn2 HX2.out HX3.out (by omega)).mono ?_
  rintro e w5 ⟨rfl, hs5⟩
  obtain ⟨L5, HL5⟩ : ∃ L, Hid (L4 ++ Code.short round ++ [UInt8.ofNat sn] ++ Code.short sinc = L) := ⟨_, Lib.hid rfl⟩
  have hl5 : L5.length ≤ 60 := by rw [← HL5.out]; have := (Code.short_length round).2; have := (Code.short_length sinc).2; simp; omega
  have HS5 := Lib.hid (show Sep w w5 [Ce w.heap.size 30 #[.int .i64 (kn : Int), .int .i64 (nn : Int), .int .u64 (pinc : Int), .int .u64 (round : Int), .int .i64 (sn : Int), .int .u64 (sinc : Int), .int .u64 (n : Int), .slice A body.length c, .int .u64 (cid : Int), .slice A2 cut.length c2, .bool want], Wr g2 L5] by rw [← HL5.out]; exact hs5)
  clear hs5 HS4
  have k0 := sep_ceAt (i := 0) HS5.out rfl 0 rfl
  rcases hk with rfl | rfl | rfl
  · have k6 := sep_ceAt (i := 0) HS5.out rfl 6 rfl
    have m6 : ((n : Nat) : Int) % 256 = ((n : Nat) : Int) := by omega
    go_wp2_with fail
    clear k0 k6 m6
    refine (sep_writes (i := 1) (l' := L5 ++ Code.wide 1 n) HS5.out rfl (fun r hr => wU8_any _ 0 g2 r _ n hr (Nat.zero_le _) (by omega) (by first | omega | (simp; omega)))).mono ?_
    rintro e w6 ⟨rfl, hs⟩
    have HS6 := Lib.hid (show Sep w w6 [Ce w.heap.size 30 #[.int .i64 7, .int .i64 (nn : Int), .int .u64 (pinc : Int), .int .u64 (round : Int), .int .i64 (sn : Int), .int .u64 (sinc : Int), .int .u64 (n : Int), .slice A body.length c, .int .u64 (cid : Int), .slice A2 cut.length c2, .bool want], Wr g2 (L5 ++ [UInt8.ofNat n])] from hs)
    clear hs HS5
    have k7 := sep_ceAt (i := 0) HS6.out rfl 7 rfl
    have t7 := run_str (c := c) (HS6.out.has HA.out)
    go_wp2_with fail
    clear k7 t7
    refine (sep_writes (i := 1) (l' := (L5 ++ [UInt8.ofNat n]) ++ Code.text body) HS6.out rfl (fun r hr => textW_any w6 0 g2 r _ body hr (Nat.zero_le _) (by first | omega | (simp; omega)))).mono ?_
    rintro e w7 ⟨rfl, hs7⟩
    have htl : (Code.text body).length ≤ 80 := by have := (Code.short_length body.length).2; unfold Code.text; rw [List.length_append]; omega
    have HS7 := Lib.hid (show Sep w w7 [Ce w.heap.size 30 #[.int .i64 7, .int .i64 (nn : Int), .int .u64 (pinc : Int), .int .u64 (round : Int), .int .i64 (sn : Int), .int .u64 (sinc : Int), .int .u64 (n : Int), .slice A body.length c, .int .u64 (cid : Int), .slice A2 cut.length c2, .bool want], Wr g2 ((L5 ++ [UInt8.ofNat n]) ++ Code.text body)] from hs7)
    clear hs7 HS6
    have k0 := sep_ceAt (i := 0) HS7.out rfl 0 rfl
    go_wp2_with fail
    clear k0
    refine (sep_bytes (i := 1) HS7.out rfl (by first | omega | (simp; omega))).mono ?_
    rintro e w9 ⟨v9, rfl, hs9⟩
    have HS9 := Lib.hid (show Sep w w9 [Ce w.heap.size 30 #[.int .i64 7, .int .i64 (nn : Int), .int .u64 (pinc : Int), .int .u64 (round : Int), .int .i64 (sn : Int), .int .u64 (sinc : Int), .int .u64 (n : Int), .slice A body.length c, .int .u64 (cid : Int), .slice A2 cut.length c2, .bool want], Wr g2 _, By v9 P] by rw [show P = (L5 ++ [UInt8.ofNat n]) ++ Code.text body by rw [← HP.out, ← HL5.out, ← HL4.out]; unfold Lt.plain Lt.head Lt.tail; simp]; exact hs9)
    clear hs9
    go_wp2_with fail
    obtain ⟨A9, c9, rfl, _, _, _⟩ := sep_byForm (i := 2) HS9.out rfl
    go_ret2
    exact ⟨_, rfl, sep_byBaseL (i := 2) HS9.out rfl, HS9.out.bel⟩
  · have k8 := sep_ceAt (i := 0) HS5.out rfl 8 rfl
    go_wp2_with fail
    clear k0 k8
    refine (sep_writes (i := 1) (l' := L5 ++ Code.short cid) HS5.out rfl (fun r hr => uint_any w5 0 g2 r _ cid hr (Nat.zero_le _) HX4.out (by omega))).mono ?_
    rintro e w6 ⟨rfl, hs6⟩
    have hq := (Code.short_length cid).2
    have HS6 := Lib.hid (show Sep w w6 [Ce w.heap.size 30 #[.int .i64 8, .int .i64 (nn : Int), .int .u64 (pinc : Int), .int .u64 (round : Int), .int .i64 (sn : Int), .int .u64 (sinc : Int), .int .u64 (n : Int), .slice A body.length c, .int .u64 (cid : Int), .slice A2 cut.length c2, .bool want], Wr g2 (L5 ++ Code.short cid)] from hs6)
    clear hs6 HS5
    have k9 := sep_ceAt (i := 0) HS6.out rfl 9 rfl
    go_wp2_with fail
    clear k9
    refine (sep_cut (i := 1) HS6.out rfl HA2.out (by omega) HCX.out (by first | omega | (simp; omega))).mono ?_
    rintro e w7 ⟨rfl, hs7⟩
    have hct : (cutB cut).length ≤ 7 := by unfold cutB; simp; omega
    have HS7 := Lib.hid (show Sep w w7 [Ce w.heap.size 30 #[.int .i64 8, .int .i64 (nn : Int), .int .u64 (pinc : Int), .int .u64 (round : Int), .int .i64 (sn : Int), .int .u64 (sinc : Int), .int .u64 (n : Int), .slice A body.length c, .int .u64 (cid : Int), .slice A2 cut.length c2, .bool want], Wr g2 ((L5 ++ Code.short cid) ++ cutB cut)] from hs7)
    clear hs7 HS6
    have k0 := sep_ceAt (i := 0) HS7.out rfl 0 rfl
    go_wp2_with fail
    clear k0
    refine (sep_bytes (i := 1) HS7.out rfl (by first | omega | (simp; omega))).mono ?_
    rintro e w9 ⟨v9, rfl, hs9⟩
    have HS9 := Lib.hid (show Sep w w9 [Ce w.heap.size 30 #[.int .i64 8, .int .i64 (nn : Int), .int .u64 (pinc : Int), .int .u64 (round : Int), .int .i64 (sn : Int), .int .u64 (sinc : Int), .int .u64 (n : Int), .slice A body.length c, .int .u64 (cid : Int), .slice A2 cut.length c2, .bool want], Wr g2 _, By v9 P] by rw [show P = (L5 ++ Code.short cid) ++ cutB cut by rw [← HP.out, ← HL5.out, ← HL4.out]; unfold Lt.plain Lt.head Lt.tail; simp]; exact hs9)
    clear hs9
    go_wp2_with fail
    obtain ⟨A9, c9, rfl, _, _, _⟩ := sep_byForm (i := 2) HS9.out rfl
    go_ret2
    exact ⟨_, rfl, sep_byBaseL (i := 2) HS9.out rfl, HS9.out.bel⟩
  · have k9 := sep_ceAt (i := 0) HS5.out rfl 9 rfl
    go_wp2_with fail
    clear k0 k9
    refine (sep_cut (i := 1) HS5.out rfl HA2.out (by omega) HCX.out (by omega)).mono ?_
    rintro e w6 ⟨rfl, hs6⟩
    have hct : (cutB cut).length ≤ 7 := by unfold cutB; simp; omega
    have HS6 := Lib.hid (show Sep w w6 [Ce w.heap.size 30 #[.int .i64 9, .int .i64 (nn : Int), .int .u64 (pinc : Int), .int .u64 (round : Int), .int .i64 (sn : Int), .int .u64 (sinc : Int), .int .u64 (n : Int), .slice A body.length c, .int .u64 (cid : Int), .slice A2 cut.length c2, .bool want], Wr g2 (L5 ++ cutB cut)] from hs6)
    clear hs6 HS5
    have k0 := sep_ceAt (i := 0) HS6.out rfl 0 rfl
    have k10 := sep_ceAt (i := 0) HS6.out rfl 10 rfl
    cases want with
    | true =>
      go_wp2_with fail
      clear k0 k10
      refine (sep_writes (i := 1) (l' := (L5 ++ cutB cut) ++ Code.wide 1 1) HS6.out rfl (fun r hr => wU8_any _ 0 g2 r _ 1 hr (Nat.zero_le _) (by omega) (by first | omega | (simp; omega)))).mono ?_
      rintro e w7 ⟨rfl, hs⟩
      have HS7 := Lib.hid (show Sep w w7 [Ce w.heap.size 30 #[.int .i64 9, .int .i64 (nn : Int), .int .u64 (pinc : Int), .int .u64 (round : Int), .int .i64 (sn : Int), .int .u64 (sinc : Int), .int .u64 (n : Int), .slice A body.length c, .int .u64 (cid : Int), .slice A2 cut.length c2, .bool true], Wr g2 ((L5 ++ cutB cut) ++ [1])] from hs)
      clear hs HS6
      go_wp2_with fail
      refine (sep_bytes (i := 1) HS7.out rfl (by first | omega | (simp; omega))).mono ?_
      rintro e w9 ⟨v9, rfl, hs9⟩
      have HS9 := Lib.hid (show Sep w w9 [Ce w.heap.size 30 #[.int .i64 9, .int .i64 (nn : Int), .int .u64 (pinc : Int), .int .u64 (round : Int), .int .i64 (sn : Int), .int .u64 (sinc : Int), .int .u64 (n : Int), .slice A body.length c, .int .u64 (cid : Int), .slice A2 cut.length c2, .bool true], Wr g2 _, By v9 P] by rw [show P = (L5 ++ cutB cut) ++ [1] by rw [← HP.out, ← HL5.out, ← HL4.out]; unfold Lt.plain Lt.head Lt.tail; simp]; exact hs9)
      clear hs9
      go_wp2_with fail
      obtain ⟨A9, c9, rfl, _, _, _⟩ := sep_byForm (i := 2) HS9.out rfl
      go_ret2
      exact ⟨_, rfl, sep_byBaseL (i := 2) HS9.out rfl, HS9.out.bel⟩
    | false =>
      go_wp2_with fail
      clear k0 k10
      refine (sep_writes (i := 1) (l' := (L5 ++ cutB cut) ++ Code.wide 1 0) HS6.out rfl (fun r hr => wU8_any _ 0 g2 r _ 0 hr (Nat.zero_le _) (by omega) (by first | omega | (simp; omega)))).mono ?_
      rintro e w7 ⟨rfl, hs⟩
      have HS7 := Lib.hid (show Sep w w7 [Ce w.heap.size 30 #[.int .i64 9, .int .i64 (nn : Int), .int .u64 (pinc : Int), .int .u64 (round : Int), .int .i64 (sn : Int), .int .u64 (sinc : Int), .int .u64 (n : Int), .slice A body.length c, .int .u64 (cid : Int), .slice A2 cut.length c2, .bool false], Wr g2 ((L5 ++ cutB cut) ++ [0])] from hs)
      clear hs HS6
      go_wp2_with fail
      refine (sep_bytes (i := 1) HS7.out rfl (by first | omega | (simp; omega))).mono ?_
      rintro e w9 ⟨v9, rfl, hs9⟩
      have HS9 := Lib.hid (show Sep w w9 [Ce w.heap.size 30 #[.int .i64 9, .int .i64 (nn : Int), .int .u64 (pinc : Int), .int .u64 (round : Int), .int .i64 (sn : Int), .int .u64 (sinc : Int), .int .u64 (n : Int), .slice A body.length c, .int .u64 (cid : Int), .slice A2 cut.length c2, .bool false], Wr g2 _, By v9 P] by rw [show P = (L5 ++ cutB cut) ++ [0] by rw [← HP.out, ← HL5.out, ← HL4.out]; unfold Lt.plain Lt.head Lt.tail; simp]; exact hs9)
      clear hs9
      go_wp2_with fail
      obtain ⟨A9, c9, rfl, _, _, _⟩ := sep_byForm (i := 2) HS9.out rfl
      go_ret2
      exact ⟨_, rfl, sep_byBaseL (i := 2) HS9.out rfl, HS9.out.bel⟩
theorem encL_yes (w : World) (B : Nat) (x : Lt) (A A2 : Option Addr) (c c2 : Nat) (hA : Has w B A (us x.body)) (hA2 : Has w B A2 (u64s x.cut)) (hB : B ≤ w.heap.size) (hx1 : x.pinc < 18446744073709551616) (hx2 : x.round < 18446744073709551616) (hx3 : x.sinc < 18446744073709551616) (hx4 : x.cid < 18446744073709551616) (hm : x.may = true) :
    Calls Try.prog 16 #[.agg (x.cells A c A2 c2)] w fun e w' => ∃ v, e = .returned (.tuple #[v, .int .i64 0]) ∧ Own w' w.heap.size v x.plain ∧ Below w.heap.size w w' := by
  obtain ⟨⟨a1, a2, _⟩, ⟨⟨b1, b2, _⟩, _⟩, hk⟩ := Lt.may_iff hm
  obtain ⟨kind, node, pinc, round, snode, sinc, n, body, cid, cut, want⟩ := x
  simp only at *
  obtain ⟨kn, rfl⟩ := Int.eq_ofNat_of_zero_le (show 0 ≤ kind by rcases hk with h | h | h <;> omega)
  obtain ⟨nn, rfl⟩ := Int.eq_ofNat_of_zero_le (show 0 ≤ node by omega)
  obtain ⟨sn, rfl⟩ := Int.eq_ofNat_of_zero_le (show 0 ≤ snode by omega)
  have hc : ∀ y ∈ cut, y < 256 := by
    rcases hk with ⟨_, _, _, _, _, h, _⟩ | ⟨_, _, _, _, ⟨_, _, h⟩, _⟩ | ⟨_, _, _, _, _, _, h⟩
    · rw [List.eq_nil_of_length_eq_zero h]; simp
    · intro y hy; have := h y hy; omega
    · intro y hy; have := h y hy; omega
  exact encL_core w kn nn pinc round sn sinc n body cid cut want A A2 c c2 (hA.more hB) (hA2.more hB) hm (by rcases hk with h | h | h <;> omega) (by omega) (by omega) (by rcases hk with h | h | h <;> omega) hx1 hx2 hx3 hx4 (by rcases hk with h | h | h <;> omega) (by rcases hk with h | h | h <;> omega) hc
end Go.Proofs.Ytbnjlminjopaaaa
