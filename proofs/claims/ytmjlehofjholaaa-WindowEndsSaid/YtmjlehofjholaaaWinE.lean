/- The walk of window.Acked. -/
import Derived.Test.YtmjlehofjholaaaWinD
import Derived.IntWalk
namespace Go.Proofs.Ytmjlehofjholaaa
open Go Go.RowKit
set_option linter.unusedVariables false
set_option maxRecDepth 100000

theorem u64_wrap {x : Int} (h0 : 0 ≤ x) (h1 : x < 18446744073709551616) : IntKind.u64.wrap x = x := by
  exact IntWalk.u64_in x ⟨h0, by omega⟩
def ackB (base : Nat) (L : List (List UInt8)) (upto : Nat) : Bool := mayB base L && decide (base < upto) && decide (upto - base ≤ min L.length 8)
def ackL (base : Nat) (L : List (List UInt8)) (upto : Nat) : List (List UInt8) := if ackB base L upto = true then L.drop (upto - base) else L
def ackV (base : Nat) (L : List (List UInt8)) (upto : Nat) : Nat := if ackB base L upto = true then upto else base
theorem ack_yes {base : Nat} {L : List (List UInt8)} {upto : Nat} (h : ackB base L upto = true) : ackL base L upto = L.drop (upto - base) ∧ ackV base L upto = upto := by simp [ackL, ackV, h]
theorem ack_no {base : Nat} {L : List (List UInt8)} {upto : Nat} (h : ackB base L upto = false) : ackL base L upto = L ∧ ackV base L upto = base := by simp [ackL, ackV, h]
def AckPost (w : World) (base : Nat) (L : List (List UInt8)) (upto : Nat) (e : Ending) (w' : World) : Prop :=
  Below w.heap.size w w' ∧ ∃ v, e = .returned (.tuple #[.agg #[.int .u64 (ackV base L upto : Int), v], .bool (ackB base L upto)]) ∧ OwnB w' w.heap.size v (ackL base L upto)
theorem run_fromB (A : Option Addr) (n c : Nat) (kd : IntKind) (k : Int) (k0 : Nat) (hk : k = (k0 : Int)) (h : k0 ≤ n) (hc : n ≤ c) (W : World) :
    (Instr.slice 23 (.slice A n c) (some (.int kd k)) none none).run Try.prog W = .ok (.slice (if c = k0 then A else A.map (·.add (k0 * 1))) (n - k0) (c - k0)) W := by
  subst hk
  obtain ⟨i0, hi, hz0, hz1, hz2⟩ := info_parts info_bs
  have he : Try.prog.elem 23 = 26 := by kernel_rfl
  rw [run_slice_l W 23 A n c (by kernel_rfl) kd (k0 : Int) (by omega) (by omega), he]
  simp [sizeOf, typeInfo, hi, hz1, sliced]

/-- ahead of the region, and behind it -/
structure Ak (w W0 : World) (base : Nat) (A : Option Addr) (c : Nat) (L : List (List UInt8)) : Prop where
  b0 : Below w.heap.size w W0
  z0 : W0.heap.size = w.heap.size + 2
  k1 : W0.cell? ⟨w.heap.size, 0, none⟩ = some (.int .u64 (base : Int))
  k2 : W0.cell? ⟨w.heap.size, 1, none⟩ = some (.slice A L.length c)
  k3 : W0.cell? ⟨w.heap.size + 1, 0, none⟩ = some (.int .u64 0)
  k4 : W0.cell? ⟨w.heap.size + 1, 1, none⟩ = some (.slice none 0 0)
  k5 : W0.frozen? ⟨w.heap.size + 1, 0, none⟩ = false
  k6 : W0.frozen? ⟨w.heap.size + 1, 1, none⟩ = false
  h0 : Bx W0 w.heap.size A L
theorem Ak.below {w W0 W1 : World} {base : Nat} {A : Option Addr} {c : Nat} {L : List (List UInt8)} (h : Ak w W0 base A c L) (hb : Below W0.heap.size W0 W1) (hz : W1.heap.size = W0.heap.size) : Ak w W1 base A c L := by
  have hz0 := h.z0
  obtain ⟨hc1, hf1⟩ := bcell hb
  exact ⟨h.b0.trans (hb.mono h.b0.size), by omega, (hc1 _ 0 (by omega)).trans h.k1, (hc1 _ 1 (by omega)).trans h.k2, (hc1 _ 0 (by omega)).trans h.k3, (hc1 _ 1 (by omega)).trans h.k4, (hf1 _ 0 (by omega)).trans h.k5, (hf1 _ 1 (by omega)).trans h.k6, h.h0.below (hb.mono h.b0.size)⟩
theorem Ak.new (w : World) (base : Nat) (A : Option Addr) (c : Nat) (L : List (List UInt8)) (h : Bx w w.heap.size A L) :
    Ak w ((w.alloc (.cells #[.int .u64 (base : Int), .slice A L.length c] 25)).alloc (.cells #[.int .u64 0, .slice none 0 0] 25)) base A c L := by
  have hb0 : Below w.heap.size w ((w.alloc (.cells #[.int .u64 (base : Int), .slice A L.length c] 25)).alloc (.cells #[.int .u64 0, .slice none 0 0] 25)) := ((Below.refl _ _).alloc (Nat.le_refl _) _).alloc (by simp) _
  exact ⟨hb0, by simp, by simp [go_sem], by simp [go_sem], by simp [go_sem], by simp [go_sem], by simp [go_sem], by simp [go_sem], h.below hb0⟩

set_option maxHeartbeats 1000000 in
theorem acked_a (w : World) (base upto : Nat) (A : Option Addr) (c : Nat) (L : List (List UInt8)) (h : Bx w w.heap.size A L) (hb : base < 18446744073709551616) (hu : upto < 18446744073709551616) (hf : Fit L) (hcc : L.length ≤ c) (hcm : c ≤ maxLen)
    (g1 : mayB base L = false) :
    Calls Try.prog 19 #[.agg #[.int .u64 (base : Int), .slice A L.length c], .int .u64 (upto : Int)] w (AckPost w base L upto) := by
  have hL := hf.1
  have H := Lib.hid h
  have HF := Lib.hid hf
  have hmx : L.length ≤ maxLen := by omega
  have HFB := Lib.hid (fun (x : List UInt8) (hx : x ∈ L) => (show x.length ≤ 140737488355328 by have := HF.out.2 x hx; omega))
  clear hf
  obtain ⟨W0, HW0⟩ : ∃ W0, Hid (W0 = (w.alloc (.cells #[.int .u64 (base : Int), .slice A L.length c] 25)).alloc (.cells #[.int .u64 0, .slice none 0 0] 25)) := ⟨_, Lib.hid rfl⟩
  have HA : Hid (Ak w W0 base A c L) := Lib.hid (by rw [HW0.out]; exact Ak.new w base A c L h)
  obtain ⟨m, Hm⟩ : ∃ m, Hid (min L.length 8 = m) := ⟨_, Lib.hid rfl⟩
  have hm8 : m ≤ 8 := by have := Hm.out; omega
  clear h
  have HM := Lib.hid g1
  have HE : Hid (ackB base L upto = false) := Lib.hid (by simp [ackB, g1])
  clear g1
  go_enter Try.func19, Try.ntmps19
  go_wp2_with fail
  rw [← HW0.out]
  refine wp_region_f (fun dn xv W => Below W0.heap.size W0 W) (fun W W' => Below W.heap.size W W') [fun v _ => v = .agg #[.int .u64 (base : Int), .slice A L.length c], fun v _ => v = .bool false, fun v _ => v = .bool true, fun v _ => v = .bool true, fun v _ => v = undef, fun v _ => v = undef, fun v _ => v = undef, fun v _ => v = undef, fun v _ => v = .bool true, fun v _ => v = .bool true, fun v _ => v = undef, fun v _ => v = undef, fun v _ => v = undef, fun v _ => v = undef, fun v _ => v = undef, fun v _ => v = undef, fun v _ => v = undef, fun v _ => v = undef, fun v _ => v = .bool true] (by kernel_rfl) (by kernel_rfl) (by kernel_rfl) (by kernel_rfl) (fun xv => by simpa using (Below.refl _ W0).drew)
    (by exact ⟨fun _ _ _ _ h => h, fun _ _ _ _ h => h, fun _ _ _ _ h => h, fun _ _ _ _ h => h, fun _ _ _ _ h => h, fun _ _ _ _ h => h, fun _ _ _ _ h => h, fun _ _ _ _ h => h, fun _ _ _ _ h => h, fun _ _ _ _ h => h, fun _ _ _ _ h => h, fun _ _ _ _ h => h, fun _ _ _ _ h => h, fun _ _ _ _ h => h, fun _ _ _ _ h => h, fun _ _ _ _ h => h, fun _ _ _ _ h => h, fun _ _ _ _ h => h, fun _ _ _ _ h => h, trivial⟩) ?_ ?_
  · refine EachF.cons 1 rfl (fun dn xv W F hF hd hN hX hI H K hK => ?_) ?_
    · have f2 : F.tmps.getD 2 undef = .pointer (some ⟨w.heap.size, 0, none⟩) := (hF 2).trans (by kernel_rfl)
      have hz0 := HA.out.z0
      have hc0 := (hI.cell (p := ⟨w.heap.size, 0, none⟩) (show w.heap.size < W0.heap.size by omega)).trans HA.out.k1
      have hc1 := (hI.cell (p := ⟨w.heap.size, 1, none⟩) (show w.heap.size < W0.heap.size by omega)).trans HA.out.k2
      clear hz0
      clear H hN hd hX hF
      refine on_plain rfl ?_
      go_simp
      exact hK.out _ _ rfl (Below.refl _ _) (by simpa [upB, upd] using hI)
    refine EachF.cons 2 rfl (fun dn xv W F hF hd hN hX hI H K hK => ?_) ?_
    · have h0 : xv 0 = .agg #[.int .u64 (base : Int), .slice A L.length c] := (H 0 (.edge (by kernel_rfl))).2
      have f6 : F.tmps.getD 6 undef = .agg #[.int .u64 (base : Int), .slice A L.length c] := (hF 6).trans (Eq.trans (by kernel_rfl) h0)
      clear H hN hd hX hF
      refine on_plain rfl ?_
      go_simp
      refine (may_any W w.heap.size base A c L (HA.out.h0.below (hI.mono HA.out.b0.size)) (Nat.le_trans HA.out.b0.size hI.size) hb hmx).mono ?_
      rintro e W' ⟨rfl, hb⟩
      rw [HM.out]
      exact hK.out _ W' rfl hb (by simpa [upB, upd] using (hI.trans (hb.mono hI.size)))
    refine EachF.cons 3 rfl (fun dn xv W F hF hd hN hX hI H K hK => ?_) ?_
    · have h1 : xv 1 = .bool false := (H 1 (.edge (by kernel_rfl))).2
      have f7 : F.tmps.getD 7 undef = .bool false := (hF 7).trans (Eq.trans (by kernel_rfl) h1)
      clear H hN hd hX hF
      refine on_plain rfl ?_
      go_simp
      exact hK.out _ _ rfl (Below.refl _ _) (by simpa [upB, upd] using hI)
    refine EachF.cons 4 rfl (fun dn xv W F hF hd hN hX hI H K hK => ?_) ?_
    · have h2 : xv 2 = .bool true := (H 2 (.edge (by kernel_rfl))).2
      have f8 : F.tmps.getD 8 undef = .bool true := (hF 8).trans (Eq.trans (by kernel_rfl) h2)
      clear H hN hd hX hF
      refine on_plain rfl ?_
      go_simp
      exact hK.out _ _ rfl (Below.refl _ _) (by simpa [upB, upd] using hI)
    refine EachF.cons 5 rfl (fun dn xv W F hF hd hN hX hI H K hK => ?_) ?_
    · have h3 : xv 3 = .bool true := (H 3 (.edge (by kernel_rfl))).2
      have f9 : F.tmps.getD 9 undef = .bool true := (hF 9).trans (Eq.trans (by kernel_rfl) h3)
      clear H hN hd hX hF
      refine off_guard rfl (by kernel_rfl) f9 (by decide) ?_
      exact hK.out _ _ rfl (Below.refl _ _) (by simpa [upB, upd] using hI)
    refine EachF.cons 6 rfl (fun dn xv W F hF hd hN hX hI H K hK => ?_) ?_
    · have h3 : xv 3 = .bool true := (H 3 (.edge (by kernel_rfl))).2
      have f9 : F.tmps.getD 9 undef = .bool true := (hF 9).trans (Eq.trans (by kernel_rfl) h3)
      clear H hN hd hX hF
      refine off_guard rfl (by kernel_rfl) f9 (by decide) ?_
      exact hK.out _ _ rfl (Below.refl _ _) (by simpa [upB, upd] using hI)
    refine EachF.cons 7 rfl (fun dn xv W F hF hd hN hX hI H K hK => ?_) ?_
    · have h3 : xv 3 = .bool true := (H 3 (.edge (by kernel_rfl))).2
      have f9 : F.tmps.getD 9 undef = .bool true := (hF 9).trans (Eq.trans (by kernel_rfl) h3)
      clear H hN hd hX hF
      refine off_guard rfl (by kernel_rfl) f9 (by decide) ?_
      exact hK.out _ _ rfl (Below.refl _ _) (by simpa [upB, upd] using hI)
    refine EachF.cons 8 rfl (fun dn xv W F hF hd hN hX hI H K hK => ?_) ?_
    · have h3 : xv 3 = .bool true := (H 3 (.edge (by kernel_rfl))).2
      have f9 : F.tmps.getD 9 undef = .bool true := (hF 9).trans (Eq.trans (by kernel_rfl) h3)
      clear H hN hd hX hF
      refine off_guard rfl (by kernel_rfl) f9 (by decide) ?_
      exact hK.out _ _ rfl (Below.refl _ _) (by simpa [upB, upd] using hI)
    refine EachF.cons 9 rfl (fun dn xv W F hF hd hN hX hI H K hK => ?_) ?_
    · have h3 : xv 3 = .bool true := (H 3 (.edge (by kernel_rfl))).2
      have f9 : F.tmps.getD 9 undef = .bool true := (hF 9).trans (Eq.trans (by kernel_rfl) h3)
      have h7 : xv 7 = undef := (H 7 (.edge (by kernel_rfl))).2
      have f13 : F.tmps.getD 13 undef = undef := (hF 13).trans (Eq.trans (by kernel_rfl) h7)
      clear H hN hd hX hF
      refine on_plain rfl ?_
      go_simp
      exact hK.out _ _ rfl (Below.refl _ _) (by simpa [upB, upd] using hI)
    refine EachF.cons 10 rfl (fun dn xv W F hF hd hN hX hI H K hK => ?_) ?_
    · have h8 : xv 8 = .bool true := (H 8 (.edge (by kernel_rfl))).2
      have f14 : F.tmps.getD 14 undef = .bool true := (hF 14).trans (Eq.trans (by kernel_rfl) h8)
      clear H hN hd hX hF
      refine on_plain rfl ?_
      go_simp
      exact hK.out _ _ rfl (Below.refl _ _) (by simpa [upB, upd] using hI)
    refine EachF.cons 11 rfl (fun dn xv W F hF hd hN hX hI H K hK => ?_) ?_
    · have h9 : xv 9 = .bool true := (H 9 (.edge (by kernel_rfl))).2
      have f15 : F.tmps.getD 15 undef = .bool true := (hF 15).trans (Eq.trans (by kernel_rfl) h9)
      clear H hN hd hX hF
      refine off_guard rfl (by kernel_rfl) f15 (by decide) ?_
      exact hK.out _ _ rfl (Below.refl _ _) (by simpa [upB, upd] using hI)
    refine EachF.cons 12 rfl (fun dn xv W F hF hd hN hX hI H K hK => ?_) ?_
    · have h9 : xv 9 = .bool true := (H 9 (.edge (by kernel_rfl))).2
      have f15 : F.tmps.getD 15 undef = .bool true := (hF 15).trans (Eq.trans (by kernel_rfl) h9)
      clear H hN hd hX hF
      refine off_guard rfl (by kernel_rfl) f15 (by decide) ?_
      exact hK.out _ _ rfl (Below.refl _ _) (by simpa [upB, upd] using hI)
    refine EachF.cons 13 rfl (fun dn xv W F hF hd hN hX hI H K hK => ?_) ?_
    · have h9 : xv 9 = .bool true := (H 9 (.edge (by kernel_rfl))).2
      have f15 : F.tmps.getD 15 undef = .bool true := (hF 15).trans (Eq.trans (by kernel_rfl) h9)
      clear H hN hd hX hF
      refine off_guard rfl (by kernel_rfl) f15 (by decide) ?_
      exact hK.out _ _ rfl (Below.refl _ _) (by simpa [upB, upd] using hI)
    refine EachF.cons 14 rfl (fun dn xv W F hF hd hN hX hI H K hK => ?_) ?_
    · have h9 : xv 9 = .bool true := (H 9 (.edge (by kernel_rfl))).2
      have f15 : F.tmps.getD 15 undef = .bool true := (hF 15).trans (Eq.trans (by kernel_rfl) h9)
      clear H hN hd hX hF
      refine off_guard rfl (by kernel_rfl) f15 (by decide) ?_
      exact hK.out _ _ rfl (Below.refl _ _) (by simpa [upB, upd] using hI)
    refine EachF.cons 15 rfl (fun dn xv W F hF hd hN hX hI H K hK => ?_) ?_
    · have h9 : xv 9 = .bool true := (H 9 (.edge (by kernel_rfl))).2
      have f15 : F.tmps.getD 15 undef = .bool true := (hF 15).trans (Eq.trans (by kernel_rfl) h9)
      clear H hN hd hX hF
      refine off_guard rfl (by kernel_rfl) f15 (by decide) ?_
      exact hK.out _ _ rfl (Below.refl _ _) (by simpa [upB, upd] using hI)
    refine EachF.cons 16 rfl (fun dn xv W F hF hd hN hX hI H K hK => ?_) ?_
    · have h9 : xv 9 = .bool true := (H 9 (.edge (by kernel_rfl))).2
      have f15 : F.tmps.getD 15 undef = .bool true := (hF 15).trans (Eq.trans (by kernel_rfl) h9)
      clear H hN hd hX hF
      refine off_guard rfl (by kernel_rfl) f15 (by decide) ?_
      exact hK.out _ _ rfl (Below.refl _ _) (by simpa [upB, upd] using hI)
    refine EachF.cons 17 rfl (fun dn xv W F hF hd hN hX hI H K hK => ?_) ?_
    · have h9 : xv 9 = .bool true := (H 9 (.edge (by kernel_rfl))).2
      have f15 : F.tmps.getD 15 undef = .bool true := (hF 15).trans (Eq.trans (by kernel_rfl) h9)
      clear H hN hd hX hF
      refine off_guard rfl (by kernel_rfl) f15 (by decide) ?_
      exact hK.out _ _ rfl (Below.refl _ _) (by simpa [upB, upd] using hI)
    refine EachF.cons 18 rfl (fun dn xv W F hF hd hN hX hI H K hK => ?_) ?_
    · have h9 : xv 9 = .bool true := (H 9 (.edge (by kernel_rfl))).2
      have f15 : F.tmps.getD 15 undef = .bool true := (hF 15).trans (Eq.trans (by kernel_rfl) h9)
      clear H hN hd hX hF
      refine off_guard rfl (by kernel_rfl) f15 (by decide) ?_
      exact hK.out _ _ rfl (Below.refl _ _) (by simpa [upB, upd] using hI)
    refine EachF.cons 19 rfl (fun dn xv W F hF hd hN hX hI H K hK => ?_) ?_
    · have h9 : xv 9 = .bool true := (H 9 (.edge (by kernel_rfl))).2
      have f15 : F.tmps.getD 15 undef = .bool true := (hF 15).trans (Eq.trans (by kernel_rfl) h9)
      have h17 : xv 17 = undef := (H 17 (.edge (by kernel_rfl))).2
      have f23 : F.tmps.getD 23 undef = undef := (hF 23).trans (Eq.trans (by kernel_rfl) h17)
      clear H hN hd hX hF
      refine on_plain rfl ?_
      go_simp
      exact hK.out _ _ rfl (Below.refl _ _) (by simpa [upB, upd] using hI)
    exact EachF.nil
  · intro dn xv W hI H
    have q18 : xv 18 = .bool true := (H 18 (of_decide_eq_true (by kernel_rfl))).2
    have hS : Below W0.heap.size W0 W := hI
    clear H hI
    simp only [putAll, Act.put, List.setIfInBounds_toArray, List.set_cons_zero, List.set_cons_succ, Nat.reduceAdd, q18]
    clear q18
    obtain ⟨w1, Hw1⟩ : ∃ w1, Hid (W = w1) := ⟨_, Lib.hid rfl⟩
    have hb1 : Below W0.heap.size W0 W := hS
    rw [Hw1.out] at hb1 ⊢
    clear hS
    obtain ⟨hc1, hf1⟩ := bcell hb1
    have hz1 := hb1.size
    rw [HA.out.z0] at hz1 hc1 hf1
    have k1 := (hc1 w.heap.size 0 (by omega)).trans HA.out.k1
    have k2 := (hc1 w.heap.size 1 (by omega)).trans HA.out.k2
    have k3 := (hc1 (w.heap.size + 1) 0 (by omega)).trans HA.out.k3
    have k4 := (hc1 (w.heap.size + 1) 1 (by omega)).trans HA.out.k4
    have k5 := (hf1 (w.heap.size + 1) 0 (by omega)).trans HA.out.k5
    have k6 := (hf1 (w.heap.size + 1) 1 (by omega)).trans HA.out.k6
    have hB1 : Below w.heap.size w w1 := HA.out.b0.trans (hb1.mono HA.out.b0.size)
    clear hc1 hf1
    go_wp2_with fail
    have hbel : ∀ (dn : Nat → Bool) (xv : Nat → Value) (W : World), (if dn 6 = true then Below w.heap.size w W ∧ OwnB W w1.heap.size (xv 4) L ∧ IsCell2 W (w.heap.size + 1) (.int .u64 (base : Int)) (xv 4) else if dn 5 = true then Below w1.heap.size w1 W ∧ OwnB W w1.heap.size (xv 4) L ∧ xv 5 = .agg #[.int .u64 (base : Int), xv 4] else if dn 4 = true then Below w1.heap.size w1 W ∧ OwnB W w1.heap.size (xv 4) L else Below w1.heap.size w1 W) → dn 6 = false → Below w1.heap.size w1 W := fun dn xv W h h0 => by
      rw [if_neg (by simp [h0])] at h
      split at h
      · exact h.1
      split at h
      · exact h.1
      exact h
    refine wp_region_f (fun dn xv W => if dn 6 = true then Below w.heap.size w W ∧ OwnB W w1.heap.size (xv 4) L ∧ IsCell2 W (w.heap.size + 1) (.int .u64 (base : Int)) (xv 4) else if dn 5 = true then Below w1.heap.size w1 W ∧ OwnB W w1.heap.size (xv 4) L ∧ xv 5 = .agg #[.int .u64 (base : Int), xv 4] else if dn 4 = true then Below w1.heap.size w1 W ∧ OwnB W w1.heap.size (xv 4) L else Below w1.heap.size w1 W) (fun _ _ => True) [fun v _ => v = .pointer (some ⟨w.heap.size, 0, none⟩), fun v _ => v = .int .u64 (base : Int), fun v _ => v = .pointer (some ⟨w.heap.size, 1, none⟩), fun v _ => v = .slice A L.length c, fun v _ => ∃ A2 c2, v = .slice A2 L.length c2, fun v _ => True, fun v _ => True, fun v _ => v = .bool false] (by kernel_rfl) (by kernel_rfl) (by kernel_rfl) (by kernel_rfl) (fun xv => by simpa using (Below.refl _ w1).drew)
      (by exact ⟨fun _ _ _ _ h => h, fun _ _ _ _ h => h, fun _ _ _ _ h => h, fun _ _ _ _ h => h, fun _ _ _ _ h => h, fun _ _ _ _ h => h, fun _ _ _ _ h => h, fun _ _ _ _ h => h, trivial⟩) ?_ ?_
    · refine EachF.cons 1 rfl (fun dn xv W F hF hd hN hX hI H K hK => ?_) ?_
      · have f2 : F.tmps.getD 2 undef = .pointer (some ⟨w.heap.size, 0, none⟩) := (hF 2).trans (by kernel_rfl)
        clear H hN hd hX hF
        refine on_plain rfl ?_
        go_simp
        exact hK.out _ _ rfl trivial (by simpa [upB, upd] using hI)
      refine EachF.cons 2 rfl (fun dn xv W F hF hd hN hX hI H K hK => ?_) ?_
      · have h0 : xv 0 = .pointer (some ⟨w.heap.size, 0, none⟩) := (H 0 (.edge (by kernel_rfl))).2
        have f25 : F.tmps.getD 25 undef = .pointer (some ⟨w.heap.size, 0, none⟩) := (hF 25).trans (Eq.trans (by kernel_rfl) h0)
        have hb0 := hbel dn xv W hI (hN 6 (.edge (by kernel_rfl)))
        have hc0 := (hb0.cell (p := ⟨w.heap.size, 0, none⟩) (show w.heap.size < w1.heap.size by omega)).trans k1
        clear hb0
        clear H hN hd hX hF
        refine on_plain rfl ?_
        go_simp
        exact hK.out _ _ rfl trivial (by simpa [upB, upd] using hI)
      refine EachF.cons 3 rfl (fun dn xv W F hF hd hN hX hI H K hK => ?_) ?_
      · have f2 : F.tmps.getD 2 undef = .pointer (some ⟨w.heap.size, 0, none⟩) := (hF 2).trans (by kernel_rfl)
        clear H hN hd hX hF
        refine on_plain rfl ?_
        go_simp
        exact hK.out _ _ rfl trivial (by simpa [upB, upd] using hI)
      refine EachF.cons 4 rfl (fun dn xv W F hF hd hN hX hI H K hK => ?_) ?_
      · have h2 : xv 2 = .pointer (some ⟨w.heap.size, 1, none⟩) := (H 2 (.edge (by kernel_rfl))).2
        have f27 : F.tmps.getD 27 undef = .pointer (some ⟨w.heap.size, 1, none⟩) := (hF 27).trans (Eq.trans (by kernel_rfl) h2)
        have hb0 := hbel dn xv W hI (hN 6 (.edge (by kernel_rfl)))
        have hc0 := (hb0.cell (p := ⟨w.heap.size, 1, none⟩) (show w.heap.size < w1.heap.size by omega)).trans k2
        clear hb0
        clear H hN hd hX hF
        refine on_plain rfl ?_
        go_simp
        exact hK.out _ _ rfl trivial (by simpa [upB, upd] using hI)
      refine EachF.cons 5 rfl (fun dn xv W F hF hd hN hX hI H K hK => ?_) ?_
      · have h3 : xv 3 = .slice A L.length c := (H 3 (.edge (by kernel_rfl))).2
        have f28 : F.tmps.getD 28 undef = .slice A L.length c := (hF 28).trans (Eq.trans (by kernel_rfl) h3)
        have q5 : dn 5 = false := hN 5 (.edge (by kernel_rfl))
        have q6 : dn 6 = false := hN 6 (.more (j := 5) (by kernel_rfl) (.edge (by kernel_rfl)))
        have hS : Below w1.heap.size w1 W := by simpa [hd, q5, q6] using hI
        clear hI hN hd hX hF H
        refine on_plain rfl ?_
        go_simp
        refine (copied_any W w.heap.size A c L (H.out.below (hB1.trans (hS.mono hB1.size))) (Nat.le_trans hB1.size hS.size) HF.out).mono ?_
        rintro e W' ⟨v, rfl, ho, hb⟩
        have hs : Below w1.heap.size w1 W' ∧ OwnB W' w1.heap.size v L := ⟨hS.trans (hb.mono hS.size), ho.mono hS.size⟩
        obtain ⟨A2, c2, e2, _⟩ := ho.form HFB.out
        exact hK.out v W' ⟨A2, c2, e2⟩ trivial (by simpa [upB, upd, q5, q6] using hs)
      refine EachF.cons 6 rfl (fun dn xv W F hF hd hN hX hI H K hK => ?_) ?_
      · have h1 : xv 1 = .int .u64 (base : Int) := (H 1 (.edge (by kernel_rfl))).2
        have f26 : F.tmps.getD 26 undef = .int .u64 (base : Int) := (hF 26).trans (Eq.trans (by kernel_rfl) h1)
        have h4 := (H 4 (.edge (by kernel_rfl))).2
        simp only [Dl] at h4
        have f29 : F.tmps.getD 29 undef = xv 4 := (hF 29).trans (by kernel_rfl)
        have q4 : dn 4 = true := (H 4 (.edge (by kernel_rfl))).1
        have q6 : dn 6 = false := hN 6 (.edge (by kernel_rfl))
        have hS : Below w1.heap.size w1 W ∧ OwnB W w1.heap.size (xv 4) L := by simpa [hd, q6, q4] using hI
        clear hI hN hd hX hF H
        refine on_plain rfl ?_
        obtain ⟨A2, c2, e2, _⟩ := hS.2.form HFB.out
        have e3 := e2
        have f29x := f29.trans e2
        have g29 := f29x
        have g26 := f26
        rw [Array.getD_eq_getD_getElem?] at g29 g26
        go_simp
        rw [← e3]
        have hs : Below w1.heap.size w1 W ∧ OwnB W w1.heap.size (xv 4) L ∧ Value.agg #[.int .u64 (base : Int), xv 4] = .agg #[.int .u64 (base : Int), xv 4] := ⟨hS.1, hS.2, rfl⟩
        exact hK.out _ _ trivial trivial (by simpa [upB, upd, q6] using hs)
      refine EachF.cons 7 rfl (fun dn xv W F hF hd hN hX hI H K hK => ?_) ?_
      · have f4 : F.tmps.getD 4 undef = .pointer (some ⟨w.heap.size + 1, 0, none⟩) := (hF 4).trans (by kernel_rfl)
        have h5 := (H 5 (.edge (by kernel_rfl))).2
        simp only [Dl] at h5
        have f30 : F.tmps.getD 30 undef = xv 5 := (hF 30).trans (by kernel_rfl)
        have q5 : dn 5 = true := (H 5 (.edge (by kernel_rfl))).1
        have hS : Below w1.heap.size w1 W ∧ OwnB W w1.heap.size (xv 4) L ∧ xv 5 = .agg #[.int .u64 (base : Int), xv 4] := by simpa [hd, q5] using hI
        clear hI hN hd hX hF H
        refine on_plain rfl ?_
        obtain ⟨s1, s2, s3⟩ := hS
        obtain ⟨A2, c2, e2, _⟩ := s2.form HFB.out
        have f30x := f30.trans s3
        rw [e2] at f30x
        have hc3 := (s1.cell (p := ⟨w.heap.size + 1, 0, none⟩) (show w.heap.size + 1 < w1.heap.size by omega)).trans k3
        have hc4 := (s1.cell (p := ⟨w.heap.size + 1, 1, none⟩) (show w.heap.size + 1 < w1.heap.size by omega)).trans k4
        have hf3 := (s1.frozen (p := ⟨w.heap.size + 1, 0, none⟩) (show w.heap.size + 1 < w1.heap.size by omega)).trans k5
        have hf4 := (s1.frozen (p := ⟨w.heap.size + 1, 1, none⟩) (show w.heap.size + 1 < w1.heap.size by omega)).trans k6
        have hs := set2 hB1 s1 (w.heap.size + 1) (by omega) (by omega) s2 hc3 hc4 (.int .u64 (base : Int)) (xv 4)
        go_simp
        rw [← e2]
        exact hK.out undef _ trivial trivial (by simpa [upB, upd] using hs)
      refine EachF.cons 8 rfl (fun dn xv W F hF hd hN hX hI H K hK => ?_) ?_
      · clear H hN hd hX hF
        refine on_plain rfl ?_
        go_simp
        exact hK.out _ _ rfl trivial (by simpa [upB, upd] using hI)
      exact EachF.nil
    · intro dn xv W hI H
      have q7 : xv 7 = .bool false := (H 7 (of_decide_eq_true (by kernel_rfl))).2
      have qe : dn 6 = true := (H 6 (of_decide_eq_true (by kernel_rfl))).1
      have hS : Below w.heap.size w W ∧ OwnB W w1.heap.size (xv 4) L ∧ IsCell2 W (w.heap.size + 1) (.int .u64 (base : Int)) (xv 4) := by simpa [qe] using hI
      clear H hI qe
      simp only [putAll, Act.put, List.setIfInBounds_toArray, List.set_cons_zero, List.set_cons_succ, Nat.reduceAdd, q7]
      clear q7
      obtain ⟨s1, s2, s3, s4⟩ := hS
      obtain ⟨A2, c2, e2, _⟩ := s2.form HFB.out
      go_wp2
      refine bodyPost_ret (v := .tuple #[.agg #[.int .u64 (base : Int), xv 4], .bool false]) (by rw [e2] at s4 ⊢; simp [results, Try.results19, go_sem, s3, s4]) rfl ?_
      exact ⟨s1, xv 4, by rw [HE.out, (ack_no HE.out).2], by rw [(ack_no HE.out).1]; exact s2.mono hB1.size⟩

set_option maxHeartbeats 1000000 in
theorem acked_b (w : World) (base upto : Nat) (A : Option Addr) (c : Nat) (L : List (List UInt8)) (h : Bx w w.heap.size A L) (hb : base < 18446744073709551616) (hu : upto < 18446744073709551616) (hf : Fit L) (hcc : L.length ≤ c) (hcm : c ≤ maxLen)
    (g1 : mayB base L = true) (g2 : upto ≤ base) :
    Calls Try.prog 19 #[.agg #[.int .u64 (base : Int), .slice A L.length c], .int .u64 (upto : Int)] w (AckPost w base L upto) := by
  have hL := hf.1
  have H := Lib.hid h
  have HF := Lib.hid hf
  have hmx : L.length ≤ maxLen := by omega
  have HFB := Lib.hid (fun (x : List UInt8) (hx : x ∈ L) => (show x.length ≤ 140737488355328 by have := HF.out.2 x hx; omega))
  clear hf
  obtain ⟨W0, HW0⟩ : ∃ W0, Hid (W0 = (w.alloc (.cells #[.int .u64 (base : Int), .slice A L.length c] 25)).alloc (.cells #[.int .u64 0, .slice none 0 0] 25)) := ⟨_, Lib.hid rfl⟩
  have HA : Hid (Ak w W0 base A c L) := Lib.hid (by rw [HW0.out]; exact Ak.new w base A c L h)
  obtain ⟨m, Hm⟩ : ∃ m, Hid (min L.length 8 = m) := ⟨_, Lib.hid rfl⟩
  have hm8 : m ≤ 8 := by have := Hm.out; omega
  clear h
  have HM := Lib.hid g1
  have HE : Hid (ackB base L upto = false) := Lib.hid (by unfold ackB; rw [decide_eq_false (p := base < upto) (by omega)]; simp)
  clear g1
  have HD1 : Hid (decide ((upto : Int) ≤ (base : Int)) = true) := Lib.hid (by simp; omega)
  have HD2 : Hid (decide (upto ≤ base) = true) := Lib.hid (by simp; omega)
  go_enter Try.func19, Try.ntmps19
  go_wp2_with fail
  rw [← HW0.out]
  refine wp_region_f (fun dn xv W => Below W0.heap.size W0 W) (fun W W' => Below W.heap.size W W') [fun v _ => v = .agg #[.int .u64 (base : Int), .slice A L.length c], fun v _ => v = .bool true, fun v _ => v = .bool false, fun v _ => v = .bool false, fun v _ => v = .int .u64 (upto : Int), fun v _ => v = .pointer (some ⟨w.heap.size, 0, none⟩), fun v _ => v = .int .u64 (base : Int), fun v _ => v = .bool true, fun v _ => v = .bool true, fun v _ => v = .bool true, fun v _ => v = undef, fun v _ => v = undef, fun v _ => v = undef, fun v _ => v = undef, fun v _ => v = undef, fun v _ => v = undef, fun v _ => v = undef, fun v _ => v = undef, fun v _ => v = .bool true] (by kernel_rfl) (by kernel_rfl) (by kernel_rfl) (by kernel_rfl) (fun xv => by simpa using (Below.refl _ W0).drew)
    (by exact ⟨fun _ _ _ _ h => h, fun _ _ _ _ h => h, fun _ _ _ _ h => h, fun _ _ _ _ h => h, fun _ _ _ _ h => h, fun _ _ _ _ h => h, fun _ _ _ _ h => h, fun _ _ _ _ h => h, fun _ _ _ _ h => h, fun _ _ _ _ h => h, fun _ _ _ _ h => h, fun _ _ _ _ h => h, fun _ _ _ _ h => h, fun _ _ _ _ h => h, fun _ _ _ _ h => h, fun _ _ _ _ h => h, fun _ _ _ _ h => h, fun _ _ _ _ h => h, fun _ _ _ _ h => h, trivial⟩) ?_ ?_
  · refine EachF.cons 1 rfl (fun dn xv W F hF hd hN hX hI H K hK => ?_) ?_
    · have f2 : F.tmps.getD 2 undef = .pointer (some ⟨w.heap.size, 0, none⟩) := (hF 2).trans (by kernel_rfl)
      have hz0 := HA.out.z0
      have hc0 := (hI.cell (p := ⟨w.heap.size, 0, none⟩) (show w.heap.size < W0.heap.size by omega)).trans HA.out.k1
      have hc1 := (hI.cell (p := ⟨w.heap.size, 1, none⟩) (show w.heap.size < W0.heap.size by omega)).trans HA.out.k2
      clear hz0
      clear H hN hd hX hF
      refine on_plain rfl ?_
      go_simp
      exact hK.out _ _ rfl (Below.refl _ _) (by simpa [upB, upd] using hI)
    refine EachF.cons 2 rfl (fun dn xv W F hF hd hN hX hI H K hK => ?_) ?_
    · have h0 : xv 0 = .agg #[.int .u64 (base : Int), .slice A L.length c] := (H 0 (.edge (by kernel_rfl))).2
      have f6 : F.tmps.getD 6 undef = .agg #[.int .u64 (base : Int), .slice A L.length c] := (hF 6).trans (Eq.trans (by kernel_rfl) h0)
      clear H hN hd hX hF
      refine on_plain rfl ?_
      go_simp
      refine (may_any W w.heap.size base A c L (HA.out.h0.below (hI.mono HA.out.b0.size)) (Nat.le_trans HA.out.b0.size hI.size) hb hmx).mono ?_
      rintro e W' ⟨rfl, hb⟩
      rw [HM.out]
      exact hK.out _ W' rfl hb (by simpa [upB, upd] using (hI.trans (hb.mono hI.size)))
    refine EachF.cons 3 rfl (fun dn xv W F hF hd hN hX hI H K hK => ?_) ?_
    · have h1 : xv 1 = .bool true := (H 1 (.edge (by kernel_rfl))).2
      have f7 : F.tmps.getD 7 undef = .bool true := (hF 7).trans (Eq.trans (by kernel_rfl) h1)
      clear H hN hd hX hF
      refine on_plain rfl ?_
      go_simp
      exact hK.out _ _ rfl (Below.refl _ _) (by simpa [upB, upd] using hI)
    refine EachF.cons 4 rfl (fun dn xv W F hF hd hN hX hI H K hK => ?_) ?_
    · have h2 : xv 2 = .bool false := (H 2 (.edge (by kernel_rfl))).2
      have f8 : F.tmps.getD 8 undef = .bool false := (hF 8).trans (Eq.trans (by kernel_rfl) h2)
      clear H hN hd hX hF
      refine on_plain rfl ?_
      go_simp
      exact hK.out _ _ rfl (Below.refl _ _) (by simpa [upB, upd] using hI)
    refine EachF.cons 5 rfl (fun dn xv W F hF hd hN hX hI H K hK => ?_) ?_
    · have f1 : F.tmps.getD 1 undef = .int .u64 (upto : Int) := (hF 1).trans (by kernel_rfl)
      have h3 : xv 3 = .bool false := (H 3 (.edge (by kernel_rfl))).2
      have f9 : F.tmps.getD 9 undef = .bool false := (hF 9).trans (Eq.trans (by kernel_rfl) h3)
      clear H hN hd hX hF
      refine on_guard rfl (by kernel_rfl) f9 ?_
      go_simp
      exact hK.out _ _ rfl (Below.refl _ _) (by simpa [upB, upd] using hI)
    refine EachF.cons 6 rfl (fun dn xv W F hF hd hN hX hI H K hK => ?_) ?_
    · have f2 : F.tmps.getD 2 undef = .pointer (some ⟨w.heap.size, 0, none⟩) := (hF 2).trans (by kernel_rfl)
      have h3 : xv 3 = .bool false := (H 3 (.edge (by kernel_rfl))).2
      have f9 : F.tmps.getD 9 undef = .bool false := (hF 9).trans (Eq.trans (by kernel_rfl) h3)
      clear H hN hd hX hF
      refine on_guard rfl (by kernel_rfl) f9 ?_
      go_simp
      exact hK.out _ _ rfl (Below.refl _ _) (by simpa [upB, upd] using hI)
    refine EachF.cons 7 rfl (fun dn xv W F hF hd hN hX hI H K hK => ?_) ?_
    · have h5 : xv 5 = .pointer (some ⟨w.heap.size, 0, none⟩) := (H 5 (.edge (by kernel_rfl))).2
      have f11 : F.tmps.getD 11 undef = .pointer (some ⟨w.heap.size, 0, none⟩) := (hF 11).trans (Eq.trans (by kernel_rfl) h5)
      have h3 : xv 3 = .bool false := (H 3 (.edge (by kernel_rfl))).2
      have f9 : F.tmps.getD 9 undef = .bool false := (hF 9).trans (Eq.trans (by kernel_rfl) h3)
      have hz0 := HA.out.z0
      have hc0 := (hI.cell (p := ⟨w.heap.size, 0, none⟩) (show w.heap.size < W0.heap.size by omega)).trans HA.out.k1
      have hc1 := (hI.cell (p := ⟨w.heap.size, 1, none⟩) (show w.heap.size < W0.heap.size by omega)).trans HA.out.k2
      clear hz0
      clear H hN hd hX hF
      refine on_guard rfl (by kernel_rfl) f9 ?_
      go_simp
      exact hK.out _ _ rfl (Below.refl _ _) (by simpa [upB, upd] using hI)
    refine EachF.cons 8 rfl (fun dn xv W F hF hd hN hX hI H K hK => ?_) ?_
    · have h4 : xv 4 = .int .u64 (upto : Int) := (H 4 (.edge (by kernel_rfl))).2
      have f10 : F.tmps.getD 10 undef = .int .u64 (upto : Int) := (hF 10).trans (Eq.trans (by kernel_rfl) h4)
      have h6 : xv 6 = .int .u64 (base : Int) := (H 6 (.edge (by kernel_rfl))).2
      have f12 : F.tmps.getD 12 undef = .int .u64 (base : Int) := (hF 12).trans (Eq.trans (by kernel_rfl) h6)
      have h3 : xv 3 = .bool false := (H 3 (.edge (by kernel_rfl))).2
      have f9 : F.tmps.getD 9 undef = .bool false := (hF 9).trans (Eq.trans (by kernel_rfl) h3)
      clear H hN hd hX hF
      refine on_guard rfl (by kernel_rfl) f9 ?_
      have d1 := HD1.out
      have d2 := HD2.out
      go_simp
      exact hK.out _ _ rfl (Below.refl _ _) (by simpa [upB, upd] using hI)
    refine EachF.cons 9 rfl (fun dn xv W F hF hd hN hX hI H K hK => ?_) ?_
    · have h3 : xv 3 = .bool false := (H 3 (.edge (by kernel_rfl))).2
      have f9 : F.tmps.getD 9 undef = .bool false := (hF 9).trans (Eq.trans (by kernel_rfl) h3)
      have h7 : xv 7 = .bool true := (H 7 (.edge (by kernel_rfl))).2
      have f13 : F.tmps.getD 13 undef = .bool true := (hF 13).trans (Eq.trans (by kernel_rfl) h7)
      clear H hN hd hX hF
      refine on_plain rfl ?_
      go_simp
      exact hK.out _ _ rfl (Below.refl _ _) (by simpa [upB, upd] using hI)
    refine EachF.cons 10 rfl (fun dn xv W F hF hd hN hX hI H K hK => ?_) ?_
    · have h8 : xv 8 = .bool true := (H 8 (.edge (by kernel_rfl))).2
      have f14 : F.tmps.getD 14 undef = .bool true := (hF 14).trans (Eq.trans (by kernel_rfl) h8)
      clear H hN hd hX hF
      refine on_plain rfl ?_
      go_simp
      exact hK.out _ _ rfl (Below.refl _ _) (by simpa [upB, upd] using hI)
    refine EachF.cons 11 rfl (fun dn xv W F hF hd hN hX hI H K hK => ?_) ?_
    · have h9 : xv 9 = .bool true := (H 9 (.edge (by kernel_rfl))).2
      have f15 : F.tmps.getD 15 undef = .bool true := (hF 15).trans (Eq.trans (by kernel_rfl) h9)
      clear H hN hd hX hF
      refine off_guard rfl (by kernel_rfl) f15 (by decide) ?_
      exact hK.out _ _ rfl (Below.refl _ _) (by simpa [upB, upd] using hI)
    refine EachF.cons 12 rfl (fun dn xv W F hF hd hN hX hI H K hK => ?_) ?_
    · have h9 : xv 9 = .bool true := (H 9 (.edge (by kernel_rfl))).2
      have f15 : F.tmps.getD 15 undef = .bool true := (hF 15).trans (Eq.trans (by kernel_rfl) h9)
      clear H hN hd hX hF
      refine off_guard rfl (by kernel_rfl) f15 (by decide) ?_
      exact hK.out _ _ rfl (Below.refl _ _) (by simpa [upB, upd] using hI)
    refine EachF.cons 13 rfl (fun dn xv W F hF hd hN hX hI H K hK => ?_) ?_
    · have h9 : xv 9 = .bool true := (H 9 (.edge (by kernel_rfl))).2
      have f15 : F.tmps.getD 15 undef = .bool true := (hF 15).trans (Eq.trans (by kernel_rfl) h9)
      clear H hN hd hX hF
      refine off_guard rfl (by kernel_rfl) f15 (by decide) ?_
      exact hK.out _ _ rfl (Below.refl _ _) (by simpa [upB, upd] using hI)
    refine EachF.cons 14 rfl (fun dn xv W F hF hd hN hX hI H K hK => ?_) ?_
    · have h9 : xv 9 = .bool true := (H 9 (.edge (by kernel_rfl))).2
      have f15 : F.tmps.getD 15 undef = .bool true := (hF 15).trans (Eq.trans (by kernel_rfl) h9)
      clear H hN hd hX hF
      refine off_guard rfl (by kernel_rfl) f15 (by decide) ?_
      exact hK.out _ _ rfl (Below.refl _ _) (by simpa [upB, upd] using hI)
    refine EachF.cons 15 rfl (fun dn xv W F hF hd hN hX hI H K hK => ?_) ?_
    · have h9 : xv 9 = .bool true := (H 9 (.edge (by kernel_rfl))).2
      have f15 : F.tmps.getD 15 undef = .bool true := (hF 15).trans (Eq.trans (by kernel_rfl) h9)
      clear H hN hd hX hF
      refine off_guard rfl (by kernel_rfl) f15 (by decide) ?_
      exact hK.out _ _ rfl (Below.refl _ _) (by simpa [upB, upd] using hI)
    refine EachF.cons 16 rfl (fun dn xv W F hF hd hN hX hI H K hK => ?_) ?_
    · have h9 : xv 9 = .bool true := (H 9 (.edge (by kernel_rfl))).2
      have f15 : F.tmps.getD 15 undef = .bool true := (hF 15).trans (Eq.trans (by kernel_rfl) h9)
      clear H hN hd hX hF
      refine off_guard rfl (by kernel_rfl) f15 (by decide) ?_
      exact hK.out _ _ rfl (Below.refl _ _) (by simpa [upB, upd] using hI)
    refine EachF.cons 17 rfl (fun dn xv W F hF hd hN hX hI H K hK => ?_) ?_
    · have h9 : xv 9 = .bool true := (H 9 (.edge (by kernel_rfl))).2
      have f15 : F.tmps.getD 15 undef = .bool true := (hF 15).trans (Eq.trans (by kernel_rfl) h9)
      clear H hN hd hX hF
      refine off_guard rfl (by kernel_rfl) f15 (by decide) ?_
      exact hK.out _ _ rfl (Below.refl _ _) (by simpa [upB, upd] using hI)
    refine EachF.cons 18 rfl (fun dn xv W F hF hd hN hX hI H K hK => ?_) ?_
    · have h9 : xv 9 = .bool true := (H 9 (.edge (by kernel_rfl))).2
      have f15 : F.tmps.getD 15 undef = .bool true := (hF 15).trans (Eq.trans (by kernel_rfl) h9)
      clear H hN hd hX hF
      refine off_guard rfl (by kernel_rfl) f15 (by decide) ?_
      exact hK.out _ _ rfl (Below.refl _ _) (by simpa [upB, upd] using hI)
    refine EachF.cons 19 rfl (fun dn xv W F hF hd hN hX hI H K hK => ?_) ?_
    · have h9 : xv 9 = .bool true := (H 9 (.edge (by kernel_rfl))).2
      have f15 : F.tmps.getD 15 undef = .bool true := (hF 15).trans (Eq.trans (by kernel_rfl) h9)
      have h17 : xv 17 = undef := (H 17 (.edge (by kernel_rfl))).2
      have f23 : F.tmps.getD 23 undef = undef := (hF 23).trans (Eq.trans (by kernel_rfl) h17)
      clear H hN hd hX hF
      refine on_plain rfl ?_
      go_simp
      exact hK.out _ _ rfl (Below.refl _ _) (by simpa [upB, upd] using hI)
    exact EachF.nil
  · intro dn xv W hI H
    have q18 : xv 18 = .bool true := (H 18 (of_decide_eq_true (by kernel_rfl))).2
    have hS : Below W0.heap.size W0 W := hI
    clear H hI
    simp only [putAll, Act.put, List.setIfInBounds_toArray, List.set_cons_zero, List.set_cons_succ, Nat.reduceAdd, q18]
    clear q18
    obtain ⟨w1, Hw1⟩ : ∃ w1, Hid (W = w1) := ⟨_, Lib.hid rfl⟩
    have hb1 : Below W0.heap.size W0 W := hS
    rw [Hw1.out] at hb1 ⊢
    clear hS
    obtain ⟨hc1, hf1⟩ := bcell hb1
    have hz1 := hb1.size
    rw [HA.out.z0] at hz1 hc1 hf1
    have k1 := (hc1 w.heap.size 0 (by omega)).trans HA.out.k1
    have k2 := (hc1 w.heap.size 1 (by omega)).trans HA.out.k2
    have k3 := (hc1 (w.heap.size + 1) 0 (by omega)).trans HA.out.k3
    have k4 := (hc1 (w.heap.size + 1) 1 (by omega)).trans HA.out.k4
    have k5 := (hf1 (w.heap.size + 1) 0 (by omega)).trans HA.out.k5
    have k6 := (hf1 (w.heap.size + 1) 1 (by omega)).trans HA.out.k6
    have hB1 : Below w.heap.size w w1 := HA.out.b0.trans (hb1.mono HA.out.b0.size)
    clear hc1 hf1
    go_wp2_with fail
    have hbel : ∀ (dn : Nat → Bool) (xv : Nat → Value) (W : World), (if dn 6 = true then Below w.heap.size w W ∧ OwnB W w1.heap.size (xv 4) L ∧ IsCell2 W (w.heap.size + 1) (.int .u64 (base : Int)) (xv 4) else if dn 5 = true then Below w1.heap.size w1 W ∧ OwnB W w1.heap.size (xv 4) L ∧ xv 5 = .agg #[.int .u64 (base : Int), xv 4] else if dn 4 = true then Below w1.heap.size w1 W ∧ OwnB W w1.heap.size (xv 4) L else Below w1.heap.size w1 W) → dn 6 = false → Below w1.heap.size w1 W := fun dn xv W h h0 => by
      rw [if_neg (by simp [h0])] at h
      split at h
      · exact h.1
      split at h
      · exact h.1
      exact h
    refine wp_region_f (fun dn xv W => if dn 6 = true then Below w.heap.size w W ∧ OwnB W w1.heap.size (xv 4) L ∧ IsCell2 W (w.heap.size + 1) (.int .u64 (base : Int)) (xv 4) else if dn 5 = true then Below w1.heap.size w1 W ∧ OwnB W w1.heap.size (xv 4) L ∧ xv 5 = .agg #[.int .u64 (base : Int), xv 4] else if dn 4 = true then Below w1.heap.size w1 W ∧ OwnB W w1.heap.size (xv 4) L else Below w1.heap.size w1 W) (fun _ _ => True) [fun v _ => v = .pointer (some ⟨w.heap.size, 0, none⟩), fun v _ => v = .int .u64 (base : Int), fun v _ => v = .pointer (some ⟨w.heap.size, 1, none⟩), fun v _ => v = .slice A L.length c, fun v _ => ∃ A2 c2, v = .slice A2 L.length c2, fun v _ => True, fun v _ => True, fun v _ => v = .bool false] (by kernel_rfl) (by kernel_rfl) (by kernel_rfl) (by kernel_rfl) (fun xv => by simpa using (Below.refl _ w1).drew)
      (by exact ⟨fun _ _ _ _ h => h, fun _ _ _ _ h => h, fun _ _ _ _ h => h, fun _ _ _ _ h => h, fun _ _ _ _ h => h, fun _ _ _ _ h => h, fun _ _ _ _ h => h, fun _ _ _ _ h => h, trivial⟩) ?_ ?_
    · refine EachF.cons 1 rfl (fun dn xv W F hF hd hN hX hI H K hK => ?_) ?_
      · have f2 : F.tmps.getD 2 undef = .pointer (some ⟨w.heap.size, 0, none⟩) := (hF 2).trans (by kernel_rfl)
        clear H hN hd hX hF
        refine on_plain rfl ?_
        go_simp
        exact hK.out _ _ rfl trivial (by simpa [upB, upd] using hI)
      refine EachF.cons 2 rfl (fun dn xv W F hF hd hN hX hI H K hK => ?_) ?_
      · have h0 : xv 0 = .pointer (some ⟨w.heap.size, 0, none⟩) := (H 0 (.edge (by kernel_rfl))).2
        have f25 : F.tmps.getD 25 undef = .pointer (some ⟨w.heap.size, 0, none⟩) := (hF 25).trans (Eq.trans (by kernel_rfl) h0)
        have hb0 := hbel dn xv W hI (hN 6 (.edge (by kernel_rfl)))
        have hc0 := (hb0.cell (p := ⟨w.heap.size, 0, none⟩) (show w.heap.size < w1.heap.size by omega)).trans k1
        clear hb0
        clear H hN hd hX hF
        refine on_plain rfl ?_
        go_simp
        exact hK.out _ _ rfl trivial (by simpa [upB, upd] using hI)
      refine EachF.cons 3 rfl (fun dn xv W F hF hd hN hX hI H K hK => ?_) ?_
      · have f2 : F.tmps.getD 2 undef = .pointer (some ⟨w.heap.size, 0, none⟩) := (hF 2).trans (by kernel_rfl)
        clear H hN hd hX hF
        refine on_plain rfl ?_
        go_simp
        exact hK.out _ _ rfl trivial (by simpa [upB, upd] using hI)
      refine EachF.cons 4 rfl (fun dn xv W F hF hd hN hX hI H K hK => ?_) ?_
      · have h2 : xv 2 = .pointer (some ⟨w.heap.size, 1, none⟩) := (H 2 (.edge (by kernel_rfl))).2
        have f27 : F.tmps.getD 27 undef = .pointer (some ⟨w.heap.size, 1, none⟩) := (hF 27).trans (Eq.trans (by kernel_rfl) h2)
        have hb0 := hbel dn xv W hI (hN 6 (.edge (by kernel_rfl)))
        have hc0 := (hb0.cell (p := ⟨w.heap.size, 1, none⟩) (show w.heap.size < w1.heap.size by omega)).trans k2
        clear hb0
        clear H hN hd hX hF
        refine on_plain rfl ?_
        go_simp
        exact hK.out _ _ rfl trivial (by simpa [upB, upd] using hI)
      refine EachF.cons 5 rfl (fun dn xv W F hF hd hN hX hI H K hK => ?_) ?_
      · have h3 : xv 3 = .slice A L.length c := (H 3 (.edge (by kernel_rfl))).2
        have f28 : F.tmps.getD 28 undef = .slice A L.length c := (hF 28).trans (Eq.trans (by kernel_rfl) h3)
        have q5 : dn 5 = false := hN 5 (.edge (by kernel_rfl))
        have q6 : dn 6 = false := hN 6 (.more (j := 5) (by kernel_rfl) (.edge (by kernel_rfl)))
        have hS : Below w1.heap.size w1 W := by simpa [hd, q5, q6] using hI
        clear hI hN hd hX hF H
        refine on_plain rfl ?_
        go_simp
        refine (copied_any W w.heap.size A c L (H.out.below (hB1.trans (hS.mono hB1.size))) (Nat.le_trans hB1.size hS.size) HF.out).mono ?_
        rintro e W' ⟨v, rfl, ho, hb⟩
        have hs : Below w1.heap.size w1 W' ∧ OwnB W' w1.heap.size v L := ⟨hS.trans (hb.mono hS.size), ho.mono hS.size⟩
        obtain ⟨A2, c2, e2, _⟩ := ho.form HFB.out
        exact hK.out v W' ⟨A2, c2, e2⟩ trivial (by simpa [upB, upd, q5, q6] using hs)
      refine EachF.cons 6 rfl (fun dn xv W F hF hd hN hX hI H K hK => ?_) ?_
      · have h1 : xv 1 = .int .u64 (base : Int) := (H 1 (.edge (by kernel_rfl))).2
        have f26 : F.tmps.getD 26 undef = .int .u64 (base : Int) := (hF 26).trans (Eq.trans (by kernel_rfl) h1)
        have h4 := (H 4 (.edge (by kernel_rfl))).2
        simp only [Dl] at h4
        have f29 : F.tmps.getD 29 undef = xv 4 := (hF 29).trans (by kernel_rfl)
        have q4 : dn 4 = true := (H 4 (.edge (by kernel_rfl))).1
        have q6 : dn 6 = false := hN 6 (.edge (by kernel_rfl))
        have hS : Below w1.heap.size w1 W ∧ OwnB W w1.heap.size (xv 4) L := by simpa [hd, q6, q4] using hI
        clear hI hN hd hX hF H
        refine on_plain rfl ?_
        obtain ⟨A2, c2, e2, _⟩ := hS.2.form HFB.out
        have e3 := e2
        have f29x := f29.trans e2
        have g29 := f29x
        have g26 := f26
        rw [Array.getD_eq_getD_getElem?] at g29 g26
        go_simp
        rw [← e3]
        have hs : Below w1.heap.size w1 W ∧ OwnB W w1.heap.size (xv 4) L ∧ Value.agg #[.int .u64 (base : Int), xv 4] = .agg #[.int .u64 (base : Int), xv 4] := ⟨hS.1, hS.2, rfl⟩
        exact hK.out _ _ trivial trivial (by simpa [upB, upd, q6] using hs)
      refine EachF.cons 7 rfl (fun dn xv W F hF hd hN hX hI H K hK => ?_) ?_
      · have f4 : F.tmps.getD 4 undef = .pointer (some ⟨w.heap.size + 1, 0, none⟩) := (hF 4).trans (by kernel_rfl)
        have h5 := (H 5 (.edge (by kernel_rfl))).2
        simp only [Dl] at h5
        have f30 : F.tmps.getD 30 undef = xv 5 := (hF 30).trans (by kernel_rfl)
        have q5 : dn 5 = true := (H 5 (.edge (by kernel_rfl))).1
        have hS : Below w1.heap.size w1 W ∧ OwnB W w1.heap.size (xv 4) L ∧ xv 5 = .agg #[.int .u64 (base : Int), xv 4] := by simpa [hd, q5] using hI
        clear hI hN hd hX hF H
        refine on_plain rfl ?_
        obtain ⟨s1, s2, s3⟩ := hS
        obtain ⟨A2, c2, e2, _⟩ := s2.form HFB.out
        have f30x := f30.trans s3
        rw [e2] at f30x
        have hc3 := (s1.cell (p := ⟨w.heap.size + 1, 0, none⟩) (show w.heap.size + 1 < w1.heap.size by omega)).trans k3
        have hc4 := (s1.cell (p := ⟨w.heap.size + 1, 1, none⟩) (show w.heap.size + 1 < w1.heap.size by omega)).trans k4
        have hf3 := (s1.frozen (p := ⟨w.heap.size + 1, 0, none⟩) (show w.heap.size + 1 < w1.heap.size by omega)).trans k5
        have hf4 := (s1.frozen (p := ⟨w.heap.size + 1, 1, none⟩) (show w.heap.size + 1 < w1.heap.size by omega)).trans k6
        have hs := set2 hB1 s1 (w.heap.size + 1) (by omega) (by omega) s2 hc3 hc4 (.int .u64 (base : Int)) (xv 4)
        go_simp
        rw [← e2]
        exact hK.out undef _ trivial trivial (by simpa [upB, upd] using hs)
      refine EachF.cons 8 rfl (fun dn xv W F hF hd hN hX hI H K hK => ?_) ?_
      · clear H hN hd hX hF
        refine on_plain rfl ?_
        go_simp
        exact hK.out _ _ rfl trivial (by simpa [upB, upd] using hI)
      exact EachF.nil
    · intro dn xv W hI H
      have q7 : xv 7 = .bool false := (H 7 (of_decide_eq_true (by kernel_rfl))).2
      have qe : dn 6 = true := (H 6 (of_decide_eq_true (by kernel_rfl))).1
      have hS : Below w.heap.size w W ∧ OwnB W w1.heap.size (xv 4) L ∧ IsCell2 W (w.heap.size + 1) (.int .u64 (base : Int)) (xv 4) := by simpa [qe] using hI
      clear H hI qe
      simp only [putAll, Act.put, List.setIfInBounds_toArray, List.set_cons_zero, List.set_cons_succ, Nat.reduceAdd, q7]
      clear q7
      obtain ⟨s1, s2, s3, s4⟩ := hS
      obtain ⟨A2, c2, e2, _⟩ := s2.form HFB.out
      go_wp2
      refine bodyPost_ret (v := .tuple #[.agg #[.int .u64 (base : Int), xv 4], .bool false]) (by rw [e2] at s4 ⊢; simp [results, Try.results19, go_sem, s3, s4]) rfl ?_
      exact ⟨s1, xv 4, by rw [HE.out, (ack_no HE.out).2], by rw [(ack_no HE.out).1]; exact s2.mono hB1.size⟩

set_option maxHeartbeats 1000000 in
theorem acked_c (w : World) (base upto : Nat) (A : Option Addr) (c : Nat) (L : List (List UInt8)) (h : Bx w w.heap.size A L) (hb : base < 18446744073709551616) (hu : upto < 18446744073709551616) (hf : Fit L) (hcc : L.length ≤ c) (hcm : c ≤ maxLen)
    (g1 : mayB base L = true) (g2 : base < upto) (g3 : min L.length 8 < upto - base) :
    Calls Try.prog 19 #[.agg #[.int .u64 (base : Int), .slice A L.length c], .int .u64 (upto : Int)] w (AckPost w base L upto) := by
  have hL := hf.1
  have H := Lib.hid h
  have HF := Lib.hid hf
  have hmx : L.length ≤ maxLen := by omega
  have HFB := Lib.hid (fun (x : List UInt8) (hx : x ∈ L) => (show x.length ≤ 140737488355328 by have := HF.out.2 x hx; omega))
  clear hf
  obtain ⟨W0, HW0⟩ : ∃ W0, Hid (W0 = (w.alloc (.cells #[.int .u64 (base : Int), .slice A L.length c] 25)).alloc (.cells #[.int .u64 0, .slice none 0 0] 25)) := ⟨_, Lib.hid rfl⟩
  have HA : Hid (Ak w W0 base A c L) := Lib.hid (by rw [HW0.out]; exact Ak.new w base A c L h)
  obtain ⟨m, Hm⟩ : ∃ m, Hid (min L.length 8 = m) := ⟨_, Lib.hid rfl⟩
  have hm8 : m ≤ 8 := by have := Hm.out; omega
  clear h
  have HM := Lib.hid g1
  rw [Hm.out] at g3
  have HE : Hid (ackB base L upto = false) := Lib.hid (by unfold ackB; rw [Hm.out, decide_eq_false (p := upto - base ≤ m) (by omega)]; simp)
  clear g1
  have HD1 : Hid (decide ((upto : Int) ≤ (base : Int)) = false) := Lib.hid (by simp; omega)
  have HD2 : Hid (decide (upto ≤ base) = false) := Lib.hid (by simp; omega)
  have i1 : (base : Int) ≤ (upto : Int) := by omega
  have HW5 : Hid (IntKind.u64.wrap ((upto : Int) - (base : Int)) = (upto : Int) - (base : Int)) := Lib.hid (u64_wrap (by omega) (by omega))
  have HW6 : Hid (IntKind.u64.wrap (m : Int) = (m : Int)) := Lib.hid (u64_wrap (by omega) (by omega))
  have HD3 : Hid (decide ((m : Int) < (upto : Int) - (base : Int)) = true) := Lib.hid (by simp; omega)
  have HD4 : Hid (decide ((upto : Int) - (base : Int) > (m : Int)) = true) := Lib.hid (by simp; omega)
  go_enter Try.func19, Try.ntmps19
  go_wp2_with fail
  rw [← HW0.out]
  refine wp_region_f (fun dn xv W => Below W0.heap.size W0 W) (fun W W' => Below W.heap.size W W') [fun v _ => v = .agg #[.int .u64 (base : Int), .slice A L.length c], fun v _ => v = .bool true, fun v _ => v = .bool false, fun v _ => v = .bool false, fun v _ => v = .int .u64 (upto : Int), fun v _ => v = .pointer (some ⟨w.heap.size, 0, none⟩), fun v _ => v = .int .u64 (base : Int), fun v _ => v = .bool false, fun v _ => v = .bool false, fun v _ => v = .bool false, fun v _ => v = .int .u64 (upto : Int), fun v _ => v = .pointer (some ⟨w.heap.size, 0, none⟩), fun v _ => v = .int .u64 (base : Int), fun v _ => v = .int .u64 ((upto : Int) - (base : Int)), fun v _ => v = .agg #[.int .u64 (base : Int), .slice A L.length c], fun v _ => v = .int .i64 (m : Int), fun v _ => v = .int .u64 (m : Int), fun v _ => v = .bool true, fun v _ => v = .bool true] (by kernel_rfl) (by kernel_rfl) (by kernel_rfl) (by kernel_rfl) (fun xv => by simpa using (Below.refl _ W0).drew)
    (by exact ⟨fun _ _ _ _ h => h, fun _ _ _ _ h => h, fun _ _ _ _ h => h, fun _ _ _ _ h => h, fun _ _ _ _ h => h, fun _ _ _ _ h => h, fun _ _ _ _ h => h, fun _ _ _ _ h => h, fun _ _ _ _ h => h, fun _ _ _ _ h => h, fun _ _ _ _ h => h, fun _ _ _ _ h => h, fun _ _ _ _ h => h, fun _ _ _ _ h => h, fun _ _ _ _ h => h, fun _ _ _ _ h => h, fun _ _ _ _ h => h, fun _ _ _ _ h => h, fun _ _ _ _ h => h, trivial⟩) ?_ ?_
  · refine EachF.cons 1 rfl (fun dn xv W F hF hd hN hX hI H K hK => ?_) ?_
    · have f2 : F.tmps.getD 2 undef = .pointer (some ⟨w.heap.size, 0, none⟩) := (hF 2).trans (by kernel_rfl)
      have hz0 := HA.out.z0
      have hc0 := (hI.cell (p := ⟨w.heap.size, 0, none⟩) (show w.heap.size < W0.heap.size by omega)).trans HA.out.k1
      have hc1 := (hI.cell (p := ⟨w.heap.size, 1, none⟩) (show w.heap.size < W0.heap.size by omega)).trans HA.out.k2
      clear hz0
      clear H hN hd hX hF
      refine on_plain rfl ?_
      go_simp
      exact hK.out _ _ rfl (Below.refl _ _) (by simpa [upB, upd] using hI)
    refine EachF.cons 2 rfl (fun dn xv W F hF hd hN hX hI H K hK => ?_) ?_
    · have h0 : xv 0 = .agg #[.int .u64 (base : Int), .slice A L.length c] := (H 0 (.edge (by kernel_rfl))).2
      have f6 : F.tmps.getD 6 undef = .agg #[.int .u64 (base : Int), .slice A L.length c] := (hF 6).trans (Eq.trans (by kernel_rfl) h0)
      clear H hN hd hX hF
      refine on_plain rfl ?_
      go_simp
      refine (may_any W w.heap.size base A c L (HA.out.h0.below (hI.mono HA.out.b0.size)) (Nat.le_trans HA.out.b0.size hI.size) hb hmx).mono ?_
      rintro e W' ⟨rfl, hb⟩
      rw [HM.out]
      exact hK.out _ W' rfl hb (by simpa [upB, upd] using (hI.trans (hb.mono hI.size)))
    refine EachF.cons 3 rfl (fun dn xv W F hF hd hN hX hI H K hK => ?_) ?_
    · have h1 : xv 1 = .bool true := (H 1 (.edge (by kernel_rfl))).2
      have f7 : F.tmps.getD 7 undef = .bool true := (hF 7).trans (Eq.trans (by kernel_rfl) h1)
      clear H hN hd hX hF
      refine on_plain rfl ?_
      go_simp
      exact hK.out _ _ rfl (Below.refl _ _) (by simpa [upB, upd] using hI)
    refine EachF.cons 4 rfl (fun dn xv W F hF hd hN hX hI H K hK => ?_) ?_
    · have h2 : xv 2 = .bool false := (H 2 (.edge (by kernel_rfl))).2
      have f8 : F.tmps.getD 8 undef = .bool false := (hF 8).trans (Eq.trans (by kernel_rfl) h2)
      clear H hN hd hX hF
      refine on_plain rfl ?_
      go_simp
      exact hK.out _ _ rfl (Below.refl _ _) (by simpa [upB, upd] using hI)
    refine EachF.cons 5 rfl (fun dn xv W F hF hd hN hX hI H K hK => ?_) ?_
    · have f1 : F.tmps.getD 1 undef = .int .u64 (upto : Int) := (hF 1).trans (by kernel_rfl)
      have h3 : xv 3 = .bool false := (H 3 (.edge (by kernel_rfl))).2
      have f9 : F.tmps.getD 9 undef = .bool false := (hF 9).trans (Eq.trans (by kernel_rfl) h3)
      clear H hN hd hX hF
      refine on_guard rfl (by kernel_rfl) f9 ?_
      go_simp
      exact hK.out _ _ rfl (Below.refl _ _) (by simpa [upB, upd] using hI)
    refine EachF.cons 6 rfl (fun dn xv W F hF hd hN hX hI H K hK => ?_) ?_
    · have f2 : F.tmps.getD 2 undef = .pointer (some ⟨w.heap.size, 0, none⟩) := (hF 2).trans (by kernel_rfl)
      have h3 : xv 3 = .bool false := (H 3 (.edge (by kernel_rfl))).2
      have f9 : F.tmps.getD 9 undef = .bool false := (hF 9).trans (Eq.trans (by kernel_rfl) h3)
      clear H hN hd hX hF
      refine on_guard rfl (by kernel_rfl) f9 ?_
      go_simp
      exact hK.out _ _ rfl (Below.refl _ _) (by simpa [upB, upd] using hI)
    refine EachF.cons 7 rfl (fun dn xv W F hF hd hN hX hI H K hK => ?_) ?_
    · have h5 : xv 5 = .pointer (some ⟨w.heap.size, 0, none⟩) := (H 5 (.edge (by kernel_rfl))).2
      have f11 : F.tmps.getD 11 undef = .pointer (some ⟨w.heap.size, 0, none⟩) := (hF 11).trans (Eq.trans (by kernel_rfl) h5)
      have h3 : xv 3 = .bool false := (H 3 (.edge (by kernel_rfl))).2
      have f9 : F.tmps.getD 9 undef = .bool false := (hF 9).trans (Eq.trans (by kernel_rfl) h3)
      have hz0 := HA.out.z0
      have hc0 := (hI.cell (p := ⟨w.heap.size, 0, none⟩) (show w.heap.size < W0.heap.size by omega)).trans HA.out.k1
      have hc1 := (hI.cell (p := ⟨w.heap.size, 1, none⟩) (show w.heap.size < W0.heap.size by omega)).trans HA.out.k2
      clear hz0
      clear H hN hd hX hF
      refine on_guard rfl (by kernel_rfl) f9 ?_
      go_simp
      exact hK.out _ _ rfl (Below.refl _ _) (by simpa [upB, upd] using hI)
    refine EachF.cons 8 rfl (fun dn xv W F hF hd hN hX hI H K hK => ?_) ?_
    · have h4 : xv 4 = .int .u64 (upto : Int) := (H 4 (.edge (by kernel_rfl))).2
      have f10 : F.tmps.getD 10 undef = .int .u64 (upto : Int) := (hF 10).trans (Eq.trans (by kernel_rfl) h4)
      have h6 : xv 6 = .int .u64 (base : Int) := (H 6 (.edge (by kernel_rfl))).2
      have f12 : F.tmps.getD 12 undef = .int .u64 (base : Int) := (hF 12).trans (Eq.trans (by kernel_rfl) h6)
      have h3 : xv 3 = .bool false := (H 3 (.edge (by kernel_rfl))).2
      have f9 : F.tmps.getD 9 undef = .bool false := (hF 9).trans (Eq.trans (by kernel_rfl) h3)
      clear H hN hd hX hF
      refine on_guard rfl (by kernel_rfl) f9 ?_
      have d1 := HD1.out
      have d2 := HD2.out
      go_simp
      exact hK.out _ _ rfl (Below.refl _ _) (by simpa [upB, upd] using hI)
    refine EachF.cons 9 rfl (fun dn xv W F hF hd hN hX hI H K hK => ?_) ?_
    · have h3 : xv 3 = .bool false := (H 3 (.edge (by kernel_rfl))).2
      have f9 : F.tmps.getD 9 undef = .bool false := (hF 9).trans (Eq.trans (by kernel_rfl) h3)
      have h7 : xv 7 = .bool false := (H 7 (.edge (by kernel_rfl))).2
      have f13 : F.tmps.getD 13 undef = .bool false := (hF 13).trans (Eq.trans (by kernel_rfl) h7)
      clear H hN hd hX hF
      refine on_plain rfl ?_
      go_simp
      exact hK.out _ _ rfl (Below.refl _ _) (by simpa [upB, upd] using hI)
    refine EachF.cons 10 rfl (fun dn xv W F hF hd hN hX hI H K hK => ?_) ?_
    · have h8 : xv 8 = .bool false := (H 8 (.edge (by kernel_rfl))).2
      have f14 : F.tmps.getD 14 undef = .bool false := (hF 14).trans (Eq.trans (by kernel_rfl) h8)
      clear H hN hd hX hF
      refine on_plain rfl ?_
      go_simp
      exact hK.out _ _ rfl (Below.refl _ _) (by simpa [upB, upd] using hI)
    refine EachF.cons 11 rfl (fun dn xv W F hF hd hN hX hI H K hK => ?_) ?_
    · have f1 : F.tmps.getD 1 undef = .int .u64 (upto : Int) := (hF 1).trans (by kernel_rfl)
      have h9 : xv 9 = .bool false := (H 9 (.edge (by kernel_rfl))).2
      have f15 : F.tmps.getD 15 undef = .bool false := (hF 15).trans (Eq.trans (by kernel_rfl) h9)
      clear H hN hd hX hF
      refine on_guard rfl (by kernel_rfl) f15 ?_
      go_simp
      exact hK.out _ _ rfl (Below.refl _ _) (by simpa [upB, upd] using hI)
    refine EachF.cons 12 rfl (fun dn xv W F hF hd hN hX hI H K hK => ?_) ?_
    · have f2 : F.tmps.getD 2 undef = .pointer (some ⟨w.heap.size, 0, none⟩) := (hF 2).trans (by kernel_rfl)
      have h9 : xv 9 = .bool false := (H 9 (.edge (by kernel_rfl))).2
      have f15 : F.tmps.getD 15 undef = .bool false := (hF 15).trans (Eq.trans (by kernel_rfl) h9)
      clear H hN hd hX hF
      refine on_guard rfl (by kernel_rfl) f15 ?_
      go_simp
      exact hK.out _ _ rfl (Below.refl _ _) (by simpa [upB, upd] using hI)
    refine EachF.cons 13 rfl (fun dn xv W F hF hd hN hX hI H K hK => ?_) ?_
    · have h11 : xv 11 = .pointer (some ⟨w.heap.size, 0, none⟩) := (H 11 (.edge (by kernel_rfl))).2
      have f17 : F.tmps.getD 17 undef = .pointer (some ⟨w.heap.size, 0, none⟩) := (hF 17).trans (Eq.trans (by kernel_rfl) h11)
      have h9 : xv 9 = .bool false := (H 9 (.edge (by kernel_rfl))).2
      have f15 : F.tmps.getD 15 undef = .bool false := (hF 15).trans (Eq.trans (by kernel_rfl) h9)
      have hz0 := HA.out.z0
      have hc0 := (hI.cell (p := ⟨w.heap.size, 0, none⟩) (show w.heap.size < W0.heap.size by omega)).trans HA.out.k1
      have hc1 := (hI.cell (p := ⟨w.heap.size, 1, none⟩) (show w.heap.size < W0.heap.size by omega)).trans HA.out.k2
      clear hz0
      clear H hN hd hX hF
      refine on_guard rfl (by kernel_rfl) f15 ?_
      go_simp
      exact hK.out _ _ rfl (Below.refl _ _) (by simpa [upB, upd] using hI)
    refine EachF.cons 14 rfl (fun dn xv W F hF hd hN hX hI H K hK => ?_) ?_
    · have h10 : xv 10 = .int .u64 (upto : Int) := (H 10 (.edge (by kernel_rfl))).2
      have f16 : F.tmps.getD 16 undef = .int .u64 (upto : Int) := (hF 16).trans (Eq.trans (by kernel_rfl) h10)
      have h12 : xv 12 = .int .u64 (base : Int) := (H 12 (.edge (by kernel_rfl))).2
      have f18 : F.tmps.getD 18 undef = .int .u64 (base : Int) := (hF 18).trans (Eq.trans (by kernel_rfl) h12)
      have h9 : xv 9 = .bool false := (H 9 (.edge (by kernel_rfl))).2
      have f15 : F.tmps.getD 15 undef = .bool false := (hF 15).trans (Eq.trans (by kernel_rfl) h9)
      clear H hN hd hX hF
      refine on_guard rfl (by kernel_rfl) f15 ?_
      have d5 := HW5.out
      go_simp
      exact hK.out _ _ rfl (Below.refl _ _) (by simpa [upB, upd] using hI)
    refine EachF.cons 15 rfl (fun dn xv W F hF hd hN hX hI H K hK => ?_) ?_
    · have f2 : F.tmps.getD 2 undef = .pointer (some ⟨w.heap.size, 0, none⟩) := (hF 2).trans (by kernel_rfl)
      have h9 : xv 9 = .bool false := (H 9 (.edge (by kernel_rfl))).2
      have f15 : F.tmps.getD 15 undef = .bool false := (hF 15).trans (Eq.trans (by kernel_rfl) h9)
      have hz0 := HA.out.z0
      have hc0 := (hI.cell (p := ⟨w.heap.size, 0, none⟩) (show w.heap.size < W0.heap.size by omega)).trans HA.out.k1
      have hc1 := (hI.cell (p := ⟨w.heap.size, 1, none⟩) (show w.heap.size < W0.heap.size by omega)).trans HA.out.k2
      clear hz0
      clear H hN hd hX hF
      refine on_guard rfl (by kernel_rfl) f15 ?_
      go_simp
      exact hK.out _ _ rfl (Below.refl _ _) (by simpa [upB, upd] using hI)
    refine EachF.cons 16 rfl (fun dn xv W F hF hd hN hX hI H K hK => ?_) ?_
    · have h14 : xv 14 = .agg #[.int .u64 (base : Int), .slice A L.length c] := (H 14 (.edge (by kernel_rfl))).2
      have f20 : F.tmps.getD 20 undef = .agg #[.int .u64 (base : Int), .slice A L.length c] := (hF 20).trans (Eq.trans (by kernel_rfl) h14)
      have h9 : xv 9 = .bool false := (H 9 (.edge (by kernel_rfl))).2
      have f15 : F.tmps.getD 15 undef = .bool false := (hF 15).trans (Eq.trans (by kernel_rfl) h9)
      clear H hN hd hX hF
      refine on_guard rfl (by kernel_rfl) f15 ?_
      go_simp
      refine (dueP_any W (base : Int) A L.length c hmx).mono ?_
      rintro e W' ⟨rfl, hb⟩
      rw [Hm.out]
      exact hK.out _ W' rfl hb (by simpa [upB, upd] using (hI.trans (hb.mono hI.size)))
    refine EachF.cons 17 rfl (fun dn xv W F hF hd hN hX hI H K hK => ?_) ?_
    · have h15 : xv 15 = .int .i64 (m : Int) := (H 15 (.edge (by kernel_rfl))).2
      have f21 : F.tmps.getD 21 undef = .int .i64 (m : Int) := (hF 21).trans (Eq.trans (by kernel_rfl) h15)
      have h9 : xv 9 = .bool false := (H 9 (.edge (by kernel_rfl))).2
      have f15 : F.tmps.getD 15 undef = .bool false := (hF 15).trans (Eq.trans (by kernel_rfl) h9)
      clear H hN hd hX hF
      refine on_guard rfl (by kernel_rfl) f15 ?_
      have d6 := HW6.out
      go_simp
      exact hK.out _ _ rfl (Below.refl _ _) (by simpa [upB, upd] using hI)
    refine EachF.cons 18 rfl (fun dn xv W F hF hd hN hX hI H K hK => ?_) ?_
    · have h13 : xv 13 = .int .u64 ((upto : Int) - (base : Int)) := (H 13 (.edge (by kernel_rfl))).2
      have f19 : F.tmps.getD 19 undef = .int .u64 ((upto : Int) - (base : Int)) := (hF 19).trans (Eq.trans (by kernel_rfl) h13)
      have h16 : xv 16 = .int .u64 (m : Int) := (H 16 (.edge (by kernel_rfl))).2
      have f22 : F.tmps.getD 22 undef = .int .u64 (m : Int) := (hF 22).trans (Eq.trans (by kernel_rfl) h16)
      have h9 : xv 9 = .bool false := (H 9 (.edge (by kernel_rfl))).2
      have f15 : F.tmps.getD 15 undef = .bool false := (hF 15).trans (Eq.trans (by kernel_rfl) h9)
      clear H hN hd hX hF
      refine on_guard rfl (by kernel_rfl) f15 ?_
      have d3 := HD3.out
      have d4 := HD4.out
      go_simp
      exact hK.out _ _ rfl (Below.refl _ _) (by simpa [upB, upd] using hI)
    refine EachF.cons 19 rfl (fun dn xv W F hF hd hN hX hI H K hK => ?_) ?_
    · have h9 : xv 9 = .bool false := (H 9 (.edge (by kernel_rfl))).2
      have f15 : F.tmps.getD 15 undef = .bool false := (hF 15).trans (Eq.trans (by kernel_rfl) h9)
      have h17 : xv 17 = .bool true := (H 17 (.edge (by kernel_rfl))).2
      have f23 : F.tmps.getD 23 undef = .bool true := (hF 23).trans (Eq.trans (by kernel_rfl) h17)
      clear H hN hd hX hF
      refine on_plain rfl ?_
      go_simp
      exact hK.out _ _ rfl (Below.refl _ _) (by simpa [upB, upd] using hI)
    exact EachF.nil
  · intro dn xv W hI H
    have q18 : xv 18 = .bool true := (H 18 (of_decide_eq_true (by kernel_rfl))).2
    have hS : Below W0.heap.size W0 W := hI
    clear H hI
    simp only [putAll, Act.put, List.setIfInBounds_toArray, List.set_cons_zero, List.set_cons_succ, Nat.reduceAdd, q18]
    clear q18
    obtain ⟨w1, Hw1⟩ : ∃ w1, Hid (W = w1) := ⟨_, Lib.hid rfl⟩
    have hb1 : Below W0.heap.size W0 W := hS
    rw [Hw1.out] at hb1 ⊢
    clear hS
    obtain ⟨hc1, hf1⟩ := bcell hb1
    have hz1 := hb1.size
    rw [HA.out.z0] at hz1 hc1 hf1
    have k1 := (hc1 w.heap.size 0 (by omega)).trans HA.out.k1
    have k2 := (hc1 w.heap.size 1 (by omega)).trans HA.out.k2
    have k3 := (hc1 (w.heap.size + 1) 0 (by omega)).trans HA.out.k3
    have k4 := (hc1 (w.heap.size + 1) 1 (by omega)).trans HA.out.k4
    have k5 := (hf1 (w.heap.size + 1) 0 (by omega)).trans HA.out.k5
    have k6 := (hf1 (w.heap.size + 1) 1 (by omega)).trans HA.out.k6
    have hB1 : Below w.heap.size w w1 := HA.out.b0.trans (hb1.mono HA.out.b0.size)
    clear hc1 hf1
    go_wp2_with fail
    have hbel : ∀ (dn : Nat → Bool) (xv : Nat → Value) (W : World), (if dn 6 = true then Below w.heap.size w W ∧ OwnB W w1.heap.size (xv 4) L ∧ IsCell2 W (w.heap.size + 1) (.int .u64 (base : Int)) (xv 4) else if dn 5 = true then Below w1.heap.size w1 W ∧ OwnB W w1.heap.size (xv 4) L ∧ xv 5 = .agg #[.int .u64 (base : Int), xv 4] else if dn 4 = true then Below w1.heap.size w1 W ∧ OwnB W w1.heap.size (xv 4) L else Below w1.heap.size w1 W) → dn 6 = false → Below w1.heap.size w1 W := fun dn xv W h h0 => by
      rw [if_neg (by simp [h0])] at h
      split at h
      · exact h.1
      split at h
      · exact h.1
      exact h
    refine wp_region_f (fun dn xv W => if dn 6 = true then Below w.heap.size w W ∧ OwnB W w1.heap.size (xv 4) L ∧ IsCell2 W (w.heap.size + 1) (.int .u64 (base : Int)) (xv 4) else if dn 5 = true then Below w1.heap.size w1 W ∧ OwnB W w1.heap.size (xv 4) L ∧ xv 5 = .agg #[.int .u64 (base : Int), xv 4] else if dn 4 = true then Below w1.heap.size w1 W ∧ OwnB W w1.heap.size (xv 4) L else Below w1.heap.size w1 W) (fun _ _ => True) [fun v _ => v = .pointer (some ⟨w.heap.size, 0, none⟩), fun v _ => v = .int .u64 (base : Int), fun v _ => v = .pointer (some ⟨w.heap.size, 1, none⟩), fun v _ => v = .slice A L.length c, fun v _ => ∃ A2 c2, v = .slice A2 L.length c2, fun v _ => True, fun v _ => True, fun v _ => v = .bool false] (by kernel_rfl) (by kernel_rfl) (by kernel_rfl) (by kernel_rfl) (fun xv => by simpa using (Below.refl _ w1).drew)
      (by exact ⟨fun _ _ _ _ h => h, fun _ _ _ _ h => h, fun _ _ _ _ h => h, fun _ _ _ _ h => h, fun _ _ _ _ h => h, fun _ _ _ _ h => h, fun _ _ _ _ h => h, fun _ _ _ _ h => h, trivial⟩) ?_ ?_
    · refine EachF.cons 1 rfl (fun dn xv W F hF hd hN hX hI H K hK => ?_) ?_
      · have f2 : F.tmps.getD 2 undef = .pointer (some ⟨w.heap.size, 0, none⟩) := (hF 2).trans (by kernel_rfl)
        clear H hN hd hX hF
        refine on_plain rfl ?_
        go_simp
        exact hK.out _ _ rfl trivial (by simpa [upB, upd] using hI)
      refine EachF.cons 2 rfl (fun dn xv W F hF hd hN hX hI H K hK => ?_) ?_
      · have h0 : xv 0 = .pointer (some ⟨w.heap.size, 0, none⟩) := (H 0 (.edge (by kernel_rfl))).2
        have f25 : F.tmps.getD 25 undef = .pointer (some ⟨w.heap.size, 0, none⟩) := (hF 25).trans (Eq.trans (by kernel_rfl) h0)
        have hb0 := hbel dn xv W hI (hN 6 (.edge (by kernel_rfl)))
        have hc0 := (hb0.cell (p := ⟨w.heap.size, 0, none⟩) (show w.heap.size < w1.heap.size by omega)).trans k1
        clear hb0
        clear H hN hd hX hF
        refine on_plain rfl ?_
        go_simp
        exact hK.out _ _ rfl trivial (by simpa [upB, upd] using hI)
      refine EachF.cons 3 rfl (fun dn xv W F hF hd hN hX hI H K hK => ?_) ?_
      · have f2 : F.tmps.getD 2 undef = .pointer (some ⟨w.heap.size, 0, none⟩) := (hF 2).trans (by kernel_rfl)
        clear H hN hd hX hF
        refine on_plain rfl ?_
        go_simp
        exact hK.out _ _ rfl trivial (by simpa [upB, upd] using hI)
      refine EachF.cons 4 rfl (fun dn xv W F hF hd hN hX hI H K hK => ?_) ?_
      · have h2 : xv 2 = .pointer (some ⟨w.heap.size, 1, none⟩) := (H 2 (.edge (by kernel_rfl))).2
        have f27 : F.tmps.getD 27 undef = .pointer (some ⟨w.heap.size, 1, none⟩) := (hF 27).trans (Eq.trans (by kernel_rfl) h2)
        have hb0 := hbel dn xv W hI (hN 6 (.edge (by kernel_rfl)))
        have hc0 := (hb0.cell (p := ⟨w.heap.size, 1, none⟩) (show w.heap.size < w1.heap.size by omega)).trans k2
        clear hb0
        clear H hN hd hX hF
        refine on_plain rfl ?_
        go_simp
        exact hK.out _ _ rfl trivial (by simpa [upB, upd] using hI)
      refine EachF.cons 5 rfl (fun dn xv W F hF hd hN hX hI H K hK => ?_) ?_
      · have h3 : xv 3 = .slice A L.length c := (H 3 (.edge (by kernel_rfl))).2
        have f28 : F.tmps.getD 28 undef = .slice A L.length c := (hF 28).trans (Eq.trans (by kernel_rfl) h3)
        have q5 : dn 5 = false := hN 5 (.edge (by kernel_rfl))
        have q6 : dn 6 = false := hN 6 (.more (j := 5) (by kernel_rfl) (.edge (by kernel_rfl)))
        have hS : Below w1.heap.size w1 W := by simpa [hd, q5, q6] using hI
        clear hI hN hd hX hF H
        refine on_plain rfl ?_
        go_simp
        refine (copied_any W w.heap.size A c L (H.out.below (hB1.trans (hS.mono hB1.size))) (Nat.le_trans hB1.size hS.size) HF.out).mono ?_
        rintro e W' ⟨v, rfl, ho, hb⟩
        have hs : Below w1.heap.size w1 W' ∧ OwnB W' w1.heap.size v L := ⟨hS.trans (hb.mono hS.size), ho.mono hS.size⟩
        obtain ⟨A2, c2, e2, _⟩ := ho.form HFB.out
        exact hK.out v W' ⟨A2, c2, e2⟩ trivial (by simpa [upB, upd, q5, q6] using hs)
      refine EachF.cons 6 rfl (fun dn xv W F hF hd hN hX hI H K hK => ?_) ?_
      · have h1 : xv 1 = .int .u64 (base : Int) := (H 1 (.edge (by kernel_rfl))).2
        have f26 : F.tmps.getD 26 undef = .int .u64 (base : Int) := (hF 26).trans (Eq.trans (by kernel_rfl) h1)
        have h4 := (H 4 (.edge (by kernel_rfl))).2
        simp only [Dl] at h4
        have f29 : F.tmps.getD 29 undef = xv 4 := (hF 29).trans (by kernel_rfl)
        have q4 : dn 4 = true := (H 4 (.edge (by kernel_rfl))).1
        have q6 : dn 6 = false := hN 6 (.edge (by kernel_rfl))
        have hS : Below w1.heap.size w1 W ∧ OwnB W w1.heap.size (xv 4) L := by simpa [hd, q6, q4] using hI
        clear hI hN hd hX hF H
        refine on_plain rfl ?_
        obtain ⟨A2, c2, e2, _⟩ := hS.2.form HFB.out
        have e3 := e2
        have f29x := f29.trans e2
        have g29 := f29x
        have g26 := f26
        rw [Array.getD_eq_getD_getElem?] at g29 g26
        go_simp
        rw [← e3]
        have hs : Below w1.heap.size w1 W ∧ OwnB W w1.heap.size (xv 4) L ∧ Value.agg #[.int .u64 (base : Int), xv 4] = .agg #[.int .u64 (base : Int), xv 4] := ⟨hS.1, hS.2, rfl⟩
        exact hK.out _ _ trivial trivial (by simpa [upB, upd, q6] using hs)
      refine EachF.cons 7 rfl (fun dn xv W F hF hd hN hX hI H K hK => ?_) ?_
      · have f4 : F.tmps.getD 4 undef = .pointer (some ⟨w.heap.size + 1, 0, none⟩) := (hF 4).trans (by kernel_rfl)
        have h5 := (H 5 (.edge (by kernel_rfl))).2
        simp only [Dl] at h5
        have f30 : F.tmps.getD 30 undef = xv 5 := (hF 30).trans (by kernel_rfl)
        have q5 : dn 5 = true := (H 5 (.edge (by kernel_rfl))).1
        have hS : Below w1.heap.size w1 W ∧ OwnB W w1.heap.size (xv 4) L ∧ xv 5 = .agg #[.int .u64 (base : Int), xv 4] := by simpa [hd, q5] using hI
        clear hI hN hd hX hF H
        refine on_plain rfl ?_
        obtain ⟨s1, s2, s3⟩ := hS
        obtain ⟨A2, c2, e2, _⟩ := s2.form HFB.out
        have f30x := f30.trans s3
        rw [e2] at f30x
        have hc3 := (s1.cell (p := ⟨w.heap.size + 1, 0, none⟩) (show w.heap.size + 1 < w1.heap.size by omega)).trans k3
        have hc4 := (s1.cell (p := ⟨w.heap.size + 1, 1, none⟩) (show w.heap.size + 1 < w1.heap.size by omega)).trans k4
        have hf3 := (s1.frozen (p := ⟨w.heap.size + 1, 0, none⟩) (show w.heap.size + 1 < w1.heap.size by omega)).trans k5
        have hf4 := (s1.frozen (p := ⟨w.heap.size + 1, 1, none⟩) (show w.heap.size + 1 < w1.heap.size by omega)).trans k6
        have hs := set2 hB1 s1 (w.heap.size + 1) (by omega) (by omega) s2 hc3 hc4 (.int .u64 (base : Int)) (xv 4)
        go_simp
        rw [← e2]
        exact hK.out undef _ trivial trivial (by simpa [upB, upd] using hs)
      refine EachF.cons 8 rfl (fun dn xv W F hF hd hN hX hI H K hK => ?_) ?_
      · clear H hN hd hX hF
        refine on_plain rfl ?_
        go_simp
        exact hK.out _ _ rfl trivial (by simpa [upB, upd] using hI)
      exact EachF.nil
    · intro dn xv W hI H
      have q7 : xv 7 = .bool false := (H 7 (of_decide_eq_true (by kernel_rfl))).2
      have qe : dn 6 = true := (H 6 (of_decide_eq_true (by kernel_rfl))).1
      have hS : Below w.heap.size w W ∧ OwnB W w1.heap.size (xv 4) L ∧ IsCell2 W (w.heap.size + 1) (.int .u64 (base : Int)) (xv 4) := by simpa [qe] using hI
      clear H hI qe
      simp only [putAll, Act.put, List.setIfInBounds_toArray, List.set_cons_zero, List.set_cons_succ, Nat.reduceAdd, q7]
      clear q7
      obtain ⟨s1, s2, s3, s4⟩ := hS
      obtain ⟨A2, c2, e2, _⟩ := s2.form HFB.out
      go_wp2
      refine bodyPost_ret (v := .tuple #[.agg #[.int .u64 (base : Int), xv 4], .bool false]) (by rw [e2] at s4 ⊢; simp [results, Try.results19, go_sem, s3, s4]) rfl ?_
      exact ⟨s1, xv 4, by rw [HE.out, (ack_no HE.out).2], by rw [(ack_no HE.out).1]; exact s2.mono hB1.size⟩

set_option maxHeartbeats 1000000 in
theorem acked_d (w : World) (base upto : Nat) (A : Option Addr) (c : Nat) (L : List (List UInt8)) (h : Bx w w.heap.size A L) (hb : base < 18446744073709551616) (hu : upto < 18446744073709551616) (hf : Fit L) (hcc : L.length ≤ c) (hcm : c ≤ maxLen)
    (g1 : mayB base L = true) (g2 : base < upto) (g3 : upto - base ≤ min L.length 8) :
    Calls Try.prog 19 #[.agg #[.int .u64 (base : Int), .slice A L.length c], .int .u64 (upto : Int)] w (AckPost w base L upto) := by
  have hL := hf.1
  have H := Lib.hid h
  have HF := Lib.hid hf
  have hmx : L.length ≤ maxLen := by omega
  have HFB := Lib.hid (fun (x : List UInt8) (hx : x ∈ L) => (show x.length ≤ 140737488355328 by have := HF.out.2 x hx; omega))
  clear hf
  obtain ⟨W0, HW0⟩ : ∃ W0, Hid (W0 = (w.alloc (.cells #[.int .u64 (base : Int), .slice A L.length c] 25)).alloc (.cells #[.int .u64 0, .slice none 0 0] 25)) := ⟨_, Lib.hid rfl⟩
  have HA : Hid (Ak w W0 base A c L) := Lib.hid (by rw [HW0.out]; exact Ak.new w base A c L h)
  obtain ⟨m, Hm⟩ : ∃ m, Hid (min L.length 8 = m) := ⟨_, Lib.hid rfl⟩
  have hm8 : m ≤ 8 := by have := Hm.out; omega
  clear h
  have HM := Lib.hid g1
  have g4 : upto - base ≤ L.length := by omega
  have HE : Hid (ackB base L upto = true) := Lib.hid (by unfold ackB; rw [g1, decide_eq_true g2, decide_eq_true g3]; rfl)
  rw [Hm.out] at g3
  clear g1
  have HD1 : Hid (decide ((upto : Int) ≤ (base : Int)) = false) := Lib.hid (by simp; omega)
  have HD2 : Hid (decide (upto ≤ base) = false) := Lib.hid (by simp; omega)
  have i1 : (base : Int) ≤ (upto : Int) := by omega
  have HW5 : Hid (IntKind.u64.wrap ((upto : Int) - (base : Int)) = (upto : Int) - (base : Int)) := Lib.hid (u64_wrap (by omega) (by omega))
  have HW6 : Hid (IntKind.u64.wrap (m : Int) = (m : Int)) := Lib.hid (u64_wrap (by omega) (by omega))
  have HD3 : Hid (decide ((m : Int) < (upto : Int) - (base : Int)) = false) := Lib.hid (by simp; omega)
  have HD4 : Hid (decide ((upto : Int) - (base : Int) > (m : Int)) = false) := Lib.hid (by simp; omega)
  go_enter Try.func19, Try.ntmps19
  go_wp2_with fail
  rw [← HW0.out]
  refine wp_region_f (fun dn xv W => Below W0.heap.size W0 W) (fun W W' => Below W.heap.size W W') [fun v _ => v = .agg #[.int .u64 (base : Int), .slice A L.length c], fun v _ => v = .bool true, fun v _ => v = .bool false, fun v _ => v = .bool false, fun v _ => v = .int .u64 (upto : Int), fun v _ => v = .pointer (some ⟨w.heap.size, 0, none⟩), fun v _ => v = .int .u64 (base : Int), fun v _ => v = .bool false, fun v _ => v = .bool false, fun v _ => v = .bool false, fun v _ => v = .int .u64 (upto : Int), fun v _ => v = .pointer (some ⟨w.heap.size, 0, none⟩), fun v _ => v = .int .u64 (base : Int), fun v _ => v = .int .u64 ((upto : Int) - (base : Int)), fun v _ => v = .agg #[.int .u64 (base : Int), .slice A L.length c], fun v _ => v = .int .i64 (m : Int), fun v _ => v = .int .u64 (m : Int), fun v _ => v = .bool false, fun v _ => v = .bool false] (by kernel_rfl) (by kernel_rfl) (by kernel_rfl) (by kernel_rfl) (fun xv => by simpa using (Below.refl _ W0).drew)
    (by exact ⟨fun _ _ _ _ h => h, fun _ _ _ _ h => h, fun _ _ _ _ h => h, fun _ _ _ _ h => h, fun _ _ _ _ h => h, fun _ _ _ _ h => h, fun _ _ _ _ h => h, fun _ _ _ _ h => h, fun _ _ _ _ h => h, fun _ _ _ _ h => h, fun _ _ _ _ h => h, fun _ _ _ _ h => h, fun _ _ _ _ h => h, fun _ _ _ _ h => h, fun _ _ _ _ h => h, fun _ _ _ _ h => h, fun _ _ _ _ h => h, fun _ _ _ _ h => h, fun _ _ _ _ h => h, trivial⟩) ?_ ?_
  · refine EachF.cons 1 rfl (fun dn xv W F hF hd hN hX hI H K hK => ?_) ?_
    · have f2 : F.tmps.getD 2 undef = .pointer (some ⟨w.heap.size, 0, none⟩) := (hF 2).trans (by kernel_rfl)
      have hz0 := HA.out.z0
      have hc0 := (hI.cell (p := ⟨w.heap.size, 0, none⟩) (show w.heap.size < W0.heap.size by omega)).trans HA.out.k1
      have hc1 := (hI.cell (p := ⟨w.heap.size, 1, none⟩) (show w.heap.size < W0.heap.size by omega)).trans HA.out.k2
      clear hz0
      clear H hN hd hX hF
      refine on_plain rfl ?_
      go_simp
      exact hK.out _ _ rfl (Below.refl _ _) (by simpa [upB, upd] using hI)
    refine EachF.cons 2 rfl (fun dn xv W F hF hd hN hX hI H K hK => ?_) ?_
    · have h0 : xv 0 = .agg #[.int .u64 (base : Int), .slice A L.length c] := (H 0 (.edge (by kernel_rfl))).2
      have f6 : F.tmps.getD 6 undef = .agg #[.int .u64 (base : Int), .slice A L.length c] := (hF 6).trans (Eq.trans (by kernel_rfl) h0)
      clear H hN hd hX hF
      refine on_plain rfl ?_
      go_simp
      refine (may_any W w.heap.size base A c L (HA.out.h0.below (hI.mono HA.out.b0.size)) (Nat.le_trans HA.out.b0.size hI.size) hb hmx).mono ?_
      rintro e W' ⟨rfl, hb⟩
      rw [HM.out]
      exact hK.out _ W' rfl hb (by simpa [upB, upd] using (hI.trans (hb.mono hI.size)))
    refine EachF.cons 3 rfl (fun dn xv W F hF hd hN hX hI H K hK => ?_) ?_
    · have h1 : xv 1 = .bool true := (H 1 (.edge (by kernel_rfl))).2
      have f7 : F.tmps.getD 7 undef = .bool true := (hF 7).trans (Eq.trans (by kernel_rfl) h1)
      clear H hN hd hX hF
      refine on_plain rfl ?_
      go_simp
      exact hK.out _ _ rfl (Below.refl _ _) (by simpa [upB, upd] using hI)
    refine EachF.cons 4 rfl (fun dn xv W F hF hd hN hX hI H K hK => ?_) ?_
    · have h2 : xv 2 = .bool false := (H 2 (.edge (by kernel_rfl))).2
      have f8 : F.tmps.getD 8 undef = .bool false := (hF 8).trans (Eq.trans (by kernel_rfl) h2)
      clear H hN hd hX hF
      refine on_plain rfl ?_
      go_simp
      exact hK.out _ _ rfl (Below.refl _ _) (by simpa [upB, upd] using hI)
    refine EachF.cons 5 rfl (fun dn xv W F hF hd hN hX hI H K hK => ?_) ?_
    · have f1 : F.tmps.getD 1 undef = .int .u64 (upto : Int) := (hF 1).trans (by kernel_rfl)
      have h3 : xv 3 = .bool false := (H 3 (.edge (by kernel_rfl))).2
      have f9 : F.tmps.getD 9 undef = .bool false := (hF 9).trans (Eq.trans (by kernel_rfl) h3)
      clear H hN hd hX hF
      refine on_guard rfl (by kernel_rfl) f9 ?_
      go_simp
      exact hK.out _ _ rfl (Below.refl _ _) (by simpa [upB, upd] using hI)
    refine EachF.cons 6 rfl (fun dn xv W F hF hd hN hX hI H K hK => ?_) ?_
    · have f2 : F.tmps.getD 2 undef = .pointer (some ⟨w.heap.size, 0, none⟩) := (hF 2).trans (by kernel_rfl)
      have h3 : xv 3 = .bool false := (H 3 (.edge (by kernel_rfl))).2
      have f9 : F.tmps.getD 9 undef = .bool false := (hF 9).trans (Eq.trans (by kernel_rfl) h3)
      clear H hN hd hX hF
      refine on_guard rfl (by kernel_rfl) f9 ?_
      go_simp
      exact hK.out _ _ rfl (Below.refl _ _) (by simpa [upB, upd] using hI)
    refine EachF.cons 7 rfl (fun dn xv W F hF hd hN hX hI H K hK => ?_) ?_
    · have h5 : xv 5 = .pointer (some ⟨w.heap.size, 0, none⟩) := (H 5 (.edge (by kernel_rfl))).2
      have f11 : F.tmps.getD 11 undef = .pointer (some ⟨w.heap.size, 0, none⟩) := (hF 11).trans (Eq.trans (by kernel_rfl) h5)
      have h3 : xv 3 = .bool false := (H 3 (.edge (by kernel_rfl))).2
      have f9 : F.tmps.getD 9 undef = .bool false := (hF 9).trans (Eq.trans (by kernel_rfl) h3)
      have hz0 := HA.out.z0
      have hc0 := (hI.cell (p := ⟨w.heap.size, 0, none⟩) (show w.heap.size < W0.heap.size by omega)).trans HA.out.k1
      have hc1 := (hI.cell (p := ⟨w.heap.size, 1, none⟩) (show w.heap.size < W0.heap.size by omega)).trans HA.out.k2
      clear hz0
      clear H hN hd hX hF
      refine on_guard rfl (by kernel_rfl) f9 ?_
      go_simp
      exact hK.out _ _ rfl (Below.refl _ _) (by simpa [upB, upd] using hI)
    refine EachF.cons 8 rfl (fun dn xv W F hF hd hN hX hI H K hK => ?_) ?_
    · have h4 : xv 4 = .int .u64 (upto : Int) := (H 4 (.edge (by kernel_rfl))).2
      have f10 : F.tmps.getD 10 undef = .int .u64 (upto : Int) := (hF 10).trans (Eq.trans (by kernel_rfl) h4)
      have h6 : xv 6 = .int .u64 (base : Int) := (H 6 (.edge (by kernel_rfl))).2
      have f12 : F.tmps.getD 12 undef = .int .u64 (base : Int) := (hF 12).trans (Eq.trans (by kernel_rfl) h6)
      have h3 : xv 3 = .bool false := (H 3 (.edge (by kernel_rfl))).2
      have f9 : F.tmps.getD 9 undef = .bool false := (hF 9).trans (Eq.trans (by kernel_rfl) h3)
      clear H hN hd hX hF
      refine on_guard rfl (by kernel_rfl) f9 ?_
      have d1 := HD1.out
      have d2 := HD2.out
      go_simp
      exact hK.out _ _ rfl (Below.refl _ _) (by simpa [upB, upd] using hI)
    refine EachF.cons 9 rfl (fun dn xv W F hF hd hN hX hI H K hK => ?_) ?_
    · have h3 : xv 3 = .bool false := (H 3 (.edge (by kernel_rfl))).2
      have f9 : F.tmps.getD 9 undef = .bool false := (hF 9).trans (Eq.trans (by kernel_rfl) h3)
      have h7 : xv 7 = .bool false := (H 7 (.edge (by kernel_rfl))).2
      have f13 : F.tmps.getD 13 undef = .bool false := (hF 13).trans (Eq.trans (by kernel_rfl) h7)
      clear H hN hd hX hF
      refine on_plain rfl ?_
      go_simp
      exact hK.out _ _ rfl (Below.refl _ _) (by simpa [upB, upd] using hI)
    refine EachF.cons 10 rfl (fun dn xv W F hF hd hN hX hI H K hK => ?_) ?_
    · have h8 : xv 8 = .bool false := (H 8 (.edge (by kernel_rfl))).2
      have f14 : F.tmps.getD 14 undef = .bool false := (hF 14).trans (Eq.trans (by kernel_rfl) h8)
      clear H hN hd hX hF
      refine on_plain rfl ?_
      go_simp
      exact hK.out _ _ rfl (Below.refl _ _) (by simpa [upB, upd] using hI)
    refine EachF.cons 11 rfl (fun dn xv W F hF hd hN hX hI H K hK => ?_) ?_
    · have f1 : F.tmps.getD 1 undef = .int .u64 (upto : Int) := (hF 1).trans (by kernel_rfl)
      have h9 : xv 9 = .bool false := (H 9 (.edge (by kernel_rfl))).2
      have f15 : F.tmps.getD 15 undef = .bool false := (hF 15).trans (Eq.trans (by kernel_rfl) h9)
      clear H hN hd hX hF
      refine on_guard rfl (by kernel_rfl) f15 ?_
      go_simp
      exact hK.out _ _ rfl (Below.refl _ _) (by simpa [upB, upd] using hI)
    refine EachF.cons 12 rfl (fun dn xv W F hF hd hN hX hI H K hK => ?_) ?_
    · have f2 : F.tmps.getD 2 undef = .pointer (some ⟨w.heap.size, 0, none⟩) := (hF 2).trans (by kernel_rfl)
      have h9 : xv 9 = .bool false := (H 9 (.edge (by kernel_rfl))).2
      have f15 : F.tmps.getD 15 undef = .bool false := (hF 15).trans (Eq.trans (by kernel_rfl) h9)
      clear H hN hd hX hF
      refine on_guard rfl (by kernel_rfl) f15 ?_
      go_simp
      exact hK.out _ _ rfl (Below.refl _ _) (by simpa [upB, upd] using hI)
    refine EachF.cons 13 rfl (fun dn xv W F hF hd hN hX hI H K hK => ?_) ?_
    · have h11 : xv 11 = .pointer (some ⟨w.heap.size, 0, none⟩) := (H 11 (.edge (by kernel_rfl))).2
      have f17 : F.tmps.getD 17 undef = .pointer (some ⟨w.heap.size, 0, none⟩) := (hF 17).trans (Eq.trans (by kernel_rfl) h11)
      have h9 : xv 9 = .bool false := (H 9 (.edge (by kernel_rfl))).2
      have f15 : F.tmps.getD 15 undef = .bool false := (hF 15).trans (Eq.trans (by kernel_rfl) h9)
      have hz0 := HA.out.z0
      have hc0 := (hI.cell (p := ⟨w.heap.size, 0, none⟩) (show w.heap.size < W0.heap.size by omega)).trans HA.out.k1
      have hc1 := (hI.cell (p := ⟨w.heap.size, 1, none⟩) (show w.heap.size < W0.heap.size by omega)).trans HA.out.k2
      clear hz0
      clear H hN hd hX hF
      refine on_guard rfl (by kernel_rfl) f15 ?_
      go_simp
      exact hK.out _ _ rfl (Below.refl _ _) (by simpa [upB, upd] using hI)
    refine EachF.cons 14 rfl (fun dn xv W F hF hd hN hX hI H K hK => ?_) ?_
    · have h10 : xv 10 = .int .u64 (upto : Int) := (H 10 (.edge (by kernel_rfl))).2
      have f16 : F.tmps.getD 16 undef = .int .u64 (upto : Int) := (hF 16).trans (Eq.trans (by kernel_rfl) h10)
      have h12 : xv 12 = .int .u64 (base : Int) := (H 12 (.edge (by kernel_rfl))).2
      have f18 : F.tmps.getD 18 undef = .int .u64 (base : Int) := (hF 18).trans (Eq.trans (by kernel_rfl) h12)
      have h9 : xv 9 = .bool false := (H 9 (.edge (by kernel_rfl))).2
      have f15 : F.tmps.getD 15 undef = .bool false := (hF 15).trans (Eq.trans (by kernel_rfl) h9)
      clear H hN hd hX hF
      refine on_guard rfl (by kernel_rfl) f15 ?_
      have d5 := HW5.out
      go_simp
      exact hK.out _ _ rfl (Below.refl _ _) (by simpa [upB, upd] using hI)
    refine EachF.cons 15 rfl (fun dn xv W F hF hd hN hX hI H K hK => ?_) ?_
    · have f2 : F.tmps.getD 2 undef = .pointer (some ⟨w.heap.size, 0, none⟩) := (hF 2).trans (by kernel_rfl)
      have h9 : xv 9 = .bool false := (H 9 (.edge (by kernel_rfl))).2
      have f15 : F.tmps.getD 15 undef = .bool false := (hF 15).trans (Eq.trans (by kernel_rfl) h9)
      have hz0 := HA.out.z0
      have hc0 := (hI.cell (p := ⟨w.heap.size, 0, none⟩) (show w.heap.size < W0.heap.size by omega)).trans HA.out.k1
      have hc1 := (hI.cell (p := ⟨w.heap.size, 1, none⟩) (show w.heap.size < W0.heap.size by omega)).trans HA.out.k2
      clear hz0
      clear H hN hd hX hF
      refine on_guard rfl (by kernel_rfl) f15 ?_
      go_simp
      exact hK.out _ _ rfl (Below.refl _ _) (by simpa [upB, upd] using hI)
    refine EachF.cons 16 rfl (fun dn xv W F hF hd hN hX hI H K hK => ?_) ?_
    · have h14 : xv 14 = .agg #[.int .u64 (base : Int), .slice A L.length c] := (H 14 (.edge (by kernel_rfl))).2
      have f20 : F.tmps.getD 20 undef = .agg #[.int .u64 (base : Int), .slice A L.length c] := (hF 20).trans (Eq.trans (by kernel_rfl) h14)
      have h9 : xv 9 = .bool false := (H 9 (.edge (by kernel_rfl))).2
      have f15 : F.tmps.getD 15 undef = .bool false := (hF 15).trans (Eq.trans (by kernel_rfl) h9)
      clear H hN hd hX hF
      refine on_guard rfl (by kernel_rfl) f15 ?_
      go_simp
      refine (dueP_any W (base : Int) A L.length c hmx).mono ?_
      rintro e W' ⟨rfl, hb⟩
      rw [Hm.out]
      exact hK.out _ W' rfl hb (by simpa [upB, upd] using (hI.trans (hb.mono hI.size)))
    refine EachF.cons 17 rfl (fun dn xv W F hF hd hN hX hI H K hK => ?_) ?_
    · have h15 : xv 15 = .int .i64 (m : Int) := (H 15 (.edge (by kernel_rfl))).2
      have f21 : F.tmps.getD 21 undef = .int .i64 (m : Int) := (hF 21).trans (Eq.trans (by kernel_rfl) h15)
      have h9 : xv 9 = .bool false := (H 9 (.edge (by kernel_rfl))).2
      have f15 : F.tmps.getD 15 undef = .bool false := (hF 15).trans (Eq.trans (by kernel_rfl) h9)
      clear H hN hd hX hF
      refine on_guard rfl (by kernel_rfl) f15 ?_
      have d6 := HW6.out
      go_simp
      exact hK.out _ _ rfl (Below.refl _ _) (by simpa [upB, upd] using hI)
    refine EachF.cons 18 rfl (fun dn xv W F hF hd hN hX hI H K hK => ?_) ?_
    · have h13 : xv 13 = .int .u64 ((upto : Int) - (base : Int)) := (H 13 (.edge (by kernel_rfl))).2
      have f19 : F.tmps.getD 19 undef = .int .u64 ((upto : Int) - (base : Int)) := (hF 19).trans (Eq.trans (by kernel_rfl) h13)
      have h16 : xv 16 = .int .u64 (m : Int) := (H 16 (.edge (by kernel_rfl))).2
      have f22 : F.tmps.getD 22 undef = .int .u64 (m : Int) := (hF 22).trans (Eq.trans (by kernel_rfl) h16)
      have h9 : xv 9 = .bool false := (H 9 (.edge (by kernel_rfl))).2
      have f15 : F.tmps.getD 15 undef = .bool false := (hF 15).trans (Eq.trans (by kernel_rfl) h9)
      clear H hN hd hX hF
      refine on_guard rfl (by kernel_rfl) f15 ?_
      have d3 := HD3.out
      have d4 := HD4.out
      go_simp
      exact hK.out _ _ rfl (Below.refl _ _) (by simpa [upB, upd] using hI)
    refine EachF.cons 19 rfl (fun dn xv W F hF hd hN hX hI H K hK => ?_) ?_
    · have h9 : xv 9 = .bool false := (H 9 (.edge (by kernel_rfl))).2
      have f15 : F.tmps.getD 15 undef = .bool false := (hF 15).trans (Eq.trans (by kernel_rfl) h9)
      have h17 : xv 17 = .bool false := (H 17 (.edge (by kernel_rfl))).2
      have f23 : F.tmps.getD 23 undef = .bool false := (hF 23).trans (Eq.trans (by kernel_rfl) h17)
      clear H hN hd hX hF
      refine on_plain rfl ?_
      go_simp
      exact hK.out _ _ rfl (Below.refl _ _) (by simpa [upB, upd] using hI)
    exact EachF.nil
  · intro dn xv W hI H
    have q18 : xv 18 = .bool false := (H 18 (of_decide_eq_true (by kernel_rfl))).2
    have hS : Below W0.heap.size W0 W := hI
    clear H hI
    simp only [putAll, Act.put, List.setIfInBounds_toArray, List.set_cons_zero, List.set_cons_succ, Nat.reduceAdd, q18]
    clear q18
    obtain ⟨w1, Hw1⟩ : ∃ w1, Hid (W = w1) := ⟨_, Lib.hid rfl⟩
    have hb1 : Below W0.heap.size W0 W := hS
    rw [Hw1.out] at hb1 ⊢
    clear hS
    obtain ⟨hc1, hf1⟩ := bcell hb1
    have hz1 := hb1.size
    rw [HA.out.z0] at hz1 hc1 hf1
    have k1 := (hc1 w.heap.size 0 (by omega)).trans HA.out.k1
    have k2 := (hc1 w.heap.size 1 (by omega)).trans HA.out.k2
    have k3 := (hc1 (w.heap.size + 1) 0 (by omega)).trans HA.out.k3
    have k4 := (hc1 (w.heap.size + 1) 1 (by omega)).trans HA.out.k4
    have k5 := (hf1 (w.heap.size + 1) 0 (by omega)).trans HA.out.k5
    have k6 := (hf1 (w.heap.size + 1) 1 (by omega)).trans HA.out.k6
    have hB1 : Below w.heap.size w w1 := HA.out.b0.trans (hb1.mono HA.out.b0.size)
    clear hc1 hf1
    obtain ⟨A', HA'⟩ : ∃ A', Hid ((if c = upto - base then A else A.map (·.add ((upto - base) * 1))) = A') := ⟨_, Lib.hid rfl⟩
    have hsl := run_fromB A L.length c .u64 ((upto : Int) - (base : Int)) (upto - base) (by omega) (by omega) hcc
    rw [HA'.out] at hsl
    have HX := Lib.hid (H.out.drop (upto - base) c hcc)
    rw [HA'.out] at HX
    obtain ⟨L2, HL2⟩ : ∃ L2, Hid (L.drop (upto - base) = L2) := ⟨_, Lib.hid rfl⟩
    have hL2 : L2.length = L.length - (upto - base) := by rw [← HL2.out]; simp
    rw [← hL2] at hsl
    have HF2 : Hid (Fit L2) := Lib.hid (by rw [← HL2.out]; exact HF.out.drop _)
    have HFB2 := Lib.hid (fun (x : List UInt8) (hx : x ∈ L2) => (show x.length ≤ 140737488355328 by have := HF2.out.2 x hx; omega))
    rw [HL2.out] at HX
    have HLL := Lib.hid hL2
    clear hL2
    go_wp2_with fail
    refine (copied_any w1 w.heap.size A' _ L2 (HX.out.below hB1) hB1.size HF2.out).mono ?_
    rintro e w2 ⟨v, rfl, ho, hb2⟩
    obtain ⟨A2, c2, rfl, _⟩ := ho.form HFB2.out
    have hc3 := (hb2.cell (p := ⟨w.heap.size + 1, 0, none⟩) (show w.heap.size + 1 < w1.heap.size by omega)).trans k3
    have hc4 := (hb2.cell (p := ⟨w.heap.size + 1, 1, none⟩) (show w.heap.size + 1 < w1.heap.size by omega)).trans k4
    have hf3 := (hb2.frozen (p := ⟨w.heap.size + 1, 0, none⟩) (show w.heap.size + 1 < w1.heap.size by omega)).trans k5
    have hf4 := (hb2.frozen (p := ⟨w.heap.size + 1, 1, none⟩) (show w.heap.size + 1 < w1.heap.size by omega)).trans k6
    obtain ⟨s1, s2, s3, s4⟩ := set2 hB1 hb2 (w.heap.size + 1) (by omega) (by omega) ho hc3 hc4 (.int .u64 (upto : Int)) (.slice A2 L2.length c2)
    have HS1 := Lib.hid s1
    have HS2 := Lib.hid s2
    have HS3 := Lib.hid s3
    have HS4 := Lib.hid s4
    clear s1 s2 s3 s4 ho
    go_wp2
    refine bodyPost_ret (v := .tuple #[.agg #[.int .u64 (upto : Int), .slice A2 L2.length c2], .bool true]) (by have s3 := HS3.out; have s4 := HS4.out; simp [results, Try.results19, go_sem, s3, s4]) rfl ?_
    exact ⟨HS1.out, _, by rw [HE.out, (ack_yes HE.out).2], by rw [(ack_yes HE.out).1, HL2.out]; exact HS2.out.mono hB1.size⟩

theorem acked_any (w : World) (base upto : Nat) (A : Option Addr) (c : Nat) (L : List (List UInt8)) (h : Bx w w.heap.size A L) (hb : base < 18446744073709551616) (hu : upto < 18446744073709551616) (hf : Fit L) (hcc : L.length ≤ c) (hcm : c ≤ maxLen) :
    Calls Try.prog 19 #[.agg #[.int .u64 (base : Int), .slice A L.length c], .int .u64 (upto : Int)] w (AckPost w base L upto) := by
  by_cases g1 : mayB base L = true
  · by_cases g2 : upto ≤ base
    · exact acked_b w base upto A c L h hb hu hf hcc hcm g1 g2
    · by_cases g3 : upto - base ≤ min L.length 8
      · exact acked_d w base upto A c L h hb hu hf hcc hcm g1 (by omega) g3
      · exact acked_c w base upto A c L h hb hu hf hcc hcm g1 (by omega) (by omega)
  · exact acked_a w base upto A c L h hb hu hf hcc hcm (by simpa using g1)

end Go.Proofs.Ytmjlehofjholaaa
