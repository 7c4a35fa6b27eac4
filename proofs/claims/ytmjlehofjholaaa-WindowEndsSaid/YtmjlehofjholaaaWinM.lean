/- The document's May, Due and Acked of a sender. -/
import Derived.Test.YtmjlehofjholaaaWinW
import Derived.Test.YtmjlehofjholaaaWinO
namespace Go.Proofs.Ytmjlehofjholaaa
open Go Go.RowKit Go.Shelf
set_option linter.unusedVariables false
set_option maxRecDepth 100000
attribute [local go_sem] Oper.semAt_some

theorem bodyR_t (w : World) (A : Option Addr) (c : Nat) (l : List UInt8) (hl : l.length ≤ 140737488355328) (h : bodyB l = true) : Calls Try.prog 32 #[.slice A l.length c] w fun e w' => e = .returned (.bool true) ∧ w = w' := by
  have := bodyR_any w A c l hl
  rwa [h] at this
theorem bodyR_f (w : World) (A : Option Addr) (c : Nat) (l : List UInt8) (hl : l.length ≤ 140737488355328) (h : bodyB l = false) : Calls Try.prog 32 #[.slice A l.length c] w fun e w' => e = .returned (.bool false) ∧ w = w' := by
  have := bodyR_any w A c l hl
  rwa [h] at this

theorem count_sum_yes (w : World) (x y : Nat) (h : x + y ≤ 34359738367) : Calls Try.prog 33 #[.int .u64 ((x : Int) + (y : Int))] w fun e w' => e = .returned (.bool true) ∧ w = w' := by
  have := count_yes w (x + y) h
  rwa [Int.natCast_add] at this
theorem count_sum_no (w : World) (x y : Nat) (h : 34359738367 < x + y) : Calls Try.prog 33 #[.int .u64 ((x : Int) + (y : Int))] w fun e w' => e = .returned (.bool false) ∧ w = w' := by
  have := count_no w (x + y) h
  rwa [Int.natCast_add] at this

set_option maxHeartbeats 1000000 in
theorem mayR_any (w : World) (B base : Nat) (A : Option Addr) (c : Nat) (L : List (List UInt8)) (h : Bx w B A L) (hB : B ≤ w.heap.size) (hb : base < 18446744073709551616) (hm : L.length ≤ maxLen) :
    Calls Try.prog 31 #[.agg #[.int .u64 (base : Int), .slice A L.length c]] w fun e w' => e = .returned (.bool (mayB base L)) ∧ Below w.heap.size w w' := by
  unfold maxLen at hm
  have H := Lib.hid h
  clear h
  by_cases h1 : L.length ≤ 48
  · have e0 : decide ((48 : Int) < (L.length : Int)) = false := decide_eq_false (by omega)
    by_cases h2 : base ≤ 34359738367
    · by_cases h3 : base + L.length ≤ 34359738367
      · have HC2 := Lib.hid h3
        clear h3
        go_enter Try.func31, Try.ntmps31
        go_wp2_with fail
        refine (count_yes _ base h2).mono ?_
        rintro e w' ⟨rfl, rfl⟩
        go_wp2_with fail
        refine (count_sum_yes _ base L.length HC2.out).mono ?_
        rintro e w' ⟨rfl, rfl⟩
        go_wp2_with fail
        clear e0
        go_loop [3] (fun i => ∃ k : Nat, k ≤ L.length ∧ i = .int .i64 (k : Int) ∧ okTo L k) (fun i => L.length - (intOf i).toNat)
        case atStart => exact ⟨0, by omega, rfl, okTo_zero L⟩
        case round =>
          obtain ⟨k, hk, rfl, ho⟩ := hrel
          by_cases hlt : k < L.length
          · obtain ⟨b, o, A1, c1, rfl, hbB, hc, q1, q2, q3, hh⟩ := (H.out.below ((Below.refl B w).alloc hB (.cells #[.int .u64 (base : Int), .slice A L.length c] 25))).at_ hlt
            have HN := Lib.hid (@all_no L k hlt)
            have HS := Lib.hid (@okTo_succ L k ho hlt)
            clear hh ho
            obtain ⟨l, Hl⟩ : ∃ l, Hid (L[k] = l) := ⟨_, Lib.hid rfl⟩
            rw [Hl.out] at hc q1 q3 HN HS
            unfold maxLen at q2
            by_cases g3 : bodyB l = true
            · have G3 := Lib.hid g3
              clear g3
              go_wp2_with fail
              refine (bodyR_t _ A1 c1 l q3 G3.out).mono ?_
              rintro e w' ⟨rfl, rfl⟩
              go_wp2_with fail
              go_round
              case rel => exact ⟨k + 1, by omega, by go_num, HS.out G3.out⟩
              case measure => simp [intOf]; omega
            · have G3 := Lib.hid (show bodyB l = false by simpa using g3)
              clear g3
              go_wp2_with fail
              refine (bodyR_f _ A1 c1 l q3 G3.out).mono ?_
              rintro e w' ⟨rfl, rfl⟩
              go_wp2_with fail
              go_ret
              exact ⟨ret_b (may_is h1 HC2.out (HN.out G3.out)), (Below.refl _ _).alloc (Nat.le_refl _) _⟩
          · go_wp2
            go_ret
            exact ⟨ret_b (may_is h1 HC2.out (all_end ho (by omega))), (Below.refl _ _).alloc (Nat.le_refl _) _⟩
      · have HC2 := Lib.hid (show 34359738367 < base + L.length by omega)
        clear h3
        go_enter Try.func31, Try.ntmps31
        go_wp2_with fail
        refine (count_yes _ base h2).mono ?_
        rintro e w' ⟨rfl, rfl⟩
        go_wp2_with fail
        refine (count_sum_no _ base L.length HC2.out).mono ?_
        rintro e w' ⟨rfl, rfl⟩
        go_wp2_with fail
        go_ret
        exact ⟨ret_b (may_no (.inr HC2.out)), (Below.refl _ _).alloc (Nat.le_refl _) _⟩
    · go_enter Try.func31, Try.ntmps31
      go_wp2_with fail
      refine (count_no _ base (by omega)).mono ?_
      rintro e w' ⟨rfl, rfl⟩
      go_wp2_with fail
      go_ret
      exact ⟨ret_b (may_no (.inr (by omega))), (Below.refl _ _).alloc (Nat.le_refl _) _⟩
  · have e0 : decide ((48 : Int) < (L.length : Int)) = true := decide_eq_true (by omega)
    go_enter Try.func31, Try.ntmps31
    go_wp2
    go_ret
    exact ⟨ret_b (may_no (.inl (by omega))), (Below.refl _ _).alloc (Nat.le_refl _) _⟩

theorem ret_int {k : IntKind} {a b : Int} (h : a = b) : Ending.returned (.int k a) = .returned (.int k b) := by rw [h]
def dueN (base : Nat) (L : List (List UInt8)) : Nat := if mayB base L = true then min L.length 8 else 0
theorem dueN_le (base : Nat) (L : List (List UInt8)) : dueN base L ≤ 8 ∧ dueN base L ≤ L.length := by
  unfold dueN
  split <;> omega
theorem mayR_t (w : World) (B base : Nat) (A : Option Addr) (c : Nat) (L : List (List UInt8)) (h : Bx w B A L) (hB : B ≤ w.heap.size) (hb : base < 18446744073709551616) (hm : L.length ≤ maxLen) (hy : mayB base L = true) :
    Calls Try.prog 31 #[.agg #[.int .u64 (base : Int), .slice A L.length c]] w fun e w' => e = .returned (.bool true) ∧ Below w.heap.size w w' := by
  have := mayR_any w B base A c L h hB hb hm
  rwa [hy] at this
theorem mayR_f (w : World) (B base : Nat) (A : Option Addr) (c : Nat) (L : List (List UInt8)) (h : Bx w B A L) (hB : B ≤ w.heap.size) (hb : base < 18446744073709551616) (hm : L.length ≤ maxLen) (hy : mayB base L = false) :
    Calls Try.prog 31 #[.agg #[.int .u64 (base : Int), .slice A L.length c]] w fun e w' => e = .returned (.bool false) ∧ Below w.heap.size w w' := by
  have := mayR_any w B base A c L h hB hb hm
  rwa [hy] at this

set_option maxHeartbeats 1000000 in
theorem dueR_any (w : World) (B base : Nat) (A : Option Addr) (c : Nat) (L : List (List UInt8)) (h : Bx w B A L) (hB : B ≤ w.heap.size) (hb : base < 18446744073709551616) (hm : L.length ≤ maxLen) :
    Calls Try.prog 18 #[.agg #[.int .u64 (base : Int), .slice A L.length c]] w fun e w' => e = .returned (.int .i64 (dueN base L : Int)) ∧ Below w.heap.size w w' := by
  have HX := Lib.hid (h.below ((Below.refl B w).alloc hB (.cells #[.int .u64 (base : Int), .slice A L.length c] 25)))
  clear h
  by_cases hy : mayB base L = true
  · have HY := Lib.hid hy
    have e1 : dueN base L = min L.length 8 := by simp [dueN, hy]
    rw [e1]
    clear e1 hy
    have hmx := hm
    unfold maxLen at hmx
    go_enter Try.func18, Try.ntmps18
    go_wp2_with fail
    refine (mayR_t _ B base A c L HX.out (by simp; omega) hb hm HY.out).mono ?_
    rintro e w1 ⟨rfl, hb1⟩
    have k1 : w1.cell? ⟨w.heap.size, 1, none⟩ = some (.slice A L.length c) := (hb1.cell (p := ⟨w.heap.size, 1, none⟩) (by simp)).trans (by simp [go_sem])
    have HB := Lib.hid (show Below w.heap.size w w1 from ((Below.refl _ w).alloc (Nat.le_refl _) _).trans (hb1.mono (by simp)))
    clear hb1
    go_wp2_with fail
    all_goals
      go_ret
      exact ⟨ret_int (by omega), HB.out⟩
  · have hy2 : mayB base L = false := by simpa using hy
    have HY := Lib.hid hy2
    have e1 : dueN base L = 0 := by simp [dueN, hy]
    rw [e1]
    clear e1 hy hy2
    go_enter Try.func18, Try.ntmps18
    go_wp2_with fail
    refine (mayR_f _ B base A c L HX.out (by simp; omega) hb hm HY.out).mono ?_
    rintro e w1 ⟨rfl, hb1⟩
    go_wp2_with fail
    go_ret
    exact ⟨rfl, ((Below.refl _ w).alloc (Nat.le_refl _) _).trans (hb1.mono (by simp))⟩

theorem due_small {base : Nat} {L : List (List UInt8)} (h : 1 ≤ dueN base L) : base + L.length ≤ 34359738367 := by
  by_cases hm : mayB base L = true
  · simp [mayB] at hm
    omega
  · simp [dueN, hm] at h
theorem ack_hit {base upto n : Nat} {L : List (List UInt8)} (h1 : 1 ≤ n) (h2 : n ≤ dueN base L) (h3 : base + n = upto) : ackB base L upto = true ∧ upto - base = n := by
  by_cases hm : mayB base L = true
  · simp only [dueN, hm, if_true] at h2
    refine ⟨?_, by omega⟩
    simp only [ackB, hm, Bool.true_and, Bool.and_eq_true, decide_eq_true_eq]
    omega
  · simp [dueN, hm] at h2
    omega
theorem ack_none {base upto : Nat} {L : List (List UInt8)} (h : ∀ j, 1 ≤ j → j ≤ dueN base L → base + j ≠ upto) : ackB base L upto = false := by
  by_cases hb : ackB base L upto = true
  · exfalso
    simp only [ackB, Bool.and_eq_true, decide_eq_true_eq] at hb
    refine h (upto - base) (by omega) ?_ (by omega)
    simp only [dueN, hb.1.1, if_true]
    exact hb.2
  · simpa using hb

theorem OwnB.bx {w : World} {base n c : Nat} {A : Option Addr} {L : List (List UInt8)} (h : OwnB w base (.slice A n c) L) (hL : ∀ l ∈ L, l.length ≤ 140737488355328) : Bx w w.heap.size A L := by
  obtain ⟨A', c', e, _, _, hx⟩ := h.form hL
  simp only [Value.slice.injEq] at e
  rw [e.1]
  exact hx
def RAckPost (w : World) (base : Nat) (L : List (List UInt8)) (upto : Nat) (e : Ending) (w' : World) : Prop :=
  Below w.heap.size w w' ∧ ∃ A c, e = .returned (.tuple #[.agg #[.int .u64 (ackV base L upto : Int), .slice A (ackL base L upto).length c], .bool (ackB base L upto)]) ∧ Bx w' w'.heap.size A (ackL base L upto)
structure AckAt (w wr : World) (base : Nat) (v : Value) (L : List (List UInt8)) : Prop where
  below : Below w.heap.size w wr
  big : w.heap.size + 2 ≤ wr.heap.size
  b0 : Two wr w.heap.size (.int .u64 (base : Int)) v
  b1 : Two wr (w.heap.size + 1) (.int .u64 0) (.slice none 0 0)
  own : OwnB wr (w.heap.size + 2) v L
theorem AckAt.keep {w wr W : World} {base : Nat} {v : Value} {L : List (List UInt8)} (h : AckAt w wr base v L) (hb : Below wr.heap.size wr W) : AckAt w W base v L :=
  ⟨h.below.trans (hb.mono h.below.size), Nat.le_trans h.big hb.size, h.b0.below hb (by have := h.big; omega), h.b1.below hb (by have := h.big; omega), h.own.below hb⟩
theorem AckAt.start {w W w1 : World} {base : Nat} {A : Option Addr} {c : Nat} {v : Value} {L : List (List UInt8)} (hW : W = (w.alloc (.cells #[.int .u64 (base : Int), .slice A L.length c] 25)).alloc (.cells #[.int .u64 0, .slice none 0 0] 25))
    (hb : Below W.heap.size W w1) (ho : OwnB w1 W.heap.size v L) : AckAt w ((w1.setCell ⟨w.heap.size, 0, none⟩ (.int .u64 (base : Int))).setCell ⟨w.heap.size, 1, none⟩ v) base v L := by
  have hz : W.heap.size = w.heap.size + 2 := by rw [hW]; simp
  have n0 : Two W w.heap.size (.int .u64 (base : Int)) (.slice A L.length c) := by rw [hW]; exact (Two.new w _ _).below ((Below.refl (w.heap.size + 1) _).alloc (by simp) _) (by omega)
  have n1 : Two W (w.heap.size + 1) (.int .u64 0) (.slice none 0 0) := by
    rw [hW]
    have := Two.new (w.alloc (.cells #[.int .u64 (base : Int), .slice A L.length c] 25)) (.int .u64 0) (.slice none 0 0)
    rwa [World.size_alloc] at this
  have hbw : Below w.heap.size w W := by rw [hW]; exact ((Below.refl _ w).alloc (Nat.le_refl _) _).alloc (by simp) _
  rw [hz] at hb ho
  exact ⟨((hbw.trans (hb.mono (by omega))).setCell (by simp) _).setCell (by simp) _, by have := hb.size; simp; omega, ((n0.below hb (by omega)).set0 _).set1 _, ((n1.below hb (by omega)).other (by omega) _).other (by omega) _, (ho.set (by omega) _).set (by omega) _⟩

set_option maxHeartbeats 1000000 in
theorem ackedR_any (w : World) (base upto : Nat) (A : Option Addr) (c : Nat) (L : List (List UInt8)) (h : Bx w w.heap.size A L) (hb : base < 18446744073709551616) (hu : upto < 18446744073709551616) (hf : Fit L) (hcc : L.length ≤ c) (hcm : c ≤ maxLen) :
    Calls Try.prog 20 #[.agg #[.int .u64 (base : Int), .slice A L.length c], .int .u64 (upto : Int)] w (RAckPost w base L upto) := by
  obtain ⟨W, HW⟩ : ∃ W, Hid (W = (w.alloc (.cells #[.int .u64 (base : Int), .slice A L.length c] 25)).alloc (.cells #[.int .u64 0, .slice none 0 0] 25)) := ⟨_, Lib.hid rfl⟩
  have hbw : Below w.heap.size w W := by rw [HW.out]; exact ((Below.refl _ w).alloc (Nat.le_refl _) _).alloc (by simp) _
  have hz : w.heap.size + 2 ≤ W.heap.size := by rw [HW.out]; simp
  have HX := Lib.hid ((h.below hbw).more hbw.size)
  have n0 : Two W w.heap.size (.int .u64 (base : Int)) (.slice A L.length c) := by rw [HW.out]; exact (Two.new w _ _).below ((Below.refl (w.heap.size + 1) _).alloc (by simp) _) (by omega)
  have h1 := hf.1
  have HF := Lib.hid hf
  clear h hf
  go_enter Try.func20, Try.ntmps20
  go_wp2_with fail
  rw [← HW.out]
  refine (ownR_any W base A c L HX.out HF.out).mono ?_
  rintro e w1 ⟨v, rfl, ho, hb1⟩
  obtain ⟨Av, cv, rfl, p1, p2, _⟩ := ho.form HF.out.all
  have HA := Lib.hid (AckAt.start HW.out hb1 ho)
  have k0 := (n0.below hb1 (by omega)).c0
  have k1 := (n0.below hb1 (by omega)).c1
  have k2 := (n0.below hb1 (by omega)).f0
  have k3 := (n0.below hb1 (by omega)).f1
  clear ho hb1 n0
  obtain ⟨d, HD⟩ : ∃ d, Hid (dueN base L = d) := ⟨_, Lib.hid rfl⟩
  have hd8 : d ≤ 8 := by rw [← HD.out]; exact (dueN_le base L).1
  have hdl : d ≤ L.length := by rw [← HD.out]; exact (dueN_le base L).2
  have hsm : 1 ≤ d → base + L.length ≤ 34359738367 := fun hh => due_small (by rw [HD.out]; exact hh)
  have HSM := Lib.hid hsm
  clear hsm
  go_wp2_with fail
  obtain ⟨W1, HW1⟩ : ∃ W1, Hid (W1 = (w1.setCell ⟨w.heap.size, 0, none⟩ (.int .u64 (base : Int))).setCell ⟨w.heap.size, 1, none⟩ (.slice Av L.length cv)) := ⟨_, Lib.hid rfl⟩
  rw [← HW1.out] at HA
  rw [← HW1.out]
  clear k0 k1 k2 k3
  go_loopw [6] (fun i wr => ∃ n : Nat, 1 ≤ n ∧ n ≤ d + 1 ∧ i = .int .i64 (n : Int) ∧ Hid (∀ j, 1 ≤ j → j < n → base + j ≠ upto) ∧ AckAt w wr base (.slice Av L.length cv) L) (fun i _ => d + 1 - (intOf i).toNat)
  case atStart => exact ⟨1, by omega, by omega, rfl, Lib.hid (fun j h1 h2 => by omega), HA.out⟩
  case round =>
    obtain ⟨n, hn1, hn2, rfl, HN, ha⟩ := hrel
    have k0 := ha.b0.c0
    have k1 := ha.b0.c1
    obtain ⟨Av', cv', e1, _, _, hx⟩ := ha.own.form HF.out.all
    obtain ⟨rfl, rfl⟩ : Av = Av' ∧ cv = cv' := by simpa using e1
    have HX := Lib.hid hx
    have HA := Lib.hid ha
    have hbig := ha.big
    clear hx ha e1
    go_wp2_with fail
    refine (dueR_any wr wr.heap.size base Av cv L HX.out (Nat.le_refl _) hb (by omega)).mono ?_
    rintro e w2 ⟨rfl, hb2⟩
    rw [HD.out]
    have HA2 := Lib.hid (HA.out.keep hb2)
    have k0 := HA2.out.b0.c0
    have k1 := HA2.out.b0.c1
    have k2 := HA2.out.b1.c0
    have k3 := HA2.out.b1.c1
    have k4 := HA2.out.b1.f0
    have k5 := HA2.out.b1.f1
    have HX2 := Lib.hid (HX.out.below hb2)
    have hz2 := hb2.size
    by_cases hle : n ≤ d
    · have hs := HSM.out (by omega)
      by_cases hhit : base + n = upto
      · have g1 := run_fromB Av L.length cv .i64 (n : Int) n rfl (by omega) p1
        obtain ⟨Ad, HAD⟩ : ∃ Ad, Hid ((if cv = n then Av else Av.map (·.add (n * 1))) = Ad) := ⟨_, Lib.hid rfl⟩
        rw [HAD.out] at g1
        have g2 : ((base : Int) + (n : Int) == (upto : Int)) = true := by simp; omega
        have HH := Lib.hid (ack_hit hn1 (by rw [HD.out]; exact hle) hhit)
        clear hhit
        go_wp2_with fail
        refine bodyPost_ret (v := .tuple #[.agg #[.int .u64 (upto : Int), .slice Ad (L.length - n) (cv - n)], .bool true]) (by simp [results, Try.results20, go_sem, k2, k3]) rfl ?_
        have hx9 := (((HA2.out.own.set (g := w.heap.size + 1) (i := 0) (by omega) (.int .u64 (upto : Int))).set (g := w.heap.size + 1) (i := 1) (by omega) (.slice Ad (L.length - n) (cv - n))).bx HF.out.all).drop n cv p1
        rw [HAD.out] at hx9
        refine ⟨(HA2.out.below.setCell (by simp) _).setCell (by simp) _, Ad, cv - n, ?_, ?_⟩
        · rw [(ack_yes HH.out.1).1, (ack_yes HH.out.1).2, HH.out.1, HH.out.2, List.length_drop]
        · rw [(ack_yes HH.out.1).1, HH.out.2]
          exact hx9
      · have g1 : ((base : Int) + (n : Int) == (upto : Int)) = false := by simp; omega
        go_wp2_with fail
        go_roundw
        case rel => exact ⟨n + 1, by omega, by omega, by go_num, Lib.hid (fun j j1 j2 => by
          rcases Nat.lt_or_ge j n with hj | hj
          · exact HN.out j j1 hj
          · obtain rfl : j = n := by omega
            exact hhit), HA2.out⟩
        case measure => simp [intOf]; omega
    · have g1 : decide ((n : Int) ≤ (d : Int)) = false := decide_eq_false (by omega)
      go_wp2_with fail
      refine bodyPost_ret (v := .tuple #[.agg #[.int .u64 (base : Int), .slice Av L.length cv], .bool false]) (by simp [results, Try.results20, go_sem, k2, k3]) rfl ?_
      have hno : ackB base L upto = false := ack_none fun j j1 j2 => HN.out j j1 (by rw [HD.out] at j2; omega)
      refine ⟨(HA2.out.below.setCell (by simp) _).setCell (by simp) _, Av, cv, ?_, ?_⟩
      · rw [(ack_no hno).1, (ack_no hno).2, hno]
      · rw [(ack_no hno).1]
        exact ((HA2.out.own.set (by omega) _).set (by omega) _).bx HF.out.all
end Go.Proofs.Ytmjlehofjholaaa
