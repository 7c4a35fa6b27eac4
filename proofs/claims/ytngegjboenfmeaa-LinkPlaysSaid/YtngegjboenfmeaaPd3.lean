/- Part 3 of the texts of a claim: WinM WinS SepR Two RkC WinQ SepX LnkT LnkU LnkW RkD -/
import Derived.Test.YtngegjboenfmeaaPd1
import Derived.Test.YtngegjboenfmeaaPd2
import Derived.Deep.CutBlock
import Derived.Deep.DeepCutAuto
namespace Go.Proofs.Ytngegjboenfmeaa
open Go Go.RowKit Go.Shelf
set_option linter.unusedVariables false
set_option maxRecDepth 100000
attribute [local go_sem] Oper.semAt_some

theorem bodyR_t (w : World) (A : Option Addr) (c : Nat) (l : List UInt8) (hl : l.length ≤ 140737488355328) (h : bodyB l = true) : Calls Try.prog 76 #[.slice A l.length c] w fun e w' => e = .returned (.bool true) ∧ w = w' := by
 have := bodyR_any w A c l hl
 rwa [h] at this
theorem bodyR_f (w : World) (A : Option Addr) (c : Nat) (l : List UInt8) (hl : l.length ≤ 140737488355328) (h : bodyB l = false) : Calls Try.prog 76 #[.slice A l.length c] w fun e w' => e = .returned (.bool false) ∧ w = w' := by
 have := bodyR_any w A c l hl
 rwa [h] at this

theorem count_sum_yes (w : World) (x y : Nat) (h : x + y ≤ 34359738367) : Calls Try.prog 47 #[.int .u64 ((x : Int) + (y : Int))] w fun e w' => e = .returned (.bool true) ∧ w = w' := by
 have := count_yes w (x + y) h
 rwa [Int.natCast_add] at this
theorem count_sum_no (w : World) (x y : Nat) (h : 34359738367 < x + y) : Calls Try.prog 47 #[.int .u64 ((x : Int) + (y : Int))] w fun e w' => e = .returned (.bool false) ∧ w = w' := by
 have := count_no w (x + y) h
 rwa [Int.natCast_add] at this

set_option maxHeartbeats 1000000 in
theorem mayR_any (w : World) (B base : Nat) (A : Option Addr) (c : Nat) (L : List (List UInt8)) (h : Bx w B A L) (hB : B ≤ w.heap.size) (hb : base < 18446744073709551616) (hm : L.length ≤ maxLen) :
  Calls Try.prog 74 #[.agg #[.int .u64 (base : Int), .slice A L.length c]] w fun e w' => e = .returned (.bool (wmayB base L)) ∧ Below w.heap.size w w' := by
 unfold maxLen at hm; have H := Lib.hid h; clear h
 by_cases h1 : L.length ≤ 48
 ·have e0 : decide ((48 : Int) < (L.length : Int)) = false := decide_eq_false (by omega)
  by_cases h2 : base ≤ 34359738367
  ·by_cases h3 : base + L.length ≤ 34359738367
   ·have HC2 := Lib.hid h3; clear h3; go_enter Try.func74, Try.ntmps74
    go_wp2_with fail
    refine (count_yes _ base h2).mono ?_; rintro e w' ⟨rfl, rfl⟩
    go_wp2_with fail
    refine (count_sum_yes _ base L.length HC2.out).mono ?_; rintro e w' ⟨rfl, rfl⟩
    go_wp2_with fail
    clear e0
    go_loop [3] (fun i => ∃ k : Nat, k ≤ L.length ∧ i = .int .i64 (k : Int) ∧ okTo L k) (fun i => L.length - (intOf i).toNat)
    case atStart => exact ⟨0, by omega, rfl, okTo_zero L⟩
    case round =>
     obtain ⟨k, hk, rfl, ho⟩ := hrel
     by_cases hlt : k < L.length
     ·obtain ⟨b, o, A1, c1, rfl, hbB, hc, q1, q2, q3, hh⟩ := (H.out.below ((Below.refl B w).alloc hB (.cells #[.int .u64 (base : Int), .slice A L.length c] 68))).at_ hlt; have HN := Lib.hid (@all_no L k hlt); have HS := Lib.hid (@okTo_succ L k ho hlt); clear hh ho; obtain ⟨l, Hl⟩ : ∃ l, Hid (L[k] = l) := ⟨_, Lib.hid rfl⟩; rw [Hl.out] at hc q1 q3 HN HS; unfold maxLen at q2
      by_cases g3 : bodyB l = true
      ·have G3 := Lib.hid g3; clear g3
       go_wp2_with fail
       refine (bodyR_t _ A1 c1 l q3 G3.out).mono ?_; rintro e w' ⟨rfl, rfl⟩
       go_wp2_with fail
       go_round
       case rel => exact ⟨k + 1, by omega, by go_num, HS.out G3.out⟩
       case measure => simp [intOf]; omega
      ·have G3 := Lib.hid (show bodyB l = false by simpa using g3); clear g3
       go_wp2_with fail
       refine (bodyR_f _ A1 c1 l q3 G3.out).mono ?_; rintro e w' ⟨rfl, rfl⟩
       go_wp2_with fail
       go_ret
       exact ⟨ret_b (may_is h1 HC2.out (HN.out G3.out)), (Below.refl _ _).alloc (Nat.le_refl _) _⟩
     ·go_wp2
      go_ret
      exact ⟨ret_b (may_is h1 HC2.out (all_end ho (by omega))), (Below.refl _ _).alloc (Nat.le_refl _) _⟩
   ·have HC2 := Lib.hid (show 34359738367 < base + L.length by omega); clear h3; go_enter Try.func74, Try.ntmps74
    go_wp2_with fail
    refine (count_yes _ base h2).mono ?_; rintro e w' ⟨rfl, rfl⟩
    go_wp2_with fail
    refine (count_sum_no _ base L.length HC2.out).mono ?_; rintro e w' ⟨rfl, rfl⟩
    go_wp2_with fail
    go_ret
    exact ⟨ret_b (may_no (.inr HC2.out)), (Below.refl _ _).alloc (Nat.le_refl _) _⟩
  ·go_enter Try.func74, Try.ntmps74
   go_wp2_with fail
   refine (count_no _ base (by omega)).mono ?_; rintro e w' ⟨rfl, rfl⟩
   go_wp2_with fail
   go_ret
   exact ⟨ret_b (may_no (.inr (by omega))), (Below.refl _ _).alloc (Nat.le_refl _) _⟩
 ·have e0 : decide ((48 : Int) < (L.length : Int)) = true := decide_eq_true (by omega); go_enter Try.func74, Try.ntmps74; go_wp2
  go_ret
  exact ⟨ret_b (may_no (.inl (by omega))), (Below.refl _ _).alloc (Nat.le_refl _) _⟩

theorem ret_int {k : IntKind} {a b : Int} (h : a = b) : Ending.returned (.int k a) = .returned (.int k b) := by rw [h]
def dueN (base : Nat) (L : List (List UInt8)) : Nat := if wmayB base L = true then min L.length 8 else 0
theorem dueN_le (base : Nat) (L : List (List UInt8)) : dueN base L ≤ 8 ∧ dueN base L ≤ L.length := by
 unfold dueN; split <;> omega
theorem mayR_t (w : World) (B base : Nat) (A : Option Addr) (c : Nat) (L : List (List UInt8)) (h : Bx w B A L) (hB : B ≤ w.heap.size) (hb : base < 18446744073709551616) (hm : L.length ≤ maxLen) (hy : wmayB base L = true) :
  Calls Try.prog 74 #[.agg #[.int .u64 (base : Int), .slice A L.length c]] w fun e w' => e = .returned (.bool true) ∧ Below w.heap.size w w' := by
 have := mayR_any w B base A c L h hB hb hm
 rwa [hy] at this
theorem mayR_f (w : World) (B base : Nat) (A : Option Addr) (c : Nat) (L : List (List UInt8)) (h : Bx w B A L) (hB : B ≤ w.heap.size) (hb : base < 18446744073709551616) (hm : L.length ≤ maxLen) (hy : wmayB base L = false) :
  Calls Try.prog 74 #[.agg #[.int .u64 (base : Int), .slice A L.length c]] w fun e w' => e = .returned (.bool false) ∧ Below w.heap.size w w' := by
 have := mayR_any w B base A c L h hB hb hm
 rwa [hy] at this

set_option maxHeartbeats 1000000 in
theorem dueR_any (w : World) (B base : Nat) (A : Option Addr) (c : Nat) (L : List (List UInt8)) (h : Bx w B A L) (hB : B ≤ w.heap.size) (hb : base < 18446744073709551616) (hm : L.length ≤ maxLen) :
  Calls Try.prog 68 #[.agg #[.int .u64 (base : Int), .slice A L.length c]] w fun e w' => e = .returned (.int .i64 (dueN base L : Int)) ∧ Below w.heap.size w w' := by
 have HX := Lib.hid (h.below ((Below.refl B w).alloc hB (.cells #[.int .u64 (base : Int), .slice A L.length c] 68))); clear h
 by_cases hy : wmayB base L = true
 ·have HY := Lib.hid hy; have e1 : dueN base L = min L.length 8 := by simp [dueN, hy]
  rw [e1]; clear e1 hy; have hmx := hm; unfold maxLen at hmx; go_enter Try.func68, Try.ntmps68
  go_wp2_with fail
  refine (mayR_t _ B base A c L HX.out (by simp; omega) hb hm HY.out).mono ?_; rintro e w1 ⟨rfl, hb1⟩; have k1 : w1.cell? ⟨w.heap.size, 1, none⟩ = some (.slice A L.length c) := (hb1.cell (p := ⟨w.heap.size, 1, none⟩) (by simp)).trans (by simp [go_sem]); have HB := Lib.hid (show Below w.heap.size w w1 from ((Below.refl _ w).alloc (Nat.le_refl _) _).trans (hb1.mono (by simp))); clear hb1
  go_wp2_with fail
  all_goals
   go_ret
   exact ⟨ret_int (by omega), HB.out⟩
 ·have hy2 : wmayB base L = false := by simpa using hy
  have HY := Lib.hid hy2; have e1 : dueN base L = 0 := by simp [dueN, hy]
  rw [e1]; clear e1 hy hy2; go_enter Try.func68, Try.ntmps68
  go_wp2_with fail
  refine (mayR_f _ B base A c L HX.out (by simp; omega) hb hm HY.out).mono ?_; rintro e w1 ⟨rfl, hb1⟩
  go_wp2_with fail
  go_ret
  exact ⟨rfl, ((Below.refl _ w).alloc (Nat.le_refl _) _).trans (hb1.mono (by simp))⟩

theorem due_small {base : Nat} {L : List (List UInt8)} (h : 1 ≤ dueN base L) : base + L.length ≤ 34359738367 := by
 by_cases hm : wmayB base L = true
 ·simp [wmayB] at hm; omega
 ·simp [dueN, hm] at h
theorem ack_hit {base upto n : Nat} {L : List (List UInt8)} (h1 : 1 ≤ n) (h2 : n ≤ dueN base L) (h3 : base + n = upto) : ackB base L upto = true ∧ upto - base = n := by
 by_cases hm : wmayB base L = true
 ·simp only [dueN, hm, if_true] at h2; refine ⟨?_, by omega⟩; simp only [ackB, hm, Bool.true_and, Bool.and_eq_true, decide_eq_true_eq]; omega
 ·simp [dueN, hm] at h2; omega
theorem ack_none {base upto : Nat} {L : List (List UInt8)} (h : ∀ j, 1 ≤ j → j ≤ dueN base L → base + j ≠ upto) : ackB base L upto = false := by
 by_cases hb : ackB base L upto = true
 ·exfalso; simp only [ackB, Bool.and_eq_true, decide_eq_true_eq] at hb; refine h (upto - base) (by omega) ?_ (by omega); simp only [dueN, hb.1.1, if_true]; exact hb.2
 ·simpa using hb

theorem OwnB.bx {w : World} {base n c : Nat} {A : Option Addr} {L : List (List UInt8)} (h : OwnB w base (.slice A n c) L) (hL : ∀ l ∈ L, l.length ≤ 140737488355328) : Bx w w.heap.size A L := by
 obtain ⟨A', c', e, _, _, hx⟩ := h.form hL; simp only [Value.slice.injEq] at e; rw [e.1]; exact hx
def RAckPost (w : World) (base : Nat) (L : List (List UInt8)) (upto : Nat) (e : Ending) (w' : World) : Prop :=
 Below w.heap.size w w' ∧ ∃ A c, e = .returned (.tuple #[.agg #[.int .u64 (ackV base L upto : Int), .slice A (ackL base L upto).length c], .bool (ackB base L upto)]) ∧ Bx w' w'.heap.size A (ackL base L upto)
structure AckAt (w wr : World) (base : Nat) (v : Value) (L : List (List UInt8)) : Prop where
 below : Below w.heap.size w wr
 big : w.heap.size + 2 ≤ wr.heap.size
 b0 : Two wr w.heap.size (.int .u64 (base : Int)) v
 b1 : Two wr (w.heap.size + 1) (.int .u64 0) (.slice none 0 0)
 own : OwnB wr (w.heap.size + 2) v L
theorem AckAt.keep {w wr W : World} {base : Nat} {v : Value} {L : List (List UInt8)} (h : AckAt w wr base v L) (hb : Below wr.heap.size wr W) : AckAt w W base v L :=
 ⟨h.below.trans (hb.mono h.below.size), Nat.le_trans h.big hb.size, h.b0.below hb (by have := h.big; omega), h.b1.below hb (by have := h.big; omega), h.own.below hb⟩
theorem AckAt.start {w W w1 : World} {base : Nat} {A : Option Addr} {c : Nat} {v : Value} {L : List (List UInt8)} (hW : W = (w.alloc (.cells #[.int .u64 (base : Int), .slice A L.length c] 68)).alloc (.cells #[.int .u64 0, .slice none 0 0] 68))
  (hb : Below W.heap.size W w1) (ho : OwnB w1 W.heap.size v L) : AckAt w ((w1.setCell ⟨w.heap.size, 0, none⟩ (.int .u64 (base : Int))).setCell ⟨w.heap.size, 1, none⟩ v) base v L := by
 have hz : W.heap.size = w.heap.size + 2 := by rw [hW]; simp
 have n0 : Two W w.heap.size (.int .u64 (base : Int)) (.slice A L.length c) := by rw [hW]; exact (Two.new w _ _).below ((Below.refl (w.heap.size + 1) _).alloc (by simp) _) (by omega)
 have n1 : Two W (w.heap.size + 1) (.int .u64 0) (.slice none 0 0) := by
  rw [hW]; have := Two.new (w.alloc (.cells #[.int .u64 (base : Int), .slice A L.length c] 68)) (.int .u64 0) (.slice none 0 0)
  rwa [World.size_alloc] at this
 have hbw : Below w.heap.size w W := by rw [hW]; exact ((Below.refl _ w).alloc (Nat.le_refl _) _).alloc (by simp) _
 rw [hz] at hb ho; exact ⟨((hbw.trans (hb.mono (by omega))).setCell (by simp) _).setCell (by simp) _, by have := hb.size; simp; omega, ((n0.below hb (by omega)).set0 _).set1 _, ((n1.below hb (by omega)).other (by omega) _).other (by omega) _, (ho.set (by omega) _).set (by omega) _⟩

end Go.Proofs.Ytngegjboenfmeaa
/- The statements' spoil: a sender's bytes are written over; nothing below its own memory turns. -/
namespace Go.Proofs.Ytngegjboenfmeaa
open Go Go.RowKit Go.Shelf
set_option linter.unusedVariables false
set_option maxRecDepth 100000
attribute [local go_sem] Oper.semAt_some

theorem us_set (l : List UInt8) (k : Nat) (x : UInt8) : us (l.set k x) = (us l).set k (.int .u8 (x.toNat : Int)) := by simp [us, List.map_set]
/-- one byte of one's own is written over -/
theorem Own.put {w : World} {base g : Nat} {v : Value} {l : List UInt8} (h : Own w base v l) (hg : v.ownBlock = some g) (k : Nat) (x : UInt8) : Own (w.setCell ⟨g, k, none⟩ (.int .u8 (x.toNat : Int))) base v (l.set k x) := by
 obtain ⟨h1, h2⟩ := h; refine ⟨by simp [us_length], ?_⟩
 rcases h2 with ⟨rfl, _⟩ | ⟨g', cap, cur, rfl, p1, p2, p3, p4, p5, p6⟩
 ·cases hg
 ·obtain rfl : g' = g := by simpa [Value.ownBlock] using hg
  refine .inr ⟨g', cap, cur.setIfInBounds k (.int .u8 (x.toNat : Int)), by rw [List.length_set], p1, heap_setCell_same w g' k _ _ _ p2, by rw [List.length_set]; exact p3, p4, by simpa using p5, ?_⟩; rw [List.length_set, us_set, ← p6]; simp [List.take_set]
theorem Own.block {w : World} {base g : Nat} {v : Value} {l : List UInt8} (h : Own w base v l) (hg : v.ownBlock = some g) : ∃ cur, w.heap[g]? = some (.cells cur 5 (0, 0)) := by
 rcases h.2 with ⟨rfl, _⟩ | ⟨g', cap, cur, rfl, p1, p2, _⟩
 ·cases hg
 ·obtain rfl : g' = g := by simpa [Value.ownBlock] using hg
  exact ⟨cur, p2⟩
theorem Own.cell {w : World} {base : Nat} {v : Value} {l : List UInt8} (h : Own w base v l) {k : Nat} (hk : k < l.length) : ∃ g c, v = .slice (some ⟨g, 0, none⟩) l.length c ∧ base ≤ g ∧ w.cell? ⟨g, k, none⟩ = some (.int .u8 (l[k].toNat : Int)) ∧ w.frozen? ⟨g, k, none⟩ = false := by
 obtain ⟨h1, h2⟩ := h
 rcases h2 with ⟨rfl, hn⟩ | ⟨g, cap, cur, rfl, p1, p2, p3, p4, p5, p6⟩
 ·omega
 ·refine ⟨g, cap, rfl, p1, ?_, by simp [World.frozen?, p2]⟩; have : (us l)[k]? = some (.int .u8 (l[k].toNat : Int)) := us_at hk; rw [← p6, List.getElem?_take, if_pos (by omega)] at this; simp only [World.cell?, p2]; simpa using this

/-- bodies of one's own, by their lengths -/
def OwnN (w : World) (base : Nat) (v : Value) (ns : List Nat) : Prop := ∃ L : List (List UInt8), L.map List.length = ns ∧ OwnB w base v L
theorem OwnB.cell {w : World} {base : Nat} {v : Value} {L : List (List UInt8)} (h : OwnB w base v L) {i : Nat} (hi : i < L.length) : ∃ g c u, v = .slice (some ⟨g, 0, none⟩) L.length c ∧ w.cell? ⟨g, i, none⟩ = some u ∧ Own w base u L[i] ∧ ∀ g', u.ownBlock = some g' → g ≠ g' := by
 obtain ⟨vs, h1, h2, h3⟩ := h; have hi' : i < vs.length := by omega
 obtain ⟨u, hu⟩ : ∃ u, vs[i]? = some u := ⟨_, List.getElem?_eq_getElem hi'⟩; have h4 := h3 i u L[i] hu (List.getElem?_eq_getElem hi)
 rcases h2.2 with ⟨rfl, hn⟩ | ⟨g, cap, cur, rfl, p1, p2, p3, p4, p5, p6⟩
 ·omega
 ·refine ⟨g, cap, u, rfl, ?_, h4.1, fun g' hg e => h4.2 g' hg (by rw [e]; rfl)⟩; rw [← p6, List.getElem?_take, if_pos (by omega)] at hu; simp only [World.cell?, p2]; simpa using hu
theorem OwnB.put {w : World} {base g : Nat} {v u : Value} {L : List (List UInt8)} (h : OwnB w base v L) (hg : v.ownBlock ≠ some g) (k : Nat) (x : UInt8) : OwnN (w.setCell ⟨g, k, none⟩ (.int .u8 (x.toNat : Int))) base v (L.map List.length) := by
 obtain ⟨vs, h1, h2, h3⟩ := h; refine ⟨(List.range L.length).map (fun i => if (vs[i]?.bind Value.ownBlock) = some g then (L[i]?.getD []).set k x else L[i]?.getD []), ?_, vs, by simp [h1], ?_, ?_⟩
 ·apply List.ext_getElem?; intro i
  rcases Nat.lt_or_ge i L.length with hi | hi
  ·simp only [List.getElem?_map, List.getElem?_range hi, Option.map_some, List.getElem?_eq_getElem hi, Option.getD_some]; split <;> simp
  ·rw [List.getElem?_eq_none (by simpa using hi), List.getElem?_eq_none (by simpa using hi)]
 ·rw [List.length_map, List.length_range]; exact row_keep h2 fun j hj => Below.heap_setCell w ⟨g, k, none⟩ _ j (by rintro rfl; exact hg hj)
 ·intro i u' l' hu hl; have hi : i < L.length := by
   rcases Nat.lt_or_ge i L.length with hi | hi
   ·exact hi
   ·rw [List.getElem?_eq_none (by simpa using hi)] at hl; cases hl
  have h4 := h3 i u' L[i] hu (List.getElem?_eq_getElem hi); refine ⟨?_, h4.2⟩; rw [List.getElem?_map, List.getElem?_range hi] at hl; simp only [Option.map_some, Option.some.injEq, hu, Option.bind_some, List.getElem?_eq_getElem hi, Option.getD_some] at hl; subst hl; split
  ·rename_i hgu
   exact h4.1.put hgu k x
  ·rename_i hgu
   exact row_keep h4.1 fun j hj => Below.heap_setCell w ⟨g, k, none⟩ _ j (by rintro rfl; exact hgu hj)
theorem byte_inc (x : UInt8) : IntKind.u8.wrap ((x.toNat : Int) + 1) = ((x + 1).toNat : Int) := by
 have := x.toNat_lt
 rw [UInt8.toNat_add]; simp [IntKind.wrap, IntKind.bits, IntKind.signed]

theorem byte_inc' (x : UInt8) : ((x.toNat : Int) + 1) % 256 = ((x + 1).toNat : Int) := by
 rw [← byte_inc]; simp [IntKind.wrap, IntKind.bits, IntKind.signed]
structure SpAt (w wr : World) (B0 b : Nat) (v : Value) (ns : List Nat) : Prop where
 below : Below B0 w wr
 two : Two wr w.heap.size (.int .u64 (b : Int)) v
 own : OwnN wr B0 v ns
theorem SpAt.len {w wr : World} {B0 b n c : Nat} {A : Option Addr} {ns : List Nat} (h : SpAt w wr B0 b (.slice A n c) ns) {i : Nat} (hi : i < ns.length) (hm : ∀ m ∈ ns, m ≤ 1000000) : ∃ g A' c', A = some ⟨g, 0, none⟩ ∧ wr.cell? ⟨g, i, none⟩ = some (.slice A' ns[i] c') := by
 obtain ⟨L, rfl, ho⟩ := h.own; have hi' : i < L.length := by simpa using hi
 obtain ⟨g, c0, u, e, hc, hu, _⟩ := ho.cell hi'; simp only [Value.slice.injEq] at e; obtain ⟨A', c', rfl, _⟩ := hu.form; exact ⟨g, A', c', e.1, by rw [hc]; simp⟩
theorem SpAt.byte {w wr : World} {B0 b n c : Nat} {A : Option Addr} {ns : List Nat} (h : SpAt w wr B0 b (.slice A n c) ns) (hB : B0 ≤ w.heap.size) {i k : Nat} (hi : i < ns.length) (hk : k < ns[i]) :
  ∃ gv g c' x, A = some ⟨gv, 0, none⟩ ∧ wr.cell? ⟨gv, i, none⟩ = some (.slice (some ⟨g, 0, none⟩) ns[i] c') ∧ wr.cell? ⟨g, k, none⟩ = some (.int .u8 ((x : UInt8).toNat : Int)) ∧ wr.frozen? ⟨g, k, none⟩ = false ∧
   ∀ y : UInt8, SpAt w (wr.setCell ⟨g, k, none⟩ (.int .u8 (y.toNat : Int))) B0 b (.slice A n c) ns := by
 obtain ⟨L, rfl, ho⟩ := h.own; have hi' : i < L.length := by simpa using hi
 have hk' : k < L[i].length := by simpa using hk
 obtain ⟨gv, c0, u, e, hc, hu, hap⟩ := ho.cell hi'; obtain ⟨g, c', rfl, hg, h1, h2⟩ := hu.cell hk'; have e1 := e; simp only [Value.slice.injEq] at e1; obtain ⟨cur, hblk⟩ := hu.block (g := g) rfl; refine ⟨gv, g, c', L[i][k], e1.1, by rw [hc]; simp, h1, h2, fun y => ⟨h.below.setCell hg _, h.two.other ?_ _, ?_⟩⟩
 ·rintro rfl; have := h.two; unfold Two at this; rw [hblk] at this; simp at this
 ·refine ho.put (u := .slice none 0 0) ?_ k y; rw [e1.1]; simp only [Value.ownBlock, ne_eq, Option.some.injEq]; exact hap g rfl

end Go.Proofs.Ytngegjboenfmeaa
/- A box that can be read wherever it begins; the document's Acked over it; bodies whose bytes are written over. -/
namespace Go.Proofs.Ytngegjboenfmeaa
open Go Go.RowKit Go.Shelf
set_option linter.unusedVariables false
set_option maxRecDepth 100000
attribute [local go_sem] Oper.semAt_some

/-- a box that can be read: it hangs on the blocks F -/
def BoxR (v : Value) (L : List (List UInt8)) : SP := fun w F => (∀ k, F k → k < w.heap.size) ∧
 ∃ A c, v = .slice A L.length c ∧ L.length ≤ c ∧ c ≤ maxLen ∧ ∀ W : World, (∀ k, F k → W.heap[k]? = w.heap[k]?) → Bx W W.heap.size A L
theorem BoxR.loc (v : Value) (L : List (List UInt8)) : Loc (BoxR v L) where
 keep := by
  rintro w w' F ⟨h0, A, c, e, h1, h2, h3⟩ hk; exact ⟨fun k hF => lt_keep (h0 k hF) (hk k hF), A, c, e, h1, h2, fun W hW => h3 W fun k hF => (hW k hF).trans (hk k hF)⟩
 lt := fun h k hF => h.1 k hF
theorem BoxR.of_own {w w' : World} {v : Value} {L : List (List UInt8)} (ho : OwnB w' w.heap.size v L) (hL : ∀ l ∈ L, l.length ≤ 140737488355328) : BoxR v L w' (fun k => w.heap.size ≤ k ∧ k < w'.heap.size) := by
 obtain ⟨A, c, rfl, h1, h2, _⟩ := ho.form hL; exact ⟨fun k h => h.2, A, c, rfl, h1, h2, fun W hW => (ho.keep (w' := W) fun k h1 h2 => hW k ⟨h1, h2⟩).bx hL⟩
section
variable {w0 w w' : World} {Ps : List SP} {i : Nat} {v : Value} {L : List (List UInt8)}
theorem boxR_nil (w : World) : BoxR (.slice none 0 0) [] w (fun _ => False) :=
 ⟨fun k h => h.elim, none, 0, rfl, Nat.le_refl _, by unfold maxLen; omega, fun W _ => (OwnB.nil W W.heap.size).bx (fun l h => by simp at h)⟩
theorem sep_boxRNil (h : Sep w0 w Ps) : Sep w0 w (BoxR (.slice none 0 0) [] :: Ps) :=
 (h.add (F := fun _ => False) (Below.refl _ _) (boxR_nil _) (BoxR.loc _ _) (fun k h => h.elim)).lastFront
theorem sep_boxRForm (h : Sep w0 w Ps) (hi : Ps[i]? = some (BoxR v L)) : ∃ A c, v = .slice A L.length c ∧ L.length ≤ c ∧ c ≤ maxLen ∧ Bx w w.heap.size A L := by
 obtain ⟨F, h0, A, c, e, h1, h2, h3⟩ := h.get hi; exact ⟨A, c, e, h1, h2, h3 w fun _ _ => rfl⟩
theorem sep_boxRGone (h : Sep w0 w Ps) (hi : Ps[i]? = some (BoxR v L)) : Sep w0 w (Ps.set i (BoxR (.slice none 0 0) [])) := by
 obtain ⟨F, h1, hL, hlt, hk⟩ := h.upd hi; exact hk w _ _ ⟨rfl, rfl, rfl, Nat.le_refl _, fun _ _ _ => rfl, fun k hk => hk.elim⟩ (boxR_nil w) (BoxR.loc _ _)
theorem sep_boxRPut {u : Value} {M : List (List UInt8)} (h : Sep w0 w Ps) (hi : Ps[i]? = some (BoxR v L)) (hb : Below w.heap.size w w') (ho : BoxR u M w' (fun k => w.heap.size ≤ k ∧ k < w'.heap.size)) : Sep w0 w' (Ps.set i (BoxR u M)) := by
 obtain ⟨F, h1, hL, hlt, hk⟩ := h.upd hi; exact hk w' _ _ ⟨hb.os, hb.tape, hb.output, hb.size, fun k hk _ => hb.block k hk, fun k hk => .inr hk.1⟩ ho (BoxR.loc _ _)
end
def RAckPost2 (w : World) (base : Nat) (L : List (List UInt8)) (upto : Nat) (e : Ending) (w' : World) : Prop :=
 Below w.heap.size w w' ∧ ∃ A c, e = .returned (.tuple #[.agg #[.int .u64 (ackV base L upto : Int), .slice A (ackL base L upto).length c], .bool (ackB base L upto)]) ∧ BoxR (.slice A (ackL base L upto).length c) (ackL base L upto) w' (fun k => w.heap.size ≤ k ∧ k < w'.heap.size)
set_option maxHeartbeats 1000000 in
theorem ackedR2_any (w : World) (base upto : Nat) (A : Option Addr) (c : Nat) (L : List (List UInt8)) (h : Bx w w.heap.size A L) (hb : base < 18446744073709551616) (hu : upto < 18446744073709551616) (hf : Fit L) (hcc : L.length ≤ c) (hcm : c ≤ maxLen) :
  Calls Try.prog 69 #[.agg #[.int .u64 (base : Int), .slice A L.length c], .int .u64 (upto : Int)] w (RAckPost2 w base L upto) := by
 obtain ⟨W, HW⟩ : ∃ W, Hid (W = (w.alloc (.cells #[.int .u64 (base : Int), .slice A L.length c] 68)).alloc (.cells #[.int .u64 0, .slice none 0 0] 68)) := ⟨_, Lib.hid rfl⟩; have hbw : Below w.heap.size w W := by rw [HW.out]; exact ((Below.refl _ w).alloc (Nat.le_refl _) _).alloc (by simp) _
 have hz : w.heap.size + 2 ≤ W.heap.size := by rw [HW.out]; simp
 have HX := Lib.hid ((h.below hbw).more hbw.size); have n0 : Two W w.heap.size (.int .u64 (base : Int)) (.slice A L.length c) := by rw [HW.out]; exact (Two.new w _ _).below ((Below.refl (w.heap.size + 1) _).alloc (by simp) _) (by omega)
 have h1 := hf.1; have HF := Lib.hid hf; clear h hf; go_enter Try.func69, Try.ntmps69
 go_wp2_with fail
 rw [← HW.out]; refine (ownR_any W base A c L HX.out HF.out).mono ?_; rintro e w1 ⟨v, rfl, ho, hb1⟩; obtain ⟨Av, cv, rfl, p1, p2, _⟩ := ho.form HF.out.all; have HA := Lib.hid (AckAt.start HW.out hb1 ho); have k0 := (n0.below hb1 (by omega)).c0; have k1 := (n0.below hb1 (by omega)).c1; have k2 := (n0.below hb1 (by omega)).f0; have k3 := (n0.below hb1 (by omega)).f1; clear ho hb1 n0; obtain ⟨d, HD⟩ : ∃ d, Hid (dueN base L = d) := ⟨_, Lib.hid rfl⟩; have hd8 : d ≤ 8 := by rw [← HD.out]; exact (dueN_le base L).1
 have hdl : d ≤ L.length := by rw [← HD.out]; exact (dueN_le base L).2
 have hsm : 1 ≤ d → base + L.length ≤ 34359738367 := fun hh => due_small (by rw [HD.out]; exact hh)
 have HSM := Lib.hid hsm; clear hsm
 go_wp2_with fail
 obtain ⟨W1, HW1⟩ : ∃ W1, Hid (W1 = (w1.setCell ⟨w.heap.size, 0, none⟩ (.int .u64 (base : Int))).setCell ⟨w.heap.size, 1, none⟩ (.slice Av L.length cv)) := ⟨_, Lib.hid rfl⟩; rw [← HW1.out] at HA; rw [← HW1.out]; clear k0 k1 k2 k3
 go_loopw [6] (fun i wr => ∃ n : Nat, 1 ≤ n ∧ n ≤ d + 1 ∧ i = .int .i64 (n : Int) ∧ Hid (∀ j, 1 ≤ j → j < n → base + j ≠ upto) ∧ AckAt w wr base (.slice Av L.length cv) L) (fun i _ => d + 1 - (intOf i).toNat)
 case atStart => exact ⟨1, by omega, by omega, rfl, Lib.hid (fun j h1 h2 => by omega), HA.out⟩
 case round =>
  obtain ⟨n, hn1, hn2, rfl, HN, ha⟩ := hrel; have k0 := ha.b0.c0; have k1 := ha.b0.c1; obtain ⟨Av', cv', e1, _, _, hx⟩ := ha.own.form HF.out.all; obtain ⟨rfl, rfl⟩ : Av = Av' ∧ cv = cv' := by simpa using e1
  have HX := Lib.hid hx; have HA := Lib.hid ha; have hbig := ha.big; clear hx ha e1
  go_wp2_with fail
  refine (dueR_any wr wr.heap.size base Av cv L HX.out (Nat.le_refl _) hb (by omega)).mono ?_; rintro e w2 ⟨rfl, hb2⟩; rw [HD.out]; have HA2 := Lib.hid (HA.out.keep hb2); have k0 := HA2.out.b0.c0; have k1 := HA2.out.b0.c1; have k2 := HA2.out.b1.c0; have k3 := HA2.out.b1.c1; have k4 := HA2.out.b1.f0; have k5 := HA2.out.b1.f1; have HX2 := Lib.hid (HX.out.below hb2); have hz2 := hb2.size
  by_cases hle : n ≤ d
  ·have hs := HSM.out (by omega)
   by_cases hhit : base + n = upto
   ·have g1 := run_fromB Av L.length cv .i64 (n : Int) n rfl (by omega) p1; obtain ⟨Ad, HAD⟩ : ∃ Ad, Hid ((if cv = n then Av else Av.map (·.add (n * 1))) = Ad) := ⟨_, Lib.hid rfl⟩; rw [HAD.out] at g1; have g2 : ((base : Int) + (n : Int) == (upto : Int)) = true := by simp; omega
    have HH := Lib.hid (ack_hit hn1 (by rw [HD.out]; exact hle) hhit); clear hhit
    go_wp2_with fail
    refine bodyPost_ret (v := .tuple #[.agg #[.int .u64 (upto : Int), .slice Ad (L.length - n) (cv - n)], .bool true]) (by simp [results, Try.results69, go_sem, k2, k3]) rfl ?_; have ho9 := ((HA2.out.own.set (g := w.heap.size + 1) (i := 0) (by omega) (.int .u64 (upto : Int))).set (g := w.heap.size + 1) (i := 1) (by omega) (.slice Ad (L.length - n) (cv - n))); refine ⟨(HA2.out.below.setCell (by simp) _).setCell (by simp) _, Ad, cv - n, ?_, ?_⟩
    ·rw [(ack_yes HH.out.1).1, (ack_yes HH.out.1).2, HH.out.1, HH.out.2, List.length_drop]
    ·rw [(ack_yes HH.out.1).1, HH.out.2]; refine ⟨fun k h => h.2, _, _, rfl, by rw [List.length_drop]; omega, by omega, fun W hW => ?_⟩; have hx9 := ((ho9.keep (w' := W) fun k h1 h2 => hW k ⟨by omega, h2⟩).bx HF.out.all).drop n cv p1; rw [HAD.out] at hx9; exact hx9
   ·have g1 : ((base : Int) + (n : Int) == (upto : Int)) = false := by simp; omega
    go_wp2_with fail
    go_roundw
    case rel => exact ⟨n + 1, by omega, by omega, by go_num, Lib.hid (fun j j1 j2 => by
     rcases Nat.lt_or_ge j n with hj | hj
     ·exact HN.out j j1 hj
     ·obtain rfl : j = n := by omega
      exact hhit), HA2.out⟩
    case measure => simp [intOf]; omega
  ·have g1 : decide ((n : Int) ≤ (d : Int)) = false := decide_eq_false (by omega)
   go_wp2_with fail
   refine bodyPost_ret (v := .tuple #[.agg #[.int .u64 (base : Int), .slice Av L.length cv], .bool false]) (by simp [results, Try.results69, go_sem, k2, k3]) rfl ?_; have hno : ackB base L upto = false := ack_none fun j j1 j2 => HN.out j j1 (by rw [HD.out] at j2; omega)
   refine ⟨(HA2.out.below.setCell (by simp) _).setCell (by simp) _, Av, cv, ?_, ?_⟩
   ·rw [(ack_no hno).1, (ack_no hno).2, hno]
   ·rw [(ack_no hno).1]; have ho9 := ((HA2.out.own.set (g := w.heap.size + 1) (i := 0) (by omega) (.int .u64 (base : Int))).set (g := w.heap.size + 1) (i := 1) (by omega) (.slice Av L.length cv)); refine ⟨fun k h => h.2, _, _, rfl, by omega, by omega, fun W hW => ?_⟩; exact (ho9.keep (w' := W) fun k h1 h2 => hW k ⟨by omega, h2⟩).bx HF.out.all
/-- rows of bytes, by their lengths alone -/
def Bs (LV : List (Value × Nat)) : SP := fun w F => (∀ k, F k → k < w.heap.size) ∧ ∀ x ∈ LV, ∃ l : List UInt8, l.length = x.2 ∧ Own w 0 x.1 l ∧ ∀ k, x.1.ownBlock = some k → F k
theorem Bs.loc (LV : List (Value × Nat)) : Loc (Bs LV) where
 keep := by
  rintro w w' F ⟨h0, h1⟩ hk; exact ⟨fun k hF => lt_keep (h0 k hF) (hk k hF), fun x hx => by
   obtain ⟨l, hl, ho, hF⟩ := h1 x hx; exact ⟨l, hl, row_keep ho fun k hv => hk k (hF k hv), hF⟩⟩
 lt := fun h k hF => h.1 k hF
theorem sep_bsOf {w0 w : World} {Ps : List SP} {i : Nat} {LB : List (Value × List UInt8)} (h : Sep w0 w Ps) (hi : Ps[i]? = some (Bods LB)) : Sep w0 w (Ps.set i (Bs (LB.map fun x => (x.1, x.2.length)))) :=
 h.turn hi (fun F ⟨h0, h1⟩ => ⟨h0, fun x hx => by
  obtain ⟨y, hy, rfl⟩ := List.mem_map.1 hx; exact ⟨y.2, rfl, h1 y hy⟩⟩) (Bs.loc _)
theorem Own.put_any {w : World} {v : Value} {l : List UInt8} (h : Own w 0 v l) (g k : Nat) (x : UInt8) : ∃ l' : List UInt8, l'.length = l.length ∧ Own (w.setCell ⟨g, k, none⟩ (.int .u8 (x.toNat : Int))) 0 v l' := by
 by_cases hg : v.ownBlock = some g
 ·exact ⟨l.set k x, by simp, h.put hg k x⟩
 ·exact ⟨l, rfl, row_keep h fun j hj => Below.heap_setCell w ⟨g, k, none⟩ _ j (by rintro rfl; exact hg hj)⟩
/-- a byte of one of them can be read, and written over -/
theorem sep_bsCell {w0 w : World} {Ps : List SP} {i n k : Nat} {u : Value} {LV : List (Value × Nat)} (h : Sep w0 w Ps) (hi : Ps[i]? = some (Bs LV)) (hx : (u, n) ∈ LV) (hk : k < n) :
  ∃ g c x, u = .slice (some ⟨g, 0, none⟩) n c ∧ w.cell? ⟨g, k, none⟩ = some (.int .u8 ((x : UInt8).toNat : Int)) ∧ w.frozen? ⟨g, k, none⟩ = false ∧ ∀ y : UInt8, Sep w0 (w.setCell ⟨g, k, none⟩ (.int .u8 (y.toNat : Int))) Ps := by
 obtain ⟨F, ⟨h0, h1⟩, hL, hlt, hkk⟩ := h.upd hi; obtain ⟨l, hl, ho, hF⟩ := h1 _ hx; simp only at hl ho hF; subst hl; obtain ⟨g, c, rfl, _, e1, e2⟩ := ho.cell hk; have hg : F g := hF g rfl; refine ⟨g, c, l[k], rfl, e1, e2, fun y => ?_⟩; have hr := hkk (w.setCell ⟨g, k, none⟩ (.int .u8 (y.toNat : Int))) (Bs LV) F ⟨rfl, rfl, rfl, by simp [World.setCell], fun j _ hnF => Below.heap_setCell w _ _ j (fun e => hnF (e ▸ hg)), fun k hk => .inl hk⟩ ⟨fun j hj => by have := h0 j hj; simpa [World.setCell] using this, fun x hx => by
  obtain ⟨l, hl, ho, hF⟩ := h1 x hx; obtain ⟨l', hl', ho'⟩ := ho.put_any g k y; exact ⟨l', hl'.trans hl, ho', hF⟩⟩ (Bs.loc _)
 rwa [show Ps.set i (Bs LV) = Ps from List.ext_getElem? fun j => by
  by_cases e : i = j
  ·subst e; rw [List.getElem?_set_self (List.getElem?_eq_some_iff.1 hi).1, hi]
  ·rw [List.getElem?_set_ne e]] at hr
theorem sep_bsForm {w0 w : World} {Ps : List SP} {i n : Nat} {u : Value} {LV : List (Value × Nat)} (h : Sep w0 w Ps) (hi : Ps[i]? = some (Bs LV)) (hx : (u, n) ∈ LV) : ∃ A c, u = .slice A n c := by
 obtain ⟨F, h0, h1⟩ := h.get hi; obtain ⟨l, hl, ho, _⟩ := h1 _ hx; obtain ⟨A, c, e, _⟩ := ho.form; simp only at hl e; subst hl; exact ⟨A, c, e⟩
end Go.Proofs.Ytngegjboenfmeaa
/- Two links and what is between them, as a plain machine; how they lie in memory. -/
namespace Go.Proofs.Ytngegjboenfmeaa
open Go Go.RowKit
set_option linter.unusedVariables false
set_option linter.unusedSimpArgs false

/-- at one of two -/
def atB {α : Type} (f : Bool → α) (i : Bool) (x : α) : Bool → α := fun j => if j = i then x else f j
def side (i : Bool) : Int := if i then 1 else 0
/-- both links, their ticks, what is on its way to each, what was sent and told by each pair, how many bodies -/
structure TW where
 l : Bool → LS
 now : Bool → Nat
 way : Bool → List Fr
 sent : Pr → List (List UInt8)
 told : Pr → List (List UInt8)
 n : Nat
def TW.pr (T : TW) (i : Bool) : Pr := (side i, (T.l i).si, (T.l i).conn, (T.l i).inc, (T.l i).known)
/-- the other side's pair, as this side knows it -/
def TW.rp (T : TW) (i : Bool) : Pr := (1 - side i, (T.l i).inc, (T.l i).known, (T.l i).si, (T.l i).conn)
def tellE (t : Pr → List (List UInt8)) (q : Pr) : List Ev → Pr → List (List UInt8)
 | [] => t
 | e :: E => tellE (if e.kind = 3 then updM t q (t q ++ [e.body]) else t) q E
/-- frames go on their way, bodies are told -/
def TW.ans (T : TW) (i : Bool) (F : List Fr) (E : List Ev) : TW := { T with way := atB T.way (!i) (T.way (!i) ++ F), told := tellE T.told (T.rp i) E }
def newLk (i : Bool) (si : Nat) : LS := ⟨0, [], 0, side i + 1, si, 2 - side i, 1, 0, 0, false, 0, 0⟩
def TW.life (T : TW) (i : Bool) : TW := { T with l := atB T.l i (newLk i ((T.l i).si + 1)) }
def TW.tick (T : TW) (i : Bool) : TW := let s := T.l i; ({ T with l := atB T.l i (s.tick (T.now i)) } : TW).ans i (s.tickF (T.now i)) (s.tickE (T.now i))
def TW.take (T : TW) (i : Bool) (f : Fr) : TW := let s := T.l i; ({ T with l := atB T.l i (s.take (T.now i) f) } : TW).ans i (s.takeF (T.now i) f) (s.takeE (T.now i) f)
/-- the n-th body, as the harness makes it -/
def bodyN (n : Nat) (i : Bool) : List UInt8 := [UInt8.ofNat n, UInt8.ofNat (n / 256), UInt8.ofNat (if i then 1 else 0)]
def TW.send (T : TW) (i : Bool) : TW :=
 let s := T.l i; let b := bodyN T.n i; let T1 : TW := { T with l := atB T.l i (s.send (T.now i) b) }
 (if s.sendE b = 0 then { T1 with n := T.n + 1, sent := updM T.sent (T1.pr i) (T.sent (T1.pr i) ++ [b]) } else T1).ans i (s.sendF b) []
/-- at most so many are on their way to each -/
def trim (l : List Fr) : List Fr := l.drop (l.length - 300)
def TW.trim (T : TW) : TW := { T with way := fun i => Go.Proofs.Ytngegjboenfmeaa.trim (T.way i) }
/-- an act: what, at which side (odd: the second), the number -/
def TW.act (T : TW) (d : Int) (i : Bool) (k : Nat) : TW :=
 if d = 0 then (({ T with now := atB T.now i (T.now i + k % 4) } : TW).tick i).trim
 else if d = 1 then (T.send i).trim
 else if d = 2 ∨ d = 3 ∨ d = 4 then
  match T.way i with
  | [] => T
  | f0 :: l =>
   let j := k % (l.length + 1)
   let f := (f0 :: l).getD j f0
   let T1 : TW := if d = 3 then T else { T with way := atB T.way i ((f0 :: l).eraseIdx j) }
   (if d = 4 then T1 else T1.take i f).trim
 else if d = 5 then (T.life i).trim
 else T.trim
def TW.start : TW := ⟨fun i => newLk i 1, fun _ => 0, fun _ => [], fun _ => [], fun _ => [], 0⟩

/-- the struct's cells -/
def twC (a0 a1 : Value) (i0 i1 n0 n1 : Nat) (v0 v1 : Value) (bs bt : Nat) (n : Nat) : Array Value := #[a0, a1, .int .u64 (i0 : Int), .int .u64 (i1 : Int), .int .u64 (n0 : Int), .int .u64 (n1 : Int), v0, v1, .map (some bs), .map (some bt), .int .i64 (n : Int), .bool false]
/-- bodies of two kinds, as one -/
theorem sep_bodsJoin {w0 w : World} {Qs : List SP} {LA LB : List (Value × List UInt8)} (h : Sep w0 w (Bods LA :: Bods LB :: Qs)) : Sep w0 w (Bods (LB ++ LA) :: Qs) := by
 obtain ⟨hB, Fs, hl, h1, h2⟩ := h
 match Fs, hl with
 | F1 :: F2 :: Rs, hl =>
  obtain ⟨⟨a1, a2⟩, _, a3⟩ := h1 0 _ F1 rfl rfl; obtain ⟨⟨b1, b2⟩, _, b3⟩ := h1 1 _ F2 rfl rfl; refine ⟨hB, (fun k => F2 k ∨ F1 k) :: Rs, by simpa using hl, ?_, ?_⟩
  ·intro i P F hP hF; cases i with
   | zero =>
    simp only [List.getElem?_cons_zero, Option.some.injEq] at hP hF; subst hP hF; refine ⟨⟨fun k hk => hk.elim (b1 k) (a1 k), fun x hx => ?_⟩, Bods.loc _, fun k hk => hk.elim (b3 k) (a3 k)⟩
    rcases List.mem_append.1 hx with hx | hx
    ·exact ⟨(b2 x hx).1, fun k hk => .inl ((b2 x hx).2 k hk)⟩
    ·exact ⟨(a2 x hx).1, fun k hk => .inr ((a2 x hx).2 k hk)⟩
   | succ i => exact h1 (i + 2) P F hP hF
  ·intro i j F G hij hF hG k hk hk'; cases i with
   | zero =>
    cases j with
    | zero => exact hij rfl
    | succ j =>
     simp only [List.getElem?_cons_zero, Option.some.injEq] at hF; subst hF
     rcases hk with hk | hk
     ·exact h2 1 (j + 2) F2 G (by omega) rfl hG k hk hk'
     ·exact h2 0 (j + 2) F1 G (by omega) rfl hG k hk hk'
   | succ i =>
    cases j with
    | zero =>
     simp only [List.getElem?_cons_zero, Option.some.injEq] at hG; subst hG
     rcases hk' with hk' | hk'
     ·exact h2 (i + 2) 1 F F2 (by omega) hF rfl k hk hk'
     ·exact h2 (i + 2) 0 F F1 (by omega) hF rfl k hk hk'
    | succ j => exact h2 (i + 2) (j + 2) F G (by omega) hF hG k hk hk'
/-- all of it in memory, g being the struct's block -/
def TWL (g a0 a1 : Nat) (b0 b1 v0 v1 : Value) (W0 W1 : List (Fr × Value)) (BB : List (Value × List UInt8)) (bs bt : Nat) (T : TW) (Qs : List SP) : List SP :=
 Ce g 34 (twC (.pointer (some ⟨a0, 0, none⟩)) (.pointer (some ⟨a1, 0, none⟩)) (T.l false).si (T.l true).si (T.now false) (T.now true) v0 v1 bs bt T.n) ::
 Ce a0 72 ((T.l false).cells b0) :: BoxT b0 (T.l false).box :: Ce a1 72 ((T.l true).cells b1) :: BoxT b1 (T.l true).box ::
 RwO 51 10 v0 W0.length (fR_ W0) :: RwO 51 10 v1 W1.length (fR_ W1) :: Bods BB :: MapT bs T.sent :: MapT bt T.told :: Qs
def TwAt (w0 w : World) (g : Nat) (T : TW) (Qs : List SP) : Prop := ∃ a0 a1 b0 b1 v0 v1 W0 W1 BB bs bt, W0.map Prod.fst = T.way false ∧ W1.map Prod.fst = T.way true ∧ (∀ x ∈ fB_ W0, x ∈ BB) ∧ (∀ x ∈ fB_ W1, x ∈ BB) ∧
 Sep w0 w (TWL g a0 a1 b0 b1 v0 v1 W0 W1 BB bs bt T Qs)
end Go.Proofs.Ytngegjboenfmeaa
/- The document's link over the plain machine: a frame goes, an event is told, going down, what was answered, all that is due. -/
namespace Go.Proofs.Ytngegjboenfmeaa
open Go Go.RowKit
set_option linter.unusedVariables false
set_option maxRecDepth 100000
set_option linter.unusedSimpArgs false

def LS.rc (s : LS) (bx vF vE : Value) : Array Value := rkCells s.sn s.si s.peer s.conn s.inc s.known s.up s.base bx s.got s.heard s.sent vF vE
/-- the document's link, its box, what it has answered by now -/
def DL (q : Nat) (Qs : List SP) (s : LS) (bx vF vE : Value) (LP : List (Fr × Value)) (LE : List (Ev × Value)) : List SP :=
 Ce q 109 (s.rc bx vF vE) :: BoxR bx s.box :: Rw 51 10 vF LP.length (fR_ LP) :: Bods (fB_ LP) :: Rw 49 4 vE LE.length (eR_ LE) :: Bods (eB_ LE) :: Qs
def DLS (w0 W : World) (q : Nat) (Qs : List SP) (s : LS) (F : List Fr) (E : List Ev) : Prop :=
 ∃ bx vF vE LP LE, LP.map Prod.fst = F ∧ LE.map Prod.fst = E ∧ Sep w0 W (DL q Qs s bx vF vE LP LE)
/-- .. and a body that is its answer's -/
def DLB (w0 W : World) (q : Nat) (Qs : List SP) (s : LS) (F : List Fr) (E : List Ev) (u : Value) (b : List UInt8) : Prop :=
 ∃ bx vF vE LP LE, LP.map Prod.fst = F ∧ LE.map Prod.fst = E ∧ Sep w0 W (Ce q 109 (s.rc bx vF vE) :: BoxR bx s.box :: Rw 51 10 vF LP.length (fR_ LP) :: Bods (fB_ LP ++ [(u, b)]) :: Rw 49 4 vE LE.length (eR_ LE) :: Bods (eB_ LE) :: Qs)
section
variable {w0 w w' : World} {q : Nat} {Qs : List SP} {s : LS} {F : List Fr} {E : List Ev}
theorem DLS.grow (h : DLS w0 w q Qs s F E) (hb : Below w.heap.size w w') : DLS w0 w' q Qs s F E := by
 obtain ⟨bx, vF, vE, LP, LE, e1, e2, h⟩ := h; exact ⟨bx, vF, vE, LP, LE, e1, e2, h.grow hb⟩
theorem sep_byBods {v : Value} {l : List UInt8} {LB : List (Value × List UInt8)} (h : Sep w0 w (By v l :: Bods LB :: Qs)) : Sep w0 w (Bods (LB ++ [(v, l)]) :: Qs) :=
 sep_bodsJoin (h.turn (i := 0) rfl (fun F ⟨h1, h2⟩ => ⟨fun k hk => (own_lt h1 ((h2 k).1 hk)).2, fun x hx => by
  obtain rfl := List.mem_singleton.1 hx; exact ⟨h1, fun k hk => (h2 k).2 hk⟩⟩) (Bods.loc _))
theorem rk_sendD {f : Fr} {A : Option Addr} {c : Nat} (h : DLB w0 w q Qs s F E (.slice A f.body.length c) f.body) (hn : F.length ≤ 100000) :
  Calls Try.prog 64 #[.pointer (some ⟨q, 0, none⟩), .agg (f.cells A c)] w fun e w' => e = .returned (.tuple #[]) ∧ DLS w0 w' q Qs s (F ++ [f]) E := by
 obtain ⟨bx, vF, vE, LP, LE, e1, e2, h⟩ := h; have hl : LP.length ≤ 1000000 := by have := congrArg List.length e1; simp at this; omega
 refine (refSendC ((h.tF 2 rfl).tF 1 rfl) hl).mono ?_; rintro e w' ⟨rfl, vF', h'⟩; refine ⟨rfl, bx, vF', vE, LP ++ [(f, .slice A f.body.length c)], LE, by simp [e1], e2, ?_⟩; unfold DL; rw [List.length_append, frRow_snoc, frBods_snoc]; exact (h'.tF 2 rfl).tF 1 rfl
theorem DLS.bods (h : DLS w0 w q Qs s F E) : DLB w0 w q Qs s F E (.slice none 0 0) [] := by
 obtain ⟨bx, vF, vE, LP, LE, e1, e2, h⟩ := h; exact ⟨bx, vF, vE, LP, LE, e1, e2, sep_bodsNone (i := 3) h rfl⟩
theorem rk_send0 {f : Fr} (hf : f.body = []) (h : DLS w0 w q Qs s F E) (hn : F.length ≤ 100000) :
  Calls Try.prog 64 #[.pointer (some ⟨q, 0, none⟩), .agg (f.cells none 0)] w fun e w' => e = .returned (.tuple #[]) ∧ DLS w0 w' q Qs s (F ++ [f]) E := by
 have hb := h.bods; rw [← hf] at hb; exact rk_sendD (by rw [hf]; rw [hf] at hb; exact hb) hn
theorem rk_hello (h : DLS w0 w q Qs s F E) :
  Calls Try.prog 65 #[.pointer (some ⟨q, 0, none⟩), .int .u64 0, .slice none 0 0] w fun e w' => e = .returned (.agg (s.hello.cells none 0)) ∧ DLS w0 w' q Qs s F E := by
 obtain ⟨bx, vF, vE, LP, LE, e1, e2, h⟩ := h; refine (refHello_any w q _ _ _ _ _ _ _ _ _ _ _ _ _ _ (cH (i := 0) h rfl)).mono ?_; rintro e w' ⟨rfl, hb⟩; exact ⟨rfl, bx, vF, vE, LP, LE, e1, e2, h.grow hb⟩
theorem rk_data {BA : Option Addr} {bc : Nat} (x : Nat × List UInt8) (h : DLS w0 w q Qs s F E) (hx : 0 < x.1) (hh : Has w w.heap.size BA (us x.2)) (hl : x.2.length ≤ 1000000) :
  Calls Try.prog 65 #[.pointer (some ⟨q, 0, none⟩), .int .u64 (x.1 : Int), .slice BA x.2.length bc] w fun e w' => ∃ A c, e = .returned (.agg ((s.data x).cells A c)) ∧ DLB w0 w' q Qs s F E (.slice A x.2.length c) x.2 := by
 obtain ⟨bx, vF, vE, LP, LE, e1, e2, h⟩ := h; refine (refData_any w q _ _ _ _ _ _ _ _ _ _ _ _ _ _ x.1 BA bc x.2 (cH (i := 0) h rfl) hx hh hl).mono ?_; rintro e w' ⟨A, c, rfl, ho, hb⟩; exact ⟨A, c, rfl, bx, vF, vE, LP, LE, e1, e2, sep_bodsAdd (i := 3) h rfl hb ho⟩
theorem reads_nil (X : SP) : Reads X none [] := fun w F h => Has.nil
theorem rk_tell0 (kind : Int) (h : DLS w0 w q Qs s F E) (hn : E.length ≤ 100000) :
  Calls Try.prog 67 #[.pointer (some ⟨q, 0, none⟩), .int .i64 kind, .slice none 0 0] w fun e w' => e = .returned (.tuple #[]) ∧ DLS w0 w' q Qs s F (E ++ [s.ev kind []]) := by
 obtain ⟨bx, vF, vE, LP, LE, e1, e2, h⟩ := h; have hl : LE.length ≤ 1000000 := by have := congrArg List.length e2; simp at this; omega
 refine (refTellC (body := []) (bc := 0) kind ((h.tF 4 rfl).tF 1 rfl) (reads_nil _) hl (by simp)).mono ?_; rintro e w' ⟨rfl, u, vE', h'⟩; refine ⟨rfl, bx, vF, vE', LP, LE ++ [(s.ev kind [], u)], e1, by simp [e2], ?_⟩; unfold DL; rw [List.length_append, evRow_snoc, evBods_snoc]; have h2 := sep_byBods ((h'.tF 6 rfl).tF 3 rfl); exact ((((h2.tF 2 rfl).tF 5 rfl).tF 5 rfl).tF 5 rfl).tF 5 rfl
theorem rk_tellX {X : SP} {BA : Option Addr} {bc : Nat} {b : List UInt8} (kind : Int) (h : DLS w0 w q (X :: Qs) s F E) (hX : Reads X BA b) (hb : b.length ≤ 1000000) (hn : E.length ≤ 100000) :
  Calls Try.prog 67 #[.pointer (some ⟨q, 0, none⟩), .int .i64 kind, .slice BA b.length bc] w fun e w' => e = .returned (.tuple #[]) ∧ DLS w0 w' q (X :: Qs) s F (E ++ [s.ev kind b]) := by
 obtain ⟨bx, vF, vE, LP, LE, e1, e2, h⟩ := h; have hl : LE.length ≤ 1000000 := by have := congrArg List.length e2; simp at this; omega
 refine (refTellC (bc := bc) kind (((h.tF 6 rfl).tF 5 rfl).tF 2 rfl) hX hl hb).mono ?_; rintro e w' ⟨rfl, u, vE', h'⟩; refine ⟨rfl, bx, vF, vE', LP, LE ++ [(s.ev kind b, u)], e1, by simp [e2], ?_⟩; unfold DL; rw [List.length_append, evRow_snoc, evBods_snoc]; have h2 := sep_byBods ((h'.tF 7 rfl).tF 3 rfl); exact ((((((h2.tF 3 rfl).tF 1 rfl).tF 3 rfl).tF 6 rfl).tF 6 rfl).tF 6 rfl).tF 6 rfl
end
theorem rk_c {w0 w : World} {q : Nat} {Ps : List SP} {s : LS} {bx vF vE : Value} (h : Sep w0 w (Ce q 109 (s.rc bx vF vE) :: Ps)) : w.cell? ⟨q, 0, none⟩ = some (.int .i64 s.sn) ∧ w.cell? ⟨q, 1, none⟩ = some (.int .u64 (s.si : Int)) ∧ w.cell? ⟨q, 2, none⟩ = some (.int .i64 s.peer) ∧ w.cell? ⟨q, 3, none⟩ = some (.int .u64 (s.conn : Int)) ∧ w.cell? ⟨q, 4, none⟩ = some (.int .u64 (s.inc : Int)) ∧ w.cell? ⟨q, 5, none⟩ = some (.int .u64 (s.known : Int)) ∧ w.cell? ⟨q, 6, none⟩ = some (.bool s.up) ∧ w.cell? ⟨q, 7, none⟩ = some (.int .u64 (s.base : Int)) ∧ w.cell? ⟨q, 8, none⟩ = some (bx) ∧ w.cell? ⟨q, 9, none⟩ = some (.int .u64 (s.got : Int)) ∧ w.cell? ⟨q, 10, none⟩ = some (.int .u64 (s.heard : Int)) ∧ w.cell? ⟨q, 11, none⟩ = some (.int .u64 (s.sent : Int)) ∧ w.cell? ⟨q, 12, none⟩ = some (vF) ∧ w.cell? ⟨q, 13, none⟩ = some (vE) :=
 ⟨cA (i := 0) h rfl 0 rfl, cA (i := 0) h rfl 1 rfl, cA (i := 0) h rfl 2 rfl, cA (i := 0) h rfl 3 rfl, cA (i := 0) h rfl 4 rfl, cA (i := 0) h rfl 5 rfl, cA (i := 0) h rfl 6 rfl, cA (i := 0) h rfl 7 rfl, cA (i := 0) h rfl 8 rfl, cA (i := 0) h rfl 9 rfl, cA (i := 0) h rfl 10 rfl, cA (i := 0) h rfl 11 rfl, cA (i := 0) h rfl 12 rfl, cA (i := 0) h rfl 13 rfl⟩
theorem rk_downW {w0 W : World} {q : Nat} {Qs : List SP} {s : LS} {bx vF vE : Value} {LP : List (Fr × Value)} {LE : List (Ev × Value)} {F : List Fr} {E : List Ev} (h : Sep w0 W (DL q Qs s bx vF vE LP LE)) (e1 : LP.map Prod.fst = F) (e2 : LE.map Prod.fst = E) :
  DLS w0 ((((W.setCell ⟨q, 6, none⟩ (.bool false)).setCell ⟨q, 7, none⟩ (.int .u64 0)).setCell ⟨q, 8, none⟩ (.slice none 0 0)).setCell ⟨q, 9, none⟩ (.int .u64 0)) q Qs s.down F E := by
 have h1 := cS (i := 0) (cS (i := 0) (cS (i := 0) (cS (i := 0) h rfl 6 (.bool false)) rfl 7 (.int .u64 0)) rfl 8 (.slice none 0 0)) rfl 9 (.int .u64 0); exact ⟨_, _, _, _, _, e1, e2, sep_boxRGone (i := 1) h1 rfl⟩
set_option maxHeartbeats 1600000 in
theorem rk_down {w0 w : World} {q : Nat} {Qs : List SP} {s : LS} {F : List Fr} {E : List Ev} (h : DLS w0 w q Qs s F E) (hn : E.length ≤ 100000) :
  Calls Try.prog 63 #[.pointer (some ⟨q, 0, none⟩)] w fun e w' => e = .returned (.tuple #[]) ∧ DLS w0 w' q Qs s.down F (E ++ if s.up then [s.ev 2 []] else []) := by
 obtain ⟨bx, vF, vE, LP, LE, e1, e2, h⟩ := h; obtain ⟨_, _, _, _, _, _, k6, k7, k8, k9, _⟩ := rk_c h; cases hu : s.up with
 | false =>
  rw [hu] at k6; have f6 := cFz (i := 0) h rfl 6; have f7 := cFz (i := 0) h rfl 7; have f8 := cFz (i := 0) h rfl 8; have f9 := cFz (i := 0) h rfl 9; have R := Lib.hid (rk_downW h e1 e2); clear h e1 e2 hu; go_enter Try.func63, Try.ntmps63
  go_wp2_with fail
  go_end0
  refine ⟨rfl, ?_⟩; simpa using R.out
 | true =>
  rw [hu] at k6; have HD : Hid (DLS w0 w q Qs s F E) := Lib.hid ⟨bx, vF, vE, LP, LE, e1, e2, h⟩; clear h e1 e2 hu k7 k8 k9; go_enter Try.func63, Try.ntmps63
  go_wp2_with fail
  refine (rk_tell0 2 HD.out hn).mono ?_; rintro e w1 ⟨rfl, bx1, vF1, vE1, LP1, LE1, e1, e2, h⟩; obtain ⟨_, _, _, _, _, _, k6', k7, k8, k9, _⟩ := rk_c h; have f6 := cFz (i := 0) h rfl 6; have f7 := cFz (i := 0) h rfl 7; have f8 := cFz (i := 0) h rfl 8; have f9 := cFz (i := 0) h rfl 9; have R := Lib.hid (rk_downW h e1 e2); clear h e1 e2 HD
  go_wp2_with fail
  go_end0
  refine ⟨rfl, ?_⟩; simpa using R.out
/-- what was answered: things of their own; the link has answered nothing -/
def DAns (w0 W : World) (q : Nat) (Qs : List SP) (s : LS) (F : List Fr) (E : List Ev) (v : Value) : Prop :=
 ∃ vF vE bx LP LE, v = .agg #[vF, vE] ∧ LP.map Prod.fst = F ∧ LE.map Prod.fst = E ∧
  Sep w0 W (Rw 51 10 vF LP.length (fR_ LP) :: Bods (fB_ LP) :: Rw 49 4 vE LE.length (eR_ LE) :: Bods (eB_ LE) :: DL q Qs s bx (.slice none 0 0) (.slice none 0 0) [] [])
theorem sep_rwNilF {w0 w : World} {Ps : List SP} (h : Sep w0 w Ps) (e : TypeId) (size : Nat) : Sep w0 w (Rw e size (.slice none 0 0) 0 [] :: Ps) := (sep_rwNil h e size).lastFront
set_option maxHeartbeats 1600000 in
theorem rk_answered {w0 w : World} {q : Nat} {Qs : List SP} {s : LS} {F : List Fr} {E : List Ev} (h : DLS w0 w q Qs s F E) :
  Calls Try.prog 66 #[.pointer (some ⟨q, 0, none⟩)] w fun e w' => ∃ v, e = .returned v ∧ DAns w0 w' q Qs s F E v := by
 obtain ⟨bx, vF, vE, LP, LE, e1, e2, h⟩ := h; obtain ⟨FA, fc, rfl, _⟩ := sep_rwForm (i := 2) h rfl; obtain ⟨EA, ec, rfl, _⟩ := sep_rwForm (i := 4) h rfl; obtain ⟨n, Hn⟩ : ∃ x, Hid (LP.length = x) := ⟨_, Lib.hid rfl⟩; obtain ⟨m, Hm⟩ : ∃ x, Hid (LE.length = x) := ⟨_, Lib.hid rfl⟩; have k12 : w.cell? ⟨q, 12, none⟩ = some (.slice FA LP.length fc) := cA (i := 0) h rfl 12 rfl; have k13 : w.cell? ⟨q, 13, none⟩ = some (.slice EA LE.length ec) := cA (i := 0) h rfl 13 rfl; rw [Hn.out] at k12; rw [Hm.out] at k13; have f12 := cFz (i := 0) h rfl 12; have f13 := cFz (i := 0) h rfl 13; have hq := sep_ceLt (i := 0) h rfl; have E1 := Lib.hid e1; have E2 := Lib.hid e2; obtain ⟨W, HW⟩ : ∃ W, Hid (W = (((w.setCell ⟨q, 12, none⟩ (.slice none 0 0)).setCell ⟨q, 13, none⟩ (.slice none 0 0)).alloc (.cells #[.slice FA n fc, .slice EA m ec] 43)).alloc (.cells #[.slice FA n fc, .slice EA m ec] 43)) := ⟨_, Lib.hid rfl⟩; have HS : Hid (Sep w0 W (Ce (w.heap.size + 1) 43 #[.slice FA n fc, .slice EA m ec] :: Ce w.heap.size 43 #[.slice FA n fc, .slice EA m ec] :: Rw 51 10 (.slice FA LP.length fc) LP.length (fR_ LP) :: Bods (fB_ LP) :: Rw 49 4 (.slice EA LE.length ec) LE.length (eR_ LE) :: Bods (eB_ LE) :: DL q Qs s bx (.slice none 0 0) (.slice none 0 0) [] [])) := Lib.hid (by
  have h1 := cS (i := 0) (cS (i := 0) h rfl 12 (.slice none 0 0)) rfl 13 (.slice none 0 0); have h3 := sep_rwNilF (sep_bodsNil (sep_rwNilF (sep_bodsNil h1) 49 4)) 51 10; have h3' : Sep w0 _ (Rw 51 10 (.slice FA LP.length fc) LP.length (fR_ LP) :: Bods (fB_ LP) :: Rw 49 4 (.slice EA LE.length ec) LE.length (eR_ LE) :: Bods (eB_ LE) :: DL q Qs s bx (.slice none 0 0) (.slice none 0 0) [] []) := (((((h3.tF 5 rfl).tF 5 rfl).tF 9 rfl).tF 9 rfl).tF 9 rfl |>.tF 9 rfl)
  have h4 := sep_ceF (sep_ceF h3' #[.slice FA n fc, .slice EA m ec] 43) #[.slice FA n fc, .slice EA m ec] 43; rw [HW.out]; simpa using h4)
 clear h e1 e2; go_enter Try.func66, Try.ntmps66
 go_wp2_with fail
 rw [← HW.out]; have k0 := cA (i := 1) HS.out rfl 0 rfl; have k1 := cA (i := 1) HS.out rfl 1 rfl; refine bodyPost_ret (v := .agg #[.slice FA n fc, .slice EA m ec]) (by simp [results, Try.results66, go_sem, k0, k1]) rfl ?_; exact ⟨_, rfl, _, _, bx, LP, LE, by rw [Hn.out, Hm.out], E1.out, E2.out, HS.out.popF.popF⟩

theorem fresh_at {s : LS} (hs : s.Num) {k : Nat} (hk : k < min s.box.length 8) : ∃ l, s.box[k]? = some l ∧ s.due[k]? = some (s.base + k + 1, l) := by
 have hk2 : k < s.box.length := by omega
 refine ⟨s.box[k], List.getElem?_eq_getElem hk2, ?_⟩; unfold LS.due items; rw [hs.due, List.getElem?_mapIdx, List.getElem?_take, if_pos hk, List.getElem?_eq_getElem hk2]; simp only [Option.map_some, Option.some.injEq, Prod.mk.injEq, and_true]; omega
theorem due_len {s : LS} (hs : s.Num) : s.due.length = min s.box.length 8 := by
 unfold LS.due; rw [items_len, hs.due, List.length_take]; omega
/-- what is due above a number, of the first ones -/
def freshN (s : LS) (above k : Nat) : List (Nat × List UInt8) := (s.due.take k).filter fun x => decide (above < x.1)
theorem freshN_zero (s : LS) (above : Nat) : freshN s above 0 = [] := by simp [freshN]
theorem freshN_all {s : LS} (hs : s.Num) (above : Nat) : freshN s above (min s.box.length 8) = s.fresh above := by
 unfold freshN LS.fresh; rw [List.take_of_length_le (by rw [due_len hs]; exact Nat.le_refl _)]
theorem freshN_yes {s : LS} {above k : Nat} {x : Nat × List UInt8} (h : s.due[k]? = some x) (hx : above < x.1) : freshN s above (k + 1) = freshN s above k ++ [x] := by
 unfold freshN; rw [List.take_add_one, h, List.filter_append]; simp [hx]
theorem freshN_no {s : LS} {above k : Nat} {x : Nat × List UInt8} (h : s.due[k]? = some x) (hx : ¬ above < x.1) : freshN s above (k + 1) = freshN s above k := by
 unfold freshN; rw [List.take_add_one, h, List.filter_append]; simp [hx]
theorem freshN_len (s : LS) (above k : Nat) : (freshN s above k).length ≤ k := by
 unfold freshN; have := List.length_filter_le (fun x : Nat × List UInt8 => decide (above < x.1)) (s.due.take k); rw [List.length_take] at this; omega
theorem refDataSum {w0 w : World} {q : Nat} {Qs : List SP} {s : LS} {F : List Fr} {E : List Ev} {BA : Option Addr} {bc k : Nat} {l : List UInt8} (h : DLS w0 w q Qs s F E) (hh : Has w w.heap.size BA (us l)) (hl : l.length ≤ 1000000) :
  Calls Try.prog 65 #[.pointer (some ⟨q, 0, none⟩), .int .u64 ((s.base : Int) + (k : Int) + 1), .slice BA l.length bc] w fun e w' => ∃ A c, e = .returned (.agg ((s.data (s.base + k + 1, l)).cells A c)) ∧ DLB w0 w' q Qs s F E (.slice A l.length c) l := by
 have := rk_data (bc := bc) (s.base + k + 1, l) h (Nat.succ_pos _) hh hl
 rwa [Int.natCast_add, Int.natCast_add] at this
set_option maxHeartbeats 3200000 in
theorem rk_all {w0 w : World} {q above : Nat} {Qs : List SP} {s : LS} {F : List Fr} {E : List Ev} (h : DLS w0 w q Qs s F E) (hs : s.Num) (hn : F.length ≤ 10000) (ha : above < 18446744073709551616) :
  Calls Try.prog 71 #[.pointer (some ⟨q, 0, none⟩), .int .u64 (above : Int)] w fun e w' => e = .returned (.bool (decide (s.fresh above ≠ []))) ∧ DLS w0 w' q Qs s (F ++ (s.fresh above).map s.data) E := by
 have hb1 := hs.base; have hb2 := hs.box; obtain ⟨d, HD⟩ : ∃ d, Hid (min s.box.length 8 = d) := ⟨_, Lib.hid rfl⟩; have hd8 : d ≤ 8 := by rw [← HD.out]; omega
 have HOK := Lib.hid hs; have HS := Lib.hid h; have HDN : Hid (dueN s.base s.box = d) := Lib.hid (by rw [← HD.out, dueN, if_pos hs.may]); rw [← freshN_all hs above]; rw [HD.out]; clear h hs; go_enter Try.func71, Try.ntmps71
 go_wp2_with fail
 go_loopw [5, 6] (fun sm i wr => ∃ k : Nat, k ≤ d ∧ i = .int .i64 (k : Int) ∧ sm = .bool (decide (freshN s above k ≠ [])) ∧ DLS w0 wr q Qs s (F ++ (freshN s above k).map s.data) E) (fun _ i _ => d - (intOf i).toNat)
 case atStart => exact ⟨0, by omega, rfl, by simp [freshN_zero], by simpa [freshN_zero] using HS.out⟩
 case round =>
  obtain ⟨k, hk, rfl, rfl, hs⟩ := hrel; have HS2 := Lib.hid hs; obtain ⟨bx, vF, vE, LP, LE, e1, e2, h⟩ := hs; obtain ⟨BA, bc, rfl, hc1, hc2, hbx⟩ := sep_boxRForm (i := 1) h rfl; obtain ⟨_, _, _, _, _, _, _, k7, k8, _⟩ := rk_c h; have HSB := Lib.hid h; have HBX := Lib.hid hbx; clear h hbx e1 e2 HS
  go_wp2_with fail
  refine (dueR_any wr wr.heap.size s.base BA bc s.box HBX.out (Nat.le_refl _) (by omega) (by unfold maxLen at *; omega)).mono ?_; rintro e w2 ⟨rfl, hb2⟩; rw [HDN.out]; have HS3 := Lib.hid (HS2.out.grow hb2); have hg := HSB.out.grow hb2; obtain ⟨_, _, _, _, _, _, _, j7, j8, _⟩ := rk_c hg; obtain ⟨_, _, e3, _, _, hbx2⟩ := sep_boxRForm (i := 1) hg rfl; obtain ⟨rfl, rfl⟩ : BA = _ ∧ bc = _ := by simpa using e3
  have HBX2 := Lib.hid hbx2; clear hg hbx2 e3 k7 k8 HSB HBX HS2
  by_cases hlt : k < d
  ·obtain ⟨l, hl1, hl2⟩ := fresh_at HOK.out (k := k) (by rw [HD.out]; exact hlt); have hkl : k < s.box.length := (List.getElem?_eq_some_iff.1 hl1).1; have hel := (List.getElem?_eq_some_iff.1 hl1).2; obtain ⟨bb, oo, A1, c1, rfl, _, hc, _, _, hlen, hhas⟩ := HBX2.out.at_ hkl; rw [hel] at hc hlen hhas; have hlen2 : l.length ≤ 448 := (bodyB_len (HOK.out.bodies l (List.mem_of_getElem? hl1))).2; have HH := Lib.hid hhas; have HL2 := Lib.hid hl2; clear hl1 hl2 hel hhas HBX2; have hfl := freshN_len s above k; obtain ⟨M, HM⟩ : ∃ M, Hid (freshN s above k = M) := ⟨_, Lib.hid rfl⟩
   by_cases hab : above < s.base + k + 1
   ·have g1 : decide ((above : Int) < (s.base : Int) + (k : Int) + 1) = true := decide_eq_true (by omega); have HY := Lib.hid (freshN_yes HL2.out hab); clear hab HL2; rw [HM.out] at HS3 HY; rw [HM.out] at hfl
    go_wp2_with fail
    refine (refDataSum HS3.out HH.out (by omega)).mono ?_; rintro e w3 ⟨A3, c3, rfl, h3⟩; have HS4 := Lib.hid h3; clear h3 HS3
    go_wp2_with fail
    refine (rk_sendD (f := s.data (s.base + k + 1, l)) HS4.out (by rw [List.length_append, List.length_map]; omega)).mono ?_; rintro e w4 ⟨rfl, h4⟩; have HS5 := Lib.hid h4; clear h4 HS4
    go_wp2_with fail
    go_roundw
    case rel => exact ⟨k + 1, by omega, by go_num, by rw [HY.out]; simp, by rw [HY.out, List.map_append, ← List.append_assoc]; exact HS5.out⟩
    case measure => simp [intOf]; omega
   ·have g1 : decide ((above : Int) < (s.base : Int) + (k : Int) + 1) = false := decide_eq_false (by omega); have HY := Lib.hid (freshN_no HL2.out hab); clear hab HL2; rw [HM.out] at HS3 HY; rw [HM.out] at hfl
    go_wp2_with fail
    go_roundw
    case rel => exact ⟨k + 1, by omega, by go_num, by rw [HY.out, ← HM.out]; simp, by rw [HY.out]; exact HS3.out⟩
    case measure => simp [intOf]; omega
  ·obtain rfl : k = d := by omega
   go_wp2_with fail
   refine bodyPost_ret (v := .bool (!decide (freshN s above k = []))) (by simp [results, Try.results71, go_sem]) rfl ?_; exact ⟨by simp, HS3.out⟩
end Go.Proofs.Ytngegjboenfmeaa
/- The document's Push. -/
namespace Go.Proofs.Ytngegjboenfmeaa
open Go Go.RowKit Go.Shelf
set_option linter.unusedVariables false
set_option maxRecDepth 100000
attribute [local go_sem] Oper.semAt_some

theorem count_sum3_yes (w : World) (x y : Nat) (h : x + y + 1 ≤ 34359738367) : Calls Try.prog 47 #[.int .u64 ((x : Int) + (y : Int) + 1)] w fun e w' => e = .returned (.bool true) ∧ w = w' := by
 have := count_yes w (x + y + 1) h
 rwa [Int.natCast_add, Int.natCast_add] at this
theorem count_sum3_no (w : World) (x y : Nat) (h : 34359738367 < x + y + 1) : Calls Try.prog 47 #[.int .u64 ((x : Int) + (y : Int) + 1)] w fun e w' => e = .returned (.bool false) ∧ w = w' := by
 have := count_no w (x + y + 1) h
 rwa [Int.natCast_add, Int.natCast_add] at this
theorem may_bounds {base : Nat} {L : List (List UInt8)} (h : wmayB base L = true) : L.length ≤ 48 ∧ base + L.length ≤ 34359738367 := by
 simp [wmayB] at h; omega
theorem AckAt.next {w wr W : World} {base : Nat} {v u : Value} {L M : List (List UInt8)} (h : AckAt w wr base v L) (hb : Below (w.heap.size + 2) wr W) (ho : OwnB W (w.heap.size + 2) u M) :
  AckAt w (W.setCell ⟨w.heap.size, 1, none⟩ u) base u M :=
 ⟨(h.below.trans (hb.mono (by omega))).setCell (by simp) _, by have := hb.size; have := h.big; simp; omega, (h.b0.below hb (by omega)).set1 _, (h.b1.below hb (by omega)).other (by omega) _, ho.set (by omega) _⟩

set_option maxHeartbeats 2000000 in
theorem pushR_any (w : World) (base : Nat) (A : Option Addr) (c : Nat) (L : List (List UInt8)) (A1 : Option Addr) (c1 : Nat) (l : List UInt8) (h : Bx w w.heap.size A L) (h1 : Has w w.heap.size A1 (us l)) (hb : base < 18446744073709551616) (hf : Fit L) (hl : l.length ≤ 1000000) :
  Calls Try.prog 73 #[.agg #[.int .u64 (base : Int), .slice A L.length c], .slice A1 l.length c1] w (PushPost w base L l) := by
 obtain ⟨W, HW⟩ : ∃ W, Hid (W = (w.alloc (.cells #[.int .u64 (base : Int), .slice A L.length c] 68)).alloc (.cells #[.int .u64 0, .slice none 0 0] 68)) := ⟨_, Lib.hid rfl⟩; have hbw : Below w.heap.size w W := by rw [HW.out]; exact ((Below.refl _ w).alloc (Nat.le_refl _) _).alloc (by simp) _
 have hz : W.heap.size = w.heap.size + 2 := by rw [HW.out]; simp
 have HZ := Lib.hid hz; have hz := Nat.le_of_eq hz.symm; have HX := Lib.hid ((h.below hbw).more hbw.size); have HH := Lib.hid h1; have n0 : Two W w.heap.size (.int .u64 (base : Int)) (.slice A L.length c) := by rw [HW.out]; exact (Two.new w _ _).below ((Below.refl (w.heap.size + 1) _).alloc (by simp) _) (by omega)
 have n1 : Two W (w.heap.size + 1) (.int .u64 0) (.slice none 0 0) := by
  rw [HW.out]; have := Two.new (w.alloc (.cells #[.int .u64 (base : Int), .slice A L.length c] 68)) (.int .u64 0) (.slice none 0 0)
  rwa [World.size_alloc] at this
 have hL1 := hf.1; have hLm : L.length ≤ maxLen := by unfold maxLen; omega
 have HF := Lib.hid hf; clear h hf h1
 by_cases hm : wmayB base L = true
 ·have hmb := may_bounds hm; have HM := Lib.hid hm; clear hm
  by_cases hbd : bodyB l = true
  ·have HBD := Lib.hid hbd; clear hbd
   by_cases h48 : 48 ≤ L.length
   ·have HE : Hid (pushE base L l = 4) := Lib.hid (by simp [pushE, HM.out, HBD.out, h48]); have e48 : decide ((48 : Int) ≤ (L.length : Int)) = true := decide_eq_true (by omega); go_enter Try.func73, Try.ntmps73
    go_wp2_with fail
    rw [← HW.out]; refine (mayR_t W W.heap.size base A c L HX.out (Nat.le_refl _) hb hLm HM.out).mono ?_; rintro e w1 ⟨rfl, hb1⟩; have k0 := (n0.below hb1 (by omega)).c0; have k1 := (n0.below hb1 (by omega)).c1; have k2 := (n1.below hb1 (by omega)).c0; have k3 := (n1.below hb1 (by omega)).c1; have k4 := (n1.below hb1 (by omega)).f0; have k5 := (n1.below hb1 (by omega)).f1
    go_wp2_with (go_at_call 76; refine (bodyR_t _ A1 c1 l (by omega) HBD.out).mono ?_; rintro e w' ⟨rfl, rfl⟩)
    refine bodyPost_ret (v := .tuple #[.agg #[.int .u64 0, .slice none 0 0], .int .i64 4]) (by simp [results, Try.results73, go_sem, k2, k3]) rfl ?_; exact ⟨((hbw.trans (hb1.mono hbw.size)).setCell (by simp) _).setCell (by simp) _, .inl ⟨by rw [HE.out]; decide, by rw [HE.out]; rfl⟩⟩
   ·have e48 : decide ((48 : Int) ≤ (L.length : Int)) = false := decide_eq_false (by omega)
    by_cases hfull : 34359738367 ≤ base + L.length
    ·have HE : Hid (pushE base L l = 4) := Lib.hid (by simp [pushE, HM.out, HBD.out, hfull]); go_enter Try.func73, Try.ntmps73
     go_wp2_with fail
     rw [← HW.out]; refine (mayR_t W W.heap.size base A c L HX.out (Nat.le_refl _) hb hLm HM.out).mono ?_; rintro e w1 ⟨rfl, hb1⟩; have k0 := (n0.below hb1 (by omega)).c0; have k1 := (n0.below hb1 (by omega)).c1; have k2 := (n1.below hb1 (by omega)).c0; have k3 := (n1.below hb1 (by omega)).c1; have k4 := (n1.below hb1 (by omega)).f0; have k5 := (n1.below hb1 (by omega)).f1
     go_wp2_with (go_at_call 76; refine (bodyR_t _ A1 c1 l (by omega) HBD.out).mono ?_; rintro e w' ⟨rfl, rfl⟩)
     refine (count_sum3_no _ base L.length (by omega)).mono ?_; rintro e w' ⟨rfl, rfl⟩
     go_wp2_with fail
     refine bodyPost_ret (v := .tuple #[.agg #[.int .u64 0, .slice none 0 0], .int .i64 4]) (by simp [results, Try.results73, go_sem, k2, k3]) rfl ?_; exact ⟨((hbw.trans (hb1.mono hbw.size)).setCell (by simp) _).setCell (by simp) _, .inl ⟨by rw [HE.out]; decide, by rw [HE.out]; rfl⟩⟩
    ·have HE : Hid (pushE base L l = 0) := Lib.hid (by simp [pushE, HM.out, HBD.out]; omega); go_enter Try.func73, Try.ntmps73
     go_wp2_with fail
     rw [← HW.out]; refine (mayR_t W W.heap.size base A c L HX.out (Nat.le_refl _) hb hLm HM.out).mono ?_; rintro e w1 ⟨rfl, hb1⟩; have k0 := (n0.below hb1 (by omega)).c0; have k1 := (n0.below hb1 (by omega)).c1
     go_wp2_with (go_at_call 76; refine (bodyR_t _ A1 c1 l (by omega) HBD.out).mono ?_; rintro e w' ⟨rfl, rfl⟩)
     refine (count_sum3_yes _ base L.length (by omega)).mono ?_; rintro e w' ⟨rfl, rfl⟩
     go_wp2_with fail
     refine (ownR_any w1 base A c L ((HX.out.below hb1).more hb1.size) HF.out).mono ?_; rintro e w2 ⟨v, rfl, ho, hb2⟩; obtain ⟨Av, cv, rfl, p1, p2, _⟩ := ho.form HF.out.all; have hb12 := hb1.trans (hb2.mono hb1.size); have ha := AckAt.start HW.out hb12 (ho.mono hb1.size); have k0 := (n0.below hb12 (by omega)).c0; have k1 := (n0.below hb12 (by omega)).c1; have k2 := (n0.below hb12 (by omega)).f0; have k3 := (n0.below hb12 (by omega)).f1; obtain ⟨wr, HWR⟩ : ∃ W1, Hid (W1 = (w2.setCell ⟨w.heap.size, 0, none⟩ (.int .u64 (base : Int))).setCell ⟨w.heap.size, 1, none⟩ (.slice Av L.length cv)) := ⟨_, Lib.hid rfl⟩; rw [← HWR.out] at ha; have hbig := ha.big; have hzw := ha.below.size; have HA := Lib.hid ha; have HCL := Lib.hid ha.b0.c1; have HHR := Lib.hid (HH.out.below ha.below); clear ho hb12 hb1 hb2 ha n0 n1; have HFM : Hid (∀ x ∈ L ++ [l], x.length ≤ 140737488355328) := Lib.hid (by
      intro x hx
      rcases List.mem_append.1 hx with hx | hx
      ·exact HF.out.all x hx
      ·simp at hx; subst hx; omega)
     go_wp2_with fail
     rw [← HWR.out]; clear k0 k1 k2 k3; have hbel : ∀ (dn : Nat → Bool) (xv : Nat → Value) (W : World), (if dn 8 = true then AckAt w W base (xv 6) (L ++ [l]) else if dn 6 = true then Below (w.heap.size + 2) wr W ∧ OwnB W (w.heap.size + 2) (xv 6) (L ++ [l]) else if dn 5 = true then Below wr.heap.size wr W ∧ Own W wr.heap.size (xv 4) l ∧ OneOf (xv 4) (xv 5) W else if dn 4 = true then Below wr.heap.size wr W ∧ Own W wr.heap.size (xv 4) l else if dn 2 = true then Below wr.heap.size wr W ∧ Own W wr.heap.size (xv 2) [] else Below wr.heap.size wr W) → dn 8 = false → Below (w.heap.size + 2) wr W := fun dn xv W h h0 => by
      rw [if_neg (by simp [h0])] at h; split at h
      ·exact h.1
      split at h
      ·exact h.1.mono hbig
      split at h
      ·exact h.1.mono hbig
      split at h
      ·exact h.1.mono hbig
      exact h.mono hbig
     refine wRG (fun dn xv W => if dn 8 = true then AckAt w W base (xv 6) (L ++ [l]) else if dn 6 = true then Below (w.heap.size + 2) wr W ∧ OwnB W (w.heap.size + 2) (xv 6) (L ++ [l]) else if dn 5 = true then Below wr.heap.size wr W ∧ Own W wr.heap.size (xv 4) l ∧ OneOf (xv 4) (xv 5) W else if dn 4 = true then Below wr.heap.size wr W ∧ Own W wr.heap.size (xv 4) l else if dn 2 = true then Below wr.heap.size wr W ∧ Own W wr.heap.size (xv 2) [] else Below wr.heap.size wr W) (fun _ _ => True) [xP_ w.heap.size 1, xV_ (.slice Av L.length cv), fun v _ => True, xV_ (.slice A1 l.length c1), fun v _ => True, fun v _ => True, fun v _ => True, xP_ w.heap.size 1, fun v _ => True] (fun xv => by simpa using (Below.refl _ wr).drew) ?_ ?_
     ·refine Ep 1 2 w.heap.size 0 ?_
      refine EC 2 rfl (fun g h W F a b c d e H K f => ?_) ?_
      ·have f33 := gE (a 33) (by kernel_rfl) (H 0) (by kernel_rfl); have hb0 := hbel g h W e (c 8 (uM 6 uE)); have hc0 := (hb0.cell (p := ⟨w.heap.size, 1, none⟩) (show w.heap.size < w.heap.size + 2 by omega)).trans HCL.out; clear hb0; clear H c b d a; refine oP rfl ?_; go_simp; exact f.out _ _ rfl trivial e
      refine EC 3 rfl (fun g h W F a b c d e H K f => ?_) ?_
      ·have q4 := c 4 uE; have q5 := c 5 (uM 4 uE); have q6 := c 6 (uM 5 (uM 4 uE)); have q8 := c 8 (uM 6 (uM 5 (uM 4 uE))); rw [if_neg (by simp [q8]), if_neg (by simp [q6]), if_neg (by simp [q5]), if_neg (by simp [q4]), if_neg (by simp [b])] at e; have hS := e; clear e c b d a H; refine oP rfl ?_; go_simp; have hb : Below W.heap.size W (W.alloc (.cells #[] 5)) := (Below.refl _ _).alloc (Nat.le_refl _) _; have hs : Below wr.heap.size wr (W.alloc (.cells #[] 5)) ∧ Own (W.alloc (.cells #[] 5)) wr.heap.size (.slice (some ⟨W.heap.size, 0, none⟩) 0 0) [] := ⟨hS.trans (hb.mono hS.size), own_mono (own_empty W) hS.size⟩; exact f.out _ _ trivial trivial (by simpa [upB, upd, q4, q5, q6, q8] using hs)
      refine Ei 4 1 (.slice A1 l.length c1) ?_
      refine EC 5 rfl (fun g h W F a b c d e H K f => ?_) ?_
      ·have f35 : F.tmps.getD 35 undef = h 2 := (a 35).trans (by kernel_rfl); have f36 := gE (a 36) (by kernel_rfl) (H 3) (by kernel_rfl); have q2 := (H 2 uE).1; have q5 := c 5 uE; have q6 := c 6 (uM 5 uE); have q8 := c 8 (uM 6 (uM 5 uE)); rw [if_neg (by simp [q8]), if_neg (by simp [q6]), if_neg (by simp [q5]), if_neg (by simp [b]), if_pos q2] at e; have hS := e; clear e c b d a H; refine oP rfl ?_; refine op_app (base := wr.heap.size) (l := []) (m := l) (B := w.heap.size) (s := .tmp 35) (x := .tmp 36) (by rfl) f35 f36 hS.2 (HHR.out.below (hS.1.mono (by omega))) (by simp; omega) hS.1.size ?_; intro v W' ho hb _ _; have hs : Below wr.heap.size wr W' ∧ Own W' wr.heap.size v l := ⟨hS.1.trans hb, ho⟩; exact f.out v W' trivial trivial (by simpa [upB, upd, q5, q6, q8] using hs)
      refine EC 6 rfl (fun g h W F a b c d e H K f => ?_) ?_
      ·have f37 : F.tmps.getD 37 undef = h 4 := (a 37).trans (by kernel_rfl); have q4 := (H 4 uE).1; have q6 := c 6 uE; have q8 := c 8 (uM 6 uE); rw [if_neg (by simp [q8]), if_neg (by simp [q6]), if_neg (by simp [b]), if_pos q4] at e; have hS := e; clear e c b d a H; refine oP rfl ?_; obtain ⟨A2, c2, e2, _⟩ := hS.2.form; have e3 := e2; rw [e2] at f37; have g37 := f37; rw [Array.getD_eq_getD_getElem?] at g37; go_simp; rw [← e3]; have hb : Below W.heap.size W (W.alloc (.cells #[h 4] 47)) := (Below.refl _ _).alloc (Nat.le_refl _) _; have hs : Below wr.heap.size wr (W.alloc (.cells #[h 4] 47)) ∧ Own (W.alloc (.cells #[h 4] 47)) wr.heap.size (h 4) l ∧ OneOf (h 4) (.slice (some ⟨W.heap.size, 0, none⟩) 1 1) (W.alloc (.cells #[h 4] 47)) := ⟨hS.1.trans (hb.mono hS.1.size), own_below hS.2 hb (Nat.le_refl _), OneOf.new W _ _⟩; exact f.out _ _ trivial trivial (by simpa [upB, upd, q6, q8] using hs)
      refine EC 7 rfl (fun g h W F a b c d e H K f => ?_) ?_
      ·have f34 := gE (a 34) (by kernel_rfl) (H 1) (by kernel_rfl); have f38 : F.tmps.getD 38 undef = h 5 := (a 38).trans (by kernel_rfl); have q5 := (H 5 uE).1; have q8 := c 8 uE; rw [if_neg (by simp [q8]), if_neg (by simp [b]), if_pos q5] at e; have hS := e; clear e c b d a H; refine oP rfl ?_; obtain ⟨s1, s2, A3, c3, e3, hh3⟩ := hS; have f38x := f38.trans e3; refine op_appB (base := w.heap.size + 2) (l := l) (u := h 4) (s := .tmp 34) (x := .tmp 38) (by rfl) f34 f38x (HA.out.own.below s1) (own_mono s2 hbig) (apart_new HA.out.own s2) hh3 (by omega) (Nat.le_trans hbig s1.size) ?_; intro v W' ho hb; have hs : Below (w.heap.size + 2) wr W' ∧ OwnB W' (w.heap.size + 2) v (L ++ [l]) := ⟨(s1.mono hbig).trans hb, ho⟩; exact f.out v _ trivial trivial (by simpa [upB, upd, q8] using hs)
      refine Ep 8 2 w.heap.size 0 ?_
      refine EC 9 rfl (fun g h W F a b c d e H K f => ?_) ?_
      ·have f39 : F.tmps.getD 39 undef = h 6 := (a 39).trans (by kernel_rfl); have f40 := gE (a 40) (by kernel_rfl) (H 7) (by kernel_rfl); have q6 := (H 6 uE).1; rw [if_neg (by simp [b]), if_pos q6] at e; have hS := e; clear e c b d a H; refine oP rfl ?_; obtain ⟨s1, s2⟩ := hS; obtain ⟨A2, c2, e2, _⟩ := s2.form HFM.out; rw [len1] at e2; have f39x := f39.trans e2; have hc3 := (HA.out.b0.below s1 (by omega)).c1; have hf3 := (HA.out.b0.below s1 (by omega)).f1; have hs := HA.out.next s1 s2; go_simp; rw [← e2]; exact f.out undef _ trivial trivial (by simpa [upB, upd] using hs)
      exact EN
     ·intro dn xv W hI H; have qe : dn 8 = true := (H 8 (of_decide_eq_true (by kernel_rfl))).1; rw [if_pos qe] at hI; have hS := hI; clear H hI qe; simp only [putAll, Act.put, List.setIfInBounds_toArray, List.set_cons_zero, List.set_cons_succ, Nat.reduceAdd]; obtain ⟨A2, c2, e2, _⟩ := hS.own.form HFM.out; rw [len1] at e2; have k0 := hS.b0.c0; have k1 := hS.b0.c1; rw [e2] at k1; have k2 := hS.b1.c0; have k3 := hS.b1.c1; have k4 := hS.b1.f0; have k5 := hS.b1.f1; have HS := Lib.hid hS; clear hS
      go_wp2_with fail
      refine bodyPost_ret (v := .tuple #[.agg #[.int .u64 (base : Int), .slice A2 (L.length + 1) c2], .int .i64 0]) (by simp [results, Try.results73, go_sem, k2, k3]) rfl ?_; refine ⟨(HS.out.below.setCell (by simp) _).setCell (by simp) _, .inr ⟨HE.out, _, rfl, ?_⟩⟩; rw [← e2]; exact ((HS.out.own.set (by omega) _).set (by omega) _).mono (by omega)
  ·have HBD := Lib.hid (show bodyB l = false by simpa using hbd); clear hbd; have HE : Hid (pushE base L l = 2) := Lib.hid (by simp [pushE, HM.out, HBD.out]); go_enter Try.func73, Try.ntmps73
   go_wp2_with fail
   rw [← HW.out]; refine (mayR_t W W.heap.size base A c L HX.out (Nat.le_refl _) hb hLm HM.out).mono ?_; rintro e w1 ⟨rfl, hb1⟩; have k2 := (n1.below hb1 (by omega)).c0; have k3 := (n1.below hb1 (by omega)).c1; have k4 := (n1.below hb1 (by omega)).f0; have k5 := (n1.below hb1 (by omega)).f1
   go_wp2_with (go_at_call 76; refine (bodyR_f _ A1 c1 l (by omega) HBD.out).mono ?_; rintro e w' ⟨rfl, rfl⟩)
   refine bodyPost_ret (v := .tuple #[.agg #[.int .u64 0, .slice none 0 0], .int .i64 2]) (by simp [results, Try.results73, go_sem, k2, k3]) rfl ?_; exact ⟨((hbw.trans (hb1.mono hbw.size)).setCell (by simp) _).setCell (by simp) _, .inl ⟨by rw [HE.out]; decide, by rw [HE.out]; rfl⟩⟩
 ·have HM := Lib.hid (show wmayB base L = false by simpa using hm); clear hm; have HE : Hid (pushE base L l = 1) := Lib.hid (by simp [pushE, HM.out]); go_enter Try.func73, Try.ntmps73
  go_wp2_with fail
  rw [← HW.out]; refine (mayR_f W W.heap.size base A c L HX.out (Nat.le_refl _) hb hLm HM.out).mono ?_; rintro e w1 ⟨rfl, hb1⟩; have k2 := (n1.below hb1 (by omega)).c0; have k3 := (n1.below hb1 (by omega)).c1; have k4 := (n1.below hb1 (by omega)).f0; have k5 := (n1.below hb1 (by omega)).f1
  go_wp2_with fail
  refine bodyPost_ret (v := .tuple #[.agg #[.int .u64 0, .slice none 0 0], .int .i64 1]) (by simp [results, Try.results73, go_sem, k2, k3]) rfl ?_; exact ⟨((hbw.trans (hb1.mono hbw.size)).setCell (by simp) _).setCell (by simp) _, .inl ⟨by rw [HE.out]; decide, by rw [HE.out]; rfl⟩⟩
end Go.Proofs.Ytngegjboenfmeaa
/- Blocks that stay, as a thing that lies apart; a loop's books let go. No program in sight. -/
namespace Go.Proofs.Ytngegjboenfmeaa
open Go Go.RowKit
set_option linter.unusedVariables false

/-- blocks that are as they were -/
def Fx (lo hi : Nat) (X : World) : SP := fun w F => (∀ k, F k ↔ lo ≤ k ∧ k < hi) ∧ ∀ k, lo ≤ k → k < hi → w.heap[k]? = X.heap[k]? ∧ k < w.heap.size
theorem Fx.loc (lo hi : Nat) (X : World) : Loc (Fx lo hi X) where
 keep := by
  rintro w w' F ⟨h0, h1⟩ hk; exact ⟨h0, fun k a b => ⟨(hk k ((h0 k).2 ⟨a, b⟩)).trans (h1 k a b).1, lt_keep (h1 k a b).2 (hk k ((h0 k).2 ⟨a, b⟩))⟩⟩
 lt := by
  rintro w F ⟨h0, h1⟩ k hk; exact (h1 k ((h0 k).1 hk).1 ((h0 k).1 hk).2).2
theorem sep_fx {w0 w X : World} {Ps : List SP} (h : Sep w0 w Ps) (hb : Below w.heap.size w X) : Sep w0 X (Fx w.heap.size X.heap.size X :: Ps) :=
 (h.add (F := fun k => w.heap.size ≤ k ∧ k < X.heap.size) hb ⟨fun k => Iff.rfl, fun k a b => ⟨rfl, b⟩⟩ (Fx.loc _ _ _) (fun k hk => hk.1)).lastFront
theorem mid_fx {w0 w1 W W' X : World} {Ps Qs : List SP} {i j lo hi : Nat} (h : Sep w0 W Ps) (hI : Ps[i]? = some (Fx lo hi X)) (h' : Sep w1 W' Qs) (hj : Qs[j]? = some (Fx lo hi X)) : MidB lo hi W W' := by
 obtain ⟨F, _, h1⟩ := h.get hI; obtain ⟨G, _, h2⟩ := h'.get hj; exact ⟨fun k a b => (h2 k a b).1.trans (h1 k a b).1.symm⟩
theorem sep_bkGone {w0 w : World} {Ps : List SP} {D : Nat} {r : Loop} (h : Sep w0 w (Bk D r :: Ps)) : Sep w0 (w.putObj D (.deferred none)) Ps := by
 obtain ⟨F, ⟨h1, h2, hF⟩, hL, hlt, hk⟩ := h.upd (i := 0) rfl; have hl := lt_of_obj h1; exact (hk (w.putObj D (.deferred none)) (Fx (D + 1) (D + 1) w) (fun _ => False) ⟨rfl, rfl, rfl, by simp, fun k _ hnF => World.putObj_heap_other (fun e => hnF ((hF k).2 (.inl e))), fun k hk => hk.elim⟩
  ⟨fun k => ⟨fun h => h.elim, fun h => by omega⟩, fun k a b => by omega⟩ (Fx.loc _ _ _)).popF
theorem sep_bkAt' {w0 w : World} {Ps : List SP} {i D : Nat} {r : Loop} (h : Sep w0 w Ps) (hi : Ps[i]? = some (Bk D r)) : w.heap[D]? = some (.deferred (some [])) := by
 obtain ⟨F, h1, h2, _⟩ := h.get hi; exact h1
end Go.Proofs.Ytngegjboenfmeaa
/- Tick of any link. -/
namespace Go.Proofs.Ytngegjboenfmeaa
open Go Go.RowKit Go.Shelf
set_option linter.unusedVariables false
set_option maxRecDepth 100000
set_option linter.unusedSimpArgs false
attribute [local go_sem] Oper.semAt_some

/-- what lies at hand in Tick and Take: the answer's frames, their bodies, its events, their bodies, the answer, the result, the link's variable, the link, its box -/
def TK (o r l g : Nat) (Qs : List SP) (rf bf re be : SP) (oc lc : Array Value) (bt : SP) : List SP := rf :: bf :: re :: be :: Ce o 43 oc :: Ce r 43 #[.slice none 0 0, .slice none 0 0] :: Ce l 26 #[.pointer (some ⟨g, 0, none⟩)] :: Ce g 72 lc :: bt :: Qs
theorem sep_teller {w0 w : World} {Ps : List SP} (h : Sep w0 w Ps) (g o : Nat) : Calls Try.prog 36 #[.pointer (some ⟨g, 0, none⟩), .pointer (some ⟨o, 0, none⟩)] w fun e w' => ∃ q1 q0, e = .returned (.func (.func 56) #[] #[.pointer (some ⟨q1, 0, none⟩), .pointer (some ⟨q0, 0, none⟩)]) ∧ Sep w0 w' (Ce q1 92 #[.pointer (some ⟨o, 0, none⟩)] :: Ce q0 26 #[.pointer (some ⟨g, 0, none⟩)] :: Ps) := by
 refine (teller_any w g o).mono ?_; rintro e w' ⟨rfl, rfl⟩; have h1 := sep_ceF (sep_ceF h #[.pointer (some ⟨g, 0, none⟩)] 26) #[.pointer (some ⟨o, 0, none⟩)] 92; rw [World.size_alloc] at h1; exact ⟨_, _, rfl, h1⟩
/-- the closure that tells, and where it keeps what it tells of -/
def TellAt (v : Value) (o g : Nat) (w0 W : World) (Ps : List SP) : Prop := ∃ q1 q0, v = .func (.func 56) #[] #[.pointer (some ⟨q1, 0, none⟩), .pointer (some ⟨q0, 0, none⟩)] ∧ Sep w0 W (Ce q1 92 #[.pointer (some ⟨o, 0, none⟩)] :: Ce q0 26 #[.pointer (some ⟨g, 0, none⟩)] :: Ps)
set_option maxHeartbeats 800000 in
theorem downKeep {w0 w : World} {Qs : List SP} {o r l g q1 q0 base m : Nat} {rf bf : SP} {bx vF vE : Value} {box : List (List UInt8)} {LB : List (Value × List UInt8)} {ys : List Value} {got : Nat} {sn : Int} {si : Nat} {peer : Int} {conn inc known heard sent : Nat}
  (h : Sep w0 w (Ce q1 92 #[.pointer (some ⟨o, 0, none⟩)] :: Ce q0 26 #[.pointer (some ⟨g, 0, none⟩)] :: TK o r l g Qs rf bf (Rw 49 4 vE m ys) (Bods LB) #[vF, vE] (lkCells base bx got sn si peer conn inc known true heard sent) (BoxT bx box))) (hsn : sn ≠ 0) (hm : m ≤ 1000000) :
  Calls Try.prog 35 #[.pointer (some ⟨g, 0, none⟩), .func (.func 56) #[] #[.pointer (some ⟨q1, 0, none⟩), .pointer (some ⟨q0, 0, none⟩)]] w fun e w' => e = .returned (.tuple #[]) ∧ ∃ vE,
   Sep w0 w' (Ce q1 92 #[.pointer (some ⟨o, 0, none⟩)] :: Ce q0 26 #[.pointer (some ⟨g, 0, none⟩)] :: TK o r l g Qs rf bf (Rw 49 4 vE (m + 1) (ys ++ [.int .i64 2, .int .i64 peer, .int .u64 (inc : Int), .slice none 0 0])) (Bods (LB ++ [(.slice none 0 0, [])])) #[vF, vE] (lkCells 0 (.slice none 0 0) 0 sn si peer conn inc known false heard sent) (BoxT (.slice none 0 0) [])) := by
 have h1 : Sep w0 w (Rw 49 4 vE m ys :: Ce o 43 #[vF, vE] :: Ce q1 92 #[.pointer (some ⟨o, 0, none⟩)] :: Ce q0 26 #[.pointer (some ⟨g, 0, none⟩)] :: Ce g 72 (lkCells base bx got sn si peer conn inc known true heard sent) :: rf :: bf :: Bods LB :: Ce r 43 #[.slice none 0 0, .slice none 0 0] :: Ce l 26 #[.pointer (some ⟨g, 0, none⟩)] :: BoxT bx box :: Qs) := ((((((((((h).tF 8 rfl).tF 8 rfl).tF 7 rfl).tF 6 rfl).tF 6 rfl).tF 9 rfl).tF 7 rfl).tF 7 rfl).tF 9 rfl).tF 9 rfl; refine (downG h1 hsn hm).mono ?_; rintro e w' ⟨rfl, vE, h2⟩; refine ⟨rfl, vE, ?_⟩; have h3 := ((((((((((h2).tF 4 rfl).tF 9 rfl).tF 9 rfl).tF 4 rfl).tF 9 rfl).tF 5 rfl).tF 9 rfl).tF 9 rfl).tF 9 rfl).tF 9 rfl; exact sep_boxGone (i := 10) (sep_bodsNone (i := 5) h3 rfl) rfl
theorem downTK {w0 w : World} {Qs : List SP} {o r l g q1 q0 base m : Nat} {rf bf : SP} {bx vF vE : Value} {box : List (List UInt8)} {LB : List (Value × List UInt8)} {ys : List Value} {got : Nat} {sn : Int} {si : Nat} {peer : Int} {conn inc known heard sent : Nat}
  (h : Sep w0 w (Ce q1 92 #[.pointer (some ⟨o, 0, none⟩)] :: Ce q0 26 #[.pointer (some ⟨g, 0, none⟩)] :: TK o r l g Qs rf bf (Rw 49 4 vE m ys) (Bods LB) #[vF, vE] (lkCells base bx got sn si peer conn inc known true heard sent) (BoxT bx box))) (hsn : sn ≠ 0) (hm : m ≤ 1000000) :
  Calls Try.prog 35 #[.pointer (some ⟨g, 0, none⟩), .func (.func 56) #[] #[.pointer (some ⟨q1, 0, none⟩), .pointer (some ⟨q0, 0, none⟩)]] w fun e w' => e = .returned (.tuple #[]) ∧ ∃ vE,
   Sep w0 w' (TK o r l g Qs rf bf (Rw 49 4 vE (m + 1) (ys ++ [.int .i64 2, .int .i64 peer, .int .u64 (inc : Int), .slice none 0 0])) (Bods (LB ++ [(.slice none 0 0, [])])) #[vF, vE] (lkCells 0 (.slice none 0 0) 0 sn si peer conn inc known false heard sent) (BoxT (.slice none 0 0) [])) := by
 refine (downKeep h hsn hm).mono ?_; rintro e w' ⟨rfl, vE, h2⟩; exact ⟨rfl, vE, h2.popF.popF⟩
set_option maxHeartbeats 12800000 in
theorem tickG {w0 w : World} {Qs : List SP} {g now : Nat} {s : LS} {bx : Value} (h : Sep w0 w (Ce g 72 (s.cells bx) :: BoxT bx s.box :: Qs)) (hs : s.Num) (hcn : s.conn + 1 < 18446744073709551616) (hnow : now < 18446744073709551616) :
  Calls Try.prog 14 #[.pointer (some ⟨g, 0, none⟩), .int .u64 (now : Int)] w fun e w' => ∃ vF vE bx' LP LE, e = .returned (.agg #[vF, vE]) ∧ LP.map Prod.fst = s.tickF now ∧ LE.map Prod.fst = s.tickE now ∧
   Sep w0 w' (Rw 51 10 vF LP.length (fR_ LP) :: Bods (fB_ LP) :: Rw 49 4 vE LE.length (eR_ LE) :: Bods (eB_ LE) :: Ce g 72 ((s.tick now).cells bx') :: BoxT bx' (s.tick now).box :: Qs) := by
 obtain ⟨BA, bc, rfl, hcc, hcm, hbx⟩ := sep_boxForm (i := 1) h rfl hs.small; have HOK := Lib.hid hs; obtain ⟨q, Hq⟩ : ∃ q, Hid ((s.up && decide (4 ≤ ticks now s.heard)) = q) := ⟨_, Lib.hid rfl⟩; obtain ⟨sS, HSS⟩ : ∃ x, Hid (s = x) := ⟨_, Lib.hid rfl⟩; have HOS : Hid (sS.Num) := Lib.hid (by rw [← HSS.out]; exact HOK.out)
 suffices hgoal : Calls Try.prog 14 #[.pointer (some ⟨g, 0, none⟩), .int .u64 (now : Int)] w fun e w' => ∃ vF vE bx' LP LE, e = .returned (.agg #[vF, vE]) ∧ LP.map Prod.fst = sS.tickF now ∧ LE.map Prod.fst = sS.tickE now ∧
   Sep w0 w' (Rw 51 10 vF LP.length (fR_ LP) :: Bods (fB_ LP) :: Rw 49 4 vE LE.length (eR_ LE) :: Bods (eB_ LE) :: Ce g 72 ((sS.tick now).cells bx') :: BoxT bx' (sS.tick now).box :: Qs) by
  rw [HSS.out]; exact hgoal
 obtain ⟨base, box, got, sn, si, peer, conn, inc, known, up, heard, sent⟩ := s; have hsn : sn ≠ 0 := hs.sn; have hheard : heard < 18446744073709551616 := hs.heard; have hcn2 : conn + 1 < 18446744073709551616 := hcn; have HSN := Lib.hid hsn; have HS0 := Lib.hid (show Sep w0 (((w.alloc (.cells #[.pointer (some ⟨g, 0, none⟩)] 26)).alloc (.cells #[.slice none 0 0, .slice none 0 0] 43)).alloc (.cells #[.slice none 0 0, .slice none 0 0] 43)) (TK (w.heap.size + 1 + 1) (w.heap.size + 1) (w.heap.size) (g) Qs (Rw 51 10 (.slice none 0 0) 0 []) (Bods []) (Rw 49 4 (.slice none 0 0) 0 []) (Bods []) (#[.slice none 0 0, .slice none 0 0]) (#[.int .u64 (base : Int), .slice BA box.length bc, .int .u64 (got : Int), .int .i64 sn, .int .u64 (si : Int), .int .i64 peer, .int .u64 (conn : Int), .int .u64 (inc : Int), .int .u64 (known : Int), .bool up, .int .u64 (heard : Int), .int .u64 (sent : Int)]) (BoxT (.slice BA box.length bc) box)) by
  have := sep_ceF (sep_ceF (sep_ceF h #[.pointer (some ⟨g, 0, none⟩)] 26) #[.slice none 0 0, .slice none 0 0] 43) #[.slice none 0 0, .slice none 0 0] 43
  simp only [World.size_alloc] at this; have := sep_bodsNil (sep_rwNil (sep_bodsNil (sep_rwNil this 51 10).lastFront) 49 4).lastFront; exact ((((this).tF 0 rfl).tF 1 rfl).tF 2 rfl).tF 3 rfl)
 clear h hs hsn hbx; refine calls_marks 6 Try.func14 rfl ?_; simp only [Try.ntmps14, List.size_toArray, List.length_cons, List.length_nil, Nat.reduceAdd, Nat.reduceSub, Array.replicate_succ, Array.replicate_zero, List.push_toArray, List.append_toArray, List.nil_append, List.cons_append]
 go_wp2_with fail
 refine (made_yes _ g sn HSN.out (cA (i := 7) HS0.out rfl 3 rfl)).mono ?_; rintro e w1 ⟨rfl, hb1⟩; have HS1 := Lib.hid (HS0.out.grow hb1); clear HS0 hb1
 go_upto_region 4 with fail
 go_cut [24] from 8 to 85 (fun t wx => t = .bool q ∧ Sep w0 wx (TK (w.heap.size + 1 + 1) (w.heap.size + 1) (w.heap.size) (g) Qs (Rw 51 10 (.slice none 0 0) 0 []) (Bods []) (Rw 49 4 (.slice none 0 0) 0 []) (Bods []) (#[.slice none 0 0, .slice none 0 0]) (#[.int .u64 (base : Int), .slice BA box.length bc, .int .u64 (got : Int), .int .i64 sn, .int .u64 (si : Int), .int .i64 peer, .int .u64 (conn : Int), .int .u64 (inc : Int), .int .u64 (known : Int), .bool up, .int .u64 (heard : Int), .int .u64 (sent : Int)]) (BoxT (.slice BA box.length bc) box)))
 case first =>
  have kl := cA (i := 6) HS1.out rfl 0 rfl; have ku := cA (i := 7) HS1.out rfl 9 rfl; have kh := cA (i := 7) HS1.out rfl 10 rfl; cases up with
  | false =>
   go_wp2_with fail
   go_meet
   case rel => exact ⟨by rw [← Hq.out]; rfl, HS1.out⟩
  | true =>
   go_wp2_with fail
   refine (after_any _ now heard hnow).mono ?_; rintro e w2 ⟨rfl, hb2⟩
   go_wp2_with fail
   go_meet
   case rel =>
    refine ⟨?_, HS1.out.grow hb2⟩; rw [← Hq.out]; congr 1; simp only [Bool.true_and]; congr 1; exact propext (by omega)
 case rest =>
  obtain ⟨rfl, hS⟩ := hcut; clear HS1; have HS1 := Lib.hid hS; clear hS
  go_upto_if 24 with fail
  go_cut [] from 8 to 85 (fun wx => ∃ vF vE n xs bx2 LE, Hid (n = 0 ∧ xs = []) ∧ LE.map Prod.fst = sS.tickE now ∧ Sep w0 wx (TK (w.heap.size + 1 + 1) (w.heap.size + 1) (w.heap.size) (g) Qs (Rw 51 10 vF n xs) (Bods []) (Rw 49 4 vE LE.length (eR_ LE)) (Bods (eB_ LE)) (#[vF, vE]) ((sS.tick1 now).cells bx2) (BoxT bx2 (sS.tick1 now).box)))
  case first =>
   cases q with
   | false =>
    go_wp2_with fail
    go_meet
    case rel =>
     obtain ⟨e1, e2⟩ := LS.tick1_no (s := sS) (now := now) (by rw [← HSS.out]; exact Hq.out); refine ⟨.slice none 0 0, .slice none 0 0, 0, [], .slice BA box.length bc, [], Lib.hid ⟨rfl, rfl⟩, by rw [e2]; rfl, ?_⟩; rw [e1, ← HSS.out]; exact HS1.out
   | true =>
    have hup : up = true := by have := Hq.out; simp only [Bool.and_eq_true] at this; exact this.1
    subst hup; have HKL : ∀ (dn : Nat → Bool) (xv : Nat → Value) (W : World), (if dn 3 = true then ∃ vE, Sep w0 W (TK (w.heap.size + 1 + 1) (w.heap.size + 1) (w.heap.size) (g) Qs (Rw 51 10 (.slice none 0 0) 0 []) (Bods []) (Rw 49 4 vE (0 + 1) ([] ++ [.int .i64 2, .int .i64 peer, .int .u64 (inc : Int), .slice none 0 0])) (Bods ([] ++ [(.slice none 0 0, [])])) (#[.slice none 0 0, vE]) (#[.int .u64 0, .slice none 0 0, .int .u64 0, .int .i64 sn, .int .u64 (si : Int), .int .i64 peer, .int .u64 (conn : Int), .int .u64 (inc : Int), .int .u64 (known : Int), .bool false, .int .u64 (heard : Int), .int .u64 (sent : Int)]) (BoxT (.slice none 0 0) [])) else if dn 2 = true then TellAt (xv 2) (w.heap.size + 1 + 1) g w0 W (TK (w.heap.size + 1 + 1) (w.heap.size + 1) (w.heap.size) (g) Qs (Rw 51 10 (.slice none 0 0) 0 []) (Bods []) (Rw 49 4 (.slice none 0 0) 0 []) (Bods []) (#[.slice none 0 0, .slice none 0 0]) (#[.int .u64 (base : Int), .slice BA box.length bc, .int .u64 (got : Int), .int .i64 sn, .int .u64 (si : Int), .int .i64 peer, .int .u64 (conn : Int), .int .u64 (inc : Int), .int .u64 (known : Int), .bool true, .int .u64 (heard : Int), .int .u64 (sent : Int)]) (BoxT (.slice BA box.length bc) box)) else Sep w0 W (TK (w.heap.size + 1 + 1) (w.heap.size + 1) (w.heap.size) (g) Qs (Rw 51 10 (.slice none 0 0) 0 []) (Bods []) (Rw 49 4 (.slice none 0 0) 0 []) (Bods []) (#[.slice none 0 0, .slice none 0 0]) (#[.int .u64 (base : Int), .slice BA box.length bc, .int .u64 (got : Int), .int .i64 sn, .int .u64 (si : Int), .int .i64 peer, .int .u64 (conn : Int), .int .u64 (inc : Int), .int .u64 (known : Int), .bool true, .int .u64 (heard : Int), .int .u64 (sent : Int)]) (BoxT (.slice BA box.length bc) box))) → W.cell? ⟨w.heap.size, 0, none⟩ = some (.pointer (some ⟨g, 0, none⟩)) := fun dn xv W h => by
     split at h
     ·obtain ⟨_, h⟩ := h; exact cA (i := 6) h rfl 0 rfl
     split at h
     ·obtain ⟨_, _, _, h⟩ := h; exact cA (i := 8) h rfl 0 rfl
     exact cA (i := 6) h rfl 0 rfl
    go_wp2_with fail
    refine wRG (fun dn xv W => if dn 3 = true then ∃ vE, Sep w0 W (TK (w.heap.size + 1 + 1) (w.heap.size + 1) (w.heap.size) (g) Qs (Rw 51 10 (.slice none 0 0) 0 []) (Bods []) (Rw 49 4 vE (0 + 1) ([] ++ [.int .i64 2, .int .i64 peer, .int .u64 (inc : Int), .slice none 0 0])) (Bods ([] ++ [(.slice none 0 0, [])])) (#[.slice none 0 0, vE]) (#[.int .u64 0, .slice none 0 0, .int .u64 0, .int .i64 sn, .int .u64 (si : Int), .int .i64 peer, .int .u64 (conn : Int), .int .u64 (inc : Int), .int .u64 (known : Int), .bool false, .int .u64 (heard : Int), .int .u64 (sent : Int)]) (BoxT (.slice none 0 0) [])) else if dn 2 = true then TellAt (xv 2) (w.heap.size + 1 + 1) g w0 W (TK (w.heap.size + 1 + 1) (w.heap.size + 1) (w.heap.size) (g) Qs (Rw 51 10 (.slice none 0 0) 0 []) (Bods []) (Rw 49 4 (.slice none 0 0) 0 []) (Bods []) (#[.slice none 0 0, .slice none 0 0]) (#[.int .u64 (base : Int), .slice BA box.length bc, .int .u64 (got : Int), .int .i64 sn, .int .u64 (si : Int), .int .i64 peer, .int .u64 (conn : Int), .int .u64 (inc : Int), .int .u64 (known : Int), .bool true, .int .u64 (heard : Int), .int .u64 (sent : Int)]) (BoxT (.slice BA box.length bc) box)) else Sep w0 W (TK (w.heap.size + 1 + 1) (w.heap.size + 1) (w.heap.size) (g) Qs (Rw 51 10 (.slice none 0 0) 0 []) (Bods []) (Rw 49 4 (.slice none 0 0) 0 []) (Bods []) (#[.slice none 0 0, .slice none 0 0]) (#[.int .u64 (base : Int), .slice BA box.length bc, .int .u64 (got : Int), .int .i64 sn, .int .u64 (si : Int), .int .i64 peer, .int .u64 (conn : Int), .int .u64 (inc : Int), .int .u64 (known : Int), .bool true, .int .u64 (heard : Int), .int .u64 (sent : Int)]) (BoxT (.slice BA box.length bc) box))) (fun _ _ => True) [xP_ g 0, xP_ g 0, fun v _ => True, fun v _ => True] (fun xv => by simpa using HS1.out.drew) ?_ ?_
    ·refine Epk 1 2 w.heap.size 0 (fun g h W e => HKL g h W e) ?_
     refine Epk 2 2 w.heap.size 0 (fun g h W e => HKL g h W e) ?_
     refine EC 3 rfl (fun i j W F a b c d f H K h => ?_) ?_
     ·have f5 : F.tmps.getD 5 undef = .pointer (some ⟨w.heap.size + 1 + 1, 0, none⟩) := (a 5).trans (by kernel_rfl); have f26 := gE (a 26) (by kernel_rfl) (H 1) (by kernel_rfl); have q3 := c 3 uE; rw [if_neg (by simp [q3]), if_neg (by simp [b])] at f; have hS := f; clear f c b d a H; refine oP rfl ?_; go_simp; refine (sep_teller hS g (w.heap.size + 1 + 1)).mono ?_; rintro e W' ⟨q1, q0, rfl, hs0⟩; have hs : TellAt (.func (.func 56) #[] #[.pointer (some ⟨q1, 0, none⟩), .pointer (some ⟨q0, 0, none⟩)]) (w.heap.size + 1 + 1) g w0 W' (TK (w.heap.size + 1 + 1) (w.heap.size + 1) (w.heap.size) (g) Qs (Rw 51 10 (.slice none 0 0) 0 []) (Bods []) (Rw 49 4 (.slice none 0 0) 0 []) (Bods []) (#[.slice none 0 0, .slice none 0 0]) (#[.int .u64 (base : Int), .slice BA box.length bc, .int .u64 (got : Int), .int .i64 sn, .int .u64 (si : Int), .int .i64 peer, .int .u64 (conn : Int), .int .u64 (inc : Int), .int .u64 (known : Int), .bool true, .int .u64 (heard : Int), .int .u64 (sent : Int)]) (BoxT (.slice BA box.length bc) box)) := ⟨q1, q0, rfl, hs0⟩; exact h.out _ W' trivial trivial (by simpa [upB, upd, q3] using hs)
     refine EC 4 rfl (fun i j W F a b c d f H K h => ?_) ?_
     ·have f25 := gE (a 25) (by kernel_rfl) (H 0) (by kernel_rfl); have f27 : F.tmps.getD 27 undef = j 2 := (a 27).trans (by kernel_rfl); have q2 := (H 2 uE).1; rw [if_neg (by simp [b]), if_pos q2] at f; have hS := f; clear f c b d a H; refine oP rfl ?_; obtain ⟨q1, q0, e2, hS⟩ := hS; rw [e2] at f27; go_simp; refine (downTK hS HSN.out (by omega)).mono ?_; rintro e W' ⟨rfl, vE, hs0⟩; have hs : ∃ vE, Sep w0 W' (TK (w.heap.size + 1 + 1) (w.heap.size + 1) (w.heap.size) (g) Qs (Rw 51 10 (.slice none 0 0) 0 []) (Bods []) (Rw 49 4 vE (0 + 1) ([] ++ [.int .i64 2, .int .i64 peer, .int .u64 (inc : Int), .slice none 0 0])) (Bods ([] ++ [(.slice none 0 0, [])])) (#[.slice none 0 0, vE]) (#[.int .u64 0, .slice none 0 0, .int .u64 0, .int .i64 sn, .int .u64 (si : Int), .int .i64 peer, .int .u64 (conn : Int), .int .u64 (inc : Int), .int .u64 (known : Int), .bool false, .int .u64 (heard : Int), .int .u64 (sent : Int)]) (BoxT (.slice none 0 0) [])) := ⟨vE, hs0⟩; exact h.out _ W' trivial trivial (by simpa [upB, upd] using hs)
     exact EN
    ·intro dn xv W hI H; have qe : dn 3 = true := (H 3 (of_decide_eq_true (by kernel_rfl))).1; rw [if_pos qe] at hI; have hS := hI; clear H hI qe; simp only [putAll, Act.put, List.setIfInBounds_toArray, List.set_cons_zero, List.set_cons_succ, Nat.reduceAdd]; obtain ⟨vE, hS⟩ := hS; have HS5 := Lib.hid hS; clear hS; have ew : IntKind.u64.wrap ((conn : Int) + 1) = (conn : Int) + 1 := u64_wrap (by omega) (by omega); have kl := cA (i := 6) HS5.out rfl 0 rfl; have kc := cA (i := 7) HS5.out rfl 6 rfl; have yc := cFz (i := 7) HS5.out rfl 6; have HS6 := Lib.hid (cS (i := 7) HS5.out rfl 6 (.int .u64 ((conn : Int) + 1))); obtain ⟨W5, HW5⟩ : ∃ x, Hid (W = x) := ⟨_, Lib.hid rfl⟩; rw [HW5.out] at HS6 kl kc yc ⊢
     go_wp2_with fail
     go_meet
     case rel =>
      obtain ⟨e1, e2⟩ := LS.tick1_yes (s := sS) (now := now) (by rw [← HSS.out]; exact Hq.out); refine ⟨.slice none 0 0, vE, 0, [], .slice none 0 0, [(sS.ev 2 [], .slice none 0 0)], Lib.hid ⟨rfl, rfl⟩, by rw [e2]; rfl, ?_⟩; rw [e1, ← HSS.out]; exact HS6.out
  case rest =>
   obtain ⟨vF, vE, n, xs, bx2, LE, Hnx, HLE, hS⟩ := hcut; have HLE := Lib.hid HLE; have hnb : n ≤ 1000000 := by rw [Hnx.out.1]; omega
   have hnt : (sS.tick1 now).Num := HOS.out.tick1 now; clear HS1 HOK HSS Hq hcn hcn2 hheard hcc hcm HSN; clear base box got sn si peer conn inc known up heard sent BA bc; obtain ⟨t, Ht⟩ : ∃ t, Hid (sS.tick1 now = t) := ⟨_, Lib.hid rfl⟩; rw [Ht.out] at hS hnt; obtain ⟨BA, bc, rfl, hcc, hcm, hbx⟩ := sep_boxForm (i := 8) hS rfl hnt.small; have HT : Hid (sS.tick now = (if t.again now then { t with sent := now } else t) ∧ sS.tickF now = t.hello :: (if t.again now then t.due.map t.data else [])) := Lib.hid (by
    unfold LS.tick LS.tickF; rw [Ht.out]; exact ⟨rfl, rfl⟩)
   have HOT := Lib.hid hnt; obtain ⟨tT, HTT⟩ : ∃ x, Hid (t = x) := ⟨_, Lib.hid rfl⟩; rw [HTT.out] at HT; obtain ⟨q2, Hq2⟩ : ∃ q, Hid (t.again now = q) := ⟨_, Lib.hid rfl⟩; obtain ⟨base, box, got, sn, si, peer, conn, inc, known, up, heard, sent⟩ := t; have hsn : sn ≠ 0 := hnt.sn; have hsent : sent < 18446744073709551616 := hnt.sent; have hbb : base + box.length ≤ 34359738367 := hnt.base; have hb48 : box.length ≤ 48 := hnt.box; have HDU : Hid (dueL base box = box.take (min box.length 8)) := Lib.hid hnt.due; have HFIT : Hid (Fit box) := Lib.hid hnt.fit; have HSN := Lib.hid hsn; obtain ⟨mE, HmE⟩ : ∃ x, Hid (LE.length = x) := ⟨_, Lib.hid rfl⟩; obtain ⟨yE, HyE⟩ : ∃ x, Hid (eR_ LE = x) := ⟨_, Lib.hid rfl⟩; obtain ⟨LBE, HLB⟩ : ∃ x, Hid (eB_ LE = x) := ⟨_, Lib.hid rfl⟩; rw [HmE.out, HyE.out, HLB.out] at hS; have HS3 := Lib.hid (show Sep w0 wc (TK (w.heap.size + 1 + 1) (w.heap.size + 1) (w.heap.size) (g) Qs (Rw 51 10 vF n xs) (Bods []) (Rw 49 4 vE mE yE) (Bods LBE) (#[vF, vE]) (#[.int .u64 (base : Int), .slice BA box.length bc, .int .u64 (got : Int), .int .i64 sn, .int .u64 (si : Int), .int .i64 peer, .int .u64 (conn : Int), .int .u64 (inc : Int), .int .u64 (known : Int), .bool up, .int .u64 (heard : Int), .int .u64 (sent : Int)]) (BoxT (.slice BA box.length bc) box)) from hS); clear hS hnt hsn hbx; have HHE := Lib.hid (fun (W : World) hh => hello_any W g base (.slice BA box.length bc) got sn si peer conn inc known up heard sent hh); obtain ⟨hx, HXS⟩ : ∃ l, Hid ((heCells got sn si peer conn inc known).toList = l) := ⟨_, Lib.hid rfl⟩; have HX1 : Hid (∀ u ∈ hx, u.oneCell' = true) := Lib.hid (by
    rw [← HXS.out]; intro u hu; simp only [heCells, List.mem_cons, List.not_mem_nil, or_false] at hu
    rcases hu with rfl | rfl | rfl | rfl | rfl | rfl | rfl | rfl | rfl | rfl <;> rfl)
   have HKO : ∀ (dn : Nat → Bool) (xv : Nat → Value) (W : World), (if dn 7 = true then ∃ vF, Sep w0 W (TK (w.heap.size + 1 + 1) (w.heap.size + 1) (w.heap.size) (g) Qs (Rw 51 10 vF (n + 1) (xs ++ hx)) (Bods []) (Rw 49 4 vE mE yE) (Bods LBE) (#[vF, vE]) (#[.int .u64 (base : Int), .slice BA box.length bc, .int .u64 (got : Int), .int .i64 sn, .int .u64 (si : Int), .int .i64 peer, .int .u64 (conn : Int), .int .u64 (inc : Int), .int .u64 (known : Int), .bool up, .int .u64 (heard : Int), .int .u64 (sent : Int)]) (BoxT (.slice BA box.length bc) box)) else if dn 5 = true then Sep w0 W (TK (w.heap.size + 1 + 1) (w.heap.size + 1) (w.heap.size) (g) Qs (Rw 51 10 (xv 5) (n + 1) (xs ++ hx)) (Bods []) (Rw 49 4 vE mE yE) (Bods LBE) (#[vF, vE]) (#[.int .u64 (base : Int), .slice BA box.length bc, .int .u64 (got : Int), .int .i64 sn, .int .u64 (si : Int), .int .i64 peer, .int .u64 (conn : Int), .int .u64 (inc : Int), .int .u64 (known : Int), .bool up, .int .u64 (heard : Int), .int .u64 (sent : Int)]) (BoxT (.slice BA box.length bc) box)) else if dn 4 = true then Sep w0 W (TK (w.heap.size + 1 + 1) (w.heap.size + 1) (w.heap.size) (g) Qs (Rw 51 10 vF n xs) (Bods []) (Rw 49 4 vE mE yE) (Bods LBE) (#[vF, vE]) (#[.int .u64 (base : Int), .slice BA box.length bc, .int .u64 (got : Int), .int .i64 sn, .int .u64 (si : Int), .int .i64 peer, .int .u64 (conn : Int), .int .u64 (inc : Int), .int .u64 (known : Int), .bool up, .int .u64 (heard : Int), .int .u64 (sent : Int)]) (BoxT (.slice BA box.length bc) box)) ∧ OneF hx (xv 4) W else if dn 3 = true then Sep w0 W (TK (w.heap.size + 1 + 1) (w.heap.size + 1) (w.heap.size) (g) Qs (Rw 51 10 vF n xs) (Bods []) (Rw 49 4 vE mE yE) (Bods LBE) (#[vF, vE]) (#[.int .u64 (base : Int), .slice BA box.length bc, .int .u64 (got : Int), .int .i64 sn, .int .u64 (si : Int), .int .i64 peer, .int .u64 (conn : Int), .int .u64 (inc : Int), .int .u64 (known : Int), .bool up, .int .u64 (heard : Int), .int .u64 (sent : Int)]) (BoxT (.slice BA box.length bc) box)) else Sep w0 W (TK (w.heap.size + 1 + 1) (w.heap.size + 1) (w.heap.size) (g) Qs (Rw 51 10 vF n xs) (Bods []) (Rw 49 4 vE mE yE) (Bods LBE) (#[vF, vE]) (#[.int .u64 (base : Int), .slice BA box.length bc, .int .u64 (got : Int), .int .i64 sn, .int .u64 (si : Int), .int .i64 peer, .int .u64 (conn : Int), .int .u64 (inc : Int), .int .u64 (known : Int), .bool up, .int .u64 (heard : Int), .int .u64 (sent : Int)]) (BoxT (.slice BA box.length bc) box))) → dn 7 = false → W.cell? ⟨w.heap.size + 1 + 1, 0, none⟩ = some vF := fun dn xv W h h0 => by
    rw [if_neg (by simp [h0])] at h; split at h
    ·exact cA (i := 4) h rfl 0 rfl
    split at h
    ·have h := h.1; exact cA (i := 4) h rfl 0 rfl
    split at h
    ·exact cA (i := 4) h rfl 0 rfl
    exact cA (i := 4) h rfl 0 rfl
   have HKL : ∀ (dn : Nat → Bool) (xv : Nat → Value) (W : World), (if dn 7 = true then ∃ vF, Sep w0 W (TK (w.heap.size + 1 + 1) (w.heap.size + 1) (w.heap.size) (g) Qs (Rw 51 10 vF (n + 1) (xs ++ hx)) (Bods []) (Rw 49 4 vE mE yE) (Bods LBE) (#[vF, vE]) (#[.int .u64 (base : Int), .slice BA box.length bc, .int .u64 (got : Int), .int .i64 sn, .int .u64 (si : Int), .int .i64 peer, .int .u64 (conn : Int), .int .u64 (inc : Int), .int .u64 (known : Int), .bool up, .int .u64 (heard : Int), .int .u64 (sent : Int)]) (BoxT (.slice BA box.length bc) box)) else if dn 5 = true then Sep w0 W (TK (w.heap.size + 1 + 1) (w.heap.size + 1) (w.heap.size) (g) Qs (Rw 51 10 (xv 5) (n + 1) (xs ++ hx)) (Bods []) (Rw 49 4 vE mE yE) (Bods LBE) (#[vF, vE]) (#[.int .u64 (base : Int), .slice BA box.length bc, .int .u64 (got : Int), .int .i64 sn, .int .u64 (si : Int), .int .i64 peer, .int .u64 (conn : Int), .int .u64 (inc : Int), .int .u64 (known : Int), .bool up, .int .u64 (heard : Int), .int .u64 (sent : Int)]) (BoxT (.slice BA box.length bc) box)) else if dn 4 = true then Sep w0 W (TK (w.heap.size + 1 + 1) (w.heap.size + 1) (w.heap.size) (g) Qs (Rw 51 10 vF n xs) (Bods []) (Rw 49 4 vE mE yE) (Bods LBE) (#[vF, vE]) (#[.int .u64 (base : Int), .slice BA box.length bc, .int .u64 (got : Int), .int .i64 sn, .int .u64 (si : Int), .int .i64 peer, .int .u64 (conn : Int), .int .u64 (inc : Int), .int .u64 (known : Int), .bool up, .int .u64 (heard : Int), .int .u64 (sent : Int)]) (BoxT (.slice BA box.length bc) box)) ∧ OneF hx (xv 4) W else if dn 3 = true then Sep w0 W (TK (w.heap.size + 1 + 1) (w.heap.size + 1) (w.heap.size) (g) Qs (Rw 51 10 vF n xs) (Bods []) (Rw 49 4 vE mE yE) (Bods LBE) (#[vF, vE]) (#[.int .u64 (base : Int), .slice BA box.length bc, .int .u64 (got : Int), .int .i64 sn, .int .u64 (si : Int), .int .i64 peer, .int .u64 (conn : Int), .int .u64 (inc : Int), .int .u64 (known : Int), .bool up, .int .u64 (heard : Int), .int .u64 (sent : Int)]) (BoxT (.slice BA box.length bc) box)) else Sep w0 W (TK (w.heap.size + 1 + 1) (w.heap.size + 1) (w.heap.size) (g) Qs (Rw 51 10 vF n xs) (Bods []) (Rw 49 4 vE mE yE) (Bods LBE) (#[vF, vE]) (#[.int .u64 (base : Int), .slice BA box.length bc, .int .u64 (got : Int), .int .i64 sn, .int .u64 (si : Int), .int .i64 peer, .int .u64 (conn : Int), .int .u64 (inc : Int), .int .u64 (known : Int), .bool up, .int .u64 (heard : Int), .int .u64 (sent : Int)]) (BoxT (.slice BA box.length bc) box))) → W.cell? ⟨w.heap.size, 0, none⟩ = some (.pointer (some ⟨g, 0, none⟩)) := fun dn xv W h => by
    split at h
    ·obtain ⟨_, h⟩ := h; exact cA (i := 6) h rfl 0 rfl
    split at h
    ·exact cA (i := 6) h rfl 0 rfl
    split at h
    ·have h := h.1; exact cA (i := 6) h rfl 0 rfl
    split at h
    ·exact cA (i := 6) h rfl 0 rfl
    exact cA (i := 6) h rfl 0 rfl
   go_wp2_with fail
   refine wRG (fun dn xv W => if dn 7 = true then ∃ vF, Sep w0 W (TK (w.heap.size + 1 + 1) (w.heap.size + 1) (w.heap.size) (g) Qs (Rw 51 10 vF (n + 1) (xs ++ hx)) (Bods []) (Rw 49 4 vE mE yE) (Bods LBE) (#[vF, vE]) (#[.int .u64 (base : Int), .slice BA box.length bc, .int .u64 (got : Int), .int .i64 sn, .int .u64 (si : Int), .int .i64 peer, .int .u64 (conn : Int), .int .u64 (inc : Int), .int .u64 (known : Int), .bool up, .int .u64 (heard : Int), .int .u64 (sent : Int)]) (BoxT (.slice BA box.length bc) box)) else if dn 5 = true then Sep w0 W (TK (w.heap.size + 1 + 1) (w.heap.size + 1) (w.heap.size) (g) Qs (Rw 51 10 (xv 5) (n + 1) (xs ++ hx)) (Bods []) (Rw 49 4 vE mE yE) (Bods LBE) (#[vF, vE]) (#[.int .u64 (base : Int), .slice BA box.length bc, .int .u64 (got : Int), .int .i64 sn, .int .u64 (si : Int), .int .i64 peer, .int .u64 (conn : Int), .int .u64 (inc : Int), .int .u64 (known : Int), .bool up, .int .u64 (heard : Int), .int .u64 (sent : Int)]) (BoxT (.slice BA box.length bc) box)) else if dn 4 = true then Sep w0 W (TK (w.heap.size + 1 + 1) (w.heap.size + 1) (w.heap.size) (g) Qs (Rw 51 10 vF n xs) (Bods []) (Rw 49 4 vE mE yE) (Bods LBE) (#[vF, vE]) (#[.int .u64 (base : Int), .slice BA box.length bc, .int .u64 (got : Int), .int .i64 sn, .int .u64 (si : Int), .int .i64 peer, .int .u64 (conn : Int), .int .u64 (inc : Int), .int .u64 (known : Int), .bool up, .int .u64 (heard : Int), .int .u64 (sent : Int)]) (BoxT (.slice BA box.length bc) box)) ∧ OneF hx (xv 4) W else if dn 3 = true then Sep w0 W (TK (w.heap.size + 1 + 1) (w.heap.size + 1) (w.heap.size) (g) Qs (Rw 51 10 vF n xs) (Bods []) (Rw 49 4 vE mE yE) (Bods LBE) (#[vF, vE]) (#[.int .u64 (base : Int), .slice BA box.length bc, .int .u64 (got : Int), .int .i64 sn, .int .u64 (si : Int), .int .i64 peer, .int .u64 (conn : Int), .int .u64 (inc : Int), .int .u64 (known : Int), .bool up, .int .u64 (heard : Int), .int .u64 (sent : Int)]) (BoxT (.slice BA box.length bc) box)) else Sep w0 W (TK (w.heap.size + 1 + 1) (w.heap.size + 1) (w.heap.size) (g) Qs (Rw 51 10 vF n xs) (Bods []) (Rw 49 4 vE mE yE) (Bods LBE) (#[vF, vE]) (#[.int .u64 (base : Int), .slice BA box.length bc, .int .u64 (got : Int), .int .i64 sn, .int .u64 (si : Int), .int .i64 peer, .int .u64 (conn : Int), .int .u64 (inc : Int), .int .u64 (known : Int), .bool up, .int .u64 (heard : Int), .int .u64 (sent : Int)]) (BoxT (.slice BA box.length bc) box))) (fun _ _ => True) [xP_ (w.heap.size + 1 + 1) 0, xV_ vF, xP_ g 0, xV_ (.agg #[.int .i64 1, .int .i64 sn, .int .i64 peer, .int .u64 (si : Int), .int .u64 (conn : Int), .int .u64 (inc : Int), .int .u64 (known : Int), .int .u64 (got : Int), .int .u64 0, .slice none 0 0]), fun v _ => True, fun v _ => True, xP_ (w.heap.size + 1 + 1) 0, fun v _ => True] (fun xv => by simpa using HS3.out.drew) ?_ ?_
   ·refine Ep 1 5 (w.heap.size + 1 + 1) 0 ?_
    refine EC 2 rfl (fun g h W F a b c d e H K f => ?_) ?_
    ·have f36 := gE (a 36) (by kernel_rfl) (H 0) (by kernel_rfl); have kk := HKO g h W e (c 7 (uM 5 uE)); clear H c b d a; refine oP rfl ?_; go_simp; exact f.out _ _ rfl trivial e
    refine Epk 3 2 w.heap.size 0 (fun g h W e => HKL g h W e) ?_
    refine EC 4 rfl (fun k l W F a b c d f H K h => ?_) ?_
    ·have f38 := gE (a 38) (by kernel_rfl) (H 2) (by kernel_rfl); have q4 := c 4 uE; have q5 := c 5 (uM 4 uE); have q7 := c 7 (uM 5 (uM 4 uE)); rw [if_neg (by simp [q7]), if_neg (by simp [q5]), if_neg (by simp [q4]), if_neg (by simp [b])] at f; have hS := f; clear f c b d a H; refine oP rfl ?_; go_simp; refine (HHE.out W (cH (i := 7) hS rfl)).mono ?_; rintro e W' ⟨rfl, hb⟩; have hs : Sep w0 W' (TK (w.heap.size + 1 + 1) (w.heap.size + 1) (w.heap.size) (g) Qs (Rw 51 10 vF n xs) (Bods []) (Rw 49 4 vE mE yE) (Bods LBE) (#[vF, vE]) (#[.int .u64 (base : Int), .slice BA box.length bc, .int .u64 (got : Int), .int .i64 sn, .int .u64 (si : Int), .int .i64 peer, .int .u64 (conn : Int), .int .u64 (inc : Int), .int .u64 (known : Int), .bool up, .int .u64 (heard : Int), .int .u64 (sent : Int)]) (BoxT (.slice BA box.length bc) box)) := hS.grow hb; exact h.out _ W' rfl trivial (by simpa [upB, upd, q4, q5, q7] using hs)
    refine EC 5 rfl (fun h i W F a b c d e H K f => ?_) ?_
    ·have f39 := gE (a 39) (by kernel_rfl) (H 3) (by kernel_rfl); have q3 := (H 3 uE).1; have q5 := c 5 uE; have q7 := c 7 (uM 5 uE); rw [if_neg (by simp [q7]), if_neg (by simp [q5]), if_neg (by simp [b]), if_pos q3] at e; have hS := e; clear e c b d a H; refine oP rfl ?_; have g39 := f39; rw [Array.getD_eq_getD_getElem?] at g39; go_simp; have hb : Below W.heap.size W (W.alloc (.cells #[.int .i64 1, .int .i64 sn, .int .i64 peer, .int .u64 (si : Int), .int .u64 (conn : Int), .int .u64 (inc : Int), .int .u64 (known : Int), .int .u64 (got : Int), .int .u64 0, .slice none 0 0] 51)) := (Below.refl _ _).alloc (Nat.le_refl _) _; have hs : Sep w0 (W.alloc (.cells #[.int .i64 1, .int .i64 sn, .int .i64 peer, .int .u64 (si : Int), .int .u64 (conn : Int), .int .u64 (inc : Int), .int .u64 (known : Int), .int .u64 (got : Int), .int .u64 0, .slice none 0 0] 51)) (TK (w.heap.size + 1 + 1) (w.heap.size + 1) (w.heap.size) (g) Qs (Rw 51 10 vF n xs) (Bods []) (Rw 49 4 vE mE yE) (Bods LBE) (#[vF, vE]) (#[.int .u64 (base : Int), .slice BA box.length bc, .int .u64 (got : Int), .int .i64 sn, .int .u64 (si : Int), .int .i64 peer, .int .u64 (conn : Int), .int .u64 (inc : Int), .int .u64 (known : Int), .bool up, .int .u64 (heard : Int), .int .u64 (sent : Int)]) (BoxT (.slice BA box.length bc) box)) ∧ OneF hx (.slice (some ⟨W.heap.size, 0, none⟩) 1 1) (W.alloc (.cells #[.int .i64 1, .int .i64 sn, .int .i64 peer, .int .u64 (si : Int), .int .u64 (conn : Int), .int .u64 (inc : Int), .int .u64 (known : Int), .int .u64 (got : Int), .int .u64 0, .slice none 0 0] 51)) := ⟨hS.grow hb, HXS.out ▸ OneF.new W _⟩; exact f.out _ _ trivial trivial (by simpa [upB, upd, q5, q7] using hs)
    refine EC 6 rfl (fun h j W F a b c d e H K f => ?_) ?_
    ·have f37 := gE (a 37) (by kernel_rfl) (H 1) (by kernel_rfl); have f40 : F.tmps.getD 40 undef = j 4 := (a 40).trans (by kernel_rfl); have q4 := (H 4 uE).1; have q7 := c 7 uE; rw [if_neg (by simp [q7]), if_neg (by simp [b]), if_pos q4] at e; have hS := e; clear e c b d a H; refine oP rfl ?_; obtain ⟨s1, A3, c3, e3, hl3, hh3⟩ := hS; have fex := f40.trans e3; refine sep_opAppW rowFrames (i := 0) (s := .tmp 37) (x := .tmp 40) (m := 1) (news := hx) (by rfl) f37 fex s1 rfl (by rw [hl3]) hh3 HX1.out (by unfold maxLen; omega) (by omega) ?_; intro v W' hs0; have hs : Sep w0 W' (TK (w.heap.size + 1 + 1) (w.heap.size + 1) (w.heap.size) (g) Qs (Rw 51 10 v (n + 1) (xs ++ hx)) (Bods []) (Rw 49 4 vE mE yE) (Bods LBE) (#[vF, vE]) (#[.int .u64 (base : Int), .slice BA box.length bc, .int .u64 (got : Int), .int .i64 sn, .int .u64 (si : Int), .int .i64 peer, .int .u64 (conn : Int), .int .u64 (inc : Int), .int .u64 (known : Int), .bool up, .int .u64 (heard : Int), .int .u64 (sent : Int)]) (BoxT (.slice BA box.length bc) box)) := hs0; exact f.out v W' trivial trivial (by simpa [upB, upd, q7] using hs)
    refine Ep 7 5 (w.heap.size + 1 + 1) 0 ?_
    refine EC 8 rfl (fun h j W F a b c d e H K f => ?_) ?_
    ·have f41 : F.tmps.getD 41 undef = j 5 := (a 41).trans (by kernel_rfl); have f42 := gE (a 42) (by kernel_rfl) (H 6) (by kernel_rfl); have q5 := (H 5 uE).1; rw [if_neg (by simp [b]), if_pos q5] at e; have hS := e; clear e c b d a H; refine oP rfl ?_; obtain ⟨A2, c2, e2, _⟩ := sep_rwForm (i := 0) hS rfl; have hc3 := cA (i := 4) hS rfl 0 rfl; have hf3 := cFz (i := 4) hS rfl 0; rw [e2] at hS; have hs0 := cS (i := 4) hS rfl 0 (.slice A2 (n + 1) c2); have hs : ∃ vF, Sep w0 (W.setCell ⟨w.heap.size + 1 + 1, 0, none⟩ (.slice A2 (n + 1) c2)) (TK (w.heap.size + 1 + 1) (w.heap.size + 1) (w.heap.size) (g) Qs (Rw 51 10 vF (n + 1) (xs ++ hx)) (Bods []) (Rw 49 4 vE mE yE) (Bods LBE) (#[vF, vE]) (#[.int .u64 (base : Int), .slice BA box.length bc, .int .u64 (got : Int), .int .i64 sn, .int .u64 (si : Int), .int .i64 peer, .int .u64 (conn : Int), .int .u64 (inc : Int), .int .u64 (known : Int), .bool up, .int .u64 (heard : Int), .int .u64 (sent : Int)]) (BoxT (.slice BA box.length bc) box)) := ⟨_, hs0⟩; clear hs0; go_simp; exact f.out undef _ trivial trivial (by simpa [upB, upd] using hs)
    exact EN
   ·intro dn xv W hI H; have qe : dn 7 = true := (H 7 (of_decide_eq_true (by kernel_rfl))).1; rw [if_pos qe] at hI; have hS := hI; clear H hI qe; simp only [putAll, Act.put, List.setIfInBounds_toArray, List.set_cons_zero, List.set_cons_succ, Nat.reduceAdd]; obtain ⟨vF, hS⟩ := hS; have HS8 : Hid (Sep w0 W (TK (w.heap.size + 1 + 1) (w.heap.size + 1) (w.heap.size) (g) Qs (Rw 51 10 vF 1 (fR_ [(tT.hello, .slice none 0 0)])) (Bods (fB_ [(tT.hello, .slice none 0 0)])) (Rw 49 4 vE mE yE) (Bods LBE) (#[vF, vE]) (#[.int .u64 (base : Int), .slice BA box.length bc, .int .u64 (got : Int), .int .i64 sn, .int .u64 (si : Int), .int .i64 peer, .int .u64 (conn : Int), .int .u64 (inc : Int), .int .u64 (known : Int), .bool up, .int .u64 (heard : Int), .int .u64 (sent : Int)]) (BoxT (.slice BA box.length bc) box))) := Lib.hid (by
     have h1 := sep_bodsNone (i := 1) hS rfl; rw [← HXS.out, Hnx.out.1, Hnx.out.2] at h1; rw [← HTT.out]; exact h1)
    clear hS HS3 HKO HKL; obtain ⟨W8, HW8⟩ : ∃ x, Hid (W = x) := ⟨_, Lib.hid rfl⟩; rw [HW8.out] at HS8 ⊢
    go_upto_region 8 with fail
    go_cut [64] from 8 to 85 (fun t wx => t = .bool q2 ∧ Sep w0 wx (TK (w.heap.size + 1 + 1) (w.heap.size + 1) (w.heap.size) (g) Qs (Rw 51 10 vF 1 (fR_ [(tT.hello, .slice none 0 0)])) (Bods (fB_ [(tT.hello, .slice none 0 0)])) (Rw 49 4 vE mE yE) (Bods LBE) (#[vF, vE]) (#[.int .u64 (base : Int), .slice BA box.length bc, .int .u64 (got : Int), .int .i64 sn, .int .u64 (si : Int), .int .i64 peer, .int .u64 (conn : Int), .int .u64 (inc : Int), .int .u64 (known : Int), .bool up, .int .u64 (heard : Int), .int .u64 (sent : Int)]) (BoxT (.slice BA box.length bc) box)))
    case first =>
     have kl := cA (i := 6) HS8.out rfl 0 rfl; have ku := cA (i := 7) HS8.out rfl 9 rfl; have kb := cA (i := 7) HS8.out rfl 1 rfl; have kh := cA (i := 7) HS8.out rfl 11 rfl; have Hq3 := Hq2; cases up with
     | false =>
      go_wp2_with fail
      go_meet
      case rel => exact ⟨by rw [← Hq2.out]; rfl, HS8.out⟩
     | true =>
      by_cases hn : 0 < box.length
      ·have e0 : decide ((0 : Int) < (box.length : Int)) = true := decide_eq_true (by omega)
       go_wp2_with fail
       refine (after_any _ now sent hnow).mono ?_; rintro e w2 ⟨rfl, hb2⟩
       go_wp2_with fail
       go_meet
       case rel =>
        refine ⟨?_, HS8.out.grow hb2⟩; rw [← Hq2.out]; simp only [LS.again, Bool.true_and, decide_eq_true hn]; congr 2; exact propext (by omega)
      ·have e0 : decide ((0 : Int) < (box.length : Int)) = false := decide_eq_false (by omega)
       go_wp2_with fail
       go_meet
       case rel => exact ⟨by rw [← Hq2.out]; simp [LS.again, hn], HS8.out⟩
    case rest =>
     obtain ⟨rfl, hS⟩ := hcut; clear HS8; obtain ⟨A2, c2, rfl, _⟩ := sep_rwForm (i := 0) hS rfl; obtain ⟨AE, cE, rfl, _⟩ := sep_rwForm (i := 2) hS rfl; have HS8 := Lib.hid hS; clear hS; cases q2 with
     | false =>
      have k0 := cA (i := 4) HS8.out rfl 0 rfl; have k1 := cA (i := 4) HS8.out rfl 1 rfl; have y0 := cFz (i := 5) HS8.out rfl 0; have y1 := cFz (i := 5) HS8.out rfl 1; have z0 := cA (i := 5) HS8.out rfl 0 rfl; have z1 := cA (i := 5) HS8.out rfl 1 rfl; have HS9 := Lib.hid (cS (i := 5) (cS (i := 5) HS8.out rfl 0 (.slice A2 1 c2)) rfl 1 (.slice AE mE cE))
      go_wp2_with fail
      have k0 := cA (i := 5) HS9.out rfl 0 rfl; have k1 := cA (i := 5) HS9.out rfl 1 rfl; refine ⟨.agg #[.slice A2 1 c2, .slice AE mE cE], by simp [results, Try.results14, go_sem, k0, k1], ?_⟩; refine ⟨_, _, .slice BA box.length bc, [(tT.hello, .slice none 0 0)], LE, rfl, ?_, HLE.out, ?_⟩
      ·rw [HT.out.2, show tT.again now = false by rw [← HTT.out]; exact Hq2.out]; rfl
      ·rw [HT.out.1, show tT.again now = false by rw [← HTT.out]; exact Hq2.out]; have hx := ((HS9.out.drop 4).drop 4).drop 4; rw [HmE.out, HyE.out, HLB.out]; have e3 : (if false = true then ({ tT with sent := now } : LS) else tT) = tT := rfl; rw [e3]; have hT := HTT.out; subst hT; exact hx
     | true =>
      have kl := cA (i := 6) HS8.out rfl 0 rfl; have kb := cA (i := 7) HS8.out rfl 0 rfl; have kx := cA (i := 7) HS8.out rfl 1 rfl; obtain ⟨A9, c9, e9, _, _, hbx⟩ := sep_boxForm (i := 8) HS8.out rfl (fun l hl => by have := HFIT.out.2 l hl; omega); simp only [Value.slice.injEq, true_and] at e9; obtain ⟨rfl, rfl⟩ := e9; have HBX := Lib.hid hbx; clear hbx
      go_wp2_with fail
      refine (due_any wc base BA bc box HBX.out (by omega) HFIT.out hcc hcm).mono ?_; rintro e X ⟨hbX, hzX, rfl, d1, v9, d2, ho9⟩; rw [HDU.out] at ho9; obtain ⟨LT, HLT⟩ : ∃ LT, Hid (box.take (min box.length 8) = LT) := ⟨_, Lib.hid rfl⟩; rw [HLT.out] at ho9; have hlT : LT.length ≤ 8 := by rw [← HLT.out, List.length_take]; omega
      have hlT2 : LT.length ≤ box.length := by rw [← HLT.out, List.length_take]; omega
      have HFT : Hid (Fit LT) := Lib.hid (by rw [← HLT.out]; exact HFIT.out.take _); have HFX := Lib.hid (sep_fx HS8.out hbX); obtain ⟨lo, Hlo⟩ : ∃ x, Hid (wc.heap.size = x) := ⟨_, Lib.hid rfl⟩; obtain ⟨hi, Hhi⟩ : ∃ x, Hid (X.heap.size = x) := ⟨_, Lib.hid rfl⟩; rw [Hlo.out] at HFX d1 d2 ho9 hzX ⊢; clear kl kb kx HBX HS8
      go_wp2_with fail
      refine (wpIn_wide (n := 6)).1 ?_; have hseq := due1_s 5 (by omega) X lo base LT v9 (by omega) d1 d2 ho9 HFT.out (.inr (by omega)); rw [Hhi.out] at hseq HFX; refine range_s (α := It) (τ := Value × List (Fr × Value) × List (Value × List UInt8)) rfl (by omega) (gf := 60) rfl trivial (enters_of Try.func60 (by kernel_rfl) rfl)
       hseq MidB.trans (fun W l o' h => MidB.putObj W o' (by rw [← Hhi.out]; exact h)) (Below.refl _ _) (fun _ => rfl) (w0 := w0)
       (fun t => (Fx lo hi X :: TK (w.heap.size + 1 + 1) (w.heap.size + 1) (w.heap.size) g Qs (Rw 51 10 t.1 t.2.1.length (fR_ t.2.1)) (Bods t.2.2) (Rw 49 4 (.slice AE mE cE) mE yE) (Bods LBE) #[t.1, .slice AE mE cE] #[.int .u64 (base : Int), .slice BA box.length bc, .int .u64 (got : Int), .int .i64 sn, .int .u64 (si : Int), .int .i64 peer, .int .u64 (conn : Int), .int .u64 (inc : Int), .int .u64 (known : Int), .bool up, .int .u64 (heard : Int), .int .u64 (sent : Int)] (BoxT (.slice BA box.length bc) box)))
       (fun pre t => t.2.2 = fB_ t.2.1 ∧ t.2.1.map Prod.fst = tT.hello :: pre.map (fun y => tT.data (prI y)))
       (fun pre x t => t.2.2 = fB_ t.2.1 ++ [(x.2.2, x.2.1)] ∧ t.2.1.map Prod.fst = tT.hello :: pre.map (fun y => tT.data (prI y)) ∧ pre.length < 8)
       ⟨(.slice A2 1 c2, [(tT.hello, .slice none 0 0)], fB_ [(tT.hello, .slice none 0 0)]), ⟨rfl, rfl⟩, HFX.out⟩ ?hnew ?hround ?hdone
      case hnew =>
       rintro pre ⟨mq, lb, v⟩ ⟨vF, LP, LB⟩ B Wp W1 ⟨e1, e2⟩ hS hb hv ho hN; refine ⟨(vF, LP, LB ++ [(v, lb)]), ⟨by rw [← e1], e2, by omega⟩, ?_⟩; exact sep_bodsAdd (i := 3) hS rfl hb ho
      case hround =>
       rintro l pre ⟨mq, lb, v⟩ W0; rw [show encI (mq, lb, v) = #[.int .u64 (mq : Int), v] from rfl]
       gi_wp2
       refine ⟨trivial, ?_⟩; rintro Wr ⟨vF, LP, LB⟩ B ⟨e1, e2, e3⟩ hS; simp only at e1 e2 e3; subst e1; obtain ⟨Av, cv, rfl, _, _, _⟩ := sep_bodsAt (i := 3) hS rfl (u := v) (l := lb) (by simp); have hnb : LP.length ≤ 1000000 := by
        have := congrArg List.length e2
        simp at this; omega
       obtain ⟨n, Hn⟩ : ∃ x, Hid (LP.length = x) := ⟨_, Lib.hid rfl⟩; obtain ⟨xs, Hxs⟩ : ∃ x, Hid (fR_ LP = x) := ⟨_, Lib.hid rfl⟩; obtain ⟨LB, HLBB⟩ : ∃ x, Hid (fB_ LP ++ [(.slice Av lb.length cv, lb)] = x) := ⟨_, Lib.hid rfl⟩; have HSR := Lib.hid (show Sep w0 Wr (B :: Fx lo hi X :: (TK (w.heap.size + 1 + 1) (w.heap.size + 1) (w.heap.size) (g) Qs (Rw 51 10 vF n xs) (Bods LB) (Rw 49 4 (.slice AE mE cE) mE yE) (Bods LBE) (#[vF, (.slice AE mE cE)]) (#[.int .u64 (base : Int), .slice BA box.length bc, .int .u64 (got : Int), .int .i64 sn, .int .u64 (si : Int), .int .i64 peer, .int .u64 (conn : Int), .int .u64 (inc : Int), .int .u64 (known : Int), .bool up, .int .u64 (heard : Int), .int .u64 (sent : Int)]) (BoxT (.slice BA box.length bc) box))) by rw [← HLBB.out, ← Hn.out, ← Hxs.out]; exact hS); have HE2 := Lib.hid e2; rw [Hn.out] at hnb; clear hS e2 e3; have HDA := Lib.hid (fun (W : World) hh => dataG W g base (.slice BA box.length bc) got sn si peer conn inc known up heard sent (mq : Int) Av lb.length cv hh); obtain ⟨hx, HDX⟩ : ∃ l, Hid ((daCells got sn si peer conn inc known (mq : Int) Av lb.length cv).toList = l) := ⟨_, Lib.hid rfl⟩; have HX1 : Hid (∀ u ∈ hx, u.oneCell' = true) := Lib.hid (by
        rw [← HDX.out]; intro u hu; simp only [daCells, List.mem_cons, List.not_mem_nil, or_false] at hu
        rcases hu with rfl | rfl | rfl | rfl | rfl | rfl | rfl | rfl | rfl | rfl <;> rfl)
       have HKO : ∀ (dn : Nat → Bool) (xv : Nat → Value) (W : World), (if dn 9 = true then ∃ vF, Sep w0 W (B :: Fx lo hi X :: (TK (w.heap.size + 1 + 1) (w.heap.size + 1) (w.heap.size) (g) Qs (Rw 51 10 vF (n + 1) (xs ++ hx)) (Bods LB) (Rw 49 4 (.slice AE mE cE) mE yE) (Bods LBE) (#[vF, (.slice AE mE cE)]) (#[.int .u64 (base : Int), .slice BA box.length bc, .int .u64 (got : Int), .int .i64 sn, .int .u64 (si : Int), .int .i64 peer, .int .u64 (conn : Int), .int .u64 (inc : Int), .int .u64 (known : Int), .bool up, .int .u64 (heard : Int), .int .u64 (sent : Int)]) (BoxT (.slice BA box.length bc) box))) else if dn 7 = true then Sep w0 W (B :: Fx lo hi X :: (TK (w.heap.size + 1 + 1) (w.heap.size + 1) (w.heap.size) (g) Qs (Rw 51 10 (xv 7) (n + 1) (xs ++ hx)) (Bods LB) (Rw 49 4 (.slice AE mE cE) mE yE) (Bods LBE) (#[vF, (.slice AE mE cE)]) (#[.int .u64 (base : Int), .slice BA box.length bc, .int .u64 (got : Int), .int .i64 sn, .int .u64 (si : Int), .int .i64 peer, .int .u64 (conn : Int), .int .u64 (inc : Int), .int .u64 (known : Int), .bool up, .int .u64 (heard : Int), .int .u64 (sent : Int)]) (BoxT (.slice BA box.length bc) box))) else if dn 6 = true then Sep w0 W (B :: Fx lo hi X :: (TK (w.heap.size + 1 + 1) (w.heap.size + 1) (w.heap.size) (g) Qs (Rw 51 10 vF n xs) (Bods LB) (Rw 49 4 (.slice AE mE cE) mE yE) (Bods LBE) (#[vF, (.slice AE mE cE)]) (#[.int .u64 (base : Int), .slice BA box.length bc, .int .u64 (got : Int), .int .i64 sn, .int .u64 (si : Int), .int .i64 peer, .int .u64 (conn : Int), .int .u64 (inc : Int), .int .u64 (known : Int), .bool up, .int .u64 (heard : Int), .int .u64 (sent : Int)]) (BoxT (.slice BA box.length bc) box))) ∧ OneF hx (xv 6) W else if dn 5 = true then Sep w0 W (B :: Fx lo hi X :: (TK (w.heap.size + 1 + 1) (w.heap.size + 1) (w.heap.size) (g) Qs (Rw 51 10 vF n xs) (Bods LB) (Rw 49 4 (.slice AE mE cE) mE yE) (Bods LBE) (#[vF, (.slice AE mE cE)]) (#[.int .u64 (base : Int), .slice BA box.length bc, .int .u64 (got : Int), .int .i64 sn, .int .u64 (si : Int), .int .i64 peer, .int .u64 (conn : Int), .int .u64 (inc : Int), .int .u64 (known : Int), .bool up, .int .u64 (heard : Int), .int .u64 (sent : Int)]) (BoxT (.slice BA box.length bc) box))) else Sep w0 W (B :: Fx lo hi X :: (TK (w.heap.size + 1 + 1) (w.heap.size + 1) (w.heap.size) (g) Qs (Rw 51 10 vF n xs) (Bods LB) (Rw 49 4 (.slice AE mE cE) mE yE) (Bods LBE) (#[vF, (.slice AE mE cE)]) (#[.int .u64 (base : Int), .slice BA box.length bc, .int .u64 (got : Int), .int .i64 sn, .int .u64 (si : Int), .int .i64 peer, .int .u64 (conn : Int), .int .u64 (inc : Int), .int .u64 (known : Int), .bool up, .int .u64 (heard : Int), .int .u64 (sent : Int)]) (BoxT (.slice BA box.length bc) box)))) → dn 9 = false → W.cell? ⟨w.heap.size + 1 + 1, 0, none⟩ = some vF := fun dn xv W h h0 => by
        rw [if_neg (by simp [h0])] at h; split at h
        ·exact cA (i := 6) h rfl 0 rfl
        split at h
        ·have h := h.1; exact cA (i := 6) h rfl 0 rfl
        split at h
        ·exact cA (i := 6) h rfl 0 rfl
        exact cA (i := 6) h rfl 0 rfl
       have HKL : ∀ (dn : Nat → Bool) (xv : Nat → Value) (W : World), (if dn 9 = true then ∃ vF, Sep w0 W (B :: Fx lo hi X :: (TK (w.heap.size + 1 + 1) (w.heap.size + 1) (w.heap.size) (g) Qs (Rw 51 10 vF (n + 1) (xs ++ hx)) (Bods LB) (Rw 49 4 (.slice AE mE cE) mE yE) (Bods LBE) (#[vF, (.slice AE mE cE)]) (#[.int .u64 (base : Int), .slice BA box.length bc, .int .u64 (got : Int), .int .i64 sn, .int .u64 (si : Int), .int .i64 peer, .int .u64 (conn : Int), .int .u64 (inc : Int), .int .u64 (known : Int), .bool up, .int .u64 (heard : Int), .int .u64 (sent : Int)]) (BoxT (.slice BA box.length bc) box))) else if dn 7 = true then Sep w0 W (B :: Fx lo hi X :: (TK (w.heap.size + 1 + 1) (w.heap.size + 1) (w.heap.size) (g) Qs (Rw 51 10 (xv 7) (n + 1) (xs ++ hx)) (Bods LB) (Rw 49 4 (.slice AE mE cE) mE yE) (Bods LBE) (#[vF, (.slice AE mE cE)]) (#[.int .u64 (base : Int), .slice BA box.length bc, .int .u64 (got : Int), .int .i64 sn, .int .u64 (si : Int), .int .i64 peer, .int .u64 (conn : Int), .int .u64 (inc : Int), .int .u64 (known : Int), .bool up, .int .u64 (heard : Int), .int .u64 (sent : Int)]) (BoxT (.slice BA box.length bc) box))) else if dn 6 = true then Sep w0 W (B :: Fx lo hi X :: (TK (w.heap.size + 1 + 1) (w.heap.size + 1) (w.heap.size) (g) Qs (Rw 51 10 vF n xs) (Bods LB) (Rw 49 4 (.slice AE mE cE) mE yE) (Bods LBE) (#[vF, (.slice AE mE cE)]) (#[.int .u64 (base : Int), .slice BA box.length bc, .int .u64 (got : Int), .int .i64 sn, .int .u64 (si : Int), .int .i64 peer, .int .u64 (conn : Int), .int .u64 (inc : Int), .int .u64 (known : Int), .bool up, .int .u64 (heard : Int), .int .u64 (sent : Int)]) (BoxT (.slice BA box.length bc) box))) ∧ OneF hx (xv 6) W else if dn 5 = true then Sep w0 W (B :: Fx lo hi X :: (TK (w.heap.size + 1 + 1) (w.heap.size + 1) (w.heap.size) (g) Qs (Rw 51 10 vF n xs) (Bods LB) (Rw 49 4 (.slice AE mE cE) mE yE) (Bods LBE) (#[vF, (.slice AE mE cE)]) (#[.int .u64 (base : Int), .slice BA box.length bc, .int .u64 (got : Int), .int .i64 sn, .int .u64 (si : Int), .int .i64 peer, .int .u64 (conn : Int), .int .u64 (inc : Int), .int .u64 (known : Int), .bool up, .int .u64 (heard : Int), .int .u64 (sent : Int)]) (BoxT (.slice BA box.length bc) box))) else Sep w0 W (B :: Fx lo hi X :: (TK (w.heap.size + 1 + 1) (w.heap.size + 1) (w.heap.size) (g) Qs (Rw 51 10 vF n xs) (Bods LB) (Rw 49 4 (.slice AE mE cE) mE yE) (Bods LBE) (#[vF, (.slice AE mE cE)]) (#[.int .u64 (base : Int), .slice BA box.length bc, .int .u64 (got : Int), .int .i64 sn, .int .u64 (si : Int), .int .i64 peer, .int .u64 (conn : Int), .int .u64 (inc : Int), .int .u64 (known : Int), .bool up, .int .u64 (heard : Int), .int .u64 (sent : Int)]) (BoxT (.slice BA box.length bc) box)))) → W.cell? ⟨w.heap.size, 0, none⟩ = some (.pointer (some ⟨g, 0, none⟩)) := fun dn xv W h => by
        split at h
        ·obtain ⟨_, h⟩ := h; exact cA (i := 8) h rfl 0 rfl
        split at h
        ·exact cA (i := 8) h rfl 0 rfl
        split at h
        ·have h := h.1; exact cA (i := 8) h rfl 0 rfl
        split at h
        ·exact cA (i := 8) h rfl 0 rfl
        exact cA (i := 8) h rfl 0 rfl
       gi_wp2
       refine wpIn_region_f (by kernel_rfl) (fun dn xv W => if dn 9 = true then ∃ vF, Sep w0 W (B :: Fx lo hi X :: (TK (w.heap.size + 1 + 1) (w.heap.size + 1) (w.heap.size) (g) Qs (Rw 51 10 vF (n + 1) (xs ++ hx)) (Bods LB) (Rw 49 4 (.slice AE mE cE) mE yE) (Bods LBE) (#[vF, (.slice AE mE cE)]) (#[.int .u64 (base : Int), .slice BA box.length bc, .int .u64 (got : Int), .int .i64 sn, .int .u64 (si : Int), .int .i64 peer, .int .u64 (conn : Int), .int .u64 (inc : Int), .int .u64 (known : Int), .bool up, .int .u64 (heard : Int), .int .u64 (sent : Int)]) (BoxT (.slice BA box.length bc) box))) else if dn 7 = true then Sep w0 W (B :: Fx lo hi X :: (TK (w.heap.size + 1 + 1) (w.heap.size + 1) (w.heap.size) (g) Qs (Rw 51 10 (xv 7) (n + 1) (xs ++ hx)) (Bods LB) (Rw 49 4 (.slice AE mE cE) mE yE) (Bods LBE) (#[vF, (.slice AE mE cE)]) (#[.int .u64 (base : Int), .slice BA box.length bc, .int .u64 (got : Int), .int .i64 sn, .int .u64 (si : Int), .int .i64 peer, .int .u64 (conn : Int), .int .u64 (inc : Int), .int .u64 (known : Int), .bool up, .int .u64 (heard : Int), .int .u64 (sent : Int)]) (BoxT (.slice BA box.length bc) box))) else if dn 6 = true then Sep w0 W (B :: Fx lo hi X :: (TK (w.heap.size + 1 + 1) (w.heap.size + 1) (w.heap.size) (g) Qs (Rw 51 10 vF n xs) (Bods LB) (Rw 49 4 (.slice AE mE cE) mE yE) (Bods LBE) (#[vF, (.slice AE mE cE)]) (#[.int .u64 (base : Int), .slice BA box.length bc, .int .u64 (got : Int), .int .i64 sn, .int .u64 (si : Int), .int .i64 peer, .int .u64 (conn : Int), .int .u64 (inc : Int), .int .u64 (known : Int), .bool up, .int .u64 (heard : Int), .int .u64 (sent : Int)]) (BoxT (.slice BA box.length bc) box))) ∧ OneF hx (xv 6) W else if dn 5 = true then Sep w0 W (B :: Fx lo hi X :: (TK (w.heap.size + 1 + 1) (w.heap.size + 1) (w.heap.size) (g) Qs (Rw 51 10 vF n xs) (Bods LB) (Rw 49 4 (.slice AE mE cE) mE yE) (Bods LBE) (#[vF, (.slice AE mE cE)]) (#[.int .u64 (base : Int), .slice BA box.length bc, .int .u64 (got : Int), .int .i64 sn, .int .u64 (si : Int), .int .i64 peer, .int .u64 (conn : Int), .int .u64 (inc : Int), .int .u64 (known : Int), .bool up, .int .u64 (heard : Int), .int .u64 (sent : Int)]) (BoxT (.slice BA box.length bc) box))) else Sep w0 W (B :: Fx lo hi X :: (TK (w.heap.size + 1 + 1) (w.heap.size + 1) (w.heap.size) (g) Qs (Rw 51 10 vF n xs) (Bods LB) (Rw 49 4 (.slice AE mE cE) mE yE) (Bods LBE) (#[vF, (.slice AE mE cE)]) (#[.int .u64 (base : Int), .slice BA box.length bc, .int .u64 (got : Int), .int .i64 sn, .int .u64 (si : Int), .int .i64 peer, .int .u64 (conn : Int), .int .u64 (inc : Int), .int .u64 (known : Int), .bool up, .int .u64 (heard : Int), .int .u64 (sent : Int)]) (BoxT (.slice BA box.length bc) box)))) (fun _ _ => True) [xP_ (w.heap.size + 1 + 1) 0, xV_ vF, xP_ g 0, xV_ (.int .u64 (mq : Int)), xV_ (.slice Av lb.length cv), xV_ (.agg #[.int .i64 2, .int .i64 sn, .int .i64 peer, .int .u64 (si : Int), .int .u64 (conn : Int), .int .u64 (inc : Int), .int .u64 (known : Int), .int .u64 (got : Int), .int .u64 (mq : Int), .slice Av lb.length cv]), fun v _ => True, fun v _ => True, xP_ (w.heap.size + 1 + 1) 0, fun v _ => True] (by kernel_rfl) (by kernel_rfl) (by kernel_rfl) (by kernel_rfl) (fun xv => by simpa using HSR.out.drew)
        (by repeat (first | exact trivial | refine ⟨fun _ _ _ _ h => h, ?_⟩)) ?_ ?_
       ·refine Ep 1 5 (w.heap.size + 1 + 1) 0 ?_
        refine EC 2 rfl (fun g h W F a b c d e H K f => ?_) ?_
        ·have f72 := gE (a 72) (by kernel_rfl) (H 0) (by kernel_rfl); have kk := HKO g h W e (c 9 (uM 7 uE)); clear H c b d a; refine oP rfl ?_; go_simp; exact f.out _ _ rfl trivial e
        refine Epk 3 2 w.heap.size 0 (fun g h W e => HKL g h W e) ?_
        refine Ei 4 6 (.int .u64 (mq : Int)) ?_
        refine Ei 5 7 (.slice Av lb.length cv) ?_
        refine EC 6 rfl (fun k l W F a b c d f H K h => ?_) ?_
        ·have f74 := gE (a 74) (by kernel_rfl) (H 2) (by kernel_rfl); have f75 := gE (a 75) (by kernel_rfl) (H 3) (by kernel_rfl); have f76 := gE (a 76) (by kernel_rfl) (H 4) (by kernel_rfl); have q6 := c 6 uE; have q7 := c 7 (uM 6 uE); have q9 := c 9 (uM 7 (uM 6 uE)); rw [if_neg (by simp [q9]), if_neg (by simp [q7]), if_neg (by simp [q6]), if_neg (by simp [b])] at f; have hS := f; clear f c b d a H; refine oP rfl ?_; go_simp; refine (HDA.out W (cH (i := 9) hS rfl)).mono ?_; rintro e W' ⟨rfl, hb⟩; have hs : Sep w0 W' (B :: Fx lo hi X :: (TK (w.heap.size + 1 + 1) (w.heap.size + 1) (w.heap.size) (g) Qs (Rw 51 10 vF n xs) (Bods LB) (Rw 49 4 (.slice AE mE cE) mE yE) (Bods LBE) (#[vF, (.slice AE mE cE)]) (#[.int .u64 (base : Int), .slice BA box.length bc, .int .u64 (got : Int), .int .i64 sn, .int .u64 (si : Int), .int .i64 peer, .int .u64 (conn : Int), .int .u64 (inc : Int), .int .u64 (known : Int), .bool up, .int .u64 (heard : Int), .int .u64 (sent : Int)]) (BoxT (.slice BA box.length bc) box))) := hS.grow hb; exact h.out _ W' rfl trivial (by simpa [upB, upd, q6, q7, q9] using hs)
        refine EC 7 rfl (fun h i W F a b c d e H K f => ?_) ?_
        ·have f77 := gE (a 77) (by kernel_rfl) (H 5) (by kernel_rfl); have q5 := (H 5 uE).1; have q7 := c 7 uE; have q9 := c 9 (uM 7 uE); rw [if_neg (by simp [q9]), if_neg (by simp [q7]), if_neg (by simp [b]), if_pos q5] at e; have hS := e; clear e c b d a H; refine oP rfl ?_; have g77 := f77; rw [Array.getD_eq_getD_getElem?] at g77; go_simp; have hb : Below W.heap.size W (W.alloc (.cells #[.int .i64 2, .int .i64 sn, .int .i64 peer, .int .u64 (si : Int), .int .u64 (conn : Int), .int .u64 (inc : Int), .int .u64 (known : Int), .int .u64 (got : Int), .int .u64 (mq : Int), .slice Av lb.length cv] 51)) := (Below.refl _ _).alloc (Nat.le_refl _) _; have hs : Sep w0 (W.alloc (.cells #[.int .i64 2, .int .i64 sn, .int .i64 peer, .int .u64 (si : Int), .int .u64 (conn : Int), .int .u64 (inc : Int), .int .u64 (known : Int), .int .u64 (got : Int), .int .u64 (mq : Int), .slice Av lb.length cv] 51)) (B :: Fx lo hi X :: (TK (w.heap.size + 1 + 1) (w.heap.size + 1) (w.heap.size) (g) Qs (Rw 51 10 vF n xs) (Bods LB) (Rw 49 4 (.slice AE mE cE) mE yE) (Bods LBE) (#[vF, (.slice AE mE cE)]) (#[.int .u64 (base : Int), .slice BA box.length bc, .int .u64 (got : Int), .int .i64 sn, .int .u64 (si : Int), .int .i64 peer, .int .u64 (conn : Int), .int .u64 (inc : Int), .int .u64 (known : Int), .bool up, .int .u64 (heard : Int), .int .u64 (sent : Int)]) (BoxT (.slice BA box.length bc) box))) ∧ OneF hx (.slice (some ⟨W.heap.size, 0, none⟩) 1 1) (W.alloc (.cells #[.int .i64 2, .int .i64 sn, .int .i64 peer, .int .u64 (si : Int), .int .u64 (conn : Int), .int .u64 (inc : Int), .int .u64 (known : Int), .int .u64 (got : Int), .int .u64 (mq : Int), .slice Av lb.length cv] 51)) := ⟨hS.grow hb, HDX.out ▸ OneF.new W _⟩; exact f.out _ _ trivial trivial (by simpa [upB, upd, q7, q9] using hs)
        refine EC 8 rfl (fun h j W F a b c d e H K f => ?_) ?_
        ·have f73 := gE (a 73) (by kernel_rfl) (H 1) (by kernel_rfl); have f78 : F.tmps.getD 78 undef = j 6 := (a 78).trans (by kernel_rfl); have q6 := (H 6 uE).1; have q9 := c 9 uE; rw [if_neg (by simp [q9]), if_neg (by simp [b]), if_pos q6] at e; have hS := e; clear e c b d a H; refine oP rfl ?_; obtain ⟨s1, A3, c3, e3, hl3, hh3⟩ := hS; have fex := f78.trans e3; refine sep_opAppW rowFrames (i := 2) (s := .tmp 73) (x := .tmp 78) (m := 1) (news := hx) (by rfl) f73 fex s1 rfl (by rw [hl3]) hh3 HX1.out (by unfold maxLen; omega) (by omega) ?_; intro v W' hs0; have hs : Sep w0 W' (B :: Fx lo hi X :: (TK (w.heap.size + 1 + 1) (w.heap.size + 1) (w.heap.size) (g) Qs (Rw 51 10 v (n + 1) (xs ++ hx)) (Bods LB) (Rw 49 4 (.slice AE mE cE) mE yE) (Bods LBE) (#[vF, (.slice AE mE cE)]) (#[.int .u64 (base : Int), .slice BA box.length bc, .int .u64 (got : Int), .int .i64 sn, .int .u64 (si : Int), .int .i64 peer, .int .u64 (conn : Int), .int .u64 (inc : Int), .int .u64 (known : Int), .bool up, .int .u64 (heard : Int), .int .u64 (sent : Int)]) (BoxT (.slice BA box.length bc) box))) := hs0; exact f.out v W' trivial trivial (by simpa [upB, upd, q9] using hs)
        refine Ep 9 5 (w.heap.size + 1 + 1) 0 ?_
        refine EC 10 rfl (fun h j W F a b c d e H K f => ?_) ?_
        ·have f79 : F.tmps.getD 79 undef = j 7 := (a 79).trans (by kernel_rfl); have f80 := gE (a 80) (by kernel_rfl) (H 8) (by kernel_rfl); have q7 := (H 7 uE).1; rw [if_neg (by simp [b]), if_pos q7] at e; have hS := e; clear e c b d a H; refine oP rfl ?_; obtain ⟨A2, c2, e2, _⟩ := sep_rwForm (i := 2) hS rfl; have hc3 := cA (i := 6) hS rfl 0 rfl; have hf3 := cFz (i := 6) hS rfl 0; rw [e2] at hS; have hs0 := cS (i := 6) hS rfl 0 (.slice A2 (n + 1) c2); have hs : ∃ vF, Sep w0 (W.setCell ⟨w.heap.size + 1 + 1, 0, none⟩ (.slice A2 (n + 1) c2)) (B :: Fx lo hi X :: (TK (w.heap.size + 1 + 1) (w.heap.size + 1) (w.heap.size) (g) Qs (Rw 51 10 vF (n + 1) (xs ++ hx)) (Bods LB) (Rw 49 4 (.slice AE mE cE) mE yE) (Bods LBE) (#[vF, (.slice AE mE cE)]) (#[.int .u64 (base : Int), .slice BA box.length bc, .int .u64 (got : Int), .int .i64 sn, .int .u64 (si : Int), .int .i64 peer, .int .u64 (conn : Int), .int .u64 (inc : Int), .int .u64 (known : Int), .bool up, .int .u64 (heard : Int), .int .u64 (sent : Int)]) (BoxT (.slice BA box.length bc) box))) := ⟨_, hs0⟩; clear hs0; go_simp; exact f.out undef _ trivial trivial (by simpa [upB, upd] using hs)
        exact EN
       ·intro dn xv W hI H; have qe : dn 9 = true := (H 9 (of_decide_eq_true (by kernel_rfl))).1; rw [if_pos qe] at hI; have hS := hI; clear H hI qe; simp only [putAll, Act.put, List.setIfInBounds_toArray, List.set_cons_zero, List.set_cons_succ, Nat.reduceAdd]; obtain ⟨vF2, hS⟩ := hS
        gi_wp2
        refine ⟨mid_fx (i := 1) (j := 1) HSR.out rfl hS rfl, ⟨(vF2, LP ++ [(tT.data (mq, lb), .slice Av lb.length cv)], LB), ⟨?_, ?_⟩, ?_⟩⟩
        ·simp only; rw [← HLBB.out, frBods_snoc]; rfl
        ·simp only [List.map_append, HE2.out]; rfl
        ·have e5 : (LP ++ [(tT.data (mq, lb), Value.slice Av lb.length cv)]).length = n + 1 := by rw [List.length_append, Hn.out]; rfl
         have e6 : fR_ (LP ++ [(tT.data (mq, lb), .slice Av lb.length cv)]) = xs ++ hx := by
          rw [frRow_snoc, Hxs.out, ← HDX.out, ← HTT.out]; rfl
         simp only [e5, e6]; exact hS
      case hdone =>
       rintro D r xs ⟨vF, LP, LB⟩ W hD hat ⟨e1, e2⟩ hS; simp only at e1 e2 hS; subst e1; obtain ⟨A3, c3, rfl, _⟩ := sep_rwForm (i := 2) hS rfl; have HAT := Lib.hid hat; have HE2 := Lib.hid e2; have HSD := Lib.hid hS; obtain ⟨n, Hn⟩ : ∃ x, Hid (LP.length = x) := ⟨_, Lib.hid rfl⟩; clear hat e2 hS hseq HFX; rw [Hn.out] at HSD; have kl := cA (i := 8) HSD.out rfl 0 rfl; have ks := cA (i := 9) HSD.out rfl 11 rfl; have ys := cFz (i := 9) HSD.out rfl 11; have HS1 := Lib.hid (cS (i := 9) HSD.out rfl 11 (.int .u64 (now : Int))); have k0 := cA (i := 6) HS1.out rfl 0 rfl; have k1 := cA (i := 6) HS1.out rfl 1 rfl; have y0 := cFz (i := 7) HS1.out rfl 0; have y1 := cFz (i := 7) HS1.out rfl 1; have z0 := cA (i := 7) HS1.out rfl 0 rfl; have z1 := cA (i := 7) HS1.out rfl 1 rfl; have HSF := Lib.hid (cS (i := 7) (cS (i := 7) HS1.out rfl 0 (.slice A3 n c3)) rfl 1 (.slice AE mE cE))
       go_wp2_with fail
       have HSG := Lib.hid (sep_bkGone HSF.out); have k0 := cA (i := 6) HSG.out rfl 0 rfl; have k1 := cA (i := 6) HSG.out rfl 1 rfl; refine ⟨by simp, .inl ⟨_, _, rfl, run_takeDeferred (sep_bkAt' (i := 0) HSF.out rfl), ?_⟩⟩; refine ⟨.agg #[.slice A3 n c3, .slice AE mE cE], by simp [results, Try.results14, go_sem, k0, k1], ?_⟩; have eq2 : tT.again now = true := by rw [← HTT.out]; exact Hq2.out
       have edu : tT.due = items base LT := by
        rw [← HTT.out]; show items base (dueL base box) = _; rw [HDU.out, HLT.out]
       refine ⟨_, _, .slice BA box.length bc, LP, LE, rfl, ?_, HLE.out, ?_⟩
       ·rw [HT.out.2, eq2, HE2.out, map_items HAT.out tT.data, edu]; rfl
       ·rw [HT.out.1, eq2, HmE.out, HyE.out, HLB.out, Hn.out]; have hx := (((HSG.out.popF).drop 4).drop 4).drop 4; have hT := HTT.out; subst hT; exact hx
end Go.Proofs.Ytngegjboenfmeaa
/- What Take uses: telling and going down in its layout; a cell that a drawn region makes. -/
namespace Go.Proofs.Ytngegjboenfmeaa
open Go Go.RowKit Go.Shelf
set_option linter.unusedVariables false
set_option maxRecDepth 100000
set_option linter.unusedSimpArgs false

/-- the layouts in Take: the frame and the tick behind; then the closure's cells; then the last number's; then the receiver's -/
def TKa (w : World) (now g : Nat) (X : SP) (Qs : List SP) (fc : Array Value) (rf bf re be : SP) (oc lc : Array Value) (bt : SP) : List SP := TK (w.heap.size + 1 + 1 + 1 + 1) (w.heap.size + 1 + 1 + 1) w.heap.size g (Ce (w.heap.size + 1 + 1) 51 fc :: Ce (w.heap.size + 1) 28 #[.int .u64 (now : Int)] :: X :: Qs) rf bf re be oc lc bt
def TKq (w : World) (now g q1 q0 : Nat) (X : SP) (Qs : List SP) (fc : Array Value) (rf bf re be : SP) (oc lc : Array Value) (bt : SP) : List SP := TK (w.heap.size + 1 + 1 + 1 + 1) (w.heap.size + 1 + 1 + 1) w.heap.size g (Ce q1 92 #[.pointer (some ⟨w.heap.size + 1 + 1 + 1 + 1, 0, none⟩)] :: Ce q0 26 #[.pointer (some ⟨g, 0, none⟩)] :: Ce (w.heap.size + 1 + 1) 51 fc :: Ce (w.heap.size + 1) 28 #[.int .u64 (now : Int)] :: X :: Qs) rf bf re be oc lc bt
def TKl (w : World) (now g q1 q0 la la0 : Nat) (X : SP) (Qs : List SP) (fc : Array Value) (rf bf re be : SP) (oc lc : Array Value) (bt : SP) : List SP := TK (w.heap.size + 1 + 1 + 1 + 1) (w.heap.size + 1 + 1 + 1) w.heap.size g (Ce q1 92 #[.pointer (some ⟨w.heap.size + 1 + 1 + 1 + 1, 0, none⟩)] :: Ce q0 26 #[.pointer (some ⟨g, 0, none⟩)] :: Ce la 28 #[.int .u64 (la0 : Int)] :: Ce (w.heap.size + 1 + 1) 51 fc :: Ce (w.heap.size + 1) 28 #[.int .u64 (now : Int)] :: X :: Qs) rf bf re be oc lc bt
def TKr (w : World) (now g q1 q0 la la0 ra tv : Nat) (X : SP) (Qs : List SP) (fc : Array Value) (rf bf re be : SP) (oc lc : Array Value) (bt : SP) : List SP := TK (w.heap.size + 1 + 1 + 1 + 1) (w.heap.size + 1 + 1 + 1) w.heap.size g (Ce q1 92 #[.pointer (some ⟨w.heap.size + 1 + 1 + 1 + 1, 0, none⟩)] :: Ce q0 26 #[.pointer (some ⟨g, 0, none⟩)] :: Ce la 28 #[.int .u64 (la0 : Int)] :: Ce ra 70 #[.int .u64 (tv : Int)] :: Ce (w.heap.size + 1 + 1) 51 fc :: Ce (w.heap.size + 1) 28 #[.int .u64 (now : Int)] :: X :: Qs) rf bf re be oc lc bt
def TKaF (w : World) (now g : Nat) (X : SP) (Qs : List SP) (kk ffr fto : Int) (finc fconn pinc pconn ack seq : Nat) (A : Option Addr) (n c : Nat) (rf bf re be : SP) (oc lc : Array Value) (bt : SP) : List SP := TKa w now g X Qs #[.int .i64 kk, .int .i64 ffr, .int .i64 fto, .int .u64 (finc : Int), .int .u64 (fconn : Int), .int .u64 (pinc : Int), .int .u64 (pconn : Int), .int .u64 (ack : Int), .int .u64 (seq : Int), .slice A n c] rf bf re be oc lc bt
def TKqF (w : World) (now g q1 q0 : Nat) (X : SP) (Qs : List SP) (kk ffr fto : Int) (finc fconn pinc pconn ack seq : Nat) (A : Option Addr) (n c : Nat) (rf bf re be : SP) (oc lc : Array Value) (bt : SP) : List SP := TKq w now g q1 q0 X Qs #[.int .i64 kk, .int .i64 ffr, .int .i64 fto, .int .u64 (finc : Int), .int .u64 (fconn : Int), .int .u64 (pinc : Int), .int .u64 (pconn : Int), .int .u64 (ack : Int), .int .u64 (seq : Int), .slice A n c] rf bf re be oc lc bt
def TKlF (w : World) (now g q1 q0 la la0 : Nat) (X : SP) (Qs : List SP) (kk ffr fto : Int) (finc fconn pinc pconn ack seq : Nat) (A : Option Addr) (n c : Nat) (rf bf re be : SP) (oc lc : Array Value) (bt : SP) : List SP := TKl w now g q1 q0 la la0 X Qs #[.int .i64 kk, .int .i64 ffr, .int .i64 fto, .int .u64 (finc : Int), .int .u64 (fconn : Int), .int .u64 (pinc : Int), .int .u64 (pconn : Int), .int .u64 (ack : Int), .int .u64 (seq : Int), .slice A n c] rf bf re be oc lc bt
def TKrF (w : World) (now g q1 q0 la la0 ra tv : Nat) (X : SP) (Qs : List SP) (kk ffr fto : Int) (finc fconn pinc pconn ack seq : Nat) (A : Option Addr) (n c : Nat) (rf bf re be : SP) (oc lc : Array Value) (bt : SP) : List SP := TKr w now g q1 q0 la la0 ra tv X Qs #[.int .i64 kk, .int .i64 ffr, .int .i64 fto, .int .u64 (finc : Int), .int .u64 (fconn : Int), .int .u64 (pinc : Int), .int .u64 (pconn : Int), .int .u64 (ack : Int), .int .u64 (seq : Int), .slice A n c] rf bf re be oc lc bt
/-- a call's answer, and how the link stands then -/
def Ans (w0 : World) (g : Nat) (Qs : List SP) (F : List Fr) (E : List Ev) (s : LS) (e : Ending) (w' : World) : Prop :=
 ∃ vF vE bx' LP LE, e = .returned (.agg #[vF, vE]) ∧ LP.map Prod.fst = F ∧ LE.map Prod.fst = E ∧
  Sep w0 w' (Rw 51 10 vF LP.length (fR_ LP) :: Bods (fB_ LP) :: Rw 49 4 vE LE.length (eR_ LE) :: Bods (eB_ LE) :: Ce g 72 (s.cells bx') :: BoxT bx' s.box :: Qs)
/-- an event is told behind others; its body is there already -/
theorem tellTK {w0 w : World} {Qs : List SP} {o r l g q1 q0 base m : Nat} {rf bf be bt : SP} {bx vF vE : Value} {ys : List Value} {got : Nat} {sn : Int} {si : Nat} {peer : Int} {conn inc known heard sent : Nat} {up : Bool} (kind : Int) (BA : Option Addr) (bn bc : Nat)
  (h : Sep w0 w (TK o r l g (Ce q1 92 #[.pointer (some ⟨o, 0, none⟩)] :: Ce q0 26 #[.pointer (some ⟨g, 0, none⟩)] :: Qs) rf bf (Rw 49 4 vE m ys) be #[vF, vE] (lkCells base bx got sn si peer conn inc known up heard sent) bt)) (hsn : sn ≠ 0) (hm : m ≤ 1000000) :
  Calls Try.prog 56 #[.int .i64 kind, .slice BA bn bc, .pointer (some ⟨q1, 0, none⟩), .pointer (some ⟨q0, 0, none⟩)] w fun e w' => e = .returned (.tuple #[]) ∧ ∃ vE,
   Sep w0 w' (TK o r l g (Ce q1 92 #[.pointer (some ⟨o, 0, none⟩)] :: Ce q0 26 #[.pointer (some ⟨g, 0, none⟩)] :: Qs) rf bf (Rw 49 4 vE (m + 1) (ys ++ [.int .i64 kind, .int .i64 peer, .int .u64 (inc : Int), .slice BA bn bc])) be #[vF, vE] (lkCells base bx got sn si peer conn inc known up heard sent) bt) := by
 have h1 : Sep w0 w (Rw 49 4 vE m ys :: Ce o 43 #[vF, vE] :: Ce q1 92 #[.pointer (some ⟨o, 0, none⟩)] :: Ce q0 26 #[.pointer (some ⟨g, 0, none⟩)] :: Ce g 72 (lkCells base bx got sn si peer conn inc known up heard sent) :: rf :: bf :: be :: Ce r 43 #[.slice none 0 0, .slice none 0 0] :: Ce l 26 #[.pointer (some ⟨g, 0, none⟩)] :: bt :: Qs) := (((((((((((h).tF 8 rfl).tF 7 rfl).tF 7 rfl).tF 6 rfl).tF 5 rfl).tF 5 rfl).tF 8 rfl).tF 10 rfl).tF 10 rfl).tF 10 rfl).tF 10 rfl; refine (tellG kind BA bn bc h1 hsn hm).mono ?_; rintro e w' ⟨rfl, vE, h2⟩; exact ⟨rfl, vE, (((((((((((h2).tF 3 rfl).tF 3 rfl).tF 10 rfl).tF 5 rfl).tF 10 rfl).tF 10 rfl).tF 7 rfl).tF 10 rfl).tF 8 rfl).tF 10 rfl).tF 10 rfl⟩
/-- going down, up or not -/
theorem downAny {w0 w : World} {Qs : List SP} {o r l g q1 q0 : Nat} {rf bf : SP} {bx vF vE : Value} {s : LS}
  (h : Sep w0 w (TK o r l g (Ce q1 92 #[.pointer (some ⟨o, 0, none⟩)] :: Ce q0 26 #[.pointer (some ⟨g, 0, none⟩)] :: Qs) rf bf (Rw 49 4 vE 0 []) (Bods []) #[vF, vE] (s.cells bx) (BoxT bx s.box))) (hsn : s.sn ≠ 0) :
  Calls Try.prog 35 #[.pointer (some ⟨g, 0, none⟩), .func (.func 56) #[] #[.pointer (some ⟨q1, 0, none⟩), .pointer (some ⟨q0, 0, none⟩)]] w fun e w' => e = .returned (.tuple #[]) ∧ ∃ vE LE, LE.map Prod.fst = (if s.up then [s.ev 2 []] else []) ∧
   Sep w0 w' (TK o r l g (Ce q1 92 #[.pointer (some ⟨o, 0, none⟩)] :: Ce q0 26 #[.pointer (some ⟨g, 0, none⟩)] :: Qs) rf bf (Rw 49 4 vE LE.length (eR_ LE)) (Bods (eB_ LE)) #[vF, vE] (s.down.cells (.slice none 0 0)) (BoxT (.slice none 0 0) [])) := by
 obtain ⟨base, box, got, sn, si, peer, conn, inc, known, up, heard, sent⟩ := s; cases up with
 | false =>
  refine (sep_down0 (i := 7) h rfl).mono ?_; rintro e w' ⟨rfl, h2⟩; exact ⟨rfl, vE, [], rfl, sep_boxGone (i := 8) h2 rfl⟩
 | true =>
  have h1 : Sep w0 w (Ce q1 92 #[.pointer (some ⟨o, 0, none⟩)] :: Ce q0 26 #[.pointer (some ⟨g, 0, none⟩)] :: TK o r l g Qs rf bf (Rw 49 4 vE 0 []) (Bods []) #[vF, vE] (lkCells base bx got sn si peer conn inc known true heard sent) (BoxT bx box)) := (((((((((((h).tF 8 rfl).tF 8 rfl).tF 8 rfl).tF 8 rfl).tF 8 rfl).tF 8 rfl).tF 8 rfl).tF 8 rfl).tF 8 rfl).tF 10 rfl).tF 10 rfl; refine (downKeep h1 hsn (by omega)).mono ?_; rintro e w' ⟨rfl, vE, h2⟩; exact ⟨rfl, vE, [(⟨2, peer, inc, []⟩, .slice none 0 0)], rfl, (((((((((((h2).tF 1 rfl).tF 1 rfl).tF 10 rfl).tF 10 rfl).tF 10 rfl).tF 10 rfl).tF 10 rfl).tF 10 rfl).tF 10 rfl).tF 10 rfl).tF 10 rfl⟩
/-- a cell that a drawn region makes, then writes -/
def CellSt (t : TypeId) (d1 d2 : Bool) (v : Value) (w0 W : World) (Ps : List SP) (x : Value) : Prop :=
 if d2 = true then ∃ a, v = .pointer (some ⟨a, 0, none⟩) ∧ Sep w0 W (Ce a t #[x] :: Ps) else if d1 = true then ∃ a, v = .pointer (some ⟨a, 0, none⟩) ∧ Sep w0 W (Ce a t #[.int .u64 0] :: Ps) else Sep w0 W Ps
theorem CellSt.sep {t : TypeId} {d1 d2 : Bool} {v : Value} {w0 W : World} {Ps : List SP} {x : Value} (h : CellSt t d1 d2 v w0 W Ps x) : Sep w0 W Ps := by
 unfold CellSt at h; split at h
 ·obtain ⟨_, _, h⟩ := h; exact h.popF
 ·split at h
  ·obtain ⟨_, _, h⟩ := h; exact h.popF
  ·exact h
theorem CellSt.grow {t : TypeId} {d1 d2 : Bool} {v : Value} {w0 W W' : World} {Ps : List SP} {x : Value} (h : CellSt t d1 d2 v w0 W Ps x) (hb : Below W.heap.size W W') : CellSt t d1 d2 v w0 W' Ps x := by
 unfold CellSt at *; split at h
 ·obtain ⟨a, e, h⟩ := h; rw [if_pos ‹_›]; exact ⟨a, e, h.grow hb⟩
 ·rw [if_neg ‹_›]; split at h
  ·obtain ⟨a, e, h⟩ := h; rw [if_pos ‹_›]; exact ⟨a, e, h.grow hb⟩
  ·rw [if_neg ‹_›]; exact h.grow hb
theorem CellSt.made {t : TypeId} {v : Value} {w0 W : World} {Ps : List SP} {x : Value} (h : CellSt t false false v w0 W Ps x) : CellSt t true false (.pointer (some ⟨W.heap.size, 0, none⟩)) w0 (W.alloc (.cells #[.int .u64 0] t)) Ps x := by
 have h1 : Sep w0 W Ps := by simpa [CellSt] using h
 exact ⟨_, rfl, sep_ceF h1 _ _⟩
theorem CellSt.have1 {t : TypeId} {v : Value} {w0 W : World} {Ps : List SP} {x : Value} (h : CellSt t true false v w0 W Ps x) : ∃ a, v = .pointer (some ⟨a, 0, none⟩) ∧ Sep w0 W (Ce a t #[.int .u64 0] :: Ps) := by simpa [CellSt] using h
theorem CellSt.have2 {t : TypeId} {d1 : Bool} {v : Value} {w0 W : World} {Ps : List SP} {x : Value} (h : CellSt t d1 true v w0 W Ps x) : ∃ a, v = .pointer (some ⟨a, 0, none⟩) ∧ Sep w0 W (Ce a t #[x] :: Ps) := by simpa [CellSt] using h
theorem CellSt.put {t : TypeId} {a : Nat} {d1 : Bool} {w0 W : World} {Ps : List SP} {x : Value} (h : Sep w0 W (Ce a t #[.int .u64 0] :: Ps)) : CellSt t d1 true (.pointer (some ⟨a, 0, none⟩)) w0 (W.setCell ⟨a, 0, none⟩ x) Ps x := by
 have h1 : Sep w0 (W.setCell ⟨a, 0, none⟩ x) (Ce a t #[x] :: Ps) := cS (i := 0) h rfl 0 x; unfold CellSt; rw [if_pos rfl]; exact ⟨a, rfl, h1⟩
/-- Acked's answer, ahead of the store -/
def AckSt (v : Value) (w0 W : World) (b : Nat) (ok : Bool) (L : List (List UInt8)) (Ps : List SP) : Prop :=
 ∃ u, v = .tuple #[.agg #[.int .u64 (b : Int), u], .bool ok] ∧ Sep w0 W (BoxT u L :: Ps)
def AckSt2 (v : Value) (w0 W : World) (b : Nat) (L : List (List UInt8)) (Ps : List SP) : Prop :=
 ∃ u, v = .agg #[.int .u64 (b : Int), u] ∧ Sep w0 W (BoxT u L :: Ps)
/-- a list of things, with a slice's place and room found -/
def ExL (w0 W : World) (L : Option Addr → Nat → List SP) : Prop := ∃ A c, Sep w0 W (L A c)
theorem sep_boxBx {w0 w : World} {Ps : List SP} {i n c : Nat} {A : Option Addr} {L : List (List UInt8)} (h : Sep w0 w Ps) (hi : Ps[i]? = some (BoxT (.slice A n c) L)) (hL : ∀ l ∈ L, l.length ≤ 140737488355328) : n = L.length ∧ L.length ≤ c ∧ c ≤ maxLen ∧ Bx w w.heap.size A L := by
 obtain ⟨A', c', e, h1, h2, h3⟩ := sep_boxForm h hi hL; simp only [Value.slice.injEq] at e; obtain ⟨rfl, rfl, rfl⟩ := e; exact ⟨rfl, h1, h2, h3⟩
end Go.Proofs.Ytngegjboenfmeaa
/- Send of any link. -/
namespace Go.Proofs.Ytngegjboenfmeaa
open Go Go.RowKit Go.Shelf
set_option linter.unusedVariables false
set_option maxRecDepth 100000
set_option linter.unusedSimpArgs false

/-- what lies at hand in Send: the answer's frames, their bodies, the answer, the result, the link, its box -/
def SK (o r g : Nat) (Qs : List SP) (rf bf : SP) (oc lc : Array Value) (bt : SP) : List SP := rf :: bf :: Ce o 43 oc :: Ce r 43 #[.slice none 0 0, .slice none 0 0] :: Ce g 72 lc :: bt :: Qs
def ExV (w0 W : World) (L : Value → Value → List SP) : Prop := ∃ u v, Sep w0 W (L u v)
/-- Send's answer, and how the link stands then -/
def SAns (w0 : World) (g : Nat) (Qs : List SP) (F : List Fr) (E : Nat) (s : LS) (e : Ending) (w' : World) : Prop :=
 ∃ vF bx' LP, e = .returned (.tuple #[.agg #[vF, .slice none 0 0], .int .i64 (E : Int)]) ∧ LP.map Prod.fst = F ∧
  Sep w0 w' (Rw 51 10 vF LP.length (fR_ LP) :: Bods (fB_ LP) :: Ce g 72 (s.cells bx') :: BoxT bx' s.box :: Qs)
theorem LS.Num.send {s : LS} (h : s.Num) {now : Nat} (hn : now < 18446744073709551616) (b : List UInt8) : (s.send now b).Num := by
 unfold LS.send; split
 ·rename_i he
  unfold LS.sendE at he; split at he
  ·unfold pushE at he; rw [if_neg (by rw [h.may]; simp)] at he; split at he
   ·simp at he
   rename_i hb
   split at he
   ·simp at he
   rename_i hc
   have hb2 : bodyB b = true := by simpa using hb
   have h1 := h.base; refine ⟨h.sn, ?_, ?_, ?_, h.got, h.heard, ?_⟩
   ·simp only [List.length_append, List.length_singleton]; omega
   ·simp only [List.length_append, List.length_singleton]; omega
   ·intro l hl
    rcases List.mem_append.1 hl with hl | hl
    ·exact h.bodies l hl
    ·rw [List.mem_singleton.1 hl]; exact hb2
   ·simp only; split
    ·exact hn
    ·exact h.sent
  ·simp at he
 ·exact h
set_option maxHeartbeats 12800000 in
theorem sendG {w0 w : World} {Qs : List SP} {X : SP} {g now : Nat} {s : LS} {b : List UInt8} {bx : Value} {A : Option Addr} {c : Nat} (h : Sep w0 w (Ce g 72 (s.cells bx) :: BoxT bx s.box :: X :: Qs)) (hX : Reads X A b) (hs : s.Num) (hbl : b.length ≤ 1000000) :
  Calls Try.prog 21 #[.pointer (some ⟨g, 0, none⟩), .int .u64 (now : Int), .slice A b.length c] w (SAns w0 g (X :: Qs) (s.sendF b) (s.sendE b) (s.send now b)) := by
 obtain ⟨BA, bc, rfl, hcc, hcm, hbx⟩ := sep_boxForm (i := 1) h rfl hs.small; have HBX := Lib.hid hbx; have HOK := Lib.hid hs; obtain ⟨sS, HSS⟩ : ∃ x, Hid (s = x) := ⟨_, Lib.hid rfl⟩
 suffices hgoal : Calls Try.prog 21 #[.pointer (some ⟨g, 0, none⟩), .int .u64 (now : Int), .slice A b.length c] w (SAns w0 g (X :: Qs) (sS.sendF b) (sS.sendE b) (sS.send now b)) by
  rw [HSS.out]; exact hgoal
 obtain ⟨base, box, got, sn, si, peer, conn, inc, known, up, heard, sent⟩ := s; have hsn : sn ≠ 0 := hs.sn; have HSN := Lib.hid hsn; have hbb : base + box.length ≤ 34359738367 := hs.base; have hb48 : box.length ≤ 48 := hs.box; have HFIT : Hid (Fit box) := Lib.hid hs.fit; have HX : Hid (Reads X A b) := Lib.hid hX; have HS0 := Lib.hid (show Sep w0 (w.alloc (.cells #[.slice none 0 0, .slice none 0 0] 43)) (Ce w.heap.size 43 #[.slice none 0 0, .slice none 0 0] :: Ce g 72 #[.int .u64 (base : Int), .slice BA box.length bc, .int .u64 (got : Int), .int .i64 sn, .int .u64 (si : Int), .int .i64 peer, .int .u64 (conn : Int), .int .u64 (inc : Int), .int .u64 (known : Int), .bool up, .int .u64 (heard : Int), .int .u64 (sent : Int)] :: BoxT (.slice BA box.length bc) box :: X :: Qs) from sep_ceF h #[.slice none 0 0, .slice none 0 0] 43); clear h hs hsn hX hbx; cases up with
 | false =>
  have k3 := cA (i := 1) HS0.out rfl 9 rfl; have y0 := cFz (i := 0) HS0.out rfl 0; have y1 := cFz (i := 0) HS0.out rfl 1; have HSF := Lib.hid (cS (i := 0) (cS (i := 0) HS0.out rfl 0 (.slice none 0 0)) rfl 1 (.slice none 0 0)); go_enter Try.func21, Try.ntmps21
  go_wp2_with fail
  refine (made_yes _ g sn HSN.out (cA (i := 1) HS0.out rfl 3 rfl)).mono ?_; rintro e w1 ⟨rfl, hb1⟩; have HS1 := Lib.hid (HS0.out.grow hb1); have k9 := cA (i := 1) HS1.out rfl 9 rfl; have y0 := cFz (i := 0) HS1.out rfl 0; have y1 := cFz (i := 0) HS1.out rfl 1; have z0 := cA (i := 0) HS1.out rfl 0 rfl; have z1 := cA (i := 0) HS1.out rfl 1 rfl; clear HSF k3; have HSF := Lib.hid (cS (i := 0) (cS (i := 0) HS1.out rfl 0 (.slice none 0 0)) rfl 1 (.slice none 0 0))
  go_wp2_with fail
  have k0 := cA (i := 0) HSF.out rfl 0 rfl; have k1 := cA (i := 0) HSF.out rfl 1 rfl; refine bodyPost_ret (v := .tuple #[.agg #[.slice none 0 0, .slice none 0 0], .int .i64 7]) (by simp [results, Try.results21, go_sem, k0, k1]) rfl ?_; have hE : sS.sendE b = 7 := by rw [← HSS.out]; rfl
  refine ⟨_, .slice BA box.length bc, [], by rw [hE]; rfl, ?_, ?_⟩
  ·rw [LS.sendF, if_neg (by rw [hE]; simp)]; rfl
  ·rw [LS.send, if_neg (by rw [hE]; simp), ← HSS.out]; exact sep_bodsNil (sep_rwNil HSF.out.popF 51 10).lastFront |> fun h => h.tF 1 rfl
 | true =>
  have HEE : Hid (sS.sendE b = pushE base box b) := Lib.hid (by rw [← HSS.out]; rfl); go_enter Try.func21, Try.ntmps21
  go_wp2_with fail
  refine (made_yes _ g sn HSN.out (cA (i := 1) HS0.out rfl 3 rfl)).mono ?_; rintro e w1 ⟨rfl, hb1⟩; have HS1 := Lib.hid (HS0.out.grow hb1); have HBX1 : Hid (Bx w1 w1.heap.size BA box) := Lib.hid (sep_boxBx (i := 2) HS1.out rfl (fun l hl => by have := HFIT.out.2 l hl; omega)).2.2.2; have k9 := cA (i := 1) HS1.out rfl 9 rfl; have kb := cA (i := 1) HS1.out rfl 0 rfl; have kx := cA (i := 1) HS1.out rfl 1 rfl
  go_wp2_with fail
  refine (push_any w1 base BA bc box A c b HBX1.out (sep_reads (i := 3) HS1.out rfl HX.out) (by omega) HFIT.out hbl).mono ?_; rintro e w2 ⟨hb2, (⟨hne, rfl⟩ | ⟨h0, v, rfl, ho⟩)⟩
  ·have HS2 := Lib.hid (HS1.out.grow hb2); have y0 := cFz (i := 1) (sep_ceF HS2.out #[.int .u64 0, .slice none 0 0] 68) rfl 0; have y1 := cFz (i := 1) (sep_ceF HS2.out #[.int .u64 0, .slice none 0 0] 68) rfl 1; have z0 := cA (i := 1) (sep_ceF HS2.out #[.int .u64 0, .slice none 0 0] 68) rfl 0 rfl; have z1 := cA (i := 1) (sep_ceF HS2.out #[.int .u64 0, .slice none 0 0] 68) rfl 1 rfl; have HSF := Lib.hid (cS (i := 1) (cS (i := 1) (sep_ceF HS2.out #[.int .u64 0, .slice none 0 0] 68) rfl 0 (.slice none 0 0)) rfl 1 (.slice none 0 0)); obtain ⟨ee, Hee⟩ : ∃ x, Hid (pushE base box b = x) := ⟨_, Lib.hid rfl⟩; rw [Hee.out] at hne ⊢; have en : ((ee : Int) != 0) = true := by simp; omega
   clear k9 kb kx hne
   go_wp2_with fail
   have k0 := cA (i := 1) HSF.out rfl 0 rfl; have k1 := cA (i := 1) HSF.out rfl 1 rfl; refine bodyPost_ret (v := .tuple #[.agg #[.slice none 0 0, .slice none 0 0], .int .i64 (ee : Int)]) (by simp [results, Try.results21, go_sem, k0, k1]) rfl ?_; have hE : sS.sendE b = ee := by rw [HEE.out]; exact Hee.out
   have hne : ¬ sS.sendE b = 0 := by rw [hE]; intro h; rw [h] at en; simp at en
   refine ⟨_, .slice BA box.length bc, [], by rw [hE], ?_, ?_⟩
   ·rw [LS.sendF, if_neg (fun h => hne h.1)]; rfl
   ·rw [LS.send, if_neg hne, ← HSS.out]; exact sep_bodsNil (sep_rwNil HSF.out.popF.popF 51 10).lastFront |> fun h => h.tF 1 rfl
  ·have HE : Hid (sS.sendE b = 0) := Lib.hid (by rw [HEE.out]; exact h0); have hlen : (box ++ [b]).length = box.length + 1 := by simp
   have hsm : ∀ l ∈ box ++ [b], l.length ≤ 140737488355328 := by
    intro l hl
    rcases List.mem_append.1 hl with hl | hl
    ·have := HFIT.out.2 l hl; omega
    ·rw [List.mem_singleton.1 hl]; omega
   have hsb := sep_boxNew HS1.out hb2 ho; obtain ⟨Au, cu, rfl, _⟩ := sep_boxForm (i := 0) hsb rfl hsm; obtain ⟨n1, Hn1⟩ : ∃ x, Hid (box.length + 1 = x) := ⟨_, Lib.hid rfl⟩; have hn1 : n1 = box.length + 1 := Hn1.out.symm; have hn49 : n1 ≤ 49 := by omega
   have hbn : base + n1 ≤ 34359738368 := by omega
   rw [hlen, Hn1.out] at hsb; have HS3 := Lib.hid (sep_ceF hsb #[.int .u64 (base : Int), .slice Au n1 cu] 68); have y0 := cFz (i := 3) HS3.out rfl 0; have y1 := cFz (i := 3) HS3.out rfl 1; have z0 := cA (i := 3) HS3.out rfl 0 rfl; have z1 := cA (i := 3) HS3.out rfl 1 rfl; have HS6 := Lib.hid (((cS (i := 3) (cS (i := 3) HS3.out rfl 0 (.int .u64 (base : Int))) rfl 1 (.slice Au n1 cu)).drop 4).popF); have HS7 := Lib.hid (sep_bodsNil (sep_rwNil (sep_ceF HS6.out #[.slice none 0 0, .slice none 0 0] 43) 51 10).lastFront); obtain ⟨LB1, HLB1⟩ : ∃ x, Hid (box ++ [b] = x) := ⟨_, Lib.hid rfl⟩; rw [HLB1.out] at HS7; rw [hlen, Hn1.out]; have kx := cA (v := .slice Au n1 cu) (i := 5) HS7.out rfl 1 rfl; have HSL : Hid (∀ W : World, W.heap.size = w2.heap.size → True) := Lib.hid (fun _ _ => trivial); have HS8 : Hid (Sep w0 ((((w2.alloc (.cells #[.int .u64 (base : Int), .slice Au n1 cu] 68)).setCell ⟨g, 0, none⟩ (.int .u64 (base : Int))).setCell ⟨g, 1, none⟩ (.slice Au n1 cu)).alloc (.cells #[.slice none 0 0, .slice none 0 0] 43)) (SK (w2.heap.size + 1) w.heap.size g (X :: Qs) (Rw 51 10 (.slice none 0 0) 0 []) (Bods []) (#[.slice none 0 0, .slice none 0 0]) (#[.int .u64 (base : Int), .slice Au n1 cu, .int .u64 (got : Int), .int .i64 sn, .int .u64 (si : Int), .int .i64 peer, .int .u64 (conn : Int), .int .u64 (inc : Int), .int .u64 (known : Int), .bool true, .int .u64 (heard : Int), .int .u64 (sent : Int)]) (BoxT (.slice Au n1 cu) LB1))) := Lib.hid (by
    have hx := HS7.out; simp only [World.size_setCell, World.size_alloc] at hx; exact ((((((hx).tF 3 rfl).tF 5 rfl).tF 5 rfl).tF 5 rfl).tF 4 rfl).tF 5 rfl)
   clear HS0 HS1 HBX HBX1 HSN HEE hsb ho h0 hlen hb2 k9 kb hcc hcm
   by_cases hle : n1 ≤ 8
   ·have el : decide ((n1 : Int) ≤ 8) = true := decide_eq_true (by omega); have HLE := Lib.hid hle; obtain ⟨la0, Hla⟩ : ∃ x, Hid (base + n1 = x) := ⟨_, Lib.hid rfl⟩; have HLA := Lib.hid (fun (W : World) k0 k1 => show Calls Try.prog 41 #[.pointer (some ⟨g, 0, none⟩)] W (fun e w' => e = .returned (.int .u64 (la0 : Int)) ∧ Below W.heap.size W w') from by
     have hq := lastG W g base n1 cu Au (by omega) (by omega) k0 k1; rw [← Hla.out]; rw [Nat.min_eq_left hle] at hq
     push_cast at hq ⊢
     exact hq)
    obtain ⟨daV, HDV⟩ : ∃ f : Value → Array Value, Hid (f = fun u => #[.int .i64 2, .int .i64 sn, .int .i64 peer, .int .u64 (si : Int), .int .u64 (conn : Int), .int .u64 (inc : Int), .int .u64 (known : Int), .int .u64 (got : Int), .int .u64 (la0 : Int), u]) := ⟨_, Lib.hid rfl⟩; have HDX : Hid (∀ u, daV u = #[.int .i64 2, .int .i64 sn, .int .i64 peer, .int .u64 (si : Int), .int .u64 (conn : Int), .int .u64 (inc : Int), .int .u64 (known : Int), .int .u64 (got : Int), .int .u64 (la0 : Int), u]) := Lib.hid (fun u => by rw [HDV.out]); have HX1 : Hid (∀ u : Value, u.oneCell' = true → ∀ x ∈ (daV u).toList, x.oneCell' = true) := Lib.hid (by
     intro u hu x hx; rw [HDX.out] at hx; simp only [List.mem_cons, List.not_mem_nil, or_false] at hx
     rcases hx with rfl | rfl | rfl | rfl | rfl | rfl | rfl | rfl | rfl | rfl <;> first | exact hu | rfl)
    have HDA := Lib.hid (fun (W : World) (Av : Option Addr) (cv : Nat) hh => show Calls Try.prog 39 #[.pointer (some ⟨g, 0, none⟩), .int .u64 (la0 : Int), .slice Av b.length cv] W (fun e w' => e = .returned (.agg (daV (.slice Av b.length cv))) ∧ Below W.heap.size W w') from by
     have hq := dataG W g base (.slice Au n1 cu) got sn si peer conn inc known true heard sent (la0 : Int) Av b.length cv hh; rw [HDX.out]; exact hq)
    obtain ⟨vF, HvF⟩ : ∃ x, Hid (Value.slice none 0 0 = x) := ⟨_, Lib.hid rfl⟩; have HS8' : Hid (Sep w0 ((((w2.alloc (.cells #[.int .u64 (base : Int), .slice Au n1 cu] 68)).setCell ⟨g, 0, none⟩ (.int .u64 (base : Int))).setCell ⟨g, 1, none⟩ (.slice Au n1 cu)).alloc (.cells #[.slice none 0 0, .slice none 0 0] 43)) (SK (w2.heap.size + 1) w.heap.size g (X :: Qs) (Rw 51 10 vF 0 []) (Bods []) (#[vF, .slice none 0 0]) (#[.int .u64 (base : Int), .slice Au n1 cu, .int .u64 (got : Int), .int .i64 sn, .int .u64 (si : Int), .int .i64 peer, .int .u64 (conn : Int), .int .u64 (inc : Int), .int .u64 (known : Int), .bool true, .int .u64 (heard : Int), .int .u64 (sent : Int)]) (BoxT (.slice Au n1 cu) LB1))) := Lib.hid (by rw [← HvF.out]; exact HS8.out); have HS8 := HS8'; clear HS8'; have HKO : ∀ (dn : Nat → Bool) (xv : Nat → Value) (W : World), (if dn 11 = true then ExV w0 W (fun vF u => (SK (w2.heap.size + 1) w.heap.size g (X :: Qs) (Rw 51 10 vF (0 + 1) ([] ++ (daV u).toList)) (Bods [(u, b)]) (#[vF, .slice none 0 0]) (#[.int .u64 (base : Int), .slice Au n1 cu, .int .u64 (got : Int), .int .i64 sn, .int .u64 (si : Int), .int .i64 peer, .int .u64 (conn : Int), .int .u64 (inc : Int), .int .u64 (known : Int), .bool true, .int .u64 (heard : Int), .int .u64 (sent : Int)]) (BoxT (.slice Au n1 cu) LB1))) else if dn 9 = true then Sep w0 W (SK (w2.heap.size + 1) w.heap.size g (X :: Qs) (Rw 51 10 (xv 9) (0 + 1) ([] ++ (daV (xv 6)).toList)) (Bods [(xv 6, b)]) (#[vF, .slice none 0 0]) (#[.int .u64 (base : Int), .slice Au n1 cu, .int .u64 (got : Int), .int .i64 sn, .int .u64 (si : Int), .int .i64 peer, .int .u64 (conn : Int), .int .u64 (inc : Int), .int .u64 (known : Int), .bool true, .int .u64 (heard : Int), .int .u64 (sent : Int)]) (BoxT (.slice Au n1 cu) LB1)) else if dn 8 = true then Sep w0 W (SK (w2.heap.size + 1) w.heap.size g (X :: Qs) (Rw 51 10 vF 0 []) (Bods [(xv 6, b)]) (#[vF, .slice none 0 0]) (#[.int .u64 (base : Int), .slice Au n1 cu, .int .u64 (got : Int), .int .i64 sn, .int .u64 (si : Int), .int .i64 peer, .int .u64 (conn : Int), .int .u64 (inc : Int), .int .u64 (known : Int), .bool true, .int .u64 (heard : Int), .int .u64 (sent : Int)]) (BoxT (.slice Au n1 cu) LB1)) ∧ OneF (daV (xv 6)).toList (xv 8) W else if dn 7 = true then Sep w0 W (SK (w2.heap.size + 1) w.heap.size g (X :: Qs) (Rw 51 10 vF 0 []) (Bods [(xv 6, b)]) (#[vF, .slice none 0 0]) (#[.int .u64 (base : Int), .slice Au n1 cu, .int .u64 (got : Int), .int .i64 sn, .int .u64 (si : Int), .int .i64 peer, .int .u64 (conn : Int), .int .u64 (inc : Int), .int .u64 (known : Int), .bool true, .int .u64 (heard : Int), .int .u64 (sent : Int)]) (BoxT (.slice Au n1 cu) LB1)) ∧ Hid (xv 7 = .agg (daV (xv 6))) else if dn 6 = true then Sep w0 W (SK (w2.heap.size + 1) w.heap.size g (X :: Qs) (Rw 51 10 vF 0 []) (Bods [(xv 6, b)]) (#[vF, .slice none 0 0]) (#[.int .u64 (base : Int), .slice Au n1 cu, .int .u64 (got : Int), .int .i64 sn, .int .u64 (si : Int), .int .i64 peer, .int .u64 (conn : Int), .int .u64 (inc : Int), .int .u64 (known : Int), .bool true, .int .u64 (heard : Int), .int .u64 (sent : Int)]) (BoxT (.slice Au n1 cu) LB1)) else Sep w0 W (SK (w2.heap.size + 1) w.heap.size g (X :: Qs) (Rw 51 10 vF 0 []) (Bods []) (#[vF, .slice none 0 0]) (#[.int .u64 (base : Int), .slice Au n1 cu, .int .u64 (got : Int), .int .i64 sn, .int .u64 (si : Int), .int .i64 peer, .int .u64 (conn : Int), .int .u64 (inc : Int), .int .u64 (known : Int), .bool true, .int .u64 (heard : Int), .int .u64 (sent : Int)]) (BoxT (.slice Au n1 cu) LB1))) → dn 11 = false → W.cell? ⟨w2.heap.size + 1, 0, none⟩ = some vF := fun dn xv W h h0 => by
     rw [if_neg (by simp [h0])] at h; split at h
     ·exact cA (i := 2) h rfl 0 rfl
     split at h
     ·exact cA (i := 2) h.1 rfl 0 rfl
     split at h
     ·exact cA (i := 2) h.1 rfl 0 rfl
     split at h
     ·exact cA (i := 2) h rfl 0 rfl
     exact cA (i := 2) h rfl 0 rfl
    clear hle hn1
    go_wp2_with fail
    refine wRG (fun dn xv W => if dn 11 = true then ExV w0 W (fun vF u => (SK (w2.heap.size + 1) w.heap.size g (X :: Qs) (Rw 51 10 vF (0 + 1) ([] ++ (daV u).toList)) (Bods [(u, b)]) (#[vF, .slice none 0 0]) (#[.int .u64 (base : Int), .slice Au n1 cu, .int .u64 (got : Int), .int .i64 sn, .int .u64 (si : Int), .int .i64 peer, .int .u64 (conn : Int), .int .u64 (inc : Int), .int .u64 (known : Int), .bool true, .int .u64 (heard : Int), .int .u64 (sent : Int)]) (BoxT (.slice Au n1 cu) LB1))) else if dn 9 = true then Sep w0 W (SK (w2.heap.size + 1) w.heap.size g (X :: Qs) (Rw 51 10 (xv 9) (0 + 1) ([] ++ (daV (xv 6)).toList)) (Bods [(xv 6, b)]) (#[vF, .slice none 0 0]) (#[.int .u64 (base : Int), .slice Au n1 cu, .int .u64 (got : Int), .int .i64 sn, .int .u64 (si : Int), .int .i64 peer, .int .u64 (conn : Int), .int .u64 (inc : Int), .int .u64 (known : Int), .bool true, .int .u64 (heard : Int), .int .u64 (sent : Int)]) (BoxT (.slice Au n1 cu) LB1)) else if dn 8 = true then Sep w0 W (SK (w2.heap.size + 1) w.heap.size g (X :: Qs) (Rw 51 10 vF 0 []) (Bods [(xv 6, b)]) (#[vF, .slice none 0 0]) (#[.int .u64 (base : Int), .slice Au n1 cu, .int .u64 (got : Int), .int .i64 sn, .int .u64 (si : Int), .int .i64 peer, .int .u64 (conn : Int), .int .u64 (inc : Int), .int .u64 (known : Int), .bool true, .int .u64 (heard : Int), .int .u64 (sent : Int)]) (BoxT (.slice Au n1 cu) LB1)) ∧ OneF (daV (xv 6)).toList (xv 8) W else if dn 7 = true then Sep w0 W (SK (w2.heap.size + 1) w.heap.size g (X :: Qs) (Rw 51 10 vF 0 []) (Bods [(xv 6, b)]) (#[vF, .slice none 0 0]) (#[.int .u64 (base : Int), .slice Au n1 cu, .int .u64 (got : Int), .int .i64 sn, .int .u64 (si : Int), .int .i64 peer, .int .u64 (conn : Int), .int .u64 (inc : Int), .int .u64 (known : Int), .bool true, .int .u64 (heard : Int), .int .u64 (sent : Int)]) (BoxT (.slice Au n1 cu) LB1)) ∧ Hid (xv 7 = .agg (daV (xv 6))) else if dn 6 = true then Sep w0 W (SK (w2.heap.size + 1) w.heap.size g (X :: Qs) (Rw 51 10 vF 0 []) (Bods [(xv 6, b)]) (#[vF, .slice none 0 0]) (#[.int .u64 (base : Int), .slice Au n1 cu, .int .u64 (got : Int), .int .i64 sn, .int .u64 (si : Int), .int .i64 peer, .int .u64 (conn : Int), .int .u64 (inc : Int), .int .u64 (known : Int), .bool true, .int .u64 (heard : Int), .int .u64 (sent : Int)]) (BoxT (.slice Au n1 cu) LB1)) else Sep w0 W (SK (w2.heap.size + 1) w.heap.size g (X :: Qs) (Rw 51 10 vF 0 []) (Bods []) (#[vF, .slice none 0 0]) (#[.int .u64 (base : Int), .slice Au n1 cu, .int .u64 (got : Int), .int .i64 sn, .int .u64 (si : Int), .int .i64 peer, .int .u64 (conn : Int), .int .u64 (inc : Int), .int .u64 (known : Int), .bool true, .int .u64 (heard : Int), .int .u64 (sent : Int)]) (BoxT (.slice Au n1 cu) LB1))) (fun _ _ => True) [xP_ (w2.heap.size + 1) 0, xV_ vF, xP_ g 0, xP_ g 0, xV_ (.int .u64 (la0 : Int)), xV_ (.slice A b.length c), fun v _ => True, fun v _ => True, fun v _ => True, fun v _ => True, xP_ (w2.heap.size + 1) 0, fun v _ => True] (fun xv => by simpa using HS8.out.drew) ?_ ?_
    ·refine Ep 1 10 (w2.heap.size + 1) 0 ?_
     refine EC 2 rfl (fun g h W F a b c d e H K f => ?_) ?_
     ·have f46 := gE (a 46) (by kernel_rfl) (H 0) (by kernel_rfl); have kk := HKO g h W e (c 11 (uM 9 uE)); clear H c b d a; refine oP rfl ?_; go_simp; exact f.out _ _ rfl trivial e
     refine Ep 3 0 g 0 ?_
     refine Ep 4 0 g 0 ?_
     refine EC 5 rfl (fun l m W F a c d f h H K k => ?_) ?_
     ·have f49 := gE (a 49) (by kernel_rfl) (H 3) (by kernel_rfl); have q7 := d 7 uE; have q8 := d 8 (uM 7 uE); have q9 := d 9 (uM 8 (uM 7 uE)); have q11 := d 11 (uM 9 (uM 8 (uM 7 uE))); clear H d c f a; refine oP rfl ?_; go_simp; cases h6 : l 6 with
       | false =>
        have hS : Sep w0 W (SK (w2.heap.size + 1) w.heap.size g (X :: Qs) (Rw 51 10 vF 0 []) (Bods []) (#[vF, .slice none 0 0]) (#[.int .u64 (base : Int), .slice Au n1 cu, .int .u64 (got : Int), .int .i64 sn, .int .u64 (si : Int), .int .i64 peer, .int .u64 (conn : Int), .int .u64 (inc : Int), .int .u64 (known : Int), .bool true, .int .u64 (heard : Int), .int .u64 (sent : Int)]) (BoxT (.slice Au n1 cu) LB1)) := by simpa [q7, q8, q9, q11, h6] using h
        refine (HLA.out W (cA (i := 4) hS rfl 0 rfl) (cA (i := 4) hS rfl 1 rfl)).mono ?_; rintro e W' ⟨rfl, hb⟩; have hs := hS.grow hb; exact k.out _ W' rfl trivial (by simpa [upB, upd, q7, q8, q9, q11, h6] using hs)
       | true =>
        have hS : Sep w0 W (SK (w2.heap.size + 1) w.heap.size g (X :: Qs) (Rw 51 10 vF 0 []) (Bods [(m 6, b)]) (#[vF, .slice none 0 0]) (#[.int .u64 (base : Int), .slice Au n1 cu, .int .u64 (got : Int), .int .i64 sn, .int .u64 (si : Int), .int .i64 peer, .int .u64 (conn : Int), .int .u64 (inc : Int), .int .u64 (known : Int), .bool true, .int .u64 (heard : Int), .int .u64 (sent : Int)]) (BoxT (.slice Au n1 cu) LB1)) := by simpa [q7, q8, q9, q11, h6] using h
        refine (HLA.out W (cA (i := 4) hS rfl 0 rfl) (cA (i := 4) hS rfl 1 rfl)).mono ?_; rintro e W' ⟨rfl, hb⟩; have hs := hS.grow hb; exact k.out _ W' rfl trivial (by simpa [upB, upd, q7, q8, q9, q11, h6] using hs)
     refine Ei 6 2 (.slice A b.length c) ?_
     refine EC 7 rfl (fun m n W F a d f h k H K l => ?_) ?_
     ·have f51 := gE (a 51) (by kernel_rfl) (H 5) (by kernel_rfl); have q7 := f 7 uE; have q8 := f 8 (uM 7 uE); have q9 := f 9 (uM 8 (uM 7 uE)); have q11 := f 11 (uM 9 (uM 8 (uM 7 uE))); rw [if_neg (by simp [q11]), if_neg (by simp [q9]), if_neg (by simp [q8]), if_neg (by simp [q7]), if_neg (by simp [d])] at k; have hS := k; clear k f d h a H; refine oP rfl ?_; go_simp; refine (clone_any W W.heap.size A c b (sep_reads (i := 6) hS rfl HX.out) (Nat.le_refl _) (by omega)).mono ?_; rintro e W' ⟨v, rfl, ho, hb⟩; have hs : Sep w0 W' (SK (w2.heap.size + 1) w.heap.size g (X :: Qs) (Rw 51 10 vF 0 []) (Bods [(v, b)]) (#[vF, .slice none 0 0]) (#[.int .u64 (base : Int), .slice Au n1 cu, .int .u64 (got : Int), .int .i64 sn, .int .u64 (si : Int), .int .i64 peer, .int .u64 (conn : Int), .int .u64 (inc : Int), .int .u64 (known : Int), .bool true, .int .u64 (heard : Int), .int .u64 (sent : Int)]) (BoxT (.slice Au n1 cu) LB1)) := sep_bodsAdd (i := 1) hS rfl hb ho; exact l.out _ W' trivial trivial (by simpa [upB, upd, q7, q8, q9, q11] using hs)
     refine EC 8 rfl (fun m n W F a c d f h H K k => ?_) ?_
     ·have f48 := gE (a 48) (by kernel_rfl) (H 2) (by kernel_rfl); have f50 := gE (a 50) (by kernel_rfl) (H 4) (by kernel_rfl); have f52 : F.tmps.getD 52 undef = n 6 := (a 52).trans (by kernel_rfl); have q6 := (H 6 uE).1; have q8 := d 8 uE; have q9 := d 9 (uM 8 uE); have q11 := d 11 (uM 9 (uM 8 uE)); rw [if_neg (by simp [q11]), if_neg (by simp [q9]), if_neg (by simp [q8]), if_neg (by simp [c]), if_pos q6] at h; have hS := h; clear h d c f a H; refine oP rfl ?_; obtain ⟨Av, cv, ev, _, _, _⟩ := sep_bodsAt (i := 1) hS rfl (u := n 6) (l := b) (by simp); rw [ev] at f52; go_simp; refine (HDA.out W Av cv (cH (i := 4) hS rfl)).mono ?_; rintro e W' ⟨rfl, hb⟩; have hs : Sep w0 W' (SK (w2.heap.size + 1) w.heap.size g (X :: Qs) (Rw 51 10 vF 0 []) (Bods [(n 6, b)]) (#[vF, .slice none 0 0]) (#[.int .u64 (base : Int), .slice Au n1 cu, .int .u64 (got : Int), .int .i64 sn, .int .u64 (si : Int), .int .i64 peer, .int .u64 (conn : Int), .int .u64 (inc : Int), .int .u64 (known : Int), .bool true, .int .u64 (heard : Int), .int .u64 (sent : Int)]) (BoxT (.slice Au n1 cu) LB1)) ∧ Hid ((.agg (daV (.slice Av b.length cv)) : Value) = .agg (daV (n 6))) := ⟨hS.grow hb, Lib.hid (by rw [ev])⟩; exact k.out _ W' trivial trivial (by simpa [upB, upd, q8, q9, q11] using hs)
     refine EC 9 rfl (fun i k W F a c d e f H K h => ?_) ?_
     ·have f53 : F.tmps.getD 53 undef = k 7 := (a 53).trans (by kernel_rfl); have q7 := (H 7 uE).1; have q9 := d 9 uE; have q11 := d 11 (uM 9 uE); rw [if_neg (by simp [q11]), if_neg (by simp [q9]), if_neg (by simp [c]), if_pos q7] at f; have hS := f; clear f d c e a H; refine oP rfl ?_; obtain ⟨hS, ev⟩ := hS; have e7 := ev.out; rw [HDX.out] at e7; have g53 := f53.trans e7; rw [Array.getD_eq_getD_getElem?] at g53; go_simp; have hb : Below W.heap.size W (W.alloc (.cells #[.int .i64 2, .int .i64 sn, .int .i64 peer, .int .u64 (si : Int), .int .u64 (conn : Int), .int .u64 (inc : Int), .int .u64 (known : Int), .int .u64 (got : Int), .int .u64 (la0 : Int), k 6] 51)) := (Below.refl _ _).alloc (Nat.le_refl _) _; have hs : Sep w0 (W.alloc (.cells #[.int .i64 2, .int .i64 sn, .int .i64 peer, .int .u64 (si : Int), .int .u64 (conn : Int), .int .u64 (inc : Int), .int .u64 (known : Int), .int .u64 (got : Int), .int .u64 (la0 : Int), k 6] 51)) (SK (w2.heap.size + 1) w.heap.size g (X :: Qs) (Rw 51 10 vF 0 []) (Bods [(k 6, b)]) (#[vF, .slice none 0 0]) (#[.int .u64 (base : Int), .slice Au n1 cu, .int .u64 (got : Int), .int .i64 sn, .int .u64 (si : Int), .int .i64 peer, .int .u64 (conn : Int), .int .u64 (inc : Int), .int .u64 (known : Int), .bool true, .int .u64 (heard : Int), .int .u64 (sent : Int)]) (BoxT (.slice Au n1 cu) LB1)) ∧ OneF (daV (k 6)).toList (.slice (some ⟨W.heap.size, 0, none⟩) 1 1) (W.alloc (.cells #[.int .i64 2, .int .i64 sn, .int .i64 peer, .int .u64 (si : Int), .int .u64 (conn : Int), .int .u64 (inc : Int), .int .u64 (known : Int), .int .u64 (got : Int), .int .u64 (la0 : Int), k 6] 51)) := ⟨hS.grow hb, by rw [HDX.out]; exact OneF.new W _⟩; exact h.out _ _ trivial trivial (by simpa [upB, upd, q9, q11] using hs)
     refine EC 10 rfl (fun j k W F a c d e f H K h => ?_) ?_
     ·have f47 := gE (a 47) (by kernel_rfl) (H 1) (by kernel_rfl); have f54 : F.tmps.getD 54 undef = k 8 := (a 54).trans (by kernel_rfl); have q8 := (H 8 uE).1; have q11 := d 11 uE; rw [if_neg (by simp [q11]), if_neg (by simp [c]), if_pos q8] at f; have hS := f; clear f d c e a H; refine oP rfl ?_; obtain ⟨s1, A3, c3, e3, hl3, hh3⟩ := hS; have h6one : (k 6).oneCell' = true := by obtain ⟨_, _, ev, _⟩ := sep_bodsAt (i := 1) s1 rfl (u := k 6) (l := b) (by simp); rw [ev]; rfl
      have fex := f54.trans e3; refine sep_opAppW rowFrames (i := 0) (s := .tmp 47) (x := .tmp 54) (m := 1) (news := (daV (k 6)).toList) (by rfl) f47 fex s1 rfl (by rw [hl3]) hh3 (HX1.out _ h6one) (by unfold maxLen; omega) (by omega) ?_; intro v W' hs0; have hs : Sep w0 W' (SK (w2.heap.size + 1) w.heap.size g (X :: Qs) (Rw 51 10 v (0 + 1) ([] ++ (daV (k 6)).toList)) (Bods [(k 6, b)]) (#[vF, .slice none 0 0]) (#[.int .u64 (base : Int), .slice Au n1 cu, .int .u64 (got : Int), .int .i64 sn, .int .u64 (si : Int), .int .i64 peer, .int .u64 (conn : Int), .int .u64 (inc : Int), .int .u64 (known : Int), .bool true, .int .u64 (heard : Int), .int .u64 (sent : Int)]) (BoxT (.slice Au n1 cu) LB1)) := hs0; exact h.out v W' trivial trivial (by simpa [upB, upd, q11] using hs)
     refine Ep 11 10 (w2.heap.size + 1) 0 ?_
     refine EC 12 rfl (fun j k W F a c d e f H K h => ?_) ?_
     ·have f55 : F.tmps.getD 55 undef = k 9 := (a 55).trans (by kernel_rfl); have f56 := gE (a 56) (by kernel_rfl) (H 10) (by kernel_rfl); have q9 := (H 9 uE).1; rw [if_neg (by simp [c]), if_pos q9] at f; have hS := f; clear f d c e a H; refine oP rfl ?_; obtain ⟨A2, c2, e2, _⟩ := sep_rwForm (i := 0) hS rfl; have hc3 := cA (i := 2) hS rfl 0 rfl; have hf3 := cFz (i := 2) hS rfl 0; rw [e2] at hS; have hs0 := cS (i := 2) hS rfl 0 (.slice A2 (0 + 1) c2); have hs : ExV w0 (W.setCell ⟨w2.heap.size + 1, 0, none⟩ (.slice A2 (0 + 1) c2)) (fun vF u => (SK (w2.heap.size + 1) w.heap.size g (X :: Qs) (Rw 51 10 vF (0 + 1) ([] ++ (daV u).toList)) (Bods [(u, b)]) (#[vF, .slice none 0 0]) (#[.int .u64 (base : Int), .slice Au n1 cu, .int .u64 (got : Int), .int .i64 sn, .int .u64 (si : Int), .int .i64 peer, .int .u64 (conn : Int), .int .u64 (inc : Int), .int .u64 (known : Int), .bool true, .int .u64 (heard : Int), .int .u64 (sent : Int)]) (BoxT (.slice Au n1 cu) LB1))) := ⟨_, _, hs0⟩; clear hs0; go_simp; exact h.out undef _ trivial trivial (by simpa [upB, upd] using hs)
     exact EN
    ·intro dn xv W hI H; have qe : dn 11 = true := (H 11 (of_decide_eq_true (by kernel_rfl))).1; rw [if_pos qe] at hI; have hS := hI; clear H hI qe; simp only [putAll, Act.put, List.setIfInBounds_toArray, List.set_cons_zero, List.set_cons_succ, Nat.reduceAdd]; obtain ⟨vF2, u, hS⟩ := hS; obtain ⟨A2, c2, rfl, _⟩ := sep_rwForm (i := 0) hS rfl; have HS9 := Lib.hid hS; clear hS HKO; obtain ⟨W9, HW9⟩ : ∃ x, Hid (W = x) := ⟨_, Lib.hid rfl⟩; rw [HW9.out] at HS9 ⊢; have HF9 : Hid (sS.sendF b = [sS.data (la0, b)]) := Lib.hid (by
      rw [LS.sendF, if_pos ⟨HE.out, by rw [← HSS.out]; have := Hn1.out; have := HLE.out; simp only; omega⟩, ← Hla.out, ← Hn1.out, ← HSS.out])
     have HR9 : Hid (fR_ [(sS.data (la0, b), u)] = (daV u).toList) := Lib.hid (by rw [HDX.out, ← HSS.out]; rfl); have kx := cA (v := .slice Au n1 cu) (i := 4) HS9.out rfl 1 rfl
     by_cases h1 : n1 = 1
     ·have e1 : ((n1 : Int) == 1) = true := by simp [h1]
      have H1 := Lib.hid h1; clear h1; have ks := cA (i := 4) HS9.out rfl 11 rfl; have ys := cFz (i := 4) HS9.out rfl 11; have HSE := Lib.hid (cS (i := 4) HS9.out rfl 11 (.int .u64 (now : Int))); have k0 := cA (v := .slice A2 (0 + 1) c2) (i := 2) HSE.out rfl 0 rfl; have k1 := cA (v := .slice none 0 0) (i := 2) HSE.out rfl 1 rfl; have y0 := cFz (i := 3) HSE.out rfl 0; have y1 := cFz (i := 3) HSE.out rfl 1; have z0 := cA (i := 3) HSE.out rfl 0 rfl; have z1 := cA (i := 3) HSE.out rfl 1 rfl; have HSF := Lib.hid (cS (i := 3) (cS (i := 3) HSE.out rfl 0 (.slice A2 (0 + 1) c2)) rfl 1 (.slice none 0 0))
      go_wp2_with fail
      have k0 := cA (v := .slice A2 (0 + 1) c2) (i := 3) HSF.out rfl 0 rfl; have k1 := cA (v := .slice none 0 0) (i := 3) HSF.out rfl 1 rfl; refine bodyPost_ret (v := .tuple #[.agg #[.slice A2 (0 + 1) c2, .slice none 0 0], .int .i64 0]) (by simp [results, Try.results21, go_sem, k0, k1]) rfl ?_; refine ⟨_, (.slice Au n1 cu), [(sS.data (la0, b), u)], by rw [HE.out]; rfl, by rw [HF9.out]; rfl, ?_⟩; rw [LS.send, if_pos HE.out, ← HSS.out, if_pos (by have := Hn1.out; have := H1.out; simp only; omega), HSS.out, HR9.out]; have hss := HSS.out; subst hss; have hx := (HSF.out.drop 2).drop 2; rw [← HLB1.out] at hx; exact hx
     ·have e1 : ((n1 : Int) == 1) = false := by simp; omega
      have H1 := Lib.hid h1; clear h1; have HSE := HS9; have k0 := cA (v := .slice A2 (0 + 1) c2) (i := 2) HSE.out rfl 0 rfl; have k1 := cA (v := .slice none 0 0) (i := 2) HSE.out rfl 1 rfl; have y0 := cFz (i := 3) HSE.out rfl 0; have y1 := cFz (i := 3) HSE.out rfl 1; have z0 := cA (i := 3) HSE.out rfl 0 rfl; have z1 := cA (i := 3) HSE.out rfl 1 rfl; have HSF := Lib.hid (cS (i := 3) (cS (i := 3) HSE.out rfl 0 (.slice A2 (0 + 1) c2)) rfl 1 (.slice none 0 0))
      go_wp2_with fail
      have k0 := cA (v := .slice A2 (0 + 1) c2) (i := 3) HSF.out rfl 0 rfl; have k1 := cA (v := .slice none 0 0) (i := 3) HSF.out rfl 1 rfl; refine bodyPost_ret (v := .tuple #[.agg #[.slice A2 (0 + 1) c2, .slice none 0 0], .int .i64 0]) (by simp [results, Try.results21, go_sem, k0, k1]) rfl ?_; refine ⟨_, (.slice Au n1 cu), [(sS.data (la0, b), u)], by rw [HE.out]; rfl, by rw [HF9.out]; rfl, ?_⟩; rw [LS.send, if_pos HE.out, ← HSS.out, if_neg (by have := Hn1.out; have := H1.out; simp only; omega), HSS.out, HR9.out]; have hss := HSS.out; subst hss; have hx := (HSF.out.drop 2).drop 2; rw [← HLB1.out] at hx; exact hx
   ·have el : decide ((n1 : Int) ≤ 8) = false := decide_eq_false (by omega); have HLE := Lib.hid hle; have e1 : ((n1 : Int) == 1) = false := by simp; omega
    clear hle hn1; have HSE := HS8; have kx2 := cA (v := .slice Au n1 cu) (i := 4) HS8.out rfl 1 rfl; have k0 := cA (v := .slice none 0 0) (i := 2) HSE.out rfl 0 rfl; have k1 := cA (v := .slice none 0 0) (i := 2) HSE.out rfl 1 rfl; have y0 := cFz (i := 3) HSE.out rfl 0; have y1 := cFz (i := 3) HSE.out rfl 1; have z0 := cA (i := 3) HSE.out rfl 0 rfl; have z1 := cA (i := 3) HSE.out rfl 1 rfl; have HSF := Lib.hid (cS (i := 3) (cS (i := 3) HSE.out rfl 0 (.slice none 0 0)) rfl 1 (.slice none 0 0))
    go_wp2_with fail
    have k0 := cA (v := .slice none 0 0) (i := 3) HSF.out rfl 0 rfl; have k1 := cA (v := .slice none 0 0) (i := 3) HSF.out rfl 1 rfl; refine bodyPost_ret (v := .tuple #[.agg #[.slice none 0 0, .slice none 0 0], .int .i64 0]) (by simp [results, Try.results21, go_sem, k0, k1]) rfl ?_; refine ⟨_, (.slice Au n1 cu), [], by rw [HE.out]; rfl, ?_, ?_⟩
    ·rw [LS.sendF, if_neg (fun h => by have h2 := h.2; rw [← HSS.out] at h2; have := Hn1.out; have := HLE.out; simp only at h2; omega)]; rfl
    ·rw [LS.send, if_pos HE.out, ← HSS.out, if_neg (by have := Hn1.out; have := HLE.out; simp only; omega)]; have hx := (HSF.out.drop 2).drop 2; rw [← HLB1.out] at hx; exact hx
end Go.Proofs.Ytngegjboenfmeaa
/- The document's link: its cells; Tick; Send. -/
namespace Go.Proofs.Ytngegjboenfmeaa
open Go Go.RowKit
set_option linter.unusedVariables false
set_option maxRecDepth 100000
set_option linter.unusedSimpArgs false

section
variable {w0 w w' : World} {q r : Nat} {Qs : List SP} {s : LS} {F : List Fr} {E : List Ev}
theorem DLS.c0 (h : DLS w0 w q Qs s F E) : w.cell? ⟨q, 0, none⟩ = some (.int .i64 s.sn) := by
 obtain ⟨_, _, _, _, _, _, _, h⟩ := h; exact cA (i := 0) h rfl 0 rfl
theorem DLS.c1 (h : DLS w0 w q Qs s F E) : w.cell? ⟨q, 1, none⟩ = some (.int .u64 (s.si : Int)) := by
 obtain ⟨_, _, _, _, _, _, _, h⟩ := h; exact cA (i := 0) h rfl 1 rfl
theorem DLS.c2 (h : DLS w0 w q Qs s F E) : w.cell? ⟨q, 2, none⟩ = some (.int .i64 s.peer) := by
 obtain ⟨_, _, _, _, _, _, _, h⟩ := h; exact cA (i := 0) h rfl 2 rfl
theorem DLS.c3 (h : DLS w0 w q Qs s F E) : w.cell? ⟨q, 3, none⟩ = some (.int .u64 (s.conn : Int)) := by
 obtain ⟨_, _, _, _, _, _, _, h⟩ := h; exact cA (i := 0) h rfl 3 rfl
theorem DLS.c4 (h : DLS w0 w q Qs s F E) : w.cell? ⟨q, 4, none⟩ = some (.int .u64 (s.inc : Int)) := by
 obtain ⟨_, _, _, _, _, _, _, h⟩ := h; exact cA (i := 0) h rfl 4 rfl
theorem DLS.c5 (h : DLS w0 w q Qs s F E) : w.cell? ⟨q, 5, none⟩ = some (.int .u64 (s.known : Int)) := by
 obtain ⟨_, _, _, _, _, _, _, h⟩ := h; exact cA (i := 0) h rfl 5 rfl
theorem DLS.c6 (h : DLS w0 w q Qs s F E) : w.cell? ⟨q, 6, none⟩ = some (.bool s.up) := by
 obtain ⟨_, _, _, _, _, _, _, h⟩ := h; exact cA (i := 0) h rfl 6 rfl
theorem DLS.c7 (h : DLS w0 w q Qs s F E) : w.cell? ⟨q, 7, none⟩ = some (.int .u64 (s.base : Int)) := by
 obtain ⟨_, _, _, _, _, _, _, h⟩ := h; exact cA (i := 0) h rfl 7 rfl
theorem DLS.c9 (h : DLS w0 w q Qs s F E) : w.cell? ⟨q, 9, none⟩ = some (.int .u64 (s.got : Int)) := by
 obtain ⟨_, _, _, _, _, _, _, h⟩ := h; exact cA (i := 0) h rfl 9 rfl
theorem DLS.c10 (h : DLS w0 w q Qs s F E) : w.cell? ⟨q, 10, none⟩ = some (.int .u64 (s.heard : Int)) := by
 obtain ⟨_, _, _, _, _, _, _, h⟩ := h; exact cA (i := 0) h rfl 10 rfl
theorem DLS.c11 (h : DLS w0 w q Qs s F E) : w.cell? ⟨q, 11, none⟩ = some (.int .u64 (s.sent : Int)) := by
 obtain ⟨_, _, _, _, _, _, _, h⟩ := h; exact cA (i := 0) h rfl 11 rfl
theorem DLS.c8 (h : DLS w0 w q Qs s F E) : ∃ A c, w.cell? ⟨q, 8, none⟩ = some (.slice A s.box.length c) ∧ s.box.length ≤ c ∧ c ≤ maxLen ∧ Bx w w.heap.size A s.box := by
 obtain ⟨_, _, _, _, _, _, _, h⟩ := h; obtain ⟨A, c, rfl, h1, h2, h3⟩ := sep_boxRForm (i := 1) h rfl; exact ⟨A, c, cA (i := 0) h rfl 8 rfl, h1, h2, h3⟩
theorem DLS.fz (h : DLS w0 w q Qs s F E) (j : Nat) : w.frozen? ⟨q, j, none⟩ = false := by
 obtain ⟨_, _, _, _, _, _, _, h⟩ := h; exact cFz (i := 0) h rfl j
theorem DLS.lt (h : DLS w0 w q Qs s F E) : q < w.heap.size := by
 obtain ⟨_, _, _, _, _, _, _, h⟩ := h; exact sep_ceLt (i := 0) h rfl
theorem DLS.bel (h : DLS w0 w q Qs s F E) : Below w0.heap.size w0 w := by
 obtain ⟨_, _, _, _, _, _, _, h⟩ := h; exact h.bel
theorem DLS.s3 (h : DLS w0 w q Qs s F E) (n : Nat) : DLS w0 (w.setCell ⟨q, 3, none⟩ (.int .u64 (n : Int))) q Qs { s with conn := n } F E := by
 obtain ⟨_, _, _, _, _, e1, e2, h⟩ := h; exact ⟨_, _, _, _, _, e1, e2, cS (i := 0) h rfl 3 _⟩
theorem DLS.s4 (h : DLS w0 w q Qs s F E) (n : Nat) : DLS w0 (w.setCell ⟨q, 4, none⟩ (.int .u64 (n : Int))) q Qs { s with inc := n } F E := by
 obtain ⟨_, _, _, _, _, e1, e2, h⟩ := h; exact ⟨_, _, _, _, _, e1, e2, cS (i := 0) h rfl 4 _⟩
theorem DLS.s5 (h : DLS w0 w q Qs s F E) (n : Nat) : DLS w0 (w.setCell ⟨q, 5, none⟩ (.int .u64 (n : Int))) q Qs { s with known := n } F E := by
 obtain ⟨_, _, _, _, _, e1, e2, h⟩ := h; exact ⟨_, _, _, _, _, e1, e2, cS (i := 0) h rfl 5 _⟩
theorem DLS.s9 (h : DLS w0 w q Qs s F E) (n : Nat) : DLS w0 (w.setCell ⟨q, 9, none⟩ (.int .u64 (n : Int))) q Qs { s with got := n } F E := by
 obtain ⟨_, _, _, _, _, e1, e2, h⟩ := h; exact ⟨_, _, _, _, _, e1, e2, cS (i := 0) h rfl 9 _⟩
theorem DLS.s10 (h : DLS w0 w q Qs s F E) (n : Nat) : DLS w0 (w.setCell ⟨q, 10, none⟩ (.int .u64 (n : Int))) q Qs { s with heard := n } F E := by
 obtain ⟨_, _, _, _, _, e1, e2, h⟩ := h; exact ⟨_, _, _, _, _, e1, e2, cS (i := 0) h rfl 10 _⟩
theorem DLS.s11 (h : DLS w0 w q Qs s F E) (n : Nat) : DLS w0 (w.setCell ⟨q, 11, none⟩ (.int .u64 (n : Int))) q Qs { s with sent := n } F E := by
 obtain ⟨_, _, _, _, _, e1, e2, h⟩ := h; exact ⟨_, _, _, _, _, e1, e2, cS (i := 0) h rfl 11 _⟩
theorem DLS.s6 (h : DLS w0 w q Qs s F E) (b : Bool) : DLS w0 (w.setCell ⟨q, 6, none⟩ (.bool b)) q Qs { s with up := b } F E := by
 obtain ⟨_, _, _, _, _, e1, e2, h⟩ := h; exact ⟨_, _, _, _, _, e1, e2, cS (i := 0) h rfl 6 _⟩
/-- a box's place is taken: the cells later -/
theorem DLS.box {u : Value} {M : List (List UInt8)} (h : DLS w0 w q Qs s F E) (hb : Below w.heap.size w w') (ho : BoxR u M w' (fun k => w.heap.size ≤ k ∧ k < w'.heap.size)) (n : Nat) :
  DLS w0 ((w'.setCell ⟨q, 7, none⟩ (.int .u64 (n : Int))).setCell ⟨q, 8, none⟩ u) q Qs { s with base := n, box := M } F E := by
 obtain ⟨_, _, _, _, _, e1, e2, h⟩ := h; exact ⟨_, _, _, _, _, e1, e2, cS (i := 0) (cS (i := 0) (sep_boxRPut (i := 1) h rfl hb ho) rfl 7 _) rfl 8 _⟩
/-- a block of one's own behind -/
theorem DLS.ce (h : DLS w0 w q Qs s F E) (vs : Array Value) (t : TypeId) : DLS w0 (w.alloc (.cells vs t)) q (Ce w.heap.size t vs :: Qs) s F E := by
 obtain ⟨_, _, _, _, _, e1, e2, h⟩ := h; exact ⟨_, _, _, _, _, e1, e2, ((((((sep_ceF h vs t).tF 6 rfl).tF 6 rfl).tF 6 rfl).tF 6 rfl).tF 6 rfl).tF 6 rfl⟩
/-- a box of one's own behind -/
theorem DLS.addBox {u : Value} {M : List (List UInt8)} (h : DLS w0 w q Qs s F E) (hb : Below w.heap.size w w') (ho : BoxR u M w' (fun k => w.heap.size ≤ k ∧ k < w'.heap.size)) : DLS w0 w' q (BoxR u M :: Qs) s F E := by
 obtain ⟨_, _, _, _, _, e1, e2, h⟩ := h; exact ⟨_, _, _, _, _, e1, e2, (((((((h.add hb ho (BoxR.loc _ _) fun k hk => hk.1).lastFront).tF 6 rfl).tF 6 rfl).tF 6 rfl).tF 6 rfl).tF 6 rfl).tF 6 rfl⟩
theorem DLS.box1 {P : SP} {u : Value} {M : List (List UInt8)} (h : DLS w0 w q (P :: BoxR u M :: Qs) s F E) (n : Nat) :
  DLS w0 ((w.setCell ⟨q, 7, none⟩ (.int .u64 (n : Int))).setCell ⟨q, 8, none⟩ u) q (P :: Qs) { s with base := n, box := M } F E := by
 obtain ⟨_, _, _, _, _, e1, e2, h⟩ := h; exact ⟨_, _, _, _, _, e1, e2, ((((cS (i := 0) (cS (i := 0) h rfl 7 (.int .u64 (n : Int))) rfl 8 u).tF 7 rfl).drop 2).tF 1 rfl)⟩
theorem DLS.popQ {P : SP} (h : DLS w0 w q (P :: Qs) s F E) : DLS w0 w q Qs s F E := by
 obtain ⟨_, _, _, _, _, e1, e2, h⟩ := h; exact ⟨_, _, _, _, _, e1, e2, h.drop 6⟩
/-- between calls -/
def DL0 (w0 W : World) (q : Nat) (Qs : List SP) (s : LS) : Prop := ∃ bx, Sep w0 W (DL q Qs s bx (.slice none 0 0) (.slice none 0 0) [] [])
theorem DL0.dls (h : DL0 w0 w q Qs s) : DLS w0 w q Qs s [] [] := by
 obtain ⟨bx, h⟩ := h; exact ⟨_, _, _, _, _, rfl, rfl, h⟩
theorem DL0.ce (h : DL0 w0 w q Qs s) (vs : Array Value) (t : TypeId) : DL0 w0 (w.alloc (.cells vs t)) q (Ce w.heap.size t vs :: Qs) s := by
 obtain ⟨bx, h⟩ := h; exact ⟨bx, ((((((sep_ceF h vs t).tF 6 rfl).tF 6 rfl).tF 6 rfl).tF 6 rfl).tF 6 rfl).tF 6 rfl⟩
theorem DL0.grow (h : DL0 w0 w q Qs s) (hb : Below w.heap.size w w') : DL0 w0 w' q Qs s := by
 obtain ⟨bx, h⟩ := h; exact ⟨bx, h.grow hb⟩
/-- nothing is answered -/
theorem DL0.none (h : DL0 w0 w q Qs s) : DAns w0 w q Qs s [] [] (.agg #[.slice none 0 0, .slice none 0 0]) := by
 obtain ⟨bx, h⟩ := h; exact ⟨_, _, bx, [], [], rfl, rfl, rfl, sep_rwNilF (sep_bodsNil (sep_rwNilF (sep_bodsNil h) 49 4)) 51 10⟩
theorem DLS.q0 {P : SP} (h : DLS w0 w q (P :: Qs) s F E) : ∃ Ps, Sep w0 w Ps ∧ Ps[6]? = some P := by
 obtain ⟨bx, vF, vE, LP, LE, _, _, h⟩ := h; exact ⟨_, h, rfl⟩
theorem DLS.q1 {O P : SP} (h : DLS w0 w q (O :: P :: Qs) s F E) : ∃ Ps, Sep w0 w Ps ∧ Ps[7]? = some P := by
 obtain ⟨bx, vF, vE, LP, LE, _, _, h⟩ := h; exact ⟨_, h, rfl⟩
/-- the answer is laid in the result's block -/
theorem DAns.res {t : TypeId} {x y v : Value} (h : DAns w0 w q (Ce r t #[x, y] :: Qs) s F E v) : ∃ FA fn fc EA en ec, v = .agg #[.slice FA fn fc, .slice EA en ec] ∧ w.cell? ⟨r, 0, none⟩ = some x ∧ w.cell? ⟨r, 1, none⟩ = some y ∧ w.frozen? ⟨r, 0, none⟩ = false ∧ w.frozen? ⟨r, 1, none⟩ = false ∧
  ((w.setCell ⟨r, 0, none⟩ (.slice FA fn fc)).setCell ⟨r, 1, none⟩ (.slice EA en ec)).cell? ⟨r, 0, none⟩ = some (.slice FA fn fc) ∧ ((w.setCell ⟨r, 0, none⟩ (.slice FA fn fc)).setCell ⟨r, 1, none⟩ (.slice EA en ec)).cell? ⟨r, 1, none⟩ = some (.slice EA en ec) ∧ DAns w0 ((w.setCell ⟨r, 0, none⟩ (.slice FA fn fc)).setCell ⟨r, 1, none⟩ (.slice EA en ec)) q Qs s F E (.agg #[.slice FA fn fc, .slice EA en ec]) := by
 obtain ⟨vF, vE, bx, LP, LE, rfl, e1, e2, h⟩ := h; obtain ⟨FA, fc, rfl, _⟩ := sep_rwForm (i := 0) h rfl; obtain ⟨EA, ec, rfl, _⟩ := sep_rwForm (i := 2) h rfl; have h1 := cS (i := 10) (cS (i := 10) h rfl 0 (.slice FA LP.length fc)) rfl 1 (.slice EA LE.length ec); exact ⟨FA, _, fc, EA, _, ec, rfl, cA (i := 10) h rfl 0 rfl, cA (i := 10) h rfl 1 rfl, cFz (i := 10) h rfl 0, cFz (i := 10) h rfl 1, cA (i := 10) h1 rfl 0 rfl, cA (i := 10) h1 rfl 1 rfl, _, _, bx, LP, LE, rfl, e1, e2, h1.drop 10⟩
theorem DAns.popQ {P : SP} {v : Value} (h : DAns w0 w q (P :: Qs) s F E v) : DAns w0 w q Qs s F E v := by
 obtain ⟨vF, vE, bx, LP, LE, e0, e1, e2, h⟩ := h; exact ⟨vF, vE, bx, LP, LE, e0, e1, e2, h.drop 10⟩
theorem DAns.swap {P P' : SP} {v : Value} (h : DAns w0 w q (P :: P' :: Qs) s F E v) : DAns w0 w q (P' :: P :: Qs) s F E v := by
 obtain ⟨vF, vE, bx, LP, LE, e0, e1, e2, h⟩ := h; exact ⟨vF, vE, bx, LP, LE, e0, e1, e2, ((((((((((((h.tF 10 rfl).tF 11 rfl).tF 11 rfl).tF 11 rfl).tF 11 rfl).tF 11 rfl).tF 11 rfl).tF 11 rfl).tF 11 rfl).tF 11 rfl).tF 11 rfl).tF 11 rfl)⟩
end
set_option maxHeartbeats 3200000 in
theorem rk_tick {w0 w : World} {q now : Nat} {Qs : List SP} {s : LS} (h : DLS w0 w q Qs s [] []) (hs : s.Num) (hcn : s.conn + 1 < 18446744073709551616) (hnow : now < 18446744073709551616) :
  Calls Try.prog 53 #[.pointer (some ⟨q, 0, none⟩), .int .u64 (now : Int)] w fun e w' => ∃ v, e = .returned v ∧ DAns w0 w' q Qs (s.tick now) (s.tickF now) (s.tickE now) v := by
 have HS0 := Lib.hid (h.ce #[.slice none 0 0, .slice none 0 0] 43); have HOK := Lib.hid hs; obtain ⟨r, Hr⟩ : ∃ x, Hid (w.heap.size = x) := ⟨_, Lib.hid rfl⟩; obtain ⟨z, Hz⟩ : ∃ z, Hid ((s.up && decide (4 ≤ ticks now s.heard)) = z) := ⟨_, Lib.hid rfl⟩; rw [Hr.out] at HS0; have k6 := HS0.out.c6; have k10 := HS0.out.c10; clear h hs; go_enter Try.func53, Try.ntmps53
 go_upto_region 1 with fail
 rw [Hr.out]; obtain ⟨wa, Hwa⟩ : ∃ x, Hid (w.alloc (.cells #[.slice none 0 0, .slice none 0 0] 43) = x) := ⟨_, Lib.hid rfl⟩; rw [Hwa.out] at HS0 k6 k10 ⊢
 go_cut [17] from 5 to 60 (fun t wx => t = .bool z ∧ DLS w0 wx q (Ce r 43 #[.slice none 0 0, .slice none 0 0] :: Qs) s [] [])
 case first =>
  cases hu : s.up with
  | false =>
   rw [hu] at k6 Hz
   go_wp2_with fail
   go_meet
   case rel => exact ⟨by rw [← Hz.out]; rfl, HS0.out⟩
  | true =>
   rw [hu] at k6 Hz
   go_wp2_with fail
   refine (since_any _ now s.heard hnow).mono ?_; rintro e w2 ⟨rfl, hb⟩; have HS1 := Lib.hid (HS0.out.grow hb); clear HS0 hb k6 k10; obtain ⟨y, Hy⟩ : ∃ y, Hid (ticks now s.heard = y) := ⟨_, Lib.hid rfl⟩; rw [Hy.out] at Hz ⊢
   go_wp2_with fail
   go_meet
   case rel => exact ⟨by rw [← Hz.out]; simp; omega, HS1.out⟩
 case rest =>
  obtain ⟨rfl, hS⟩ := hcut; clear HS0 k6 k10; have HS1 := Lib.hid hS; clear hS
  go_upto_if 17 with fail
  go_cut [] from 5 to 60 (fun wx => DLS w0 wx q (Ce r 43 #[.slice none 0 0, .slice none 0 0] :: Qs) (s.tick1 now) [] (s.tickE now))
  case first =>
   cases z with
   | false =>
    go_wp2_with fail
    go_meet
    case rel =>
     obtain ⟨e1, e2⟩ := LS.tick1_no (s := s) (now := now) Hz.out; rw [e1, e2]; exact HS1.out
   | true =>
    have hup : s.up = true := by have := Hz.out; simp only [Bool.and_eq_true] at this; exact this.1
    go_wp2_with fail
    refine (rk_down HS1.out (by simp)).mono ?_; rintro e w3 ⟨rfl, h3⟩; rw [hup] at h3; have k3 := h3.c3; have f3 := h3.fz 3; have k3' : w3.cell? ⟨q, 3, none⟩ = some (.int .u64 (s.conn : Int)) := k3; have hc : s.conn + 1 < 18446744073709551616 := hcn; have HS3 := Lib.hid h3; clear h3 HS1 k3 hup
    go_wp2_with fail
    go_meet
    case rel =>
     obtain ⟨e1, e2⟩ := LS.tick1_yes (s := s) (now := now) Hz.out; rw [e1, e2]; exact HS3.out.s3 (s.conn + 1)
  case rest =>
   clear HS1; have HS2 := Lib.hid hcut; clear hcut; obtain ⟨t, Ht⟩ : ∃ t, Hid (s.tick1 now = t) := ⟨_, Lib.hid rfl⟩; have HOT : Hid t.Num := Lib.hid (by rw [← Ht.out]; exact HOK.out.tick1 now); rw [Ht.out] at HS2
   go_wp2_with fail
   refine (rk_hello HS2.out).mono ?_; rintro e w4 ⟨rfl, h4⟩; have HS4 := Lib.hid h4; clear h4 HS2
   go_wp2_with fail
   refine (rk_send0 (f := t.hello) rfl HS4.out (by simp)).mono ?_; rintro e w5 ⟨rfl, h5⟩; have HS5 := Lib.hid h5; clear h5 HS4
   go_upto_region 5 with fail
   obtain ⟨z2, Hz2⟩ : ∃ z, Hid (t.again now = z) := ⟨_, Lib.hid rfl⟩
   go_cut [52] from 5 to 60 (fun x wx => x = .bool z2 ∧ DLS w0 wx q (Ce r 43 #[.slice none 0 0, .slice none 0 0] :: Qs) t [t.hello] (s.tickE now))
   case first =>
    have k6 := HS5.out.c6; have k11 := HS5.out.c11; obtain ⟨BA, bc, k8, _, _, _⟩ := HS5.out.c8; have hbl := HOT.out.box; cases hu : t.up with
    | false =>
     rw [hu] at k6
     go_wp2_with fail
     go_meet
     case rel => exact ⟨by rw [← Hz2.out, LS.again, hu]; rfl, by simpa using HS5.out⟩
    | true =>
     rw [hu] at k6
     by_cases hb0 : 0 < t.box.length
     ·have g1 : decide (0 < (t.box.length : Int)) = true := decide_eq_true (by omega); have Hz3 : Hid (z2 = decide (2 ≤ ticks now t.sent)) := Lib.hid (by rw [← Hz2.out, LS.again, hu, decide_eq_true hb0]; rfl); clear hu
      go_wp2_with fail
      refine (since_any _ now t.sent hnow).mono ?_; rintro e w6 ⟨rfl, hb⟩; have HS6 := Lib.hid (HS5.out.grow hb); clear HS5 hb k6 k11 k8; obtain ⟨y, Hy⟩ : ∃ y, Hid (ticks now t.sent = y) := ⟨_, Lib.hid rfl⟩; rw [Hy.out] at Hz3 ⊢
      go_wp2_with fail
      go_meet
      case rel => exact ⟨by rw [Hz3.out]; simp; omega, by simpa using HS6.out⟩
     ·have g1 : decide (0 < (t.box.length : Int)) = false := decide_eq_false (by omega); have Hz3 : Hid (z2 = false) := Lib.hid (by rw [← Hz2.out, LS.again, decide_eq_false hb0]; simp); clear hu
      go_wp2_with fail
      go_meet
      case rel => exact ⟨by rw [Hz3.out], by simpa using HS5.out⟩
   case rest =>
    obtain ⟨rfl, hS⟩ := hcut; clear HS5; have HS6 := Lib.hid hS; clear hS
    go_upto_if 52 with fail
    go_cut [] from 5 to 60 (fun wx => DLS w0 wx q (Ce r 43 #[.slice none 0 0, .slice none 0 0] :: Qs) (s.tick now) (s.tickF now) (s.tickE now))
    case first =>
     have e1 : s.tick now = if z2 then { t with sent := now } else t := by rw [← Hz2.out, ← Ht.out]; rfl
     have e2 : s.tickF now = t.hello :: if z2 then t.due.map t.data else [] := by rw [← Hz2.out, ← Ht.out]; rfl
     cases z2 with
     | false =>
      have E1 := Lib.hid e1; have E2 := Lib.hid e2; clear e1 e2
      go_wp2_with fail
      go_meet
      case rel => rw [E1.out, E2.out]; exact HS6.out
     | true =>
      have E1 := Lib.hid e1; have E2 := Lib.hid e2; clear e1 e2
      go_wp2_with fail
      refine (rk_all (above := 0) HS6.out HOT.out (by simp) (by omega)).mono ?_; rintro e w7 ⟨rfl, h7⟩; have hfr : t.fresh 0 = t.due := List.filter_eq_self.2 fun x hx => by
       obtain ⟨k, hk⟩ := List.mem_iff_getElem?.1 hx; simp only [LS.due, items, List.getElem?_mapIdx, Option.map_eq_some_iff] at hk; obtain ⟨l, _, rfl⟩ := hk; simp only [decide_eq_true_eq]; omega
      rw [hfr] at h7; have HS7 := Lib.hid h7; have k11 := h7.c11; have f11 := h7.fz 11; clear h7 HS6 hfr
      go_wp2_with fail
      go_meet
      case rel =>
       rw [E1.out, E2.out]; have := HS7.out.s11 now; simpa using this
    case rest =>
     clear HS6; have HS7 := Lib.hid hcut; clear hcut
     go_wp2_with fail
     refine (rk_answered HS7.out).mono ?_; rintro e w8 ⟨v, rfl, h8⟩; obtain ⟨FA, fn, fc, EA, en, ec, rfl, k0, k1, f0, f1, j0, j1, h9⟩ := h8.res; have HS9 := Lib.hid h9; clear h8 h9 HS7
     go_wp2_with fail
     refine bodyPost_ret (v := .agg #[.slice FA fn fc, .slice EA en ec]) (by simp [results, Try.results53, go_sem, j0, j1]) rfl ?_; exact ⟨_, rfl, HS9.out⟩
theorem sep_boxRAt {w0 w : World} {Ps : List SP} {i n c : Nat} {A : Option Addr} {L : List (List UInt8)} (h : Sep w0 w Ps) (hi : Ps[i]? = some (BoxR (.slice A n c) L)) : Bx w w.heap.size A L := by
 obtain ⟨A', c', e, _, _, hh⟩ := sep_boxRForm h hi; simp only [Value.slice.injEq] at e; rw [e.1]; exact hh
theorem fresh_send {s : LS} (hs : s.Num) {b : List UInt8} (he : s.sendE b = 0) (hu : s.up = true) : (({ s with box := s.box ++ [b] } : LS).fresh (s.base + min s.box.length 8)).map ({ s with box := s.box ++ [b] } : LS).data = s.sendF b ∧ ({ s with box := s.box ++ [b] } : LS).Num := by
 have hn := hs.send (now := 0) (by decide) b; have hn2 : ({ s with box := s.box ++ [b] } : LS).Num := by
  simp only [LS.send, he, if_true] at hn; exact ⟨hs.sn, hn.base, hn.box, hn.bodies, hs.got, hs.heard, hs.sent⟩
 refine ⟨?_, hn2⟩; rw [← freshN_all hn2]; have hd : ∀ k, k ≤ s.box.length → k ≤ 8 → freshN ({ s with box := s.box ++ [b] } : LS) (s.base + min s.box.length 8) k = [] := by
  intro k
  induction k with
  | zero => intro _ _; exact freshN_zero _ _
  | succ k ih =>
   intro h1 h2; obtain ⟨l, _, hl⟩ := fresh_at hn2 (k := k) (by simp; omega); rw [freshN_no hl (by simp only; omega)]; exact ih (by omega) (by omega)
 by_cases h8 : s.box.length < 8
 ·obtain ⟨l, hl0, hl⟩ := fresh_at hn2 (k := s.box.length) (by simp; omega); have hlb : l = b := by simpa using hl0.symm
  have e1 : min ({ s with box := s.box ++ [b] } : LS).box.length 8 = s.box.length + 1 := by simp; omega
  rw [e1, freshN_yes hl (by simp only; omega), hd _ (Nat.le_refl _) (by omega)]; simp only [LS.sendF, he, h8, and_self, if_true, List.nil_append, List.map_cons, List.map_nil, hlb]; rfl
 ·have e1 : min ({ s with box := s.box ++ [b] } : LS).box.length 8 = 8 := by simp; omega
  rw [e1, hd _ (by omega) (Nat.le_refl _)]; simp [LS.sendF, h8]
set_option maxHeartbeats 3200000 in
theorem rk_send12 {w0 w : World} {q now : Nat} {Qs : List SP} {s : LS} {b : List UInt8} {CA : Option Addr} {cc : Nat} (h : DL0 w0 w q Qs s) (hs : s.Num) (hh : Has w w.heap.size CA (us b)) (hbl : b.length ≤ 1000000) (hnow : now < 18446744073709551616) :
  Calls Try.prog 54 #[.pointer (some ⟨q, 0, none⟩), .int .u64 (now : Int), .slice CA b.length cc] w fun e w' => ∃ v, e = .returned (.tuple #[v, .int .i64 (s.sendE b : Int)]) ∧ DAns w0 w' q Qs (s.send now b) (s.sendF b) [] v := by
 have HS0 := Lib.hid (h.ce #[.slice none 0 0, .slice none 0 0] 43); have HH0 : Hid (Has (w.alloc (.cells #[.slice none 0 0, .slice none 0 0] 43)) (w.alloc (.cells #[.slice none 0 0, .slice none 0 0] 43)).heap.size CA (us b)) := Lib.hid ((hh.alloc (Nat.le_refl _) _).more (by simp)); have HOK := Lib.hid hs; obtain ⟨r, Hr⟩ : ∃ x, Hid (w.heap.size = x) := ⟨_, Lib.hid rfl⟩; rw [Hr.out] at HS0; have k6 := HS0.out.dls.c6; obtain ⟨j, Hj⟩ : ∃ j, Hid (s.sendE b = j) := ⟨_, Lib.hid rfl⟩; clear h hs hh; go_enter Try.func54, Try.ntmps54
 go_upto_region 1 with fail
 rw [Hr.out]; obtain ⟨wa, Hwa⟩ : ∃ x, Hid (w.alloc (.cells #[.slice none 0 0, .slice none 0 0] 43) = x) := ⟨_, Lib.hid rfl⟩; rw [Hwa.out] at HS0 k6 HH0 ⊢; cases hu : s.up with
 | false =>
  rw [hu] at k6; obtain ⟨FA, fn, fc, EA, en, ec, e0, k0, k1, f0, f1, j0, j1, h9⟩ := HS0.out.none.res; simp only [Value.agg.injEq, Array.mk.injEq, List.cons.injEq, Value.slice.injEq, and_true] at e0; obtain ⟨⟨rfl, rfl, rfl⟩, rfl, rfl, rfl⟩ := e0; have HS9 := Lib.hid h9; have Hj7 : Hid (j = 7) := Lib.hid (by rw [← Hj.out, LS.sendE, hu]; rfl); clear h9 HS0
  go_wp2_with fail
  refine bodyPost_ret (v := .tuple #[.agg #[.slice none 0 0, .slice none 0 0], .int .i64 7]) (by simp [results, Try.results54, go_sem, j0, j1]) rfl ?_; refine ⟨_, by rw [Hj.out, Hj7.out]; rfl, ?_⟩; have hne : ¬ s.sendE b = 0 := by rw [Hj.out, Hj7.out]; decide
  rw [show s.send now b = s by simp [LS.send, hne], show s.sendF b = [] by simp [LS.sendF, hne]]; exact HS9.out
 | true =>
  rw [hu] at k6; have Hj2 : Hid (pushE s.base s.box b = j) := Lib.hid (by rw [← Hj.out, LS.sendE, hu]; rfl); have k7 := HS0.out.dls.c7; obtain ⟨BA, bc, k8, _, _, hbx⟩ := HS0.out.dls.c8; have HBX := Lib.hid hbx; have hb1 := HOK.out.base; clear hbx
  go_wp2_with fail
  refine (pushR_any _ s.base BA bc s.box CA cc b HBX.out HH0.out (by omega) HOK.out.fit hbl).mono ?_; rintro e w2 ⟨hb2, ⟨hne, rfl⟩ | ⟨he0, v, rfl, ho⟩⟩
  ·rw [Hj2.out] at hne ⊢; have g1 : ((j : Int) == 0) = false := by simp; omega
   obtain ⟨FA, fn, fc, EA, en, ec, e0, k0, k1, f0, f1, j0, j1, h9⟩ := ((HS0.out.grow hb2).ce #[.int .u64 0, .slice none 0 0] 68).none.swap.res; simp only [Value.agg.injEq, Array.mk.injEq, List.cons.injEq, Value.slice.injEq, and_true] at e0; obtain ⟨⟨rfl, rfl, rfl⟩, rfl, rfl, rfl⟩ := e0; have HS9 := Lib.hid h9.popQ; have Hne := Lib.hid hne; clear h9 HS0 HH0 HBX hb2 k6 k7 k8 hne
   go_wp2_with fail
   refine bodyPost_ret (v := .tuple #[.agg #[.slice none 0 0, .slice none 0 0], .int .i64 (j : Int)]) (by simp [results, Try.results54, go_sem, j0, j1]) rfl ?_; refine ⟨_, by rw [Hj.out], ?_⟩; have hne : ¬ s.sendE b = 0 := by rw [Hj.out]; exact Hne.out
   rw [show s.send now b = s by simp [LS.send, hne], show s.sendF b = [] by simp [LS.sendF, hne]]; exact HS9.out
  ·have hj0 : j = 0 := by rw [← Hj2.out]; exact he0
   have hse : s.sendE b = 0 := by rw [Hj.out]; exact hj0
   clear he0; obtain ⟨M, HM⟩ : ∃ M, Hid (s.box ++ [b] = M) := ⟨_, Lib.hid rfl⟩; obtain ⟨hfs, hn1⟩ := fresh_send HOK.out hse hu; rw [HM.out] at ho hfs hn1; have HN1 := Lib.hid hn1; have HFS := Lib.hid hfs; obtain ⟨VA, vc, rfl, _, _, _⟩ := ho.form (fun l hl => by have := (bodyB_len (hn1.bodies l hl)).2; omega); have HS3 := Lib.hid ((HS0.out.dls.addBox hb2 (BoxR.of_own ho (fun l hl => by have := (bodyB_len (hn1.bodies l hl)).2; omega))).ce #[.int .u64 (s.base : Int), .slice VA M.length vc] 68); have hml : M.length = s.box.length + 1 := by rw [← HM.out]; simp
   have HML := Lib.hid hml; have HSE := Lib.hid hse; clear hfs hn1 ho HS0 HH0 HBX hb2 hml k6 k7 k8 hse; subst hj0
   go_upto_region 6 with fail
   obtain ⟨a, Ha⟩ : ∃ x, Hid (w2.heap.size = x) := ⟨_, Lib.hid rfl⟩; rw [Ha.out] at HS3; obtain ⟨W3, HW3⟩ : ∃ x, Hid (w2.alloc (.cells #[.int .u64 (s.base : Int), .slice VA M.length vc] 68) = x) := ⟨_, Lib.hid rfl⟩; rw [HW3.out] at HS3 ⊢; rw [Ha.out]; obtain ⟨bx, vF, vE, LP, LE, e1, e2, h3⟩ := HS3.out; clear HS3; obtain ⟨BA, bc, rfl, _⟩ := sep_boxRForm (i := 1) h3 rfl; have HSR := Lib.hid h3; have HE1 := Lib.hid e1; have HE2 := Lib.hid e2; clear h3 e1 e2; obtain ⟨d, HD⟩ : ∃ d, Hid (min s.box.length 8 = d) := ⟨_, Lib.hid rfl⟩; have hd8 : d ≤ 8 := by have := HD.out; omega
   obtain ⟨lst, HLST⟩ : ∃ x, Hid (s.base + d = x) := ⟨_, Lib.hid rfl⟩; have hll : lst ≤ 34359738400 := by have := HLST.out; have := HOK.out.base; have := HOK.out.box; omega
   have ew : IntKind.u64.wrap (d : Int) = (d : Int) := u64_wrapG (by omega) (by omega); have ev : IntKind.u64.wrap ((s.base : Int) + (d : Int)) = ((lst : Nat) : Int) := by
    have := HLST.out
    rw [← this, Int.natCast_add]; exact u64_wrapG (by omega) (by omega)
   have HDU : Hid (∀ W : World, Bx W W.heap.size BA s.box → Calls Try.prog 68 #[.agg #[.int .u64 (s.base : Int), .slice BA s.box.length bc]] W fun e w' => e = .returned (.int .i64 (d : Int)) ∧ Below W.heap.size W w') := Lib.hid fun W hW => by
    have h := dueR_any W W.heap.size s.base BA bc s.box hW (Nat.le_refl _) (by have := HOK.out.base; omega) (by have := HOK.out.box; unfold maxLen; omega)
    rwa [dueN, if_pos HOK.out.may, HD.out] at h
   refine wRG (fun dn xv W => Sep w0 W (DL q (Ce a 68 #[.int .u64 (s.base : Int), .slice VA M.length vc] :: BoxR (.slice VA M.length vc) M :: Ce r 43 #[.slice none 0 0, .slice none 0 0] :: Qs) s (.slice BA s.box.length bc) vF vE LP LE)) (fun _ _ => True) [xP_ q 0, xP_ q 0, xP_ q 7, xP_ q 7, xV_ (.int .u64 (s.base : Int)), xP_ q 0, xP_ q 0, xP_ q 7, xV_ (.agg #[.int .u64 (s.base : Int), .slice BA s.box.length bc]), xV_ (.int .i64 (d : Int)), xV_ (.int .u64 (d : Int)), xV_ (.int .u64 (lst : Int)), xV_ (.int .u64 (lst : Int))] (fun xv => by simpa using HSR.out.drew) ?_ ?_
   ·refine Ep 1 0 q 0 ?_
    refine Ee 2 30 0 ?_
    refine Ee 3 31 1 ?_
    refine Ee 4 32 2 ?_
    refine EC 5 rfl (fun g h W F a b c d e H K f => ?_) ?_
    ·have f33 := gE (a 33) (by kernel_rfl) (H 3) (by kernel_rfl); have k7 : W.cell? ⟨q, 7, none⟩ = some (.int .u64 (s.base : Int)) := cA (i := 0) e rfl 7 rfl; clear H c b d a; refine oP rfl ?_; go_simp; exact f.out _ _ rfl trivial e
    refine Ep 6 0 q 0 ?_
    refine Ee 7 35 5 ?_
    refine Ee 8 36 6 ?_
    refine EC 9 rfl (fun g h W F a b c d e H K f => ?_) ?_
    ·have f37 := gE (a 37) (by kernel_rfl) (H 7) (by kernel_rfl); have k7 : W.cell? ⟨q, 7, none⟩ = some (.int .u64 (s.base : Int)) := cA (i := 0) e rfl 7 rfl; have k8 : W.cell? ⟨q, 8, none⟩ = some (.slice BA s.box.length bc) := cA (i := 0) e rfl 8 rfl; clear H c b d a; refine oP rfl ?_; go_simp; exact f.out _ _ rfl trivial e
    refine EC 10 rfl (fun h j W F a b c d f H K g => ?_) ?_
    ·have f38 := gE (a 38) (by kernel_rfl) (H 8) (by kernel_rfl); clear H c b d a; refine oP rfl ?_; go_simp; refine (HDU.out W (sep_boxRAt (i := 1) f rfl)).mono ?_; rintro e W' ⟨rfl, hb⟩; have f := f.grow hb; exact g.out _ W' rfl trivial (by simpa [upB, upd] using f)
    refine Ee 11 39 9 ?_
    refine Eee 12 34 4 40 10 ?_
    refine Ee 13 41 11 ?_
    exact EN
   ·intro dn xv W hI H; have q12 : xv 12 = .int .u64 (lst : Int) := (H 12 (of_decide_eq_true (by kernel_rfl))).2; have hS : Sep w0 W (DL q (Ce a 68 #[.int .u64 (s.base : Int), .slice VA M.length vc] :: BoxR (.slice VA M.length vc) M :: Ce r 43 #[.slice none 0 0, .slice none 0 0] :: Qs) s (.slice BA s.box.length bc) vF vE LP LE) := hI; clear H hI; simp only [putAll, Act.put, List.setIfInBounds_toArray, List.set_cons_zero, List.set_cons_succ, Nat.reduceAdd, q12]; clear q12; have k7 : W.cell? ⟨q, 7, none⟩ = some (.int .u64 (s.base : Int)) := cA (i := 0) hS rfl 7 rfl; have k8 : W.cell? ⟨q, 8, none⟩ = some (.slice BA s.box.length bc) := cA (i := 0) hS rfl 8 rfl; have f7 := cFz (i := 0) hS rfl 7; have f8 := cFz (i := 0) hS rfl 8; have a0 : W.cell? ⟨a, 0, none⟩ = some (.int .u64 (s.base : Int)) := cA (i := 6) hS rfl 0 rfl; have a1 : W.cell? ⟨a, 1, none⟩ = some (.slice VA M.length vc) := cA (i := 6) hS rfl 1 rfl; have HS4 : Hid (DLS w0 W q (Ce a 68 #[.int .u64 (s.base : Int), .slice VA M.length vc] :: BoxR (.slice VA M.length vc) M :: Ce r 43 #[.slice none 0 0, .slice none 0 0] :: Qs) s [] []) := Lib.hid ⟨_, _, _, _, _, HE1.out, HE2.out, hS⟩; have HS5 := Lib.hid (HS4.out.box1 s.base); clear hS HSR HE1 HE2 HS4
    go_wp2_with fail
    refine (rk_all (above := lst) HS5.out HN1.out (by simp) (by omega)).mono ?_; rintro e w7 ⟨rfl, h7⟩; rw [← HLST.out, ← HD.out, HFS.out, List.nil_append] at h7; obtain ⟨Ps, hq0, hp0⟩ := h7.q0; have a1 : w7.cell? ⟨a, 1, none⟩ = some (.slice VA M.length vc) := cA hq0 hp0 1 rfl; have HS7 := Lib.hid h7; clear h7 hq0 hp0 HS5 k7 k8 f7 f8 a0
    by_cases hm : M.length = 1
    ·have g1 : ((M.length : Int) == 1) = true := by simp; omega
     have g2 : (M.length == 1) = true := by simp; omega
     have HM0 : Hid (s.box.length = 0) := Lib.hid (by have := HML.out; omega); have k11 := HS7.out.c11; have f11 := HS7.out.fz 11; clear hm
     go_wp2_with fail
     refine (rk_answered (HS7.out.s11 now).popQ).mono ?_; rintro e w8 ⟨v, rfl, h8⟩; obtain ⟨FA, fn, fc, EA, en, ec, rfl, k0, k1, f0, f1, j0, j1, h9⟩ := h8.res; have HS9 := Lib.hid h9; clear h8 h9 HS7 a1 k11 f11
     go_wp2_with fail
     refine bodyPost_ret (v := .tuple #[.agg #[.slice FA fn fc, .slice EA en ec], .int .i64 0]) (by simp [results, Try.results54, go_sem, j0, j1]) rfl ?_; refine ⟨_, by rw [Hj.out]; rfl, ?_⟩; rw [show s.send now b = { s with box := M, sent := now } by simp [LS.send, HSE.out, HM.out, HM0.out]]; exact HS9.out
    ·have g1 : ((M.length : Int) == 1) = false := by simp; omega
     have g2 : (M.length == 1) = false := by simp; omega
     have HM0 : Hid (¬ s.box.length = 0) := Lib.hid (by have := HML.out; omega); clear hm
     go_wp2_with fail
     refine (rk_answered HS7.out.popQ).mono ?_; rintro e w8 ⟨v, rfl, h8⟩; obtain ⟨FA, fn, fc, EA, en, ec, rfl, k0, k1, f0, f1, j0, j1, h9⟩ := h8.res; have HS9 := Lib.hid h9; clear h8 h9 HS7 a1
     go_wp2_with fail
     refine bodyPost_ret (v := .tuple #[.agg #[.slice FA fn fc, .slice EA en ec], .int .i64 0]) (by simp [results, Try.results54, go_sem, j0, j1]) rfl ?_; refine ⟨_, by rw [Hj.out]; rfl, ?_⟩; rw [show s.send now b = { s with box := M } by simp [LS.send, HSE.out, HM.out, HM0.out]]; exact HS9.out
end Go.Proofs.Ytngegjboenfmeaa
