/- The chapter's first example of the statements over window: awake. -/
import Derived.Test.YtmjlehofjholaaaWinG
namespace Go.Proofs.Ytmjlehofjholaaa
open Go Go.RowKit Go.Shelf
set_option linter.unusedVariables false
set_option maxRecDepth 100000
attribute [local go_sem] Oper.semAt_some

theorem run_equalIn_seq_nil (W : World) (d : Nat) (f : Fn) (a b : Array Value) : (Op.equalIn (d + 1) 37 (.func f a b) .nilFunc).run Try.prog W = .ok false W := by
  have h := Try.underlying37
  rw [Op.equalIn]
  simp [run_underlying h]
theorem run_eql_seq_nil (W : World) (f : Fn) (a b : Array Value) : (binOp .eql 37 (.func f a b) .nilFunc).run Try.prog W = .ok (.bool false) W := by
  simp only [binOp]
  simp [Op.equal, Op.maxDepth, run_equalIn_seq_nil W 9999 f a b]

theorem own_grown {W W' : World} {row : Option Nat} {n : Nat} {v : Value} {l : List UInt8} (h : Own W n v l) (hg : W.grownBy W' row) (hr : ∀ r, row = some r → ∃ o : Obj, W.heap[r]? = some o ∧ o.isCells = false) : Own W' n v l := by
  refine row_keep h fun k hk => ?_
  have hlt := own_lt h hk
  refine hg.block k hlt.2 fun e => ?_
  obtain ⟨o, ho, hc⟩ := hr k e.symm
  rcases h.2 with ⟨rfl, _⟩ | ⟨g, cap, cur, rfl, h2, h3, h4⟩
  · cases hk
  · obtain rfl : g = k := by simpa [Value.ownBlock] using hk
    rw [h3] at ho
    cases ho
    cases hc
theorem valid_own {B n : Nat} {p : Prop} {v : Value} {l : List UInt8} : OwnFrom B (fun (_ : Unit) W => p ∧ Own W n v l) := fun _ W W' row hs hg hr => ⟨hs.1, own_grown hs.2 hg fun r e => (hr r e).2⟩

/-- a function whose body holds a range over a function -/
theorem calls_marks (n : Nat) {f : FuncId} {fn : Func} {c : Code} {args : Array Value} {w : World} {R : Ending → World → Prop} (hf : Try.prog.funcs[f]? = some fn) (hb : fn.body = some c)
    (h : c.wp Try.prog (bodyPostM Fence.wide n Try.prog fn R) { tmps := args ++ Array.replicate (fn.ntmps - args.size) undef, defers := [] } w) : Calls Try.prog f args w R :=
  callsIn_wide.1 (callsIn_of_wp_marks (n := n) hf hb trivial (wpIn_wide.2 h) rfl)

set_option maxHeartbeats 1000000 in
theorem awake_any (w : World) : Calls Try.prog 11 #[] w fun e w' => e = .returned (.bool true) ∧ Below w.heap.size w w' := by
  have kc2 := conv2
  refine calls_marks 6 Try.func11 rfl ?_
  simp only [Try.ntmps11, List.size_toArray, List.length_nil, Nat.reduceSub, Array.replicate_succ, Array.replicate_zero, List.push_toArray, List.append_toArray, List.nil_append, List.cons_append]
  go_wp2_with fail
  refine (push_any _ 0 none 0 [] (some ⟨w.heap.size + 1, 0, none⟩) 1 [97] Bx.nil (by have := has_new (w.alloc (.cells #[.bool false] 4)) #[.int .u8 97] 5 (1, 2); simpa [us, go_sem] using this) (by omega) ⟨by simp, by simp⟩ (by simp)).mono ?_
  rintro e w1 ⟨hb1, (⟨h, _⟩ | ⟨_, v1, rfl, ho1⟩)⟩
  · exact absurd (by decide) h
  obtain ⟨A1, c1, rfl, q1, q2, hx1⟩ := ho1.form (by simp)
  go_wp2_with fail
  have hz1 := hb1.size
  simp only [World.size_alloc] at hz1 ho1
  have hB1 : Below (w.alloc (.cells #[.bool false] 4)).heap.size (w.alloc (.cells #[.bool false] 4)) w1 := ((Below.refl _ _).alloc (Nat.le_refl _) _).trans (hb1.mono (by simp))
  obtain ⟨W1, HW1⟩ : ∃ W1, Hid (W1 = (w1.alloc (.cells #[.int .u64 0, .slice A1 1 c1] 25)).alloc (.cells #[.int .u8 98] 5 (1, 2))) := ⟨_, Lib.hid rfl⟩
  have hbW1 : Below w1.heap.size w1 W1 := by rw [HW1.out]; exact ((Below.refl _ w1).alloc (Nat.le_refl _) _).alloc (by simp) _
  have hzW1 : W1.heap.size = w1.heap.size + 2 := by rw [HW1.out]; simp
  have hk1 : Hid (W1.cell? ⟨w1.heap.size, 0, none⟩ = some (.int .u64 0) ∧ W1.cell? ⟨w1.heap.size, 1, none⟩ = some (.slice A1 1 c1) ∧ W1.frozen? ⟨w1.heap.size, 0, none⟩ = false ∧ W1.frozen? ⟨w1.heap.size, 1, none⟩ = false) := Lib.hid (by rw [HW1.out]; simp [go_sem])
  have hh1 : Hid (Has W1 W1.heap.size (some ⟨w1.heap.size + 1, 0, none⟩) (us [98])) := Lib.hid (by rw [hzW1, HW1.out]; have := has_new (w1.alloc (.cells #[.int .u64 0, .slice A1 1 c1] 25)) #[.int .u8 98] 5 (1, 2); simpa [us, go_sem] using this)
  have HX1 := Lib.hid ((hx1.below hbW1).more hbW1.size)
  have HZW1 := Lib.hid hzW1
  clear hx1 hzW1
  rw [← HW1.out]
  refine (push_any W1 0 A1 c1 [[97]] (some ⟨w1.heap.size + 1, 0, none⟩) 1 [98] HX1.out hh1.out (by omega) ⟨by simp, by simp⟩ (by simp)).mono ?_
  rintro e w2 ⟨hb2, (⟨h, _⟩ | ⟨_, v2, rfl, ho2⟩)⟩
  · exact absurd (by decide) h
  obtain ⟨A2, c2, rfl, q3, q4, hx2⟩ := ho2.form (by simp)
  have hz2 := hb2.size
  rw [HZW1.out] at hz2
  obtain ⟨hc2, hf2⟩ := bcell hb2
  rw [HZW1.out] at hc2 hf2
  have k1 := (hc2 w1.heap.size 0 (by omega)).trans hk1.out.1
  have k2 := (hc2 w1.heap.size 1 (by omega)).trans hk1.out.2.1
  have k3 := (hf2 w1.heap.size 0 (by omega)).trans hk1.out.2.2.1
  have k4 := (hf2 w1.heap.size 1 (by omega)).trans hk1.out.2.2.2
  clear hc2 hf2 ho1 hk1 hh1 kc2
  go_wp2_with fail
  obtain ⟨W2, HW2⟩ : ∃ W2, Hid (W2 = (w2.setCell ⟨w1.heap.size, 0, none⟩ (.int .u64 0)).setCell ⟨w1.heap.size, 1, none⟩ (.slice A2 2 c2)) := ⟨_, Lib.hid rfl⟩
  have hs2 := set2 (hB1.trans (hbW1.mono hB1.size)) hb2 w1.heap.size hB1.size (by rw [HZW1.out]; omega) ho2 k1 k2 (.int .u64 0) (.slice A2 2 c2)
  have hzW2 : W2.heap.size = w2.heap.size := by rw [HW2.out]; simp
  have hfW2 : Hid (W2.frozen? ⟨w1.heap.size, 0, none⟩ = false ∧ W2.frozen? ⟨w1.heap.size, 1, none⟩ = false) := Lib.hid (by rw [HW2.out]; simp [go_sem, k3, k4])
  rw [← HW2.out] at hs2
  obtain ⟨hB2, hoW2, kc⟩ := hs2
  have hlW2 : w1.heap.size < W2.heap.size := by rw [hzW2]; omega
  have HKC := Lib.hid kc
  obtain ⟨A2', c2', e2, q5, q6, hx2'⟩ := hoW2.form (by simp)
  obtain ⟨rfl, rfl⟩ : A2 = A2' ∧ c2 = c2' := by simp at e2; exact e2
  have HX2 := Lib.hid hx2'
  clear hx2 hx2' hoW2 kc ho2 k1 k2 k3 k4 hb2 hb1
  rw [← HW2.out]
  refine (acked_any W2 0 1 A2 c2 [[97], [98]] HX2.out (by omega) (by omega) ⟨by simp, by simp⟩ q3 q4).mono ?_
  rintro e w3 ⟨hb3, v3, rfl, ho3⟩
  have ea : ackB 0 [[97], [98]] 1 = true := by decide
  have ev : ackV 0 [[97], [98]] 1 = 1 := by decide
  have el : ackL 0 [[97], [98]] 1 = [[98]] := by decide
  rw [el] at ho3
  rw [ea, ev]
  clear ea ev el
  obtain ⟨A3, c3, rfl, q7, q8, hx3⟩ := ho3.form (by simp)
  have hz3 := hb3.size
  obtain ⟨hc3, hf3⟩ := bcell hb3
  have k1 := (hc3 w1.heap.size 0 hlW2).trans HKC.out.1
  have k2 := (hc3 w1.heap.size 1 hlW2).trans HKC.out.2
  have k3 := (hf3 w1.heap.size 0 hlW2).trans hfW2.out.1
  have k4 := (hf3 w1.heap.size 1 hlW2).trans hfW2.out.2
  clear hc3 hf3
  go_wp2_with fail
  obtain ⟨W3, HW3⟩ : ∃ W3, Hid (W3 = (w3.setCell ⟨w1.heap.size, 0, none⟩ (.int .u64 1)).setCell ⟨w1.heap.size, 1, none⟩ (.slice A3 1 c3)) := ⟨_, Lib.hid rfl⟩
  have hs3 := set2 hB2 hb3 w1.heap.size hB1.size hlW2 ho3 k1 k2 (.int .u64 1) (.slice A3 1 c3)
  have hzW3 : W3.heap.size = w3.heap.size := by rw [HW3.out]; simp
  rw [← HW3.out] at hs3
  obtain ⟨hB3, hoW3, kc3⟩ := hs3
  have hlW3 : w1.heap.size < W3.heap.size := by rw [hzW3]; omega
  have HKC3 := Lib.hid kc3
  obtain ⟨A3', c3', e3, q9, q10, hx3'⟩ := hoW3.form (by simp)
  obtain ⟨rfl, rfl⟩ : A3 = A3' ∧ c3 = c3' := by simp at e3; exact e3
  have HX3 := Lib.hid hx3'
  clear hx3 hx3' hoW3 kc3 ho3 k1 k2 k3 k4 hb3 HX2 HKC hfW2
  rw [← HW3.out]
  refine (take_any W3 0 1 (by omega) (by omega)).mono ?_
  rintro e w4 ⟨rfl, hb4⟩
  rw [takeRes_yes (by omega) (by omega) (by omega)]
  have hz4 := hb4.size
  have hB4 : Below (w.alloc (.cells #[.bool false] 4)).heap.size (w.alloc (.cells #[.bool false] 4)) w4 := hB3.trans (hb4.mono hB3.size)
  have hl4 : w1.heap.size < w4.heap.size := by omega
  obtain ⟨W4, HW4⟩ : ∃ W4, Hid (W4 = (w4.alloc (.cells #[.int .u64 1] 45)).alloc (.cells #[.int .i64 0] 3)) := ⟨_, Lib.hid rfl⟩
  have hbW4 : Below w4.heap.size w4 W4 := by rw [HW4.out]; exact ((Below.refl _ w4).alloc (Nat.le_refl _) _).alloc (by simp) _
  have hzW4 : W4.heap.size = w4.heap.size + 2 := by rw [HW4.out]; simp
  have kr : Hid (W4.cell? ⟨w4.heap.size, 0, none⟩ = some (.int .u64 1) ∧ W4.cell? ⟨w4.heap.size + 1, 0, none⟩ = some (.int .i64 0) ∧ W4.frozen? ⟨w4.heap.size + 1, 0, none⟩ = false) := Lib.hid (by rw [HW4.out]; simp [go_sem])
  have k1 := (hb4.cell (p := ⟨w1.heap.size, 0, none⟩) hlW3).trans HKC3.out.1
  have k2 := (hb4.cell (p := ⟨w1.heap.size, 1, none⟩) hlW3).trans HKC3.out.2
  have K1 := Lib.hid ((hbW4.cell (p := ⟨w1.heap.size, 0, none⟩) hl4).trans k1)
  have K2 := Lib.hid ((hbW4.cell (p := ⟨w1.heap.size, 1, none⟩) hl4).trans k2)
  have HX4 := Lib.hid ((((HX3.out.below hb4).more hb4.size).below hbW4).more hbW4.size)
  have hBW4 : Below (w.alloc (.cells #[.bool false] 4)).heap.size (w.alloc (.cells #[.bool false] 4)) W4 := hB4.trans (hbW4.mono hB4.size)
  have HZW4 := Lib.hid hzW4
  clear hzW4
  go_wp2_with fail
  rw [← HW4.out]
  refine (due_any W4 1 A3 c3 [[98]] HX4.out (by omega) ⟨by simp, by simp⟩ q7 q8).mono ?_
  rintro e w5 ⟨hb5, hz5, rfl, -⟩
  have k1 := (hb5.cell (p := ⟨w1.heap.size, 0, none⟩) (show w1.heap.size < W4.heap.size by rw [HZW4.out]; omega)).trans K1.out
  have k2 := (hb5.cell (p := ⟨w1.heap.size, 1, none⟩) (show w1.heap.size < W4.heap.size by rw [HZW4.out]; omega)).trans K2.out
  have hnil := run_eql_seq_nil w5
  go_wp2_with fail
  have hB5 : Below (w.alloc (.cells #[.bool false] 4)).heap.size (w.alloc (.cells #[.bool false] 4)) w5 := hBW4.trans (hb5.mono hBW4.size)
  have HX5 := Lib.hid ((HX4.out.below hb5).more hb5.size)
  refine (due_any w5 1 A3 c3 [[98]] HX5.out (by omega) ⟨by simp, by simp⟩ q7 q8).mono ?_
  rintro e w6 ⟨hb6, hz6, rfl, d1, v6, d2, ho6⟩
  have el : dueL 1 [[98]] = [[98]] := by decide
  rw [el] at ho6
  clear el hnil
  obtain ⟨A6, c6, rfl, q11, q12, hx6⟩ := ho6.form (by simp)
  have hB6 : Below (w.alloc (.cells #[.bool false] 4)).heap.size (w.alloc (.cells #[.bool false] 4)) w6 := hB5.trans (hb6.mono hB5.size)
  have D1 := Lib.hid d1
  have D2 := Lib.hid d2
  have HO6 := Lib.hid ho6
  clear hx6 ho6 d1 d2
  have hb46 : Below W4.heap.size W4 w6 := hb5.trans (hb6.mono hb5.size)
  have hBx0 : Boxed w6 w.heap.size 4 (.bool false) := (hB6.block w.heap.size (by simp)).trans (Boxed.new w _ _)
  have hBx1 : Boxed w6 w4.heap.size 45 (.int .u64 1) := (hb46.block w4.heap.size (by rw [HZW4.out]; omega)).trans (by rw [HW4.out]; exact (Boxed.new w4 _ _).alloc _)
  have hBx2 : Boxed w6 (w4.heap.size + 1) 3 (.int .i64 0) := (hb46.block (w4.heap.size + 1) (by rw [HZW4.out]; omega)).trans (by rw [HW4.out]; have := Boxed.new (w4.alloc (.cells #[.int .u64 1] 45)) 3 (.int .i64 0); rw [World.size_alloc] at this; exact this)
  have hBw : Below w.heap.size w w6 := ((Below.refl _ w).alloc (Nat.le_refl _) _).trans (hB6.mono (by simp))
  have hz46 := hb46.size
  rw [HZW4.out] at hz46
  have hz45 : w4.heap.size + 2 ≤ w5.heap.size := by have := hb5.size; rw [HZW4.out] at this; exact this
  have HB := Lib.hid (And.intro hBx0 (And.intro hBx1 hBx2))
  clear hBx0 hBx1 hBx2
  go_wp2_with fail
  refine (wpIn_wide (n := 6)).1 ?_
  refine range_v (α := It) rfl (by omega) (gf := 35) (lb := #[.pointer (some ⟨w5.heap.size + 1, 0, none⟩), .pointer (some ⟨w5.heap.size, 0, none⟩)]) rfl trivial (enters_of Try.func35 (by kernel_rfl) rfl)
    (due1_seq 5 (by omega) w6 w5.heap.size 1 [[98]] (.slice A6 1 c6) hz6 D1.out D2.out HO6.out ⟨by simp, by simp⟩ (.inr (by simp))) Mid.trans (fun W l o o' h _ _ _ => Mid.putObj W o' h) (Below.refl _ _) (fun _ => rfl)
    (fun pre x => valid_own) 
    (fun pre W => ((Boxed W w.heap.size 4 (.bool false) ∧ Boxed W w4.heap.size 45 (.int .u64 1)) ∧ Boxed W (w4.heap.size + 1) 3 (.int .i64 (pre.length : Int))) ∧ Below w.heap.size w W)
    (fun _ _ _ => False)
    (OwnFrom.and (OwnFrom.and (OwnFrom.and ((boxed_own _ _ _).from _) ((boxed_own _ _ _).from _)) ((boxed_own _ _ (fun pre : List It => .int .i64 (pre.length : Int))).from _)) (ownFrom_below (Nat.le_refl _) hBw.size))
    (fun _ _ _ _ _ hs _ _ => hs)
    ⟨⟨⟨HB.out.1, HB.out.2.1⟩, HB.out.2.2⟩, hBw⟩ ?round ?done ?stop
  case round =>
    rintro l pre ⟨m, lx, v⟩ W0
    rw [show encI (m, lx, v) = #[.int .u64 (m : Int), v] from rfl]
    gi_wp2
    refine ⟨trivial, ?_⟩
    rintro W ⟨⟨⟨i1, i2⟩, i3⟩, i4⟩ ⟨hat, hv⟩ hlt
    have hp : pre = [] := by simpa using hlt
    subst hp
    have hx : m = 2 ∧ lx = [98] := by simpa [AtI, items, prI] using hat
    obtain ⟨rfl, rfl⟩ := hx
    obtain ⟨Av, cv, rfl, hcv, hmv, hhv⟩ := hv.form
    have hstr : (convert 26 9 (.slice Av 1 cv)).run Try.prog W = .ok (.string ⟨#[98]⟩) W := run_str (c := cv) hhv
    have hc : W.cell? ⟨w4.heap.size + 1, 0, none⟩ = some (.int .i64 0) := i3.cell
    have hfz := i3.frozen
    have HI := Lib.hid (And.intro (And.intro i1 i2) (And.intro i3 i4))
    clear hat hv hhv i1 i2 i3 i4 hlt
    gi_wp2
    exact ⟨KeepsFrom.of_grownBy (grownBy_setCell' W _ _) (fun j e => by cases e; omega), ⟨by simp, fun k h1 h2 => Below.heap_setCell _ _ _ _ (by simp; omega)⟩, ⟨⟨HI.out.1.1.other (by omega) _, HI.out.1.2.other (by omega) _⟩, HI.out.2.1.set _⟩, HI.out.2.2.setCell (by simp; omega) _⟩
  case done =>
    rintro D xs W hD hS ⟨⟨⟨i1, i2⟩, i3⟩, i4⟩ hK
    have hxl := hS.len (Nat.le_refl _)
    rw [hxl] at i3
    clear hS hxl
    have c1 := i1.cell
    have f1 := i1.frozen
    have c2 := i2.cell
    have c3 := i3.cell
    go_wp2_with fail
    refine ⟨by simp, .inl ⟨_, _, rfl, run_takeDeferred ((Below.heap_setCell _ _ _ _ (by simp; omega)).trans hK), ?_⟩⟩
    have hK2 := (Below.heap_setCell W ⟨w.heap.size, 0, none⟩ (.bool true) D (by simp; omega)).trans hK
    have hc9 : ((W.setCell ⟨w.heap.size, 0, none⟩ (.bool true)).putObj D (.deferred none)).cell? ⟨w.heap.size, 0, none⟩ = some (.bool true) := (World.cell?_of_block (World.putObj_heap_other (by simp; omega))).trans (i1.set _).cell
    exact ⟨_, by simp [results, Try.results11, go_sem, hc9], rfl, (i4.setCell (Nat.le_refl _) _).trans (belowK_b (w := w) (Nat.le_refl _) _ D _ _ (by omega) hK2 rfl rfl)⟩
  case stop =>
    rintro D c pre W _ _ h _
    exact h.elim
end Go.Proofs.Ytmjlehofjholaaa
