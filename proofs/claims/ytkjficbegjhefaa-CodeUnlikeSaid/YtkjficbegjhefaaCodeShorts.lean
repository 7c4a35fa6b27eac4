/- The walk of the law CodeShorts. -/
import Derived.Test.YtkjficbegjhefaaCodeAwake
import Derived.Test.YtkjficbegjhefaaCodeRef2
namespace Go.Proofs.Ytkjficbegjhefaa
open Go Go.RowKit
set_option linter.unusedVariables false
set_option maxRecDepth 100000

/-- a row of bytes, while a writer writes elsewhere -/
theorem own_chg {w w' : World} {base g : Nat} {r : Option Nat} {v : Value} {l : List UInt8} (h : Own w base v l) (hc : Chg w w' g r) (h1 : v.ownBlock ≠ some g) (h2 : ∀ k, v.ownBlock = some k → r ≠ some k) : Own w' base v l := by
  refine ⟨h.1, ?_⟩
  rcases h.2 with e | ⟨k, cap, cur, rfl, f1, f2, f3⟩
  · exact .inl e
  · refine .inr ⟨k, cap, cur, rfl, f1, ?_, f3⟩
    have hk := (h.lt k rfl).2
    rw [hc.block k hk (fun e => h1 (by rw [e]; rfl)) (fun e => h2 k rfl e.symm)]
    exact f2
/-- a writer, while a row elsewhere grows -/
theorem Wtr.grown {w w' : World} {base g : Nat} {r row : Option Nat} {l : List UInt8} (h : Wtr w base g r l) (hg : w.grownBy w' row) (h1 : some g ≠ row) (h2 : ∀ k, r = some k → row ≠ some k) : Wtr w' base g r l := by
  have hlt := h.lt
  have hrow := h.row
  obtain ⟨v, e1, e2, e3, e4⟩ := h
  refine ⟨v, by rw [hg.block g hlt h1]; exact e1, e2, ?_, e4⟩
  refine ⟨e3.1, ?_⟩
  rcases e3.2 with e | ⟨k, cap, cur, rfl, f1, f2, f3⟩
  · exact .inl e
  · refine .inr ⟨k, cap, cur, rfl, f1, ?_, f3⟩
    simp only [Value.ownBlock] at e2
    rw [hg.block k (hrow k e2.symm).2.1 (fun e => h2 k e2.symm e.symm)]
    exact f2
/-- one block below N, and what is from N on, may have turned -/
theorem Chg.then_ {w0 w w' : World} {g g' : Nat} {r : Option Nat} (h : Chg w0 w g none) (h2 : Chg w w' g' r) (h1 : g' = g ∨ w0.heap.size ≤ g') (hr : ∀ k, r = some k → w0.heap.size ≤ k) : Chg w0 w' g none :=
  ⟨h2.os.trans h.os, h2.tape.trans h.tape, h2.output.trans h.output, Nat.le_trans h.size h2.size, fun k hk hg hn => by
    rw [h2.block k (Nat.lt_of_lt_of_le hk h.size) (by rcases h1 with e | e <;> omega) (fun e => by have := hr k e.symm; omega), h.block k hk hg hn]⟩
theorem Chg.thenBelow {w0 w w' : World} {g B : Nat} (h : Chg w0 w g none) (h2 : Below B w w') (hB : w0.heap.size ≤ B) : Chg w0 w' g none :=
  ⟨h2.os.trans h.os, h2.tape.trans h.tape, h2.output.trans h.output, Nat.le_trans h.size h2.size, fun k hk hg hn => by
    rw [h2.block k (by omega), h.block k hk hg hn]⟩
theorem Chg.thenGrown {w0 w w' : World} {g : Nat} {row : Option Nat} (h : Chg w0 w g none) (h2 : w.grownBy w' row) (hr : ∀ k, row = some k → w0.heap.size ≤ k) : Chg w0 w' g none :=
  ⟨h2.os.trans h.os, h2.tape.trans h.tape, h2.output.trans h.output, Nat.le_trans h.size h2.size, fun k hk hg hn => by
    rw [h2.block k (Nat.lt_of_lt_of_le hk h.size) (fun e => by have := hr k e.symm; omega), h.block k hk hg hn]⟩

set_option maxHeartbeats 1600000 in
theorem codeShorts_walk (w : World) (A : Option Addr) (c : Nat) (xs : List Nat) (hA : Has w w.heap.size A (u64s xs)) (hx : ∀ x ∈ xs, x < 18446744073709551616) :
    Calls Try.prog 3 #[.slice A xs.length c] w fun e w' => e = .returned (.bool true) ∧ Below w.heap.size w w' := by
  have HA := Lib.hid hA
  have HX := Lib.hid hx
  clear hA hx
  by_cases hlong : 2000 < xs.length
  · go_enter Try.func3, Try.ntmps3
    go_wp2_with fail
    refine (codeAwake w).mono ?_
    rintro e w' ⟨rfl, hb⟩
    go_wp2
    go_ret
    exact ⟨rfl, hb⟩
  · go_enter Try.func3, Try.ntmps3
    go_wp2_with fail
    refine (newWriter_any w).mono ?_
    rintro e w1 ⟨rfl, hw1, hb1, hs1⟩
    have HW1 := Lib.hid hw1
    have HS1 := Lib.hid hs1
    have hz1 : w1.heap.size = w.heap.size + 1 := hs1
    clear hw1 hs1
    go_wp2_with fail
    have hb2 : Below w1.heap.size w1 (w1.alloc (.cells #[.slice none 0 0] 28)) := (Below.refl _ _).alloc (Nat.le_refl _) _
    have HW2 := Lib.hid (HW1.out.grow hb2)
    have HZ2 := Lib.hid (show Wtr (w1.alloc (.cells #[.slice none 0 0] 28)) w.heap.size (w.heap.size + 1) none [] from ⟨_, by rw [← HS1.out]; exact heap_alloc_new w1 _, rfl, World.ownsRow_nil _ _ _ 1, by omega⟩)
    have hbw2 := hb1.trans (hb2.mono hb1.size)
    generalize w1.alloc (.cells #[.slice none 0 0] 28) = w2 at *
    clear hz1
    refine (put_any w2 w.heap.size (w.heap.size + 1) none [] A c xs HZ2.out hbw2.size ((HA.out.below hbw2).more hbw2.size) (fun h0 b o e => ?_) HX.out (by simp; omega)).mono ?_
    · obtain ⟨b', o', e', hb', _⟩ := HA.out.at_ (show 0 < (u64s xs).length by rw [u64s_length]; exact h0)
      rw [e] at e'
      injection e' with e'
      injection e' with e1 _
      subst e1
      exact ⟨by omega, by simp⟩
    rintro e w3 ⟨rfl, r3, hz3, hc3, hm3⟩
    have HZ3 := Lib.hid hz3
    have HW3 := Lib.hid (HW2.out.keep hc3 (by omega) (by simp) (by simp) (.inl rfl))
    have hbw3 := hbw2.trans (HZ2.out.below_ hc3 hbw2.size)
    have hg1 : w.heap.size < w3.heap.size := HW3.out.lt
    have hg2 : w.heap.size + 1 < w3.heap.size := HZ3.out.lt
    have HR3 := Lib.hid (show ∀ j, r3 = some j → w2.heap.size ≤ j from fun j e => by
      rcases hm3 with e2 | ⟨j', e2, hj⟩
      · rw [e2] at e; cases e
      · rw [e2] at e; injection e with e; omega)
    have hg3 := HW2.out.lt
    clear hz3 hc3 hm3
    go_wp2_with fail
    go_loopw [5, 6] (fun v iv wr => ∃ (k : Nat) (r : Option Nat), k ≤ xs.length ∧ iv = .int .i64 k ∧ Hid (Wtr wr w.heap.size w.heap.size r (Code.shorts (xs.take k))) ∧ Hid (∀ j, r = some j → w3.heap.size ≤ j) ∧ Hid (Own wr w3.heap.size v (Code.shorts (xs.take k))) ∧ Hid (∀ j, r = some j → v.ownBlock ≠ some j) ∧ Hid (Chg w3 wr w.heap.size none)) (fun _ iv _ => xs.length - (intOf iv).toNat)
    case atStart => exact ⟨0, none, Nat.zero_le _, rfl, HW3, Lib.hid (by simp), Lib.hid (Own.nil _ _), Lib.hid (by simp), Lib.hid (Chg.refl _ _ _)⟩
    case round =>
      obtain ⟨k, r, hk, rfl, HW, HR, HO, HS, HC⟩ := hrel
      by_cases hkt : k < xs.length
      · obtain ⟨b, o, rfl, hbB, hcell0⟩ := HA.out.at_ (show k < (u64s xs).length by rw [u64s_length]; exact hkt)
        have hcr : ∀ W, Chg w3 W w.heap.size none → W.cell? ⟨b, o + k, none⟩ = some (.int .u64 (xs[k] : Int)) := fun W hW => by
          rw [World.cell?_of_block (w := w3) (a := ⟨b, o + k, none⟩) (hW.block b (by omega) (by omega) (by simp)), hbw3.cell (p := ⟨b, o + k, none⟩) hbB, hcell0]
          simp [u64s]
        have hcell := hcr wr HC.out
        have HCR := Lib.hid hcr
        have HXk := Lib.hid (HX.out xs[k] (List.getElem_mem hkt))
        have HSh := Lib.hid (show Code.shorts (xs.take (k + 1)) = Code.shorts (xs.take k) ++ Code.short xs[k] by rw [List.take_succ_eq_append_getElem hkt, shorts_snoc])
        have hlk : (Code.shorts (xs.take k)).length ≤ 22000 := by
          have h1 := shorts_length (xs.take k)
          rw [List.length_take] at h1
          omega
        clear hcell0 hcr
        obtain ⟨x, Hx⟩ : ∃ x, Hid (xs[k] = x) := ⟨_, Lib.hid rfl⟩
        rw [Hx.out] at hcell HXk HSh
        generalize Code.shorts (xs.take k) = L at *
        have hszr := HC.out.size
        go_wp2_with fail
        refine (uint_any wr w.heap.size w.heap.size r L x HW.out (by omega) HXk.out (by omega)).mono ?_
        rintro e w5 ⟨rfl, r5, hw5, hc5, hm5⟩
        have HW5 := Lib.hid hw5
        have HO5 := Lib.hid (own_chg HO.out hc5 (fun e => by have := HO.out.lt _ e; omega) (fun j e e2 => HS.out j e2 e))
        have HR5 := Lib.hid (show ∀ j, r5 = some j → w3.heap.size ≤ j from fun j e => by
          rcases hm5 with e2 | ⟨j', e2, hj⟩
          · exact HR.out j (by rw [← e2]; exact e)
          · rw [e2] at e; injection e with e; omega)
        have HS5 := Lib.hid (show ∀ j, r5 = some j → u5.ownBlock ≠ some j from fun j e e3 => by
          rcases hm5 with e2 | ⟨j', e2, hj⟩
          · exact HS.out j (by rw [← e2]; exact e) e3
          · rw [e2] at e; injection e with e; have := (HO.out.lt _ e3).2; omega)
        have HC5 := Lib.hid (HC.out.then_ hc5 (.inl rfl) HR.out)
        have hcell5 := HCR.out w5 HC5.out
        rw [Hx.out] at hcell5
        clear hw5 hc5 hm5 HW HO HS HR HC hcell
        go_wp2_with fail
        refine (refShort_any w5 x HXk.out).mono ?_
        rintro e w6 ⟨v6, rfl, ho6, hb6⟩
        obtain ⟨A6, c6, rfl, hc6, hm6, h6⟩ := ho6.form
        have H6 := Lib.hid h6
        have HW6 := Lib.hid (HW5.out.grow hb6)
        have HO6 := Lib.hid (own_below HO5.out hb6 (Nat.le_refl _))
        have HC6 := Lib.hid (HC5.out.thenBelow hb6 HC5.out.size)
        have hsl := (Code.short_length x).2
        clear ho6 h6 hcell5
        go_wp2_with (at_builtin; go_must (refine wp_app (c := c6) (base := w3.heap.size) rfl rfl (by rfl) (by rfl) (l := L) (m := Code.short x) HO6.out H6.out (by omega) HC6.out.size ?_); intro v7 w7 hown7 hb7 hg7 hat7
                     have HW7 := Lib.hid (HW6.out.grown hg7 (fun e => by have := HO6.out.lt _ e.symm; omega) (fun j e e2 => HS5.out j e e2))
                     have HC7 := Lib.hid (HC6.out.thenGrown hg7 (fun j e => (HO6.out.lt j e).1))
                     have HS7 := Lib.hid (show ∀ j, r5 = some j → v7.ownBlock ≠ some j from fun j e e3 => by
                       rcases hat7 with e2 | e2
                       · exact HS5.out j e (by rw [← e2]; exact e3)
                       · rw [e2] at e3; injection e3 with e3; have := (HW6.out.row j e).2.1; omega)
                     have HO7 := Lib.hid hown7
                     clear hown7 hb7 hg7 hat7)
        go_roundw
        case rel => exact ⟨k + 1, r5, by omega, by go_num, by rw [HSh.out]; exact HW7, HR5, by rw [HSh.out]; exact HO7, HS7, HC7⟩
        case measure => simp [intOf]; omega
      · have HE := Lib.hid (show xs.take k = xs by rw [List.take_of_length_le (by omega)])
        rw [HE.out] at HW HO
        have hL := shorts_length xs
        have HZ := Lib.hid (HZ3.out.keep HC.out (by omega) (by simp) (fun e => by have := HR3.out _ e; omega) (Classical.em _))
        generalize Code.shorts xs = L at *
        obtain ⟨Aa, ca, hva, hca, hma, ha⟩ := HO.out.form
        subst hva
        have HAa := Lib.hid ha
        have hbwr : Below w.heap.size w wr := hbw3.trans (HC.out.below (by omega) (Nat.le_refl _) (by simp))
        have hconv : ∀ W, Below wr.heap.size wr W → (convert 26 9 (.slice Aa L.length ca)).run Try.prog W = .ok (.string ⟨L.toArray⟩) W := fun W hW => run_str (HAa.out.below hW)
        have hB0 : Below wr.heap.size wr wr.drew := (Below.refl _ _).drew
        clear ha HO
        go_wp2_with fail
        go_region_held (fun w' => (convert 26 9 (.slice Aa L.length ca)).run Try.prog w' = .ok (.string ⟨L.toArray⟩) w') (first | exact hconv _ hB11 | exact hconv _ hB9 | exact hconv _ hB8 | exact hconv _ hB0) (first
          | (go_at_call 17
             ((with_reducible refine (bytes_any _ w.heap.size w.heap.size r L ?_ (by omega)).mono ?_))
             · exact HW.out
             rintro e w8 ⟨v8, rfl, ho8, hb8⟩
             obtain ⟨A8, c8, rfl, _, _, h8⟩ := ho8.form
             have hB8 : Below wr.heap.size wr w8 := hB0.trans hb8
             have e8 : (convert 26 9 (.slice A8 L.length c8)).run Try.prog w8 = .ok (.string ⟨L.toArray⟩) w8 := run_str h8
             clear ho8 h8 hb8)
          | (go_at_call 17
             ((with_reducible refine (bytes_any _ w.heap.size (w.heap.size + 1) r3 L ?_ (by omega)).mono ?_))
             · exact HZ.out.grow hB8
             rintro e w9 ⟨v9, rfl, ho9, hb9⟩
             obtain ⟨A9, c9, rfl, _, _, h9⟩ := ho9.form
             have hB9 : Below wr.heap.size wr w9 := hB8.trans (hb9.mono hB8.size)
             have e9 : (convert 26 9 (.slice A9 L.length c9)).run Try.prog w9 = .ok (.string ⟨L.toArray⟩) w9 := run_str h9
             clear ho9 h9 hb9)
          | (go_at_call 18
             refine (len_any _ w.heap.size (w.heap.size + 1) r3 L (HZ.out.grow hB9)).mono ?_
             rintro e w10 ⟨rfl, rfl⟩)
          | (go_at_call 12
             refine (codeAwake _).mono ?_
             rintro e w11 ⟨rfl, hb11⟩
             have hB11 : Below wr.heap.size wr w11 := hB9.trans (hb11.mono hB9.size)))
        all_goals (go_wp2; go_ret; exact ⟨rfl, hbwr.trans (hB11.mono hbwr.size)⟩)
end Go.Proofs.Ytkjficbegjhefaa
