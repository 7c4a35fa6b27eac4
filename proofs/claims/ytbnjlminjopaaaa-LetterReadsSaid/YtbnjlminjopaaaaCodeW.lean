/- The walks of package code's Writer. -/
import Derived.Test.YtbnjlminjopaaaaBytes
import Derived.Test.YtbnjlminjopaaaaCodeMath
namespace Go.Proofs.Ytbnjlminjopaaaa
open Go Go.RowKit
set_option linter.unusedVariables false

/-- only these two blocks, and new ones, have turned -/
structure Chg (w w' : World) (g : Nat) (r : Option Nat) : Prop where
  os : w'.os = w.os
  tape : w'.tape = w.tape
  output : w'.output = w.output
  size : w.heap.size ≤ w'.heap.size
  block : ∀ k, k < w.heap.size → k ≠ g → some k ≠ r → w'.heap[k]? = w.heap[k]?
/-- a row stays where it was, or is new -/
def Moved (w : World) (r r' : Option Nat) : Prop := r' = r ∨ ∃ k, r' = some k ∧ w.heap.size ≤ k
theorem Moved.refl (w : World) (r : Option Nat) : Moved w r r := .inl rfl
theorem Moved.trans {w w1 : World} {r r1 r2 : Option Nat} (h : Moved w r r1) (h2 : Moved w1 r1 r2) (hs : w.heap.size ≤ w1.heap.size) : Moved w r r2 := by
  rcases h2 with rfl | ⟨k, rfl, hk⟩
  · exact h
  · exact .inr ⟨k, rfl, by omega⟩
theorem Chg.refl (w : World) (g : Nat) (r : Option Nat) : Chg w w g r := ⟨rfl, rfl, rfl, Nat.le_refl _, fun _ _ _ _ => rfl⟩
theorem Chg.trans {w w1 w2 : World} {g : Nat} {r r1 : Option Nat} (h : Chg w w1 g r) (h2 : Chg w1 w2 g r1) (hm : Moved w r r1) : Chg w w2 g r :=
  ⟨h2.os.trans h.os, h2.tape.trans h.tape, h2.output.trans h.output, Nat.le_trans h.size h2.size, fun k hk hg hr => by
    rw [h2.block k (Nat.lt_of_lt_of_le hk h.size) hg ?_, h.block k hk hg hr]
    rcases hm with rfl | ⟨j, rfl, hj⟩
    · exact hr
    · intro e; injection e with e; omega⟩
theorem Chg.below {w w' : World} {g base : Nat} {r : Option Nat} (h : Chg w w' g r) (hb : base ≤ w.heap.size) (hg : base ≤ g) (hr : ∀ k, r = some k → base ≤ k) : Below base w w' :=
  ⟨h.os, h.tape, h.output, h.size, fun k hk => h.block k (by omega) (by omega) (fun e => by have := hr k e.symm; omega)⟩

/-- A WRITER: its struct is block g, its bytes lie in the row r -/
def Wtr (w : World) (base g : Nat) (r : Option Nat) (l : List UInt8) : Prop :=
  ∃ v, w.heap[g]? = some (.cells #[v] 52 (0, 0)) ∧ v.ownBlock = r ∧ Own w base v l ∧ base ≤ g
theorem Wtr.lt {w : World} {base g : Nat} {r : Option Nat} {l : List UInt8} (h : Wtr w base g r l) : g < w.heap.size := by
  obtain ⟨v, h1, _⟩ := h
  rcases Nat.lt_or_ge g w.heap.size with hlt | hge
  · exact hlt
  · rw [Array.getElem?_eq_none hge] at h1; cases h1
theorem Wtr.row {w : World} {base g : Nat} {r : Option Nat} {l : List UInt8} (h : Wtr w base g r l) : ∀ k, r = some k → base ≤ k ∧ k < w.heap.size ∧ k ≠ g := by
  obtain ⟨v, h1, h2, h3, h4⟩ := h
  intro k hk
  subst h2
  obtain ⟨h5, h6⟩ := h3.lt k hk
  refine ⟨h5, h6, fun e => ?_⟩
  subst e
  rcases h3.2 with ⟨rfl, _⟩ | ⟨g', cap, cur, rfl, _, hh, _⟩
  · cases hk
  · simp only [Value.ownBlock, Option.some.injEq] at hk
    subst hk
    rw [h1] at hh
    injection hh with hh
    injection hh with _ ht
    exact absurd ht (by decide)
theorem Wtr.below_ {w w' : World} {base g : Nat} {r : Option Nat} {l : List UInt8} (h : Wtr w base g r l) (hc : Chg w w' g r) (hb : base ≤ w.heap.size) : Below base w w' := by
  have h0 := h
  obtain ⟨v, h1, h2, h3, h4⟩ := h
  exact hc.below hb h4 (fun k hk => (h0.row k hk).1)
/-- another writer's doings -/
theorem Wtr.keep {w w' : World} {base g g2 : Nat} {r r2 : Option Nat} {l : List UInt8} (h : Wtr w base g r l) (hc : Chg w w' g2 r2) (h1 : g ≠ g2) (h2 : some g ≠ r2) (h3 : r ≠ some g2) (h4 : r = none ∨ r ≠ r2) : Wtr w' base g r l := by
  have h0 := h
  obtain ⟨v, e1, e2, e3, e4⟩ := h
  refine ⟨v, by rw [hc.block g h0.lt h1 h2]; exact e1, e2, ?_, e4⟩
  refine ⟨e3.1, ?_⟩
  rcases e3.2 with e | ⟨k, cap, cur, rfl, f1, f2, f3⟩
  · exact .inl e
  · simp only [Value.ownBlock] at e2
    subst e2
    refine .inr ⟨k, cap, cur, rfl, f1, ?_, f3⟩
    have hk := (h0.row k rfl).2.1
    rw [hc.block k hk (fun e => h3 (by rw [e])) (by rcases h4 with h4 | h4; cases h4; exact h4)]
    exact f2
/-- growth elsewhere -/
theorem Wtr.grow {w w' : World} {base g : Nat} {r : Option Nat} {l : List UInt8} (h : Wtr w base g r l) (hb : Below w.heap.size w w') : Wtr w' base g r l := by
  have h0 := h
  obtain ⟨v, e1, e2, e3, e4⟩ := h
  exact ⟨v, by rw [hb.block g h0.lt]; exact e1, e2, own_below e3 hb (Nat.le_refl _), e4⟩
/-- the store of a grown row -/
theorem Wtr.store {w w4 : World} {base g : Nat} {v v' : Value} {l l2 : List UInt8} {o : Obj} (hv : w.heap[g]? = some (.cells #[v] 52 (0, 0))) (hown : Own w base v l) (hbg : base ≤ g)
    (h4 : Own w4 base v' l2) (hg : (w.alloc o).grownBy w4 v.ownBlock) (hat : v'.ownBlock = v.ownBlock ∨ v'.ownBlock = some (w.alloc o).heap.size) :
    w4.cell? ⟨g, 0, none⟩ = some v ∧ w4.frozen? ⟨g, 0, none⟩ = false ∧ Wtr (w4.setCell ⟨g, 0, none⟩ v') base g v'.ownBlock l2 ∧ Chg w (w4.setCell ⟨g, 0, none⟩ v') g v.ownBlock ∧ Moved w v.ownBlock v'.ownBlock := by
  have hw : Wtr w base g v.ownBlock l := ⟨v, hv, rfl, hown, hbg⟩
  have hlt := hw.lt
  have hne : some g ≠ v.ownBlock := fun e => (hw.row g e.symm).2.2 rfl
  have hb4 : w4.heap[g]? = some (.cells #[v] 52 (0, 0)) := by
    rw [hg.block g (by simp; omega) hne, Below.heap_alloc w o g hlt]; exact hv
  have hs4 : (w.alloc o).heap.size ≤ w4.heap.size := hg.size
  have hne' : some g ≠ v'.ownBlock := by
    rcases hat with e | e
    · rw [e]; exact hne
    · rw [e]; simp; omega
  refine ⟨by rw [cell_of_row w4 g 0 _ _ _ hb4]; rfl, by simp [World.frozen?, hb4], ⟨v', ?_, rfl, ?_, hbg⟩, ⟨?_, ?_, ?_, ?_, ?_⟩, ?_⟩
  · simp [World.setCell, Array.getElem?_modify, hb4]
  · refine ⟨h4.1, ?_⟩
    rcases h4.2 with e | ⟨k, cap, cur, rfl, f1, f2, f3⟩
    · exact .inl e
    · refine .inr ⟨k, cap, cur, rfl, f1, ?_, f3⟩
      rw [Below.heap_setCell w4 ⟨g, 0, none⟩ _ k (fun e => hne' (by simp only at e; subst e; rfl))]
      exact f2
  · exact hg.os
  · exact hg.tape
  · exact hg.output
  · simp only [World.setCell, Array.size_modify]; simp at hs4; omega
  · intro k hk h1 h2
    rw [Below.heap_setCell w4 ⟨g, 0, none⟩ _ k h1, hg.block k (by simp; omega) h2, Below.heap_alloc w o k hk]
  · rcases hat with e | e
    · exact .inl e
    · exact .inr ⟨_, e, by simp⟩

set_option maxHeartbeats 400000 in
theorem wide_any (w : World) (base g : Nat) (r : Option Nat) (l : List UInt8) (x n : Nat) (hW : Wtr w base g r l) (hb : base ≤ w.heap.size) (hx : x < 18446744073709551616) (hn : n ≤ 1000) (hl : l.length ≤ 10000000000) :
    Calls Try.prog 53 #[.pointer (some ⟨g, 0, none⟩), .int .u64 x, .int .i64 n] w fun e w' => e = .returned (.tuple #[]) ∧ ∃ r', Wtr w' base g r' (l ++ Code.wide n x) ∧ Chg w w' g r ∧ Moved w r r' := by
  have HW := Lib.hid hW
  clear hW
  go_enter Try.func53, Try.ntmps53
  go_wp2
  go_loopw [1, 9] (fun xv iv wr => ∃ (k y : Nat) (l' : List UInt8) (r' : Option Nat), k ≤ n ∧ y < 18446744073709551616 ∧ l'.length ≤ l.length + k ∧ iv = .int .i64 k ∧ xv = .int .u64 y ∧ Hid (l ++ Code.wide n x = l' ++ Code.wide (n - k) y) ∧ Hid (Wtr wr base g r' l') ∧ Hid (Chg w wr g r) ∧ Hid (Moved w r r')) (fun _ i _ => n - (intOf i).toNat)
  case atStart => exact ⟨0, x, l, r, Nat.zero_le _, hx, by omega, rfl, rfl, Lib.hid rfl, HW, Lib.hid (Chg.refl _ _ _), Lib.hid (Moved.refl _ _)⟩
  case round =>
    obtain ⟨k, y, l', r', hk, hy, hl', rfl, rfl, HE, HWr, HC, HM⟩ := hrel
    by_cases hkt : k < n
    · obtain ⟨v, hv, hrv, hown, hbg⟩ := HWr.out
      have HV := Lib.hid hv
      have HO := Lib.hid hown
      have HRv := Lib.hid hrv
      have hc0 : wr.cell? ⟨g, 0, none⟩ = some v := by rw [cell_of_row wr g 0 _ _ _ hv]; rfl
      clear hv hown hrv
      have HU := Lib.hid (us_ofNat y)
      have HS := Lib.hid (show Code.wide (n - k) y = UInt8.ofNat y :: Code.wide (n - (k + 1)) (y / 256) by
        obtain ⟨m, hm⟩ : ∃ m, n - k = m + 1 := ⟨n - k - 1, by omega⟩
        rw [hm, show n - (k + 1) = m by omega, Code.wide])
      go_wp2_with (at_builtin; go_must (refine wp_app (c := 1) (base := base) (A := some ⟨wr.heap.size, 0, none⟩) (m := [UInt8.ofNat y]) rfl rfl (by rfl) (by rfl) (l := l') (HO.out.alloc _) (has_lit HU.out) (by simp; omega) (le_alloc (Nat.le_trans hb HC.out.size) _) ?_); intro v4 w4 hown4 hb4 hg4 hat4
                   obtain ⟨l4, HL4⟩ : ∃ l4, Hid (l' ++ [UInt8.ofNat y] = l4) := ⟨_, Lib.hid rfl⟩
                   rw [HL4.out] at hown4
                   obtain ⟨A4, c4, rfl, _, _, _⟩ := hown4.form
                   obtain ⟨hc4, hf4, hw4, hch4, hmv4⟩ := Wtr.store HV.out HO.out hbg hown4 hg4 hat4
                   have HW4 := Lib.hid hw4
                   have HC4 := Lib.hid hch4
                   have HM4 := Lib.hid hmv4
                   clear hw4 hch4 hmv4 hown4 hb4 hg4 hat4)
      go_roundw
      case rel =>
        refine ⟨k + 1, y / 256, l4, _, by omega, by omega, by rw [← HL4.out]; simp; omega, by go_num, by go_num, ?_, HW4, ?_, ?_⟩
        · exact Lib.hid (by rw [HE.out, HS.out, ← HL4.out]; simp)
        · exact Lib.hid (HC.out.trans HC4.out (by rw [HRv.out]; exact HM.out))
        · exact Lib.hid (HM.out.trans (by rw [← HRv.out]; exact HM4.out) HC.out.size)
      case measure => simp [intOf]; omega
    · obtain rfl : k = n := by omega
      go_wp2
      go_end0
      exact ⟨rfl, r', by rw [HE.out, Nat.sub_self, Code.wide, List.append_nil]; exact HWr.out, HC.out, HM.out⟩
end Go.Proofs.Ytbnjlminjopaaaa
