/- The iterator that window.Due answers: its contract. -/
import Derived.RangeFuncNested
import Derived.RangeFuncBound
import Derived.RangeFuncCalls
import Derived.RangeFuncLeaves
import Derived.Shelf.Abstract
import Derived.Shelf.RegionOpen
import Derived.WalkKit
import Derived.OwnWalkIn
import Derived.TacticsInMore
import Derived.LoopNIn
import Derived.LoopIn
import Derived.Stop.RegionWithIn
import Derived.Test.YtmjlehofjholaaaWinF
import Derived.Test.YtmjlehofjholaaaRangeV
namespace Go.Proofs.Ytmjlehofjholaaa
open Go Go.RowKit Go.Shelf
set_option linter.unusedVariables false
set_option maxRecDepth 100000
attribute [local go_sem] Oper.semAt_some

/-- what a round is handed: a number, what the body holds, the slice -/
abbrev It := Nat × List UInt8 × Value
def encI (x : It) : Array Value := #[.int .u64 (x.1 : Int), x.2.2]
def prI (x : It) : Nat × List UInt8 := (x.1, x.2.1)
def items (base : Nat) (LT : List (List UInt8)) : List (Nat × List UInt8) := LT.mapIdx fun k l => (base + 1 + k, l)
def AtI (base : Nat) (LT : List (List UInt8)) (k : Nat) (pre : List It) : Prop := pre.map prI = (items base LT).take k
theorem encI_eq (base k : Nat) (l : List UInt8) (v : Value) : encI (base + 1 + k, l, v) = #[.int .u64 ((base : Int) + 1 + (k : Int)), v] := by simp [encI]
theorem items_len (base : Nat) (LT : List (List UInt8)) : (items base LT).length = LT.length := by simp [items]
theorem AtI.zero (base : Nat) (LT : List (List UInt8)) : AtI base LT 0 [] := by simp [AtI]
theorem AtI.len {base : Nat} {LT : List (List UInt8)} {k : Nat} {pre : List It} (h : AtI base LT k pre) (hk : k ≤ LT.length) : pre.length = k := by
  have := congrArg List.length h
  simp [items_len] at this
  omega
theorem AtI.succ {base : Nat} {LT : List (List UInt8)} {k : Nat} {pre : List It} (h : AtI base LT k pre) (hk : k < LT.length) (v : Value) : AtI base LT (k + 1) (pre ++ [(base + 1 + k, LT[k], v)]) := by
  unfold AtI at *
  rw [List.map_append, h, List.take_succ_eq_append_getElem (by rw [items_len]; exact hk)]
  simp [items, prI]
theorem grown_of_below {w w' : World} (h : Below w.heap.size w w') : w.grownBy w' none := ⟨h.os, h.tape, h.output, h.size, fun k hk _ => h.block k hk⟩

theorem run_equalIn_func_nil (W : World) (d : Nat) (f : Fn) (a b : Array Value) : (Op.equalIn (d + 1) 68 (.func f a b) .nilFunc).run Try.prog W = .ok false W := by
  have h := Try.underlying68
  rw [Op.equalIn]
  simp [run_underlying h]
theorem run_eql_func_nil (W : World) (f : Fn) (a b : Array Value) : (binOp .eql 68 (.func f a b) .nilFunc).run Try.prog W = .ok (.bool false) W := by
  simp only [binOp]
  simp [Op.equal, Op.maxDepth, run_equalIn_func_nil W 9999 f a b]

theorem ret_cases {e : Ending} {A B : Prop} (h : (e = .returned (.bool true) ∧ A) ∨ (e = .returned (.bool false) ∧ B)) : ∃ b : Bool, e = .returned (.bool b) ∧ Hid ((b = true ∧ A) ∨ (b = false ∧ B)) := by
  rcases h with ⟨h, a⟩ | ⟨h, b⟩
  · exact ⟨true, h, Lib.hid (.inl ⟨rfl, a⟩)⟩
  · exact ⟨false, h, Lib.hid (.inr ⟨rfl, b⟩)⟩

/-- what lies from lo on and below hi stays; the rest is free -/
structure Mid (lo hi : Nat) (w w' : World) : Prop where
  size : w.heap.size ≤ w'.heap.size
  block : ∀ k, lo ≤ k → k < hi → w'.heap[k]? = w.heap[k]?
theorem Mid.refl (lo hi : Nat) (w : World) : Mid lo hi w w := ⟨Nat.le_refl _, fun _ _ _ => rfl⟩
theorem Mid.trans {lo hi : Nat} {A B C : World} (h : Mid lo hi A B) (k : Mid lo hi B C) : Mid lo hi A C := ⟨Nat.le_trans h.size k.size, fun i h1 h2 => (k.block i h1 h2).trans (h.block i h1 h2)⟩
theorem Mid.of_below {lo hi : Nat} {A B : World} (h : Below hi A B) : Mid lo hi A B := ⟨h.size, fun k _ h2 => h.block k h2⟩
theorem Mid.putObj {lo hi : Nat} (W : World) {l : Nat} (o : Obj) (h : hi ≤ l) : Mid lo hi W (W.putObj l o) :=
  ⟨by simp, fun k _ h2 => World.putObj_heap_other (by omega)⟩
theorem Mid.cell {lo hi : Nat} {A B : World} (h : Mid lo hi A B) {b o : Nat} (h1 : lo ≤ b) (h2 : b < hi) : B.cell? ⟨b, o, none⟩ = A.cell? ⟨b, o, none⟩ := by
  have e := h.block b h1 h2
  simp only [World.cell?, e]
theorem OwnB.mid {w w' : World} {base : Nat} {v : Value} {L : List (List UInt8)} (h : OwnB w base v L) (hm : Mid base w.heap.size w w') : OwnB w' base v L := h.keep fun k h1 h2 => hm.block k h1 h2

set_option maxHeartbeats 2000000 in
theorem due1_seq (n : Nat) (hn : 1 ≤ n) (w : World) (g base : Nat) (LT : List (List UInt8)) (v : Value) (hg : g + 2 ≤ w.heap.size) (k1 : w.cell? ⟨g, 0, none⟩ = some (.int .u64 (base : Int))) (k2 : w.cell? ⟨g + 1, 0, none⟩ = some v)
    (hX : OwnB w g v LT) (hf : Fit LT) (hbl : LT.length = 0 ∨ base + LT.length ≤ 34359738367) :
    SeqV Fence.wide n Try.prog 35 #[.pointer (some ⟨g + 1, 0, none⟩), .pointer (some ⟨g, 0, none⟩)] encI (fun pre x W => AtI base LT (pre.length + 1) (pre ++ [x]) ∧ Own W w.heap.size x.2.2 x.2.1) (Mid g w.heap.size) (AtI base LT LT.length) (fun pre => ∃ k, k ≤ LT.length ∧ AtI base LT k pre) LT.length w := fun l J Jx W hW hJ hJx hY h0 => by
  have HFB := Lib.hid (fun (x : List UInt8) (hx : x ∈ LT) => (show x.length ≤ 140737488355328 by have := hf.2 x hx; omega))
  obtain ⟨A, c, rfl, _⟩ := hX.form HFB.out
  have HX := Lib.hid hX
  have HF := Lib.hid hf
  have hL := hf.1
  have q1 := (hW.cell (p := ⟨g, 0, none⟩) (show g < w.heap.size by omega)).trans k1
  have q2 := (hW.cell (p := ⟨g + 1, 0, none⟩) (show g + 1 < w.heap.size by omega)).trans k2
  have HY := Lib.hid hY
  have HJ := Lib.hid hJ
  have K1 := Lib.hid k1
  clear hX hf k1 k2 hY hJ hJx
  refine callsIn_of_wp Try.func35 rfl trivial ?_ rfl
  simp only [Try.ntmps35, List.size_toArray, List.length_cons, List.length_nil, Nat.reduceAdd, Nat.reduceSub, Array.replicate_succ, Array.replicate_zero, List.push_toArray, List.append_toArray, List.nil_append, List.cons_append]
  have hnil := fun W => run_eql_func_nil W (.yield l) #[] #[]
  gi_wp2
  gi_loopw [10] (fun i wr => ∃ (k : Nat) (pre : List It), k ≤ LT.length ∧ i = .int .i64 (k : Int) ∧ AtI base LT k pre ∧ J pre wr ∧ Mid g w.heap.size w wr) (fun i _ => LT.length - (intOf i).toNat)
  case atStart => exact ⟨0, [], by omega, rfl, AtI.zero _ _, h0, .of_below hW⟩
  case round =>
    obtain ⟨k, pre, hk, rfl, hat, hJs, hB⟩ := hrel
    by_cases hlt : k < LT.length
    · obtain ⟨A', c', e0, _, _, hx0⟩ := (HX.out.mid hB).form HFB.out
      obtain ⟨rfl, rfl⟩ : A = A' ∧ c = c' := by simp at e0; exact e0
      obtain ⟨b, o, A1, c1, rfl, hbB, hc, r1, r2, r3, hh⟩ := hx0.at_ hlt
      clear e0 hx0
      have HH := Lib.hid hh
      have hle := HF.out.2 LT[k] (List.getElem_mem hlt)
      have p1 := (hB.cell (o := 0) (Nat.le_refl g) (show g < w.heap.size by omega)).trans K1.out
      have hb2 : base + LT.length ≤ 34359738367 := by omega
      have HAT := Lib.hid hat
      have HJS := Lib.hid hJs
      clear hh hbl hat hJs
      obtain ⟨l0, Hl⟩ : ∃ l0, Hid (LT[k] = l0) := ⟨_, Lib.hid rfl⟩
      rw [Hl.out] at hc r1 r3 HH hle
      gi_wp2
      have hgw : g < wr.heap.size := by have := hB.size; omega
      have hpl : pre.length < LT.length := by rw [HAT.out.len hk]; exact hlt
      have x1 : IntKind.u64.wrap ((base : Int) + 1) = (base : Int) + 1 := u64_wrap (by omega) (by omega)
      have x2 : IntKind.u64.wrap (k : Int) = (k : Int) := u64_wrap (by omega) (by omega)
      have x3 : IntKind.u64.wrap ((base : Int) + 1 + (k : Int)) = (base : Int) + 1 + (k : Int) := u64_wrap (by omega) (by omega)
      have HA1 : Hid (∀ v, AtI base LT (pre.length + 1) (pre ++ [(base + 1 + k, l0, v)])) := Lib.hid (fun v => by have h := HAT.out.succ hlt v; rw [Hl.out] at h; rw [HAT.out.len hk]; exact h)
      gi_region_with (first | (refine ⟨trivial, ?_⟩; gi_at_call 30; go_loud (refine (callsIn_wide.2 (clone_any _ wr.heap.size A1 c1 l0 (HH.out.drew) (by simp) (by omega))).mono ?_; rintro e w1 ⟨v1, rfl, ho1, hb1⟩; have p2 := (hb1.cell (p := ⟨g, 0, none⟩) hgw).trans p1; obtain ⟨fn, tm, asg, bdy, hy, hR⟩ := HY.out pre (base + 1 + k, l0, v1) w1 (HJ.out pre _ _ none HJS.out (grown_of_below (((Below.refl _ wr).drew).trans hb1)) (fun r e => by cases e)) ⟨HA1.out v1, own_mono ho1 hB.size⟩ hpl; rw [encI_eq] at hy; clear HJS)) | (refine hR.mono ?_; clear hR hy; rintro e W3 hW3; obtain ⟨bb, rfl, hbb⟩ := ret_cases hW3; clear hW3))
      all_goals
        have hE := encI_eq base k l0 v1
        rcases hbb.out with ⟨rfl, hJ3, hk3⟩ | ⟨rfl, hJx3⟩
        · have HJ3 := Lib.hid hJ3
          have HK3 := Lib.hid hk3
          clear hJ3 hk3
          gi_wp2
          go_roundw
          case rel =>
            refine ⟨k + 1, pre ++ [(base + 1 + k, l0, v1)], by omega, by simp, ?_, HJ3.out, hB.trans ((Mid.of_below ((((Below.refl _ wr).drew).trans hb1).mono hB.size)).trans HK3.out)⟩
            have := HAT.out.succ hlt v1
            rwa [Hl.out] at this
          case measure => simp [intOf]; omega
        · have HJ3 := Lib.hid hJx3
          clear hJx3
          gi_wp2
          refine bodyPost_ret (results_none rfl _ _ _) rfl ?_
          refine ⟨⟨_, rfl⟩, .inr ⟨_, ⟨k + 1, by omega, ?_⟩, HJ3.out⟩⟩
          have := HAT.out.succ hlt v1
          rwa [Hl.out] at this
    · obtain rfl : k = LT.length := by omega
      gi_wp2
      go_end0
      exact ⟨⟨_, rfl⟩, .inl ⟨_, hat, hJs⟩⟩
end Go.Proofs.Ytmjlehofjholaaa
