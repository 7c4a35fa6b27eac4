/- The walk of frame.Decode. -/
import Derived.Test.YtcjafbpgjlcdpaaDoorFrmE
import Derived.Test.YtcjafbpgjlcdpaaDoorSepStr
import Derived.Test.YtcjafbpgjlcdpaaDoorSum3
import Derived.Test.YtcjafbpgjlcdpaaDoorCodeR4
namespace Go.Proofs.YtcjafbpgjlcdpaaDoor
open Go Go.RowKit
set_option linter.unusedVariables false
set_option maxRecDepth 100000

/-- a body in memory of its own -/
def BodyAt (w : World) (base : Nat) (A : Option Addr) (c : Nat) (l : List UInt8) : Prop :=
  (A = none ∧ c = 0 ∧ l = []) ∨ ∃ g, A = some ⟨g, 0, none⟩ ∧ base ≤ g ∧ g < w.heap.size ∧ ∀ j (hj : j < l.length), w.cell? ⟨g, j, none⟩ = some (.int .u8 (l[j].toNat : Int)) ∧ w.frozen? ⟨g, j, none⟩ = false
/-- what is decoded -/
def Decs (okv errv : Value) (w : World) (b : List UInt8) (e : Ending) (w' : World) : Prop :=
  (∃ f A c, IsFr b f ∧ e = .returned (.tuple #[.agg (f.cells A c), okv]) ∧ BodyAt w' w.heap.size A c f.body ∧ Below w.heap.size w w') ∨
  ((∀ f, ¬ IsFr b f) ∧ e = .returned (.tuple #[.agg (Fr.nil.cells none 0), errv]) ∧ Below w.heap.size w w')
theorem BodyAt.has {w : World} {base c : Nat} {A : Option Addr} {l : List UInt8} (h : BodyAt w base A c l) : Has w w.heap.size A (us l) := by
  rcases h with ⟨rfl, rfl, rfl⟩ | ⟨g, rfl, h1, h2, h3⟩
  · exact Has.nil
  · intro j u hu
    have hj : j < l.length := by
      rcases Nat.lt_or_ge j l.length with h | h
      · exact h
      · rw [List.getElem?_eq_none (by rw [us_length]; exact h)] at hu; cases hu
    rw [us_at hj] at hu
    exact ⟨g, 0, rfl, h2, by rw [Nat.zero_add, (h3 j hj).1]; exact hu⟩
theorem sep_bodyAt {w0 w : World} {Ps : List SP} {i n c g : Nat} {l : List UInt8} (h : Sep w0 w Ps) (hi : Ps[i]? = some (Cv (.slice (some ⟨g, 0, none⟩) n c) l)) : BodyAt w w0.heap.size (some ⟨g, 0, none⟩) c l := by
  obtain ⟨F, ⟨g', c', e, hg, hc, hF⟩, _, hlt, _⟩ := h.upd hi
  injection e with e1 e2 e3
  injection e1 with e1
  injection e1 with e1 _
  subst e1
  exact .inr ⟨g, rfl, (hlt g ((hF g).2 rfl)).1, hg, hc⟩
theorem g8_lt (s : Rs) : (g8 s).1 < 256 := rWide_lt s.1 s.2 1
theorem gU_lt (s : Rs) : (gU s).1 < 18446744073709551616 := by
  unfold gU rUint
  split
  · omega
  · split
    · omega
    · rename_i x n h
      exact (Code.num_form h).1
theorem g8_len (s : Rs) : (g8 s).2.1.length ≤ s.1.length := by unfold g8 rWide; split <;> simp
theorem gU_len (s : Rs) : (gU s).2.1.length ≤ s.1.length := by
  unfold gU rUint
  split
  · simp
  · split <;> simp
theorem gT_len (s : Rs) : (gT s).2.1.length ≤ s.1.length := by
  unfold gT rText
  split
  · simp
  · split
    · simp
    · split
      · simp
      · simp
theorem gT_body_len (s : Rs) : (gT s).1.length ≤ s.1.length := by
  unfold gT rText
  split
  · simp
  · split
    · simp
    · split
      · simp; omega
      · simp
section
variable {w0 w : World} {Ps : List SP} {i g : Nat}
theorem sep_g8 {s : Rs} (h : Sep w0 w Ps) (hi : Ps[i]? = some (Rd g s.1 s.2)) (hl : s.1.length ≤ 1000000000) :
    Calls Tryd.prog 33 #[.pointer (some ⟨g, 0, none⟩)] w fun e w' => e = .returned (.int .u8 ((g8 s).1 : Int)) ∧ Sep w0 w' (Ps.set i (Rd g (g8 s).2.1 (g8 s).2.2)) :=
  sep_reads h hi (g8_len s) fun rb hr => rU8_any w g rb s.1 s.2 hr hl
theorem sep_gU {s : Rs} (h : Sep w0 w Ps) (hi : Ps[i]? = some (Rd g s.1 s.2)) (hl : s.1.length ≤ 1000000000) :
    Calls Tryd.prog 34 #[.pointer (some ⟨g, 0, none⟩)] w fun e w' => e = .returned (.int .u64 ((gU s).1 : Int)) ∧ Sep w0 w' (Ps.set i (Rd g (gU s).2.1 (gU s).2.2)) :=
  sep_reads h hi (gU_len s) fun rb hr => uintR_any w g rb s.1 s.2 hr hl
theorem sep_gT {s : Rs} (h : Sep w0 w Ps) (hi : Ps[i]? = some (Rd g s.1 s.2)) (hl : s.1.length ≤ 1000000000) :
    Calls Tryd.prog 35 #[.pointer (some ⟨g, 0, none⟩), .int .i64 448] w fun e w' => e = .returned (.string ⟨(gT s).1.toArray⟩) ∧ Sep w0 w' (Ps.set i (Rd g (gT s).2.1 (gT s).2.2)) :=
  sep_reads h hi (gT_len s) fun rb hr => textR_any w g rb s.1 s.2 448 hr hl (by omega) (by omega)
theorem sep_gE {s : Rs} (h : Sep w0 w Ps) (hi : Ps[i]? = some (Rd g s.1 s.2)) :
    Calls Tryd.prog 36 #[.pointer (some ⟨g, 0, none⟩)] w fun e w' => e = .returned (.int .i64 (errOf (rEnd s.1 s.2))) ∧ Sep w0 w' (Ps.set i (Rd g s.1 (rEnd s.1 s.2))) :=
  sep_reads h hi (Nat.le_refl _) fun rb hr => end_any w g rb s.1 s.2 hr
theorem sep_gEb {s : Rs} {b : Bool} {z : Int} (h : Sep w0 w Ps) (hi : Ps[i]? = some (Rd g s.1 s.2)) (hb : rEnd s.1 s.2 = b) (hz : errOf b = z) :
    Calls Tryd.prog 36 #[.pointer (some ⟨g, 0, none⟩)] w fun e w' => e = .returned (.int .i64 z) ∧ Sep w0 w' (Ps.set i (Rd g s.1 b)) := by
  have h := sep_gE h hi
  rw [hb, hz] at h
  exact h
end
theorem mayFb {w : World} {f : Fr} {A : Option Addr} {c : Nat} {b : Bool} (hb : f.may = b) (hl : f.body.length ≤ maxLen) : Calls Tryd.prog 10 #[.agg (f.cells A c)] w fun e w' => e = .returned (.bool b) ∧ Below w.heap.size w w' := by
  have h := mayF (w := w) (A := A) (c := c) hl
  rw [hb] at h
  exact h

/-- the reader behind some of the three bytes -/
def st3 (m : List UInt8) : Nat → Rs
  | 0 => (m, false)
  | k + 1 => (g8 (st3 m k)).2
def st6 (m : List UInt8) : Nat → Rs
  | 0 => (rdT m).2
  | k + 1 => (gU (st6 m k)).2
theorem st3_len (m : List UInt8) (k : Nat) : (st3 m k).1.length ≤ m.length := by
  induction k with
  | zero => exact Nat.le_refl _
  | succ k ih => exact Nat.le_trans (g8_len _) ih
theorem st6_len (m : List UInt8) (k : Nat) : (st6 m k).1.length ≤ m.length := by
  induction k with
  | zero => exact st3_len m 3
  | succ k ih => exact Nat.le_trans (gU_len _) ih
/-- the frame's cells then -/
def c3 (m : List UInt8) : Nat → Array Value
  | 0 => #[.int .i64 (0 : Int), .int .i64 (0 : Int), .int .i64 (0 : Int), .int .u64 (0 : Int), .int .u64 (0 : Int), .int .u64 (0 : Int), .int .u64 (0 : Int), .int .u64 (0 : Int), .int .u64 (0 : Int), .slice none 0 0]
  | 1 => #[.int .i64 (((rdK m).1 : Nat) : Int), .int .i64 (0 : Int), .int .i64 (0 : Int), .int .u64 (0 : Int), .int .u64 (0 : Int), .int .u64 (0 : Int), .int .u64 (0 : Int), .int .u64 (0 : Int), .int .u64 (0 : Int), .slice none 0 0]
  | 2 => #[.int .i64 (((rdK m).1 : Nat) : Int), .int .i64 (((rdF m).1 : Nat) : Int), .int .i64 (0 : Int), .int .u64 (0 : Int), .int .u64 (0 : Int), .int .u64 (0 : Int), .int .u64 (0 : Int), .int .u64 (0 : Int), .int .u64 (0 : Int), .slice none 0 0]
  | _ => #[.int .i64 (((rdK m).1 : Nat) : Int), .int .i64 (((rdF m).1 : Nat) : Int), .int .i64 (((rdT m).1 : Nat) : Int), .int .u64 (0 : Int), .int .u64 (0 : Int), .int .u64 (0 : Int), .int .u64 (0 : Int), .int .u64 (0 : Int), .int .u64 (0 : Int), .slice none 0 0]
def c6 (m : List UInt8) : Nat → Array Value
  | 0 => #[.int .i64 (((rdK m).1 : Nat) : Int), .int .i64 (((rdF m).1 : Nat) : Int), .int .i64 (((rdT m).1 : Nat) : Int), .int .u64 (0 : Int), .int .u64 (0 : Int), .int .u64 (0 : Int), .int .u64 (0 : Int), .int .u64 (0 : Int), .int .u64 (0 : Int), .slice none 0 0]
  | 1 => #[.int .i64 (((rdK m).1 : Nat) : Int), .int .i64 (((rdF m).1 : Nat) : Int), .int .i64 (((rdT m).1 : Nat) : Int), .int .u64 (((gU (st6 m 0)).1 : Nat) : Int), .int .u64 (0 : Int), .int .u64 (0 : Int), .int .u64 (0 : Int), .int .u64 (0 : Int), .int .u64 (0 : Int), .slice none 0 0]
  | 2 => #[.int .i64 (((rdK m).1 : Nat) : Int), .int .i64 (((rdF m).1 : Nat) : Int), .int .i64 (((rdT m).1 : Nat) : Int), .int .u64 (((gU (st6 m 0)).1 : Nat) : Int), .int .u64 (((gU (st6 m 1)).1 : Nat) : Int), .int .u64 (0 : Int), .int .u64 (0 : Int), .int .u64 (0 : Int), .int .u64 (0 : Int), .slice none 0 0]
  | 3 => #[.int .i64 (((rdK m).1 : Nat) : Int), .int .i64 (((rdF m).1 : Nat) : Int), .int .i64 (((rdT m).1 : Nat) : Int), .int .u64 (((gU (st6 m 0)).1 : Nat) : Int), .int .u64 (((gU (st6 m 1)).1 : Nat) : Int), .int .u64 (((gU (st6 m 2)).1 : Nat) : Int), .int .u64 (0 : Int), .int .u64 (0 : Int), .int .u64 (0 : Int), .slice none 0 0]
  | 4 => #[.int .i64 (((rdK m).1 : Nat) : Int), .int .i64 (((rdF m).1 : Nat) : Int), .int .i64 (((rdT m).1 : Nat) : Int), .int .u64 (((gU (st6 m 0)).1 : Nat) : Int), .int .u64 (((gU (st6 m 1)).1 : Nat) : Int), .int .u64 (((gU (st6 m 2)).1 : Nat) : Int), .int .u64 (((gU (st6 m 3)).1 : Nat) : Int), .int .u64 (0 : Int), .int .u64 (0 : Int), .slice none 0 0]
  | 5 => #[.int .i64 (((rdK m).1 : Nat) : Int), .int .i64 (((rdF m).1 : Nat) : Int), .int .i64 (((rdT m).1 : Nat) : Int), .int .u64 (((gU (st6 m 0)).1 : Nat) : Int), .int .u64 (((gU (st6 m 1)).1 : Nat) : Int), .int .u64 (((gU (st6 m 2)).1 : Nat) : Int), .int .u64 (((gU (st6 m 3)).1 : Nat) : Int), .int .u64 (((gU (st6 m 4)).1 : Nat) : Int), .int .u64 (0 : Int), .slice none 0 0]
  | _ => #[.int .i64 (((rdK m).1 : Nat) : Int), .int .i64 (((rdF m).1 : Nat) : Int), .int .i64 (((rdT m).1 : Nat) : Int), .int .u64 (((gU (st6 m 0)).1 : Nat) : Int), .int .u64 (((gU (st6 m 1)).1 : Nat) : Int), .int .u64 (((gU (st6 m 2)).1 : Nat) : Int), .int .u64 (((gU (st6 m 3)).1 : Nat) : Int), .int .u64 (((gU (st6 m 4)).1 : Nat) : Int), .int .u64 (((gU (st6 m 5)).1 : Nat) : Int), .slice none 0 0]
theorem index3p (w : World) (a b c : Value) : (Instr.index 58 (.agg #[a, b, c]) (.int .i64 0)).run Tryd.prog w = .ok a w ∧ (Instr.index 58 (.agg #[a, b, c]) (.int .i64 1)).run Tryd.prog w = .ok b w ∧ (Instr.index 58 (.agg #[a, b, c]) (.int .i64 2)).run Tryd.prog w = .ok c w := ⟨by kernel_rfl, by kernel_rfl, by kernel_rfl⟩
theorem index6p (w : World) (a b c d e f : Value) : (Instr.index 61 (.agg #[a, b, c, d, e, f]) (.int .i64 0)).run Tryd.prog w = .ok a w ∧ (Instr.index 61 (.agg #[a, b, c, d, e, f]) (.int .i64 1)).run Tryd.prog w = .ok b w ∧ (Instr.index 61 (.agg #[a, b, c, d, e, f]) (.int .i64 2)).run Tryd.prog w = .ok c w ∧ (Instr.index 61 (.agg #[a, b, c, d, e, f]) (.int .i64 3)).run Tryd.prog w = .ok d w ∧ (Instr.index 61 (.agg #[a, b, c, d, e, f]) (.int .i64 4)).run Tryd.prog w = .ok e w ∧ (Instr.index 61 (.agg #[a, b, c, d, e, f]) (.int .i64 5)).run Tryd.prog w = .ok f w := ⟨by kernel_rfl, by kernel_rfl, by kernel_rfl, by kernel_rfl, by kernel_rfl, by kernel_rfl⟩

set_option maxHeartbeats 6400000 in
theorem decode_any (w : World) (hT : Table w) (B : Nat) (A : Option Addr) (c : Nat) (b : List UInt8) (hA : Has w B A (us b)) (hB : B ≤ w.heap.size) (hc : b.length ≤ c) (hm : c ≤ maxLen) (hl : b.length ≤ 1000000000) :
    Calls Tryd.prog 17 #[.slice A b.length c] w (Decs (.int .i64 0) (.int .i64 3) w b) := by
  have HT := Lib.hid hT
  have HA := Lib.hid (hA.more hB)
  have HM := Lib.hid hm
  clear hT hA hm hB
  have HS0 := Lib.hid (show Sep w (w.alloc (.cells (Fr.nil.cells none 0) 25)) [Ce w.heap.size 25 (Fr.nil.cells none 0)] from sep_ce (Sep.nil w) (Fr.nil.cells none 0) 25)
  have ho := open_any (w.alloc (.cells (Fr.nil.cells none 0) 25)) (HT.out.alloc _) w.heap.size A c b (HA.out.alloc (Nat.le_refl _) _) (le_alloc (Nat.le_refl _) _) hc HM.out hl
  simp only [show (Fr.nil.cells none 0) = #[.int .i64 0, .int .i64 0, .int .i64 0, .int .u64 0, .int .u64 0, .int .u64 0, .int .u64 0, .int .u64 0, .int .u64 0, .slice none 0 0] from rfl] at HS0 ho
  go_enter Tryd.func17, Tryd.ntmps17
  go_wp2_with fail
  refine ho.mono ?_
  clear ho
  rintro e w1 (⟨m, v, hop, rfl, ho1, hb1⟩ | ⟨hop, rfl, hb1⟩)
  · obtain ⟨A1, c1, rfl, h11, h12, h13⟩ := ho1.form
    have hml : m.length ≤ 1000000000 := by
      have := congrArg List.length (opened_some hop)
      rw [sealed_len] at this
      omega
    have HS1 := Lib.hid (show Sep w w1 [Ce w.heap.size 25 #[.int .i64 0, .int .i64 0, .int .i64 0, .int .u64 0, .int .u64 0, .int .u64 0, .int .u64 0, .int .u64 0, .int .u64 0, .slice none 0 0]] from HS0.out.grow hb1)
    have H13 := Lib.hid h13
    have HOP := Lib.hid hop
    clear HS0 hb1 ho1 h13 hop
    go_wp2_with fail
    refine (sep_newReader HS1.out w1.heap.size A1 c1 m H13.out (Nat.le_refl _) hml).mono ?_
    rintro e w2 ⟨g2, rfl, hs2⟩
    have HS2 := Lib.hid (show Sep w w2 [Ce w.heap.size 25 #[.int .i64 0, .int .i64 0, .int .i64 0, .int .u64 0, .int .u64 0, .int .u64 0, .int .u64 0, .int .u64 0, .int .u64 0, .slice none 0 0], Rd g2 m false] from hs2)
    clear hs2 HS1 H13
    have HS3 := Lib.hid (show Sep w (w2.alloc (.cells #[.int .i64 0, .int .i64 0, .int .i64 0, .int .u64 0, .int .u64 0, .int .u64 0, .int .u64 0, .int .u64 0, .int .u64 0, .slice none 0 0] 25)) [Ce w.heap.size 25 #[.int .i64 0, .int .i64 0, .int .i64 0, .int .u64 0, .int .u64 0, .int .u64 0, .int .u64 0, .int .u64 0, .int .u64 0, .slice none 0 0], Rd g2 m false, Ce w2.heap.size 25 #[.int .i64 0, .int .i64 0, .int .i64 0, .int .u64 0, .int .u64 0, .int .u64 0, .int .u64 0, .int .u64 0, .int .u64 0, .slice none 0 0]] from sep_ce HS2.out _ _)
    clear HS2
    go_wp2_with fail
    obtain ⟨w3, HW3⟩ : ∃ W, Hid (w2.alloc (.cells #[.int .i64 0, .int .i64 0, .int .i64 0, .int .u64 0, .int .u64 0, .int .u64 0, .int .u64 0, .int .u64 0, .int .u64 0, .slice none 0 0] 25) = W) := ⟨_, Lib.hid rfl⟩
    rw [HW3.out] at HS3 ⊢
    obtain ⟨g3, HG3⟩ : ∃ g, Hid (w2.heap.size = g) := ⟨_, Lib.hid rfl⟩
    rw [HG3.out] at HS3 ⊢
    obtain ⟨g0, HG0⟩ : ∃ g, Hid (w.heap.size = g) := ⟨_, Lib.hid rfl⟩
    have HSL : Hid (Sep w w3 [Ce w.heap.size 25 #[.int .i64 0, .int .i64 0, .int .i64 0, .int .u64 0, .int .u64 0, .int .u64 0, .int .u64 0, .int .u64 0, .int .u64 0, .slice none 0 0], Rd g2 (st3 m 0).1 (st3 m 0).2, Ce g3 25 (c3 m 0)]) := HS3
    clear HS3
    go_loopw [26] (fun iv wr => ∃ k : Nat, k ≤ 3 ∧ iv = .int .i64 (k : Int) ∧ Hid (Sep w wr [Ce w.heap.size 25 #[.int .i64 0, .int .i64 0, .int .i64 0, .int .u64 0, .int .u64 0, .int .u64 0, .int .u64 0, .int .u64 0, .int .u64 0, .slice none 0 0], Rd g2 (st3 m k).1 (st3 m k).2, Ce g3 25 (c3 m k)])) (fun iv _ => 3 - (intOf iv).toNat)
    case atStart => exact ⟨0, by omega, rfl, HSL⟩
    case round =>
      obtain ⟨k, hk, rfl, HS⟩ := hrel
      by_cases hkt : k < 3
      · have hk3 : k = 0 ∨ k = 1 ∨ k = 2 := by omega
        rcases hk3 with rfl | rfl | rfl
        · have hlen := st3_len m 0
          have hx := g8_lt (st3 m 0)
          obtain ⟨i0, i1, i2⟩ := index3p wr (.pointer (some ⟨g3, 0, none⟩)) (.pointer (some ⟨g3, 1, none⟩)) (.pointer (some ⟨g3, 2, none⟩))
          go_wp2_with fail
          clear i0 i1 i2
          refine (sep_g8 (i := 1) (s := st3 m 0) HS.out rfl (by omega)).mono ?_
          rintro e w4 ⟨rfl, hs4⟩
          have HS4 := Lib.hid (show Sep w w4 [Ce w.heap.size 25 #[.int .i64 0, .int .i64 0, .int .i64 0, .int .u64 0, .int .u64 0, .int .u64 0, .int .u64 0, .int .u64 0, .int .u64 0, .slice none 0 0], Rd g2 (st3 m 1).1 (st3 m 1).2, Ce g3 25 (c3 m 0)] from hs4)
          clear hs4 HS
          have k0 := sep_ceAt (i := 2) HS4.out rfl 0 rfl
          have y0 := sep_ceFrozen (i := 2) HS4.out rfl 0
          obtain ⟨x, Hx⟩ : ∃ x, Hid ((g8 (st3 m 0)).1 = x) := ⟨_, Lib.hid rfl⟩
          rw [Hx.out] at hx ⊢
          go_wp2_with fail
          go_roundw
          case rel => exact ⟨1, by omega, rfl, Lib.hid (show Sep w _ [Ce w.heap.size 25 #[.int .i64 0, .int .i64 0, .int .i64 0, .int .u64 0, .int .u64 0, .int .u64 0, .int .u64 0, .int .u64 0, .int .u64 0, .slice none 0 0], Rd g2 (st3 m 1).1 (st3 m 1).2, Ce g3 25 (c3 m 1)] by
            have := sep_ceSet (i := 2) HS4.out rfl 0 (.int .i64 (x : Int))
            rw [← Hx.out] at this ⊢
            exact this)⟩
          case measure => simp [intOf]
        · have hlen := st3_len m 1
          have hx := g8_lt (st3 m 1)
          obtain ⟨i0, i1, i2⟩ := index3p wr (.pointer (some ⟨g3, 0, none⟩)) (.pointer (some ⟨g3, 1, none⟩)) (.pointer (some ⟨g3, 2, none⟩))
          go_wp2_with fail
          clear i0 i1 i2
          refine (sep_g8 (i := 1) (s := st3 m 1) HS.out rfl (by omega)).mono ?_
          rintro e w4 ⟨rfl, hs4⟩
          have HS4 := Lib.hid (show Sep w w4 [Ce w.heap.size 25 #[.int .i64 0, .int .i64 0, .int .i64 0, .int .u64 0, .int .u64 0, .int .u64 0, .int .u64 0, .int .u64 0, .int .u64 0, .slice none 0 0], Rd g2 (st3 m 2).1 (st3 m 2).2, Ce g3 25 (c3 m 1)] from hs4)
          clear hs4 HS
          have k1 := sep_ceAt (i := 2) HS4.out rfl 1 rfl
          have y1 := sep_ceFrozen (i := 2) HS4.out rfl 1
          obtain ⟨x, Hx⟩ : ∃ x, Hid ((g8 (st3 m 1)).1 = x) := ⟨_, Lib.hid rfl⟩
          rw [Hx.out] at hx ⊢
          go_wp2_with fail
          go_roundw
          case rel => exact ⟨2, by omega, rfl, Lib.hid (show Sep w _ [Ce w.heap.size 25 #[.int .i64 0, .int .i64 0, .int .i64 0, .int .u64 0, .int .u64 0, .int .u64 0, .int .u64 0, .int .u64 0, .int .u64 0, .slice none 0 0], Rd g2 (st3 m 2).1 (st3 m 2).2, Ce g3 25 (c3 m 2)] by
            have := sep_ceSet (i := 2) HS4.out rfl 1 (.int .i64 (x : Int))
            rw [← Hx.out] at this ⊢
            exact this)⟩
          case measure => simp [intOf]
        · have hlen := st3_len m 2
          have hx := g8_lt (st3 m 2)
          obtain ⟨i0, i1, i2⟩ := index3p wr (.pointer (some ⟨g3, 0, none⟩)) (.pointer (some ⟨g3, 1, none⟩)) (.pointer (some ⟨g3, 2, none⟩))
          go_wp2_with fail
          clear i0 i1 i2
          refine (sep_g8 (i := 1) (s := st3 m 2) HS.out rfl (by omega)).mono ?_
          rintro e w4 ⟨rfl, hs4⟩
          have HS4 := Lib.hid (show Sep w w4 [Ce w.heap.size 25 #[.int .i64 0, .int .i64 0, .int .i64 0, .int .u64 0, .int .u64 0, .int .u64 0, .int .u64 0, .int .u64 0, .int .u64 0, .slice none 0 0], Rd g2 (st3 m 3).1 (st3 m 3).2, Ce g3 25 (c3 m 2)] from hs4)
          clear hs4 HS
          have k2 := sep_ceAt (i := 2) HS4.out rfl 2 rfl
          have y2 := sep_ceFrozen (i := 2) HS4.out rfl 2
          obtain ⟨x, Hx⟩ : ∃ x, Hid ((g8 (st3 m 2)).1 = x) := ⟨_, Lib.hid rfl⟩
          rw [Hx.out] at hx ⊢
          go_wp2_with fail
          go_roundw
          case rel => exact ⟨3, by omega, rfl, Lib.hid (show Sep w _ [Ce w.heap.size 25 #[.int .i64 0, .int .i64 0, .int .i64 0, .int .u64 0, .int .u64 0, .int .u64 0, .int .u64 0, .int .u64 0, .int .u64 0, .slice none 0 0], Rd g2 (st3 m 3).1 (st3 m 3).2, Ce g3 25 (c3 m 3)] by
            have := sep_ceSet (i := 2) HS4.out rfl 2 (.int .i64 (x : Int))
            rw [← Hx.out] at this ⊢
            exact this)⟩
          case measure => simp [intOf]
      · have hk3 : k = 3 := by omega
        rw [hk3] at HS
        clear hk3
        go_wp2_with fail
        clear hk hkt
        have HSL : Hid (Sep w wr [Ce w.heap.size 25 #[.int .i64 0, .int .i64 0, .int .i64 0, .int .u64 0, .int .u64 0, .int .u64 0, .int .u64 0, .int .u64 0, .int .u64 0, .slice none 0 0], Rd g2 (st6 m 0).1 (st6 m 0).2, Ce g3 25 (c6 m 0)]) := HS
        clear HS
        go_loopw [42] (fun iv wr => ∃ k : Nat, k ≤ 6 ∧ iv = .int .i64 (k : Int) ∧ Hid (Sep w wr [Ce w.heap.size 25 #[.int .i64 0, .int .i64 0, .int .i64 0, .int .u64 0, .int .u64 0, .int .u64 0, .int .u64 0, .int .u64 0, .int .u64 0, .slice none 0 0], Rd g2 (st6 m k).1 (st6 m k).2, Ce g3 25 (c6 m k)])) (fun iv _ => 6 - (intOf iv).toNat)
        case atStart => exact ⟨0, by omega, rfl, HSL⟩
        case round =>
          obtain ⟨k, hk, rfl, HS⟩ := hrel
          by_cases hkt : k < 6
          · have hk3 : k = 0 ∨ k = 1 ∨ k = 2 ∨ k = 3 ∨ k = 4 ∨ k = 5 := by omega
            rcases hk3 with rfl | rfl | rfl | rfl | rfl | rfl
            · have hlen := st6_len m 0
              have hx := gU_lt (st6 m 0)
              obtain ⟨i0, i1, i2, i3, i4, i5⟩ := index6p wr (.pointer (some ⟨g3, 3, none⟩)) (.pointer (some ⟨g3, 4, none⟩)) (.pointer (some ⟨g3, 5, none⟩)) (.pointer (some ⟨g3, 6, none⟩)) (.pointer (some ⟨g3, 7, none⟩)) (.pointer (some ⟨g3, 8, none⟩))
              go_wp2_with fail
              clear i0 i1 i2 i3 i4 i5
              refine (sep_gU (i := 1) (s := st6 m 0) HS.out rfl (by omega)).mono ?_
              rintro e w4 ⟨rfl, hs4⟩
              have HS4 := Lib.hid (show Sep w w4 [Ce w.heap.size 25 #[.int .i64 0, .int .i64 0, .int .i64 0, .int .u64 0, .int .u64 0, .int .u64 0, .int .u64 0, .int .u64 0, .int .u64 0, .slice none 0 0], Rd g2 (st6 m 1).1 (st6 m 1).2, Ce g3 25 (c6 m 0)] from hs4)
              clear hs4 HS
              have k3 := sep_ceAt (i := 2) HS4.out rfl 3 rfl
              have y3 := sep_ceFrozen (i := 2) HS4.out rfl 3
              obtain ⟨x, Hx⟩ : ∃ x, Hid ((gU (st6 m 0)).1 = x) := ⟨_, Lib.hid rfl⟩
              rw [Hx.out] at hx ⊢
              go_wp2_with fail
              go_roundw
              case rel => exact ⟨1, by omega, rfl, Lib.hid (show Sep w _ [Ce w.heap.size 25 #[.int .i64 0, .int .i64 0, .int .i64 0, .int .u64 0, .int .u64 0, .int .u64 0, .int .u64 0, .int .u64 0, .int .u64 0, .slice none 0 0], Rd g2 (st6 m 1).1 (st6 m 1).2, Ce g3 25 (c6 m 1)] by
                have := sep_ceSet (i := 2) HS4.out rfl 3 (.int .u64 (x : Int))
                rw [← Hx.out] at this ⊢
                exact this)⟩
              case measure => simp [intOf]
            · have hlen := st6_len m 1
              have hx := gU_lt (st6 m 1)
              obtain ⟨i0, i1, i2, i3, i4, i5⟩ := index6p wr (.pointer (some ⟨g3, 3, none⟩)) (.pointer (some ⟨g3, 4, none⟩)) (.pointer (some ⟨g3, 5, none⟩)) (.pointer (some ⟨g3, 6, none⟩)) (.pointer (some ⟨g3, 7, none⟩)) (.pointer (some ⟨g3, 8, none⟩))
              go_wp2_with fail
              clear i0 i1 i2 i3 i4 i5
              refine (sep_gU (i := 1) (s := st6 m 1) HS.out rfl (by omega)).mono ?_
              rintro e w4 ⟨rfl, hs4⟩
              have HS4 := Lib.hid (show Sep w w4 [Ce w.heap.size 25 #[.int .i64 0, .int .i64 0, .int .i64 0, .int .u64 0, .int .u64 0, .int .u64 0, .int .u64 0, .int .u64 0, .int .u64 0, .slice none 0 0], Rd g2 (st6 m 2).1 (st6 m 2).2, Ce g3 25 (c6 m 1)] from hs4)
              clear hs4 HS
              have k4 := sep_ceAt (i := 2) HS4.out rfl 4 rfl
              have y4 := sep_ceFrozen (i := 2) HS4.out rfl 4
              obtain ⟨x, Hx⟩ : ∃ x, Hid ((gU (st6 m 1)).1 = x) := ⟨_, Lib.hid rfl⟩
              rw [Hx.out] at hx ⊢
              go_wp2_with fail
              go_roundw
              case rel => exact ⟨2, by omega, rfl, Lib.hid (show Sep w _ [Ce w.heap.size 25 #[.int .i64 0, .int .i64 0, .int .i64 0, .int .u64 0, .int .u64 0, .int .u64 0, .int .u64 0, .int .u64 0, .int .u64 0, .slice none 0 0], Rd g2 (st6 m 2).1 (st6 m 2).2, Ce g3 25 (c6 m 2)] by
                have := sep_ceSet (i := 2) HS4.out rfl 4 (.int .u64 (x : Int))
                rw [← Hx.out] at this ⊢
                exact this)⟩
              case measure => simp [intOf]
            · have hlen := st6_len m 2
              have hx := gU_lt (st6 m 2)
              obtain ⟨i0, i1, i2, i3, i4, i5⟩ := index6p wr (.pointer (some ⟨g3, 3, none⟩)) (.pointer (some ⟨g3, 4, none⟩)) (.pointer (some ⟨g3, 5, none⟩)) (.pointer (some ⟨g3, 6, none⟩)) (.pointer (some ⟨g3, 7, none⟩)) (.pointer (some ⟨g3, 8, none⟩))
              go_wp2_with fail
              clear i0 i1 i2 i3 i4 i5
              refine (sep_gU (i := 1) (s := st6 m 2) HS.out rfl (by omega)).mono ?_
              rintro e w4 ⟨rfl, hs4⟩
              have HS4 := Lib.hid (show Sep w w4 [Ce w.heap.size 25 #[.int .i64 0, .int .i64 0, .int .i64 0, .int .u64 0, .int .u64 0, .int .u64 0, .int .u64 0, .int .u64 0, .int .u64 0, .slice none 0 0], Rd g2 (st6 m 3).1 (st6 m 3).2, Ce g3 25 (c6 m 2)] from hs4)
              clear hs4 HS
              have k5 := sep_ceAt (i := 2) HS4.out rfl 5 rfl
              have y5 := sep_ceFrozen (i := 2) HS4.out rfl 5
              obtain ⟨x, Hx⟩ : ∃ x, Hid ((gU (st6 m 2)).1 = x) := ⟨_, Lib.hid rfl⟩
              rw [Hx.out] at hx ⊢
              go_wp2_with fail
              go_roundw
              case rel => exact ⟨3, by omega, rfl, Lib.hid (show Sep w _ [Ce w.heap.size 25 #[.int .i64 0, .int .i64 0, .int .i64 0, .int .u64 0, .int .u64 0, .int .u64 0, .int .u64 0, .int .u64 0, .int .u64 0, .slice none 0 0], Rd g2 (st6 m 3).1 (st6 m 3).2, Ce g3 25 (c6 m 3)] by
                have := sep_ceSet (i := 2) HS4.out rfl 5 (.int .u64 (x : Int))
                rw [← Hx.out] at this ⊢
                exact this)⟩
              case measure => simp [intOf]
            · have hlen := st6_len m 3
              have hx := gU_lt (st6 m 3)
              obtain ⟨i0, i1, i2, i3, i4, i5⟩ := index6p wr (.pointer (some ⟨g3, 3, none⟩)) (.pointer (some ⟨g3, 4, none⟩)) (.pointer (some ⟨g3, 5, none⟩)) (.pointer (some ⟨g3, 6, none⟩)) (.pointer (some ⟨g3, 7, none⟩)) (.pointer (some ⟨g3, 8, none⟩))
              go_wp2_with fail
              clear i0 i1 i2 i3 i4 i5
              refine (sep_gU (i := 1) (s := st6 m 3) HS.out rfl (by omega)).mono ?_
              rintro e w4 ⟨rfl, hs4⟩
              have HS4 := Lib.hid (show Sep w w4 [Ce w.heap.size 25 #[.int .i64 0, .int .i64 0, .int .i64 0, .int .u64 0, .int .u64 0, .int .u64 0, .int .u64 0, .int .u64 0, .int .u64 0, .slice none 0 0], Rd g2 (st6 m 4).1 (st6 m 4).2, Ce g3 25 (c6 m 3)] from hs4)
              clear hs4 HS
              have k6 := sep_ceAt (i := 2) HS4.out rfl 6 rfl
              have y6 := sep_ceFrozen (i := 2) HS4.out rfl 6
              obtain ⟨x, Hx⟩ : ∃ x, Hid ((gU (st6 m 3)).1 = x) := ⟨_, Lib.hid rfl⟩
              rw [Hx.out] at hx ⊢
              go_wp2_with fail
              go_roundw
              case rel => exact ⟨4, by omega, rfl, Lib.hid (show Sep w _ [Ce w.heap.size 25 #[.int .i64 0, .int .i64 0, .int .i64 0, .int .u64 0, .int .u64 0, .int .u64 0, .int .u64 0, .int .u64 0, .int .u64 0, .slice none 0 0], Rd g2 (st6 m 4).1 (st6 m 4).2, Ce g3 25 (c6 m 4)] by
                have := sep_ceSet (i := 2) HS4.out rfl 6 (.int .u64 (x : Int))
                rw [← Hx.out] at this ⊢
                exact this)⟩
              case measure => simp [intOf]
            · have hlen := st6_len m 4
              have hx := gU_lt (st6 m 4)
              obtain ⟨i0, i1, i2, i3, i4, i5⟩ := index6p wr (.pointer (some ⟨g3, 3, none⟩)) (.pointer (some ⟨g3, 4, none⟩)) (.pointer (some ⟨g3, 5, none⟩)) (.pointer (some ⟨g3, 6, none⟩)) (.pointer (some ⟨g3, 7, none⟩)) (.pointer (some ⟨g3, 8, none⟩))
              go_wp2_with fail
              clear i0 i1 i2 i3 i4 i5
              refine (sep_gU (i := 1) (s := st6 m 4) HS.out rfl (by omega)).mono ?_
              rintro e w4 ⟨rfl, hs4⟩
              have HS4 := Lib.hid (show Sep w w4 [Ce w.heap.size 25 #[.int .i64 0, .int .i64 0, .int .i64 0, .int .u64 0, .int .u64 0, .int .u64 0, .int .u64 0, .int .u64 0, .int .u64 0, .slice none 0 0], Rd g2 (st6 m 5).1 (st6 m 5).2, Ce g3 25 (c6 m 4)] from hs4)
              clear hs4 HS
              have k7 := sep_ceAt (i := 2) HS4.out rfl 7 rfl
              have y7 := sep_ceFrozen (i := 2) HS4.out rfl 7
              obtain ⟨x, Hx⟩ : ∃ x, Hid ((gU (st6 m 4)).1 = x) := ⟨_, Lib.hid rfl⟩
              rw [Hx.out] at hx ⊢
              go_wp2_with fail
              go_roundw
              case rel => exact ⟨5, by omega, rfl, Lib.hid (show Sep w _ [Ce w.heap.size 25 #[.int .i64 0, .int .i64 0, .int .i64 0, .int .u64 0, .int .u64 0, .int .u64 0, .int .u64 0, .int .u64 0, .int .u64 0, .slice none 0 0], Rd g2 (st6 m 5).1 (st6 m 5).2, Ce g3 25 (c6 m 5)] by
                have := sep_ceSet (i := 2) HS4.out rfl 7 (.int .u64 (x : Int))
                rw [← Hx.out] at this ⊢
                exact this)⟩
              case measure => simp [intOf]
            · have hlen := st6_len m 5
              have hx := gU_lt (st6 m 5)
              obtain ⟨i0, i1, i2, i3, i4, i5⟩ := index6p wr (.pointer (some ⟨g3, 3, none⟩)) (.pointer (some ⟨g3, 4, none⟩)) (.pointer (some ⟨g3, 5, none⟩)) (.pointer (some ⟨g3, 6, none⟩)) (.pointer (some ⟨g3, 7, none⟩)) (.pointer (some ⟨g3, 8, none⟩))
              go_wp2_with fail
              clear i0 i1 i2 i3 i4 i5
              refine (sep_gU (i := 1) (s := st6 m 5) HS.out rfl (by omega)).mono ?_
              rintro e w4 ⟨rfl, hs4⟩
              have HS4 := Lib.hid (show Sep w w4 [Ce w.heap.size 25 #[.int .i64 0, .int .i64 0, .int .i64 0, .int .u64 0, .int .u64 0, .int .u64 0, .int .u64 0, .int .u64 0, .int .u64 0, .slice none 0 0], Rd g2 (st6 m 6).1 (st6 m 6).2, Ce g3 25 (c6 m 5)] from hs4)
              clear hs4 HS
              have k8 := sep_ceAt (i := 2) HS4.out rfl 8 rfl
              have y8 := sep_ceFrozen (i := 2) HS4.out rfl 8
              obtain ⟨x, Hx⟩ : ∃ x, Hid ((gU (st6 m 5)).1 = x) := ⟨_, Lib.hid rfl⟩
              rw [Hx.out] at hx ⊢
              go_wp2_with fail
              go_roundw
              case rel => exact ⟨6, by omega, rfl, Lib.hid (show Sep w _ [Ce w.heap.size 25 #[.int .i64 0, .int .i64 0, .int .i64 0, .int .u64 0, .int .u64 0, .int .u64 0, .int .u64 0, .int .u64 0, .int .u64 0, .slice none 0 0], Rd g2 (st6 m 6).1 (st6 m 6).2, Ce g3 25 (c6 m 6)] by
                have := sep_ceSet (i := 2) HS4.out rfl 8 (.int .u64 (x : Int))
                rw [← Hx.out] at this ⊢
                exact this)⟩
              case measure => simp [intOf]
          · have hk3 : k = 6 := by omega
            rw [hk3] at HS
            obtain ⟨x0, Hx0⟩ : ∃ x, Hid ((rdK m).1 = x) := ⟨_, Lib.hid rfl⟩
            obtain ⟨x1, Hx1⟩ : ∃ x, Hid ((rdF m).1 = x) := ⟨_, Lib.hid rfl⟩
            obtain ⟨x2, Hx2⟩ : ∃ x, Hid ((rdT m).1 = x) := ⟨_, Lib.hid rfl⟩
            obtain ⟨u0, Hu0⟩ : ∃ x, Hid ((gU (st6 m 0)).1 = x) := ⟨_, Lib.hid rfl⟩
            obtain ⟨u1, Hu1⟩ : ∃ x, Hid ((gU (st6 m 1)).1 = x) := ⟨_, Lib.hid rfl⟩
            obtain ⟨u2, Hu2⟩ : ∃ x, Hid ((gU (st6 m 2)).1 = x) := ⟨_, Lib.hid rfl⟩
            obtain ⟨u3, Hu3⟩ : ∃ x, Hid ((gU (st6 m 3)).1 = x) := ⟨_, Lib.hid rfl⟩
            obtain ⟨u4, Hu4⟩ : ∃ x, Hid ((gU (st6 m 4)).1 = x) := ⟨_, Lib.hid rfl⟩
            obtain ⟨u5, Hu5⟩ : ∃ x, Hid ((gU (st6 m 5)).1 = x) := ⟨_, Lib.hid rfl⟩
            obtain ⟨s6, Hs6⟩ : ∃ x, Hid (st6 m 6 = x) := ⟨_, Lib.hid rfl⟩
            have HS6 : Hid (Sep w wr [Ce w.heap.size 25 #[.int .i64 0, .int .i64 0, .int .i64 0, .int .u64 0, .int .u64 0, .int .u64 0, .int .u64 0, .int .u64 0, .int .u64 0, .slice none 0 0], Rd g2 s6.1 s6.2, Ce g3 25 #[.int .i64 (x0 : Int), .int .i64 (x1 : Int), .int .i64 (x2 : Int), .int .u64 (u0 : Int), .int .u64 (u1 : Int), .int .u64 (u2 : Int), .int .u64 (u3 : Int), .int .u64 (u4 : Int), .int .u64 (u5 : Int), .slice none 0 0]]) := Lib.hid (by
              have h := HS.out
              simp only [c6, Hx0.out, Hx1.out, Hx2.out, Hu0.out, Hu1.out, Hu2.out, Hu3.out, Hu4.out, Hu5.out, Hs6.out] at h
              exact h)
            clear HS
            have hs6l : s6.1.length ≤ m.length := by rw [← Hs6.out]; exact st6_len m 6
            have k0 := sep_ceAt (i := 2) HS6.out rfl 0 rfl
            clear hk3
            by_cases hx2 : x0 = 2
            · have e2 : (((x0 : Nat) : Int) == 2) = true := by simp; omega
              have HX2 := Lib.hid hx2
              clear hx2
              go_wp2_with fail
              clear e2 k0
              refine (sep_gT (i := 1) (s := s6) HS6.out rfl (by omega)).mono ?_
              rintro e w6 ⟨rfl, hs6⟩
              obtain ⟨t, Ht⟩ : ∃ t, Hid ((gT s6).1 = t) := ⟨_, Lib.hid rfl⟩
              obtain ⟨s7, Hs7⟩ : ∃ t, Hid ((gT s6).2 = t) := ⟨_, Lib.hid rfl⟩
              have HB : Hid (rdB m = (t, s7)) := Lib.hid (by
                unfold rdB
                rw [Hx0.out, if_pos HX2.out, show (rd6 m).s = s6 from Hs6.out, ← Ht.out, ← Hs7.out])
              have htl : t.length ≤ m.length := by
                rw [← Ht.out]
                refine Nat.le_trans ?_ hs6l
                exact gT_body_len s6
              have HS7 := Lib.hid (show Sep w w6 [Ce w.heap.size 25 #[.int .i64 0, .int .i64 0, .int .i64 0, .int .u64 0, .int .u64 0, .int .u64 0, .int .u64 0, .int .u64 0, .int .u64 0, .slice none 0 0], Rd g2 s7.1 s7.2, Ce g3 25 #[.int .i64 (x0 : Int), .int .i64 (x1 : Int), .int .i64 (x2 : Int), .int .u64 (u0 : Int), .int .u64 (u1 : Int), .int .u64 (u2 : Int), .int .u64 (u3 : Int), .int .u64 (u4 : Int), .int .u64 (u5 : Int), .slice none 0 0]] by rw [← Hs7.out]; exact hs6)
              clear hs6 HS6
              rw [Ht.out]
              obtain ⟨w7, c7, hcv, hs7⟩ := sep_conv HS7.out t
              have HSc := Lib.hid (show Sep w w7 [Ce w.heap.size 25 #[.int .i64 0, .int .i64 0, .int .i64 0, .int .u64 0, .int .u64 0, .int .u64 0, .int .u64 0, .int .u64 0, .int .u64 0, .slice none 0 0], Rd g2 s7.1 s7.2, Ce g3 25 #[.int .i64 (x0 : Int), .int .i64 (x1 : Int), .int .i64 (x2 : Int), .int .u64 (u0 : Int), .int .u64 (u1 : Int), .int .u64 (u2 : Int), .int .u64 (u3 : Int), .int .u64 (u4 : Int), .int .u64 (u5 : Int), .slice none 0 0], Cv (.slice (some ⟨w6.heap.size, 0, none⟩) t.length c7) t] from hs7)
              clear hs7 HS7
              have k9 := sep_ceAt (i := 2) HSc.out rfl 9 rfl
              have y9 := sep_ceFrozen (i := 2) HSc.out rfl 9
              go_wp2_with fail
              clear hcv k9 y9
              obtain ⟨g6, HG6⟩ : ∃ g, Hid (w6.heap.size = g) := ⟨_, Lib.hid rfl⟩
              rw [HG6.out] at HSc ⊢
              have HSd := Lib.hid (show Sep w (w7.setCell ⟨g3, 9, none⟩ (.slice (some ⟨g6, 0, none⟩) t.length c7)) [Ce w.heap.size 25 #[.int .i64 0, .int .i64 0, .int .i64 0, .int .u64 0, .int .u64 0, .int .u64 0, .int .u64 0, .int .u64 0, .int .u64 0, .slice none 0 0], Rd g2 s7.1 s7.2, Ce g3 25 #[.int .i64 (x0 : Int), .int .i64 (x1 : Int), .int .i64 (x2 : Int), .int .u64 (u0 : Int), .int .u64 (u1 : Int), .int .u64 (u2 : Int), .int .u64 (u3 : Int), .int .u64 (u4 : Int), .int .u64 (u5 : Int), .slice (some ⟨g6, 0, none⟩) t.length c7], Cv (.slice (some ⟨g6, 0, none⟩) t.length c7) t] from sep_ceSet (i := 2) HSc.out rfl 9 _)
              clear HSc
              by_cases hen : rEnd s7.1 s7.2 = true
              · refine (sep_gEb (i := 1) (s := s7) (z := 3) HSd.out rfl hen rfl).mono ?_
                rintro e w8 ⟨rfl, hs8⟩
                have HS8 := Lib.hid (show Sep w w8 [Ce w.heap.size 25 #[.int .i64 0, .int .i64 0, .int .i64 0, .int .u64 0, .int .u64 0, .int .u64 0, .int .u64 0, .int .u64 0, .int .u64 0, .slice none 0 0], Rd g2 s7.1 true, Ce g3 25 #[.int .i64 (x0 : Int), .int .i64 (x1 : Int), .int .i64 (x2 : Int), .int .u64 (u0 : Int), .int .u64 (u1 : Int), .int .u64 (u2 : Int), .int .u64 (u3 : Int), .int .u64 (u4 : Int), .int .u64 (u5 : Int), .slice (some ⟨g6, 0, none⟩) t.length c7], Cv (.slice (some ⟨g6, 0, none⟩) t.length c7) t] from hs8)
                clear hs8 HSd
                have k0 := sep_ceAt (i := 0) HS8.out rfl 0 rfl
                have k1 := sep_ceAt (i := 0) HS8.out rfl 1 rfl
                have k2 := sep_ceAt (i := 0) HS8.out rfl 2 rfl
                have k3 := sep_ceAt (i := 0) HS8.out rfl 3 rfl
                have k4 := sep_ceAt (i := 0) HS8.out rfl 4 rfl
                have k5 := sep_ceAt (i := 0) HS8.out rfl 5 rfl
                have k6 := sep_ceAt (i := 0) HS8.out rfl 6 rfl
                have k7 := sep_ceAt (i := 0) HS8.out rfl 7 rfl
                have k8 := sep_ceAt (i := 0) HS8.out rfl 8 rfl
                have k9 := sep_ceAt (i := 0) HS8.out rfl 9 rfl
                have y0 := sep_ceFrozen (i := 0) HS8.out rfl 0
                have y1 := sep_ceFrozen (i := 0) HS8.out rfl 1
                have y2 := sep_ceFrozen (i := 0) HS8.out rfl 2
                have y3 := sep_ceFrozen (i := 0) HS8.out rfl 3
                have y4 := sep_ceFrozen (i := 0) HS8.out rfl 4
                have y5 := sep_ceFrozen (i := 0) HS8.out rfl 5
                have y6 := sep_ceFrozen (i := 0) HS8.out rfl 6
                have y7 := sep_ceFrozen (i := 0) HS8.out rfl 7
                have y8 := sep_ceFrozen (i := 0) HS8.out rfl 8
                have y9 := sep_ceFrozen (i := 0) HS8.out rfl 9
                go_wp2_with fail
                obtain ⟨_, hs2⟩ := sep_put10 (i := 0) HS8.out rfl (.int .i64 0) (.int .i64 0) (.int .i64 0) (.int .u64 0) (.int .u64 0) (.int .u64 0) (.int .u64 0) (.int .u64 0) (.int .u64 0) (.slice none 0 0)
                refine bodyPost_ret (v := .tuple #[.agg #[.int .i64 0, .int .i64 0, .int .i64 0, .int .u64 0, .int .u64 0, .int .u64 0, .int .u64 0, .int .u64 0, .int .u64 0, .slice none 0 0], .int .i64 3]) (by simp [results, Tryd.results17, go_sem, k0, k1, k2, k3, k4, k5, k6, k7, k8, k9]) rfl ?_
                exact .inr ⟨fun f hf => (by have h := ((isFr_rd HOP.out f).1 hf).1; rw [HB.out] at h; rw [h] at hen; cases hen), rfl, hs2.bel⟩
              · have HEN : Hid (rEnd s7.1 s7.2 = false) := Lib.hid (by simpa using hen)
                clear hen
                refine (sep_gEb (i := 1) (s := s7) (z := 0) HSd.out rfl HEN.out rfl).mono ?_
                rintro e w8 ⟨rfl, hs8⟩
                have HS8 := Lib.hid (show Sep w w8 [Ce w.heap.size 25 #[.int .i64 0, .int .i64 0, .int .i64 0, .int .u64 0, .int .u64 0, .int .u64 0, .int .u64 0, .int .u64 0, .int .u64 0, .slice none 0 0], Rd g2 s7.1 false, Ce g3 25 #[.int .i64 (x0 : Int), .int .i64 (x1 : Int), .int .i64 (x2 : Int), .int .u64 (u0 : Int), .int .u64 (u1 : Int), .int .u64 (u2 : Int), .int .u64 (u3 : Int), .int .u64 (u4 : Int), .int .u64 (u5 : Int), .slice (some ⟨g6, 0, none⟩) t.length c7], Cv (.slice (some ⟨g6, 0, none⟩) t.length c7) t] from hs8)
                clear hs8 HSd
                have z0 := sep_ceAt (i := 2) HS8.out rfl 0 rfl
                have z1 := sep_ceAt (i := 2) HS8.out rfl 1 rfl
                have z2 := sep_ceAt (i := 2) HS8.out rfl 2 rfl
                have z3 := sep_ceAt (i := 2) HS8.out rfl 3 rfl
                have z4 := sep_ceAt (i := 2) HS8.out rfl 4 rfl
                have z5 := sep_ceAt (i := 2) HS8.out rfl 5 rfl
                have z6 := sep_ceAt (i := 2) HS8.out rfl 6 rfl
                have z7 := sep_ceAt (i := 2) HS8.out rfl 7 rfl
                have z8 := sep_ceAt (i := 2) HS8.out rfl 8 rfl
                have z9 := sep_ceAt (i := 2) HS8.out rfl 9 rfl
                go_wp2_with fail
                clear z0 z1 z2 z3 z4 z5 z6 z7 z8 z9
                by_cases hmy : (Fr.mk x0 x1 x2 u0 u1 u2 u3 u4 u5 t).may = true
                · have HMY := Lib.hid hmy
                  clear hmy
                  refine (mayFb (w := w8) (f := (Fr.mk x0 x1 x2 u0 u1 u2 u3 u4 u5 t)) (A := (some ⟨g6, 0, none⟩)) (c := c7) HMY.out (by unfold maxLen; simp <;> omega)).mono ?_
                  rintro e w9 ⟨rfl, hb9⟩
                  have HS9 := Lib.hid (HS8.out.grow hb9)
                  clear HS8 hb9
                  have z0 := sep_ceAt (i := 2) HS9.out rfl 0 rfl
                  have z1 := sep_ceAt (i := 2) HS9.out rfl 1 rfl
                  have z2 := sep_ceAt (i := 2) HS9.out rfl 2 rfl
                  have z3 := sep_ceAt (i := 2) HS9.out rfl 3 rfl
                  have z4 := sep_ceAt (i := 2) HS9.out rfl 4 rfl
                  have z5 := sep_ceAt (i := 2) HS9.out rfl 5 rfl
                  have z6 := sep_ceAt (i := 2) HS9.out rfl 6 rfl
                  have z7 := sep_ceAt (i := 2) HS9.out rfl 7 rfl
                  have z8 := sep_ceAt (i := 2) HS9.out rfl 8 rfl
                  have z9 := sep_ceAt (i := 2) HS9.out rfl 9 rfl
                  have k0 := sep_ceAt (i := 0) HS9.out rfl 0 rfl
                  have k1 := sep_ceAt (i := 0) HS9.out rfl 1 rfl
                  have k2 := sep_ceAt (i := 0) HS9.out rfl 2 rfl
                  have k3 := sep_ceAt (i := 0) HS9.out rfl 3 rfl
                  have k4 := sep_ceAt (i := 0) HS9.out rfl 4 rfl
                  have k5 := sep_ceAt (i := 0) HS9.out rfl 5 rfl
                  have k6 := sep_ceAt (i := 0) HS9.out rfl 6 rfl
                  have k7 := sep_ceAt (i := 0) HS9.out rfl 7 rfl
                  have k8 := sep_ceAt (i := 0) HS9.out rfl 8 rfl
                  have k9 := sep_ceAt (i := 0) HS9.out rfl 9 rfl
                  have y0 := sep_ceFrozen (i := 0) HS9.out rfl 0
                  have y1 := sep_ceFrozen (i := 0) HS9.out rfl 1
                  have y2 := sep_ceFrozen (i := 0) HS9.out rfl 2
                  have y3 := sep_ceFrozen (i := 0) HS9.out rfl 3
                  have y4 := sep_ceFrozen (i := 0) HS9.out rfl 4
                  have y5 := sep_ceFrozen (i := 0) HS9.out rfl 5
                  have y6 := sep_ceFrozen (i := 0) HS9.out rfl 6
                  have y7 := sep_ceFrozen (i := 0) HS9.out rfl 7
                  have y8 := sep_ceFrozen (i := 0) HS9.out rfl 8
                  have y9 := sep_ceFrozen (i := 0) HS9.out rfl 9
                  go_wp2_with fail
                  obtain ⟨_, hs2⟩ := sep_put10 (i := 0) HS9.out rfl (.int .i64 (x0 : Int)) (.int .i64 (x1 : Int)) (.int .i64 (x2 : Int)) (.int .u64 (u0 : Int)) (.int .u64 (u1 : Int)) (.int .u64 (u2 : Int)) (.int .u64 (u3 : Int)) (.int .u64 (u4 : Int)) (.int .u64 (u5 : Int)) (.slice (some ⟨g6, 0, none⟩) t.length c7)
                  refine bodyPost_ret (v := .tuple #[.agg #[.int .i64 (x0 : Int), .int .i64 (x1 : Int), .int .i64 (x2 : Int), .int .u64 (u0 : Int), .int .u64 (u1 : Int), .int .u64 (u2 : Int), .int .u64 (u3 : Int), .int .u64 (u4 : Int), .int .u64 (u5 : Int), .slice (some ⟨g6, 0, none⟩) t.length c7], .int .i64 0]) (by simp [results, Tryd.results17, go_sem, k0, k1, k2, k3, k4, k5, k6, k7, k8, k9]) rfl ?_
                  have hF : rdFr m = (Fr.mk x0 x1 x2 u0 u1 u2 u3 u4 u5 t) := by
                    unfold rdFr
                    rw [HB.out, show rd6 m = ⟨(gU (st6 m 0)).1, (gU (st6 m 1)).1, (gU (st6 m 2)).1, (gU (st6 m 3)).1, (gU (st6 m 4)).1, (gU (st6 m 5)).1, st6 m 6⟩ from rfl]
                    simp only [Hx0.out, Hx1.out, Hx2.out, Hu0.out, Hu1.out, Hu2.out, Hu3.out, Hu4.out, Hu5.out]
                  exact .inl ⟨(Fr.mk x0 x1 x2 u0 u1 u2 u3 u4 u5 t), (some ⟨g6, 0, none⟩), c7, (isFr_rd HOP.out _).2 ⟨by rw [HB.out]; exact HEN.out, by rw [hF]; exact HMY.out, hF.symm⟩, rfl, sep_bodyAt (i := 3) hs2 rfl, hs2.bel⟩
                · have HMN : Hid ((Fr.mk x0 x1 x2 u0 u1 u2 u3 u4 u5 t).may = false) := Lib.hid (by simpa using hmy)
                  clear hmy
                  refine (mayFb (w := w8) (f := (Fr.mk x0 x1 x2 u0 u1 u2 u3 u4 u5 t)) (A := (some ⟨g6, 0, none⟩)) (c := c7) HMN.out (by unfold maxLen; simp <;> omega)).mono ?_
                  rintro e w9 ⟨rfl, hb9⟩
                  have HS9 := Lib.hid (HS8.out.grow hb9)
                  clear HS8 hb9
                  have k0 := sep_ceAt (i := 0) HS9.out rfl 0 rfl
                  have k1 := sep_ceAt (i := 0) HS9.out rfl 1 rfl
                  have k2 := sep_ceAt (i := 0) HS9.out rfl 2 rfl
                  have k3 := sep_ceAt (i := 0) HS9.out rfl 3 rfl
                  have k4 := sep_ceAt (i := 0) HS9.out rfl 4 rfl
                  have k5 := sep_ceAt (i := 0) HS9.out rfl 5 rfl
                  have k6 := sep_ceAt (i := 0) HS9.out rfl 6 rfl
                  have k7 := sep_ceAt (i := 0) HS9.out rfl 7 rfl
                  have k8 := sep_ceAt (i := 0) HS9.out rfl 8 rfl
                  have k9 := sep_ceAt (i := 0) HS9.out rfl 9 rfl
                  have y0 := sep_ceFrozen (i := 0) HS9.out rfl 0
                  have y1 := sep_ceFrozen (i := 0) HS9.out rfl 1
                  have y2 := sep_ceFrozen (i := 0) HS9.out rfl 2
                  have y3 := sep_ceFrozen (i := 0) HS9.out rfl 3
                  have y4 := sep_ceFrozen (i := 0) HS9.out rfl 4
                  have y5 := sep_ceFrozen (i := 0) HS9.out rfl 5
                  have y6 := sep_ceFrozen (i := 0) HS9.out rfl 6
                  have y7 := sep_ceFrozen (i := 0) HS9.out rfl 7
                  have y8 := sep_ceFrozen (i := 0) HS9.out rfl 8
                  have y9 := sep_ceFrozen (i := 0) HS9.out rfl 9
                  go_wp2_with fail
                  obtain ⟨_, hs2⟩ := sep_put10 (i := 0) HS9.out rfl (.int .i64 0) (.int .i64 0) (.int .i64 0) (.int .u64 0) (.int .u64 0) (.int .u64 0) (.int .u64 0) (.int .u64 0) (.int .u64 0) (.slice none 0 0)
                  refine bodyPost_ret (v := .tuple #[.agg #[.int .i64 0, .int .i64 0, .int .i64 0, .int .u64 0, .int .u64 0, .int .u64 0, .int .u64 0, .int .u64 0, .int .u64 0, .slice none 0 0], .int .i64 3]) (by simp [results, Tryd.results17, go_sem, k0, k1, k2, k3, k4, k5, k6, k7, k8, k9]) rfl ?_
                  exact .inr ⟨fun f hf => (by
                    have h := ((isFr_rd HOP.out f).1 hf).2.1
                    have hF : rdFr m = (Fr.mk x0 x1 x2 u0 u1 u2 u3 u4 u5 t) := by
                      unfold rdFr
                      rw [HB.out, show rd6 m = ⟨(gU (st6 m 0)).1, (gU (st6 m 1)).1, (gU (st6 m 2)).1, (gU (st6 m 3)).1, (gU (st6 m 4)).1, (gU (st6 m 5)).1, st6 m 6⟩ from rfl]
                      simp only [Hx0.out, Hx1.out, Hx2.out, Hu0.out, Hu1.out, Hu2.out, Hu3.out, Hu4.out, Hu5.out]
                    rw [hF, HMN.out] at h
                    cases h), rfl, hs2.bel⟩
            · have e2 : (((x0 : Nat) : Int) == 2) = false := by simp; omega
              have HB : Hid (rdB m = ([], s6)) := Lib.hid (by
                unfold rdB
                rw [Hx0.out, if_neg hx2, show (rd6 m).s = s6 from Hs6.out])
              go_wp2_with fail
              clear e2 k0
              by_cases hen : rEnd s6.1 s6.2 = true
              · refine (sep_gEb (i := 1) (s := s6) (z := 3) HS6.out rfl hen rfl).mono ?_
                rintro e w8 ⟨rfl, hs8⟩
                have HS8 := Lib.hid (show Sep w w8 [Ce w.heap.size 25 #[.int .i64 0, .int .i64 0, .int .i64 0, .int .u64 0, .int .u64 0, .int .u64 0, .int .u64 0, .int .u64 0, .int .u64 0, .slice none 0 0], Rd g2 s6.1 true, Ce g3 25 #[.int .i64 (x0 : Int), .int .i64 (x1 : Int), .int .i64 (x2 : Int), .int .u64 (u0 : Int), .int .u64 (u1 : Int), .int .u64 (u2 : Int), .int .u64 (u3 : Int), .int .u64 (u4 : Int), .int .u64 (u5 : Int), .slice none 0 0]] from hs8)
                clear hs8 HS6
                have k0 := sep_ceAt (i := 0) HS8.out rfl 0 rfl
                have k1 := sep_ceAt (i := 0) HS8.out rfl 1 rfl
                have k2 := sep_ceAt (i := 0) HS8.out rfl 2 rfl
                have k3 := sep_ceAt (i := 0) HS8.out rfl 3 rfl
                have k4 := sep_ceAt (i := 0) HS8.out rfl 4 rfl
                have k5 := sep_ceAt (i := 0) HS8.out rfl 5 rfl
                have k6 := sep_ceAt (i := 0) HS8.out rfl 6 rfl
                have k7 := sep_ceAt (i := 0) HS8.out rfl 7 rfl
                have k8 := sep_ceAt (i := 0) HS8.out rfl 8 rfl
                have k9 := sep_ceAt (i := 0) HS8.out rfl 9 rfl
                have y0 := sep_ceFrozen (i := 0) HS8.out rfl 0
                have y1 := sep_ceFrozen (i := 0) HS8.out rfl 1
                have y2 := sep_ceFrozen (i := 0) HS8.out rfl 2
                have y3 := sep_ceFrozen (i := 0) HS8.out rfl 3
                have y4 := sep_ceFrozen (i := 0) HS8.out rfl 4
                have y5 := sep_ceFrozen (i := 0) HS8.out rfl 5
                have y6 := sep_ceFrozen (i := 0) HS8.out rfl 6
                have y7 := sep_ceFrozen (i := 0) HS8.out rfl 7
                have y8 := sep_ceFrozen (i := 0) HS8.out rfl 8
                have y9 := sep_ceFrozen (i := 0) HS8.out rfl 9
                go_wp2_with fail
                obtain ⟨_, hs2⟩ := sep_put10 (i := 0) HS8.out rfl (.int .i64 0) (.int .i64 0) (.int .i64 0) (.int .u64 0) (.int .u64 0) (.int .u64 0) (.int .u64 0) (.int .u64 0) (.int .u64 0) (.slice none 0 0)
                refine bodyPost_ret (v := .tuple #[.agg #[.int .i64 0, .int .i64 0, .int .i64 0, .int .u64 0, .int .u64 0, .int .u64 0, .int .u64 0, .int .u64 0, .int .u64 0, .slice none 0 0], .int .i64 3]) (by simp [results, Tryd.results17, go_sem, k0, k1, k2, k3, k4, k5, k6, k7, k8, k9]) rfl ?_
                exact .inr ⟨fun f hf => (by have h := ((isFr_rd HOP.out f).1 hf).1; rw [HB.out] at h; rw [h] at hen; cases hen), rfl, hs2.bel⟩
              · have HEN : Hid (rEnd s6.1 s6.2 = false) := Lib.hid (by simpa using hen)
                clear hen
                refine (sep_gEb (i := 1) (s := s6) (z := 0) HS6.out rfl HEN.out rfl).mono ?_
                rintro e w8 ⟨rfl, hs8⟩
                have HS8 := Lib.hid (show Sep w w8 [Ce w.heap.size 25 #[.int .i64 0, .int .i64 0, .int .i64 0, .int .u64 0, .int .u64 0, .int .u64 0, .int .u64 0, .int .u64 0, .int .u64 0, .slice none 0 0], Rd g2 s6.1 false, Ce g3 25 #[.int .i64 (x0 : Int), .int .i64 (x1 : Int), .int .i64 (x2 : Int), .int .u64 (u0 : Int), .int .u64 (u1 : Int), .int .u64 (u2 : Int), .int .u64 (u3 : Int), .int .u64 (u4 : Int), .int .u64 (u5 : Int), .slice none 0 0]] from hs8)
                clear hs8 HS6
                have z0 := sep_ceAt (i := 2) HS8.out rfl 0 rfl
                have z1 := sep_ceAt (i := 2) HS8.out rfl 1 rfl
                have z2 := sep_ceAt (i := 2) HS8.out rfl 2 rfl
                have z3 := sep_ceAt (i := 2) HS8.out rfl 3 rfl
                have z4 := sep_ceAt (i := 2) HS8.out rfl 4 rfl
                have z5 := sep_ceAt (i := 2) HS8.out rfl 5 rfl
                have z6 := sep_ceAt (i := 2) HS8.out rfl 6 rfl
                have z7 := sep_ceAt (i := 2) HS8.out rfl 7 rfl
                have z8 := sep_ceAt (i := 2) HS8.out rfl 8 rfl
                have z9 := sep_ceAt (i := 2) HS8.out rfl 9 rfl
                go_wp2_with fail
                clear z0 z1 z2 z3 z4 z5 z6 z7 z8 z9
                by_cases hmy : (Fr.mk x0 x1 x2 u0 u1 u2 u3 u4 u5 []).may = true
                · have HMY := Lib.hid hmy
                  clear hmy
                  refine (mayFb (w := w8) (f := (Fr.mk x0 x1 x2 u0 u1 u2 u3 u4 u5 [])) (A := none) (c := 0) HMY.out (by unfold maxLen; simp <;> omega)).mono ?_
                  rintro e w9 ⟨rfl, hb9⟩
                  have HS9 := Lib.hid (HS8.out.grow hb9)
                  clear HS8 hb9
                  have z0 := sep_ceAt (i := 2) HS9.out rfl 0 rfl
                  have z1 := sep_ceAt (i := 2) HS9.out rfl 1 rfl
                  have z2 := sep_ceAt (i := 2) HS9.out rfl 2 rfl
                  have z3 := sep_ceAt (i := 2) HS9.out rfl 3 rfl
                  have z4 := sep_ceAt (i := 2) HS9.out rfl 4 rfl
                  have z5 := sep_ceAt (i := 2) HS9.out rfl 5 rfl
                  have z6 := sep_ceAt (i := 2) HS9.out rfl 6 rfl
                  have z7 := sep_ceAt (i := 2) HS9.out rfl 7 rfl
                  have z8 := sep_ceAt (i := 2) HS9.out rfl 8 rfl
                  have z9 := sep_ceAt (i := 2) HS9.out rfl 9 rfl
                  have k0 := sep_ceAt (i := 0) HS9.out rfl 0 rfl
                  have k1 := sep_ceAt (i := 0) HS9.out rfl 1 rfl
                  have k2 := sep_ceAt (i := 0) HS9.out rfl 2 rfl
                  have k3 := sep_ceAt (i := 0) HS9.out rfl 3 rfl
                  have k4 := sep_ceAt (i := 0) HS9.out rfl 4 rfl
                  have k5 := sep_ceAt (i := 0) HS9.out rfl 5 rfl
                  have k6 := sep_ceAt (i := 0) HS9.out rfl 6 rfl
                  have k7 := sep_ceAt (i := 0) HS9.out rfl 7 rfl
                  have k8 := sep_ceAt (i := 0) HS9.out rfl 8 rfl
                  have k9 := sep_ceAt (i := 0) HS9.out rfl 9 rfl
                  have y0 := sep_ceFrozen (i := 0) HS9.out rfl 0
                  have y1 := sep_ceFrozen (i := 0) HS9.out rfl 1
                  have y2 := sep_ceFrozen (i := 0) HS9.out rfl 2
                  have y3 := sep_ceFrozen (i := 0) HS9.out rfl 3
                  have y4 := sep_ceFrozen (i := 0) HS9.out rfl 4
                  have y5 := sep_ceFrozen (i := 0) HS9.out rfl 5
                  have y6 := sep_ceFrozen (i := 0) HS9.out rfl 6
                  have y7 := sep_ceFrozen (i := 0) HS9.out rfl 7
                  have y8 := sep_ceFrozen (i := 0) HS9.out rfl 8
                  have y9 := sep_ceFrozen (i := 0) HS9.out rfl 9
                  go_wp2_with fail
                  obtain ⟨_, hs2⟩ := sep_put10 (i := 0) HS9.out rfl (.int .i64 (x0 : Int)) (.int .i64 (x1 : Int)) (.int .i64 (x2 : Int)) (.int .u64 (u0 : Int)) (.int .u64 (u1 : Int)) (.int .u64 (u2 : Int)) (.int .u64 (u3 : Int)) (.int .u64 (u4 : Int)) (.int .u64 (u5 : Int)) (.slice none 0 0)
                  refine bodyPost_ret (v := .tuple #[.agg #[.int .i64 (x0 : Int), .int .i64 (x1 : Int), .int .i64 (x2 : Int), .int .u64 (u0 : Int), .int .u64 (u1 : Int), .int .u64 (u2 : Int), .int .u64 (u3 : Int), .int .u64 (u4 : Int), .int .u64 (u5 : Int), .slice none 0 0], .int .i64 0]) (by simp [results, Tryd.results17, go_sem, k0, k1, k2, k3, k4, k5, k6, k7, k8, k9]) rfl ?_
                  have hF : rdFr m = (Fr.mk x0 x1 x2 u0 u1 u2 u3 u4 u5 []) := by
                    unfold rdFr
                    rw [HB.out, show rd6 m = ⟨(gU (st6 m 0)).1, (gU (st6 m 1)).1, (gU (st6 m 2)).1, (gU (st6 m 3)).1, (gU (st6 m 4)).1, (gU (st6 m 5)).1, st6 m 6⟩ from rfl]
                    simp only [Hx0.out, Hx1.out, Hx2.out, Hu0.out, Hu1.out, Hu2.out, Hu3.out, Hu4.out, Hu5.out]
                  exact .inl ⟨(Fr.mk x0 x1 x2 u0 u1 u2 u3 u4 u5 []), none, 0, (isFr_rd HOP.out _).2 ⟨by rw [HB.out]; exact HEN.out, by rw [hF]; exact HMY.out, hF.symm⟩, rfl, .inl ⟨rfl, rfl, rfl⟩, hs2.bel⟩
                · have HMN : Hid ((Fr.mk x0 x1 x2 u0 u1 u2 u3 u4 u5 []).may = false) := Lib.hid (by simpa using hmy)
                  clear hmy
                  refine (mayFb (w := w8) (f := (Fr.mk x0 x1 x2 u0 u1 u2 u3 u4 u5 [])) (A := none) (c := 0) HMN.out (by unfold maxLen; simp <;> omega)).mono ?_
                  rintro e w9 ⟨rfl, hb9⟩
                  have HS9 := Lib.hid (HS8.out.grow hb9)
                  clear HS8 hb9
                  have k0 := sep_ceAt (i := 0) HS9.out rfl 0 rfl
                  have k1 := sep_ceAt (i := 0) HS9.out rfl 1 rfl
                  have k2 := sep_ceAt (i := 0) HS9.out rfl 2 rfl
                  have k3 := sep_ceAt (i := 0) HS9.out rfl 3 rfl
                  have k4 := sep_ceAt (i := 0) HS9.out rfl 4 rfl
                  have k5 := sep_ceAt (i := 0) HS9.out rfl 5 rfl
                  have k6 := sep_ceAt (i := 0) HS9.out rfl 6 rfl
                  have k7 := sep_ceAt (i := 0) HS9.out rfl 7 rfl
                  have k8 := sep_ceAt (i := 0) HS9.out rfl 8 rfl
                  have k9 := sep_ceAt (i := 0) HS9.out rfl 9 rfl
                  have y0 := sep_ceFrozen (i := 0) HS9.out rfl 0
                  have y1 := sep_ceFrozen (i := 0) HS9.out rfl 1
                  have y2 := sep_ceFrozen (i := 0) HS9.out rfl 2
                  have y3 := sep_ceFrozen (i := 0) HS9.out rfl 3
                  have y4 := sep_ceFrozen (i := 0) HS9.out rfl 4
                  have y5 := sep_ceFrozen (i := 0) HS9.out rfl 5
                  have y6 := sep_ceFrozen (i := 0) HS9.out rfl 6
                  have y7 := sep_ceFrozen (i := 0) HS9.out rfl 7
                  have y8 := sep_ceFrozen (i := 0) HS9.out rfl 8
                  have y9 := sep_ceFrozen (i := 0) HS9.out rfl 9
                  go_wp2_with fail
                  obtain ⟨_, hs2⟩ := sep_put10 (i := 0) HS9.out rfl (.int .i64 0) (.int .i64 0) (.int .i64 0) (.int .u64 0) (.int .u64 0) (.int .u64 0) (.int .u64 0) (.int .u64 0) (.int .u64 0) (.slice none 0 0)
                  refine bodyPost_ret (v := .tuple #[.agg #[.int .i64 0, .int .i64 0, .int .i64 0, .int .u64 0, .int .u64 0, .int .u64 0, .int .u64 0, .int .u64 0, .int .u64 0, .slice none 0 0], .int .i64 3]) (by simp [results, Tryd.results17, go_sem, k0, k1, k2, k3, k4, k5, k6, k7, k8, k9]) rfl ?_
                  exact .inr ⟨fun f hf => (by
                    have h := ((isFr_rd HOP.out f).1 hf).2.1
                    have hF : rdFr m = (Fr.mk x0 x1 x2 u0 u1 u2 u3 u4 u5 []) := by
                      unfold rdFr
                      rw [HB.out, show rd6 m = ⟨(gU (st6 m 0)).1, (gU (st6 m 1)).1, (gU (st6 m 2)).1, (gU (st6 m 3)).1, (gU (st6 m 4)).1, (gU (st6 m 5)).1, st6 m 6⟩ from rfl]
                      simp only [Hx0.out, Hx1.out, Hx2.out, Hu0.out, Hu1.out, Hu2.out, Hu3.out, Hu4.out, Hu5.out]
                    rw [hF, HMN.out] at h
                    cases h), rfl, hs2.bel⟩
  · have HS1 := Lib.hid (show Sep w w1 [Ce w.heap.size 25 #[.int .i64 0, .int .i64 0, .int .i64 0, .int .u64 0, .int .u64 0, .int .u64 0, .int .u64 0, .int .u64 0, .int .u64 0, .slice none 0 0]] from HS0.out.grow hb1)
    have k0 := sep_ceAt (i := 0) HS1.out rfl 0 rfl
    have k1 := sep_ceAt (i := 0) HS1.out rfl 1 rfl
    have k2 := sep_ceAt (i := 0) HS1.out rfl 2 rfl
    have k3 := sep_ceAt (i := 0) HS1.out rfl 3 rfl
    have k4 := sep_ceAt (i := 0) HS1.out rfl 4 rfl
    have k5 := sep_ceAt (i := 0) HS1.out rfl 5 rfl
    have k6 := sep_ceAt (i := 0) HS1.out rfl 6 rfl
    have k7 := sep_ceAt (i := 0) HS1.out rfl 7 rfl
    have k8 := sep_ceAt (i := 0) HS1.out rfl 8 rfl
    have k9 := sep_ceAt (i := 0) HS1.out rfl 9 rfl
    have y0 := sep_ceFrozen (i := 0) HS1.out rfl 0
    have y1 := sep_ceFrozen (i := 0) HS1.out rfl 1
    have y2 := sep_ceFrozen (i := 0) HS1.out rfl 2
    have y3 := sep_ceFrozen (i := 0) HS1.out rfl 3
    have y4 := sep_ceFrozen (i := 0) HS1.out rfl 4
    have y5 := sep_ceFrozen (i := 0) HS1.out rfl 5
    have y6 := sep_ceFrozen (i := 0) HS1.out rfl 6
    have y7 := sep_ceFrozen (i := 0) HS1.out rfl 7
    have y8 := sep_ceFrozen (i := 0) HS1.out rfl 8
    have y9 := sep_ceFrozen (i := 0) HS1.out rfl 9
    go_wp2_with fail
    obtain ⟨_, hs2⟩ := sep_put10 (i := 0) HS1.out rfl (.int .i64 0) (.int .i64 0) (.int .i64 0) (.int .u64 0) (.int .u64 0) (.int .u64 0) (.int .u64 0) (.int .u64 0) (.int .u64 0) (.slice none 0 0)
    refine bodyPost_ret (v := .tuple #[.agg #[.int .i64 0, .int .i64 0, .int .i64 0, .int .u64 0, .int .u64 0, .int .u64 0, .int .u64 0, .int .u64 0, .int .u64 0, .slice none 0 0], .int .i64 3]) (by simp [results, Tryd.results17, go_sem, k0, k1, k2, k3, k4, k5, k6, k7, k8, k9]) rfl ?_
    exact .inr ⟨fun f hf => (by rw [isFr_opened hf] at hop; cases hop), rfl, hs2.bel⟩
end Go.Proofs.YtcjafbpgjlcdpaaDoor
