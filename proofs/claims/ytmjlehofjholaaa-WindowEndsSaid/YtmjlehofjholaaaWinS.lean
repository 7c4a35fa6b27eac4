/- The statements' spoil: a sender's bytes are written over; nothing below its own memory turns. -/
import Derived.Test.YtmjlehofjholaaaWinM
namespace Go.Proofs.Ytmjlehofjholaaa
open Go Go.RowKit Go.Shelf
set_option linter.unusedVariables false
set_option maxRecDepth 100000
attribute [local go_sem] Oper.semAt_some

theorem us_set (l : List UInt8) (k : Nat) (x : UInt8) : us (l.set k x) = (us l).set k (.int .u8 (x.toNat : Int)) := by simp [us, List.map_set]
/-- one byte of one's own is written over -/
theorem Own.put {w : World} {base g : Nat} {v : Value} {l : List UInt8} (h : Own w base v l) (hg : v.ownBlock = some g) (k : Nat) (x : UInt8) : Own (w.setCell ⟨g, k, none⟩ (.int .u8 (x.toNat : Int))) base v (l.set k x) := by
  obtain ⟨h1, h2⟩ := h
  refine ⟨by simp [us_length], ?_⟩
  rcases h2 with ⟨rfl, _⟩ | ⟨g', cap, cur, rfl, p1, p2, p3, p4, p5, p6⟩
  · cases hg
  · obtain rfl : g' = g := by simpa [Value.ownBlock] using hg
    refine .inr ⟨g', cap, cur.setIfInBounds k (.int .u8 (x.toNat : Int)), by rw [List.length_set], p1, heap_setCell_same w g' k _ _ _ p2, by rw [List.length_set]; exact p3, p4, by simpa using p5, ?_⟩
    rw [List.length_set, us_set, ← p6]
    simp [List.take_set]
theorem Own.block {w : World} {base g : Nat} {v : Value} {l : List UInt8} (h : Own w base v l) (hg : v.ownBlock = some g) : ∃ cur, w.heap[g]? = some (.cells cur 5 (0, 0)) := by
  rcases h.2 with ⟨rfl, _⟩ | ⟨g', cap, cur, rfl, p1, p2, _⟩
  · cases hg
  · obtain rfl : g' = g := by simpa [Value.ownBlock] using hg
    exact ⟨cur, p2⟩
theorem Own.cell {w : World} {base : Nat} {v : Value} {l : List UInt8} (h : Own w base v l) {k : Nat} (hk : k < l.length) : ∃ g c, v = .slice (some ⟨g, 0, none⟩) l.length c ∧ base ≤ g ∧ w.cell? ⟨g, k, none⟩ = some (.int .u8 (l[k].toNat : Int)) ∧ w.frozen? ⟨g, k, none⟩ = false := by
  obtain ⟨h1, h2⟩ := h
  rcases h2 with ⟨rfl, hn⟩ | ⟨g, cap, cur, rfl, p1, p2, p3, p4, p5, p6⟩
  · omega
  · refine ⟨g, cap, rfl, p1, ?_, by simp [World.frozen?, p2]⟩
    have : (us l)[k]? = some (.int .u8 (l[k].toNat : Int)) := us_at hk
    rw [← p6, List.getElem?_take, if_pos (by omega)] at this
    simp only [World.cell?, p2]
    simpa using this

/-- bodies of one's own, by their lengths -/
def OwnN (w : World) (base : Nat) (v : Value) (ns : List Nat) : Prop := ∃ L : List (List UInt8), L.map List.length = ns ∧ OwnB w base v L
theorem OwnB.cell {w : World} {base : Nat} {v : Value} {L : List (List UInt8)} (h : OwnB w base v L) {i : Nat} (hi : i < L.length) : ∃ g c u, v = .slice (some ⟨g, 0, none⟩) L.length c ∧ w.cell? ⟨g, i, none⟩ = some u ∧ Own w base u L[i] ∧ ∀ g', u.ownBlock = some g' → g ≠ g' := by
  obtain ⟨vs, h1, h2, h3⟩ := h
  have hi' : i < vs.length := by omega
  obtain ⟨u, hu⟩ : ∃ u, vs[i]? = some u := ⟨_, List.getElem?_eq_getElem hi'⟩
  have h4 := h3 i u L[i] hu (List.getElem?_eq_getElem hi)
  rcases h2.2 with ⟨rfl, hn⟩ | ⟨g, cap, cur, rfl, p1, p2, p3, p4, p5, p6⟩
  · omega
  · refine ⟨g, cap, u, rfl, ?_, h4.1, fun g' hg e => h4.2 g' hg (by rw [e]; rfl)⟩
    rw [← p6, List.getElem?_take, if_pos (by omega)] at hu
    simp only [World.cell?, p2]
    simpa using hu
theorem OwnB.put {w : World} {base g : Nat} {v u : Value} {L : List (List UInt8)} (h : OwnB w base v L) (hg : v.ownBlock ≠ some g) (k : Nat) (x : UInt8) : OwnN (w.setCell ⟨g, k, none⟩ (.int .u8 (x.toNat : Int))) base v (L.map List.length) := by
  obtain ⟨vs, h1, h2, h3⟩ := h
  refine ⟨(List.range L.length).map (fun i => if (vs[i]?.bind Value.ownBlock) = some g then (L[i]?.getD []).set k x else L[i]?.getD []), ?_, vs, by simp [h1], ?_, ?_⟩
  · apply List.ext_getElem?
    intro i
    rcases Nat.lt_or_ge i L.length with hi | hi
    · simp only [List.getElem?_map, List.getElem?_range hi, Option.map_some, List.getElem?_eq_getElem hi, Option.getD_some]
      split <;> simp
    · rw [List.getElem?_eq_none (by simpa using hi), List.getElem?_eq_none (by simpa using hi)]
  · rw [List.length_map, List.length_range]
    exact row_keep h2 fun j hj => Below.heap_setCell w ⟨g, k, none⟩ _ j (by rintro rfl; exact hg hj)
  · intro i u' l' hu hl
    have hi : i < L.length := by
      rcases Nat.lt_or_ge i L.length with hi | hi
      · exact hi
      · rw [List.getElem?_eq_none (by simpa using hi)] at hl; cases hl
    have h4 := h3 i u' L[i] hu (List.getElem?_eq_getElem hi)
    refine ⟨?_, h4.2⟩
    rw [List.getElem?_map, List.getElem?_range hi] at hl
    simp only [Option.map_some, Option.some.injEq, hu, Option.bind_some, List.getElem?_eq_getElem hi, Option.getD_some] at hl
    subst hl
    split
    · rename_i hgu
      exact h4.1.put hgu k x
    · rename_i hgu
      exact row_keep h4.1 fun j hj => Below.heap_setCell w ⟨g, k, none⟩ _ j (by rintro rfl; exact hgu hj)
theorem byte_inc (x : UInt8) : IntKind.u8.wrap ((x.toNat : Int) + 1) = ((x + 1).toNat : Int) := by
  have := x.toNat_lt
  rw [UInt8.toNat_add]
  simp [IntKind.wrap, IntKind.bits, IntKind.signed]

theorem byte_inc' (x : UInt8) : ((x.toNat : Int) + 1) % 256 = ((x + 1).toNat : Int) := by
  rw [← byte_inc]
  simp [IntKind.wrap, IntKind.bits, IntKind.signed]
structure SpAt (w wr : World) (B0 b : Nat) (v : Value) (ns : List Nat) : Prop where
  below : Below B0 w wr
  two : Two wr w.heap.size (.int .u64 (b : Int)) v
  own : OwnN wr B0 v ns
theorem SpAt.len {w wr : World} {B0 b n c : Nat} {A : Option Addr} {ns : List Nat} (h : SpAt w wr B0 b (.slice A n c) ns) {i : Nat} (hi : i < ns.length) (hm : ∀ m ∈ ns, m ≤ 1000000) : ∃ g A' c', A = some ⟨g, 0, none⟩ ∧ wr.cell? ⟨g, i, none⟩ = some (.slice A' ns[i] c') := by
  obtain ⟨L, rfl, ho⟩ := h.own
  have hi' : i < L.length := by simpa using hi
  obtain ⟨g, c0, u, e, hc, hu, _⟩ := ho.cell hi'
  simp only [Value.slice.injEq] at e
  obtain ⟨A', c', rfl, _⟩ := hu.form
  exact ⟨g, A', c', e.1, by rw [hc]; simp⟩
theorem SpAt.byte {w wr : World} {B0 b n c : Nat} {A : Option Addr} {ns : List Nat} (h : SpAt w wr B0 b (.slice A n c) ns) (hB : B0 ≤ w.heap.size) {i k : Nat} (hi : i < ns.length) (hk : k < ns[i]) :
    ∃ gv g c' x, A = some ⟨gv, 0, none⟩ ∧ wr.cell? ⟨gv, i, none⟩ = some (.slice (some ⟨g, 0, none⟩) ns[i] c') ∧ wr.cell? ⟨g, k, none⟩ = some (.int .u8 ((x : UInt8).toNat : Int)) ∧ wr.frozen? ⟨g, k, none⟩ = false ∧
      ∀ y : UInt8, SpAt w (wr.setCell ⟨g, k, none⟩ (.int .u8 (y.toNat : Int))) B0 b (.slice A n c) ns := by
  obtain ⟨L, rfl, ho⟩ := h.own
  have hi' : i < L.length := by simpa using hi
  have hk' : k < L[i].length := by simpa using hk
  obtain ⟨gv, c0, u, e, hc, hu, hap⟩ := ho.cell hi'
  obtain ⟨g, c', rfl, hg, h1, h2⟩ := hu.cell hk'
  have e1 := e
  simp only [Value.slice.injEq] at e1
  obtain ⟨cur, hblk⟩ := hu.block (g := g) rfl
  refine ⟨gv, g, c', L[i][k], e1.1, by rw [hc]; simp, h1, h2, fun y => ⟨h.below.setCell hg _, h.two.other ?_ _, ?_⟩⟩
  · rintro rfl
    have := h.two
    unfold Two at this
    rw [hblk] at this
    simp at this
  · refine ho.put (u := .slice none 0 0) ?_ k y
    rw [e1.1]
    simp only [Value.ownBlock, ne_eq, Option.some.injEq]
    exact hap g rfl

set_option maxHeartbeats 1000000 in
theorem spoil_any (w : World) (B0 b : Nat) (A : Option Addr) (c : Nat) (L : List (List UInt8)) (ho : OwnB w B0 (.slice A L.length c) L) (hB : B0 ≤ w.heap.size) (hf : Fit L) :
    Calls Try.prog 16 #[.agg #[.int .u64 (b : Int), .slice A L.length c]] w fun e w' => e = .returned (.tuple #[]) ∧ Below B0 w w' := by
  obtain ⟨ns, HN⟩ : ∃ ns, Hid (L.map List.length = ns) := ⟨_, Lib.hid rfl⟩
  have hl : L.length = ns.length := by rw [← HN.out]; simp
  have hlm : ns.length ≤ 1000000 := by rw [← hl]; exact hf.1
  have HM : Hid (∀ m ∈ ns, m ≤ 1000000) := Lib.hid (by
    rw [← HN.out]
    intro m hm
    obtain ⟨l, h1, rfl⟩ := List.mem_map.1 hm
    exact hf.2 l h1)
  have hS : SpAt w (w.alloc (.cells #[.int .u64 (b : Int), .slice A ns.length c] 25)) B0 b (.slice A ns.length c) ns := by
    rw [← hl]
    exact ⟨(Below.refl _ _).alloc hB _, Two.new w _ _, L, HN.out, ho.below ((Below.refl _ _).alloc (Nat.le_refl _) _)⟩
  rw [hl]
  have HS := Lib.hid hS
  clear hS hl ho hf HN L
  go_enter Try.func16, Try.ntmps16
  go_wp2
  go_loopw [2] (fun i wr => ∃ k : Nat, k ≤ ns.length ∧ i = .int .i64 (k : Int) ∧ SpAt w wr B0 b (.slice A ns.length c) ns) (fun i _ => ns.length - (intOf i).toNat)
  case atStart => exact ⟨0, by omega, rfl, HS.out⟩
  case round =>
    obtain ⟨i, hi, rfl, hs⟩ := hrel
    have t0 := hs.two.c0
    have t1 := hs.two.c1
    clear HS
    have HS := Lib.hid hs
    clear hs
    by_cases hlt : i < ns.length
    · have hni := HM.out _ (List.getElem_mem hlt)
      obtain ⟨m, Hm⟩ : ∃ m, Hid (ns[i] = m) := ⟨_, Lib.hid rfl⟩
      rw [Hm.out] at hni
      go_wp2_with fail
      obtain ⟨wo, rfl⟩ : ∃ wo : World, wo = wr := ⟨_, rfl⟩
      clear t0 t1
      go_loopw [3] (fun j wr => ∃ k : Nat, k ≤ m ∧ j = .int .i64 (k : Int) ∧ SpAt w wr B0 b (.slice A ns.length c) ns) (fun j _ => m - (intOf j).toNat)
      case atStart => exact ⟨0, by omega, rfl, HS.out⟩
      case round =>
        obtain ⟨k, hk, rfl, hs⟩ := hrel
        have t0 := hs.two.c0
        have t1 := hs.two.c1
        clear HS
        have HS := Lib.hid hs
        clear hs
        by_cases hkl : k < m
        · obtain ⟨gv, g, c', x, rfl, e1, e2, e3, e4⟩ := HS.out.byte hB hlt (by rw [Hm.out]; exact hkl)
          rw [Hm.out] at e1
          have HE := Lib.hid e4
          clear e4
          go_wp2_with fail
          go_roundw
          case rel => exact ⟨k + 1, by omega, by go_num, by rw [byte_inc' x]; exact HE.out _⟩
          case measure => simp [intOf]; omega
        · obtain ⟨g, A', c', rfl, e1⟩ := HS.out.len hlt HM.out
          rw [Hm.out] at e1
          go_wp2_with fail
          go_roundw
          case rel => exact ⟨i + 1, by omega, by go_num, HS.out⟩
          case measure => simp [intOf]; omega
    · go_wp2_with fail
      go_end0
      exact ⟨rfl, HS.out.below⟩
end Go.Proofs.Ytmjlehofjholaaa
