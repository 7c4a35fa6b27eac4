/- WindowOrder: the statement's walk. -/
import Derived.Test.YtmjlehofjholaaaSideR
import Derived.Test.YtmjlehofjholaaaOpenAsk
namespace Go.Proofs.Ytmjlehofjholaaa
open Go Go.RowKit Go.Shelf
set_option linter.unusedVariables false
set_option maxRecDepth 100000
attribute [local go_sem] Oper.semAt_some

theorem side_new (w : World) : Side w.heap.size (w.alloc (.cells #[.int .u64 0, .slice none 0 0, .int .u64 0, .slice none 0 0, .slice none 0 0, .slice none 0 0] 55)) w.heap.size ⟨0, 0, [], [], [], []⟩ :=
  ⟨.slice none 0 0, .slice none 0 0, .slice none 0 0, .slice none 0 0, Nat.le_refl _, World.alloc_heap_new w _, OwnB.nil _ _, World.ownsRow_nil _ _ _ _, World.ownsRow_nil _ _ _ _, World.ownsRow_nil _ _ _ _, (fun k h => by cases h)⟩
theorem acts_cell {w : World} {B : Nat} {A : Option Addr} {l : List (Int × Int)} (h : Has w B A (pairsOf l)) {k : Nat} (hk : k < l.length) : ∃ b o, A = some ⟨b, o, none⟩ ∧ b < B ∧ w.cell? ⟨b, o + k * 2, none⟩ = some (.int .i64 (l[k]).1) ∧ w.cell? ⟨b, o + k * 2 + 1, none⟩ = some (.int .i64 (l[k]).2) := by
  obtain ⟨b, o, e, hb, h1⟩ := h _ _ (pairsOf_at l k hk).1
  obtain ⟨b2, o2, e2, _, h2⟩ := h _ _ (pairsOf_at l k hk).2
  rw [e] at e2
  simp at e2
  obtain ⟨rfl, rfl⟩ := e2
  exact ⟨b, o, e, hb, h1, h2⟩

set_option maxHeartbeats 1000000 in
theorem windowOrder_walk (w : World) (Ab : Option Addr) (cb : Nat) (bodies : List (List UInt8)) (Al : Option Addr) (cl : Nat) (l : List (Int × Int)) (hbd : Bx w w.heap.size Ab bodies) (hm : bodies.length ≤ 140737488355328) (hl : Has w w.heap.size Al (pairsOf l)) (hm2 : l.length ≤ 140737488355328) :
    Calls Try.prog 7 #[.slice Ab bodies.length cb, .slice Al l.length cl] w fun e w' => e = .returned (.bool true) ∧ Below w.heap.size w w' := by
  have HBD := Lib.hid hbd
  have HL := Lib.hid hl
  clear hl hbd
  go_enter Try.func7, Try.ntmps7
  go_wp2_with fail
  refine (fine_any w w.heap.size Ab cb bodies Al l.length cl HBD.out (by unfold maxLen; omega) (by unfold maxLen; omega)).mono ?_
  rintro e w1 ⟨⟨rfl, f1, f2, f3⟩ | rfl, rfl⟩
  · have HI0 := Lib.hid (Inv.zero f1 f3)
    have HS0 := Lib.hid (side_new w)
    clear f3
    go_wp2_with fail
    go_loopw [6] (fun i wr => ∃ (k : Nat) (s : St), k ≤ l.length ∧ i = .int .i64 (k : Int) ∧ Inv bodies s ∧ Side w.heap.size wr w.heap.size s ∧ Below w.heap.size w wr) (fun i _ => l.length - (intOf i).toNat)
    case atStart => exact ⟨0, _, by omega, rfl, HI0.out, HS0.out, (Below.refl _ w).alloc (Nat.le_refl _) _⟩
    case round =>
      obtain ⟨k, s, hk, rfl, hI, hs, hb⟩ := hrel
      have hz := hb.size
      have HB := Lib.hid hb
      by_cases hlt : k < l.length
      · obtain ⟨b, o, rfl, hbB, hc1, hc2⟩ := acts_cell (HL.out.below hb) hlt
        generalize (l[k]) = ac at hc1 hc2
        go_wp2_with fail
        refine (act_any w.heap.size wr w.heap.size s hs hz bodies Ab cb (HBD.out.below hb) hI ac.1 ac.2).mono ?_
        rintro e w2 ⟨rfl, ⟨s2, hI2, hs2⟩, hb2⟩
        go_wp2_with fail
        refine (right_any w.heap.size w2 w.heap.size s2 hs2 bodies hI2).mono ?_
        rintro e w3 ⟨rfl, hb3⟩
        obtain ⟨v1, v2, v3, v4, hs2⟩ := hs2
        have hz2 := hb2.size
        have HS3 := Lib.hid (show Side w.heap.size w3 w.heap.size s2 from ⟨v1, v2, v3, v4, hs2.below hb3⟩)
        have HI2 := Lib.hid hI2
        clear hs2 hI2 hI hs
        go_wp2_with fail
        go_roundw
        case rel => exact ⟨k + 1, s2, by omega, by go_num, HI2.out, HS3.out, (HB.out.trans hb2).trans (hb3.mono (by omega))⟩
        case measure => simp [intOf]; omega
      · clear hI hs
        go_wp2_with fail
        refine (awake_any wr).mono ?_
        rintro e w2 ⟨rfl, hb2⟩
        go_wp2_with fail
        go_ret
        exact ⟨rfl, hb.trans (hb2.mono hz)⟩
  · go_wp2_with fail
    refine (awake_any w).mono ?_
    rintro e w2 ⟨rfl, hb2⟩
    go_wp2_with fail
    go_ret
    exact ⟨rfl, hb2⟩
end Go.Proofs.Ytmjlehofjholaaa
