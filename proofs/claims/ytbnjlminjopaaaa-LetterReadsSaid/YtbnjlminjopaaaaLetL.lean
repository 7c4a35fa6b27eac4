/- What the walks of the laws of letters share. -/
import Derived.Test.YtbnjlminjopaaaaLetA
import Derived.Test.YtbnjlminjopaaaaLetH
import Derived.Test.YtbnjlminjopaaaaLetT
import Derived.Test.YtbnjlminjopaaaaRgF
import Derived.Test.YtbnjlminjopaaaaLetR
namespace Go.Proofs.Ytbnjlminjopaaaa
open Go Go.RowKit
set_option linter.unusedVariables false
set_option maxRecDepth 100000
set_option linter.unusedSimpArgs false

theorem heavyB {w : World} {x : Lt} {A A2 : Option Addr} {c c2 : Nat} {b : Bool} (hb : decide (3000 < x.body.length ∨ 300 < x.cut.length) = b) :
    Calls Try.prog 9 #[.agg (x.cells A c A2 c2)] w fun e w' => e = .returned (.bool b) ∧ Below w.heap.size w w' := by
  have h := heavyL_any w x.kind x.node x.pinc x.round x.snode x.sinc x.n x.body.length x.cid x.cut.length x.want A A2 c c2
  rw [hb] at h
  exact h
theorem ref10MayL {w : World} {B : Nat} {x : Lt} {A A2 : Option Addr} {c c2 : Nat} {b : Bool} (hb : x.may = b) (hA : Has w B A2 (u64s x.cut)) (hB : B ≤ w.heap.size) (h1 : x.body.length ≤ 1000000000) (h2 : x.cut.length ≤ 1000000) (hx : ∀ y ∈ x.cut, y < 18446744073709551616) :
    Calls Try.prog 12 #[.agg (x.cells A c A2 c2)] w fun e w' => e = .returned (.bool b) ∧ Below w.heap.size w w' := by
  have h := ref10May_any w B x.kind x.node x.pinc x.round x.snode x.sinc x.n x.body.length x.cid x.cut x.want A A2 c c2 hA hB h1 h2 hx
  rw [show letMB x.kind x.node x.pinc x.round x.snode x.sinc x.n x.body.length x.cid x.cut x.want = b from hb] at h
  exact h
theorem sameB {w : World} {B : Nat} {x y : Lt} {A A2 A' A2' : Option Addr} {c c2 c' c2' : Nat} {b : Bool} (hb : x.eqB y = b) (hA : Has w B A (us x.body)) (hA2 : Has w B A2 (u64s x.cut)) (hA' : Has w B A' (us y.body)) (hA2' : Has w B A2' (u64s y.cut)) (hB : B ≤ w.heap.size) (h1 : x.body.length ≤ 5000) (h2 : y.body.length ≤ 5000) (h3 : x.cut.length ≤ 300) (h4 : y.cut.length ≤ 300) :
    Calls Try.prog 13 #[.agg (x.cells A c A2 c2), .agg (y.cells A' c' A2' c2')] w fun e w' => e = .returned (.bool b) ∧ Below w.heap.size w w' := by
  have h := letSame_any w B x y A A2 A' A2' c c2 c' c2' hA hA2 hA' hA2' hB (by unfold maxLen; omega) (by unfold maxLen; omega) (by omega) (by omega)
  rw [hb] at h
  exact h
theorem ref10SameB {w : World} {B : Nat} {x y : Lt} {A A2 A' A2' : Option Addr} {c c2 c' c2' : Nat} {b : Bool} (hb : x.eqB y = b) (hA : Has w B A (us x.body)) (hA2 : Has w B A2 (u64s x.cut)) (hA' : Has w B A' (us y.body)) (hA2' : Has w B A2' (u64s y.cut)) (hB : B ≤ w.heap.size) (h1 : x.body.length ≤ 5000) (h2 : y.body.length ≤ 5000) (h3 : x.cut.length ≤ 300) (h4 : y.cut.length ≤ 300) :
    Calls Try.prog 14 #[.agg (x.cells A c A2 c2), .agg (y.cells A' c' A2' c2')] w fun e w' => e = .returned (.bool b) ∧ Below w.heap.size w w' := by
  have h := ref10Same_any w B x y A A2 A' A2' c c2 c' c2' hA hA2 hA' hA2' hB (by unfold maxLen; omega) (by unfold maxLen; omega) (by omega) (by omega)
  rw [hb] at h
  exact h
/-- what Encode answers, either way -/
theorem encL_or (w : World) (B : Nat) (x : Lt) (A A2 : Option Addr) (c c2 : Nat) (hA : Has w B A (us x.body)) (hA2 : Has w B A2 (u64s x.cut)) (hB : B ≤ w.heap.size) (hf : x.fits) (hu : ∀ y ∈ x.cut, y < 18446744073709551616) (h1 : x.body.length ≤ 5000) (h2 : x.cut.length ≤ 300) :
    Calls Try.prog 16 #[.agg (x.cells A c A2 c2)] w fun e w' => ∃ A1 c1 P z, ((z = 0 ∧ x.may = true ∧ P = x.plain) ∨ (z = 3 ∧ x.may = false ∧ P = [])) ∧ Own w' w.heap.size (.slice A1 P.length c1) P ∧ e = .returned (.tuple #[.slice A1 P.length c1, .int .i64 z]) ∧ Below w.heap.size w w' := by
  cases hm : x.may with
  | true =>
    refine (encL_yes w B x A A2 c c2 hA hA2 hB hf.1 hf.2.1 hf.2.2.1 hf.2.2.2 hm).mono ?_
    rintro e w' ⟨v, rfl, ho, hb⟩
    obtain ⟨A1, c1, rfl, _, _, _⟩ := ho.form
    exact ⟨A1, c1, _, 0, .inl ⟨rfl, rfl, rfl⟩, ho, rfl, hb⟩
  | false =>
    refine (encL_no w B x A A2 c c2 hA2 hB (by omega) (by omega) hu hm).mono ?_
    rintro e w' ⟨rfl, hb⟩
    exact ⟨none, 0, [], 3, .inr ⟨rfl, rfl, rfl⟩, Own.nil _ _, rfl, hb⟩
end Go.Proofs.Ytbnjlminjopaaaa
