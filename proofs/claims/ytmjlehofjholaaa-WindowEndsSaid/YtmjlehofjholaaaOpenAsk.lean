/- Rows of two whole numbers each, opened. -/
import Derived.Test.YtmjlehofjholaaaOpen
namespace Go.Proofs.Ytmjlehofjholaaa
open Go Go.RowKit Go.ChangeShapes Go.WideShapes Go.ChangeAt Go.Deep
set_option linter.unusedVariables false
set_option maxRecDepth 100000
/-- pairs as cells -/
def pairsOf : List (Int × Int) → List Value
  | [] => []
  | p :: r => .int .i64 p.1 :: .int .i64 p.2 :: pairsOf r
theorem pairsOf_length (l : List (Int × Int)) : (pairsOf l).length = l.length * 2 := by
  induction l with
  | nil => rfl
  | cons p r ih => simp [pairsOf, ih]; omega
theorem pairsOf_at : ∀ (l : List (Int × Int)) (k : Nat) (hk : k < l.length), (pairsOf l)[k * 2]? = some (.int .i64 (l[k]).1) ∧ (pairsOf l)[k * 2 + 1]? = some (.int .i64 (l[k]).2)
  | [], k, hk => by simp at hk
  | p :: r, 0, _ => by simp [pairsOf]
  | p :: r, k + 1, hk => by
    have h := pairsOf_at r k (by simpa using hk)
    rw [show (k + 1) * 2 = k * 2 + 1 + 1 by omega]
    simpa [pairsOf] using h
section
variable {H : Type} {enc : TypeId × Value → H} {P : Program} {w : World}
theorem arg_pairs {r : Reach} {b0 : Nat} {t e i : TypeId} {f0 f1 : Field} {v : Value} {d : DataW H} {p : List MemPlace} (ht : P.underlying t = some (.slice e)) (he : P.underlying e = some (.struct #[f0, f1])) (hi : P.underlying i = some (.int .i64)) (hc : P.cellsOf e = 2) (hci : P.cellsOf i = 1) (hby : P.bytesOf e = 16)
    (hf0 : f0.type = i ∧ f0.offset = 0) (hf1 : f1.type = i ∧ f1.offset = 1)
    (hv : Value.okWide P w r b0 t v) (h : DataW.Trod enc P w 0 (fun _ => true) true t v d p) (hw : ∀ n ∈ d.weights P t, n ≤ reachBytes) :
    ∃ (A : Option Addr) (c : Nat) (l : List (Int × Int)), v = .slice A l.length c ∧ l.length ≤ c ∧ c ≤ maxLen ∧ l.length ≤ 140737488355328 ∧ (∀ x ∈ l, -9223372036854775808 ≤ x.2 ∧ x.2 ≤ 9223372036854775807) ∧ Has w w.heap.size A (pairsOf l) := by
  obtain ⟨a0, n0, c0, rfl⟩ := okWide_slice ht hv
  obtain ⟨fuel, hf⟩ := h
  have hf' : DataW.trod enc P w 0 (fun _ => true) true fuel t [.slice a0 n0 c0] = some (d, p) := by simpa [Value.cells] using hf
  rcases open_slice ht hf' with ⟨hcs, _⟩ | ⟨a, len, cap, m, n, D, Pl, hcs, _, hl, hm, hmm, hx, hel⟩
  · exact ⟨none, 0, [], by simpa using hcs, by simp, by unfold maxLen; omega, by simp, by simp, Has.nil⟩
  · simp only [if_true] at hmm
    simp only [Prod.mk.injEq] at hx
    obtain ⟨hx, _⟩ := hx
    subst hmm
    obtain ⟨ls, hls, hp⟩ := choose_list len (fun k (x : Int × Int) => w.cell? (a.add (k * 2)) = some (.int .i64 x.1) ∧ w.cell? (a.add (k * 2 + 1)) = some (.int .i64 x.2) ∧ -9223372036854775808 ≤ x.2 ∧ x.2 ≤ 9223372036854775807) (fun k hk => by
      obtain ⟨cs', hc1, ht1⟩ := hel k (by omega)
      obtain ⟨_, hlen, hcell⟩ := World.cells?_some hc1
      obtain ⟨y0, y1, n1, _, _, h0, h1⟩ := trod_struct2 he ht1
      rw [hc] at hlen hcell hc1
      match cs', hlen with
      | [u0, u1], _ =>
        rw [hf0.1, hf0.2, hci] at h0
        rw [hf1.1, hf1.2, hci] at h1
        simp only [List.drop_zero, List.take_succ_cons, List.take_zero, List.drop_succ_cons] at h0 h1
        obtain ⟨z0, e0, _, _⟩ := DataW.trod_int hi h0
        obtain ⟨z1, e1, _, w1⟩ := DataW.trod_int hi h1
        simp only [List.cons.injEq, and_true] at e0 e1
        have hb := bounds_i64 w1
        have c0 := hcell 0 (by omega)
        have c1 := hcell 1 (by omega)
        rw [add_add] at c0 c1
        refine ⟨(z0, z1), ?_, ?_, hb.1, hb.2⟩
        · rw [Nat.add_zero] at c0; rw [c0, e0]; rfl
        · rw [c1, e1]; rfl)
    refine ⟨some a, m, ls, by rw [hls]; simpa using hcs, by omega, hm, ?_, fun x hx => ?_, ?_⟩
    · rw [hx] at hw
      have := hw ((len + (m - len)) * 16) (by simp [DataW.weights, ht, hby])
      unfold reachBytes at this
      omega
    · obtain ⟨k, hk, rfl⟩ := List.getElem_of_mem hx
      have := hp k _ (List.getElem?_eq_getElem hk)
      exact ⟨this.2.2.1, this.2.2.2⟩
    · refine has_of_cells fun j u hu => ?_
      have hj : j < ls.length * 2 := by
        rcases Nat.lt_or_ge j (ls.length * 2) with h' | h'
        · exact h'
        · rw [List.getElem?_eq_none (by rw [pairsOf_length]; exact h')] at hu; cases hu
      obtain ⟨k, hk⟩ : ∃ k, k = j / 2 := ⟨_, rfl⟩
      have hk2 : k < ls.length := by omega
      have hat := pairsOf_at ls k hk2
      have hpk := hp k _ (List.getElem?_eq_getElem hk2)
      rcases Nat.mod_two_eq_zero_or_one j with h2 | h2
      · obtain rfl : j = k * 2 := by omega
        rw [hat.1] at hu
        rw [hpk.1]; exact hu
      · obtain rfl : j = k * 2 + 1 := by omega
        rw [hat.2] at hu
        rw [hpk.2.1]; exact hu
end
end Go.Proofs.Ytmjlehofjholaaa
