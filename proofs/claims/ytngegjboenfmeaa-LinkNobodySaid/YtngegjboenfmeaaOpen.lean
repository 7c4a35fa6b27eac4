/- From a reading of the arguments to what the walks ask, and back. -/
import Derived.Test.YtngegjboenfmeaaWords
import Derived.ProofKit
import Derived.OpenShut
import Derived.SizedLaws
import Derived.Deep.Slices
import Derived.Carry
namespace Go.Proofs.Ytngegjboenfmeaa
open Go Go.RowKit Go.ChangeShapes Go.WideShapes Go.ChangeAt Go.Deep
set_option linter.unusedVariables false

section
variable {H : Type} {enc : TypeId × Value → H} {P : Program} {w : World}

/-- below the old heap nothing has turned: all arguments read as they did -/
theorem trodAll_stays (hl : laidOutB P = true) {W W' : World} (hb : Below W.heap.size W W') : ∀ {ts : List TypeId} {vs : List Value} {ds : List (DataW H)} {ps : List MemPlace},
    (∀ t ∈ ts, P.readableRec t = true ∧ t < P.types.size) → DataW.TrodAll enc P W 0 (fun _ => true) true ts vs ds ps → DataW.TrodAll enc P W' 0 (fun b => decide (b < W.heap.size)) true ts vs ds ps
  | [], vs, ds, ps, _, h => by
    obtain ⟨rfl, rfl, rfl⟩ := trodAll_nil h
    exact trodAll_mk0
  | t :: ts, vs, ds, ps, hr, h => by
    obtain ⟨v0, vs0, d0, ds0, p0, q0, rfl, rfl, rfl, h0, r0⟩ := trodAll_cons h
    have lt0 : ∀ x ∈ p0, x.block < W.heap.size := by obtain ⟨m, hm⟩ := h0; exact DataW.trod_lt m _ _ _ hm
    exact trodAll_cons_mk (Below.trod hl (hr t (by simp)).1 (hr t (by simp)).2 h0 hb lt0) (trodAll_stays hl hb (fun x hx => hr x (List.mem_cons_of_mem _ hx)) r0)

theorem has_of_cells {a : Addr} {xs : List Value} (h : ∀ j u, xs[j]? = some u → w.cell? (a.add j) = some u) : Has w w.heap.size (some a) xs := fun j u hu => by
  have h1 := h j u hu
  have h0 : ∃ u0, xs[0]? = some u0 := by
    have hl : j < xs.length := by
      rcases Nat.lt_or_ge j xs.length with hlt | hge
      · exact hlt
      · rw [List.getElem?_eq_none hge] at hu; cases hu
    exact ⟨xs[0]'(by omega), List.getElem?_eq_getElem (by omega)⟩
  obtain ⟨u0, h0⟩ := h0
  have h2 := h 0 u0 h0
  obtain ⟨b, o, spot⟩ := a
  have hs : spot = none := by simpa [Addr.add] using World.cell?_spot h2
  subst hs
  rw [add_mk] at h1
  exact ⟨b, o, rfl, World.block_lt_of_cell? w _ h1, h1⟩

/-- numbers in a slice -/
theorem open_nums {t e : TypeId} {k : IntKind} {v : Value} {d : DataW H} {p : List MemPlace} {base fuel bytes : Nat} {held : Bool} (ht : P.underlying t = some (.slice e)) (he : P.underlying e = some (.int k)) (hc : P.cellsOf e = 1) (hby : P.bytesOf e = bytes) (hpos : 1 ≤ bytes)
    (h : DataW.trod enc P w base (fun _ => true) held fuel t [v] = some (d, p)) (hw : ∀ n ∈ d.weights P t, n ≤ reachBytes) :
    ∃ (A : Option Addr) (c : Nat) (zs : List Int), v = .slice A zs.length c ∧ zs.length ≤ c ∧ c ≤ maxLen ∧ zs.length ≤ 140737488355328 ∧ (∀ n ∈ zs, (Lit.int k n).wf = true) ∧ Has w w.heap.size A (zs.map (Value.int k)) := by
  rcases open_ints ht he hc h with ⟨hcs, _⟩ | ⟨a, len, cap, zs, hcs, _, hl, hm, hz, hx, hcell, hwf⟩
  · refine ⟨none, 0, [], ?_, by simp, by unfold maxLen; omega, by simp, by simp, Has.nil⟩
    simpa using hcs
  · simp only [if_true] at hz
    simp only [Prod.mk.injEq] at hx
    have hlen : (zs.take len).length = len := by simp; omega
    refine ⟨some a, cap, zs.take len, ?_, by omega, hm, ?_, fun n hn => hwf n (List.mem_of_mem_take hn), has_of_cells fun j u hu => ?_⟩
    · rw [hlen]; simpa using hcs
    · rw [hx.1] at hw
      have := hw ((zs.take len).length * bytes + (zs.drop len).length * bytes) (by simp [DataW.weights, ht, hby, lits, Nat.add_mul])
      have h2 : (zs.take len).length * 1 ≤ (zs.take len).length * bytes := Nat.mul_le_mul_left _ hpos
      unfold reachBytes at this
      omega
    · have hj : j < len := by
        rcases Nat.lt_or_ge j len with h' | h'
        · exact h'
        · rw [List.getElem?_eq_none (by simp; omega)] at hu; cases hu
      have h1 := hcell j (by omega)
      rw [h1]
      rw [List.getElem?_map, List.getElem?_take, if_pos hj] at hu
      rw [List.getD_eq_getElem?_getD]
      cases hzj : zs[j]? with
      | none => rw [hzj] at hu; cases hu
      | some z => rw [hzj] at hu; simpa using hu

theorem u8_of_wf {n : Int} (h : (Lit.int .u8 n).wf = true) : 0 ≤ n ∧ n < 256 := by
  have := bounds_u8 h
  omega

/-- bytes in a slice -/
theorem open_bytes {t e : TypeId} {v : Value} {d : DataW H} {p : List MemPlace} {base fuel : Nat} {held : Bool} (ht : P.underlying t = some (.slice e)) (he : P.underlying e = some (.int .u8)) (hc : P.cellsOf e = 1) (hby : P.bytesOf e = 1)
    (h : DataW.trod enc P w base (fun _ => true) held fuel t [v] = some (d, p)) (hw : ∀ n ∈ d.weights P t, n ≤ reachBytes) :
    ∃ (A : Option Addr) (c : Nat) (l : List UInt8), v = .slice A l.length c ∧ l.length ≤ c ∧ c ≤ maxLen ∧ l.length ≤ 140737488355328 ∧ Has w w.heap.size A (us l) := by
  obtain ⟨A, c, zs, hv, h1, h2, h3, hwf, hh⟩ := open_nums ht he hc hby (by omega) h hw
  refine ⟨A, c, zs.map fun n => UInt8.ofNat n.toNat, by simpa using hv, by simpa using h1, h2, by simpa using h3, ?_⟩
  have e : us (zs.map fun n => UInt8.ofNat n.toNat) = zs.map (Value.int .u8) := by
    unfold us
    rw [List.map_map]
    apply List.map_congr_left
    intro n hn
    have := u8_of_wf (hwf n hn)
    simp only [Function.comp, UInt8.toNat_ofNat', Value.int.injEq, true_and]
    omega
  rw [e]
  exact hh
/-- the reach, of one argument -/
theorem weights_at {ts : List TypeId} {ds : List (DataW H)} (h : (DataW.weightsEach P ts ds).all (· ≤ reachBytes) = true) (j : Nat) {t : TypeId} {d : DataW H} (ht : ts[j]? = some t) (hd : ds[j]? = some d) : ∀ n ∈ d.weights P t, n ≤ reachBytes :=
  fun n hn => by simpa using List.all_eq_true.1 h n (DataW.weights_mem_each ht hd n hn)
theorem arg_bytes {r : Reach} {b0 : Nat} {t e : TypeId} {v : Value} {d : DataW H} {p : List MemPlace} (ht : P.underlying t = some (.slice e)) (he : P.underlying e = some (.int .u8)) (hc : P.cellsOf e = 1) (hby : P.bytesOf e = 1)
    (hv : Value.okWide P w r b0 t v) (h : DataW.Trod enc P w 0 (fun _ => true) true t v d p) (hw : ∀ n ∈ d.weights P t, n ≤ reachBytes) :
    ∃ (A : Option Addr) (c : Nat) (l : List UInt8), v = .slice A l.length c ∧ l.length ≤ c ∧ c ≤ maxLen ∧ l.length ≤ 140737488355328 ∧ Has w w.heap.size A (us l) := by
  obtain ⟨a, n, c, rfl⟩ := okWide_slice ht hv
  obtain ⟨fuel, hf⟩ := h
  exact open_bytes ht he hc hby (by simpa [Value.cells] using hf) hw
theorem arg_nums {r : Reach} {b0 : Nat} {t e : TypeId} {k : IntKind} {bytes : Nat} {v : Value} {d : DataW H} {p : List MemPlace} (ht : P.underlying t = some (.slice e)) (he : P.underlying e = some (.int k)) (hc : P.cellsOf e = 1) (hby : P.bytesOf e = bytes) (hpos : 1 ≤ bytes)
    (hv : Value.okWide P w r b0 t v) (h : DataW.Trod enc P w 0 (fun _ => true) true t v d p) (hw : ∀ n ∈ d.weights P t, n ≤ reachBytes) :
    ∃ (A : Option Addr) (c : Nat) (zs : List Int), v = .slice A zs.length c ∧ zs.length ≤ c ∧ c ≤ maxLen ∧ zs.length ≤ 140737488355328 ∧ (∀ n ∈ zs, (Lit.int k n).wf = true) ∧ Has w w.heap.size A (zs.map (Value.int k)) := by
  obtain ⟨a, n, c, rfl⟩ := okWide_slice ht hv
  obtain ⟨fuel, hf⟩ := h
  exact open_nums ht he hc hby hpos (by simpa [Value.cells] using hf) hw
theorem weightsAll_mem {e : TypeId} {d : DataW H} {n : Nat} : ∀ {ds : List (DataW H)}, d ∈ ds → n ∈ d.weights P e → n ∈ DataW.weightsAll P e ds
  | [], h, _ => by simp at h
  | x :: ds, h, hn => by
    simp only [DataW.weightsAll, List.mem_append]
    rcases List.mem_cons.1 h with rfl | h
    · exact Or.inl hn
    · exact Or.inr (weightsAll_mem h hn)
/-- a list of things, one for each place -/
theorem choose_list {α : Type} (n : Nat) (p : Nat → α → Prop) (h : ∀ i, i < n → ∃ a, p i a) : ∃ l : List α, l.length = n ∧ ∀ i a, l[i]? = some a → p i a := by
  induction n with
  | zero => exact ⟨[], rfl, fun i a h => by simp at h⟩
  | succ n ih =>
    obtain ⟨l, hl, hp⟩ := ih fun i hi => h i (by omega)
    obtain ⟨a, ha⟩ := h n (by omega)
    refine ⟨l ++ [a], by simp [hl], fun i b hb => ?_⟩
    rcases Nat.lt_or_ge i l.length with hi | hi
    · exact hp i b (by rwa [List.getElem?_append_left hi] at hb)
    · rw [List.getElem?_append_right hi] at hb
      have : i - l.length = 0 := by
        rcases Nat.eq_zero_or_pos (i - l.length) with h0 | h0
        · exact h0
        · rw [List.getElem?_eq_none (by simp; omega)] at hb; cases hb
      rw [this] at hb
      simp at hb
      subst hb
      obtain rfl : i = n := by omega
      exact ha
/-- a slice of things of one cell each -/
theorem open_ones {t e : TypeId} {v : Value} {d : DataW H} {p : List MemPlace} {base fuel bytes : Nat} {held : Bool} (ht : P.underlying t = some (.slice e)) (hc : P.cellsOf e = 1) (hby : P.bytesOf e = bytes) (hpos : 1 ≤ bytes)
    (h : DataW.trod enc P w base (fun _ => true) held fuel t [v] = some (d, p)) (hw : ∀ n ∈ d.weights P t, n ≤ reachBytes) :
    ∃ (A : Option Addr) (c : Nat) (vs : List Value), v = .slice A vs.length c ∧ vs.length ≤ c ∧ c ≤ maxLen ∧ vs.length ≤ 140737488355328 ∧ Has w w.heap.size A vs ∧
      ∀ (i : Nat) (u : Value), vs[i]? = some u → ∃ (n : Nat) (x : DataW H × List MemPlace), DataW.trod enc P w base (fun _ => true) held n e [u] = some x ∧ ∀ m ∈ x.1.weights P e, m ≤ reachBytes := by
  rcases open_slice1 ht hc h with ⟨hcs, _⟩ | ⟨a, len, cap, m, n, V, D, Pl, hcs, _, hl, hm, hmm, hx, hi⟩
  · refine ⟨none, 0, [], by simpa using hcs, by simp, by unfold maxLen; omega, by simp, Has.nil, fun i u hu => by simp at hu⟩
  · simp only [if_true] at hmm
    simp only [Prod.mk.injEq] at hx
    obtain ⟨hx, _⟩ := hx
    subst hmm
    have hlen : ((List.range len).map V).length = len := by simp
    refine ⟨some a, m, (List.range len).map V, by rw [hlen]; simpa using hcs, by rw [hlen]; exact hl, hm, ?_, has_of_cells fun j u hu => ?_, fun i u hu => ?_⟩
    · rw [hlen]
      rw [hx] at hw
      have := hw ((len + (m - len)) * bytes) (by simp [DataW.weights, ht, hby])
      have h2 : (len + (m - len)) * 1 ≤ (len + (m - len)) * bytes := Nat.mul_le_mul_left _ hpos
      unfold reachBytes at this
      omega
    · have hj : j < len := by
        rcases Nat.lt_or_ge j len with h' | h'
        · exact h'
        · rw [List.getElem?_eq_none (by simpa using h')] at hu; cases hu
      rw [(hi j (by omega)).1]
      rw [List.getElem?_map, List.getElem?_range hj] at hu
      exact hu
    · have hj : i < len := by
        rcases Nat.lt_or_ge i len with h' | h'
        · exact h'
        · rw [List.getElem?_eq_none (by simpa using h')] at hu; cases hu
      rw [List.getElem?_map, List.getElem?_range hj] at hu
      simp only [Option.map_some, Option.some.injEq] at hu
      subst hu
      refine ⟨n, _, (hi i (by omega)).2, fun k hk => hw k ?_⟩
      rw [hx]
      simp only [DataW.weights, ht, List.mem_cons, List.mem_append]
      exact Or.inr (Or.inl (weightsAll_mem (List.mem_map.2 ⟨i, by simpa using hj, rfl⟩) hk))
theorem arg_byteses {r : Reach} {b0 : Nat} {t s e : TypeId} {v : Value} {d : DataW H} {p : List MemPlace} (ht : P.underlying t = some (.slice s)) (hs : P.underlying s = some (.slice e)) (he : P.underlying e = some (.int .u8)) (hcs : P.cellsOf s = 1) (hbs : P.bytesOf s = 24) (hc : P.cellsOf e = 1) (hby : P.bytesOf e = 1)
    (hv : Value.okWide P w r b0 t v) (h : DataW.Trod enc P w 0 (fun _ => true) true t v d p) (hw : ∀ n ∈ d.weights P t, n ≤ reachBytes) :
    ∃ (A : Option Addr) (c : Nat) (vs : List Value) (ls : List (List UInt8)), v = .slice A vs.length c ∧ vs.length ≤ c ∧ c ≤ maxLen ∧ vs.length ≤ 140737488355328 ∧ Has w w.heap.size A vs ∧ Parts w w.heap.size vs ls := by
  obtain ⟨a, n, c, rfl⟩ := okWide_slice ht hv
  obtain ⟨fuel, hf⟩ := h
  obtain ⟨A, c, vs, h1, h2, h3, h4, h5, h6⟩ := open_ones ht hcs hbs (by omega) (by simpa [Value.cells] using hf) hw
  obtain ⟨ls, hl, hp⟩ := choose_list vs.length (fun i l => ∀ u, vs[i]? = some u → Sl w w.heap.size 1 u (us l)) (fun i hi => by
    obtain ⟨n, x, hx, hwx⟩ := h6 i _ (List.getElem?_eq_getElem hi)
    obtain ⟨A', c', l, e1, e2, e3, e4, e5⟩ := open_bytes hs he hc hby hx hwx
    exact ⟨l, fun u hu => by rw [List.getElem?_eq_getElem hi] at hu; injection hu with hu; rw [← hu, e1]; exact ⟨A', l.length, c', rfl, by rw [us_length, Nat.mul_one], e2, e3, e4, e5⟩⟩)
  exact ⟨A, c, vs, ls, h1, h2, h3, h4, h5, hl.symm, fun i u l hu hli => hp i l hli u hu⟩
end
end Go.Proofs.Ytngegjboenfmeaa
