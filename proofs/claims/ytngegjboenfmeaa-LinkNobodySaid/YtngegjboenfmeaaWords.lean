/- Words for memory that the walks of this seat share: what a slice holds, kept over everything that leaves old blocks alone; an append onto a row of the call's own from whatever source. -/
import Derived.WalkKit
import Derived.Below
import Derived.Laws.OwnMore
import Derived.Deep.AppendLies
import Derived.Deep.Draws
import Derived.Maps.AppendAt
import Derived.Lib.Hide
namespace Go.Proofs.Ytngegjboenfmeaa
open Go Go.RowKit

/-- a byte as a value -/
abbrev U (b : UInt8) : Value := .int .u8 (b.toNat : Int)
def us (l : List UInt8) : List Value := l.map fun b => .int .u8 (b.toNat : Int)
theorem us_nil : us [] = [] := rfl
theorem us_length (l : List UInt8) : (us l).length = l.length := by simp [us]
theorem us_append (l m : List UInt8) : us (l ++ m) = us l ++ us m := by simp [us]
theorem us_at {l : List UInt8} {k : Nat} (h : k < l.length) : (us l)[k]? = some (.int .u8 ((l[k]).toNat : Int)) := by simp [us, h]
theorem us_one (l : List UInt8) : ∀ u ∈ us l, u.oneCell' = true := by
  intro u hu
  obtain ⟨b, _, rfl⟩ := List.mem_map.1 hu
  rfl
theorem us_drop (l : List UInt8) (k : Nat) : us (l.drop k) = (us l).drop k := by simp [us]
theorem us_take (l : List UInt8) (k : Nat) : us (l.take k) = (us l).take k := by simp [us]
theorem byte_inj {a b : UInt8} (h : ((a.toNat : Nat) : Int) = ((b.toNat : Nat) : Int)) : a = b := UInt8.toNat_inj.1 (by omega)
theorem us_inj {l m : List UInt8} (h : us l = us m) : l = m := by
  induction l generalizing m with
  | nil => cases m with
    | nil => rfl
    | cons b m => simp [us] at h
  | cons a l ih => cases m with
    | nil => simp [us] at h
    | cons b m =>
      simp only [us, List.map_cons, List.cons.injEq, Value.int.injEq, true_and] at h
      rw [byte_inj h.1, ih h.2]

theorem block_add (a : Addr) (n : Nat) : (a.add n).block = a.block := by unfold Addr.add; split <;> rfl
theorem add_add (a : Addr) (i j : Nat) : (a.add i).add j = a.add (i + j) := by
  unfold Addr.add
  by_cases hi : i = 0 <;> by_cases hj : j = 0 <;> simp [hi, hj, Nat.add_assoc]
theorem add_mk (b o n : Nat) : (⟨b, o, none⟩ : Addr).add n = ⟨b, o + n, none⟩ := by
  unfold Addr.add
  by_cases h : n = 0
  · subst h; rfl
  · rw [if_neg h]

/-- THE CELLS AT A: xs, in blocks below B (an empty list asks nothing of A) -/
def Has (w : World) (B : Nat) (A : Option Addr) (xs : List Value) : Prop :=
  ∀ (j : Nat) (u : Value), xs[j]? = some u → ∃ b o : Nat, A = some ⟨b, o, none⟩ ∧ b < B ∧ w.cell? ⟨b, o + j, none⟩ = some u

section
variable {w w' : World} {B B' : Nat} {A : Option Addr} {xs : List Value}
theorem Has.nil : Has w B A [] := fun j u h => by simp at h
theorem Has.keep (h : Has w B A xs) (hk : ∀ p : Addr, p.block < B → w'.cell? p = w.cell? p) : Has w' B A xs := fun j u hu => by
  obtain ⟨b, o, rfl, hb, hc⟩ := h j u hu
  exact ⟨b, o, rfl, hb, (hk _ hb).trans hc⟩
theorem Has.more (h : Has w B A xs) (hB : B ≤ B') : Has w B' A xs := fun j u hu => by
  obtain ⟨b, o, rfl, hb, hc⟩ := h j u hu
  exact ⟨b, o, rfl, by omega, hc⟩
theorem Has.below (h : Has w B A xs) (hb : Below B w w') : Has w' B A xs := h.keep fun _ hp => hb.cell hp
theorem Has.drew (h : Has w B A xs) : Has w.drew B A xs := h
theorem Has.drewN (h : Has w B A xs) (k : Nat) : Has (w.drewN k) B A xs := h
theorem Has.alloc (h : Has w B A xs) (hB : B ≤ w.heap.size) (o : Obj) : Has (w.alloc o) B A xs := h.keep fun p hp => World.cell?_alloc_lt w o p (by omega)
theorem Has.setCell (h : Has w B A xs) {p : Addr} (hB : B ≤ p.block) (u : Value) : Has (w.setCell p u) B A xs :=
  h.keep fun q hq => World.cell?_setCell_other w p q u (fun e => by subst e; omega)
theorem Has.grown (h : Has w B A xs) {row : Option Nat} (hg : w.grownBy w' row) (hB : B ≤ w.heap.size) (hr : ∀ g, row = some g → B ≤ g) : Has w' B A xs :=
  h.keep fun p hp => World.cell?_of_block (hg.block p.block (by omega) (fun e => by have := hr _ e.symm; omega))
/-- a cell of it, where there is one -/
theorem Has.at_ {k : Nat} (h : Has w B A xs) (hk : k < xs.length) : ∃ b o : Nat, A = some ⟨b, o, none⟩ ∧ b < B ∧ w.cell? ⟨b, o + k, none⟩ = some xs[k] :=
  h k _ (List.getElem?_eq_getElem hk)
theorem Has.take (h : Has w B A xs) (k : Nat) : Has w B A (xs.take k) := fun j u hu => h j u (by
  rw [List.getElem?_take] at hu
  split at hu
  · exact hu
  · cases hu)
/-- cut at its front: the model's address of s[k:] -/
theorem Has.drop (h : Has w B A xs) (k size cap : Nat) (hc : xs.length ≤ cap * size) :
    Has w B (if cap = k then A else A.map (·.add (k * size))) (xs.drop (k * size)) := fun j u hu => by
  rw [List.getElem?_drop] at hu
  have hl : k * size + j < xs.length := by
    rcases Nat.lt_or_ge (k * size + j) xs.length with hlt | hge
    · exact hlt
    · rw [List.getElem?_eq_none hge] at hu; cases hu
  obtain ⟨b, o, rfl, hb, hcell⟩ := h _ u hu
  have hne : cap ≠ k := fun e => by subst e; omega
  rw [if_neg hne]
  exact ⟨b, o + k * size, by simp [add_mk], hb, by rw [Nat.add_assoc]; exact hcell⟩
theorem Has.of_own {base : Nat} {e : TypeId} {size n c : Nat} (h : w.ownsRow base e size (.slice A n c) n xs) : Has w w.heap.size A xs := fun j u hu => by
  rcases h.2 with ⟨_, hn⟩ | ⟨g, cap, cur, hv, _, hh, hnc, _, hs, ht⟩
  · have h1 := h.1
    rw [hn, Nat.zero_mul] at h1
    rw [List.eq_nil_of_length_eq_zero h1] at hu
    simp at hu
  · injection hv with hA _ hcap
    subst hA
    have hlt : g < w.heap.size := by
      rcases Nat.lt_or_ge g w.heap.size with hlt | hge
      · exact hlt
      · rw [Array.getElem?_eq_none hge] at hh; cases hh
    refine ⟨g, 0, rfl, hlt, ?_⟩
    rw [Nat.zero_add]
    rw [cell_of_row w g j cur e (0, 0) hh]
    rw [← ht, List.getElem?_take] at hu
    split at hu
    · simpa using hu
    · cases hu
end

/-- a slice value whose elements take the cells xs -/
def Sl (w : World) (B size : Nat) (v : Value) (xs : List Value) : Prop :=
  ∃ A n c, v = .slice A n c ∧ xs.length = n * size ∧ n ≤ c ∧ c ≤ maxLen ∧ n ≤ 140737488355328 ∧ Has w B A xs

/-- slices of bytes in a list -/
def Parts (w : World) (B : Nat) (vs : List Value) (ls : List (List UInt8)) : Prop := vs.length = ls.length ∧ ∀ (i : Nat) (v : Value) (l : List UInt8), vs[i]? = some v → ls[i]? = some l → Sl w B 1 v (us l)
theorem Parts.at_ {w : World} {B : Nat} {vs : List Value} {ls : List (List UInt8)} (h : Parts w B vs ls) {i : Nat} (hi : i < vs.length) : ∃ A c, vs[i] = .slice A (ls[i]'(by have := h.1; omega)).length c ∧ (ls[i]'(by have := h.1; omega)).length ≤ c ∧ c ≤ maxLen ∧ (ls[i]'(by have := h.1; omega)).length ≤ 140737488355328 ∧ Has w B A (us (ls[i]'(by have := h.1; omega))) := by
  have h1 := h.1
  obtain ⟨A, n, c, hv, hn, hc, hm, hr, hh⟩ := h.2 i _ _ (List.getElem?_eq_getElem hi) (List.getElem?_eq_getElem (show i < ls.length by omega))
  rw [us_length, Nat.mul_one] at hn
  subst hn
  exact ⟨A, c, hv, hc, hm, hr, hh⟩

/-- an append from whatever source -/
theorem run_append_has {P : Program} (w : World) (base : Nat) (t ty e : TypeId) (i : TypeInfo) (z : Value) (size bytes : Nat) (ht : P.underlying t = some (.slice e)) (hi : P.info? e = some i) (hz : i.zero = some z)
    (hsize : i.size = size) (hby : i.bytes = bytes) (hzs : z.cells.size = size) (hsz : 0 < size)
    (v : Value) (n : Nat) (xs : List Value) (hown : w.ownsRow base e size v n xs)
    (B : Nat) (A : Option Addr) (m c : Nat) (news : List Value) (hl : news.length = m * size) (hr : Has w B A news) (h1 : ∀ u ∈ news, u.oneCell' = true)
    (h63 : n + m ≤ maxLen) (hbytes : (n + m) * bytes ≤ 140737488355328) (hbase : base ≤ w.heap.size) :
    ∃ v' w', (Builtin.append_ #[t, t] ty #[v, .slice A m c]).run P w = .ok v' w' ∧ w'.ownsRow base e size v' (n + m) (xs ++ news) ∧ w.grownBy w' v.ownBlock ∧
      (v'.ownBlock = v.ownBlock ∨ v'.ownBlock = some w.heap.size) := by
  rcases A with _ | ad
  · have hm : m = 0 := by
      rcases Nat.eq_zero_or_pos m with h0 | h0
      · exact h0
      · have hlen : 0 < news.length := by rw [hl]; exact Nat.mul_pos h0 hsz
        obtain ⟨b, o, h, _⟩ := hr.at_ hlen
        cases h
    subst hm
    have hn : news = [] := List.eq_nil_of_length_eq_zero (by simpa using hl)
    subst hn
    refine ⟨v, w, ?_, by simpa using hown, World.grownBy.refl w _, .inl rfl⟩
    rcases hown.2 with ⟨rfl, rfl⟩ | ⟨g, cap, cur, rfl, _, _, hnc, _⟩
    · simp [Builtin.append_, run_underlying ht, sizeOf, typeInfo, hi, Builtin.lenOf, Builtin.firstCells]
    · simp [Builtin.append_, run_underlying ht, sizeOf, typeInfo, hi, Builtin.lenOf, Builtin.firstCells, hnc, storeCells]
  · have hcells : ∀ j u, news[j]? = some u → w.cell? (ad.add j) = some u := by
      intro j u hu
      obtain ⟨b, o, h, _, hc⟩ := hr j u hu
      injection h with h
      subst h
      rw [add_mk]; exact hc
    obtain ⟨v', w', hrun, h2, h3, _, h5⟩ := run_append_own_at (P := P) w base t ty e i z size bytes ht hi hz hsize hby hzs hsz v n xs hown ad m c news hl hcells h1 h63 hbytes hbase
    exact ⟨v', w', hrun, h2, h3, h5⟩

theorem wpList_append_has {P : Program} (w : World) {ops : Array Oper} {rest : List Oper} {o : Oper} {a : Act} {Q : Exit → Act → World → Prop} (hgd : o.guard = none) (s x : Operand) (t : TypeId)
    (ho : o.op = .call { callee := .builtin .append, args := #[s, x], argTypes := #[t, t] })
    (base : Nat) (e : TypeId) (i : TypeInfo) (z : Value) (size bytes : Nat) (ht : P.underlying t = some (.slice e)) (hi : P.info? e = some i) (hz : i.zero = some z)
    (hsize : i.size = size) (hby : i.bytes = bytes) (hzs : z.cells.size = size) (hsz : 0 < size)
    (v : Value) (n : Nat) (xs : List Value) (hs : a.eval s = v) (hown : w.ownsRow base e size v n xs)
    (B : Nat) (A : Option Addr) (m c : Nat) (news : List Value) (hx : a.eval x = .slice A m c) (hl : news.length = m * size) (hr : Has w B A news) (h1 : ∀ u ∈ news, u.oneCell' = true)
    (h63 : n + m ≤ maxLen) (hbytes : (n + m) * bytes ≤ 140737488355328) (hbase : base ≤ w.heap.size)
    (h : ∀ v' w', w'.ownsRow base e size v' (n + m) (xs ++ news) → w.grownBy w' v.ownBlock → (v'.ownBlock = v.ownBlock ∨ v'.ownBlock = some w.heap.size) → wpList P ops Q rest (a.put o.dst v') w') : wpList P ops Q (o :: rest) a w := by
  refine wpList_plain hgd fun K hK => ?_
  obtain ⟨v', w', hrun, h2, h3, h4⟩ := run_append_has (P := P) w base t o.type e i z size bytes ht hi hz hsize hby hzs hsz v n xs hown B A m c news hl hr h1 h63 hbytes hbase
  unfold Oper.wp execOp
  simp only [ho, resolve, invoke, builtin, Sem.run_bind, Sem.run_pure, Result.andThen_ok, List.map_toArray, List.map_cons, List.map_nil, hs, hx, hrun]
  exact hK _ _ (h v' w' h2 h3 h4)
end Go.Proofs.Ytngegjboenfmeaa
