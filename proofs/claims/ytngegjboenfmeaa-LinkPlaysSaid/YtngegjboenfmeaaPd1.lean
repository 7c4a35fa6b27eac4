/- Part 1 of the texts of a claim: Words Open Sep Bytes SepCe Rg RgS RgF Prc Frm Lnk Lnk2 RgB RgApp Row RgIn Lnk5 SepF Lnk9 FrmM RangeV RangeS LnkB LnkCw Lnk6 SepBy Own5 RowO Mp FrmR Lnk3 Step SepK Few OpenK OpenK2 OpenP -/
import Derived.Test.YtngegjboenfmeaaProg
import Derived.WalkKit
import Derived.Below
import Derived.Laws.OwnMore
import Derived.Deep.AppendLies
import Derived.Deep.Draws
import Derived.Maps.AppendAt
import Derived.Lib.Hide
import Derived.ProofKit
import Derived.OpenShut
import Derived.SizedLaws
import Derived.Deep.Slices
import Derived.Carry
import Derived.WalkSpells
import Derived.Lib.SlBytesConst
import Derived.Deep.RegionHeld
import Derived.Deep.QuietTactic
import Derived.BigQuiet
import Derived.OrdersIn
import Derived.TacticsIn
import Derived.OwnWalkIn
import Derived.RangeFuncNested
import Derived.WideKeyEntry
import Derived.DeepKeys4
import Derived.Lib.SmallJoins
namespace Go.Proofs.Ytngegjboenfmeaa
open Go Go.RowKit

/-- a byte as a value -/
abbrev U (b : UInt8) : Value := .int .u8 (b.toNat : Int)
def us (l : List UInt8) : List Value := l.map fun b => .int .u8 (b.toNat : Int)
theorem us_length (l : List UInt8) : (us l).length = l.length := by simp [us]
theorem us_append (l m : List UInt8) : us (l ++ m) = us l ++ us m := by simp [us]
theorem us_at {l : List UInt8} {k : Nat} (h : k < l.length) : (us l)[k]? = some (.int .u8 ((l[k]).toNat : Int)) := by simp [us, h]
theorem us_one (l : List UInt8) : ∀ u ∈ us l, u.oneCell' = true := by
 intro u hu; obtain ⟨b, _, rfl⟩ := List.mem_map.1 hu; rfl
theorem add_add (a : Addr) (i j : Nat) : (a.add i).add j = a.add (i + j) := by
 unfold Addr.add
 by_cases hi : i = 0 <;> by_cases hj : j = 0 <;> simp [hi, hj, Nat.add_assoc]
theorem add_mk (b o n : Nat) : (⟨b, o, none⟩ : Addr).add n = ⟨b, o + n, none⟩ := by
 unfold Addr.add
 by_cases h : n = 0
 ·subst h; rfl
 ·rw [if_neg h]

/-- THE CELLS AT A: xs, in blocks below B (an empty list asks nothing of A) -/
def Has (w : World) (B : Nat) (A : Option Addr) (xs : List Value) : Prop :=
 ∀ (j : Nat) (u : Value), xs[j]? = some u → ∃ b o : Nat, A = some ⟨b, o, none⟩ ∧ b < B ∧ w.cell? ⟨b, o + j, none⟩ = some u

section
variable {w w' : World} {B B' : Nat} {A : Option Addr} {xs : List Value}
theorem Has.nil : Has w B A [] := fun j u h => by simp at h
theorem Has.keep (h : Has w B A xs) (hk : ∀ p : Addr, p.block < B → w'.cell? p = w.cell? p) : Has w' B A xs := fun j u hu => by
 obtain ⟨b, o, rfl, hb, hc⟩ := h j u hu; exact ⟨b, o, rfl, hb, (hk _ hb).trans hc⟩
theorem Has.more (h : Has w B A xs) (hB : B ≤ B') : Has w B' A xs := fun j u hu => by
 obtain ⟨b, o, rfl, hb, hc⟩ := h j u hu; exact ⟨b, o, rfl, by omega, hc⟩
theorem Has.below (h : Has w B A xs) (hb : Below B w w') : Has w' B A xs := h.keep fun _ hp => hb.cell hp
theorem Has.drew (h : Has w B A xs) : Has w.drew B A xs := h
theorem Has.alloc (h : Has w B A xs) (hB : B ≤ w.heap.size) (o : Obj) : Has (w.alloc o) B A xs := h.keep fun p hp => World.cell?_alloc_lt w o p (by omega)
theorem Has.setCell (h : Has w B A xs) {p : Addr} (hB : B ≤ p.block) (u : Value) : Has (w.setCell p u) B A xs :=
 h.keep fun q hq => World.cell?_setCell_other w p q u (fun e => by subst e; omega)
theorem Has.grown (h : Has w B A xs) {row : Option Nat} (hg : w.grownBy w' row) (hB : B ≤ w.heap.size) (hr : ∀ g, row = some g → B ≤ g) : Has w' B A xs :=
 h.keep fun p hp => World.cell?_of_block (hg.block p.block (by omega) (fun e => by have := hr _ e.symm; omega))
/-- a cell of it, where there is one -/
theorem Has.at_ {k : Nat} (h : Has w B A xs) (hk : k < xs.length) : ∃ b o : Nat, A = some ⟨b, o, none⟩ ∧ b < B ∧ w.cell? ⟨b, o + k, none⟩ = some xs[k] :=
 h k _ (List.getElem?_eq_getElem hk)
theorem Has.take (h : Has w B A xs) (k : Nat) : Has w B A (xs.take k) := fun j u hu => h j u (by
 rw [List.getElem?_take] at hu; split at hu
 ·exact hu
 ·cases hu)
/-- cut at its front: the model's address of s[k:] -/
theorem Has.drop (h : Has w B A xs) (k size cap : Nat) (hc : xs.length ≤ cap * size) :
  Has w B (if cap = k then A else A.map (·.add (k * size))) (xs.drop (k * size)) := fun j u hu => by
 rw [List.getElem?_drop] at hu; have hl : k * size + j < xs.length := by
  rcases Nat.lt_or_ge (k * size + j) xs.length with hlt | hge
  ·exact hlt
  ·rw [List.getElem?_eq_none hge] at hu; cases hu
 obtain ⟨b, o, rfl, hb, hcell⟩ := h _ u hu; have hne : cap ≠ k := fun e => by subst e; omega
 rw [if_neg hne]; exact ⟨b, o + k * size, by simp [add_mk], hb, by rw [Nat.add_assoc]; exact hcell⟩
theorem Has.of_own {base : Nat} {e : TypeId} {size n c : Nat} (h : w.ownsRow base e size (.slice A n c) n xs) : Has w w.heap.size A xs := fun j u hu => by
 rcases h.2 with ⟨_, hn⟩ | ⟨g, cap, cur, hv, _, hh, hnc, _, hs, ht⟩
 ·have h1 := h.1; rw [hn, Nat.zero_mul] at h1; rw [List.eq_nil_of_length_eq_zero h1] at hu; simp at hu
 ·injection hv with hA _ hcap; subst hA; have hlt : g < w.heap.size := by
   rcases Nat.lt_or_ge g w.heap.size with hlt | hge
   ·exact hlt
   ·rw [Array.getElem?_eq_none hge] at hh; cases hh
  refine ⟨g, 0, rfl, hlt, ?_⟩; rw [Nat.zero_add]; rw [cell_of_row w g j cur e (0, 0) hh]; rw [← ht, List.getElem?_take] at hu; split at hu
  ·simpa using hu
  ·cases hu
end

/-- a slice value whose elements take the cells xs -/
def Sl (w : World) (B size : Nat) (v : Value) (xs : List Value) : Prop :=
 ∃ A n c, v = .slice A n c ∧ xs.length = n * size ∧ n ≤ c ∧ c ≤ maxLen ∧ n ≤ 140737488355328 ∧ Has w B A xs

/-- slices of bytes in a list -/
def Parts (w : World) (B : Nat) (vs : List Value) (ls : List (List UInt8)) : Prop := vs.length = ls.length ∧ ∀ (i : Nat) (v : Value) (l : List UInt8), vs[i]? = some v → ls[i]? = some l → Sl w B 1 v (us l)
theorem Parts.at_ {w : World} {B : Nat} {vs : List Value} {ls : List (List UInt8)} (h : Parts w B vs ls) {i : Nat} (hi : i < vs.length) : ∃ A c, vs[i] = .slice A (ls[i]'(by have := h.1; omega)).length c ∧ (ls[i]'(by have := h.1; omega)).length ≤ c ∧ c ≤ maxLen ∧ (ls[i]'(by have := h.1; omega)).length ≤ 140737488355328 ∧ Has w B A (us (ls[i]'(by have := h.1; omega))) := by
 have h1 := h.1; obtain ⟨A, n, c, hv, hn, hc, hm, hr, hh⟩ := h.2 i _ _ (List.getElem?_eq_getElem hi) (List.getElem?_eq_getElem (show i < ls.length by omega)); rw [us_length, Nat.mul_one] at hn; subst hn; exact ⟨A, c, hv, hc, hm, hr, hh⟩

/-- an append from whatever source -/
theorem run_append_has {P : Program} (w : World) (base : Nat) (t ty e : TypeId) (i : TypeInfo) (z : Value) (size bytes : Nat) (ht : P.underlying t = some (.slice e)) (hi : P.info? e = some i) (hz : i.zero = some z)
  (hsize : i.size = size) (hby : i.bytes = bytes) (hzs : z.cells.size = size) (hsz : 0 < size)
  (v : Value) (n : Nat) (xs : List Value) (hown : w.ownsRow base e size v n xs)
  (B : Nat) (A : Option Addr) (m c : Nat) (news : List Value) (hl : news.length = m * size) (hr : Has w B A news) (h1 : ∀ u ∈ news, u.oneCell' = true)
  (h63 : n + m ≤ maxLen) (hbytes : (n + m) * bytes ≤ 140737488355328) (hbase : base ≤ w.heap.size) :
  ∃ v' w', (Builtin.append_ #[t, t] ty #[v, .slice A m c]).run P w = .ok v' w' ∧ w'.ownsRow base e size v' (n + m) (xs ++ news) ∧ w.grownBy w' v.ownBlock ∧
   (v'.ownBlock = v.ownBlock ∨ v'.ownBlock = some w.heap.size) := by
 rcases A with _ | ad
 ·have hm : m = 0 := by
   rcases Nat.eq_zero_or_pos m with h0 | h0
   ·exact h0
   ·have hlen : 0 < news.length := by rw [hl]; exact Nat.mul_pos h0 hsz
    obtain ⟨b, o, h, _⟩ := hr.at_ hlen; cases h
  subst hm; have hn : news = [] := List.eq_nil_of_length_eq_zero (by simpa using hl); subst hn; refine ⟨v, w, ?_, by simpa using hown, World.grownBy.refl w _, .inl rfl⟩
  rcases hown.2 with ⟨rfl, rfl⟩ | ⟨g, cap, cur, rfl, _, _, hnc, _⟩
  ·simp [Builtin.append_, run_underlying ht, sizeOf, typeInfo, hi, Builtin.lenOf, Builtin.firstCells]
  ·simp [Builtin.append_, run_underlying ht, sizeOf, typeInfo, hi, Builtin.lenOf, Builtin.firstCells, hnc, storeCells]
 ·have hcells : ∀ j u, news[j]? = some u → w.cell? (ad.add j) = some u := by
   intro j u hu; obtain ⟨b, o, h, _, hc⟩ := hr j u hu; injection h with h; subst h; rw [add_mk]; exact hc
  obtain ⟨v', w', hrun, h2, h3, _, h5⟩ := run_append_own_at (P := P) w base t ty e i z size bytes ht hi hz hsize hby hzs hsz v n xs hown ad m c news hl hcells h1 h63 hbytes hbase; exact ⟨v', w', hrun, h2, h3, h5⟩

theorem wpList_append_has {P : Program} (w : World) {ops : Array Oper} {rest : List Oper} {o : Oper} {a : Act} {Q : Exit → Act → World → Prop} (hgd : o.guard = none) (s x : Operand) (t : TypeId)
  (ho : o.op = .call { callee := .builtin .append, args := #[s, x], argTypes := #[t, t] })
  (base : Nat) (e : TypeId) (i : TypeInfo) (z : Value) (size bytes : Nat) (ht : P.underlying t = some (.slice e)) (hi : P.info? e = some i) (hz : i.zero = some z)
  (hsize : i.size = size) (hby : i.bytes = bytes) (hzs : z.cells.size = size) (hsz : 0 < size)
  (v : Value) (n : Nat) (xs : List Value) (hs : a.eval s = v) (hown : w.ownsRow base e size v n xs)
  (B : Nat) (A : Option Addr) (m c : Nat) (news : List Value) (hx : a.eval x = .slice A m c) (hl : news.length = m * size) (hr : Has w B A news) (h1 : ∀ u ∈ news, u.oneCell' = true)
  (h63 : n + m ≤ maxLen) (hbytes : (n + m) * bytes ≤ 140737488355328) (hbase : base ≤ w.heap.size)
  (h : ∀ v' w', w'.ownsRow base e size v' (n + m) (xs ++ news) → w.grownBy w' v.ownBlock → (v'.ownBlock = v.ownBlock ∨ v'.ownBlock = some w.heap.size) → wpList P ops Q rest (a.put o.dst v') w') : wpList P ops Q (o :: rest) a w := by
 refine wpList_plain hgd fun K hK => ?_
 obtain ⟨v', w', hrun, h2, h3, h4⟩ := run_append_has (P := P) w base t o.type e i z size bytes ht hi hz hsize hby hzs hsz v n xs hown B A m c news hl hr h1 h63 hbytes hbase; unfold Oper.wp execOp; simp only [ho, resolve, invoke, builtin, Sem.run_bind, Sem.run_pure, Result.andThen_ok, List.map_toArray, List.map_cons, List.map_nil, hs, hx, hrun]; exact hK _ _ (h v' w' h2 h3 h4)
end Go.Proofs.Ytngegjboenfmeaa
/- From a reading of the arguments to what the walks ask, and back. -/
namespace Go.Proofs.Ytngegjboenfmeaa
open Go Go.RowKit Go.ChangeShapes Go.WideShapes Go.ChangeAt Go.Deep
set_option linter.unusedVariables false

section
variable {H : Type} {enc : TypeId × Value → H} {P : Program} {w : World}

/-- below the old heap nothing has turned: all arguments read as they did -/
theorem trodAll_stays (hl : laidOutB P = true) {W W' : World} (hb : Below W.heap.size W W') : ∀ {ts : List TypeId} {vs : List Value} {ds : List (DataW H)} {ps : List MemPlace},
  (∀ t ∈ ts, P.readableRec t = true ∧ t < P.types.size) → DataW.TrodAll enc P W 0 (fun _ => true) true ts vs ds ps → DataW.TrodAll enc P W' 0 (fun b => decide (b < W.heap.size)) true ts vs ds ps
 | [], vs, ds, ps, _, h => by
  obtain ⟨rfl, rfl, rfl⟩ := trodAll_nil h; exact trodAll_mk0
 | t :: ts, vs, ds, ps, hr, h => by
  obtain ⟨v0, vs0, d0, ds0, p0, q0, rfl, rfl, rfl, h0, r0⟩ := trodAll_cons h; have lt0 : ∀ x ∈ p0, x.block < W.heap.size := by obtain ⟨m, hm⟩ := h0; exact DataW.trod_lt m _ _ _ hm
  exact trodAll_cons_mk (Below.trod hl (hr t (by simp)).1 (hr t (by simp)).2 h0 hb lt0) (trodAll_stays hl hb (fun x hx => hr x (List.mem_cons_of_mem _ hx)) r0)

theorem has_of_cells {a : Addr} {xs : List Value} (h : ∀ j u, xs[j]? = some u → w.cell? (a.add j) = some u) : Has w w.heap.size (some a) xs := fun j u hu => by
 have h1 := h j u hu; have h0 : ∃ u0, xs[0]? = some u0 := by
  have hl : j < xs.length := by
   rcases Nat.lt_or_ge j xs.length with hlt | hge
   ·exact hlt
   ·rw [List.getElem?_eq_none hge] at hu; cases hu
  exact ⟨xs[0]'(by omega), List.getElem?_eq_getElem (by omega)⟩
 obtain ⟨u0, h0⟩ := h0; have h2 := h 0 u0 h0; obtain ⟨b, o, spot⟩ := a; have hs : spot = none := by simpa [Addr.add] using World.cell?_spot h2
 subst hs; rw [add_mk] at h1; exact ⟨b, o, rfl, World.block_lt_of_cell? w _ h1, h1⟩

/-- numbers in a slice -/
theorem open_nums {t e : TypeId} {k : IntKind} {v : Value} {d : DataW H} {p : List MemPlace} {base fuel bytes : Nat} {held : Bool} (ht : P.underlying t = some (.slice e)) (he : P.underlying e = some (.int k)) (hc : P.cellsOf e = 1) (hby : P.bytesOf e = bytes) (hpos : 1 ≤ bytes)
  (h : DataW.trod enc P w base (fun _ => true) held fuel t [v] = some (d, p)) (hw : ∀ n ∈ d.weights P t, n ≤ reachBytes) :
  ∃ (A : Option Addr) (c : Nat) (zs : List Int), v = .slice A zs.length c ∧ zs.length ≤ c ∧ c ≤ maxLen ∧ zs.length ≤ 140737488355328 ∧ (∀ n ∈ zs, (Lit.int k n).wf = true) ∧ Has w w.heap.size A (zs.map (Value.int k)) := by
 rcases open_ints ht he hc h with ⟨hcs, _⟩ | ⟨a, len, cap, zs, hcs, _, hl, hm, hz, hx, hcell, hwf⟩
 ·refine ⟨none, 0, [], ?_, by simp, by unfold maxLen; omega, by simp, by simp, Has.nil⟩; simpa using hcs
 ·simp only [if_true] at hz; simp only [Prod.mk.injEq] at hx; have hlen : (zs.take len).length = len := by simp; omega
  refine ⟨some a, cap, zs.take len, ?_, by omega, hm, ?_, fun n hn => hwf n (List.mem_of_mem_take hn), has_of_cells fun j u hu => ?_⟩
  ·rw [hlen]; simpa using hcs
  ·rw [hx.1] at hw; have := hw ((zs.take len).length * bytes + (zs.drop len).length * bytes) (by simp [DataW.weights, ht, hby, lits, Nat.add_mul]); have h2 : (zs.take len).length * 1 ≤ (zs.take len).length * bytes := Nat.mul_le_mul_left _ hpos; unfold reachBytes at this; omega
  ·have hj : j < len := by
    rcases Nat.lt_or_ge j len with h' | h'
    ·exact h'
    ·rw [List.getElem?_eq_none (by simp; omega)] at hu; cases hu
   have h1 := hcell j (by omega); rw [h1]; rw [List.getElem?_map, List.getElem?_take, if_pos hj] at hu; rw [List.getD_eq_getElem?_getD]; cases hzj : zs[j]? with
   | none => rw [hzj] at hu; cases hu
   | some z => rw [hzj] at hu; simpa using hu

theorem u8_of_wf {n : Int} (h : (Lit.int .u8 n).wf = true) : 0 ≤ n ∧ n < 256 := by
 have := bounds_u8 h
 omega

/-- bytes in a slice -/
theorem open_bytes {t e : TypeId} {v : Value} {d : DataW H} {p : List MemPlace} {base fuel : Nat} {held : Bool} (ht : P.underlying t = some (.slice e)) (he : P.underlying e = some (.int .u8)) (hc : P.cellsOf e = 1) (hby : P.bytesOf e = 1)
  (h : DataW.trod enc P w base (fun _ => true) held fuel t [v] = some (d, p)) (hw : ∀ n ∈ d.weights P t, n ≤ reachBytes) :
  ∃ (A : Option Addr) (c : Nat) (l : List UInt8), v = .slice A l.length c ∧ l.length ≤ c ∧ c ≤ maxLen ∧ l.length ≤ 140737488355328 ∧ Has w w.heap.size A (us l) := by
 obtain ⟨A, c, zs, hv, h1, h2, h3, hwf, hh⟩ := open_nums ht he hc hby (by omega) h hw; refine ⟨A, c, zs.map fun n => UInt8.ofNat n.toNat, by simpa using hv, by simpa using h1, h2, by simpa using h3, ?_⟩; have e : us (zs.map fun n => UInt8.ofNat n.toNat) = zs.map (Value.int .u8) := by
  unfold us; rw [List.map_map]; apply List.map_congr_left; intro n hn; have := u8_of_wf (hwf n hn); simp only [Function.comp, UInt8.toNat_ofNat', Value.int.injEq, true_and]; omega
 rw [e]; exact hh
/-- the reach, of one argument -/
theorem weights_at {ts : List TypeId} {ds : List (DataW H)} (h : (DataW.weightsEach P ts ds).all (· ≤ reachBytes) = true) (j : Nat) {t : TypeId} {d : DataW H} (ht : ts[j]? = some t) (hd : ds[j]? = some d) : ∀ n ∈ d.weights P t, n ≤ reachBytes :=
 fun n hn => by simpa using List.all_eq_true.1 h n (DataW.weights_mem_each ht hd n hn)
theorem weightsAll_mem {e : TypeId} {d : DataW H} {n : Nat} : ∀ {ds : List (DataW H)}, d ∈ ds → n ∈ d.weights P e → n ∈ DataW.weightsAll P e ds
 | [], h, _ => by simp at h
 | x :: ds, h, hn => by
  simp only [DataW.weightsAll, List.mem_append]
  rcases List.mem_cons.1 h with rfl | h
  ·exact Or.inl hn
  ·exact Or.inr (weightsAll_mem h hn)
/-- a list of things, one for each place -/
theorem choose_list {α : Type} (n : Nat) (p : Nat → α → Prop) (h : ∀ i, i < n → ∃ a, p i a) : ∃ l : List α, l.length = n ∧ ∀ i a, l[i]? = some a → p i a := by
 induction n with
 | zero => exact ⟨[], rfl, fun i a h => by simp at h⟩
 | succ n ih =>
  obtain ⟨l, hl, hp⟩ := ih fun i hi => h i (by omega)
  obtain ⟨a, ha⟩ := h n (by omega); refine ⟨l ++ [a], by simp [hl], fun i b hb => ?_⟩
  rcases Nat.lt_or_ge i l.length with hi | hi
  ·exact hp i b (by rwa [List.getElem?_append_left hi] at hb)
  ·rw [List.getElem?_append_right hi] at hb; have : i - l.length = 0 := by
    rcases Nat.eq_zero_or_pos (i - l.length) with h0 | h0
    ·exact h0
    ·rw [List.getElem?_eq_none (by simp; omega)] at hb; cases hb
   rw [this] at hb; simp at hb; subst hb; obtain rfl : i = n := by omega
   exact ha
end
end Go.Proofs.Ytngegjboenfmeaa
/- Things in memory, each on blocks of its own: what is done to one leaves the others. No program in sight. -/
namespace Go.Proofs.Ytngegjboenfmeaa
open Go Go.RowKit
set_option linter.unusedVariables false

/-- a thing in memory, and its blocks -/
abbrev SP := World → (Nat → Prop) → Prop
/-- it hangs on its own blocks alone -/
structure Loc (P : SP) : Prop where
 keep : ∀ {w w' : World} {F : Nat → Prop}, P w F → (∀ k, F k → w'.heap[k]? = w.heap[k]?) → P w' F
 lt : ∀ {w : World} {F : Nat → Prop}, P w F → ∀ k, F k → k < w.heap.size

/-- things that lie apart, all from w0 on; what was there in w0 is as it was -/
def Sep (w0 w : World) (Ps : List SP) : Prop :=
 Below w0.heap.size w0 w ∧ ∃ Fs : List (Nat → Prop), Fs.length = Ps.length ∧
  (∀ (i : Nat) (P : SP) (F : Nat → Prop), Ps[i]? = some P → Fs[i]? = some F → P w F ∧ Loc P ∧ ∀ k, F k → w0.heap.size ≤ k) ∧
  (∀ (i j : Nat) (F G : Nat → Prop), i ≠ j → Fs[i]? = some F → Fs[j]? = some G → ∀ k, F k → ¬ G k)

/-- only the blocks F, and new ones, have turned; what lies in F' lay in F or is new -/
structure Upd (w w' : World) (F F' : Nat → Prop) : Prop where
 os : w'.os = w.os
 tape : w'.tape = w.tape
 output : w'.output = w.output
 size : w.heap.size ≤ w'.heap.size
 block : ∀ k, k < w.heap.size → ¬ F k → w'.heap[k]? = w.heap[k]?
 new : ∀ k, F' k → F k ∨ w.heap.size ≤ k

section
variable {w0 w w' : World} {Ps : List SP}
theorem Sep.bel (h : Sep w0 w Ps) : Below w0.heap.size w0 w := h.1
theorem Sep.size (h : Sep w0 w Ps) : w0.heap.size ≤ w.heap.size := h.1.size
theorem Sep.nil (w0 : World) : Sep w0 w0 [] := ⟨Below.refl _ _, [], rfl, fun i P F h => by simp at h, fun i j F G _ h => by simp at h⟩
theorem Sep.start (h : Below w0.heap.size w0 w) : Sep w0 w [] := ⟨h, [], rfl, fun i P F h => by simp at h, fun i j F G _ h => by simp at h⟩
theorem Sep.has (h : Sep w0 w Ps) {A : Option Addr} {xs : List Value} (hA : Has w0 w0.heap.size A xs) : Has w w0.heap.size A xs := hA.below h.1
theorem Sep.get {i : Nat} {P : SP} (h : Sep w0 w Ps) (hi : Ps[i]? = some P) : ∃ F, P w F := by
 obtain ⟨_, Fs, hl, h1, _⟩ := h; have hlt := (List.getElem?_eq_some_iff.1 hi).1; exact ⟨_, (h1 i P (Fs[i]'(by omega)) hi (List.getElem?_eq_getElem (by omega))).1⟩

theorem Sep.grow (h : Sep w0 w Ps) (hb : Below w.heap.size w w') : Sep w0 w' Ps := by
 obtain ⟨hB, Fs, hl, h1, h2⟩ := h; refine ⟨hB.trans (hb.mono hB.size), Fs, hl, fun i P F hP hF => ?_, h2⟩; obtain ⟨a, b, c⟩ := h1 i P F hP hF; exact ⟨b.keep a fun k hk => hb.block k (b.lt a k hk), b, c⟩

theorem Sep.upd {i : Nat} {P : SP} (h : Sep w0 w Ps) (hi : Ps[i]? = some P) :
  ∃ F, P w F ∧ Loc P ∧ (∀ k, F k → w0.heap.size ≤ k ∧ k < w.heap.size) ∧ ∀ (w' : World) (P' : SP) (F' : Nat → Prop), Upd w w' F F' → P' w' F' → Loc P' → Sep w0 w' (Ps.set i P') := by
 obtain ⟨hB, Fs, hl, h1, h2⟩ := h; have hlt := (List.getElem?_eq_some_iff.1 hi).1; have hF : Fs[i]? = some (Fs[i]'(by omega)) := List.getElem?_eq_getElem (by omega); generalize Fs[i]'(by omega) = F at hF; obtain ⟨a, b, c⟩ := h1 i P F hi hF; have hlt2 : ∀ k, F k → w0.heap.size ≤ k ∧ k < w.heap.size := fun k hk => ⟨c k hk, b.lt a k hk⟩
 refine ⟨F, a, b, hlt2, fun w' P' F' hu hP' hL' => ?_⟩; refine ⟨?_, Fs.set i F', by simp [hl], fun j Q G hQ hG => ?_, fun j k G G' hjk hG hG' m hm hm' => ?_⟩
 ·exact hB.trans ⟨hu.os, hu.tape, hu.output, hu.size, fun k hk => hu.block k (by have := hB.size; omega) (fun hf => by have := (hlt2 k hf).1; omega)⟩
 ·by_cases e : i = j
  ·subst e; rw [List.getElem?_set_self (by omega)] at hQ hG; cases hQ; cases hG; exact ⟨hP', hL', fun k hk => by
    rcases hu.new k hk with h3 | h3
    ·exact c k h3
    ·have := hB.size; omega⟩
  ·rw [List.getElem?_set_ne e] at hQ hG; obtain ⟨a', b', c'⟩ := h1 j Q G hQ hG; exact ⟨b'.keep a' fun k hk => hu.block k (b'.lt a' k hk) (fun hf => h2 i j F G e hF hG k hf hk), b', c'⟩
 ·by_cases e : i = j
  ·subst e; rw [List.getElem?_set_self (by omega)] at hG; cases hG; rw [List.getElem?_set_ne hjk] at hG'; have hl3 := (List.getElem?_eq_some_iff.1 hG').1; obtain ⟨a', b', c'⟩ := h1 k (Ps[k]'(by omega)) G' (List.getElem?_eq_getElem (by omega)) hG'
   rcases hu.new m hm with h3 | h3
   ·exact h2 i k F G' hjk hF hG' m h3 hm'
   ·have := b'.lt a' m hm'; omega
  ·rw [List.getElem?_set_ne e] at hG
   by_cases e2 : i = k
   ·subst e2; rw [List.getElem?_set_self (by omega)] at hG'; cases hG'; have hl3 := (List.getElem?_eq_some_iff.1 hG).1; obtain ⟨a', b', c'⟩ := h1 j (Ps[j]'(by omega)) G (List.getElem?_eq_getElem (by omega)) hG
    rcases hu.new m hm' with h3 | h3
    ·exact h2 i j F G e hF hG m h3 hm
    ·have := b'.lt a' m hm; omega
   ·rw [List.getElem?_set_ne e2] at hG'; exact h2 j k G G' hjk hG hG' m hm hm'

theorem Sep.add {P : SP} {F : Nat → Prop} (h : Sep w0 w Ps) (hb : Below w.heap.size w w') (hP : P w' F) (hL : Loc P) (hF : ∀ k, F k → w.heap.size ≤ k) : Sep w0 w' (Ps ++ [P]) := by
 have hsz := h.size; have hlt : ∀ (i : Nat) (P : SP) (G : Nat → Prop), P w G ∧ Loc P ∧ (∀ k, G k → w0.heap.size ≤ k) → ∀ k, G k → k < w.heap.size := fun i P G ⟨a, b, _⟩ => b.lt a
 obtain ⟨hB, Fs, hl, h1, h2⟩ := h; refine ⟨hB.trans (hb.mono hB.size), Fs ++ [F], by simp [hl], fun i Q G hQ hG => ?_, fun i j G G' hij hG hG' k hk hk' => ?_⟩
 ·rcases Nat.lt_or_ge i Ps.length with e | e
  ·rw [List.getElem?_append_left e] at hQ; rw [List.getElem?_append_left (by omega)] at hG; obtain ⟨a, b, c⟩ := h1 i Q G hQ hG; exact ⟨b.keep a fun k hk => hb.block k (b.lt a k hk), b, c⟩
  ·rw [List.getElem?_append_right e] at hQ; rw [List.getElem?_append_right (by omega), hl] at hG
   rcases hn : i - Ps.length with _ | n
   ·rw [hn] at hQ hG; cases hQ; cases hG; exact ⟨hP, hL, fun k hk => by have := hF k hk; omega⟩
   ·rw [hn] at hQ; simp at hQ
 ·have old : ∀ (i : Nat) (G : Nat → Prop), i < Fs.length → (Fs ++ [F])[i]? = some G → Fs[i]? = some G ∧ ∀ k, G k → k < w.heap.size := fun i G hi hG => by
   rw [List.getElem?_append_left hi] at hG; exact ⟨hG, hlt i _ G (h1 i (Ps[i]'(by omega)) G (List.getElem?_eq_getElem (by omega)) hG)⟩
  have new : ∀ (i : Nat) (G : Nat → Prop), ¬ i < Fs.length → (Fs ++ [F])[i]? = some G → i = Fs.length ∧ G = F := fun i G hi hG => by
   rw [List.getElem?_append_right (by omega)] at hG
   rcases hn : i - Fs.length with _ | n
   ·rw [hn] at hG; cases hG; exact ⟨by omega, rfl⟩
   ·rw [hn] at hG; simp at hG
  by_cases hi : i < Fs.length
  ·obtain ⟨hG1, hG2⟩ := old i G hi hG
   by_cases hj : j < Fs.length
   ·exact h2 i j G G' hij hG1 (old j G' hj hG').1 k hk hk'
   ·obtain ⟨_, rfl⟩ := new j G' hj hG'; have := hG2 k hk; have := hF k hk'; omega
  ·obtain ⟨ei, rfl⟩ := new i G hi hG
   by_cases hj : j < Fs.length
   ·have := (old j G' hj hG').2 k hk'
    have := hF k hk
    omega
   ·obtain ⟨ej, _⟩ := new j G' hj hG'; omega

/-- things are let go -/
theorem Sep.drop (h : Sep w0 w Ps) (n : Nat) : Sep w0 w (Ps.eraseIdx n) := by
 obtain ⟨hB, Fs, hl, h1, h2⟩ := h; refine ⟨hB, Fs.eraseIdx n, by rw [List.length_eraseIdx, List.length_eraseIdx, hl], fun i P F hP hF => ?_, fun i j F G hij hF hG => ?_⟩
 ·rw [List.getElem?_eraseIdx] at hP hF; split at hP
  ·rename_i h3
   rw [if_pos h3] at hF; exact h1 _ P F hP hF
  ·rename_i h3
   rw [if_neg h3] at hF; exact h1 _ P F hP hF
 ·rw [List.getElem?_eraseIdx] at hF hG; split at hF <;> split at hG
  ·exact h2 _ _ F G hij hF hG
  ·exact h2 _ _ F G (by omega) hF hG
  ·exact h2 _ _ F G (by omega) hF hG
  ·exact h2 _ _ F G (by omega) hF hG
/-- a thing is told otherwise -/
theorem Sep.turn {i : Nat} {P P' : SP} (h : Sep w0 w Ps) (hi : Ps[i]? = some P) (hP : ∀ F, P w F → P' w F) (hL : Loc P') : Sep w0 w (Ps.set i P') := by
 obtain ⟨F, a, b, c, k⟩ := h.upd hi; exact k w P' F ⟨rfl, rfl, rfl, Nat.le_refl _, fun _ _ _ => rfl, fun k hk => .inl hk⟩ (hP F a) hL
/-- two things as one -/
def Both (P Q : SP) : SP := fun w F => ∃ F1 F2 : Nat → Prop, P w F1 ∧ Q w F2 ∧ (∀ k, F1 k → ¬ F2 k) ∧ ∀ k, F k ↔ (F1 k ∨ F2 k)
theorem Both.loc {P Q : SP} (h1 : Loc P) (h2 : Loc Q) : Loc (Both P Q) where
 keep := by
  rintro w w' F ⟨F1, F2, a, b, c, d⟩ hk; exact ⟨F1, F2, h1.keep a fun k h => hk k ((d k).2 (.inl h)), h2.keep b fun k h => hk k ((d k).2 (.inr h)), c, d⟩
 lt := by
  rintro w F ⟨F1, F2, a, b, c, d⟩ k hk
  rcases (d k).1 hk with h | h
  ·exact h1.lt a k h
  ·exact h2.lt b k h
theorem Sep.split {i : Nat} {P Q : SP} (h : Sep w0 w Ps) (hi : Ps[i]? = some (Both P Q)) (hP : Loc P) (hQ : Loc Q) : Sep w0 w (Ps.set i P ++ [Q]) := by
 obtain ⟨hB, Fs, hl, h1, h2⟩ := h; have hlt := (List.getElem?_eq_some_iff.1 hi).1; have hF : Fs[i]? = some (Fs[i]'(by omega)) := List.getElem?_eq_getElem (by omega); generalize Fs[i]'(by omega) = F at hF; obtain ⟨⟨F1, F2, a, b, c, d⟩, _, e⟩ := h1 i _ F hi hF; have key : ∀ (j : Nat) (G : Nat → Prop), (Fs.set i F1 ++ [F2])[j]? = some G → (j = i ∧ G = F1) ∨ (j = Fs.length ∧ G = F2) ∨ (j ≠ i ∧ j < Fs.length ∧ Fs[j]? = some G) := by
  intro j G hG
  rcases Nat.lt_or_ge j Fs.length with hj | hj
  ·rw [List.getElem?_append_left (by simpa using hj)] at hG
   by_cases hij : i = j
   ·subst hij; rw [List.getElem?_set_self hj] at hG; cases hG; exact .inl ⟨rfl, rfl⟩
   ·rw [List.getElem?_set_ne hij] at hG; exact .inr (.inr ⟨Ne.symm hij, hj, hG⟩)
  ·rw [List.getElem?_append_right (by simpa using hj)] at hG
   rcases hn : j - (Fs.set i F1).length with _ | n
   ·rw [hn] at hG; cases hG; simp at hn; exact .inr (.inl ⟨by omega, rfl⟩)
   ·rw [hn] at hG; simp at hG
 refine ⟨hB, Fs.set i F1 ++ [F2], by simp [hl], fun j R G hR hG => ?_, fun j k G G' hjk hG hG' m hm hm' => ?_⟩
 ·rcases key j G hG with ⟨rfl, rfl⟩ | ⟨rfl, rfl⟩ | ⟨hj, hj2, hG2⟩
  ·rw [List.getElem?_append_left (by simpa using hlt), List.getElem?_set_self hlt] at hR; cases hR; exact ⟨a, hP, fun k hk => e k ((d k).2 (.inl hk))⟩
  ·rw [List.getElem?_append_right (by simp [hl])] at hR; simp [hl] at hR; subst hR; exact ⟨b, hQ, fun k hk => e k ((d k).2 (.inr hk))⟩
  ·rw [List.getElem?_append_left (by simp; omega), List.getElem?_set_ne (Ne.symm hj)] at hR; exact h1 j R G hR hG2
 ·rcases key j G hG with ⟨rfl, rfl⟩ | ⟨rfl, rfl⟩ | ⟨hj, hj2, hG2⟩ <;> rcases key k G' hG' with ⟨rfl, rfl⟩ | ⟨rfl, rfl⟩ | ⟨hk, hk2, hG3⟩
  ·exact hjk rfl
  ·exact c m hm hm'
  ·exact h2 _ k F G' hjk hF hG3 m ((d m).2 (.inl hm)) hm'
  ·exact c m hm' hm
  ·exact hjk rfl
  ·exact h2 i k F G' (Ne.symm hk) hF hG3 m ((d m).2 (.inr hm)) hm'
  ·exact h2 j _ G F hjk hG2 hF m hm ((d m).2 (.inl hm'))
  ·exact h2 j i G F hj hG2 hF m hm ((d m).2 (.inr hm'))
  ·exact h2 j k G G' hjk hG2 hG3 m hm hm'
theorem Sep.drew (h : Sep w0 w Ps) : Sep w0 w.drew Ps := h.grow (Below.refl _ _).drew
theorem Sep.alloc (h : Sep w0 w Ps) (o : Obj) : Sep w0 (w.alloc o) Ps := h.grow ((Below.refl _ _).alloc (Nat.le_refl _) _)
end
end Go.Proofs.Ytngegjboenfmeaa
/- Bytes in memory, over this seat's program: rows of the call's own, strings out of them, appends. -/
namespace Go.Proofs.Ytngegjboenfmeaa
open Go Go.RowKit
set_option linter.unusedVariables false

theorem info_u8 : (Try.prog.info? 5).map (fun i => (i.zero, i.size, i.bytes)) = some (some (.int .u8 0), 1, 1) := by kernel_rfl

/-- a row of bytes of the call's own -/
def Own (w : World) (base : Nat) (v : Value) (l : List UInt8) : Prop := w.ownsRow base 5 1 v l.length (us l)
theorem Own.nil (w : World) (base : Nat) : Own w base (.slice none 0 0) [] := World.ownsRow_nil w base _ 1
theorem Own.form {w : World} {base : Nat} {v : Value} {l : List UInt8} (h : Own w base v l) : ∃ A c, v = .slice A l.length c ∧ l.length ≤ c ∧ c ≤ maxLen ∧ Has w w.heap.size A (us l) := by
 have h0 := h
 rcases h.2 with ⟨rfl, hn⟩ | ⟨g, cap, cur, rfl, _, _, hnc, hm, _⟩
 ·refine ⟨none, 0, by rw [hn], by omega, by unfold maxLen; omega, ?_⟩; rw [List.eq_nil_of_length_eq_zero hn]; exact Has.nil
 ·exact ⟨_, cap, rfl, hnc, hm, Has.of_own h0⟩

/-- a slice of bytes as a string -/
theorem run_str {w : World} {B : Nat} {A : Option Addr} {c : Nat} {l : List UInt8} (h : Has w B A (us l)) :
  (convert 47 9 (.slice A l.length c)).run Try.prog w = .ok (.string ⟨l.toArray⟩) w := by
 rcases A with _ | a
 ·have hl : l = [] := by
   cases l with
   | nil => rfl
   | cons x l =>
    obtain ⟨b, o, h, _⟩ := h.at_ (show 0 < (us (x :: l)).length by simp [us]); cases h
  subst hl; exact run_convert_bytes_nil w 47 5 Try.underlying47 Try.underlying5 _ _ _ Try.underlying9
 ·rw [run_convert_bytes_string w 47 9 5 _ _ _ Try.underlying47 Try.underlying5 Try.underlying9]; have hc : (loadCells a l.length).run Try.prog w = .ok ((l.map fun b => ((b.toNat : Nat) : Int)).map (Value.int .u8)).toArray w := by
   have := run_loadCells_list (P := Try.prog) w a (us l) (fun j v hj => by
    obtain ⟨b, o, hA, _, hcell⟩ := h j v hj; injection hA with hA; subst hA; rw [add_mk]; exact hcell)
   rw [us_length] at this; rw [this]; simp [us]
  rw [run_bytesToString w a l.length c _ hc, foldl_push_bytes]; congr 3; have : ((fun n : Int => UInt8.ofNat n.toNat) ∘ fun b : UInt8 => ((b.toNat : Nat) : Int)) = id := by
   funext b; simp
  simp [this]

/-- append onto a row of bytes of the call's own -/
theorem wp_app {w : World} {ops : Array Oper} {rest : List Oper} {o : Oper} {a : Act} {Q : Exit → Act → World → Prop} {s x : Operand} {base B c : Nat} {v : Value} {A : Option Addr} {l m : List UInt8} (hgd : o.guard = none)
  (ho : o.op = .call { callee := .builtin .append, args := #[s, x], argTypes := #[47, 47] }) (hs : a.eval s = v) (hx : a.eval x = .slice A m.length c)
  (hown : Own w base v l) (hr : Has w B A (us m)) (hlen : l.length + m.length ≤ 100000000000000) (hbase : base ≤ w.heap.size)
  (h : ∀ v' w', Own w' base v' (l ++ m) → Below base w w' → w.grownBy w' v.ownBlock → (v'.ownBlock = v.ownBlock ∨ v'.ownBlock = some w.heap.size) → wpList Try.prog ops Q rest (a.put o.dst v') w') : wpList Try.prog ops Q (o :: rest) a w := by
 obtain ⟨i0, hi, hz0, hz1, hz2⟩ := info_parts info_u8; refine wpList_append_has w hgd s x _ ho base 5 i0 _ 1 1 Try.underlying47 hi hz0 hz1 hz2 rfl (by omega) v l.length (us l) hs hown B A m.length c (us m) hx (by rw [us_length, Nat.mul_one]) hr (us_one m) (by unfold maxLen; omega) (by omega) hbase ?_; intro v' w' h1 h2 h3; refine h v' w' (by unfold Own; rw [List.length_append, us_append]; exact h1) ((Below.refl _ _).grown h2 hbase (fun k hk => (hown.lt k hk).1)) h2 h3
/-- an empty literal is a row of the call's own -/
theorem own_empty (w : World) : Own (w.alloc (.cells #[] 5)) w.heap.size (.slice (some ⟨w.heap.size, 0, none⟩) 0 0) [] := World.ownsRow_made w #[] 0 (Nat.le_refl _) (by unfold maxLen; omega) rfl


theorem has_new (w : World) (cs : Array Value) (t : TypeId) (fr : Nat × Nat := (0, 0)) : Has (w.alloc (.cells cs t fr)) (w.heap.size + 1) (some ⟨w.heap.size, 0, none⟩) cs.toList := fun j u hu =>
 ⟨w.heap.size, 0, rfl, by omega, by rw [Nat.zero_add, cell_of_row _ _ j cs t fr (heap_alloc_new w _)]; simpa using hu⟩
theorem le_alloc {w : World} {n : Nat} (h : n ≤ w.heap.size) (o : Obj) : n ≤ (w.alloc o).heap.size := by simp; omega
theorem Sl.mk' {w : World} {B c : Nat} {A : Option Addr} {l : List UInt8} (h : Has w B A (us l)) (h1 : l.length ≤ c) (h2 : c ≤ maxLen) (h3 : l.length ≤ 140737488355328) : Sl w B 1 (.slice A l.length c) (us l) := ⟨A, l.length, c, rfl, by rw [us_length, Nat.mul_one], h1, h2, h3, h⟩
theorem Parts.nil {w : World} {B : Nat} : Parts w B [] [] := ⟨rfl, fun i v m hv => by simp at hv⟩
theorem Parts.cons {w : World} {B : Nat} {v : Value} {l : List UInt8} {vs : List Value} {ls : List (List UInt8)} (h : Sl w B 1 v (us l)) (hs : Parts w B vs ls) : Parts w B (v :: vs) (l :: ls) :=
 ⟨by simp [hs.1], fun i u m hu hm => by
  rcases i with _ | i
  ·simp at hu hm; subst hu hm; exact h
  ·exact hs.2 i u m (by simpa using hu) (by simpa using hm)⟩
theorem Parts.one {w : World} {B c : Nat} {A : Option Addr} {l : List UInt8} (h : Has w B A (us l)) (h1 : l.length ≤ c) (h2 : c ≤ maxLen) (h3 : l.length ≤ 140737488355328) : Parts w B [.slice A l.length c] [l] :=
 ⟨rfl, fun i v m hv hm => by
  rcases i with _ | i
  ·simp at hv hm; subst hv hm; exact Sl.mk' h h1 h2 h3
  ·simp at hv⟩

theorem own_mono {w : World} {b b' : Nat} {v : Value} {l : List UInt8} (h : Own w b v l) (hb : b' ≤ b) : Own w b' v l := by
 refine ⟨h.1, ?_⟩
 rcases h.2 with h0 | ⟨g, cap, cur, h1, h2, h3⟩
 ·exact .inl h0
 ·exact .inr ⟨g, cap, cur, h1, Nat.le_trans hb h2, h3⟩

/-- a byte of a row of the call's own: it is read, and written -/
theorem Own.at_ {w : World} {base n c : Nat} {A : Option Addr} {l : List UInt8} {k : Nat} (h : Own w base (.slice A n c) l) (hk : k < l.length) :
  ∃ g, A = some ⟨g, 0, none⟩ ∧ base ≤ g ∧ g < w.heap.size ∧ w.cell? ⟨g, k, none⟩ = some (.int .u8 ((l[k]).toNat : Int)) ∧ w.frozen? ⟨g, k, none⟩ = false ∧
   ∀ b : UInt8, Own (w.setCell ⟨g, k, none⟩ (.int .u8 (b.toNat : Int))) base (.slice A n c) (l.set k b) := by
 have h0 := h
 rcases h.2 with ⟨_, hn⟩ | ⟨g, cap, cur, hv, hb, hh, hnc, hm, hs, ht⟩
 ·omega
 ·injection hv with hA hn hc; subst hA hn hc; have hlt : g < w.heap.size := by
   rcases Nat.lt_or_ge g w.heap.size with hlt | hge
   ·exact hlt
   ·rw [Array.getElem?_eq_none hge] at hh; cases hh
  refine ⟨g, rfl, hb, hlt, ?_, ?_, ?_⟩
  ·rw [h0.cellAt k (by omega), us_at hk]
  ·exact h0.frozenAt k
  ·intro b; have := h0.stored k (.int .u8 (b.toNat : Int)); unfold Own; rw [List.length_set]; have e : us (l.set k b) = (us l).set k (.int .u8 (b.toNat : Int)) := by simp [us]
   rw [e]; exact this.1


theorem own_below {w w' : World} {base B : Nat} {v : Value} {l : List UInt8} (h : Own w base v l) (hb : Below B w w') (hB : w.heap.size ≤ B) : Own w' base v l := by
 refine ⟨h.1, ?_⟩
 rcases h.2 with h0 | ⟨g, cap, cur, h1, h2, h3, h4⟩
 ·exact .inl h0
 ·refine .inr ⟨g, cap, cur, h1, h2, ?_, h4⟩; have hlt : g < w.heap.size := by
   rcases Nat.lt_or_ge g w.heap.size with hlt | hge
   ·exact hlt
   ·rw [Array.getElem?_eq_none hge] at h3; cases h3
  rw [hb.block g (by omega)]; exact h3

theorem Parts.below {w w' : World} {B : Nat} {vs : List Value} {ls : List (List UInt8)} (h : Parts w B vs ls) (hb : Below B w w') : Parts w' B vs ls :=
 ⟨h.1, fun i v l hv hl => by
  obtain ⟨A, n, c, h1, h2, h3, h4, h5, h6⟩ := h.2 i v l hv hl; exact ⟨A, n, c, h1, h2, h3, h4, h5, h6.below hb⟩⟩
end Go.Proofs.Ytngegjboenfmeaa
/- A block of cells as a thing that lies apart. No program in sight. -/
namespace Go.Proofs.Ytngegjboenfmeaa
open Go Go.RowKit
set_option linter.unusedVariables false

/-- a block of cells of one's own -/
def Ce (g : Nat) (t : TypeId) (vs : Array Value) : SP := fun w F => w.heap[g]? = some (.cells vs t (0, 0)) ∧ ∀ k, F k ↔ k = g
theorem lt_of_heap {w : World} {g : Nat} {o : Obj} (h : w.heap[g]? = some o) : g < w.heap.size := by
 rcases Nat.lt_or_ge g w.heap.size with hlt | hge
 ·exact hlt
 ·rw [Array.getElem?_eq_none hge] at h; cases h
theorem Ce.loc (g : Nat) (t : TypeId) (vs : Array Value) : Loc (Ce g t vs) where
 keep := by
  rintro w w' F ⟨h, hF⟩ hk; exact ⟨(hk g ((hF g).2 rfl)).trans h, hF⟩
 lt := by
  rintro w F ⟨h, hF⟩ k hk; rw [(hF k).1 hk]; exact lt_of_heap h
section
variable {w0 w : World} {Ps : List SP}
theorem sep_ce (h : Sep w0 w Ps) (vs : Array Value) (t : TypeId) : Sep w0 (w.alloc (.cells vs t)) (Ps ++ [Ce w.heap.size t vs]) :=
 h.add (F := fun k => k = w.heap.size) ((Below.refl _ _).alloc (Nat.le_refl _) _) ⟨heap_alloc_new w _, fun k => Iff.rfl⟩ (Ce.loc _ _ _) (fun k hk => by omega)
theorem cH {i g : Nat} {t : TypeId} {vs : Array Value} (h : Sep w0 w Ps) (hi : Ps[i]? = some (Ce g t vs)) : w.heap[g]? = some (.cells vs t (0, 0)) := by
 obtain ⟨F, h⟩ := h.get hi; exact h.1
theorem cA {i g : Nat} {t : TypeId} {vs : Array Value} (h : Sep w0 w Ps) (hi : Ps[i]? = some (Ce g t vs)) (j : Nat) {v : Value} (hv : vs[j]? = some v) : w.cell? ⟨g, j, none⟩ = some v := by
 rw [cell_of_row w g j _ _ _ (cH h hi)]; exact hv
theorem cFz {i g : Nat} {t : TypeId} {vs : Array Value} (h : Sep w0 w Ps) (hi : Ps[i]? = some (Ce g t vs)) (j : Nat) : w.frozen? ⟨g, j, none⟩ = false := by
 simp [World.frozen?, cH h hi]
theorem cS {i g : Nat} {t : TypeId} {vs : Array Value} (h : Sep w0 w Ps) (hi : Ps[i]? = some (Ce g t vs)) (j : Nat) (v : Value) : Sep w0 (w.setCell ⟨g, j, none⟩ v) (Ps.set i (Ce g t (vs.setIfInBounds j v))) := by
 obtain ⟨F, ⟨h1, hF⟩, hL, hlt, hk⟩ := h.upd hi; refine hk _ _ (fun k => k = g) ⟨rfl, rfl, rfl, by simp [World.setCell], fun k _ hnF => Below.heap_setCell w _ _ k (fun e => hnF ((hF k).2 e)), fun k hk => .inl ((hF k).2 hk)⟩ ⟨?_, fun k => Iff.rfl⟩ (Ce.loc _ _ _); simp [World.setCell, Array.getElem?_modify, h1]
theorem sep_ceLt {i g : Nat} {t : TypeId} {vs : Array Value} (h : Sep w0 w Ps) (hi : Ps[i]? = some (Ce g t vs)) : g < w.heap.size := lt_of_heap (cH h hi)
theorem sep_ceSet' {i g : Nat} {t : TypeId} {vs : Array Value} (h : Sep w0 w Ps) (hi : Ps[i]? = some (Ce g t vs)) (j : Nat) (v : Value) : ∃ vs', Sep w0 (w.setCell ⟨g, j, none⟩ v) (Ps.set i (Ce g t vs')) ∧ (Ps.set i (Ce g t vs'))[i]? = some (Ce g t vs') :=
 ⟨_, cS h hi j v, List.getElem?_set_self (List.getElem?_eq_some_iff.1 hi).1⟩
/-- ten cells are written -/
theorem sep_put10 {i g : Nat} {t : TypeId} {vs : Array Value} (h : Sep w0 w Ps) (hi : Ps[i]? = some (Ce g t vs)) (a0 a1 a2 a3 a4 a5 a6 a7 a8 a9 : Value) :
  ∃ vs', Sep w0 ((((((((((w.setCell ⟨g, 0, none⟩ a0).setCell ⟨g, 1, none⟩ a1).setCell ⟨g, 2, none⟩ a2).setCell ⟨g, 3, none⟩ a3).setCell ⟨g, 4, none⟩ a4).setCell ⟨g, 5, none⟩ a5).setCell ⟨g, 6, none⟩ a6).setCell ⟨g, 7, none⟩ a7).setCell ⟨g, 8, none⟩ a8).setCell ⟨g, 9, none⟩ a9) (Ps.set i (Ce g t vs')) := by
 obtain ⟨_, h, hi⟩ := sep_ceSet' h hi 0 a0; obtain ⟨_, h, hi⟩ := sep_ceSet' h hi 1 a1; obtain ⟨_, h, hi⟩ := sep_ceSet' h hi 2 a2; obtain ⟨_, h, hi⟩ := sep_ceSet' h hi 3 a3; obtain ⟨_, h, hi⟩ := sep_ceSet' h hi 4 a4; obtain ⟨_, h, hi⟩ := sep_ceSet' h hi 5 a5; obtain ⟨_, h, hi⟩ := sep_ceSet' h hi 6 a6; obtain ⟨_, h, hi⟩ := sep_ceSet' h hi 7 a7; obtain ⟨_, h, hi⟩ := sep_ceSet' h hi 8 a8; obtain ⟨vs', h, hi⟩ := sep_ceSet' h hi 9 a9; simp only [List.set_set] at h; exact ⟨vs', h⟩
/-- ten cells are written, and these they are -/
theorem sep_put10c {i g : Nat} {t : TypeId} {v0 v1 v2 v3 v4 v5 v6 v7 v8 v9 : Value} (h : Sep w0 w Ps) (hi : Ps[i]? = some (Ce g t #[v0, v1, v2, v3, v4, v5, v6, v7, v8, v9])) (a0 a1 a2 a3 a4 a5 a6 a7 a8 a9 : Value) :
  Sep w0 ((((((((((w.setCell ⟨g, 0, none⟩ a0).setCell ⟨g, 1, none⟩ a1).setCell ⟨g, 2, none⟩ a2).setCell ⟨g, 3, none⟩ a3).setCell ⟨g, 4, none⟩ a4).setCell ⟨g, 5, none⟩ a5).setCell ⟨g, 6, none⟩ a6).setCell ⟨g, 7, none⟩ a7).setCell ⟨g, 8, none⟩ a8).setCell ⟨g, 9, none⟩ a9) (Ps.set i (Ce g t #[a0, a1, a2, a3, a4, a5, a6, a7, a8, a9])) := by
 have hs : ∀ vs : Array Value, (Ps.set i (Ce g t vs))[i]? = some (Ce g t vs) := fun vs => List.getElem?_set_self (List.getElem?_eq_some_iff.1 hi).1
 have e0 := cS h hi 0 a0; rw [show (#[v0, v1, v2, v3, v4, v5, v6, v7, v8, v9] : Array Value).setIfInBounds 0 a0 = #[a0, v1, v2, v3, v4, v5, v6, v7, v8, v9] from rfl] at e0; have e1 := cS e0 (hs _) 1 a1; rw [List.set_set, show (#[a0, v1, v2, v3, v4, v5, v6, v7, v8, v9] : Array Value).setIfInBounds 1 a1 = #[a0, a1, v2, v3, v4, v5, v6, v7, v8, v9] from rfl] at e1; have e2 := cS e1 (hs _) 2 a2; rw [List.set_set, show (#[a0, a1, v2, v3, v4, v5, v6, v7, v8, v9] : Array Value).setIfInBounds 2 a2 = #[a0, a1, a2, v3, v4, v5, v6, v7, v8, v9] from rfl] at e2; have e3 := cS e2 (hs _) 3 a3; rw [List.set_set, show (#[a0, a1, a2, v3, v4, v5, v6, v7, v8, v9] : Array Value).setIfInBounds 3 a3 = #[a0, a1, a2, a3, v4, v5, v6, v7, v8, v9] from rfl] at e3; have e4 := cS e3 (hs _) 4 a4; rw [List.set_set, show (#[a0, a1, a2, a3, v4, v5, v6, v7, v8, v9] : Array Value).setIfInBounds 4 a4 = #[a0, a1, a2, a3, a4, v5, v6, v7, v8, v9] from rfl] at e4; have e5 := cS e4 (hs _) 5 a5; rw [List.set_set, show (#[a0, a1, a2, a3, a4, v5, v6, v7, v8, v9] : Array Value).setIfInBounds 5 a5 = #[a0, a1, a2, a3, a4, a5, v6, v7, v8, v9] from rfl] at e5; have e6 := cS e5 (hs _) 6 a6; rw [List.set_set, show (#[a0, a1, a2, a3, a4, a5, v6, v7, v8, v9] : Array Value).setIfInBounds 6 a6 = #[a0, a1, a2, a3, a4, a5, a6, v7, v8, v9] from rfl] at e6; have e7 := cS e6 (hs _) 7 a7; rw [List.set_set, show (#[a0, a1, a2, a3, a4, a5, a6, v7, v8, v9] : Array Value).setIfInBounds 7 a7 = #[a0, a1, a2, a3, a4, a5, a6, a7, v8, v9] from rfl] at e7; have e8 := cS e7 (hs _) 8 a8; rw [List.set_set, show (#[a0, a1, a2, a3, a4, a5, a6, a7, v8, v9] : Array Value).setIfInBounds 8 a8 = #[a0, a1, a2, a3, a4, a5, a6, a7, a8, v9] from rfl] at e8; have e9 := cS e8 (hs _) 9 a9; rw [List.set_set, show (#[a0, a1, a2, a3, a4, a5, a6, a7, a8, v9] : Array Value).setIfInBounds 9 a9 = #[a0, a1, a2, a3, a4, a5, a6, a7, a8, a9] from rfl] at e9; exact e9
end
end Go.Proofs.Ytngegjboenfmeaa
/- A region that draws its order: each operation is shown once, whatever stands before it. No program in sight. -/
namespace Go.Proofs.Ytngegjboenfmeaa
open Go
set_option linter.unusedVariables false

def upd (x : Nat → Value) (i : Nat) (v : Value) : Nat → Value := fun j => if j = i then v else x j
theorem upd_self (x : Nat → Value) (i : Nat) (v : Value) : upd x i v i = v := by simp [upd]
theorem upd_ne (x : Nat → Value) {i j : Nat} (v : Value) (h : j ≠ i) : upd x i v j = x j := by simp [upd, h]

/-- the frame, each operation's temporary holding x of its number -/
def putAll : List Oper → Nat → (Nat → Value) → Act → Act
 | [], _, _, a => a
 | o :: l, i, x, a => putAll l (i + 1) x (a.put o.dst (x i))

def apartB : List (Option Tmp) → Bool
 | [] => true
 | none :: l => apartB l
 | some d :: l => !l.contains (some d) && apartB l

theorem put_put (a : Act) (d : Option Tmp) (v u : Value) : (a.put d v).put d u = a.put d u := by
 cases d <;> simp [Act.put]

theorem putAll_congr (l : List Oper) : ∀ (n : Nat) (x y : Nat → Value) (a : Act), (∀ k, n ≤ k → x k = y k) → putAll l n x a = putAll l n y a := by
 induction l with
 | nil => intro n x y a _; rfl
 | cons o l ih =>
  intro n x y a h; simp only [putAll]; rw [h n (Nat.le_refl _)]; exact ih (n + 1) x y _ fun k hk => h k (by omega)

theorem putAll_put (l : List Oper) : ∀ (n : Nat) (x : Nat → Value) (a : Act) (d : Option Tmp) (v : Value), (∀ t, d = some t → (l.map (·.dst)).contains (some t) = false) → putAll l n x (a.put d v) = (putAll l n x a).put d v := by
 induction l with
 | nil => intro n x a d v _; rfl
 | cons o l ih =>
  intro n x a d v h; simp only [putAll]; rw [Act.put_comm a v (x n) (fun t ht he => by
   have := h t ht
   simp [he] at this)]
  exact ih (n + 1) x _ d v fun t ht => by
   have := h t ht
   simp only [List.map_cons, List.contains_cons, Bool.or_eq_false_iff] at this; exact this.2

theorem putAll_upd (l : List Oper) : ∀ (n k : Nat) (x : Nat → Value) (a : Act) (o : Oper) (v : Value), apartB (l.map (·.dst)) = true → l[k]? = some o → putAll l n (upd x (n + k) v) a = (putAll l n x a).put o.dst v := by
 induction l with
 | nil => intro n k x a o v _ h; simp at h
 | cons o0 l ih =>
  intro n k x a o v hap hk; have hap2 : apartB (l.map (·.dst)) = true := by
   simp only [List.map_cons] at hap; cases hd : o0.dst with
   | none => rw [hd] at hap; exact hap
   | some d => rw [hd] at hap; simp only [apartB, Bool.and_eq_true] at hap; exact hap.2
  cases k with
  | zero =>
   simp only [List.getElem?_cons_zero, Option.some.injEq] at hk; subst hk; simp only [putAll, Nat.add_zero]; rw [upd_self, ← putAll_put l (n + 1) x _ o0.dst v (fun t ht => ?_), put_put, putAll_congr l (n + 1) (upd x n v) x _ (fun j hj => upd_ne x v (by omega))]; simp only [List.map_cons] at hap; rw [ht] at hap; simp only [apartB, Bool.and_eq_true, Bool.not_eq_true'] at hap; exact hap.1
  | succ k =>
   simp only [List.getElem?_cons_succ] at hk; simp only [putAll]; rw [upd_ne x v (by omega), show n + (k + 1) = (n + 1) + k by omega]; exact ih (n + 1) k x _ o v hap2 hk

theorem putAll_init (l : List Oper) : ∀ (n : Nat) (x : Nat → Value) (a : Act), (∀ k o d, l[k]? = some o → o.dst = some d → x (n + k) = a.tmps.getD d undef) → putAll l n x a = a := by
 induction l with
 | nil => intro n x a _; rfl
 | cons o l ih =>
  intro n x a h; simp only [putAll]; have e : a.put o.dst (x n) = a := by
   cases hd : o.dst with
   | none => rfl
   | some d =>
    have h1 := h 0 o d rfl hd; rw [Nat.add_zero] at h1; cases a with
    | mk t df =>
     simp only [Act.put, Act.mk.injEq, and_true]; apply Array.ext_getElem?; intro i; rw [Array.getElem?_setIfInBounds]; split
     ·rename_i hi
      subst hi; split
      ·rename_i hlt
       rw [h1]; simp [hlt]
      ·rename_i hge
       simp at hge; simp [hge]
     ·rfl
  rw [e]; exact ih (n + 1) x a fun k o' d hk hd => by
   rw [show n + 1 + k = n + (k + 1) by omega]; exact h (k + 1) o' d (by simpa using hk) hd

def edgeB (l : List Oper) (i j : Nat) : Bool := ((l[i]?).map fun o => o.after.any fun e => Region.binds .any e && e.on == j).getD false
/-- j stands before i, by an edge or by some -/
inductive Up (l : List Oper) : Nat → Nat → Prop
 | edge {i j : Nat} (h : edgeB l i j = true) : Up l i j
 | more {i j k : Nat} (h : edgeB l i j = true) (t : Up l j k) : Up l i k
/-- each waits for lower numbers alone -/
def topB (l : List Oper) : Bool := (List.range l.length).all fun i => ((l[i]?).map fun o => o.after.all fun e => !Region.binds .any e || decide (e.on < i)).getD true

section
variable {P : Program} {l : List Oper} {Q : Exit → Act → World → Prop} {a : Act} {I : World → Prop} {R : World → World → Prop} {D : Nat → Value → World → Prop}

/-- each operation from number i on -/
def EachOp (P : Program) (l : List Oper) (Q : Exit → Act → World → Prop) (a : Act) (I : World → Prop) (R : World → World → Prop) (D : Nat → Value → World → Prop) : Nat → List Oper → Prop
 | _, [] => True
 | i, o :: rest => (∀ (x : Nat → Value) (w : World), I w → (∀ j, Up l i j → D j (x j) w) → ∀ K : Act → World → Prop, Shut (∀ a' v w', a' = (putAll l 0 x a).put o.dst v → D i v w' → R w w' → I w' → K a' w') →
   if Region.wanted o (yielded l.toArray (putAll l 0 x a).tmps) = true then Oper.wp P o (putAll l 0 x a) w K Q else K ((putAll l 0 x a).put o.dst undef) w) ∧ EachOp P l Q a I R D (i + 1) rest
theorem EachOp.nil {i : Nat} : EachOp P l Q a I R D i [] := trivial
theorem EachOp.cons {i : Nat} {o : Oper} {rest : List Oper} (k : Nat) (hk : i + 1 = k)
  (h : ∀ (x : Nat → Value) (w : World), I w → (∀ j, Up l i j → D j (x j) w) → ∀ K : Act → World → Prop, Shut (∀ a' v w', a' = (putAll l 0 x a).put o.dst v → D i v w' → R w w' → I w' → K a' w') →
   if Region.wanted o (yielded l.toArray (putAll l 0 x a).tmps) = true then Oper.wp P o (putAll l 0 x a) w K Q else K ((putAll l 0 x a).put o.dst undef) w)
  (t : EachOp P l Q a I R D k rest) : EachOp P l Q a I R D i (o :: rest) := ⟨h, hk ▸ t⟩
theorem EachOp.at_ : ∀ {rest : List Oper} {i k : Nat} {o : Oper}, EachOp P l Q a I R D i rest → rest[k]? = some o →
  ∀ (x : Nat → Value) (w : World), I w → (∀ j, Up l (i + k) j → D j (x j) w) → ∀ K : Act → World → Prop, Shut (∀ a' v w', a' = (putAll l 0 x a).put o.dst v → D (i + k) v w' → R w w' → I w' → K a' w') →
   if Region.wanted o (yielded l.toArray (putAll l 0 x a).tmps) = true then Oper.wp P o (putAll l 0 x a) w K Q else K ((putAll l 0 x a).put o.dst undef) w
 | [], i, k, o, _, hk => by simp at hk
 | o0 :: rest, i, 0, o, h, hk => by
  simp only [List.getElem?_cons_zero, Option.some.injEq] at hk; subst hk; exact h.1
 | o0 :: rest, i, k + 1, o, h, hk => by
  have := EachOp.at_ (rest := rest) (i := i + 1) (k := k) (o := o) h.2 (by simpa using hk)
  rw [show i + 1 + k = i + (k + 1) by omega] at this; exact this

theorem getD_of_ready {md : Region.Mode} {ops : Array Oper} {listed : Array Bool} {i : Nat} (h : i ∈ Region.ready md ops listed) : i < listed.size := by
 have h0 := (mem_ready.1 h).1
 rcases Nat.lt_or_ge i listed.size with h' | h'
 ·exact h'
 ·simp [Array.getElem?_eq_none h'] at h0

theorem up_listed {listed : Array Bool} (hc : ∀ j k, listed.getD j false = true → edgeB l j k = true → listed.getD k false = true) : ∀ {i j : Nat}, Up l i j → (∀ k, edgeB l i k = true → listed.getD k false = true) → listed.getD j false = true := by
 intro i j h
 induction h with
 | edge h => intro h2; exact h2 _ h
 | more h t ih => intro h2; exact ih fun k hk => hc _ _ (h2 _ h) hk

theorem no_listed (n j : Nat) (h : (Array.replicate n false).getD j false = true) : False := by
 rcases Nat.lt_or_ge j n with h' | h'
 ·simp [h'] at h
 ·simp [Nat.not_lt.2 h'] at h

/-- the claims as a list, one for each operation -/
def Dl : List (Value → World → Prop) → Nat → Value → World → Prop
 | [], _, _, _ => True
 | p :: _, 0, v, w => p v w
 | _ :: l, n + 1, v, w => Dl l n v w
/-- each claim outlasts what the others do -/
def AllKeep (R : World → World → Prop) : List (Value → World → Prop) → Prop
 | [] => True
 | p :: l => (∀ v w w', R w w' → p v w → p v w') ∧ AllKeep R l
theorem Dl_keep : ∀ {ds : List (Value → World → Prop)}, AllKeep R ds → ∀ j v w w', R w w' → Dl ds j v w → Dl ds j v w'
 | [], _, _, _, _, _, _, _ => trivial
 | p :: l, h, 0, v, w, w', hR, hd => h.1 v w w' hR hd
 | p :: l, h, n + 1, v, w, w', hR, hd => Dl_keep (ds := l) h.2 n v w w' hR hd
end
end Go.Proofs.Ytngegjboenfmeaa
/- A region that draws its order, some of whose operations turn the memory, one behind the other: each operation is shown once. No program in sight. -/
namespace Go.Proofs.Ytngegjboenfmeaa
open Go
set_option linter.unusedVariables false

def upB (d : Nat → Bool) (i : Nat) : Nat → Bool := fun j => if j = i then true else d j
theorem upB_ne (d : Nat → Bool) {i j : Nat} (h : j ≠ i) : upB d i j = d j := by simp [upB, h]

/-- what a slot holds ahead of the region -/
def iniOf (l : List Oper) (a : Act) (j : Nat) : Value := match (l[j]?).bind (·.dst) with
 | some d => a.tmps.getD d undef
 | none => undef
section
variable {P : Program} {l : List Oper} {Q : Exit → Act → World → Prop} {a : Act} {I : (Nat → Bool) → (Nat → Value) → World → Prop} {R : World → World → Prop} {D : Nat → Value → World → Prop}
/-- each operation from number i on, some having come (d), by what they have left (x) -/
def EachOpS (P : Program) (l : List Oper) (Q : Exit → Act → World → Prop) (a : Act) (I : (Nat → Bool) → (Nat → Value) → World → Prop) (R : World → World → Prop) (D : Nat → Value → World → Prop) : Nat → List Oper → Prop
 | _, [] => True
 | i, o :: rest => (∀ (d : Nat → Bool) (x : Nat → Value) (w : World), d i = false → (∀ j, Up l j i → d j = false) → (∀ j, d j = false → x j = iniOf l a j) → I d x w → (∀ j, Up l i j → d j = true ∧ D j (x j) w) → ∀ K : Act → World → Prop, Shut (∀ a' v w', a' = (putAll l 0 x a).put o.dst v → D i v w' → R w w' → I (upB d i) (upd x i v) w' → K a' w') →
   if Region.wanted o (yielded l.toArray (putAll l 0 x a).tmps) = true then Oper.wp P o (putAll l 0 x a) w K Q else K ((putAll l 0 x a).put o.dst undef) w) ∧ EachOpS P l Q a I R D (i + 1) rest
theorem EachOpS.nil {i : Nat} : EachOpS P l Q a I R D i [] := trivial
theorem EachOpS.cons {i : Nat} {o : Oper} {rest : List Oper} (k : Nat) (hk : i + 1 = k)
  (h : ∀ (d : Nat → Bool) (x : Nat → Value) (w : World), d i = false → (∀ j, Up l j i → d j = false) → (∀ j, d j = false → x j = iniOf l a j) → I d x w → (∀ j, Up l i j → d j = true ∧ D j (x j) w) → ∀ K : Act → World → Prop, Shut (∀ a' v w', a' = (putAll l 0 x a).put o.dst v → D i v w' → R w w' → I (upB d i) (upd x i v) w' → K a' w') →
   if Region.wanted o (yielded l.toArray (putAll l 0 x a).tmps) = true then Oper.wp P o (putAll l 0 x a) w K Q else K ((putAll l 0 x a).put o.dst undef) w)
  (t : EachOpS P l Q a I R D k rest) : EachOpS P l Q a I R D i (o :: rest) := ⟨h, hk ▸ t⟩
theorem EachOpS.at_ : ∀ {rest : List Oper} {i k : Nat} {o : Oper}, EachOpS P l Q a I R D i rest → rest[k]? = some o →
  ∀ (d : Nat → Bool) (x : Nat → Value) (w : World), d (i + k) = false → (∀ j, Up l j (i + k) → d j = false) → (∀ j, d j = false → x j = iniOf l a j) → I d x w → (∀ j, Up l (i + k) j → d j = true ∧ D j (x j) w) → ∀ K : Act → World → Prop, Shut (∀ a' v w', a' = (putAll l 0 x a).put o.dst v → D (i + k) v w' → R w w' → I (upB d (i + k)) (upd x (i + k) v) w' → K a' w') →
   if Region.wanted o (yielded l.toArray (putAll l 0 x a).tmps) = true then Oper.wp P o (putAll l 0 x a) w K Q else K ((putAll l 0 x a).put o.dst undef) w
 | [], i, k, o, _, hk => by simp at hk
 | o0 :: rest, i, 0, o, h, hk => by
  simp only [List.getElem?_cons_zero, Option.some.injEq] at hk; subst hk; exact h.1
 | o0 :: rest, i, k + 1, o, h, hk => by
  have := EachOpS.at_ (rest := rest) (i := i + 1) (k := k) (o := o) h.2 (by simpa using hk)
  rw [show i + 1 + k = i + (k + 1) by omega] at this; exact this

theorem up_unlisted {d : Nat → Bool} (hc : ∀ j k, d j = true → edgeB l j k = true → d k = true) : ∀ {i j : Nat}, Up l j i → d i = false → d j = false := by
 intro i j h
 induction h with
 | edge h =>
  intro h2
  rename_i i0 j0
  cases e : d i0 with
  | false => rfl
  | true => rw [hc _ _ e h] at h2; cases h2
 | more h t ih =>
  intro h2
  rename_i i0 j0 k0
  have h3 := ih h2; cases e : d i0 with
  | false => rfl
  | true => rw [hc _ _ e h] at h3; cases h3

theorem getD_set_eq {listed : Array Bool} {i : Nat} (hi : i < listed.size) : (fun j => (listed.setIfInBounds i true).getD j false) = upB (fun j => listed.getD j false) i := by
 funext j
 by_cases h : j = i
 ·subst h; simp [upB, hi]
 ·rw [upB_ne _ h, getD_set_ne false (Ne.symm h)]

theorem wpAny_stage (hap : apartB (l.map (·.dst)) = true) (htop : topB l = true) (hD : ∀ j v w w', R w w' → D j v w → D j v w')
  (hop : EachOpS P l Q a I R D 0 l) (hend : ∀ d x w, I d x w → (∀ j, j < l.length → d j = true ∧ D j (x j) w) → Q .normal (putAll l 0 x a) w) :
  ∀ (fuel : Nat) (listed : Array Bool) (x : Nat → Value) (w : World), listed.size = l.length → (∀ j k, listed.getD j false = true → edgeB l j k = true → listed.getD k false = true) →
   listed.toList.countP (! ·) ≤ fuel → I (fun j => listed.getD j false) x w → (∀ j, listed.getD j false = false → x j = iniOf l a j) → (∀ j, listed.getD j false = true → D j (x j) w) → wpAny P .any l.toArray Q fuel listed (putAll l 0 x a) w := by
 have hall : ∀ (listed : Array Bool), listed.size = l.length → Region.ready .any l.toArray listed = [] → ∀ j, j < l.length → listed.getD j false = true := by
  intro listed hs hr j
  induction j using Nat.strongRecOn with
  | ind j ih =>
   intro hj; cases hl : listed.getD j false with
   | true => rfl
   | false =>
    exfalso; have hm : j ∈ Region.ready .any l.toArray listed := by
     rw [mem_ready]; refine ⟨?_, l[j], by simp [hj], fun e he hb => ?_⟩
     ·have hjs : j < listed.size := by omega
      simp [hjs] at hl ⊢; exact hl
     ·have ht := List.all_eq_true.1 htop j (List.mem_range.2 hj); rw [List.getElem?_eq_getElem hj] at ht; simp only [Option.map_some, Option.getD_some] at ht; have := Array.all_eq_true'.1 ht e he; rw [hb] at this; simp at this; exact ih e.on this (by omega)
    rw [hr] at hm; cases hm
 intro fuel
 induction fuel with
 | zero =>
  intro listed x w hs hcl hcnt hI hX hd; have hz : ∀ j, j < l.length → listed.getD j false = true := by
   intro j hj; have hc0 : listed.toList.countP (! ·) = 0 := by omega
   rw [List.countP_eq_zero] at hc0; have hjs : j < listed.size := by omega
   have := hc0 listed[j] (by simp)
   simp at this; simp [hjs, this]
  have hr : Region.ready .any l.toArray listed = [] := by
   rcases hne : Region.ready .any l.toArray listed with _ | ⟨i, rs⟩
   ·rfl
   ·have hm : i ∈ Region.ready .any l.toArray listed := by rw [hne]; simp
    have hlt := getD_of_ready hm; have h1 := (mem_ready.1 hm).1; have h2 := hz i (by omega); simp [hlt] at h1 h2; rw [h1] at h2; cases h2
  exact ⟨hr, hend _ x w hI fun j hj => ⟨hz j hj, hd j (hz j hj)⟩⟩
 | succ fuel ih =>
  intro listed x w hs hcl hcnt hI hX hd; refine ⟨fun hr => hend _ x w hI fun j hj => ⟨hall listed hs hr j hj, hd j (hall listed hs hr j hj)⟩, fun i hi => ?_⟩; have hlt := getD_of_ready hi; obtain ⟨hun, o, ho, hbel⟩ := mem_ready.1 hi; have hedge : ∀ k, edgeB l i k = true → listed.getD k false = true := by
   intro k hk; have ho' : l[i]? = some o := by simpa using ho
   unfold edgeB at hk; rw [ho'] at hk; simp only [Option.map_some, Option.getD_some] at hk; obtain ⟨e, he, hb⟩ := Array.any_eq_true'.1 hk; simp only [Bool.and_eq_true, beq_iff_eq] at hb; rw [← hb.2]; exact hbel e he hb.1
  refine wpOp_step ho fun K' hK => ?_
  have ho' : l[i]? = some o := by simpa using ho
  have hun0 : listed.getD i false = false := by simpa [hlt] using hun
  have hstep := EachOpS.at_ (k := i) hop ho' (fun j => listed.getD j false) x w (by rw [Nat.zero_add]; exact hun0) (fun j hj => up_unlisted (l := l) (d := fun j => listed.getD j false) hcl (by rw [Nat.zero_add] at hj; exact hj) hun0) hX hI (fun j hj => by
   have h7 := up_listed hcl (by rw [Nat.zero_add] at hj; exact hj) hedge; exact ⟨h7, hd j h7⟩) K'
  refine hstep fun a' v w' ha' hv hR hI' => ?_
  subst ha'; apply hK; have hpu := putAll_upd l 0 i x a o v hap ho'; rw [Nat.zero_add] at hpu hv hI'; rw [← hpu]; have hun' : listed[i] = false := by simpa [hlt] using hun
  refine ih (listed.setIfInBounds i true) (upd x i v) w' (by simpa using hs) (fun j k hj hk => ?_) ?_ (by rw [getD_set_eq hlt]; exact hI') (fun j hj => ?_) (fun j hj => ?_)
  ·by_cases hji : i = j
   ·subst hji; exact getD_set_true (hedge k hk)
   ·rw [getD_set_ne false hji] at hj; exact getD_set_true (hcl j k hj hk)
  ·have : (listed.setIfInBounds i true).toList.countP (! ·) + 1 = listed.toList.countP (! ·) := by
    rw [Array.toList_setIfInBounds]; have h1 := List.countP_set (p := (! ·)) (l := listed.toList) (i := i) (a := true) (by simpa using hlt); rw [h1]; have h2 : 0 < listed.toList.countP (! ·) := List.countP_pos_iff.2 ⟨listed[i], by simp, by simp [hun']⟩; have h3 : listed.toList[i]'(by simpa using hlt) = false := by simpa using hun'
    rw [h3]; simp only [Bool.not_false, Bool.not_true, if_true, Bool.false_eq_true, if_false]; omega
   omega
  ·by_cases hji : i = j
   ·subst hji; simp [hlt] at hj
   ·rw [getD_set_ne false hji] at hj; rw [upd_ne x v (Ne.symm hji)]; exact hX j hj
  ·by_cases hji : i = j
   ·subst hji; rw [upd_self]; exact hv
   ·rw [getD_set_ne false hji] at hj; rw [upd_ne x v (Ne.symm hji)]; exact hD _ _ _ _ hR (hd j hj)


theorem wp_region_stage {id : Nat} {w : World} (I : (Nat → Bool) → (Nat → Value) → World → Prop) (R : World → World → Prop) (ds : List (Value → World → Prop)) (hm : P.follows .mixedOrders = true)
  (hap : apartB (l.map (·.dst)) = true) (htop : topB l = true) (hI : ∀ x, I (fun _ => false) x w.drew) (hD : AllKeep R ds)
  (hop : EachOpS P l Q a I R (Dl ds) 0 l) (hend : ∀ d x w, I d x w → (∀ j, j < l.length → d j = true ∧ Dl ds j (x j) w) → Q .normal (putAll l 0 x a) w) : (Code.region id l.toArray true).wp P Q a w := by
 refine wp_region_any hm ?_; have hI2 : I (fun j => (Array.replicate l.length false).getD j false) (iniOf l a) w.drew := by
  have e : (fun j => (Array.replicate l.length false).getD j false) = fun _ => false := by
   funext j; cases h : (Array.replicate l.length false).getD j false with
   | false => rfl
   | true => exact (no_listed _ _ h).elim
  rw [e]; exact hI _
 have h := wpAny_stage hap htop (fun j v w w' hR hd => Dl_keep hD j v w w' hR hd) hop hend l.length (Array.replicate l.length false) (iniOf l a) w.drew (by simp) (fun j k hj => ?_) ?_ hI2 (fun j _ => rfl) (fun j hj => ?_)
 ·rw [putAll_init l 0 _ a (fun k o d hk hd => by simp [iniOf, hk, hd])] at h; simpa using h
 ·exact (no_listed _ _ hj).elim
 ·simpa using List.countP_le_length (p := (! ·)) (l := List.replicate l.length false)
 ·exact (no_listed _ _ hj).elim
end
end Go.Proofs.Ytngegjboenfmeaa
/- A region that draws its order, its frame never laid open: each operation is shown once. No program in sight. -/
namespace Go.Proofs.Ytngegjboenfmeaa
open Go
set_option linter.unusedVariables false

/-- which operation writes a slot -/
def who : List (Option Tmp) → Tmp → Nat → Option Nat
 | [], _, _ => none
 | d :: r, t, n => if d = some t then some n else who r t (n + 1)
def lookF (l : List Oper) (a : Act) (x : Nat → Value) (t : Tmp) : Value := match who (l.map (·.dst)) t 0 with
 | some j => x j
 | none => a.tmps.getD t undef
def inB (l : List Oper) (n : Nat) : Bool := l.all fun o => match o.dst with
 | some d => decide (d < n)
 | none => true

theorem who_none : ∀ (ds : List (Option Tmp)) (t : Tmp) (n : Nat), ds.contains (some t) = false → who ds t n = none
 | [], _, _, _ => rfl
 | d :: r, t, n, h => by
  simp only [List.contains_cons, Bool.or_eq_false_iff] at h; rw [who, if_neg (fun e => by rw [e] at h; simp at h), who_none r t (n + 1) h.2]
theorem put_size (a : Act) (d : Option Tmp) (v : Value) : (a.put d v).tmps.size = a.tmps.size := by cases d <;> simp [Act.put]
theorem put_get (a : Act) (d : Option Tmp) (v : Value) (t : Tmp) : (a.put d v).tmps.getD t undef = if d = some t ∧ t < a.tmps.size then v else a.tmps.getD t undef := by
 cases d with
 | none => simp [Act.put]
 | some u =>
  by_cases h : u = t
  ·subst h
   by_cases h2 : u < a.tmps.size
   ·simp [Act.put, h2]
   ·simp [Act.put, h2]
  ·simp [Act.put, h]
theorem look_putAll : ∀ (l : List Oper) (n : Nat) (x : Nat → Value) (a : Act) (t : Tmp), apartB (l.map (·.dst)) = true → inB l a.tmps.size = true →
  (putAll l n x a).tmps.getD t undef = match who (l.map (·.dst)) t n with | some j => x j | none => a.tmps.getD t undef
 | [], n, x, a, t, _, _ => rfl
 | o :: l, n, x, a, t, hap, hin => by
  have hap2 : apartB (l.map (·.dst)) = true := by
   simp only [List.map_cons] at hap; cases hd : o.dst with
   | none => rw [hd] at hap; exact hap
   | some d => rw [hd] at hap; simp only [apartB, Bool.and_eq_true] at hap; exact hap.2
  simp only [inB, List.all_cons, Bool.and_eq_true] at hin; have hin2 : inB l (a.put o.dst (x n)).tmps.size = true := by rw [put_size]; exact hin.2
  simp only [putAll, List.map_cons, who]; rw [look_putAll l (n + 1) x (a.put o.dst (x n)) t hap2 hin2, put_get]
  by_cases h : o.dst = some t
  ·rw [if_pos h]; have hc : (l.map (·.dst)).contains (some t) = false := by
    simp only [List.map_cons] at hap; rw [h] at hap; simp only [apartB, Bool.and_eq_true, Bool.not_eq_true'] at hap; exact hap.1
   rw [who_none _ _ _ hc]; have hlt : t < a.tmps.size := by
    have := hin.1
    rw [h] at this; simpa using this
   simp only; rw [if_pos ⟨h, hlt⟩]
  ·rw [if_neg h, if_neg (fun e => h e.1)]

section
variable {P : Program} {l : List Oper} {Q : Exit → Act → World → Prop} {a : Act} {I : (Nat → Bool) → (Nat → Value) → World → Prop} {R : World → World → Prop} {D : Nat → Value → World → Prop}
/-- each operation from number i on; the frame F is known by what its slots hold -/
def EachF (P : Program) (l : List Oper) (Q : Exit → Act → World → Prop) (a : Act) (I : (Nat → Bool) → (Nat → Value) → World → Prop) (R : World → World → Prop) (D : Nat → Value → World → Prop) : Nat → List Oper → Prop
 | _, [] => True
 | i, o :: rest => (∀ (dn : Nat → Bool) (xv : Nat → Value) (W : World) (F : Act), (∀ t, F.tmps.getD t undef = lookF l a xv t) → dn i = false → (∀ j, Up l j i → dn j = false) → (∀ j, dn j = false → xv j = iniOf l a j) → I dn xv W → (∀ j, Up l i j → dn j = true ∧ D j (xv j) W) →
   ∀ K : Act → World → Prop, Shut (∀ v w', D i v w' → R W w' → I (upB dn i) (upd xv i v) w' → K (F.put o.dst v) w') →
   if Region.wanted o (yielded l.toArray F.tmps) = true then Oper.wp P o F W K Q else K (F.put o.dst undef) W) ∧ EachF P l Q a I R D (i + 1) rest
theorem EN {i : Nat} : EachF P l Q a I R D i [] := trivial
theorem EC {i : Nat} {o : Oper} {rest : List Oper} (k : Nat) (hk : i + 1 = k)
  (h : ∀ (dn : Nat → Bool) (xv : Nat → Value) (W : World) (F : Act), (∀ t, F.tmps.getD t undef = lookF l a xv t) → dn i = false → (∀ j, Up l j i → dn j = false) → (∀ j, dn j = false → xv j = iniOf l a j) → I dn xv W → (∀ j, Up l i j → dn j = true ∧ D j (xv j) W) →
   ∀ K : Act → World → Prop, Shut (∀ v w', D i v w' → R W w' → I (upB dn i) (upd xv i v) w' → K (F.put o.dst v) w') →
   if Region.wanted o (yielded l.toArray F.tmps) = true then Oper.wp P o F W K Q else K (F.put o.dst undef) W)
  (t : EachF P l Q a I R D k rest) : EachF P l Q a I R D i (o :: rest) := ⟨h, hk ▸ t⟩
theorem EachF.toS (hap : apartB (l.map (·.dst)) = true) (hin : inB l a.tmps.size = true) : ∀ {rest : List Oper} {i : Nat}, EachF P l Q a I R D i rest → EachOpS P l Q a I R D i rest
 | [], _, _ => trivial
 | o :: rest, i, h => ⟨fun d x w h1 h2 h3 h4 h5 K hK => h.1 d x w (putAll l 0 x a) (fun t => look_putAll l 0 x a t hap hin) h1 h2 h3 h4 h5 K (fun v w' a1 a2 a3 => hK _ v w' rfl a1 a2 a3), EachF.toS hap hin h.2⟩
theorem wRF {id : Nat} {w : World} (I : (Nat → Bool) → (Nat → Value) → World → Prop) (R : World → World → Prop) (ds : List (Value → World → Prop)) (hm : P.follows .mixedOrders = true)
  (hap : apartB (l.map (·.dst)) = true) (htop : topB l = true) (hin : inB l a.tmps.size = true) (hI : ∀ x, I (fun _ => false) x w.drew) (hD : AllKeep R ds)
  (hop : EachF P l Q a I R (Dl ds) 0 l) (hend : ∀ d x w, I d x w → (∀ j, j < l.length → d j = true ∧ Dl ds j (x j) w) → Q .normal (putAll l 0 x a) w) : (Code.region id l.toArray true).wp P Q a w :=
 wp_region_stage I R ds hm hap htop hI hD (EachF.toS hap hin hop) hend
end

section
variable {ops : Array Oper} {o : Oper} {F : Act} {p q : Prop} {g d : Nat} {b : Bool}
theorem oP {y : Nat → Option Bool} (hg : o.guard = none) (h : p) : if Region.wanted o y = true then p else q := by
 rw [if_pos (by simp [Region.wanted, hg])]; exact h
theorem yielded_of (hd : (ops[g]?).bind (·.dst) = some d) (hv : F.tmps.getD d undef = .bool b) : yielded ops F.tmps g = some b := by
 have h1 : F.tmps[d]? = some (.bool b) := by
  rw [Array.getD_eq_getD_getElem?] at hv; cases h : F.tmps[d]? with
  | none => rw [h] at hv; simp [undef] at hv
  | some v => rw [h] at hv; simp at hv; rw [hv]
 unfold yielded; rw [hd]; simp [h1]
theorem oG (hg : o.guard = some (g, b)) (hd : (ops[g]?).bind (·.dst) = some d) (hv : F.tmps.getD d undef = .bool b) (h : p) : if Region.wanted o (yielded ops F.tmps) = true then p else q := by
 rw [if_pos (by simp [Region.wanted, hg, yielded_of hd hv])]; exact h
theorem off_guard {c : Bool} (hg : o.guard = some (g, b)) (hd : (ops[g]?).bind (·.dst) = some d) (hv : F.tmps.getD d undef = .bool c) (hc : c ≠ b) (h : q) : if Region.wanted o (yielded ops F.tmps) = true then p else q := by
 rw [if_neg (by simp [Region.wanted, hg, yielded_of hd hv, hc])]; exact h
theorem off_undef (hg : o.guard = some (g, b)) (hd : (ops[g]?).bind (·.dst) = some d) (hv : F.tmps.getD d undef = undef) (h : q) : if Region.wanted o (yielded ops F.tmps) = true then p else q := by
 have h1 : yielded ops F.tmps g = none := by
  unfold yielded; rw [hd]; cases e : F.tmps[d]? with
  | none => simp [e]
  | some v =>
   rw [Array.getD_eq_getD_getElem?, e] at hv; simp at hv; subst hv; simp [e, undef]
 rw [if_neg (by simp [Region.wanted, hg, h1])]; exact h
end
theorem gE {l : List Oper} {i j : Nat} {x e y V : Value} {p : Prop} (h1 : x = e) (h2 : e = y) (h3 : Up l i j → p ∧ y = V) (he : edgeB l i j = true) : x = V := h1.trans (h2.trans (h3 (.edge he)).2)
theorem gF {x e y V : Value} {p : Prop} (h1 : x = e) (h2 : e = y) (h3 : p ∧ y = V) : x = V := h1.trans (h2.trans h3.2)
theorem uE {l : List Oper} {i j : Nat} (h : edgeB l i j = true := by kernel_rfl) : Up l i j := .edge h
theorem uM {l : List Oper} {i k : Nat} (j : Nat) (t : Up l j k) (h : edgeB l i j = true := by kernel_rfl) : Up l i k := .more h t
abbrev xV_ (V : Value) : Value → World → Prop := fun v _ => v = V
abbrev xP_ (b o : Nat) : Value → World → Prop := fun v _ => v = .pointer (some ⟨b, o, none⟩)
section
variable {P : Program} {l : List Oper} {Q : Exit → Act → World → Prop} {a : Act} {I : (Nat → Bool) → (Nat → Value) → World → Prop} {R : World → World → Prop} {D : Nat → Value → World → Prop} {i : Nat} {o : Oper} {rest : List Oper}
theorem gX {D' I' K' : Value → World → Prop} {R' : World → Prop} (f : Shut (∀ v w', D' v w' → R' w' → I' v w' → K' v w')) {v : Value} {w' : World} (e : I' v w') (h1 : D' v w' := by exact rfl) (h2 : R' w' := by exact trivial) : K' v w' := f.out v w' h1 h2 e
theorem Eo (k s j : Nat) (t : EachF P l Q a I R D k rest) {c b : Bool} {g : Nat} (hV : D j = (fun v _ => v = .bool c) := by exact rfl) (he : edgeB l i j = true := by kernel_rfl) (hs : ∀ x, lookF l a x s = x j := by intro; kernel_rfl) (hg : o.guard = some (g, b) := by exact rfl) (hd : (l.toArray[g]?).bind (·.dst) = some s := by kernel_rfl) (hc : c ≠ b := by decide) (hk : i + 1 = k := by exact rfl)
 (h : ∀ (dn : Nat → Bool) (xv : Nat → Value) (W : World) (F : Act) (e : I dn xv W) (K : Act → World → Prop) (f : Shut (∀ v w', D i v w' → R W w' → I (upB dn i) (upd xv i v) w' → K (F.put o.dst v) w')), K (F.put o.dst undef) W := by intro dn xv W F e K f; exact gX f e) : EachF P l Q a I R D i (o :: rest) :=
 EC k hk (fun dn xv W F a b c d e H K f => off_guard hg hd ((a s).trans ((hs xv).trans (by have h1 := (H j (.edge he)).2; rw [hV] at h1; exact h1))) hc (h dn xv W F e K f)) t
theorem Ee (k : Nat) (s1 j1 : Nat) (t : EachF P l Q a I R D k rest) {V1 : Value} (hV1 : D j1 = (fun v _ => v = V1) := by exact rfl) (he1 : edgeB l i j1 = true := by kernel_rfl) (hs1 : ∀ x, lookF l a x s1 = x j1 := by intro; kernel_rfl) (hg : o.guard = none := by exact rfl) (hk : i + 1 = k := by exact rfl)
 (h : ∀ (dn : Nat → Bool) (xv : Nat → Value) (W : World) (F : Act) (f1 : F.tmps.getD s1 undef = V1) (e : I dn xv W) (K : Act → World → Prop) (f : Shut (∀ v w', D i v w' → R W w' → I (upB dn i) (upd xv i v) w' → K (F.put o.dst v) w')), Oper.wp P o F W K Q := by intro dn xv W F f1 e K f; go_simp; exact gX f e) : EachF P l Q a I R D i (o :: rest) :=
 EC k hk (fun dn xv W F a b c d e H K f => oP hg (h dn xv W F ((a s1).trans ((hs1 xv).trans (by have h1 := (H j1 (.edge he1)).2; rw [hV1] at h1; exact h1))) e K f)) t
theorem Eee (k : Nat) (s1 j1 : Nat) (s2 j2 : Nat) (t : EachF P l Q a I R D k rest) {V1 : Value} (hV1 : D j1 = (fun v _ => v = V1) := by exact rfl) (he1 : edgeB l i j1 = true := by kernel_rfl) (hs1 : ∀ x, lookF l a x s1 = x j1 := by intro; kernel_rfl) {V2 : Value} (hV2 : D j2 = (fun v _ => v = V2) := by exact rfl) (he2 : edgeB l i j2 = true := by kernel_rfl) (hs2 : ∀ x, lookF l a x s2 = x j2 := by intro; kernel_rfl) (hg : o.guard = none := by exact rfl) (hk : i + 1 = k := by exact rfl)
 (h : ∀ (dn : Nat → Bool) (xv : Nat → Value) (W : World) (F : Act) (f1 : F.tmps.getD s1 undef = V1) (f2 : F.tmps.getD s2 undef = V2) (e : I dn xv W) (K : Act → World → Prop) (f : Shut (∀ v w', D i v w' → R W w' → I (upB dn i) (upd xv i v) w' → K (F.put o.dst v) w')), Oper.wp P o F W K Q := by intro dn xv W F f1 f2 e K f; go_simp; exact gX f e) : EachF P l Q a I R D i (o :: rest) :=
 EC k hk (fun dn xv W F a b c d e H K f => oP hg (h dn xv W F ((a s1).trans ((hs1 xv).trans (by have h1 := (H j1 (.edge he1)).2; rw [hV1] at h1; exact h1))) ((a s2).trans ((hs2 xv).trans (by have h1 := (H j2 (.edge he2)).2; rw [hV2] at h1; exact h1))) e K f)) t
theorem Eeeeg (k : Nat) (s1 j1 : Nat) (s2 j2 : Nat) (s3 j3 : Nat) (t : EachF P l Q a I R D k rest) {V1 : Value} (hV1 : D j1 = (fun v _ => v = V1) := by exact rfl) (he1 : edgeB l i j1 = true := by kernel_rfl) (hs1 : ∀ x, lookF l a x s1 = x j1 := by intro; kernel_rfl) {V2 : Value} (hV2 : D j2 = (fun v _ => v = V2) := by exact rfl) (he2 : edgeB l i j2 = true := by kernel_rfl) (hs2 : ∀ x, lookF l a x s2 = x j2 := by intro; kernel_rfl) {bb : Bool} (hV3 : D j3 = (fun v _ => v = .bool bb) := by exact rfl) (he3 : edgeB l i j3 = true := by kernel_rfl) (hs3 : ∀ x, lookF l a x s3 = x j3 := by intro; kernel_rfl) {gn : Nat} (hg : o.guard = some (gn, bb) := by exact rfl) (hd : (l.toArray[gn]?).bind (·.dst) = some s3 := by kernel_rfl) (hk : i + 1 = k := by exact rfl)
 (h : ∀ (dn : Nat → Bool) (xv : Nat → Value) (W : World) (F : Act) (f1 : F.tmps.getD s1 undef = V1) (f2 : F.tmps.getD s2 undef = V2) (f3 : F.tmps.getD s3 undef = .bool bb) (e : I dn xv W) (K : Act → World → Prop) (f : Shut (∀ v w', D i v w' → R W w' → I (upB dn i) (upd xv i v) w' → K (F.put o.dst v) w')), Oper.wp P o F W K Q := by intro dn xv W F f1 f2 f3 e K f; go_simp; exact gX f e) : EachF P l Q a I R D i (o :: rest) :=
 EC k hk (fun dn xv W F a b c d e H K f => oG hg hd ((a s3).trans ((hs3 xv).trans (by have h1 := (H j3 (.edge he3)).2; rw [hV3] at h1; exact h1))) (h dn xv W F ((a s1).trans ((hs1 xv).trans (by have h1 := (H j1 (.edge he1)).2; rw [hV1] at h1; exact h1))) ((a s2).trans ((hs2 xv).trans (by have h1 := (H j2 (.edge he2)).2; rw [hV2] at h1; exact h1))) ((a s3).trans ((hs3 xv).trans (by have h1 := (H j3 (.edge he3)).2; rw [hV3] at h1; exact h1))) e K f)) t
theorem Eeeg (k : Nat) (s1 j1 : Nat) (s2 j2 : Nat) (t : EachF P l Q a I R D k rest) {V1 : Value} (hV1 : D j1 = (fun v _ => v = V1) := by exact rfl) (he1 : edgeB l i j1 = true := by kernel_rfl) (hs1 : ∀ x, lookF l a x s1 = x j1 := by intro; kernel_rfl) {bb : Bool} (hV2 : D j2 = (fun v _ => v = .bool bb) := by exact rfl) (he2 : edgeB l i j2 = true := by kernel_rfl) (hs2 : ∀ x, lookF l a x s2 = x j2 := by intro; kernel_rfl) {gn : Nat} (hg : o.guard = some (gn, bb) := by exact rfl) (hd : (l.toArray[gn]?).bind (·.dst) = some s2 := by kernel_rfl) (hk : i + 1 = k := by exact rfl)
 (h : ∀ (dn : Nat → Bool) (xv : Nat → Value) (W : World) (F : Act) (f1 : F.tmps.getD s1 undef = V1) (f2 : F.tmps.getD s2 undef = .bool bb) (e : I dn xv W) (K : Act → World → Prop) (f : Shut (∀ v w', D i v w' → R W w' → I (upB dn i) (upd xv i v) w' → K (F.put o.dst v) w')), Oper.wp P o F W K Q := by intro dn xv W F f1 f2 e K f; go_simp; exact gX f e) : EachF P l Q a I R D i (o :: rest) :=
 EC k hk (fun dn xv W F a b c d e H K f => oG hg hd ((a s2).trans ((hs2 xv).trans (by have h1 := (H j2 (.edge he2)).2; rw [hV2] at h1; exact h1))) (h dn xv W F ((a s1).trans ((hs1 xv).trans (by have h1 := (H j1 (.edge he1)).2; rw [hV1] at h1; exact h1))) ((a s2).trans ((hs2 xv).trans (by have h1 := (H j2 (.edge he2)).2; rw [hV2] at h1; exact h1))) e K f)) t
theorem Eeegk {M0 : (Nat → Bool) → (Nat → Value) → World → Prop} (k : Nat) (s1 j1 : Nat) (s2 j2 : Nat) (m0 : ∀ dn xv W, I dn xv W → M0 dn xv W) (t : EachF P l Q a I R D k rest) {V1 : Value} (hV1 : D j1 = (fun v _ => v = V1) := by exact rfl) (he1 : edgeB l i j1 = true := by kernel_rfl) (hs1 : ∀ x, lookF l a x s1 = x j1 := by intro; kernel_rfl) {bb : Bool} (hV2 : D j2 = (fun v _ => v = .bool bb) := by exact rfl) (he2 : edgeB l i j2 = true := by kernel_rfl) (hs2 : ∀ x, lookF l a x s2 = x j2 := by intro; kernel_rfl) {gn : Nat} (hg : o.guard = some (gn, bb) := by exact rfl) (hd : (l.toArray[gn]?).bind (·.dst) = some s2 := by kernel_rfl) (hk : i + 1 = k := by exact rfl)
 (h : ∀ (dn : Nat → Bool) (xv : Nat → Value) (W : World) (F : Act) (f1 : F.tmps.getD s1 undef = V1) (f2 : F.tmps.getD s2 undef = .bool bb) (k0 : M0 dn xv W) (e : I dn xv W) (K : Act → World → Prop) (f : Shut (∀ v w', D i v w' → R W w' → I (upB dn i) (upd xv i v) w' → K (F.put o.dst v) w')), Oper.wp P o F W K Q := by intro dn xv W F f1 f2 k0 e K f; go_simp; exact gX f e) : EachF P l Q a I R D i (o :: rest) :=
 EC k hk (fun dn xv W F a b c d e H K f => oG hg hd ((a s2).trans ((hs2 xv).trans (by have h1 := (H j2 (.edge he2)).2; rw [hV2] at h1; exact h1))) (h dn xv W F ((a s1).trans ((hs1 xv).trans (by have h1 := (H j1 (.edge he1)).2; rw [hV1] at h1; exact h1))) ((a s2).trans ((hs2 xv).trans (by have h1 := (H j2 (.edge he2)).2; rw [hV2] at h1; exact h1))) (m0 dn xv W e) e K f)) t
theorem Eek {M0 : (Nat → Bool) → (Nat → Value) → World → Prop} (k : Nat) (s1 j1 : Nat) (m0 : ∀ dn xv W, I dn xv W → M0 dn xv W) (t : EachF P l Q a I R D k rest) {V1 : Value} (hV1 : D j1 = (fun v _ => v = V1) := by exact rfl) (he1 : edgeB l i j1 = true := by kernel_rfl) (hs1 : ∀ x, lookF l a x s1 = x j1 := by intro; kernel_rfl) (hg : o.guard = none := by exact rfl) (hk : i + 1 = k := by exact rfl)
 (h : ∀ (dn : Nat → Bool) (xv : Nat → Value) (W : World) (F : Act) (f1 : F.tmps.getD s1 undef = V1) (k0 : M0 dn xv W) (e : I dn xv W) (K : Act → World → Prop) (f : Shut (∀ v w', D i v w' → R W w' → I (upB dn i) (upd xv i v) w' → K (F.put o.dst v) w')), Oper.wp P o F W K Q := by intro dn xv W F f1 k0 e K f; go_simp; exact gX f e) : EachF P l Q a I R D i (o :: rest) :=
 EC k hk (fun dn xv W F a b c d e H K f => oP hg (h dn xv W F ((a s1).trans ((hs1 xv).trans (by have h1 := (H j1 (.edge he1)).2; rw [hV1] at h1; exact h1))) (m0 dn xv W e) e K f)) t
theorem Ei (k : Nat) (s1 : Nat) (V1 : Value) (t : EachF P l Q a I R D k rest) (hs1 : ∀ x, lookF l a x s1 = V1 := by intro; kernel_rfl) (hg : o.guard = none := by exact rfl) (hk : i + 1 = k := by exact rfl)
 (h : ∀ (dn : Nat → Bool) (xv : Nat → Value) (W : World) (F : Act) (f1 : F.tmps.getD s1 undef = V1) (e : I dn xv W) (K : Act → World → Prop) (f : Shut (∀ v w', D i v w' → R W w' → I (upB dn i) (upd xv i v) w' → K (F.put o.dst v) w')), Oper.wp P o F W K Q := by intro dn xv W F f1 e K f; go_simp; exact gX f e) : EachF P l Q a I R D i (o :: rest) :=
 EC k hk (fun dn xv W F a b c d e H K f => oP hg (h dn xv W F ((a s1).trans (hs1 xv)) e K f)) t
theorem Eieg (k : Nat) (s1 : Nat) (V1 : Value) (s2 j2 : Nat) (t : EachF P l Q a I R D k rest) (hs1 : ∀ x, lookF l a x s1 = V1 := by intro; kernel_rfl) {bb : Bool} (hV2 : D j2 = (fun v _ => v = .bool bb) := by exact rfl) (he2 : edgeB l i j2 = true := by kernel_rfl) (hs2 : ∀ x, lookF l a x s2 = x j2 := by intro; kernel_rfl) {gn : Nat} (hg : o.guard = some (gn, bb) := by exact rfl) (hd : (l.toArray[gn]?).bind (·.dst) = some s2 := by kernel_rfl) (hk : i + 1 = k := by exact rfl)
 (h : ∀ (dn : Nat → Bool) (xv : Nat → Value) (W : World) (F : Act) (f1 : F.tmps.getD s1 undef = V1) (f2 : F.tmps.getD s2 undef = .bool bb) (e : I dn xv W) (K : Act → World → Prop) (f : Shut (∀ v w', D i v w' → R W w' → I (upB dn i) (upd xv i v) w' → K (F.put o.dst v) w')), Oper.wp P o F W K Q := by intro dn xv W F f1 f2 e K f; go_simp; exact gX f e) : EachF P l Q a I R D i (o :: rest) :=
 EC k hk (fun dn xv W F a b c d e H K f => oG hg hd ((a s2).trans ((hs2 xv).trans (by have h1 := (H j2 (.edge he2)).2; rw [hV2] at h1; exact h1))) (h dn xv W F ((a s1).trans (hs1 xv)) ((a s2).trans ((hs2 xv).trans (by have h1 := (H j2 (.edge he2)).2; rw [hV2] at h1; exact h1))) e K f)) t
theorem En (k : Nat) (t : EachF P l Q a I R D k rest) (hg : o.guard = none := by exact rfl) (hk : i + 1 = k := by exact rfl)
 (h : ∀ (dn : Nat → Bool) (xv : Nat → Value) (W : World) (F : Act) (e : I dn xv W) (K : Act → World → Prop) (f : Shut (∀ v w', D i v w' → R W w' → I (upB dn i) (upd xv i v) w' → K (F.put o.dst v) w')), Oper.wp P o F W K Q := by intro dn xv W F  e K f; go_simp; exact gX f e) : EachF P l Q a I R D i (o :: rest) :=
 EC k hk (fun dn xv W F a b c d e H K f => oP hg (h dn xv W F  e K f)) t
theorem Ep (k : Nat) (s1 b1 o1 : Nat) (t : EachF P l Q a I R D k rest) (hs1 : ∀ x, lookF l a x s1 = .pointer (some ⟨b1, o1, none⟩) := by intro; kernel_rfl) (hg : o.guard = none := by exact rfl) (hk : i + 1 = k := by exact rfl)
 (h : ∀ (dn : Nat → Bool) (xv : Nat → Value) (W : World) (F : Act) (f1 : F.tmps.getD s1 undef = .pointer (some ⟨b1, o1, none⟩)) (e : I dn xv W) (K : Act → World → Prop) (f : Shut (∀ v w', D i v w' → R W w' → I (upB dn i) (upd xv i v) w' → K (F.put o.dst v) w')), Oper.wp P o F W K Q := by intro dn xv W F f1 e K f; go_simp; exact gX f e) : EachF P l Q a I R D i (o :: rest) :=
 EC k hk (fun dn xv W F a b c d e H K f => oP hg (h dn xv W F ((a s1).trans (hs1 xv)) e K f)) t
theorem Epeg (k : Nat) (s1 b1 o1 : Nat) (s2 j2 : Nat) (t : EachF P l Q a I R D k rest) (hs1 : ∀ x, lookF l a x s1 = .pointer (some ⟨b1, o1, none⟩) := by intro; kernel_rfl) {bb : Bool} (hV2 : D j2 = (fun v _ => v = .bool bb) := by exact rfl) (he2 : edgeB l i j2 = true := by kernel_rfl) (hs2 : ∀ x, lookF l a x s2 = x j2 := by intro; kernel_rfl) {gn : Nat} (hg : o.guard = some (gn, bb) := by exact rfl) (hd : (l.toArray[gn]?).bind (·.dst) = some s2 := by kernel_rfl) (hk : i + 1 = k := by exact rfl)
 (h : ∀ (dn : Nat → Bool) (xv : Nat → Value) (W : World) (F : Act) (f1 : F.tmps.getD s1 undef = .pointer (some ⟨b1, o1, none⟩)) (f2 : F.tmps.getD s2 undef = .bool bb) (e : I dn xv W) (K : Act → World → Prop) (f : Shut (∀ v w', D i v w' → R W w' → I (upB dn i) (upd xv i v) w' → K (F.put o.dst v) w')), Oper.wp P o F W K Q := by intro dn xv W F f1 f2 e K f; go_simp; exact gX f e) : EachF P l Q a I R D i (o :: rest) :=
 EC k hk (fun dn xv W F a b c d e H K f => oG hg hd ((a s2).trans ((hs2 xv).trans (by have h1 := (H j2 (.edge he2)).2; rw [hV2] at h1; exact h1))) (h dn xv W F ((a s1).trans (hs1 xv)) ((a s2).trans ((hs2 xv).trans (by have h1 := (H j2 (.edge he2)).2; rw [hV2] at h1; exact h1))) e K f)) t
theorem Epegk {M0 : (Nat → Bool) → (Nat → Value) → World → Prop} (k : Nat) (s1 b1 o1 : Nat) (s2 j2 : Nat) (m0 : ∀ dn xv W, I dn xv W → M0 dn xv W) (t : EachF P l Q a I R D k rest) (hs1 : ∀ x, lookF l a x s1 = .pointer (some ⟨b1, o1, none⟩) := by intro; kernel_rfl) {bb : Bool} (hV2 : D j2 = (fun v _ => v = .bool bb) := by exact rfl) (he2 : edgeB l i j2 = true := by kernel_rfl) (hs2 : ∀ x, lookF l a x s2 = x j2 := by intro; kernel_rfl) {gn : Nat} (hg : o.guard = some (gn, bb) := by exact rfl) (hd : (l.toArray[gn]?).bind (·.dst) = some s2 := by kernel_rfl) (hk : i + 1 = k := by exact rfl)
 (h : ∀ (dn : Nat → Bool) (xv : Nat → Value) (W : World) (F : Act) (f1 : F.tmps.getD s1 undef = .pointer (some ⟨b1, o1, none⟩)) (f2 : F.tmps.getD s2 undef = .bool bb) (k0 : M0 dn xv W) (e : I dn xv W) (K : Act → World → Prop) (f : Shut (∀ v w', D i v w' → R W w' → I (upB dn i) (upd xv i v) w' → K (F.put o.dst v) w')), Oper.wp P o F W K Q := by intro dn xv W F f1 f2 k0 e K f; go_simp; exact gX f e) : EachF P l Q a I R D i (o :: rest) :=
 EC k hk (fun dn xv W F a b c d e H K f => oG hg hd ((a s2).trans ((hs2 xv).trans (by have h1 := (H j2 (.edge he2)).2; rw [hV2] at h1; exact h1))) (h dn xv W F ((a s1).trans (hs1 xv)) ((a s2).trans ((hs2 xv).trans (by have h1 := (H j2 (.edge he2)).2; rw [hV2] at h1; exact h1))) (m0 dn xv W e) e K f)) t
theorem Epk {M0 : (Nat → Bool) → (Nat → Value) → World → Prop} (k : Nat) (s1 b1 o1 : Nat) (m0 : ∀ dn xv W, I dn xv W → M0 dn xv W) (t : EachF P l Q a I R D k rest) (hs1 : ∀ x, lookF l a x s1 = .pointer (some ⟨b1, o1, none⟩) := by intro; kernel_rfl) (hg : o.guard = none := by exact rfl) (hk : i + 1 = k := by exact rfl)
 (h : ∀ (dn : Nat → Bool) (xv : Nat → Value) (W : World) (F : Act) (f1 : F.tmps.getD s1 undef = .pointer (some ⟨b1, o1, none⟩)) (k0 : M0 dn xv W) (e : I dn xv W) (K : Act → World → Prop) (f : Shut (∀ v w', D i v w' → R W w' → I (upB dn i) (upd xv i v) w' → K (F.put o.dst v) w')), Oper.wp P o F W K Q := by intro dn xv W F f1 k0 e K f; go_simp; exact gX f e) : EachF P l Q a I R D i (o :: rest) :=
 EC k hk (fun dn xv W F a b c d e H K f => oP hg (h dn xv W F ((a s1).trans (hs1 xv)) (m0 dn xv W e) e K f)) t
end
theorem wRG {P : Program} {l : List Oper} {Q : Exit → Act → World → Prop} {a : Act} {id : Nat} {w : World} (I : (Nat → Bool) → (Nat → Value) → World → Prop) (R : World → World → Prop) (ds : List (Value → World → Prop)) (hI : ∀ x, I (fun _ => false) x w.drew) (hop : EachF P l Q a I R (Dl ds) 0 l) (hend : ∀ d x w, I d x w → (∀ j, j < l.length → d j = true ∧ Dl ds j (x j) w) → Q .normal (putAll l 0 x a) w) (hm : P.follows .mixedOrders = true := by kernel_rfl)
 (hap : apartB (l.map (·.dst)) = true := by kernel_rfl) (htop : topB l = true := by kernel_rfl) (hin : inB l a.tmps.size = true := by kernel_rfl) (hD : AllKeep R ds := by repeat (first | exact trivial | refine ⟨fun _ _ _ _ h => h, ?_⟩)) : (Code.region id l.toArray true).wp P Q a w := wRF I R ds hm hap htop hin hI hD hop hend
end Go.Proofs.Ytngegjboenfmeaa
/- May a life be? The walks of proc.May and of the document's. (Out of XLet, for a seat without layer 2.) -/
namespace Go.Proofs.Ytngegjboenfmeaa
open Go Go.RowKit
set_option linter.unusedVariables false
set_option maxRecDepth 100000

def mayPB (node : Int) (inc : Nat) : Bool := decide (1 ≤ node ∧ node ≤ 10 ∧ inc ≠ 0)
theorem ret_bool {b c : Bool} (h : b = c) : Ending.returned (.bool c) = Ending.returned (.bool b) := by rw [h]
theorem below_box {w : World} (o : Obj) : Below w.heap.size w (w.alloc o) := (Below.refl _ _).alloc (Nat.le_refl _) _
set_option maxHeartbeats 800000 in
theorem procMay_any (w : World) (node : Int) (inc : Nat) : Calls Try.prog 45 #[.agg #[.int .i64 node, .int .u64 (inc : Int)]] w fun e w' => e = .returned (.bool (mayPB node inc)) ∧ Below w.heap.size w w' := by
 by_cases h1 : 1 ≤ node
 ·by_cases h2 : node ≤ 10
  ·by_cases h3 : inc = 0
   ·have e_inc : (((inc : Nat) : Int) == 0) = true := by simp; omega
    have d_inc : (((inc : Nat) : Int) != 0) = false := by simp; omega
    have g_inc : decide ((0 : Int) < ((inc : Nat) : Int)) = false := decide_eq_false (by omega); go_enter Try.func45, Try.ntmps45; go_wp2
    go_ret
    exact ⟨ret_bool (decide_eq_false (by omega)), below_box _⟩
   ·have e_inc : (((inc : Nat) : Int) == 0) = false := by simp; omega
    have d_inc : (((inc : Nat) : Int) != 0) = true := by simp; omega
    have g_inc : decide ((0 : Int) < ((inc : Nat) : Int)) = true := decide_eq_true (by omega); go_enter Try.func45, Try.ntmps45; go_wp2
    go_ret
    exact ⟨ret_bool (by first | exact decide_eq_true (by omega) | exact decide_eq_decide.2 (by omega)), below_box _⟩
  ·go_enter Try.func45, Try.ntmps45
   go_wp2
   go_ret
   exact ⟨ret_bool (decide_eq_false (by omega)), below_box _⟩
 ·go_enter Try.func45, Try.ntmps45
  go_wp2
  go_ret
  exact ⟨ret_bool (decide_eq_false (by omega)), below_box _⟩
set_option maxHeartbeats 800000 in
theorem ref03May_any (w : World) (node : Int) (inc : Nat) : Calls Try.prog 46 #[.agg #[.int .i64 node, .int .u64 (inc : Int)]] w fun e w' => e = .returned (.bool (mayPB node inc)) ∧ Below w.heap.size w w' := by
 by_cases h1 : 1 ≤ node
 ·by_cases h2 : node ≤ 10
  ·by_cases h3 : inc = 0
   ·have e_inc : (((inc : Nat) : Int) == 0) = true := by simp; omega
    have d_inc : (((inc : Nat) : Int) != 0) = false := by simp; omega
    have g_inc : decide ((0 : Int) < ((inc : Nat) : Int)) = false := decide_eq_false (by omega); go_enter Try.func46, Try.ntmps46; go_wp2
    go_ret
    exact ⟨ret_bool (decide_eq_false (by omega)), below_box _⟩
   ·have e_inc : (((inc : Nat) : Int) == 0) = false := by simp; omega
    have d_inc : (((inc : Nat) : Int) != 0) = true := by simp; omega
    have g_inc : decide ((0 : Int) < ((inc : Nat) : Int)) = true := decide_eq_true (by omega); go_enter Try.func46, Try.ntmps46; go_wp2
    go_ret
    exact ⟨ret_bool (by first | exact decide_eq_true (by omega) | exact decide_eq_decide.2 (by omega)), below_box _⟩
  ·go_enter Try.func46, Try.ntmps46
   go_wp2
   go_ret
   exact ⟨ret_bool (decide_eq_false (by omega)), below_box _⟩
 ·go_enter Try.func46, Try.ntmps46
  go_wp2
  go_ret
  exact ⟨ret_bool (decide_eq_false (by omega)), below_box _⟩
end Go.Proofs.Ytngegjboenfmeaa
/- Frames: may one be? The program's answer and the document's. -/
namespace Go.Proofs.Ytngegjboenfmeaa
open Go Go.RowKit
set_option linter.unusedVariables false
set_option maxRecDepth 100000

/-- a frame, its body but by its bytes -/
structure Fr where
 kind : Int
 fr : Int
 to : Int
 inc : Nat
 conn : Nat
 pinc : Nat
 pconn : Nat
 ack : Nat
 seq : Nat
 body : List UInt8
/-- its ten cells -/
def Fr.cells (f : Fr) (A : Option Addr) (c : Nat) : Array Value := #[.int .i64 f.kind, .int .i64 f.fr, .int .i64 f.to, .int .u64 (f.inc : Int), .int .u64 (f.conn : Int), .int .u64 (f.pinc : Int), .int .u64 (f.pconn : Int), .int .u64 (f.ack : Int), .int .u64 (f.seq : Int), .slice A f.body.length c]
def Fr.nil : Fr := ⟨0, 0, 0, 0, 0, 0, 0, 0, 0, []⟩

def nodeB (n : Int) : Bool := decide (1 ≤ n ∧ n ≤ 10)
def countB (x : Nat) : Bool := decide (x < 34359738368)
/-- may a frame be? -/
def mayB (kind fr to : Int) (inc conn pinc pconn ack seq n : Nat) : Bool :=
 decide ((1 ≤ fr ∧ fr ≤ 10) ∧ (1 ≤ to ∧ to ≤ 10) ∧ fr ≠ to ∧ (inc < 34359738368 ∧ conn < 34359738368 ∧ pinc < 34359738368 ∧ pconn < 34359738368 ∧ ack < 34359738368 ∧ seq < 34359738368) ∧ inc ≠ 0 ∧ conn ≠ 0 ∧
  ((pinc = 0 ∧ pconn = 0 ∧ ack = 0) ∨ (pinc ≠ 0 ∧ pconn ≠ 0)) ∧ ((kind = 1 ∧ seq = 0 ∧ n = 0) ∨ (kind = 2 ∧ pinc ≠ 0 ∧ pconn ≠ 0 ∧ seq ≠ 0 ∧ 1 ≤ n ∧ n ≤ 448)))
set_option maxHeartbeats 400000 in
theorem node_any (w : World) (n : Int) : Calls Try.prog 61 #[.int .i64 n] w fun e w' => e = .returned (.bool (nodeB n)) ∧ w = w' := by
 by_cases h1 : 1 ≤ n
 ·by_cases h2 : n ≤ 10
  ·go_enter Try.func61, Try.ntmps61
   go_wp2
   go_ret
   exact ⟨ret_bool (by simp [nodeB, h1, h2]), rfl⟩
  ·go_enter Try.func61, Try.ntmps61
   go_wp2
   go_ret
   exact ⟨ret_bool (by simp [nodeB, h1, h2]), rfl⟩
 ·go_enter Try.func61, Try.ntmps61
  go_wp2
  go_ret
  exact ⟨ret_bool (decide_eq_false (by omega)), rfl⟩
set_option maxHeartbeats 400000 in
theorem refNode_any (w : World) (n : Int) : Calls Try.prog 48 #[.int .i64 n] w fun e w' => e = .returned (.bool (nodeB n)) ∧ w = w' := by
 by_cases h1 : 1 ≤ n
 ·by_cases h2 : n ≤ 10
  ·go_enter Try.func48, Try.ntmps48
   go_wp2
   go_ret
   exact ⟨ret_bool (by simp [nodeB, h1, h2]), rfl⟩
  ·go_enter Try.func48, Try.ntmps48
   go_wp2
   go_ret
   exact ⟨ret_bool (by simp [nodeB, h1, h2]), rfl⟩
 ·go_enter Try.func48, Try.ntmps48
  go_wp2
  go_ret
  exact ⟨ret_bool (decide_eq_false (by omega)), rfl⟩
set_option maxHeartbeats 400000 in
theorem refCount_any (w : World) (x : Nat) : Calls Try.prog 47 #[.int .u64 (x : Int)] w fun e w' => e = .returned (.bool (countB x)) ∧ w = w' := by
 go_enter Try.func47, Try.ntmps47
 go_wp2
 go_ret
 exact ⟨ret_bool (decide_eq_decide.2 (by omega)), rfl⟩

theorem nodeB_yes {n : Int} (h : 1 ≤ n ∧ n ≤ 10) : nodeB n = true := decide_eq_true h
theorem nodeB_no {n : Int} (h : ¬ (1 ≤ n ∧ n ≤ 10)) : nodeB n = false := decide_eq_false h
theorem countB_yes {x : Nat} (h : x < 34359738368) : countB x = true := decide_eq_true h
theorem countB_no {x : Nat} (h : ¬ x < 34359738368) : countB x = false := decide_eq_false h
end Go.Proofs.Ytngegjboenfmeaa
/- A nil link, and one that New did not make: what its methods answer. -/
namespace Go.Proofs.Ytngegjboenfmeaa
open Go Go.RowKit
set_option linter.unusedVariables false
set_option maxRecDepth 100000
set_option linter.unusedSimpArgs false

/-- a link that New did not make -/
def NoLk (w : World) (p : Option Addr) : Prop := p = none ∨ ∃ g, p = some ⟨g, 0, none⟩ ∧ g < w.heap.size ∧ w.cell? ⟨g, 3, none⟩ = some (.int .i64 0)
theorem NoLk.below {w w' : World} {p : Option Addr} (h : NoLk w p) (hb : Below w.heap.size w w') : NoLk w' p := by
 rcases h with h | ⟨g, h1, h2, h3⟩
 ·exact .inl h
 ·exact .inr ⟨g, h1, Nat.lt_of_lt_of_le h2 hb.size, (hb.cell (p := ⟨g, 3, none⟩) h2).trans h3⟩
theorem NoLk.alloc {w : World} {p : Option Addr} (h : NoLk w p) (o : Obj) : NoLk (w.alloc o) p := h.below ((Below.refl _ _).alloc (Nat.le_refl _) _)
def NoAns (v : Value) : Prop := v = .agg #[.slice none 0 0, .slice none 0 0]
end Go.Proofs.Ytngegjboenfmeaa
/- The hello of a link. -/
namespace Go.Proofs.Ytngegjboenfmeaa
open Go Go.RowKit
set_option linter.unusedVariables false
set_option maxRecDepth 100000
set_option linter.unusedSimpArgs false

/-- a link that New made: its twelve cells -/
def lkCells (base : Nat) (bx : Value) (got : Nat) (sn : Int) (si : Nat) (peer : Int) (conn inc known : Nat) (up : Bool) (heard sent : Nat) : Array Value := #[.int .u64 (base : Int), bx, .int .u64 (got : Int), .int .i64 sn, .int .u64 (si : Int), .int .i64 peer, .int .u64 (conn : Int), .int .u64 (inc : Int), .int .u64 (known : Int), .bool up, .int .u64 (heard : Int), .int .u64 (sent : Int)]
def heCells (got : Nat) (sn : Int) (si : Nat) (peer : Int) (conn inc known : Nat) : Array Value := #[.int .i64 1, .int .i64 sn, .int .i64 peer, .int .u64 (si : Int), .int .u64 (conn : Int), .int .u64 (inc : Int), .int .u64 (known : Int), .int .u64 (got : Int), .int .u64 0, .slice none 0 0]
set_option maxHeartbeats 1600000 in
theorem hello_any (w : World) (g base : Nat) (bx : Value) (got : Nat) (sn : Int) (si : Nat) (peer : Int) (conn inc known : Nat) (up : Bool) (heard sent : Nat) (h : w.heap[g]? = some (.cells (lkCells base bx got sn si peer conn inc known up heard sent) 72 (0, 0))) :
  Calls Try.prog 37 #[.pointer (some ⟨g, 0, none⟩)] w fun e w' => e = .returned (.agg (heCells got sn si peer conn inc known)) ∧ Below w.heap.size w w' := by
 have HG := Lib.hid (lt_of_heap h); have HC0 : Hid (w.cell? ⟨g, 0, none⟩ = some (.int .u64 (base : Int))) := Lib.hid (by rw [cell_of_row w g 0 _ _ _ h]; rfl); have HC1 : Hid (w.cell? ⟨g, 1, none⟩ = some (bx)) := Lib.hid (by rw [cell_of_row w g 1 _ _ _ h]; rfl); have HC2 : Hid (w.cell? ⟨g, 2, none⟩ = some (.int .u64 (got : Int))) := Lib.hid (by rw [cell_of_row w g 2 _ _ _ h]; rfl); have HC3 : Hid (w.cell? ⟨g, 3, none⟩ = some (.int .i64 sn)) := Lib.hid (by rw [cell_of_row w g 3 _ _ _ h]; rfl); have HC4 : Hid (w.cell? ⟨g, 4, none⟩ = some (.int .u64 (si : Int))) := Lib.hid (by rw [cell_of_row w g 4 _ _ _ h]; rfl); have HC5 : Hid (w.cell? ⟨g, 5, none⟩ = some (.int .i64 peer)) := Lib.hid (by rw [cell_of_row w g 5 _ _ _ h]; rfl); have HC6 : Hid (w.cell? ⟨g, 6, none⟩ = some (.int .u64 (conn : Int))) := Lib.hid (by rw [cell_of_row w g 6 _ _ _ h]; rfl); have HC7 : Hid (w.cell? ⟨g, 7, none⟩ = some (.int .u64 (inc : Int))) := Lib.hid (by rw [cell_of_row w g 7 _ _ _ h]; rfl); have HC8 : Hid (w.cell? ⟨g, 8, none⟩ = some (.int .u64 (known : Int))) := Lib.hid (by rw [cell_of_row w g 8 _ _ _ h]; rfl); have HC9 : Hid (w.cell? ⟨g, 9, none⟩ = some (.bool up)) := Lib.hid (by rw [cell_of_row w g 9 _ _ _ h]; rfl); have HC10 : Hid (w.cell? ⟨g, 10, none⟩ = some (.int .u64 (heard : Int))) := Lib.hid (by rw [cell_of_row w g 10 _ _ _ h]; rfl); have HC11 : Hid (w.cell? ⟨g, 11, none⟩ = some (.int .u64 (sent : Int))) := Lib.hid (by rw [cell_of_row w g 11 _ _ _ h]; rfl); have HS0 := Lib.hid (show Sep w (w.alloc (.cells #[.int .i64 0, .int .i64 0, .int .i64 0, .int .u64 0, .int .u64 0, .int .u64 0, .int .u64 0, .int .u64 0, .int .u64 0, .slice none 0 0] 51)) [Ce w.heap.size 51 #[.int .i64 0, .int .i64 0, .int .i64 0, .int .u64 0, .int .u64 0, .int .u64 0, .int .u64 0, .int .u64 0, .int .u64 0, .slice none 0 0]] from sep_ce (Sep.nil w) _ _); have HBL : ∀ (dn : Nat → Bool) (W : World), (if dn 32 = true then Sep w W [Ce w.heap.size 51 #[.int .i64 1, .int .i64 sn, .int .i64 peer, .int .u64 (si : Int), .int .u64 (conn : Int), .int .u64 (inc : Int), .int .u64 (known : Int), .int .u64 (got : Int), .int .u64 0, .slice none 0 0]] else Sep w W [Ce w.heap.size 51 #[.int .i64 0, .int .i64 0, .int .i64 0, .int .u64 0, .int .u64 0, .int .u64 0, .int .u64 0, .int .u64 0, .int .u64 0, .slice none 0 0]]) → Below w.heap.size w W := fun dn W h => by split at h <;> exact h.bel
 clear h; unfold heCells; go_enter Try.func37, Try.ntmps37
 go_wp2_with fail
 refine wRG (fun dn xv W => if dn 32 = true then Sep w W [Ce w.heap.size 51 #[.int .i64 1, .int .i64 sn, .int .i64 peer, .int .u64 (si : Int), .int .u64 (conn : Int), .int .u64 (inc : Int), .int .u64 (known : Int), .int .u64 (got : Int), .int .u64 0, .slice none 0 0]] else Sep w W [Ce w.heap.size 51 #[.int .i64 0, .int .i64 0, .int .i64 0, .int .u64 0, .int .u64 0, .int .u64 0, .int .u64 0, .int .u64 0, .int .u64 0, .slice none 0 0]]) (fun _ _ => True) [xP_ g 0, xP_ g 0, xP_ g 3, xP_ g 3, xV_ (.int .i64 sn), xP_ g 0, xP_ g 0, xP_ g 5, xV_ (.int .i64 peer), xP_ g 0, xP_ g 0, xP_ g 3, xP_ g 4, xV_ (.int .u64 (si : Int)), xP_ g 0, xP_ g 0, xP_ g 6, xV_ (.int .u64 (conn : Int)), xP_ g 0, xP_ g 0, xP_ g 7, xV_ (.int .u64 (inc : Int)), xP_ g 0, xP_ g 0, xP_ g 8, xV_ (.int .u64 (known : Int)), xP_ g 0, xP_ g 0, xP_ g 2, xP_ g 2, xV_ (.int .u64 (got : Int)), xV_ (.agg #[.int .i64 1, .int .i64 sn, .int .i64 peer, .int .u64 (si : Int), .int .u64 (conn : Int), .int .u64 (inc : Int), .int .u64 (known : Int), .int .u64 (got : Int), .int .u64 0, .slice none 0 0]), fun v _ => True] (fun xv => by simpa using HS0.out.drew) ?_ ?_
 ·refine Ep 1 0 g 0 ?_
  refine Ee 2 3 0 ?_
  refine Ee 3 4 1 ?_
  refine Ee 4 5 2 ?_
  refine Eek 5 6 3 (fun h _ W e => ((HBL h W e).cell (p := ⟨g, 3, none⟩) HG.out).trans HC3.out) ?_
  refine Ep 6 0 g 0 ?_
  refine Ee 7 8 5 ?_
  refine Ee 8 9 6 ?_
  refine Eek 9 10 7 (fun h _ W e => ((HBL h W e).cell (p := ⟨g, 5, none⟩) HG.out).trans HC5.out) ?_
  refine Ep 10 0 g 0 ?_
  refine Ee 11 12 9 ?_
  refine Ee 12 13 10 ?_
  refine Ee 13 14 11 ?_
  refine Eek 14 15 12 (fun h _ W e => ((HBL h W e).cell (p := ⟨g, 4, none⟩) HG.out).trans HC4.out) ?_
  refine Ep 15 0 g 0 ?_
  refine Ee 16 17 14 ?_
  refine Ee 17 18 15 ?_
  refine Eek 18 19 16 (fun h _ W e => ((HBL h W e).cell (p := ⟨g, 6, none⟩) HG.out).trans HC6.out) ?_
  refine Ep 19 0 g 0 ?_
  refine Ee 20 21 18 ?_
  refine Ee 21 22 19 ?_
  refine Eek 22 23 20 (fun h _ W e => ((HBL h W e).cell (p := ⟨g, 7, none⟩) HG.out).trans HC7.out) ?_
  refine Ep 23 0 g 0 ?_
  refine Ee 24 25 22 ?_
  refine Ee 25 26 23 ?_
  refine Eek 26 27 24 (fun h _ W e => ((HBL h W e).cell (p := ⟨g, 8, none⟩) HG.out).trans HC8.out) ?_
  refine Ep 27 0 g 0 ?_
  refine Ee 28 29 26 ?_
  refine Ee 29 30 27 ?_
  refine Ee 30 31 28 ?_
  refine Eek 31 32 29 (fun h _ W e => ((HBL h W e).cell (p := ⟨g, 2, none⟩) HG.out).trans HC2.out) ?_
  refine EC 32 rfl (fun g h W F a b c d e H K f => ?_) ?_
  ·have f7 := gE (a 7) (by kernel_rfl) (H 4) (by kernel_rfl); have f11 := gE (a 11) (by kernel_rfl) (H 8) (by kernel_rfl); have f16 := gE (a 16) (by kernel_rfl) (H 13) (by kernel_rfl); have f20 := gE (a 20) (by kernel_rfl) (H 17) (by kernel_rfl); have f24 := gE (a 24) (by kernel_rfl) (H 21) (by kernel_rfl); have f28 := gE (a 28) (by kernel_rfl) (H 25) (by kernel_rfl); have f33 := gE (a 33) (by kernel_rfl) (H 30) (by kernel_rfl); clear H c b d a; refine oP rfl ?_; have g7 := f7; have g11 := f11; have g16 := f16; have g20 := f20; have g24 := f24; have g28 := f28; have g33 := f33; rw [Array.getD_eq_getD_getElem?] at g7 g11 g16 g20 g24 g28 g33; go_simp; exact f.out _ _ rfl trivial e
  refine EC 33 rfl (fun g h W F a b c d e H K f => ?_) ?_
  ·have f2 : F.tmps.getD 2 undef = .pointer (some ⟨w.heap.size, 0, none⟩) := (a 2).trans (by kernel_rfl); have f34 := gE (a 34) (by kernel_rfl) (H 31) (by kernel_rfl); rw [if_neg (by simp [b])] at e; have hS := e; clear e c b d a H; refine oP rfl ?_; have k0 := cA (i := 0) hS rfl 0 rfl; have y0 := cFz (i := 0) hS rfl 0; have k1 := cA (i := 0) hS rfl 1 rfl; have y1 := cFz (i := 0) hS rfl 1; have k2 := cA (i := 0) hS rfl 2 rfl; have y2 := cFz (i := 0) hS rfl 2; have k3 := cA (i := 0) hS rfl 3 rfl; have y3 := cFz (i := 0) hS rfl 3; have k4 := cA (i := 0) hS rfl 4 rfl; have y4 := cFz (i := 0) hS rfl 4; have k5 := cA (i := 0) hS rfl 5 rfl; have y5 := cFz (i := 0) hS rfl 5; have k6 := cA (i := 0) hS rfl 6 rfl; have y6 := cFz (i := 0) hS rfl 6; have k7 := cA (i := 0) hS rfl 7 rfl; have y7 := cFz (i := 0) hS rfl 7; have k8 := cA (i := 0) hS rfl 8 rfl; have y8 := cFz (i := 0) hS rfl 8; have k9 := cA (i := 0) hS rfl 9 rfl; have y9 := cFz (i := 0) hS rfl 9; have hs := sep_put10c (i := 0) hS rfl (.int .i64 1) (.int .i64 sn) (.int .i64 peer) (.int .u64 (si : Int)) (.int .u64 (conn : Int)) (.int .u64 (inc : Int)) (.int .u64 (known : Int)) (.int .u64 (got : Int)) (.int .u64 0) (.slice none 0 0); go_simp; exact f.out undef _ trivial trivial (by simpa [upB, upd] using hs)
  exact EN
 ·intro dn xv W hI H; have qe : dn 32 = true := (H 32 (of_decide_eq_true (by kernel_rfl))).1; rw [if_pos qe] at hI; have hS := hI; clear H hI qe; simp only [putAll, Act.put, List.setIfInBounds_toArray, List.set_cons_zero, List.set_cons_succ, Nat.reduceAdd]; have HS1 := Lib.hid hS; clear hS; have k0 := cA (i := 0) HS1.out rfl 0 rfl; have k1 := cA (i := 0) HS1.out rfl 1 rfl; have k2 := cA (i := 0) HS1.out rfl 2 rfl; have k3 := cA (i := 0) HS1.out rfl 3 rfl; have k4 := cA (i := 0) HS1.out rfl 4 rfl; have k5 := cA (i := 0) HS1.out rfl 5 rfl; have k6 := cA (i := 0) HS1.out rfl 6 rfl; have k7 := cA (i := 0) HS1.out rfl 7 rfl; have k8 := cA (i := 0) HS1.out rfl 8 rfl; have k9 := cA (i := 0) HS1.out rfl 9 rfl
  go_wp2_with fail
  refine bodyPost_ret (v := .agg #[.int .i64 1, .int .i64 sn, .int .i64 peer, .int .u64 (si : Int), .int .u64 (conn : Int), .int .u64 (inc : Int), .int .u64 (known : Int), .int .u64 (got : Int), .int .u64 0, .slice none 0 0]) (by simp [results, Try.results37, go_sem, k0, k1, k2, k3, k4, k5, k6, k7, k8, k9]) rfl ?_; exact ⟨rfl, HS1.out.bel⟩
end Go.Proofs.Ytngegjboenfmeaa
/- Claims on a region's results that outlast what the other operations do. -/
namespace Go.Proofs.Ytngegjboenfmeaa
open Go Go.RowKit
set_option linter.unusedVariables false
/-- a slice that holds these bytes -/
def IsB (l : List UInt8) (v : Value) (w : World) : Prop := ∃ A c, v = .slice A l.length c ∧ Has w w.heap.size A (us l)
theorem IsB.keep {l : List UInt8} {v : Value} {w w' : World} (h : IsB l v w) (hb : Below w.heap.size w w') : IsB l v w' := by
 obtain ⟨A, c, e, h⟩ := h; exact ⟨A, c, e, (h.below hb).more hb.size⟩
theorem IsB.of_own {l : List UInt8} {v : Value} {w : World} {base : Nat} (h : Own w base v l) : IsB l v w := by
 obtain ⟨A, c, e, _, _, h⟩ := h.form; exact ⟨A, c, e, h⟩
end Go.Proofs.Ytngegjboenfmeaa
/- Appends of bytes as a step of a region that draws its order. -/
namespace Go.Proofs.Ytngegjboenfmeaa
open Go Go.RowKit
set_option linter.unusedVariables false
theorem op_app {w : World} {o : Oper} {a : Act} {K : Act → World → Prop} {Q : Exit → Act → World → Prop} {s x : Operand} {base B c : Nat} {v : Value} {A : Option Addr} {l m : List UInt8}
  (ho : o.op = .call { callee := .builtin .append, args := #[s, x], argTypes := #[47, 47] }) (hs : a.eval s = v) (hx : a.eval x = .slice A m.length c)
  (hown : Own w base v l) (hr : Has w B A (us m)) (hlen : l.length + m.length ≤ 100000000000000) (hbase : base ≤ w.heap.size)
  (h : ∀ v' w', Own w' base v' (l ++ m) → Below base w w' → w.grownBy w' v.ownBlock → (v'.ownBlock = v.ownBlock ∨ v'.ownBlock = some w.heap.size) → K (a.put o.dst v') w') : Oper.wp Try.prog o a w K Q := by
 obtain ⟨i0, hi, hz0, hz1, hz2⟩ := info_parts info_u8; obtain ⟨v', w', hrun, h2, h3, h4⟩ := run_append_has (P := Try.prog) w base 47 o.type 5 i0 _ 1 1 Try.underlying47 hi hz0 hz1 hz2 rfl (by omega) v l.length (us l) hown B A m.length c (us m) (by rw [us_length, Nat.mul_one]) hr (us_one m) (by unfold maxLen; omega) (by omega) hbase; unfold Oper.wp execOp; simp only [ho, resolve, invoke, builtin, Sem.run_bind, Sem.run_pure, Result.andThen_ok, List.map_toArray, List.map_cons, List.map_nil, hs, hx, hrun]; exact h v' w' (by unfold Own; rw [List.length_append, us_append]; exact h2) ((Below.refl _ _).grown h3 hbase (fun k hk => (hown.lt k hk).1)) h3 h4
end Go.Proofs.Ytngegjboenfmeaa
/- Rows of one's own, of any element, as things that lie apart; an append in a drawn region. -/
namespace Go.Proofs.Ytngegjboenfmeaa
open Go Go.RowKit
set_option linter.unusedVariables false
set_option maxRecDepth 100000

/-- a row of one's own: n elements of so many cells -/
def Rw (e : TypeId) (size : Nat) (v : Value) (n : Nat) (xs : List Value) : SP := fun w F => w.ownsRow 0 e size v n xs ∧ ∀ k, F k ↔ v.ownBlock = some k
theorem ownsRow_keep {w w' : World} {base : Nat} {e : TypeId} {size : Nat} {v : Value} {n : Nat} {xs : List Value} (h : w.ownsRow base e size v n xs) (hk : ∀ k, v.ownBlock = some k → w'.heap[k]? = w.heap[k]?) : w'.ownsRow base e size v n xs := by
 refine ⟨h.1, ?_⟩
 rcases h.2 with q | ⟨k, cap, cur, rfl, f1, f2, f3⟩
 ·exact .inl q
 ·exact .inr ⟨k, cap, cur, rfl, f1, by rw [hk k rfl]; exact f2, f3⟩
theorem Rw.loc (e : TypeId) (size : Nat) (v : Value) (n : Nat) (xs : List Value) : Loc (Rw e size v n xs) where
 keep := by
  rintro w w' F ⟨h, hF⟩ hk; exact ⟨ownsRow_keep h fun k hv => hk k ((hF k).2 hv), hF⟩
 lt := by
  rintro w F ⟨h, hF⟩ k hk; exact (h.lt k ((hF k).1 hk)).2
section
variable {w0 w w' : World} {Ps : List SP} {i : Nat} {e : TypeId} {size n : Nat} {v v' : Value} {xs xs' : List Value}
theorem ownsRow_form {base : Nat} (h : w.ownsRow base e size v n xs) : ∃ A c, v = .slice A n c ∧ n ≤ c ∧ c ≤ maxLen ∧ Has w w.heap.size A xs := by
 have h0 := h
 rcases h.2 with ⟨rfl, hn⟩ | ⟨g, cap, cur, rfl, _, _, hnc, hm, _⟩
 ·refine ⟨none, 0, by rw [hn], by omega, by unfold maxLen; omega, ?_⟩; have h1 := h.1; rw [hn, Nat.zero_mul] at h1; rw [List.eq_nil_of_length_eq_zero h1]; exact Has.nil
 ·exact ⟨_, cap, rfl, hnc, hm, Has.of_own h0⟩
theorem sep_rwForm (h : Sep w0 w Ps) (hi : Ps[i]? = some (Rw e size v n xs)) : ∃ A c, v = .slice A n c ∧ n ≤ c ∧ c ≤ maxLen ∧ Has w w.heap.size A xs := by
 obtain ⟨F, h⟩ := h.get hi; exact ownsRow_form h.1
theorem sep_rwNil (h : Sep w0 w Ps) (e : TypeId) (size : Nat) : Sep w0 w (Ps ++ [Rw e size (.slice none 0 0) 0 []]) :=
 h.add (F := fun _ => False) (Below.refl _ _) ⟨World.ownsRow_nil _ _ _ _, fun k => by simp [Value.ownBlock]⟩ (Rw.loc _ _ _ _ _) (fun k h => h.elim)
theorem sep_rwGrown {n' : Nat} (h : Sep w0 w Ps) (hi : Ps[i]? = some (Rw e size v n xs)) (ho : w'.ownsRow 0 e size v' n' xs') (hg : w.grownBy w' v.ownBlock) (hat : v'.ownBlock = v.ownBlock ∨ v'.ownBlock = some w.heap.size) : Sep w0 w' (Ps.set i (Rw e size v' n' xs')) := by
 obtain ⟨F, ⟨h1, hF⟩, hL, hlt, hk⟩ := h.upd hi; refine hk w' _ (fun k => v'.ownBlock = some k) ⟨hg.os, hg.tape, hg.output, hg.size, fun k hk hnF => hg.block k hk (fun q => hnF ((hF k).2 q.symm)), fun k hk => ?_⟩ ⟨ho, fun k => Iff.rfl⟩ (Rw.loc _ _ _ _ _)
 rcases hat with q | q
 ·exact .inl ((hF k).2 (by rw [← q]; exact hk))
 ·rw [q] at hk; injection hk with hk; exact .inr (by omega)
end
/-- what is to be known of a row's type -/
def RowTy (t e : TypeId) (size bytes : Nat) : Prop := Try.prog.underlying t = some (.slice e) ∧ (∃ i z, Try.prog.info? e = some i ∧ i.zero = some z ∧ i.size = size ∧ i.bytes = bytes ∧ z.cells.size = size) ∧ 0 < size
theorem op_appW {w : World} {o : Oper} {a : Act} {K : Act → World → Prop} {Q : Exit → Act → World → Prop} {s x : Operand} {B c m n : Nat} {v : Value} {A : Option Addr} {t e : TypeId} {size bytes : Nat} {xs news : List Value} (hT : RowTy t e size bytes)
  (ho : o.op = .call { callee := .builtin .append, args := #[s, x], argTypes := #[t, t] }) (hs : a.eval s = v) (hx : a.eval x = .slice A m c)
  (hown : w.ownsRow 0 e size v n xs) (hl : news.length = m * size) (hr : Has w B A news) (h1 : ∀ u ∈ news, u.oneCell' = true) (hlen : n + m ≤ maxLen) (hby : (n + m) * bytes ≤ 140737488355328)
  (h : ∀ v' w', w'.ownsRow 0 e size v' (n + m) (xs ++ news) → w.grownBy w' v.ownBlock → (v'.ownBlock = v.ownBlock ∨ v'.ownBlock = some w.heap.size) → K (a.put o.dst v') w') : Oper.wp Try.prog o a w K Q := by
 obtain ⟨hu, ⟨i0, z, hi, hz0, hz1, hz2, hz3⟩, hp⟩ := hT; obtain ⟨v', w', hrun, h2, h3, h4⟩ := run_append_has (P := Try.prog) w 0 t o.type e i0 z size bytes hu hi hz0 hz1 hz2 hz3 hp v n xs hown B A m c news hl hr h1 hlen hby (Nat.zero_le _); unfold Oper.wp execOp; simp only [ho, resolve, invoke, builtin, Sem.run_bind, Sem.run_pure, Result.andThen_ok, List.map_toArray, List.map_cons, List.map_nil, hs, hx, hrun]; exact h v' w' h2 h3 h4
theorem sep_opAppW {w0 w : World} {Ps : List SP} {i : Nat} {o : Oper} {a : Act} {K : Act → World → Prop} {Q : Exit → Act → World → Prop} {s x : Operand} {B c m n : Nat} {v : Value} {A : Option Addr} {t e : TypeId} {size bytes : Nat} {xs news : List Value} (hT : RowTy t e size bytes)
  (ho : o.op = .call { callee := .builtin .append, args := #[s, x], argTypes := #[t, t] }) (hs : a.eval s = v) (hx : a.eval x = .slice A m c)
  (h : Sep w0 w Ps) (hi : Ps[i]? = some (Rw e size v n xs)) (hl : news.length = m * size) (hr : Has w B A news) (h1 : ∀ u ∈ news, u.oneCell' = true) (hlen : n + m ≤ maxLen) (hby : (n + m) * bytes ≤ 140737488355328)
  (hk : ∀ v' w', Sep w0 w' (Ps.set i (Rw e size v' (n + m) (xs ++ news))) → K (a.put o.dst v') w') : Oper.wp Try.prog o a w K Q := by
 obtain ⟨F, hb⟩ := h.get hi; exact op_appW hT ho hs hx hb.1 hl hr h1 hlen hby fun v' w' h1 h3 h4 => hk v' w' (sep_rwGrown h hi h1 h3 h4)
theorem rowFrames : RowTy 30 51 10 96 := by
 obtain ⟨i0, hi, hz0, hz1, hz2⟩ := info_parts (show (Try.prog.info? 51).map (fun i => (i.zero, i.size, i.bytes)) = some (some (.agg #[.int .i64 0, .int .i64 0, .int .i64 0, .int .u64 0, .int .u64 0, .int .u64 0, .int .u64 0, .int .u64 0, .int .u64 0, .slice none 0 0]), 10, 96) by kernel_rfl); exact ⟨Try.underlying30, ⟨i0, _, hi, hz0, hz1, hz2, rfl⟩, by omega⟩
theorem rowEvents : RowTy 41 49 4 48 := by
 obtain ⟨i0, hi, hz0, hz1, hz2⟩ := info_parts (show (Try.prog.info? 49).map (fun i => (i.zero, i.size, i.bytes)) = some (some (.agg #[.int .i64 0, .int .i64 0, .int .u64 0, .slice none 0 0]), 4, 48) by kernel_rfl); exact ⟨Try.underlying41, ⟨i0, _, hi, hz0, hz1, hz2, rfl⟩, by omega⟩
end Go.Proofs.Ytngegjboenfmeaa
/- A region that draws its order, inside a round of a range over a function: each operation is shown once, as outside. No program in sight. -/
namespace Go.Proofs.Ytngegjboenfmeaa
open Go
set_option linter.unusedVariables false

section
variable {P : Program} {Q : Exit → Act → World → Prop} {n r : Nat}
theorem rows_in {row : String} {args : Array Value} {w : World} {R : Value → World → Prop} (h : Rows P row args w R) : RowsIn (Fence.wide.inRound r) n P row args w R := fun c cs _ =>
 let ⟨v, w', h1, h2⟩ := h c cs
 ⟨v, w', h1, stepsIn_wide.2 h2⟩
theorem oper_in {o : Oper} {a : Act} {w : World} {K : Act → World → Prop} (hd : ∀ c, o.op ≠ .defer c) (h : o.wp P a w K Q) : o.wpIn (Fence.wide.inRound r) n P a w K Q := by
 refine ⟨fun _ _ => trivial, ?_⟩; have e : o.semAt (Fence.wide.inRound r).round a.eval = execOp a.eval o := Oper.semAt_some r a.eval o hd; rw [e]; unfold Oper.wp at h; generalize (execOp a.eval o).run P w = res at *; cases res with
 | ok x w' =>
  cases x with
  | value v => exact h
  | skip => exact h
  | defer d => exact h
  | enter f args => exact ⟨fun h => by simp [Fence.wide] at h, callsIn_wide.2 h⟩
  | row row args => exact ⟨fun h => by simp [Fence.wide] at h, rows_in h⟩
  | _ => exact h.elim
 | halt e w' =>
  cases e with
  | panic v => exact h
  | _ => exact h.elim
theorem wpOpIn_step {ops : Array Oper} {i : Nat} {o : Oper} {K : Act → World → Prop} {a : Act} {w : World} (hd : ∀ c : Call, o.op ≠ .defer c) (ho : ops[i]? = some o)
  (h : ∀ K' : Act → World → Prop, (∀ a w, K a w → K' a w) → if Region.wanted o (yielded ops a.tmps) = true then Oper.wp P o a w K' Q else K' (a.put o.dst undef) w) : wpOpIn (Fence.wide.inRound r) n P ops Q i K a w := by
 have h2 := h K fun _ _ h => h
 unfold wpOpIn; rw [ho]; simp only; split
 ·rename_i hw
  rw [if_pos hw] at h2; exact oper_in hd h2
 ·rename_i hw
  rw [if_neg hw] at h2; exact ⟨fun _ _ => trivial, h2⟩
end

section
variable {P : Program} {l : List Oper} {Q : Exit → Act → World → Prop} {a : Act} {I : (Nat → Bool) → (Nat → Value) → World → Prop} {R : World → World → Prop} {D : Nat → Value → World → Prop}
theorem wpAnyIn_stage {n r : Nat} (hnd : ∀ (i : Nat) (o : Oper), l.toArray[i]? = some o → ∀ c : Call, o.op ≠ .defer c) (hap : apartB (l.map (·.dst)) = true) (htop : topB l = true) (hD : ∀ j v w w', R w w' → D j v w → D j v w')
  (hop : EachOpS P l Q a I R D 0 l) (hend : ∀ d x w, I d x w → (∀ j, j < l.length → d j = true ∧ D j (x j) w) → Q .normal (putAll l 0 x a) w) :
  ∀ (fuel : Nat) (listed : Array Bool) (x : Nat → Value) (w : World), listed.size = l.length → (∀ j k, listed.getD j false = true → edgeB l j k = true → listed.getD k false = true) →
   listed.toList.countP (! ·) ≤ fuel → I (fun j => listed.getD j false) x w → (∀ j, listed.getD j false = false → x j = iniOf l a j) → (∀ j, listed.getD j false = true → D j (x j) w) → wpAnyIn (Fence.wide.inRound r) n P .any l.toArray Q fuel listed (putAll l 0 x a) w := by
 have hall : ∀ (listed : Array Bool), listed.size = l.length → Region.ready .any l.toArray listed = [] → ∀ j, j < l.length → listed.getD j false = true := by
  intro listed hs hr j
  induction j using Nat.strongRecOn with
  | ind j ih =>
   intro hj; cases hl : listed.getD j false with
   | true => rfl
   | false =>
    exfalso; have hm : j ∈ Region.ready .any l.toArray listed := by
     rw [mem_ready]; refine ⟨?_, l[j], by simp [hj], fun e he hb => ?_⟩
     ·have hjs : j < listed.size := by omega
      simp [hjs] at hl ⊢; exact hl
     ·have ht := List.all_eq_true.1 htop j (List.mem_range.2 hj); rw [List.getElem?_eq_getElem hj] at ht; simp only [Option.map_some, Option.getD_some] at ht; have := Array.all_eq_true'.1 ht e he; rw [hb] at this; simp at this; exact ih e.on this (by omega)
    rw [hr] at hm; cases hm
 intro fuel
 induction fuel with
 | zero =>
  intro listed x w hs hcl hcnt hI hX hd; have hz : ∀ j, j < l.length → listed.getD j false = true := by
   intro j hj; have hc0 : listed.toList.countP (! ·) = 0 := by omega
   rw [List.countP_eq_zero] at hc0; have hjs : j < listed.size := by omega
   have := hc0 listed[j] (by simp)
   simp at this; simp [hjs, this]
  have hr : Region.ready .any l.toArray listed = [] := by
   rcases hne : Region.ready .any l.toArray listed with _ | ⟨i, rs⟩
   ·rfl
   ·have hm : i ∈ Region.ready .any l.toArray listed := by rw [hne]; simp
    have hlt := getD_of_ready hm; have h1 := (mem_ready.1 hm).1; have h2 := hz i (by omega); simp [hlt] at h1 h2; rw [h1] at h2; cases h2
  exact ⟨hr, hend _ x w hI fun j hj => ⟨hz j hj, hd j (hz j hj)⟩⟩
 | succ fuel ih =>
  intro listed x w hs hcl hcnt hI hX hd; refine ⟨fun hr => hend _ x w hI fun j hj => ⟨hall listed hs hr j hj, hd j (hall listed hs hr j hj)⟩, fun i hi => ?_⟩; have hlt := getD_of_ready hi; obtain ⟨hun, o, ho, hbel⟩ := mem_ready.1 hi; have hedge : ∀ k, edgeB l i k = true → listed.getD k false = true := by
   intro k hk; have ho' : l[i]? = some o := by simpa using ho
   unfold edgeB at hk; rw [ho'] at hk; simp only [Option.map_some, Option.getD_some] at hk; obtain ⟨e, he, hb⟩ := Array.any_eq_true'.1 hk; simp only [Bool.and_eq_true, beq_iff_eq] at hb; rw [← hb.2]; exact hbel e he hb.1
  refine wpOpIn_step (hnd i o ho) ho fun K' hK => ?_
  have ho' : l[i]? = some o := by simpa using ho
  have hun0 : listed.getD i false = false := by simpa [hlt] using hun
  have hstep := EachOpS.at_ (k := i) hop ho' (fun j => listed.getD j false) x w (by rw [Nat.zero_add]; exact hun0) (fun j hj => up_unlisted (l := l) (d := fun j => listed.getD j false) hcl (by rw [Nat.zero_add] at hj; exact hj) hun0) hX hI (fun j hj => by
   have h7 := up_listed hcl (by rw [Nat.zero_add] at hj; exact hj) hedge; exact ⟨h7, hd j h7⟩) K'
  refine hstep fun a' v w' ha' hv hR hI' => ?_
  subst ha'; apply hK; have hpu := putAll_upd l 0 i x a o v hap ho'; rw [Nat.zero_add] at hpu hv hI'; rw [← hpu]; have hun' : listed[i] = false := by simpa [hlt] using hun
  refine ih (listed.setIfInBounds i true) (upd x i v) w' (by simpa using hs) (fun j k hj hk => ?_) ?_ (by rw [getD_set_eq hlt]; exact hI') (fun j hj => ?_) (fun j hj => ?_)
  ·by_cases hji : i = j
   ·subst hji; exact getD_set_true (hedge k hk)
   ·rw [getD_set_ne false hji] at hj; exact getD_set_true (hcl j k hj hk)
  ·have : (listed.setIfInBounds i true).toList.countP (! ·) + 1 = listed.toList.countP (! ·) := by
    rw [Array.toList_setIfInBounds]; have h1 := List.countP_set (p := (! ·)) (l := listed.toList) (i := i) (a := true) (by simpa using hlt); rw [h1]; have h2 : 0 < listed.toList.countP (! ·) := List.countP_pos_iff.2 ⟨listed[i], by simp, by simp [hun']⟩; have h3 : listed.toList[i]'(by simpa using hlt) = false := by simpa using hun'
    rw [h3]; simp only [Bool.not_false, Bool.not_true, if_true, Bool.false_eq_true, if_false]; omega
   omega
  ·by_cases hji : i = j
   ·subst hji; simp [hlt] at hj
   ·rw [getD_set_ne false hji] at hj; rw [upd_ne x v (Ne.symm hji)]; exact hX j hj
  ·by_cases hji : i = j
   ·subst hji; rw [upd_self]; exact hv
   ·rw [getD_set_ne false hji] at hj; rw [upd_ne x v (Ne.symm hji)]; exact hD _ _ _ _ hR (hd j hj)


end

def noDefer (l : List Oper) : Bool := l.all fun o => match o.op with | .defer _ => false | _ => true
section
variable {P : Program} {l : List Oper} {Q : Exit → Act → World → Prop} {a : Act}
theorem wpIn_region_f {id n r : Nat} {w : World} (hnd : noDefer l = true) (I : (Nat → Bool) → (Nat → Value) → World → Prop) (R : World → World → Prop) (ds : List (Value → World → Prop)) (hm : P.follows .mixedOrders = true)
  (hap : apartB (l.map (·.dst)) = true) (htop : topB l = true) (hin : inB l a.tmps.size = true) (hI : ∀ x, I (fun _ => false) x w.drew) (hD : AllKeep R ds)
  (hop : EachF P l Q a I R (Dl ds) 0 l) (hend : ∀ d x w, I d x w → (∀ j, j < l.length → d j = true ∧ Dl ds j (x j) w) → Q .normal (putAll l 0 x a) w) : (Code.region id l.toArray true).wpIn (Fence.wide.inRound r) n P Q a w := by
 refine wpIn_region_any hm ?_; have hnd2 : ∀ (i : Nat) (o : Oper), l.toArray[i]? = some o → ∀ c : Call, o.op ≠ .defer c := fun i o ho c e => by
  have hmem : o ∈ l := by
   have : l[i]? = some o := by simpa using ho
   exact List.mem_of_getElem? this
  have := List.all_eq_true.1 hnd o hmem
  rw [e] at this; cases this
 have hI2 : I (fun j => (Array.replicate l.length false).getD j false) (iniOf l a) w.drew := by
  have e : (fun j => (Array.replicate l.length false).getD j false) = fun _ => false := by
   funext j; cases h : (Array.replicate l.length false).getD j false with
   | false => rfl
   | true => exact (no_listed _ _ h).elim
  rw [e]; exact hI _
 have h := wpAnyIn_stage (n := n) (r := r) hnd2 hap htop (fun j v w w' hR hd => Dl_keep hD j v w w' hR hd) (EachF.toS hap hin hop) hend l.length (Array.replicate l.length false) (iniOf l a) w.drew (by simp) (fun j k hj => ?_) ?_ hI2 (fun j _ => rfl) (fun j hj => ?_)
 ·rw [putAll_init l 0 _ a (fun k o d hk hd => by simp [iniOf, hk, hd])] at h; simpa using h
 ·exact (no_listed _ _ hj).elim
 ·simpa using List.countP_le_length (p := (! ·)) (l := List.replicate l.length false)
 ·exact (no_listed _ _ hj).elim
end
end Go.Proofs.Ytngegjboenfmeaa
/- New of a link; Tick of a link that is not up. -/
namespace Go.Proofs.Ytngegjboenfmeaa
open Go Go.RowKit
set_option linter.unusedVariables false
set_option maxRecDepth 100000
set_option linter.unusedSimpArgs false

theorem made_yes (w : World) (g : Nat) (sn : Int) (hsn : sn ≠ 0) (k3 : w.cell? ⟨g, 3, none⟩ = some (.int .i64 sn)) : Calls Try.prog 33 #[.pointer (some ⟨g, 0, none⟩)] w fun e w' => e = .returned (.bool true) ∧ Below w.heap.size w w' := by
 have es : (sn == 0) = false := beq_eq_false_iff_ne.2 hsn; have ds : (sn != 0) = true := by simp [hsn]
 clear hsn; go_enter Try.func33, Try.ntmps33
 go_wp2_with fail
 go_ret
 exact ⟨rfl, Below.refl _ _⟩
set_option maxHeartbeats 1600000 in
theorem newLink_any (w : World) (sn : Int) (si : Nat) (peer : Int) (h1 : 1 ≤ sn) (h2 : sn ≤ 10) (h3 : si ≠ 0) (h4 : si ≤ 34359738367) (h5 : 1 ≤ peer) (h6 : peer ≤ 10) (h7 : peer ≠ sn) :
  Calls Try.prog 17 #[.agg #[.int .i64 sn, .int .u64 (si : Int)], .int .i64 peer] w fun e w' => ∃ g, e = .returned (.tuple #[.pointer (some ⟨g, 0, none⟩), .int .i64 0]) ∧ w.heap.size ≤ g ∧ w'.heap[g]? = some (.cells (lkCells 0 (.slice none 0 0) 0 sn si peer 1 0 0 false 0 0) 72 (0, 0)) ∧ Below w.heap.size w w' := by
 have HM : Hid (mayPB sn si = true) := Lib.hid (decide_eq_true ⟨h1, h2, h3⟩); have ep : (peer == sn) = false := beq_eq_false_iff_ne.2 h7; have HS0 := Lib.hid (show Sep w (w.alloc (.cells #[.int .i64 sn, .int .u64 (si : Int)] 46)) [Ce w.heap.size 46 #[.int .i64 sn, .int .u64 (si : Int)]] from sep_ce (Sep.nil w) _ _); clear h3 h7; unfold lkCells; go_enter Try.func17, Try.ntmps17
 go_wp2_with fail
 refine (procMay_any _ sn si).mono ?_; rintro e w1 ⟨rfl, hb1⟩; rw [HM.out]; have HS1 := Lib.hid (HS0.out.grow hb1); clear HS0 hb1; have k0 := cA (i := 0) HS1.out rfl 0 rfl; have k1 := cA (i := 0) HS1.out rfl 1 rfl
 go_wp2_with fail
 go_ret2
 refine ⟨_, rfl, HS1.out.size, heap_alloc_new _ _, HS1.out.bel.alloc HS1.out.size _⟩
/-- a row of one frame -/
def OneF (xs : List Value) (v : Value) (w : World) : Prop := ∃ A c, v = .slice A 1 c ∧ xs.length = 1 * 10 ∧ Has w w.heap.size A xs
theorem OneF.new (w : World) (cs : Array Value) (h : cs.toList.length = 1 * 10 := by rfl) : OneF cs.toList (.slice (some ⟨w.heap.size, 0, none⟩) 1 1) (w.alloc (.cells cs 51)) := ⟨_, 1, rfl, h, by have := has_new w cs 51; simpa using this⟩
end Go.Proofs.Ytngegjboenfmeaa
/- Things that lie apart: one of them to the front. No program in sight. -/
namespace Go.Proofs.Ytngegjboenfmeaa
open Go Go.RowKit
set_option linter.unusedVariables false

theorem Sep.tF {w0 w : World} {Ps : List SP} (h : Sep w0 w Ps) (n : Nat) {P : SP} (hn : Ps[n]? = some P) : Sep w0 w (P :: Ps.eraseIdx n) := by
 obtain ⟨hb, Fs, hl, h1, h2⟩ := h; obtain ⟨hlt, _⟩ := List.getElem?_eq_some_iff.1 hn; obtain ⟨F, hF⟩ : ∃ F, Fs[n]? = some F := ⟨_, List.getElem?_eq_getElem (by omega)⟩; refine ⟨hb, F :: Fs.eraseIdx n, by simp [List.length_eraseIdx, hl], ?_, ?_⟩
 ·intro i Q G hQ hG; cases i with
  | zero =>
   simp only [List.getElem?_cons_zero, Option.some.injEq] at hQ hG; subst hQ hG; exact h1 n P F hn hF
  | succ i =>
   simp only [List.getElem?_cons_succ, List.getElem?_eraseIdx] at hQ hG
   by_cases hi : i < n
   ·rw [if_pos hi] at hQ hG; exact h1 i Q G hQ hG
   ·rw [if_neg hi] at hQ hG; exact h1 (i + 1) Q G hQ hG
 ·intro i j G G' hij hG hG'; cases i with
  | zero =>
   cases j with
   | zero => exact (hij rfl).elim
   | succ j =>
    simp only [List.getElem?_cons_zero, List.getElem?_cons_succ, List.getElem?_eraseIdx, Option.some.injEq] at hG hG'; subst hG
    by_cases hj : j < n
    ·rw [if_pos hj] at hG'; exact h2 n j _ _ (by omega) hF hG'
    ·rw [if_neg hj] at hG'; exact h2 n (j + 1) _ _ (by omega) hF hG'
  | succ i =>
   simp only [List.getElem?_cons_succ, List.getElem?_eraseIdx] at hG; cases j with
   | zero =>
    simp only [List.getElem?_cons_zero, Option.some.injEq] at hG'; subst hG'
    by_cases hi : i < n
    ·rw [if_pos hi] at hG; exact h2 i n _ _ (by omega) hG hF
    ·rw [if_neg hi] at hG; exact h2 (i + 1) n _ _ (by omega) hG hF
   | succ j =>
    simp only [List.getElem?_cons_succ, List.getElem?_eraseIdx] at hG'
    by_cases hi : i < n <;> by_cases hj : j < n
    ·rw [if_pos hi] at hG; rw [if_pos hj] at hG'; exact h2 i j _ _ (by omega) hG hG'
    ·rw [if_pos hi] at hG; rw [if_neg hj] at hG'; exact h2 i (j + 1) _ _ (by omega) hG hG'
    ·rw [if_neg hi] at hG; rw [if_pos hj] at hG'; exact h2 (i + 1) j _ _ (by omega) hG hG'
    ·rw [if_neg hi] at hG; rw [if_neg hj] at hG'; exact h2 (i + 1) (j + 1) _ _ (by omega) hG hG'
theorem Sep.lastFront {w0 w : World} {Ps : List SP} {P : SP} (h : Sep w0 w (Ps ++ [P])) : Sep w0 w (P :: Ps) := by
 have h2 := h.tF Ps.length (P := P) (by simp)
 rwa [show (Ps ++ [P]).eraseIdx Ps.length = Ps by rw [List.eraseIdx_append_of_length_le (Nat.le_refl _)]; simp] at h2
theorem sep_ceF {w0 w : World} {Ps : List SP} (h : Sep w0 w Ps) (vs : Array Value) (t : TypeId) : Sep w0 (w.alloc (.cells vs t)) (Ce w.heap.size t vs :: Ps) := (sep_ce h vs t).lastFront
theorem Sep.popF {w0 w : World} {Ps : List SP} {P : SP} (h : Sep w0 w (P :: Ps)) : Sep w0 w Ps := h.drop 0
end Go.Proofs.Ytngegjboenfmeaa
/- Peer of a link; what a link tells. -/
namespace Go.Proofs.Ytngegjboenfmeaa
open Go Go.RowKit
set_option linter.unusedVariables false
set_option maxRecDepth 100000
set_option linter.unusedSimpArgs false

set_option maxHeartbeats 1600000 in
theorem peer_any (w : World) (g base : Nat) (bx : Value) (got : Nat) (sn : Int) (si : Nat) (peer : Int) (conn inc known : Nat) (up : Bool) (heard sent : Nat) (hsn : sn ≠ 0) (h : w.heap[g]? = some (.cells (lkCells base bx got sn si peer conn inc known up heard sent) 72 (0, 0))) :
  Calls Try.prog 24 #[.pointer (some ⟨g, 0, none⟩)] w fun e w' => e = .returned (.agg #[.int .i64 peer, .int .u64 (inc : Int)]) ∧ Below w.heap.size w w' := by
 have HSN := Lib.hid hsn; have HG := Lib.hid (lt_of_heap h); have HC5 : Hid (w.cell? ⟨g, 5, none⟩ = some (.int .i64 peer)) := Lib.hid (by rw [cell_of_row w g 5 _ _ _ h]; rfl); have HC7 : Hid (w.cell? ⟨g, 7, none⟩ = some (.int .u64 (inc : Int))) := Lib.hid (by rw [cell_of_row w g 7 _ _ _ h]; rfl); have HC3 : Hid (w.cell? ⟨g, 3, none⟩ = some (.int .i64 sn)) := Lib.hid (by rw [cell_of_row w g 3 _ _ _ h]; rfl); have HS0 := Lib.hid (show Sep w (w.alloc (.cells #[.int .i64 0, .int .u64 0] 46)) [Ce w.heap.size 46 #[.int .i64 0, .int .u64 0]] from sep_ce (Sep.nil w) _ _); have HBL : ∀ (dn : Nat → Bool) (W : World), (if dn 9 = true then Sep w W [Ce w.heap.size 46 #[.int .i64 peer, .int .u64 (inc : Int)]] else Sep w W [Ce w.heap.size 46 #[.int .i64 0, .int .u64 0]]) → Below w.heap.size w W := fun dn W h => by split at h <;> exact h.bel
 clear h hsn; go_enter Try.func24, Try.ntmps24
 go_wp2_with fail
 refine (made_yes _ g sn HSN.out ((HS0.out.bel.cell (p := ⟨g, 3, none⟩) HG.out).trans HC3.out)).mono ?_; rintro e w1 ⟨rfl, hb1⟩; have HS1 := Lib.hid (HS0.out.grow hb1); clear HS0 hb1
 go_wp2_with fail
 refine wRG (fun dn xv W => if dn 9 = true then Sep w W [Ce w.heap.size 46 #[.int .i64 peer, .int .u64 (inc : Int)]] else Sep w W [Ce w.heap.size 46 #[.int .i64 0, .int .u64 0]]) (fun _ _ => True) [xP_ g 0, xP_ g 0, xP_ g 5, xV_ (.int .i64 peer), xP_ g 0, xP_ g 0, xP_ g 7, xV_ (.int .u64 (inc : Int)), xV_ (.agg #[.int .i64 peer, .int .u64 (inc : Int)]), fun v _ => True] (fun xv => by simpa using HS1.out.drew) ?_ ?_
 ·refine Ep 1 0 g 0 ?_
  refine Ee 2 7 0 ?_
  refine Ee 3 8 1 ?_
  refine Eek 4 9 2 (fun h _ W e => ((HBL h W e).cell (p := ⟨g, 5, none⟩) HG.out).trans HC5.out) ?_
  refine Ep 5 0 g 0 ?_
  refine Ee 6 11 4 ?_
  refine Ee 7 12 5 ?_
  refine Eek 8 13 6 (fun h _ W e => ((HBL h W e).cell (p := ⟨g, 7, none⟩) HG.out).trans HC7.out) ?_
  refine EC 9 rfl (fun g h W F a b c d e H K f => ?_) ?_
  ·have f10 := gE (a 10) (by kernel_rfl) (H 3) (by kernel_rfl); have f14 := gE (a 14) (by kernel_rfl) (H 7) (by kernel_rfl); clear H c b d a; refine oP rfl ?_; have g10 := f10; have g14 := f14; rw [Array.getD_eq_getD_getElem?] at g10 g14; go_simp; exact f.out _ _ rfl trivial e
  refine EC 10 rfl (fun g h W F a b c d e H K f => ?_) ?_
  ·have f2 : F.tmps.getD 2 undef = .pointer (some ⟨w.heap.size, 0, none⟩) := (a 2).trans (by kernel_rfl); have f15 := gE (a 15) (by kernel_rfl) (H 8) (by kernel_rfl); rw [if_neg (by simp [b])] at e; have hS := e; clear e c b d a H; refine oP rfl ?_; have q0 := cA (i := 0) hS rfl 0 rfl; have q1 := cA (i := 0) hS rfl 1 rfl; have y0 := cFz (i := 0) hS rfl 0; have y1 := cFz (i := 0) hS rfl 1; have hs : Sep w ((W.setCell ⟨w.heap.size, 0, none⟩ (.int .i64 peer)).setCell ⟨w.heap.size, 1, none⟩ (.int .u64 (inc : Int))) [Ce w.heap.size 46 #[.int .i64 peer, .int .u64 (inc : Int)]] := cS (i := 0) (cS (i := 0) hS rfl 0 (.int .i64 peer)) rfl 1 (.int .u64 (inc : Int)); go_simp; exact f.out undef _ trivial trivial (by simpa [upB, upd] using hs)
  exact EN
 ·intro dn xv W hI H; have qe : dn 9 = true := (H 9 (of_decide_eq_true (by kernel_rfl))).1; rw [if_pos qe] at hI; have hS := hI; clear H hI qe; simp only [putAll, Act.put, List.setIfInBounds_toArray, List.set_cons_zero, List.set_cons_succ, Nat.reduceAdd]; have k0 := cA (i := 0) hS rfl 0 rfl; have k1 := cA (i := 0) hS rfl 1 rfl; have HS2 := Lib.hid hS; clear hS
  go_wp2_with fail
  refine bodyPost_ret (v := .agg #[.int .i64 peer, .int .u64 (inc : Int)]) (by simp [results, Try.results24, go_sem, k0, k1]) rfl ?_; exact ⟨rfl, HS2.out.bel⟩
/-- a row of one event -/
def OneE (xs : List Value) (v : Value) (w : World) : Prop := ∃ A c, v = .slice A 1 c ∧ xs.length = 1 * 4 ∧ Has w w.heap.size A xs
theorem OneE.new (w : World) (cs : Array Value) (h : cs.toList.length = 1 * 4 := by rfl) : OneE cs.toList (.slice (some ⟨w.heap.size, 0, none⟩) 1 1) (w.alloc (.cells cs 49)) := ⟨_, 1, rfl, h, by have := has_new w cs 49; simpa using this⟩
end Go.Proofs.Ytngegjboenfmeaa
/- May a frame be, as the program says. -/
namespace Go.Proofs.Ytngegjboenfmeaa
open Go Go.RowKit
set_option linter.unusedVariables false
set_option maxRecDepth 100000
theorem index6_0 (w : World) (a b c d e f : Nat) : (Instr.index 120 (.agg #[.int .u64 (a : Int), .int .u64 (b : Int), .int .u64 (c : Int), .int .u64 (d : Int), .int .u64 (e : Int), .int .u64 (f : Int)]) (.int .i64 0)).run Try.prog w = .ok (.int .u64 (a : Int)) w := by kernel_rfl
theorem index6_1 (w : World) (a b c d e f : Nat) : (Instr.index 120 (.agg #[.int .u64 (a : Int), .int .u64 (b : Int), .int .u64 (c : Int), .int .u64 (d : Int), .int .u64 (e : Int), .int .u64 (f : Int)]) (.int .i64 1)).run Try.prog w = .ok (.int .u64 (b : Int)) w := by kernel_rfl
theorem index6_2 (w : World) (a b c d e f : Nat) : (Instr.index 120 (.agg #[.int .u64 (a : Int), .int .u64 (b : Int), .int .u64 (c : Int), .int .u64 (d : Int), .int .u64 (e : Int), .int .u64 (f : Int)]) (.int .i64 2)).run Try.prog w = .ok (.int .u64 (c : Int)) w := by kernel_rfl
theorem index6_3 (w : World) (a b c d e f : Nat) : (Instr.index 120 (.agg #[.int .u64 (a : Int), .int .u64 (b : Int), .int .u64 (c : Int), .int .u64 (d : Int), .int .u64 (e : Int), .int .u64 (f : Int)]) (.int .i64 3)).run Try.prog w = .ok (.int .u64 (d : Int)) w := by kernel_rfl
theorem index6_4 (w : World) (a b c d e f : Nat) : (Instr.index 120 (.agg #[.int .u64 (a : Int), .int .u64 (b : Int), .int .u64 (c : Int), .int .u64 (d : Int), .int .u64 (e : Int), .int .u64 (f : Int)]) (.int .i64 4)).run Try.prog w = .ok (.int .u64 (e : Int)) w := by kernel_rfl
theorem index6_5 (w : World) (a b c d e f : Nat) : (Instr.index 120 (.agg #[.int .u64 (a : Int), .int .u64 (b : Int), .int .u64 (c : Int), .int .u64 (d : Int), .int .u64 (e : Int), .int .u64 (f : Int)]) (.int .i64 5)).run Try.prog w = .ok (.int .u64 (f : Int)) w := by kernel_rfl
/-- the six numbers, one by one -/
theorem index6 (w : World) (a b c d e f : Nat) (k : Nat) (hk : k < 6) : (Instr.index 120 (.agg #[.int .u64 (a : Int), .int .u64 (b : Int), .int .u64 (c : Int), .int .u64 (d : Int), .int .u64 (e : Int), .int .u64 (f : Int)]) (.int .i64 (k : Int))).run Try.prog w = .ok (.int .u64 (([a, b, c, d, e, f][k]'hk : Nat) : Int)) w := by
 have h : k = 0 ∨ k = 1 ∨ k = 2 ∨ k = 3 ∨ k = 4 ∨ k = 5 := by omega
 rcases h with rfl | rfl | rfl | rfl | rfl | rfl
 ·exact index6_0 w _ _ _ _ _ _
 ·exact index6_1 w _ _ _ _ _ _
 ·exact index6_2 w _ _ _ _ _ _
 ·exact index6_3 w _ _ _ _ _ _
 ·exact index6_4 w _ _ _ _ _ _
 ·exact index6_5 w _ _ _ _ _ _
theorem six_no {kind fr to : Int} {inc conn pinc pconn ack seq n k : Nat} (hk : k < 6) (h : ¬ [inc, conn, pinc, pconn, ack, seq][k]'hk < 34359738368) : mayB kind fr to inc conn pinc pconn ack seq n = false := by
 have h6 : k = 0 ∨ k = 1 ∨ k = 2 ∨ k = 3 ∨ k = 4 ∨ k = 5 := by omega
 rcases h6 with rfl | rfl | rfl | rfl | rfl | rfl <;> (simp only [List.getElem_cons_zero, List.getElem_cons_succ] at h; exact decide_eq_false (by omega))
theorem six_yes {inc conn pinc pconn ack seq : Nat} (h : ∀ j (hj : j < 6), [inc, conn, pinc, pconn, ack, seq][j]'hj < 34359738368) : inc < 34359738368 ∧ conn < 34359738368 ∧ pinc < 34359738368 ∧ pconn < 34359738368 ∧ ack < 34359738368 ∧ seq < 34359738368 :=
 ⟨h 0 (by omega), h 1 (by omega), h 2 (by omega), h 3 (by omega), h 4 (by omega), h 5 (by omega)⟩
set_option maxHeartbeats 1600000 in
theorem may_any (w : World) (kind fr to : Int) (inc conn pinc pconn ack seq n c : Nat) (A : Option Addr) (hn : n ≤ maxLen) :
  Calls Try.prog 40 #[.agg #[.int .i64 kind, .int .i64 fr, .int .i64 to, .int .u64 (inc : Int), .int .u64 (conn : Int), .int .u64 (pinc : Int), .int .u64 (pconn : Int), .int .u64 (ack : Int), .int .u64 (seq : Int), .slice A n c]] w fun e w' => e = .returned (.bool (mayB kind fr to inc conn pinc pconn ack seq n)) ∧ Below w.heap.size w w' := by
 unfold maxLen at hn; go_enter Try.func40, Try.ntmps40
 go_wp2_with fail
 refine (node_any _ fr).mono ?_; rintro e w1 ⟨rfl, rfl⟩
 by_cases h1 : 1 ≤ fr ∧ fr ≤ 10
 ·rw [nodeB_yes h1]
  go_wp2_with fail
  refine (node_any _ to).mono ?_; rintro e w1 ⟨rfl, rfl⟩
  by_cases h2 : 1 ≤ to ∧ to ≤ 10
  ·rw [nodeB_yes h2]
   by_cases h3 : fr = to
   ·have e3 : (fr == to) = true := by simp; omega
    go_wp2_with fail
    go_ret
    exact ⟨ret_bool (decide_eq_false (by omega)), below_box _⟩
   ·have e3 : (fr == to) = false := by simp; omega
    have IX := fun W k hk => index6 W inc conn pinc pconn ack seq k hk
    go_wp2_with fail
    go_loop [36] (fun iv => ∃ k : Nat, k ≤ 6 ∧ iv = .int .i64 (k : Int) ∧ Hid (∀ j (hj : j < 6), j < k → [inc, conn, pinc, pconn, ack, seq][j]'hj < 34359738368)) (fun iv => 6 - (intOf iv).toNat)
    case atStart => exact ⟨0, by omega, rfl, Lib.hid (fun j hj h => by omega)⟩
    case round =>
     obtain ⟨k, hk, rfl, HA⟩ := hrel
     by_cases hkt : k < 6
     ·have ix := IX (w.alloc (Obj.cells #[.int .i64 kind, .int .i64 fr, .int .i64 to, .int .u64 (inc : Int), .int .u64 (conn : Int), .int .u64 (pinc : Int), .int .u64 (pconn : Int), .int .u64 (ack : Int), .int .u64 (seq : Int), .slice A n c] 51)) k hkt; obtain ⟨x, Hx⟩ : ∃ x, Hid ([inc, conn, pinc, pconn, ack, seq][k]'hkt = x) := ⟨_, Lib.hid rfl⟩; rw [Hx.out] at ix; clear IX
      by_cases hx : x < 34359738368
      ·have gx : ¬ (34359738367 : Int) < (x : Int) := by omega
       go_wp2_with fail
       go_round
       case rel => exact ⟨k + 1, by omega, by go_num, Lib.hid (fun j hj h => by
        rcases Nat.lt_or_ge j k with h' | h'
        ·exact HA.out j hj h'
        ·obtain rfl : j = k := by omega
         rw [Hx.out]; exact hx)⟩
       case measure => simp [intOf]; omega
      ·have gx : (34359738367 : Int) < (x : Int) := by omega
       go_wp2_with fail
       go_ret
       exact ⟨ret_bool (six_no hkt (by rw [Hx.out]; exact hx)), below_box _⟩
     ·have h6 := six_yes (fun j hj => HA.out j hj (by omega)); clear IX HA
      by_cases z_inc : inc = 0
      ·have e_inc : (((inc : Nat) : Int) == 0) = true := by simp; omega
       have d_inc : (((inc : Nat) : Int) != 0) = false := by simp; omega
       have g_inc : decide ((0 : Int) < ((inc : Nat) : Int)) = false := decide_eq_false (by omega)
       go_wp2_with fail
       go_ret
       exact ⟨ret_bool (decide_eq_false (by omega)), below_box _⟩
      ·have e_inc : (((inc : Nat) : Int) == 0) = false := by simp; omega
       have d_inc : (((inc : Nat) : Int) != 0) = true := by simp; omega
       have g_inc : decide ((0 : Int) < ((inc : Nat) : Int)) = true := decide_eq_true (by omega)
       by_cases z_conn : conn = 0
       ·have e_conn : (((conn : Nat) : Int) == 0) = true := by simp; omega
        have d_conn : (((conn : Nat) : Int) != 0) = false := by simp; omega
        have g_conn : decide ((0 : Int) < ((conn : Nat) : Int)) = false := decide_eq_false (by omega)
        go_wp2_with fail
        go_ret
        exact ⟨ret_bool (decide_eq_false (by omega)), below_box _⟩
       ·have e_conn : (((conn : Nat) : Int) == 0) = false := by simp; omega
        have d_conn : (((conn : Nat) : Int) != 0) = true := by simp; omega
        have g_conn : decide ((0 : Int) < ((conn : Nat) : Int)) = true := decide_eq_true (by omega)
        by_cases z_pinc : pinc = 0
        ·have e_pinc : (((pinc : Nat) : Int) == 0) = true := by simp; omega
         have d_pinc : (((pinc : Nat) : Int) != 0) = false := by simp; omega
         have g_pinc : decide ((0 : Int) < ((pinc : Nat) : Int)) = false := decide_eq_false (by omega)
         by_cases z_pconn : pconn = 0
         ·have e_pconn : (((pconn : Nat) : Int) == 0) = true := by simp; omega
          have d_pconn : (((pconn : Nat) : Int) != 0) = false := by simp; omega
          have g_pconn : decide ((0 : Int) < ((pconn : Nat) : Int)) = false := decide_eq_false (by omega)
          by_cases z_ack : ack = 0
          ·have e_ack : (((ack : Nat) : Int) == 0) = true := by simp; omega
           have d_ack : (((ack : Nat) : Int) != 0) = false := by simp; omega
           have g_ack : decide ((0 : Int) < ((ack : Nat) : Int)) = false := decide_eq_false (by omega)
           by_cases i_kind1 : kind = 1
           ·have ei_kind1 : (kind == 1) = true := by simp; omega
            by_cases z_seq : seq = 0
            ·have e_seq : (((seq : Nat) : Int) == 0) = true := by simp; omega
             have d_seq : (((seq : Nat) : Int) != 0) = false := by simp; omega
             have g_seq : decide ((0 : Int) < ((seq : Nat) : Int)) = false := decide_eq_false (by omega)
             by_cases hn0 : n = 0
             ·have e_n : (((n : Nat) : Int) == 0) = true := by simp; omega
              go_wp2_with fail
              go_ret
              exact ⟨ret_bool (decide_eq_true (by omega)), below_box _⟩
             ·have e_n : (((n : Nat) : Int) == 0) = false := by simp; omega
              go_wp2_with fail
              go_ret
              exact ⟨ret_bool (decide_eq_false (by omega)), below_box _⟩
            ·have e_seq : (((seq : Nat) : Int) == 0) = false := by simp; omega
             have d_seq : (((seq : Nat) : Int) != 0) = true := by simp; omega
             have g_seq : decide ((0 : Int) < ((seq : Nat) : Int)) = true := decide_eq_true (by omega)
             go_wp2_with fail
             go_ret
             exact ⟨ret_bool (decide_eq_false (by omega)), below_box _⟩
           ·have ei_kind1 : (kind == 1) = false := by simp; omega
            by_cases i_kind2 : kind = 2
            ·have ei_kind2 : (kind == 2) = true := by simp; omega
             by_cases z_seq : seq = 0
             ·have e_seq : (((seq : Nat) : Int) == 0) = true := by simp; omega
              have d_seq : (((seq : Nat) : Int) != 0) = false := by simp; omega
              have g_seq : decide ((0 : Int) < ((seq : Nat) : Int)) = false := decide_eq_false (by omega)
              go_wp2_with fail
              go_ret
              exact ⟨ret_bool (decide_eq_false (by omega)), below_box _⟩
             ·have e_seq : (((seq : Nat) : Int) == 0) = false := by simp; omega
              have d_seq : (((seq : Nat) : Int) != 0) = true := by simp; omega
              have g_seq : decide ((0 : Int) < ((seq : Nat) : Int)) = true := decide_eq_true (by omega)
              go_wp2_with fail
              go_ret
              exact ⟨ret_bool (decide_eq_false (by omega)), below_box _⟩
            ·have ei_kind2 : (kind == 2) = false := by simp; omega
             go_wp2_with fail
             go_ret
             exact ⟨ret_bool (decide_eq_false (by omega)), below_box _⟩
          ·have e_ack : (((ack : Nat) : Int) == 0) = false := by simp; omega
           have d_ack : (((ack : Nat) : Int) != 0) = true := by simp; omega
           have g_ack : decide ((0 : Int) < ((ack : Nat) : Int)) = true := decide_eq_true (by omega)
           go_wp2_with fail
           go_ret
           exact ⟨ret_bool (decide_eq_false (by omega)), below_box _⟩
         ·have e_pconn : (((pconn : Nat) : Int) == 0) = false := by simp; omega
          have d_pconn : (((pconn : Nat) : Int) != 0) = true := by simp; omega
          have g_pconn : decide ((0 : Int) < ((pconn : Nat) : Int)) = true := decide_eq_true (by omega)
          by_cases z_ack : ack = 0
          ·have e_ack : (((ack : Nat) : Int) == 0) = true := by simp; omega
           have d_ack : (((ack : Nat) : Int) != 0) = false := by simp; omega
           have g_ack : decide ((0 : Int) < ((ack : Nat) : Int)) = false := decide_eq_false (by omega)
           go_wp2_with fail
           go_ret
           exact ⟨ret_bool (decide_eq_false (by omega)), below_box _⟩
          ·have e_ack : (((ack : Nat) : Int) == 0) = false := by simp; omega
           have d_ack : (((ack : Nat) : Int) != 0) = true := by simp; omega
           have g_ack : decide ((0 : Int) < ((ack : Nat) : Int)) = true := decide_eq_true (by omega)
           go_wp2_with fail
           go_ret
           exact ⟨ret_bool (decide_eq_false (by omega)), below_box _⟩
        ·have e_pinc : (((pinc : Nat) : Int) == 0) = false := by simp; omega
         have d_pinc : (((pinc : Nat) : Int) != 0) = true := by simp; omega
         have g_pinc : decide ((0 : Int) < ((pinc : Nat) : Int)) = true := decide_eq_true (by omega)
         by_cases z_pconn : pconn = 0
         ·have e_pconn : (((pconn : Nat) : Int) == 0) = true := by simp; omega
          have d_pconn : (((pconn : Nat) : Int) != 0) = false := by simp; omega
          have g_pconn : decide ((0 : Int) < ((pconn : Nat) : Int)) = false := decide_eq_false (by omega)
          go_wp2_with fail
          go_ret
          exact ⟨ret_bool (decide_eq_false (by omega)), below_box _⟩
         ·have e_pconn : (((pconn : Nat) : Int) == 0) = false := by simp; omega
          have d_pconn : (((pconn : Nat) : Int) != 0) = true := by simp; omega
          have g_pconn : decide ((0 : Int) < ((pconn : Nat) : Int)) = true := decide_eq_true (by omega)
          by_cases i_kind1 : kind = 1
          ·have ei_kind1 : (kind == 1) = true := by simp; omega
           by_cases z_seq : seq = 0
           ·have e_seq : (((seq : Nat) : Int) == 0) = true := by simp; omega
            have d_seq : (((seq : Nat) : Int) != 0) = false := by simp; omega
            have g_seq : decide ((0 : Int) < ((seq : Nat) : Int)) = false := decide_eq_false (by omega)
            by_cases hn0 : n = 0
            ·have e_n : (((n : Nat) : Int) == 0) = true := by simp; omega
             go_wp2_with fail
             go_ret
             exact ⟨ret_bool (decide_eq_true (by omega)), below_box _⟩
            ·have e_n : (((n : Nat) : Int) == 0) = false := by simp; omega
             go_wp2_with fail
             go_ret
             exact ⟨ret_bool (decide_eq_false (by omega)), below_box _⟩
           ·have e_seq : (((seq : Nat) : Int) == 0) = false := by simp; omega
            have d_seq : (((seq : Nat) : Int) != 0) = true := by simp; omega
            have g_seq : decide ((0 : Int) < ((seq : Nat) : Int)) = true := decide_eq_true (by omega)
            go_wp2_with fail
            go_ret
            exact ⟨ret_bool (decide_eq_false (by omega)), below_box _⟩
          ·have ei_kind1 : (kind == 1) = false := by simp; omega
           by_cases i_kind2 : kind = 2
           ·have ei_kind2 : (kind == 2) = true := by simp; omega
            by_cases z_seq : seq = 0
            ·have e_seq : (((seq : Nat) : Int) == 0) = true := by simp; omega
             have d_seq : (((seq : Nat) : Int) != 0) = false := by simp; omega
             have g_seq : decide ((0 : Int) < ((seq : Nat) : Int)) = false := decide_eq_false (by omega)
             go_wp2_with fail
             go_ret
             exact ⟨ret_bool (decide_eq_false (by omega)), below_box _⟩
            ·have e_seq : (((seq : Nat) : Int) == 0) = false := by simp; omega
             have d_seq : (((seq : Nat) : Int) != 0) = true := by simp; omega
             have g_seq : decide ((0 : Int) < ((seq : Nat) : Int)) = true := decide_eq_true (by omega)
             by_cases hn1 : 1 ≤ n
             ·go_wp2_with fail
              go_ret
              exact ⟨ret_bool (decide_eq_decide.2 (by omega)), below_box _⟩
             ·go_wp2_with fail
              go_ret
              exact ⟨ret_bool (decide_eq_false (by omega)), below_box _⟩
           ·have ei_kind2 : (kind == 2) = false := by simp; omega
            go_wp2_with fail
            go_ret
            exact ⟨ret_bool (decide_eq_false (by omega)), below_box _⟩
  ·rw [nodeB_no h2]
   go_wp2_with fail
   go_ret
   exact ⟨ret_bool (decide_eq_false (by omega)), below_box _⟩
 ·rw [nodeB_no h1]
  go_wp2_with fail
  go_ret
  exact ⟨ret_bool (decide_eq_false (by omega)), below_box _⟩
end Go.Proofs.Ytngegjboenfmeaa
/- A range over a function whose rounds are handed memory: the iterator's contract tells of each x what holds of it in the world of the round (V pre x W), and the loop's body may use it. -/
namespace Go.Proofs.Ytngegjboenfmeaa
open Go Go.RowKit
set_option linter.unusedVariables false
section
variable {F : Fence} {n : Nat} {P : Program} {α : Type}

/-- the iterator's contract: it hands x where V x holds -/
def SeqV (F : Fence) (n : Nat) (P : Program) (g : Nat) (lb : Array Value) (encs : α → Array Value) (V : List α → α → World → Prop) (Kp : World → World → Prop) (S Sp : List α → Prop) (N : Nat) (w : World) : Prop :=
 ∀ (l : Nat) (J Jx : List α → World → Prop) (W : World), Below w.heap.size w W → AbidesFrom W.heap.size J → AbidesFrom W.heap.size Jx →
  (∀ pre x W1, J pre W1 → V pre x W1 → pre.length < N → YieldAt F (n - 1) P l (encs x) W1 fun e W' =>
   (e = .returned (.bool true) ∧ J (pre ++ [x]) W' ∧ Kp W1 W') ∨ (e = .returned (.bool false) ∧ Jx (pre ++ [x]) W')) →
  J [] W → CallsIn F n P g (#[.func (.yield l) #[] #[]] ++ lb) W fun e W' => (∃ v, e = .returned v) ∧ ((∃ xs, S xs ∧ J xs W') ∨ (∃ pre, Sp pre ∧ Jx pre W'))

/-- the loop's own record, between two rounds and behind the last -/
def recOf (fn : FuncId) (tmps : Array Value) (ps : Array Tmp) (assign body : Code) (D : Nat) (st : LoopState) (pe : Option Code) : Loop := { state := st, pending := pe, fn, tmps, params := ps, assign, body, defers := D }
def Books (D : Nat) (r : Loop) (W : World) : Prop := W.heap[D + 1]? = some (.loop r) ∧ W.heap[D]? = some (.deferred (some []))
end
end Go.Proofs.Ytngegjboenfmeaa
/- A range over a function whose rounds are handed memory of their own, over things that lie apart (Sep): the loop's record is one more thing. No program in sight. -/
namespace Go.Proofs.Ytngegjboenfmeaa
open Go Go.RowKit
set_option linter.unusedVariables false

/-- the loop's own record -/
def recS (fn : FuncId) (tmps : Array Value) (ps : Array Tmp) (assign body : Code) (D : Nat) (st : LoopState) (pe : Option Code) : Loop := { state := st, pending := pe, fn, tmps, params := ps, assign, body, defers := D }
/-- the two blocks that a loop keeps its books in -/
def Bk (D : Nat) (r : Loop) : SP := fun w F => w.heap[D]? = some (.deferred (some [])) ∧ w.heap[D + 1]? = some (.loop r) ∧ ∀ k, F k ↔ (k = D ∨ k = D + 1)
theorem lt_of_obj {w : World} {g : Nat} {o : Obj} (h : w.heap[g]? = some o) : g < w.heap.size := (Array.getElem?_eq_some_iff.1 h).1
theorem Bk.loc (D : Nat) (r : Loop) : Loc (Bk D r) where
 keep := by
  rintro w w' F ⟨h1, h2, hF⟩ hk; exact ⟨(hk D ((hF D).2 (.inl rfl))).trans h1, (hk (D + 1) ((hF (D + 1)).2 (.inr rfl))).trans h2, hF⟩
 lt := by
  rintro w F ⟨h1, h2, hF⟩ k hk
  rcases (hF k).1 hk with rfl | rfl
  ·exact lt_of_obj h1
  ·exact lt_of_obj h2
section
variable {w0 w : World} {Ps : List SP}
theorem sep_bk (h : Sep w0 w Ps) (r : Loop) : Sep w0 ((w.alloc (.deferred (some []))).alloc (.loop r)) (Bk w.heap.size r :: Ps) := by
 refine (h.add (P := Bk w.heap.size r) (F := fun k => k = w.heap.size ∨ k = w.heap.size + 1) (((Below.refl _ w).alloc (Nat.le_refl _) _).alloc (by simp) _) ⟨?_, ?_, fun k => Iff.rfl⟩ (Bk.loc _ _) (fun k hk => by omega)).lastFront
 ·exact (Below.heap_alloc _ _ _ (by simp)).trans (World.alloc_heap_new w _)
 ·have := World.alloc_heap_new (w.alloc (.deferred (some []))) (.loop r)
  rwa [World.size_alloc] at this
theorem sep_bkPut {D : Nat} {r : Loop} (h : Sep w0 w (Bk D r :: Ps)) (r' : Loop) : Sep w0 (w.putObj (D + 1) (.loop r')) (Bk D r' :: Ps) := by
 obtain ⟨F, ⟨h1, h2, hF⟩, hL, hlt, hk⟩ := h.upd (i := 0) rfl; have hl := lt_of_obj h2; exact hk (w.putObj (D + 1) (.loop r')) (Bk D r') F ⟨rfl, rfl, rfl, by simp, fun k _ hnF => World.putObj_heap_other (fun e => hnF ((hF k).2 (.inr e))), fun k hk => .inl hk⟩
  ⟨(World.putObj_heap_other (by omega)).trans h1, World.putObj_heap_same hl, hF⟩ (Bk.loc _ _)
theorem sep_bkAt {D : Nat} {r : Loop} (h : Sep w0 w (Bk D r :: Ps)) : w.heap[D]? = some (.deferred (some [])) ∧ w.heap[D + 1]? = some (.loop r) := by
 obtain ⟨F, h1, h2, _⟩ := h.get (i := 0) rfl; exact ⟨h1, h2⟩
end

section
variable {F : Fence} {n : Nat} {P : Program} {α : Type}
/-- the iterator's contract: what it hands to a round is new memory -/
def SeqS (F : Fence) (n : Nat) (P : Program) (g : Nat) (lb : Array Value) (encs : α → Array Value) (V : List α → α → Prop) (own : α → Nat → World → Prop) (Kp : World → World → Prop) (S : List α → Prop) (N : Nat) (w : World) : Prop :=
 ∀ (l : Nat) (J : List α → World → Prop) (J1 : List α → α → World → Prop) (W : World), Below w.heap.size w W →
  (∀ pre A C, J pre A → Below A.heap.size A C → J pre C) →
  (∀ pre x Wp W1, J pre Wp → Below Wp.heap.size Wp W1 → V pre x → own x Wp.heap.size W1 → pre.length < N → J1 pre x W1) →
  (∀ pre x W1, J1 pre x W1 → YieldAt F (n - 1) P l (encs x) W1 fun e W' => e = .returned (.bool true) ∧ J (pre ++ [x]) W' ∧ Kp W1 W') →
  J [] W → CallsIn F n P g (#[.func (.yield l) #[] #[]] ++ lb) W fun e W' => (∃ v, e = .returned v) ∧ ∃ xs, S xs ∧ J xs W'

/-- how a round's body is left -/
def rdPost (Kp : World → World → Prop) (I : World → Prop) (W : World) : Exit → Act → World → Prop
 | .normal, _, W' => Kp W W' ∧ I W'
 | _, _, _ => False

theorem range_s {g : Operand} {ps : Array Tmp} {assign body : Code} {Q : Exit → Act → World → Prop} {a : Act} {w : World}
  (hro : F.round = none) (h1 : 1 ≤ n) {gf : Nat} {lb : Array Value} (hg : a.eval g = .func (.func gf) #[] lb) (hFg : F.fn gf) (eg : ∀ args w, (callFunc gf args).run P w = .ok (.enter gf args) w)
  {encs : α → Array Value} {V : List α → α → Prop} {own : α → Nat → World → Prop} {Kp : World → World → Prop} {S : List α → Prop} {N : Nat} {w00 : World} (hseq : SeqS F (n - 1) P gf lb encs V own Kp S N w00)
  (hKt : ∀ {A B C : World}, Kp A B → Kp B C → Kp A C) (hKb : ∀ (W : World) (l : Nat) (o' : Obj), w.heap.size ≤ l → Kp W (W.putObj l o')) (hb0 : Below w00.heap.size w00 w) (hps : ∀ x, (encs x).size = ps.size)
  {w0 : World} {τ : Type} (Lst : τ → List SP) (C : List α → τ → Prop) (C1 : List α → α → τ → Prop)
  (h0 : ∃ t, C [] t ∧ Sep w0 w (Lst t))
  (hnew : ∀ (pre : List α) (x : α) (t : τ) (B : SP) (Wp W1 : World), C pre t → Sep w0 Wp (B :: Lst t) → Below Wp.heap.size Wp W1 → V pre x → own x Wp.heap.size W1 → pre.length < N → ∃ t1, C1 pre x t1 ∧ Sep w0 W1 (B :: Lst t1))
  (hround : ∀ (l : Nat) (pre : List α) (x : α) (W0 : World), assign.wpIn (F.inRound l) (n - 1 - 1) P (Exit.then (fun a1 W1 => W1 = W0 ∧ ∀ (W : World) (t : τ) (B : SP), C1 pre x t → Sep w0 W (B :: Lst t) → body.wpIn (F.inRound l) (n - 1 - 1) P (rdPost Kp (fun W' => ∃ t', C (pre ++ [x]) t' ∧ Sep w0 W' (B :: Lst t')) W) a1 W) (fun _ _ _ => False)) { tmps := (ps.zip (encs x)).foldl (fun t (p, v) => t.setIfInBounds p v) a.tmps, defers := [] } W0)
  (hdone : ∀ (D : Nat) (r : Loop) (xs : List α) (t : τ) (W : World), w.heap.size ≤ D → S xs → C xs t → Sep w0 W (Bk D r :: Lst t) → Q .normal { a with defers := { target := .collected D, args := #[] } :: a.defers } W) :
  (Code.rangeFunc g ps assign body).wpIn F n P Q a w := by
 refine wpIn_rangeFunc fun fn hfn => ?_
 rw [hro]; have hsz : ((w.alloc (.deferred (some []))).alloc (.loop (recS fn a.tmps ps assign body w.heap.size .ready none))).heap.size = w.heap.size + 2 := by simp
 obtain ⟨t0, hC0, hS0⟩ := h0; have hS1 := sep_bk hS0 (recS fn a.tmps ps assign body w.heap.size .ready none); have hb1 : Below w00.heap.size w00 ((w.alloc (.deferred (some []))).alloc (.loop (recS fn a.tmps ps assign body w.heap.size .ready none))) := hb0.trans ((((Below.refl _ w).alloc (Nat.le_refl _) _).alloc (by simp) _).mono hb0.size); have hrun := run_enterLoop_outer (P := P) (w := w); generalize hW1 : (w.alloc (.deferred (some []))).alloc (.loop (recS fn a.tmps ps assign body w.heap.size .ready none)) = W1 at *; refine ⟨w.heap.size + 1, [{ target := .collected w.heap.size, args := #[] }], W1, { target := .fn (.func gf) lb, args := #[.func (.yield (w.heap.size + 1)) #[] #[]] }, W1, gf,
  #[.func (.yield (w.heap.size + 1)) #[] #[]] ++ lb, W1, ?_, by simp only [resolve, hg]; simp [go_sem], (fun f' hf' => by simp [Target.leads] at hf'; subst hf'; exact hFg), by simp [invoke, go_sem, eg], fun _ => h1, ?_⟩
 ·rw [← hW1]; exact run_enterLoop_outer _ _ _ _ _
 refine (hseq (w.heap.size + 1) (fun pre W => ∃ t, C pre t ∧ Sep w0 W (Bk w.heap.size (recS fn a.tmps ps assign body w.heap.size .ready none) :: Lst t))
  (fun pre x W => ∃ t, C1 pre x t ∧ Sep w0 W (Bk w.heap.size (recS fn a.tmps ps assign body w.heap.size .ready none) :: Lst t)) W1 hb1
  (fun pre A B ⟨t, hC, hS⟩ hb => ⟨t, hC, hS.grow hb⟩)
  (fun pre x Wp W1 ⟨t, hC, hS⟩ hb hv ho hN => hnew pre x t _ Wp W1 hC hS hb hv ho hN) ?round ⟨t0, hC0, hS1⟩).mono ?behind
 case behind =>
  rintro e W2 ⟨⟨v, rfl⟩, xs, hSx, t, hC, hS⟩; exact ⟨none, _, run_endLoop (P := P) (sep_bkAt hS).2 (by simp [recS]), hdone _ _ xs t _ (Nat.le_refl _) hSx hC (sep_bkPut hS _)⟩
 case round =>
  rintro pre x W ⟨t, hC, hS⟩; have hl := (sep_bkAt hS).2; refine ⟨fn, _, assign, body, run_yield (P := P) (args := encs x) hl (hps x), roundIn_of_wpIn hfn (wpIn_mono (hround _ pre x W) ?_)⟩; rintro e0 a1 W0 h0
  rcases e0 with _ | _ | _ | _ | _ | _
  all_goals first | exact h0.elim | skip
  obtain ⟨hw0, hbody⟩ := h0; subst W0; refine ⟨_, run_beginRound hl rfl, ?_⟩; have hS2 := sep_bkPut hS (recS fn a.tmps ps assign body w.heap.size .busy none); have hw2 : Kp W (W.putObj (w.heap.size + 1) (.loop (recS fn a.tmps ps assign body w.heap.size .busy none))) := hKb _ _ _ (by omega); refine wpIn_mono (hbody _ t _ hC hS2) ?_; rintro e a3 W3 hp; cases e with
  | normal =>
   obtain ⟨hk3, t', hC', hS3⟩ := hp; have hl3 := (sep_bkAt hS3).2; refine ⟨_, _, run_endRound (P := P) none hl3, rfl, ⟨t', hC', sep_bkPut hS3 _⟩, hKt (hKt hw2 hk3) (hKb _ _ _ (by omega))⟩
  | ret => exact hp.elim
  | exit id => exact hp.elim
  | goto t => exact hp.elim
  | panic ch => exact hp.elim
  | outgrown => exact hp.elim
end
end Go.Proofs.Ytngegjboenfmeaa
/- New of a link, refused; the document's New. -/
namespace Go.Proofs.Ytngegjboenfmeaa
open Go Go.RowKit
set_option linter.unusedVariables false
set_option maxRecDepth 100000
set_option linter.unusedSimpArgs false

/-- may a link be made? -/
def mayLk (sn : Int) (si : Nat) (peer : Int) : Bool := decide ((1 ≤ sn ∧ sn ≤ 10 ∧ si ≠ 0) ∧ si ≤ 34359738367 ∧ 1 ≤ peer ∧ peer ≤ 10 ∧ peer ≠ sn)
/-- the document's link: its fourteen cells -/
def rkCells (sn : Int) (si : Nat) (peer : Int) (conn inc known : Nat) (up : Bool) (base : Nat) (bx : Value) (got heard sent : Nat) (fs es : Value) : Array Value := #[.int .i64 sn, .int .u64 (si : Int), .int .i64 peer, .int .u64 (conn : Int), .int .u64 (inc : Int), .int .u64 (known : Int), .bool up, .int .u64 (base : Int), bx, .int .u64 (got : Int), .int .u64 (heard : Int), .int .u64 (sent : Int), fs, es]
theorem refCountK (w : World) (x : Nat) : Calls Try.prog 47 #[.int .u64 (x : Int)] w fun e w' => e = .returned (.bool (decide (x < 34359738368))) ∧ Below w.heap.size w w' := by
 by_cases h : x < 34359738368
 ·go_enter Try.func47, Try.ntmps47
  go_wp2_with fail
  go_ret
  exact ⟨by simp [h] <;> omega, Below.refl _ _⟩
 ·go_enter Try.func47, Try.ntmps47
  go_wp2_with fail
  go_ret
  exact ⟨by simp [h] <;> omega, Below.refl _ _⟩
theorem refNodeK (w : World) (x : Int) : Calls Try.prog 48 #[.int .i64 x] w fun e w' => e = .returned (.bool (decide (1 ≤ x ∧ x ≤ 10))) ∧ Below w.heap.size w w' := by
 by_cases h : 1 ≤ x
 ·by_cases h2 : x ≤ 10
  ·go_enter Try.func48, Try.ntmps48
   go_wp2_with fail
   go_ret
   exact ⟨by simp [h, h2] <;> omega, Below.refl _ _⟩
  ·go_enter Try.func48, Try.ntmps48
   go_wp2_with fail
   go_ret
   exact ⟨by simp [h, h2] <;> omega, Below.refl _ _⟩
 ·go_enter Try.func48, Try.ntmps48
  go_wp2_with fail
  go_ret
  exact ⟨by simp [h] <;> omega, Below.refl _ _⟩
set_option maxHeartbeats 1600000 in
theorem newLink_no (w : World) (sn : Int) (si : Nat) (peer : Int) (h : mayLk sn si peer = false) :
  Calls Try.prog 17 #[.agg #[.int .i64 sn, .int .u64 (si : Int)], .int .i64 peer] w fun e w' => e = .returned (.tuple #[.pointer none, .int .i64 1]) ∧ Below w.heap.size w w' := by
 have h' := of_decide_eq_false h; clear h; have HS0 := Lib.hid (show Sep w (w.alloc (.cells #[.int .i64 sn, .int .u64 (si : Int)] 46)) [Ce w.heap.size 46 #[.int .i64 sn, .int .u64 (si : Int)]] from sep_ce (Sep.nil w) _ _); go_enter Try.func17, Try.ntmps17
 go_wp2_with fail
 refine (procMay_any _ sn si).mono ?_; rintro e w1 ⟨rfl, hb1⟩; have HS1 := Lib.hid (HS0.out.grow hb1); clear HS0 hb1; have k0 := cA (i := 0) HS1.out rfl 0 rfl; have k1 := cA (i := 0) HS1.out rfl 1 rfl; cases hp : mayPB sn si with
 | false =>
  clear hp h'
  go_wp2_with fail
  go_ret2
  exact ⟨rfl, HS1.out.bel⟩
 | true =>
  have h2 := of_decide_eq_true hp; clear hp
  by_cases h3 : si ≤ 34359738367
  ·by_cases h4 : 1 ≤ peer
   ·by_cases h5 : peer ≤ 10
    ·have ep : (peer == sn) = true := beq_iff_eq.2 (Classical.byContradiction fun e => h' ⟨h2, h3, h4, h5, e⟩); clear h' h2
     go_wp2_with fail
     go_ret2
     exact ⟨rfl, HS1.out.bel⟩
    ·clear h' h2
     go_wp2_with fail
     go_ret2
     exact ⟨rfl, HS1.out.bel⟩
   ·clear h' h2
    go_wp2_with fail
    go_ret2
    exact ⟨rfl, HS1.out.bel⟩
  ·clear h' h2
   go_wp2_with fail
   go_ret2
   exact ⟨rfl, HS1.out.bel⟩
set_option maxHeartbeats 3200000 in
theorem refNew12 (w : World) (sn : Int) (si : Nat) (peer : Int) :
  Calls Try.prog 18 #[.agg #[.int .i64 sn, .int .u64 (si : Int)], .int .i64 peer] w fun e w' => ((mayLk sn si peer = false ∧ e = .returned (.pointer none)) ∨ (mayLk sn si peer = true ∧ ∃ g, e = .returned (.pointer (some ⟨g, 0, none⟩)) ∧ w.heap.size ≤ g ∧ w'.heap[g]? = some (.cells (rkCells sn si peer 1 0 0 false 0 (.slice none 0 0) 0 0 0 (.slice none 0 0) (.slice none 0 0)) 109 (0, 0)))) ∧ Below w.heap.size w w' := by
 have HS0 := Lib.hid (show Sep w (w.alloc (.cells #[.int .i64 sn, .int .u64 (si : Int)] 46)) [Ce w.heap.size 46 #[.int .i64 sn, .int .u64 (si : Int)]] from sep_ce (Sep.nil w) _ _); go_enter Try.func18, Try.ntmps18
 go_wp2_with fail
 refine (ref03May_any _ sn si).mono ?_; rintro e w1 ⟨rfl, hb1⟩; have HS1 := Lib.hid (HS0.out.grow hb1); clear HS0 hb1; have k0 := cA (i := 0) HS1.out rfl 0 rfl; have k1 := cA (i := 0) HS1.out rfl 1 rfl; cases hp : mayPB sn si with
 | false =>
  have HN : Hid (mayLk sn si peer = false) := Lib.hid (decide_eq_false fun e => by have := of_decide_eq_false hp; exact this e.1); clear hp
  go_wp2_with fail
  go_ret
  exact ⟨.inl ⟨HN.out, rfl⟩, HS1.out.bel⟩
 | true =>
  have H2 := Lib.hid (of_decide_eq_true hp); clear hp
  go_wp2_with fail
  clear k0 k1; refine (refCountK _ si).mono ?_; rintro e w2 ⟨rfl, hb1⟩; have HS2 := Lib.hid (HS1.out.grow hb1); clear HS1 hb1
  by_cases h3 : si < 34359738368
  ·rw [show decide (si < 34359738368) = true from decide_eq_true h3]; have H3 := Lib.hid h3; clear h3
   go_wp2_with fail
   refine (refNodeK _ peer).mono ?_; rintro e w3 ⟨rfl, hb1⟩; have HS3 := Lib.hid (HS2.out.grow hb1); clear HS2 hb1; have k0 := cA (i := 0) HS3.out rfl 0 rfl; have k1 := cA (i := 0) HS3.out rfl 1 rfl
   by_cases h4 : 1 ≤ peer ∧ peer ≤ 10
   ·rw [show decide (1 ≤ peer ∧ peer ≤ 10) = true from decide_eq_true h4]; have H4 := Lib.hid h4; clear h4
    by_cases h5 : peer = sn
    ·have HN : Hid (mayLk sn si peer = false) := Lib.hid (decide_eq_false fun e => e.2.2.2.2 h5); have ep : (peer == sn) = true := beq_iff_eq.2 h5; clear h5
     go_wp2_with fail
     go_ret
     exact ⟨.inl ⟨HN.out, rfl⟩, HS3.out.bel⟩
    ·have HY : Hid (mayLk sn si peer = true) := Lib.hid (decide_eq_true ⟨H2.out, by have := H3.out; omega, H4.out.1, H4.out.2, h5⟩); have ep : (peer == sn) = false := beq_eq_false_iff_ne.2 h5; clear h5
     go_wp2_with fail
     go_ret
     exact ⟨.inr ⟨HY.out, _, rfl, HS3.out.size, heap_alloc_new _ _⟩, HS3.out.bel.alloc HS3.out.size _⟩
   ·have HN : Hid (mayLk sn si peer = false) := Lib.hid (decide_eq_false fun e => h4 ⟨e.2.2.1, e.2.2.2.1⟩); rw [show decide (1 ≤ peer ∧ peer ≤ 10) = false from decide_eq_false h4]; clear h4
    go_wp2_with fail
    go_ret
    exact ⟨.inl ⟨HN.out, rfl⟩, HS3.out.bel⟩
  ·have HN : Hid (mayLk sn si peer = false) := Lib.hid (decide_eq_false fun e => by have := e.2.1; omega); rw [show decide (si < 34359738368) = false from decide_eq_false h3]; clear h3
   go_wp2_with fail
   go_ret
   exact ⟨.inl ⟨HN.out, rfl⟩, HS2.out.bel⟩
end Go.Proofs.Ytngegjboenfmeaa
/- What a link tells of itself: Conns, Waits, Up. -/
namespace Go.Proofs.Ytngegjboenfmeaa
open Go Go.RowKit
set_option linter.unusedVariables false
set_option maxRecDepth 100000
set_option linter.unusedSimpArgs false

set_option maxHeartbeats 800000 in
theorem conns_any (w : World) (g base : Nat) (bx : Value) (got : Nat) (sn : Int) (si : Nat) (peer : Int) (conn inc known : Nat) (up : Bool) (heard sent : Nat) (hsn : sn ≠ 0) (h : w.heap[g]? = some (.cells (lkCells base bx got sn si peer conn inc known up heard sent) 72 (0, 0))) :
  Calls Try.prog 13 #[.pointer (some ⟨g, 0, none⟩)] w fun e w' => e = .returned (.tuple #[.int .u64 (conn : Int), .int .u64 (known : Int)]) ∧ Below w.heap.size w w' := by
 have HG := Lib.hid (lt_of_heap h); have HC3 : Hid (w.cell? ⟨g, 3, none⟩ = some (.int .i64 sn)) := Lib.hid (by rw [cell_of_row w g 3 _ _ _ h]; rfl); have HC6 : Hid (w.cell? ⟨g, 6, none⟩ = some (.int .u64 (conn : Int))) := Lib.hid (by rw [cell_of_row w g 6 _ _ _ h]; rfl); have HC8 : Hid (w.cell? ⟨g, 8, none⟩ = some (.int .u64 (known : Int))) := Lib.hid (by rw [cell_of_row w g 8 _ _ _ h]; rfl); clear h; go_enter Try.func13, Try.ntmps13
 go_wp2_with fail
 refine (made_yes w g sn hsn HC3.out).mono ?_; rintro e w1 ⟨rfl, hb1⟩; have HS1 := Lib.hid (Sep.start hb1); clear hb1 hsn
 go_wp2_with fail
 refine wRG (fun dn xv W => Sep w W []) (fun _ _ => True) [xP_ g 0, xP_ g 0, xP_ g 6, xV_ (.int .u64 (conn : Int)), xP_ g 0, xP_ g 0, xP_ g 8, xV_ (.int .u64 (known : Int)), xV_ (.int .u64 (conn : Int)), xV_ (.int .u64 (known : Int))] (fun xv => by simpa using HS1.out.drew) ?_ ?_
 ·refine Ep 1 0 g 0 ?_
  refine Ee 2 7 0 ?_
  refine Ee 3 8 1 ?_
  refine Eek 4 9 2 (fun _ _ _ e => (e.bel.cell (p := ⟨g, 6, none⟩) HG.out).trans HC6.out) ?_
  refine Ep 5 0 g 0 ?_
  refine Ee 6 11 4 ?_
  refine Ee 7 12 5 ?_
  refine Eek 8 13 6 (fun _ _ _ e => (e.bel.cell (p := ⟨g, 8, none⟩) HG.out).trans HC8.out) ?_
  refine Ee 9 10 3 ?_
  refine Ee 10 14 7 ?_
  exact EN
 ·intro dn xv W hI H; have q8 : xv 8 = .int .u64 (conn : Int) := (H 8 (of_decide_eq_true (by kernel_rfl))).2; have q9 : xv 9 = .int .u64 (known : Int) := (H 9 (of_decide_eq_true (by kernel_rfl))).2; have hS : Sep w W [] := hI; clear H hI; simp only [putAll, Act.put, List.setIfInBounds_toArray, List.set_cons_zero, List.set_cons_succ, Nat.reduceAdd, q8, q9]; clear q8 q9; have HS2 := Lib.hid hS; clear hS
  go_wp2_with fail
  go_ret2
  exact ⟨rfl, HS2.out.bel⟩
set_option maxHeartbeats 800000 in
theorem waits_any (w : World) (g base : Nat) (A : Option Addr) (nb cb : Nat) (got : Nat) (sn : Int) (si : Nat) (peer : Int) (conn inc known : Nat) (up : Bool) (heard sent : Nat) (hsn : sn ≠ 0) (h : w.heap[g]? = some (.cells (lkCells base (.slice A nb cb) got sn si peer conn inc known up heard sent) 72 (0, 0))) :
  Calls Try.prog 23 #[.pointer (some ⟨g, 0, none⟩)] w fun e w' => e = .returned (.int .i64 (nb : Int)) ∧ Below w.heap.size w w' := by
 have HG := Lib.hid (lt_of_heap h); have HC1 : Hid (w.cell? ⟨g, 1, none⟩ = some (.slice A nb cb)) := Lib.hid (by rw [cell_of_row w g 1 _ _ _ h]; rfl); have HC3 : Hid (w.cell? ⟨g, 3, none⟩ = some (.int .i64 sn)) := Lib.hid (by rw [cell_of_row w g 3 _ _ _ h]; rfl); clear h; go_enter Try.func23, Try.ntmps23
 go_wp2_with fail
 refine (made_yes w g sn hsn HC3.out).mono ?_; rintro e w1 ⟨rfl, hb1⟩; have k1 := (hb1.cell (p := ⟨g, 1, none⟩) HG.out).trans HC1.out; clear hsn
 go_wp2_with fail
 go_ret
 exact ⟨rfl, hb1⟩
theorem up_any (w : World) (g : Nat) (sn : Int) (up : Bool) (hsn : sn ≠ 0) (k3 : w.cell? ⟨g, 3, none⟩ = some (.int .i64 sn)) (k9 : w.cell? ⟨g, 9, none⟩ = some (.bool up)) : Calls Try.prog 12 #[.pointer (some ⟨g, 0, none⟩)] w fun e w' => e = .returned (.bool up) ∧ Below w.heap.size w w' := by
 have hg := World.block_lt_of_cell? w _ k9; have K9 := Lib.hid k9; clear k9; go_enter Try.func12, Try.ntmps12
 go_wp2_with fail
 refine (made_yes w g sn hsn k3).mono ?_; rintro e w1 ⟨rfl, hb1⟩; have k9 := (hb1.cell (p := ⟨g, 9, none⟩) hg).trans K9.out; clear k3
 go_wp2_with fail
 go_ret
 exact ⟨rfl, hb1⟩
end Go.Proofs.Ytngegjboenfmeaa
/- Take of a frame of a life that is new to a link that is not up: what it does ahead of being up. -/
namespace Go.Proofs.Ytngegjboenfmeaa
open Go Go.RowKit
set_option linter.unusedVariables false
set_option maxRecDepth 100000
set_option linter.unusedSimpArgs false

theorem mayFk {w : World} {kk fr to : Int} {inc conn pinc pconn ack seq n c : Nat} {A : Option Addr} {b : Bool} (hb : mayB kk fr to inc conn pinc pconn ack seq n = b) (hn : n ≤ maxLen) :
  Calls Try.prog 40 #[.agg #[.int .i64 kk, .int .i64 fr, .int .i64 to, .int .u64 (inc : Int), .int .u64 (conn : Int), .int .u64 (pinc : Int), .int .u64 (pconn : Int), .int .u64 (ack : Int), .int .u64 (seq : Int), .slice A n c]] w fun e w' => e = .returned (.bool b) ∧ Below w.heap.size w w' := by
 have h := may_any w kk fr to inc conn pinc pconn ack seq n c A hn; rw [hb] at h; exact h
theorem teller_any (w : World) (g o : Nat) : Calls Try.prog 36 #[.pointer (some ⟨g, 0, none⟩), .pointer (some ⟨o, 0, none⟩)] w fun e w' => e = .returned (.func (.func 56) #[] #[.pointer (some ⟨w.heap.size + 1, 0, none⟩), .pointer (some ⟨w.heap.size, 0, none⟩)]) ∧ w' = (w.alloc (.cells #[.pointer (some ⟨g, 0, none⟩)] 26)).alloc (.cells #[.pointer (some ⟨o, 0, none⟩)] 92) := by
 go_enter Try.func36, Try.ntmps36
 go_wp2_with fail
 go_ret
 exact ⟨rfl, rfl⟩
set_option maxHeartbeats 800000 in
theorem sep_down0 {w0 w : World} {Ps : List SP} {i g : Nat} {fv bx : Value} {base got si conn inc known heard sent : Nat} {sn peer : Int} (h : Sep w0 w Ps) (hi : Ps[i]? = some (Ce g 72 (lkCells base bx got sn si peer conn inc known false heard sent))) :
  Calls Try.prog 35 #[.pointer (some ⟨g, 0, none⟩), fv] w fun e w' => e = .returned (.tuple #[]) ∧ Sep w0 w' (Ps.set i (Ce g 72 (lkCells 0 (.slice none 0 0) 0 sn si peer conn inc known false heard sent))) := by
 have hlt := (List.getElem?_eq_some_iff.1 hi).1; have k9 := cA h hi 9 rfl; have k0 := cA h hi 0 rfl; have k1 := cA h hi 1 rfl; have k2 := cA h hi 2 rfl; have y9 := cFz h hi 9; have y0 := cFz h hi 0; have y1 := cFz h hi 1; have y2 := cFz h hi 2; have hs := cS h hi 0 (.int .u64 0); have hs := cS hs (List.getElem?_set_self hlt) 1 (.slice none 0 0); rw [List.set_set] at hs; have hs := cS hs (List.getElem?_set_self hlt) 2 (.int .u64 0); rw [List.set_set] at hs; have hs := cS hs (List.getElem?_set_self hlt) 9 (.bool false); rw [List.set_set] at hs; have HS := Lib.hid hs; clear hs h hi; go_enter Try.func35, Try.ntmps35
 go_wp2_with fail
 go_end0
 exact ⟨rfl, HS.out⟩
end Go.Proofs.Ytngegjboenfmeaa
/- Bytes of one's own as things that lie apart; an append to one of them. -/
namespace Go.Proofs.Ytngegjboenfmeaa
open Go Go.RowKit
set_option linter.unusedVariables false
/-- bytes of one's own -/
def By (v : Value) (l : List UInt8) : SP := fun w F => Own w 0 v l ∧ ∀ k, F k ↔ v.ownBlock = some k
theorem own_keep {w w' : World} {base : Nat} {v : Value} {l : List UInt8} (h : Own w base v l) (hk : ∀ k, v.ownBlock = some k → w'.heap[k]? = w.heap[k]?) : Own w' base v l := by
 refine ⟨h.1, ?_⟩
 rcases h.2 with e | ⟨k, cap, cur, rfl, f1, f2, f3⟩
 ·exact .inl e
 ·exact .inr ⟨k, cap, cur, rfl, f1, by rw [hk k rfl]; exact f2, f3⟩
theorem By.loc (v : Value) (l : List UInt8) : Loc (By v l) where
 keep := by
  rintro w w' F ⟨h, hF⟩ hk; exact ⟨own_keep h fun k hv => hk k ((hF k).2 hv), hF⟩
 lt := by
  rintro w F ⟨h, hF⟩ k hk; exact (h.lt k ((hF k).1 hk)).2
theorem sep_byForm {w0 w : World} {Ps : List SP} {i : Nat} {v : Value} {l : List UInt8} (h : Sep w0 w Ps) (hi : Ps[i]? = some (By v l)) : ∃ A c, v = .slice A l.length c ∧ l.length ≤ c ∧ c ≤ maxLen ∧ Has w w.heap.size A (us l) := by
 obtain ⟨F, h⟩ := h.get hi; exact h.1.form
theorem sep_grown {w0 w w' : World} {Ps : List SP} {i : Nat} {v v' : Value} {l l' : List UInt8} (h : Sep w0 w Ps) (hi : Ps[i]? = some (By v l)) (ho : Own w' 0 v' l') (hg : w.grownBy w' v.ownBlock) (hat : v'.ownBlock = v.ownBlock ∨ v'.ownBlock = some w.heap.size) : Sep w0 w' (Ps.set i (By v' l')) := by
 obtain ⟨F, ⟨h1, hF⟩, hL, hlt, hk⟩ := h.upd hi; refine hk w' _ (fun k => v'.ownBlock = some k) ⟨hg.os, hg.tape, hg.output, hg.size, fun k hk hnF => hg.block k hk (fun e => hnF ((hF k).2 e.symm)), fun k hk => ?_⟩ ⟨ho, fun k => Iff.rfl⟩ (By.loc _ _)
 rcases hat with e | e
 ·exact .inl ((hF k).2 (by rw [← e]; exact hk))
 ·rw [e] at hk; injection hk with hk; exact .inr (by omega)
/-- an append, in a walk -/
theorem sep_app {w0 w : World} {Ps : List SP} {i : Nat} {ops : Array Oper} {rest : List Oper} {o : Oper} {a : Act} {Q : Exit → Act → World → Prop} {s x : Operand} {B c : Nat} {v : Value} {A : Option Addr} {l m : List UInt8} (hgd : o.guard = none)
  (ho : o.op = .call { callee := .builtin .append, args := #[s, x], argTypes := #[47, 47] }) (hs : a.eval s = v) (hx : a.eval x = .slice A m.length c)
  (h : Sep w0 w Ps) (hi : Ps[i]? = some (By v l)) (hr : Has w B A (us m)) (hlen : l.length + m.length ≤ 100000000000000)
  (hk : ∀ v' w', Sep w0 w' (Ps.set i (By v' (l ++ m))) → wpList Try.prog ops Q rest (a.put o.dst v') w') : wpList Try.prog ops Q (o :: rest) a w := by
 obtain ⟨F, hb⟩ := h.get hi; exact wp_app hgd ho hs hx hb.1 hr hlen (Nat.zero_le _) fun v' w' h1 _ h3 h4 => hk v' w' (sep_grown h hi h1 h3 h4)
/-- an append, in a drawn region -/
theorem sep_opApp {w0 w : World} {Ps : List SP} {i : Nat} {o : Oper} {a : Act} {K : Act → World → Prop} {Q : Exit → Act → World → Prop} {s x : Operand} {B c : Nat} {v : Value} {A : Option Addr} {l m : List UInt8}
  (ho : o.op = .call { callee := .builtin .append, args := #[s, x], argTypes := #[47, 47] }) (hs : a.eval s = v) (hx : a.eval x = .slice A m.length c)
  (h : Sep w0 w Ps) (hi : Ps[i]? = some (By v l)) (hr : Has w B A (us m)) (hlen : l.length + m.length ≤ 100000000000000)
  (hk : ∀ v' w', Sep w0 w' (Ps.set i (By v' (l ++ m))) → K (a.put o.dst v') w') : Oper.wp Try.prog o a w K Q := by
 obtain ⟨F, hb⟩ := h.get hi; exact op_app ho hs hx hb.1 hr hlen (Nat.zero_le _) fun v' w' h1 _ h3 h4 => hk v' w' (sep_grown h hi h1 h3 h4)
end Go.Proofs.Ytngegjboenfmeaa
/- The walk of the document's Own of a frame. -/
namespace Go.Proofs.Ytngegjboenfmeaa
open Go Go.RowKit
set_option linter.unusedVariables false
set_option maxRecDepth 100000

theorem own_lit (w : World) (m : List UInt8) (hm : m.length ≤ maxLen) : Own (w.alloc (.cells (us m).toArray 5)) w.heap.size (.slice (some ⟨w.heap.size, 0, none⟩) m.length m.length) m := by
  exact ⟨by simp [us], .inr ⟨w.heap.size, m.length, (us m).toArray, rfl, Nat.le_refl _, heap_alloc_new w _, Nat.le_refl _, hm, by simp [us], by rw [Nat.mul_one, ← us_length m]; simp⟩⟩
theorem sep_lit {w0 w : World} {Ps : List SP} (h : Sep w0 w Ps) (m : List UInt8) (hm : m.length ≤ maxLen) : Sep w0 (w.alloc (.cells (us m).toArray 5)) (Ps ++ [By (.slice (some ⟨w.heap.size, 0, none⟩) m.length m.length) m]) :=
  h.add (F := fun k => k = w.heap.size) ((Below.refl _ _).alloc (Nat.le_refl _) _) ⟨own_mono (own_lit w m hm) (Nat.zero_le _), fun k => by simp [Value.ownBlock, eq_comm]⟩ (By.loc _ _) (fun k hk => by omega)
/-- from where on the bytes lie -/
theorem sep_byBase {w0 w : World} {Ps : List SP} {i : Nat} {v : Value} {l : List UInt8} (h : Sep w0 w Ps) (hi : Ps[i]? = some (By v l)) : Own w w0.heap.size v l := by
  obtain ⟨F, ⟨h1, hF⟩, _, hlt, _⟩ := h.upd hi; refine ⟨h1.1, ?_⟩
  rcases h1.2 with e | ⟨k, cap, cur, rfl, f1, f2, f3⟩
  · exact .inl e
  · exact .inr ⟨k, cap, cur, rfl, (hlt k ((hF k).2 rfl)).1, f2, f3⟩
theorem own5_any (w : World) (B : Nat) (f : Fr) (A : Option Addr) (c : Nat) (hA : Has w B A (us f.body)) (hB : B ≤ w.heap.size) (hl : f.body.length ≤ 1000000000) :
    Calls Try.prog 32 #[.agg (f.cells A c)] w fun e w' => ∃ A' c', e = .returned (.agg (f.cells A' c')) ∧ Own w' w.heap.size (.slice A' f.body.length c') f.body ∧ Below w.heap.size w w' := by
  have HA := Lib.hid (hA.more hB); have HS0 := Lib.hid (show Sep w (((w.alloc (.cells (f.cells A c) 51)).alloc (.cells (Fr.nil.cells none 0) 51)).alloc (.cells #[] 5)) [Ce w.heap.size 51 (f.cells A c), Ce (w.heap.size + 1) 51 (Fr.nil.cells none 0), By (.slice (some ⟨w.heap.size + 1 + 1, 0, none⟩) 0 0) []] by
    have := sep_lit (sep_ce (sep_ce (Sep.nil w) (f.cells A c) 51) (Fr.nil.cells none 0) 51) [] (by unfold maxLen; simp)
    simp only [us, List.map_nil, World.size_alloc, List.nil_append, List.cons_append, List.length_nil] at this; exact this)
  obtain ⟨kind, fr, to, inc, conn, pinc, pconn, ack, seq, body⟩ := f; simp only [Fr.cells, Fr.nil] at *; clear hA hB; go_enter Try.func32, Try.ntmps32
  go_wp2_with (at_builtin; go_must (refine sep_app (i := 2) (m := body) rfl rfl (by rfl) (by rfl) HS0.out rfl (HS0.out.has HA.out) (by simp; omega) ?_); intro v1 w1 hs1
               have HS1 : Hid (Sep w w1 [_, _, By v1 body]) := Lib.hid hs1; obtain ⟨A1, c1, rfl, _, _, _⟩ := sep_byForm (i := 2) HS1.out rfl; clear hs1 HS0; have f9 := cFz (i := 0) HS1.out rfl 9; have k0 := cA (i := 0) HS1.out rfl 0 rfl; have z0 := cA (i := 1) HS1.out rfl 0 rfl; have y0 := cFz (i := 1) HS1.out rfl 0; have k1 := cA (i := 0) HS1.out rfl 1 rfl; have z1 := cA (i := 1) HS1.out rfl 1 rfl; have y1 := cFz (i := 1) HS1.out rfl 1; have k2 := cA (i := 0) HS1.out rfl 2 rfl; have z2 := cA (i := 1) HS1.out rfl 2 rfl; have y2 := cFz (i := 1) HS1.out rfl 2; have k3 := cA (i := 0) HS1.out rfl 3 rfl; have z3 := cA (i := 1) HS1.out rfl 3 rfl; have y3 := cFz (i := 1) HS1.out rfl 3; have k4 := cA (i := 0) HS1.out rfl 4 rfl; have z4 := cA (i := 1) HS1.out rfl 4 rfl; have y4 := cFz (i := 1) HS1.out rfl 4; have k5 := cA (i := 0) HS1.out rfl 5 rfl; have z5 := cA (i := 1) HS1.out rfl 5 rfl; have y5 := cFz (i := 1) HS1.out rfl 5; have k6 := cA (i := 0) HS1.out rfl 6 rfl; have z6 := cA (i := 1) HS1.out rfl 6 rfl; have y6 := cFz (i := 1) HS1.out rfl 6; have k7 := cA (i := 0) HS1.out rfl 7 rfl; have z7 := cA (i := 1) HS1.out rfl 7 rfl; have y7 := cFz (i := 1) HS1.out rfl 7; have k8 := cA (i := 0) HS1.out rfl 8 rfl; have z8 := cA (i := 1) HS1.out rfl 8 rfl; have y8 := cFz (i := 1) HS1.out rfl 8; have k9 := cA (i := 0) HS1.out rfl 9 rfl; have z9 := cA (i := 1) HS1.out rfl 9 rfl; have y9 := cFz (i := 1) HS1.out rfl 9)
  obtain ⟨_, hs2⟩ := sep_put10 (i := 1) (cS (i := 0) HS1.out rfl 9 (.slice A1 body.length c1)) rfl (.int .i64 kind) (.int .i64 fr) (.int .i64 to) (.int .u64 (inc : Int)) (.int .u64 (conn : Int)) (.int .u64 (pinc : Int)) (.int .u64 (pconn : Int)) (.int .u64 (ack : Int)) (.int .u64 (seq : Int)) (.slice A1 body.length c1); have HS2 : Hid (Sep w _ [_, _, By (.slice A1 body.length c1) body]) := Lib.hid hs2; clear hs2; refine bodyPost_ret (v := .agg #[.int .i64 kind, .int .i64 fr, .int .i64 to, .int .u64 (inc : Int), .int .u64 (conn : Int), .int .u64 (pinc : Int), .int .u64 (pconn : Int), .int .u64 (ack : Int), .int .u64 (seq : Int), .slice A1 body.length c1]) (by simp [results, Try.results32, go_sem, z0, z1, z2, z3, z4, z5, z6, z7, z8, z9]) rfl ?_; exact ⟨A1, c1, rfl, sep_byBase (i := 2) HS2.out rfl, HS2.out.bel⟩
end Go.Proofs.Ytngegjboenfmeaa
/- Rows of one's own whose slice begins anywhere in its block. No program in sight. -/
namespace Go.Proofs.Ytngegjboenfmeaa
open Go Go.RowKit
set_option linter.unusedVariables false
set_option maxRecDepth 100000

/-- a row of one's own, from wherever its slice begins -/
def OwnO (w : World) (e : TypeId) (size : Nat) (v : Value) (n : Nat) (xs : List Value) : Prop :=
 xs.length = n * size ∧ ((v = .slice none 0 0 ∧ n = 0) ∨ ∃ g off cap cur, v = .slice (some ⟨g, off, none⟩) n cap ∧ w.heap[g]? = some (.cells cur e (0, 0)) ∧ n ≤ cap ∧ cap ≤ maxLen ∧ off + cap * size ≤ cur.size ∧ (cur.toList.drop off).take (n * size) = xs)
def RwO (e : TypeId) (size : Nat) (v : Value) (n : Nat) (xs : List Value) : SP := fun w F => OwnO w e size v n xs ∧ ∀ k, F k ↔ v.ownBlock = some k
theorem ownO_keep {w w' : World} {e : TypeId} {size : Nat} {v : Value} {n : Nat} {xs : List Value} (h : OwnO w e size v n xs) (hk : ∀ k, v.ownBlock = some k → w'.heap[k]? = w.heap[k]?) : OwnO w' e size v n xs := by
 refine ⟨h.1, ?_⟩
 rcases h.2 with q | ⟨g, off, cap, cur, rfl, f1, f2⟩
 ·exact .inl q
 ·exact .inr ⟨g, off, cap, cur, rfl, by rw [hk g rfl]; exact f1, f2⟩
theorem ownO_lt {w : World} {e : TypeId} {size : Nat} {v : Value} {n : Nat} {xs : List Value} (h : OwnO w e size v n xs) {k : Nat} (hk : v.ownBlock = some k) : k < w.heap.size := by
 rcases h.2 with ⟨rfl, _⟩ | ⟨g, off, cap, cur, rfl, f1, _⟩
 ·simp [Value.ownBlock] at hk
 ·simp only [Value.ownBlock, Option.some.injEq] at hk; subst hk; exact lt_of_heap f1
theorem RwO.loc (e : TypeId) (size : Nat) (v : Value) (n : Nat) (xs : List Value) : Loc (RwO e size v n xs) where
 keep := by
  rintro w w' F ⟨h, hF⟩ hk; exact ⟨ownO_keep h fun k hv => hk k ((hF k).2 hv), hF⟩
 lt := by
  rintro w F ⟨h, hF⟩ k hk; exact ownO_lt h ((hF k).1 hk)
section
variable {P : Program} (w : World)
end
section
variable {w0 w w' : World} {Ps : List SP} {i : Nat} {e : TypeId} {size n : Nat} {v v' : Value} {xs xs' : List Value}
end
end Go.Proofs.Ytngegjboenfmeaa
/- Maps keyed by pairs, of rows of texts, as things that lie apart. -/
namespace Go.Proofs.Ytngegjboenfmeaa
open Go Go.RowKit Go.MapKept Go.ChangeMaps
open Go.WideMaps (KeyLaw)
set_option linter.unusedVariables false
set_option linter.unusedSimpArgs false
set_option maxRecDepth 100000

/-- a pair: side, inc, conn, the peer's inc, the peer's conn -/
abbrev Pr := Int × Nat × Nat × Nat × Nat
def prV (p : Pr) : Value := .agg #[.int .i64 p.1, .int .u64 (p.2.1 : Int), .int .u64 (p.2.2.1 : Int), .int .u64 (p.2.2.2.1 : Int), .int .u64 (p.2.2.2.2 : Int)]
def prOk (p : Pr) : Prop := (-9223372036854775808 ≤ p.1 ∧ p.1 ≤ 9223372036854775807) ∧ p.2.1 ≤ 18446744073709551615 ∧ p.2.2.1 ≤ 18446744073709551615 ∧ p.2.2.2.1 ≤ 18446744073709551615 ∧ p.2.2.2.2 ≤ 18446744073709551615
/-- a row of texts of one's own -/
def strsV (L : List (List UInt8)) : List Value := L.map fun l => .string ⟨l.toArray⟩
def StrR (w : World) (v : Value) (L : List (List UInt8)) : Prop := w.ownsRow 0 9 1 v L.length (strsV L)
/-- its blocks are among F, and not b -/
def BkM (F : Nat → Prop) (b : Nat) (v : Value) : Prop := ∀ k, v.ownBlock = some k → F k ∧ k ≠ b
def Apt (u v : Value) : Prop := ∀ k, u.ownBlock = some k → v.ownBlock ≠ some k
structure MpOk (w : World) (F : Nat → Prop) (b : Nat) (es : Array MapEntry) (clock : Nat) : Prop where
 lt : ∀ k, F k → k < w.heap.size
 own : F b
 hp : w.heap[b]? = some (.map es clock)
 st : Stamped es clock
 keys : ∀ x ∈ es.toList, ∃ p, prOk p ∧ x.key = prV p
/-- a map: at each pair a row of texts -/
def MapT (b : Nat) (m : Pr → List (List UInt8)) : SP := fun w F => ∃ es clock, MpOk w F b es clock ∧
 (∀ x ∈ es.toList, ∀ p, x.key = prV p → StrR w x.val (m p) ∧ BkM F b x.val) ∧
 (∀ x ∈ es.toList, ∀ y ∈ es.toList, x.key ≠ y.key → Apt x.val y.val) ∧
 ∀ p, (∀ x ∈ es.toList, x.key ≠ prV p) → m p = []
/-- .. of which the row at q has been taken out: it is u now, and holds l; o: its stamp -/
def MapL (b : Nat) (m : Pr → List (List UInt8)) (q : Pr) (u : Value) (l : List (List UInt8)) (o : Option Nat) : SP := fun w F => ∃ es clock, MpOk w F b es clock ∧ prOk q ∧
 (∀ x ∈ es.toList, ∀ p, p ≠ q → x.key = prV p → StrR w x.val (m p) ∧ BkM F b x.val ∧ Apt x.val u) ∧
 (∀ x ∈ es.toList, ∀ y ∈ es.toList, x.key ≠ prV q → y.key ≠ prV q → x.key ≠ y.key → Apt x.val y.val) ∧
 (StrR w u l ∧ BkM F b u) ∧
 (∀ p, p ≠ q → (∀ x ∈ es.toList, x.key ≠ prV p) → m p = []) ∧
 ∀ s, o = some s → ∃ x ∈ es.toList, x.key = prV q ∧ x.born = s
theorem strR_keep {w w' : World} {v : Value} {L : List (List UInt8)} (h : StrR w v L) (hk : ∀ k, v.ownBlock = some k → w'.heap[k]? = w.heap[k]?) : StrR w' v L := ownsRow_keep h hk
theorem MpOk.keep {w w' : World} {F : Nat → Prop} {b : Nat} {es : Array MapEntry} {clock : Nat} (h : MpOk w F b es clock) (hk : ∀ k, F k → w'.heap[k]? = w.heap[k]?) : MpOk w' F b es clock :=
 ⟨fun k hF => by
  have h1 := hk k hF; rw [Array.getElem?_eq_getElem (h.lt k hF)] at h1; exact (Array.getElem?_eq_some_iff.1 h1).1, h.own, (hk b h.own).trans h.hp, h.st, h.keys⟩
theorem MapT.loc (b : Nat) (m : Pr → List (List UInt8)) : Loc (MapT b m) where
 keep := by
  rintro w w' F ⟨es, clock, h1, h2, h3, h4⟩ hk; exact ⟨es, clock, h1.keep hk, fun x hx p hp => ⟨strR_keep (h2 x hx p hp).1 fun k hv => hk k ((h2 x hx p hp).2 k hv).1, (h2 x hx p hp).2⟩, h3, h4⟩
 lt := by
  rintro w F ⟨es, clock, h1, _⟩; exact h1.lt
theorem MapL.loc (b : Nat) (m : Pr → List (List UInt8)) (q : Pr) (u : Value) (l : List (List UInt8)) (o : Option Nat) : Loc (MapL b m q u l o) where
 keep := by
  rintro w w' F ⟨es, clock, h1, h2, h3, h4, h5, h6⟩ hk; exact ⟨es, clock, h1.keep hk, h2, fun x hx p hn hp => ⟨strR_keep (h3 x hx p hn hp).1 fun k hv => hk k ((h3 x hx p hn hp).2.1 k hv).1, (h3 x hx p hn hp).2⟩, h4, ⟨strR_keep h5.1 fun k hv => hk k (h5.2 k hv).1, h5.2⟩, h6⟩
 lt := by
  rintro w F ⟨es, clock, h1, _⟩; exact h1.lt
def updM (m : Pr → List (List UInt8)) (q : Pr) (l : List (List UInt8)) : Pr → List (List UInt8) := fun p => if p = q then l else m p
section
variable {w0 w : World} {Ps : List SP} {i b : Nat} {m : Pr → List (List UInt8)} {q : Pr} {u : Value} {l : List (List UInt8)} {o : Option Nat}
end
end Go.Proofs.Ytngegjboenfmeaa
/- May a frame be, as the document says. -/
namespace Go.Proofs.Ytngegjboenfmeaa
open Go Go.RowKit
set_option linter.unusedVariables false
set_option maxRecDepth 100000
set_option maxHeartbeats 1600000 in
theorem refMay_any (w : World) (kind fr to : Int) (inc conn pinc pconn ack seq n c : Nat) (A : Option Addr) (hn : n ≤ maxLen) :
  Calls Try.prog 62 #[.agg #[.int .i64 kind, .int .i64 fr, .int .i64 to, .int .u64 (inc : Int), .int .u64 (conn : Int), .int .u64 (pinc : Int), .int .u64 (pconn : Int), .int .u64 (ack : Int), .int .u64 (seq : Int), .slice A n c]] w fun e w' => e = .returned (.bool (mayB kind fr to inc conn pinc pconn ack seq n)) ∧ Below w.heap.size w w' := by
 unfold maxLen at hn; go_enter Try.func62, Try.ntmps62
 go_wp2_with fail
 refine (refNode_any _ fr).mono ?_; rintro e w1 ⟨rfl, rfl⟩
 by_cases h1 : 1 ≤ fr ∧ fr ≤ 10
 ·rw [nodeB_yes h1]
  go_wp2_with fail
  refine (refNode_any _ to).mono ?_; rintro e w1 ⟨rfl, rfl⟩
  by_cases h2 : 1 ≤ to ∧ to ≤ 10
  ·rw [nodeB_yes h2]
   by_cases h3 : fr = to
   ·have e3 : (fr == to) = true := by simp; omega
    go_wp2_with fail
    go_ret
    exact ⟨ret_bool (decide_eq_false (by omega)), below_box _⟩
   ·have e3 : (fr == to) = false := by simp; omega
    go_wp2_with fail
    refine (refCount_any _ inc).mono ?_; rintro e w1 ⟨rfl, rfl⟩
    by_cases c_inc : inc < 34359738368
    ·rw [countB_yes c_inc]
     go_wp2_with fail
     refine (refCount_any _ conn).mono ?_; rintro e w1 ⟨rfl, rfl⟩
     by_cases c_conn : conn < 34359738368
     ·rw [countB_yes c_conn]
      go_wp2_with fail
      refine (refCount_any _ pinc).mono ?_; rintro e w1 ⟨rfl, rfl⟩
      by_cases c_pinc : pinc < 34359738368
      ·rw [countB_yes c_pinc]
       go_wp2_with fail
       refine (refCount_any _ pconn).mono ?_; rintro e w1 ⟨rfl, rfl⟩
       by_cases c_pconn : pconn < 34359738368
       ·rw [countB_yes c_pconn]
        go_wp2_with fail
        refine (refCount_any _ ack).mono ?_; rintro e w1 ⟨rfl, rfl⟩
        by_cases c_ack : ack < 34359738368
        ·rw [countB_yes c_ack]
         go_wp2_with fail
         refine (refCount_any _ seq).mono ?_; rintro e w1 ⟨rfl, rfl⟩
         by_cases c_seq : seq < 34359738368
         ·rw [countB_yes c_seq]
          by_cases z_inc : inc = 0
          ·have e_inc : (((inc : Nat) : Int) == 0) = true := by simp; omega
           have d_inc : (((inc : Nat) : Int) != 0) = false := by simp; omega
           go_wp2_with fail
           go_ret
           exact ⟨ret_bool (decide_eq_false (by omega)), below_box _⟩
          ·have e_inc : (((inc : Nat) : Int) == 0) = false := by simp; omega
           have d_inc : (((inc : Nat) : Int) != 0) = true := by simp; omega
           by_cases z_conn : conn = 0
           ·have e_conn : (((conn : Nat) : Int) == 0) = true := by simp; omega
            have d_conn : (((conn : Nat) : Int) != 0) = false := by simp; omega
            go_wp2_with fail
            go_ret
            exact ⟨ret_bool (decide_eq_false (by omega)), below_box _⟩
           ·have e_conn : (((conn : Nat) : Int) == 0) = false := by simp; omega
            have d_conn : (((conn : Nat) : Int) != 0) = true := by simp; omega
            by_cases z_pinc : pinc = 0
            ·have e_pinc : (((pinc : Nat) : Int) == 0) = true := by simp; omega
             have d_pinc : (((pinc : Nat) : Int) != 0) = false := by simp; omega
             by_cases z_pconn : pconn = 0
             ·have e_pconn : (((pconn : Nat) : Int) == 0) = true := by simp; omega
              have d_pconn : (((pconn : Nat) : Int) != 0) = false := by simp; omega
              by_cases z_ack : ack = 0
              ·have e_ack : (((ack : Nat) : Int) == 0) = true := by simp; omega
               have d_ack : (((ack : Nat) : Int) != 0) = false := by simp; omega
               by_cases i_kind1 : kind = 1
               ·have ei_kind1 : (kind == 1) = true := by simp; omega
                by_cases z_seq : seq = 0
                ·have e_seq : (((seq : Nat) : Int) == 0) = true := by simp; omega
                 have d_seq : (((seq : Nat) : Int) != 0) = false := by simp; omega
                 by_cases hn0 : n = 0
                 ·have e_n : (((n : Nat) : Int) == 0) = true := by simp; omega
                  go_wp2_with fail
                  go_ret
                  exact ⟨ret_bool (decide_eq_true (by omega)), below_box _⟩
                 ·have e_n : (((n : Nat) : Int) == 0) = false := by simp; omega
                  go_wp2_with fail
                  go_ret
                  exact ⟨ret_bool (decide_eq_false (by omega)), below_box _⟩
                ·have e_seq : (((seq : Nat) : Int) == 0) = false := by simp; omega
                 have d_seq : (((seq : Nat) : Int) != 0) = true := by simp; omega
                 go_wp2_with fail
                 go_ret
                 exact ⟨ret_bool (decide_eq_false (by omega)), below_box _⟩
               ·have ei_kind1 : (kind == 1) = false := by simp; omega
                by_cases i_kind2 : kind = 2
                ·have ei_kind2 : (kind == 2) = true := by simp; omega
                 go_wp2_with fail
                 go_ret
                 exact ⟨ret_bool (decide_eq_false (by omega)), below_box _⟩
                ·have ei_kind2 : (kind == 2) = false := by simp; omega
                 go_wp2_with fail
                 go_ret
                 exact ⟨ret_bool (decide_eq_false (by omega)), below_box _⟩
              ·have e_ack : (((ack : Nat) : Int) == 0) = false := by simp; omega
               have d_ack : (((ack : Nat) : Int) != 0) = true := by simp; omega
               go_wp2_with fail
               go_ret
               exact ⟨ret_bool (decide_eq_false (by omega)), below_box _⟩
             ·have e_pconn : (((pconn : Nat) : Int) == 0) = false := by simp; omega
              have d_pconn : (((pconn : Nat) : Int) != 0) = true := by simp; omega
              go_wp2_with fail
              go_ret
              exact ⟨ret_bool (decide_eq_false (by omega)), below_box _⟩
            ·have e_pinc : (((pinc : Nat) : Int) == 0) = false := by simp; omega
             have d_pinc : (((pinc : Nat) : Int) != 0) = true := by simp; omega
             by_cases z_pconn : pconn = 0
             ·have e_pconn : (((pconn : Nat) : Int) == 0) = true := by simp; omega
              have d_pconn : (((pconn : Nat) : Int) != 0) = false := by simp; omega
              go_wp2_with fail
              go_ret
              exact ⟨ret_bool (decide_eq_false (by omega)), below_box _⟩
             ·have e_pconn : (((pconn : Nat) : Int) == 0) = false := by simp; omega
              have d_pconn : (((pconn : Nat) : Int) != 0) = true := by simp; omega
              by_cases i_kind1 : kind = 1
              ·have ei_kind1 : (kind == 1) = true := by simp; omega
               by_cases z_seq : seq = 0
               ·have e_seq : (((seq : Nat) : Int) == 0) = true := by simp; omega
                have d_seq : (((seq : Nat) : Int) != 0) = false := by simp; omega
                by_cases hn0 : n = 0
                ·have e_n : (((n : Nat) : Int) == 0) = true := by simp; omega
                 go_wp2_with fail
                 go_ret
                 exact ⟨ret_bool (decide_eq_true (by omega)), below_box _⟩
                ·have e_n : (((n : Nat) : Int) == 0) = false := by simp; omega
                 go_wp2_with fail
                 go_ret
                 exact ⟨ret_bool (decide_eq_false (by omega)), below_box _⟩
               ·have e_seq : (((seq : Nat) : Int) == 0) = false := by simp; omega
                have d_seq : (((seq : Nat) : Int) != 0) = true := by simp; omega
                go_wp2_with fail
                go_ret
                exact ⟨ret_bool (decide_eq_false (by omega)), below_box _⟩
              ·have ei_kind1 : (kind == 1) = false := by simp; omega
               by_cases i_kind2 : kind = 2
               ·have ei_kind2 : (kind == 2) = true := by simp; omega
                by_cases z_seq : seq = 0
                ·have e_seq : (((seq : Nat) : Int) == 0) = true := by simp; omega
                 have d_seq : (((seq : Nat) : Int) != 0) = false := by simp; omega
                 go_wp2_with fail
                 go_ret
                 exact ⟨ret_bool (decide_eq_false (by omega)), below_box _⟩
                ·have e_seq : (((seq : Nat) : Int) == 0) = false := by simp; omega
                 have d_seq : (((seq : Nat) : Int) != 0) = true := by simp; omega
                 by_cases hn1 : 1 ≤ n
                 ·go_wp2_with fail
                  go_ret
                  exact ⟨ret_bool (decide_eq_decide.2 (by omega)), below_box _⟩
                 ·go_wp2_with fail
                  go_ret
                  exact ⟨ret_bool (decide_eq_false (by omega)), below_box _⟩
               ·have ei_kind2 : (kind == 2) = false := by simp; omega
                go_wp2_with fail
                go_ret
                exact ⟨ret_bool (decide_eq_false (by omega)), below_box _⟩
         ·rw [countB_no c_seq]
          go_wp2_with fail
          go_ret
          exact ⟨ret_bool (decide_eq_false (by omega)), below_box _⟩
        ·rw [countB_no c_ack]
         go_wp2_with fail
         go_ret
         exact ⟨ret_bool (decide_eq_false (by omega)), below_box _⟩
       ·rw [countB_no c_pconn]
        go_wp2_with fail
        go_ret
        exact ⟨ret_bool (decide_eq_false (by omega)), below_box _⟩
      ·rw [countB_no c_pinc]
       go_wp2_with fail
       go_ret
       exact ⟨ret_bool (decide_eq_false (by omega)), below_box _⟩
     ·rw [countB_no c_conn]
      go_wp2_with fail
      go_ret
      exact ⟨ret_bool (decide_eq_false (by omega)), below_box _⟩
    ·rw [countB_no c_inc]
     go_wp2_with fail
     go_ret
     exact ⟨ret_bool (decide_eq_false (by omega)), below_box _⟩
  ·rw [nodeB_no h2]
   go_wp2_with fail
   go_ret
   exact ⟨ret_bool (decide_eq_false (by omega)), below_box _⟩
 ·rw [nodeB_no h1]
  go_wp2_with fail
  go_ret
  exact ⟨ret_bool (decide_eq_false (by omega)), below_box _⟩
end Go.Proofs.Ytngegjboenfmeaa
/- Few steps; the law LinkNobody. -/
namespace Go.Proofs.Ytngegjboenfmeaa
open Go Go.RowKit
set_option linter.unusedVariables false
set_option maxRecDepth 100000
set_option linter.unusedSimpArgs false

end Go.Proofs.Ytngegjboenfmeaa
/- Steps of layer 12, many of them. -/
namespace Go.Proofs.Ytngegjboenfmeaa
open Go Go.RowKit
set_option linter.unusedVariables false
set_option maxRecDepth 100000

/-- a step; its frame's body and its own by what they hold, and where they lie -/
structure Sp where
 dd : Int
 now : Nat
 ka : Int
 kb : Int
 kc : Int
 n1 : Nat
 n2 : Nat
 n3 : Nat
 n4 : Nat
 n5 : Nat
 n6 : Nat
 A : Option Addr
 c : Nat
 body : List UInt8
 A2 : Option Addr
 c2 : Nat
 snd : List UInt8
def Sp.cells (x : Sp) : List Value := [.int .i64 x.dd, .int .u64 (x.now : Int), .int .i64 x.ka, .int .i64 x.kb, .int .i64 x.kc, .int .u64 (x.n1 : Int), .int .u64 (x.n2 : Int), .int .u64 (x.n3 : Int), .int .u64 (x.n4 : Int), .int .u64 (x.n5 : Int), .int .u64 (x.n6 : Int), .slice x.A x.body.length x.c, .slice x.A2 x.snd.length x.c2]
/-- steps in a slice, and what they hold -/
def Steps (w : World) (B : Nat) (A : Option Addr) (L : List Sp) : Prop := Has w B A (L.flatMap Sp.cells) ∧ ∀ x ∈ L, Has w B x.A (us x.body) ∧ Has w B x.A2 (us x.snd) ∧ x.body.length ≤ 140737488355328 ∧ x.snd.length ≤ 140737488355328
theorem Steps.below {w w' : World} {B : Nat} {A : Option Addr} {L : List Sp} (h : Steps w B A L) (hb : Below B w w') : Steps w' B A L :=
 ⟨h.1.below hb, fun x hx => by obtain ⟨h1, h2, h3, h4⟩ := h.2 x hx; exact ⟨h1.below hb, h2.below hb, h3, h4⟩⟩
theorem flat_cells : ∀ (L : List Sp) (k j : Nat) (x : Sp) (v : Value), L[k]? = some x → x.cells[j]? = some v → (L.flatMap Sp.cells)[k * 13 + j]? = some v
 | [], k, j, x, v, h, _ => by simp at h
 | y :: L, 0, j, x, v, h, hv => by
  simp only [List.getElem?_cons_zero, Option.some.injEq] at h; subst h; obtain ⟨hj, _⟩ := List.getElem?_eq_some_iff.1 hv; rw [List.flatMap_cons, Nat.zero_mul, Nat.zero_add, List.getElem?_append_left hj]; exact hv
 | y :: L, k + 1, j, x, v, h, hv => by
  simp only [List.getElem?_cons_succ] at h; have hl : y.cells.length = 13 := rfl; rw [List.flatMap_cons, List.getElem?_append_right (by rw [hl]; omega), hl, show (k + 1) * 13 + j - 13 = k * 13 + j by omega]; exact flat_cells L k j x v h hv
theorem Steps.cell {w : World} {B b o : Nat} {L : List Sp} (h : Steps w B (some ⟨b, o, none⟩) L) {k j : Nat} {x : Sp} {v : Value} (hx : L[k]? = some x) (hv : x.cells[j]? = some v) : w.cell? ⟨b, o + (k * 13 + j), none⟩ = some v := by
 obtain ⟨b', o', e, _, hc⟩ := h.1 _ v (flat_cells L k j x v hx hv); injection e with e; injection e with e1 e2; rw [e1, e2]; exact hc
/-- few enough? -/
def fewN : Nat → List Sp → Bool
 | _, [] => true
 | n, x :: L => if 400 < n + (1 + (x.snd.length + x.body.length) / 512) then false else fewN (n + (1 + (x.snd.length + x.body.length) / 512)) L
end Go.Proofs.Ytngegjboenfmeaa
/- Things in memory, picked by their places. No program in sight. -/
namespace Go.Proofs.Ytngegjboenfmeaa
open Go Go.RowKit
set_option linter.unusedVariables false

theorem sep_sel {Ps : List SP} {Fs : List (Nat → Prop)} (hl : Fs.length = Ps.length) : ∀ ks : List Nat, ks.Nodup → ∃ Gs : List (Nat → Prop), Gs.length = (ks.filterMap fun j => Ps[j]?).length ∧
  (∀ (i : Nat) (P : SP) (F : Nat → Prop), (ks.filterMap fun j => Ps[j]?)[i]? = some P → Gs[i]? = some F → ∃ j : Nat, j ∈ ks ∧ Ps[j]? = some P ∧ Fs[j]? = some F) ∧
  ∀ (i i' : Nat) (F G : Nat → Prop), i ≠ i' → Gs[i]? = some F → Gs[i']? = some G → ∃ j j' : Nat, j ∈ ks ∧ j' ∈ ks ∧ j ≠ j' ∧ Fs[j]? = some F ∧ Fs[j']? = some G
 | [], _ => ⟨[], rfl, fun i P F h => by simp at h, fun i i' F G _ h => by simp at h⟩
 | k :: ks, hn => by
  have hn' := List.nodup_cons.1 hn; obtain ⟨Gs, h1, h2, h3⟩ := sep_sel hl ks hn'.2; cases hk : Ps[k]? with
  | none =>
   refine ⟨Gs, by rw [List.filterMap_cons_none hk]; exact h1, fun i P F hP hF => ?_, fun i i' F G hne hF hG => ?_⟩
   ·rw [List.filterMap_cons_none hk] at hP; obtain ⟨j, a, b, c⟩ := h2 i P F hP hF; exact ⟨j, List.mem_cons_of_mem _ a, b, c⟩
   ·obtain ⟨j, j', a, b, c⟩ := h3 i i' F G hne hF hG; exact ⟨j, j', List.mem_cons_of_mem _ a, List.mem_cons_of_mem _ b, c⟩
  | some P0 =>
   have hlt := (List.getElem?_eq_some_iff.1 hk).1; have hF0 : Fs[k]? = some (Fs[k]'(by omega)) := List.getElem?_eq_getElem (by omega); generalize Fs[k]'(by omega) = F0 at hF0; have hmem : ∀ (m : Nat) (G : Nat → Prop), Gs[m]? = some G → ∃ j, j ∈ ks ∧ Fs[j]? = some G := fun m G hG => by
    have hm := (List.getElem?_eq_some_iff.1 hG).1; obtain ⟨j, a, _, c⟩ := h2 m _ G (List.getElem?_eq_getElem (by omega)) hG; exact ⟨j, a, c⟩
   refine ⟨F0 :: Gs, by rw [List.filterMap_cons_some hk]; simp [h1], fun i P F hP hF => ?_, fun i i' F G hne hF hG => ?_⟩
   ·rw [List.filterMap_cons_some hk] at hP; cases i with
    | zero =>
     simp only [List.getElem?_cons_zero, Option.some.injEq] at hP hF; subst hP; subst hF; exact ⟨k, List.mem_cons_self, hk, hF0⟩
    | succ i =>
     rw [List.getElem?_cons_succ] at hP hF; obtain ⟨j, a, b, c⟩ := h2 i P F hP hF; exact ⟨j, List.mem_cons_of_mem _ a, b, c⟩
   ·cases i with
    | zero =>
     cases i' with
     | zero => exact absurd rfl hne
     | succ i' =>
      simp only [List.getElem?_cons_zero, Option.some.injEq, List.getElem?_cons_succ] at hF hG; subst hF; obtain ⟨j, a, c⟩ := hmem i' G hG; exact ⟨k, j, List.mem_cons_self, List.mem_cons_of_mem _ a, fun e => hn'.1 (e ▸ a), hF0, c⟩
    | succ i =>
     cases i' with
     | zero =>
      simp only [List.getElem?_cons_zero, Option.some.injEq, List.getElem?_cons_succ] at hF hG; subst hG; obtain ⟨j, a, c⟩ := hmem i F hF; exact ⟨j, k, List.mem_cons_of_mem _ a, List.mem_cons_self, fun e => hn'.1 (e ▸ a), c, hF0⟩
     | succ i' =>
      rw [List.getElem?_cons_succ] at hF hG; obtain ⟨j, j', a, b, c⟩ := h3 i i' F G (fun e => hne (by rw [e])) hF hG; exact ⟨j, j', List.mem_cons_of_mem _ a, List.mem_cons_of_mem _ b, c⟩
theorem drop_sel (Ps : List SP) : ∀ (m n : Nat), Ps.length - n = m → (List.range' n m).filterMap (fun j => Ps[j]?) = Ps.drop n
 | 0, n, h => by rw [List.drop_eq_nil_of_le (by omega)]; rfl
 | m + 1, n, h => by
  have hlt : n < Ps.length := by omega
  rw [List.range'_succ, List.filterMap_cons_some (List.getElem?_eq_getElem hlt), List.drop_eq_getElem_cons hlt, drop_sel Ps m (n + 1) (by omega)]
/-- some of the first n things, in any order; what is behind stays -/
theorem Sep.pickN {w0 w : World} {Ps : List SP} (h : Sep w0 w Ps) (n : Nat) (js : List Nat) (hn : js.Nodup) (hlt : ∀ j ∈ js, j < n) : Sep w0 w ((js.filterMap fun j => Ps[j]?) ++ Ps.drop n) := by
 obtain ⟨hb, Fs, hl, h1, h2⟩ := h; have hks : (js ++ List.range' n (Ps.length - n)).Nodup := List.nodup_append.2 ⟨hn, List.nodup_range', fun a ha b hb e => by
  have h3 := hlt a ha; have h4 := (List.mem_range'_1.1 hb).1; omega⟩
 obtain ⟨Gs, g1, g2, g3⟩ := sep_sel hl _ hks; rw [List.filterMap_append, drop_sel Ps _ n rfl] at g1 g2; refine ⟨hb, Gs, g1, fun i P F hP hF => ?_, fun i j F G hij hF hG => ?_⟩
 ·obtain ⟨k, _, a, b⟩ := g2 i P F hP hF; exact h1 k P F a b
 ·obtain ⟨k, k', _, _, hne, a, b⟩ := g3 i j F G hij hF hG; exact h2 k k' F G hne a b
end Go.Proofs.Ytngegjboenfmeaa
/- The walk of few, of any steps. -/
namespace Go.Proofs.Ytngegjboenfmeaa
open Go Go.RowKit
set_option linter.unusedVariables false
set_option maxRecDepth 100000
set_option linter.unusedSimpArgs false

set_option maxHeartbeats 1600000 in
theorem few_any (w : World) (A0 : Option Addr) (cc : Nat) (L : List Sp) (h : Steps w w.heap.size A0 L) (hm : L.length ≤ maxLen) :
  Calls Try.prog 16 #[.slice A0 L.length cc] w fun e w' => e = .returned (.bool (fewN 0 L)) ∧ Below w.heap.size w w' := by
 unfold maxLen at hm; have HST := Lib.hid h; clear h; go_enter Try.func16, Try.ntmps16
 go_wp2_with fail
 go_loopw [3, 4] (fun nv iv wr => ∃ k n : Nat, k ≤ L.length ∧ n ≤ 400 ∧ iv = .int .i64 (k : Int) ∧ nv = .int .i64 (n : Int) ∧ Hid (Sep w wr []) ∧ Hid (fewN 0 L = fewN n (L.drop k))) (fun _ iv _ => L.length - (intOf iv).toNat)
 case atStart => exact ⟨0, 0, Nat.zero_le _, by omega, rfl, rfl, Lib.hid (Sep.nil w), Lib.hid (by simp)⟩
 case round =>
  obtain ⟨k, n, hk, hn, rfl, rfl, HB, HF⟩ := hrel
  by_cases hkt : k < L.length
  ·have HX := Lib.hid (List.getElem?_eq_getElem hkt); have HD := Lib.hid (List.drop_eq_getElem_cons hkt); obtain ⟨x, Hx⟩ : ∃ x, Hid (L[k] = x) := ⟨_, Lib.hid rfl⟩; rw [Hx.out] at HX HD; obtain ⟨b, o, rfl, hlt, _⟩ := HST.out.1 _ _ (flat_cells L k 0 x _ HX.out rfl); have HLT := Lib.hid hlt; have HC12 : Hid (w.cell? ⟨b, o + (k * 13 + 12), none⟩ = some (.slice x.A2 x.snd.length x.c2)) := Lib.hid (HST.out.cell HX.out rfl); have HC11 : Hid (w.cell? ⟨b, o + (k * 13 + 11), none⟩ = some (.slice x.A x.body.length x.c)) := Lib.hid (HST.out.cell HX.out rfl); obtain ⟨_, _, hb1, hb2⟩ := HST.out.2 x (List.mem_of_getElem? HX.out); have hfew : fewN n (L.drop k) = if 400 < n + (1 + (x.snd.length + x.body.length) / 512) then false else fewN (n + (1 + (x.snd.length + x.body.length) / 512)) (L.drop (k + 1)) := by rw [HD.out]; rfl
   obtain ⟨nb, Hnb⟩ : ∃ y, Hid (x.snd.length = y) := ⟨_, Lib.hid rfl⟩; obtain ⟨nf, Hnf⟩ : ∃ y, Hid (x.body.length = y) := ⟨_, Lib.hid rfl⟩; rw [Hnb.out] at HC12 hb2 hfew; rw [Hnf.out] at HC11 hb1 hfew; generalize x.A2 = A2 at *; generalize x.A = A at *; generalize x.c2 = c2 at *; generalize x.c = c at *; obtain ⟨s, hs⟩ : ∃ s, nb + nf = s := ⟨_, rfl⟩; obtain ⟨q, hq⟩ : ∃ q, s / 512 = q := ⟨_, rfl⟩; obtain ⟨q1, hq1⟩ : ∃ x, 1 + q = x := ⟨_, rfl⟩; obtain ⟨m, hm1⟩ : ∃ x, n + q1 = x := ⟨_, rfl⟩; rw [hs, hq, hq1, hm1] at hfew; have HQ : Hid (nb + nf = s ∧ s / 512 = q ∧ 1 + q = q1 ∧ n + q1 = m) := Lib.hid ⟨hs, hq, hq1, hm1⟩; have HFE := Lib.hid hfew; clear hs hq hq1 hm1 hfew hlt
   go_wp2_with fail
   refine wRG (fun dn xv W => Sep w W []) (fun _ _ => True) [xV_ (.int .i64 (n : Int)), xV_ (.slice (some ⟨b, o, none⟩) L.length cc), xV_ (.int .i64 (k : Int)), xP_ b (o + k * 13), xP_ b (o + k * 13 + 12), xV_ (.slice A2 nb c2), xV_ (.int .i64 (nb : Int)), xV_ (.slice (some ⟨b, o, none⟩) L.length cc), xV_ (.int .i64 (k : Int)), xP_ b (o + k * 13), xP_ b (o + k * 13 + 2), xP_ b (o + k * 13 + 2 + 9), xV_ (.slice A nf c), xV_ (.int .i64 (nf : Int)), xV_ (.int .i64 (s : Int)), xV_ (.int .i64 (q : Int)), xV_ (.int .i64 (q1 : Int)), xV_ (.int .i64 (m : Int)), xV_ (.int .i64 (m : Int))] (fun xv => by simpa using HB.out.drew) ?_ ?_
   ·refine EC 1 rfl (fun g h W F a b c d e H K f => ?_) ?_
    ·have h18 : h 18 = .int .i64 (n : Int) := d 18 (c 18 (uM 17 uE)); have f3 : F.tmps.getD 3 undef = .int .i64 (n : Int) := (a 3).trans (Eq.trans (by kernel_rfl) h18); clear H c b d a; refine oP rfl ?_; go_simp; exact f.out _ _ rfl trivial e
    refine Ei 2 0 (.slice (some ⟨b, o, none⟩) L.length cc) ?_
    refine Ei 3 4 (.int .i64 (k : Int)) ?_
    refine Eee 4 12 1 13 2 ?_
    refine Ee 5 14 3 ?_
    refine EC 6 rfl (fun h i W F a c d e f H K g => ?_) ?_
    ·have f15 := gE (a 15) (by kernel_rfl) (H 4) (by kernel_rfl); have kx := (f.bel.cell (p := ⟨b, o + (k * 13 + 12), none⟩) HLT.out).trans HC12.out; rw [show o + (k * 13 + 12) = o + k * 13 + 12 by omega] at kx; clear H d c e a; refine oP rfl ?_; go_simp; exact g.out _ _ rfl trivial f
    refine Ee 7 16 5 ?_
    refine Ei 8 0 (.slice (some ⟨b, o, none⟩) L.length cc) ?_
    refine Ei 9 4 (.int .i64 (k : Int)) ?_
    refine Eee 10 18 7 19 8 ?_
    refine Ee 11 20 9 ?_
    refine Ee 12 21 10 ?_
    refine EC 13 rfl (fun h i W F a c d e f H K g => ?_) ?_
    ·have f22 := gE (a 22) (by kernel_rfl) (H 11) (by kernel_rfl); have kx := (f.bel.cell (p := ⟨b, o + (k * 13 + 11), none⟩) HLT.out).trans HC11.out; rw [show o + (k * 13 + 11) = o + k * 13 + 2 + 9 by omega] at kx; clear H d c e a; refine oP rfl ?_; go_simp; exact g.out _ _ rfl trivial f
    refine Ee 14 23 12 ?_
    refine EC 15 rfl (fun g h W F a b c d e H K f => ?_) ?_
    ·have f17 := gE (a 17) (by kernel_rfl) (H 6) (by kernel_rfl); have f24 := gE (a 24) (by kernel_rfl) (H 13) (by kernel_rfl); clear H c b d a; refine oP rfl ?_; go_simp; rw [show IntKind.i64.wrap ((nb : Int) + (nf : Int)) = (s : Int) by rw [IntKind.wrap_i64]; have := HQ.out; omega]; exact f.out _ _ rfl trivial e
    refine EC 16 rfl (fun g h W F a b c d e H K f => ?_) ?_
    ·have f25 := gE (a 25) (by kernel_rfl) (H 14) (by kernel_rfl); clear H c b d a; refine oP rfl ?_; go_simp; rw [show IntKind.i64.wrap ((s : Int) / 512) = (q : Int) by rw [IntKind.wrap_i64]; have := HQ.out; omega]; exact f.out _ _ rfl trivial e
    refine EC 17 rfl (fun g h W F a b c d e H K f => ?_) ?_
    ·have f26 := gE (a 26) (by kernel_rfl) (H 15) (by kernel_rfl); clear H c b d a; refine oP rfl ?_; go_simp; rw [show IntKind.i64.wrap (1 + (q : Int)) = (q1 : Int) by rw [IntKind.wrap_i64]; have := HQ.out; omega]; exact f.out _ _ rfl trivial e
    refine EC 18 rfl (fun g h W F a b c d e H K f => ?_) ?_
    ·have f11 := gE (a 11) (by kernel_rfl) (H 0) (by kernel_rfl); have f27 := gE (a 27) (by kernel_rfl) (H 16) (by kernel_rfl); clear H c b d a; refine oP rfl ?_; go_simp; rw [show IntKind.i64.wrap ((n : Int) + (q1 : Int)) = (m : Int) by rw [IntKind.wrap_i64]; have := HQ.out; omega]; exact f.out _ _ rfl trivial e
    refine Ee 19 28 17 ?_
    exact EN
   ·intro dn xv W hI H; have q18 : xv 18 = .int .i64 (m : Int) := (H 18 (of_decide_eq_true (by kernel_rfl))).2; have hS : Sep w W [] := hI; clear H hI; simp only [putAll, Act.put, List.setIfInBounds_toArray, List.set_cons_zero, List.set_cons_succ, Nat.reduceAdd, q18]; clear q18; have HS := Lib.hid hS; clear hS
    by_cases hq4 : 400 < m
    ·have HR : Hid (fewN 0 L = false) := Lib.hid (by rw [HF.out, HFE.out, if_pos hq4])
     go_wp2_with fail
     go_ret
     exact ⟨by rw [HR.out]; rfl, HS.out.bel⟩
    ·have HR : Hid (fewN 0 L = fewN m (L.drop (k + 1))) := Lib.hid (by rw [HF.out, HFE.out, if_neg hq4])
     go_wp2_with fail
     go_roundw
     case rel => exact ⟨k + 1, m, by omega, by omega, by go_num, rfl, HS, HR⟩
     case measure => simp [intOf]; omega
  ·have HR : Hid (fewN 0 L = true) := Lib.hid (by rw [HF.out, List.drop_of_length_le (by omega)]; rfl)
   go_wp2_with fail
   go_ret
   exact ⟨by rw [HR.out]; rfl, HB.out.bel⟩
end Go.Proofs.Ytngegjboenfmeaa
/- A step of layer 12 as an argument, opened. -/
namespace Go.Proofs.Ytngegjboenfmeaa
open Go Go.RowKit Go.ChangeShapes Go.WideShapes Go.ChangeAt Go.Deep Go.Joins
set_option linter.unusedVariables false
set_option maxRecDepth 100000
section
variable {H : Type} {enc : TypeId × Value → H} {P : Program} {w : World}
theorem u64_natK {z : Int} (h : (Lit.int .u64 z).wf = true) : ∃ y : Nat, z = (y : Int) ∧ y < 18446744073709551616 := by
 have := bounds_u64 h
 exact ⟨z.toNat, by omega, by omega⟩
/-- a frame as ten cells, opened -/
theorem open_frameK {t i u s e : TypeId} {f0 f1 f2 f3 f4 f5 f6 f7 f8 f9 : Field} {v0 v1 v2 v3 v4 v5 v6 v7 v8 v9 : Value} {d : DataW H} {p : List MemPlace} {fuel : Nat} (hst : P.underlying t = some (.struct #[f0, f1, f2, f3, f4, f5, f6, f7, f8, f9]))
  (hof : ([f0, f1, f2, f3, f4, f5, f6, f7, f8, f9].map fun f => (f.offset, f.type, P.cellsOf f.type)) = [(0, i, 1), (1, i, 1), (2, i, 1), (3, u, 1), (4, u, 1), (5, u, 1), (6, u, 1), (7, u, 1), (8, u, 1), (9, s, 1)])
  (hi : P.underlying i = some (.int .i64)) (hu : P.underlying u = some (.int .u64)) (hs : P.underlying s = some (.slice e)) (he : P.underlying e = some (.int .u8)) (hc : P.cellsOf e = 1) (hby : P.bytesOf e = 1)
  (h : DataW.trod enc P w 0 (fun _ => true) true fuel t [v0, v1, v2, v3, v4, v5, v6, v7, v8, v9] = some (d, p)) (hw : ∀ n ∈ d.weights P t, n ≤ reachBytes) :
  ∃ (ka kb kc : Int) (n1 n2 n3 n4 n5 n6 : Nat) (A : Option Addr) (c : Nat) (l : List UInt8), [v0, v1, v2, v3, v4, v5, v6, v7, v8, v9] = [.int .i64 ka, .int .i64 kb, .int .i64 kc, .int .u64 (n1 : Int), .int .u64 (n2 : Int), .int .u64 (n3 : Int), .int .u64 (n4 : Int), .int .u64 (n5 : Int), .int .u64 (n6 : Int), .slice A l.length c] ∧ l.length ≤ 140737488355328 ∧ Has w w.heap.size A (us l) ∧ n5 < 18446744073709551616 ∧ n6 < 18446744073709551616 := by
 obtain ⟨xs, n, _, hxx, _, hxl, hx⟩ := DataW.trod_struct hst h; injection hxx with hd hp; subst hd; simp only [List.map_cons, List.map_nil, List.cons.injEq, and_true, Prod.mk.injEq] at hof; obtain ⟨⟨o0, t0, c0⟩, ⟨o1, t1, c1⟩, ⟨o2, t2, c2⟩, ⟨o3, t3, c3⟩, ⟨o4, t4, c4⟩, ⟨o5, t5, c5⟩, ⟨o6, t6, c6⟩, ⟨o7, t7, c7⟩, ⟨o8, t8, c8⟩, ⟨o9, t9, c9⟩⟩ := hof; simp only [List.size_toArray, List.length_cons, List.length_nil, Nat.reduceAdd] at hxl
 match xs, hxl with
 | [x0, x1, x2, x3, x4, x5, x6, x7, x8, x9], _ =>
  have g0 := hx 0 f0 rfl; rw [o0, c0, t0] at g0; have g1 := hx 1 f1 rfl; rw [o1, c1, t1] at g1; have g2 := hx 2 f2 rfl; rw [o2, c2, t2] at g2; have g3 := hx 3 f3 rfl; rw [o3, c3, t3] at g3; have g4 := hx 4 f4 rfl; rw [o4, c4, t4] at g4; have g5 := hx 5 f5 rfl; rw [o5, c5, t5] at g5; have g6 := hx 6 f6 rfl; rw [o6, c6, t6] at g6; have g7 := hx 7 f7 rfl; rw [o7, c7, t7] at g7; have g8 := hx 8 f8 rfl; rw [o8, c8, t8] at g8; have g9 := hx 9 f9 rfl; rw [o9, c9, t9] at g9; obtain ⟨z0, ez0, _, wz0⟩ := DataW.trod_int hi (show DataW.trod enc P w 0 (fun _ => true) true n i [v0] = some x0 from g0); obtain rfl : v0 = .int .i64 z0 := by simpa using ez0
  obtain ⟨z1, ez1, _, wz1⟩ := DataW.trod_int hi (show DataW.trod enc P w 0 (fun _ => true) true n i [v1] = some x1 from g1); obtain rfl : v1 = .int .i64 z1 := by simpa using ez1
  obtain ⟨z2, ez2, _, wz2⟩ := DataW.trod_int hi (show DataW.trod enc P w 0 (fun _ => true) true n i [v2] = some x2 from g2); obtain rfl : v2 = .int .i64 z2 := by simpa using ez2
  obtain ⟨z3, ez3, _, wz3⟩ := DataW.trod_int hu (show DataW.trod enc P w 0 (fun _ => true) true n u [v3] = some x3 from g3); obtain ⟨y3, rfl, _⟩ := u64_natK wz3; obtain rfl : v3 = .int .u64 (y3 : Int) := by simpa using ez3
  obtain ⟨z4, ez4, _, wz4⟩ := DataW.trod_int hu (show DataW.trod enc P w 0 (fun _ => true) true n u [v4] = some x4 from g4); obtain ⟨y4, rfl, _⟩ := u64_natK wz4; obtain rfl : v4 = .int .u64 (y4 : Int) := by simpa using ez4
  obtain ⟨z5, ez5, _, wz5⟩ := DataW.trod_int hu (show DataW.trod enc P w 0 (fun _ => true) true n u [v5] = some x5 from g5); obtain ⟨y5, rfl, _⟩ := u64_natK wz5; obtain rfl : v5 = .int .u64 (y5 : Int) := by simpa using ez5
  obtain ⟨z6, ez6, _, wz6⟩ := DataW.trod_int hu (show DataW.trod enc P w 0 (fun _ => true) true n u [v6] = some x6 from g6); obtain ⟨y6, rfl, _⟩ := u64_natK wz6; obtain rfl : v6 = .int .u64 (y6 : Int) := by simpa using ez6
  obtain ⟨z7, ez7, _, wz7⟩ := DataW.trod_int hu (show DataW.trod enc P w 0 (fun _ => true) true n u [v7] = some x7 from g7); obtain ⟨y7, rfl, hy7⟩ := u64_natK wz7; obtain rfl : v7 = .int .u64 (y7 : Int) := by simpa using ez7
  obtain ⟨z8, ez8, _, wz8⟩ := DataW.trod_int hu (show DataW.trod enc P w 0 (fun _ => true) true n u [v8] = some x8 from g8); obtain ⟨y8, rfl, hy8⟩ := u64_natK wz8; obtain rfl : v8 = .int .u64 (y8 : Int) := by simpa using ez8
  obtain ⟨A, c, l, rfl, q1, q2, q3, q4⟩ := open_bytes hs he hc hby (show DataW.trod enc P w 0 (fun _ => true) true n s [v9] = some (x9.1, x9.2) from g9) (fun k hk => hw k (by
   simp only [DataW.weights, hst, List.map_cons, List.map_nil, DataW.weightsEach, List.mem_append, t9]; exact .inr (.inr (.inr (.inr (.inr (.inr (.inr (.inr (.inr (.inl hk)))))))))))
  exact ⟨z0, z1, z2, y3, y4, y5, y6, y7, y8, A, c, l, rfl, q3, q4, hy7, hy8⟩
end
end Go.Proofs.Ytngegjboenfmeaa
/- Many steps of layer 12 as an argument, opened. -/
namespace Go.Proofs.Ytngegjboenfmeaa
open Go Go.RowKit Go.ChangeShapes Go.WideShapes Go.ChangeAt Go.Deep Go.Joins
set_option linter.unusedVariables false
set_option maxRecDepth 100000
section
variable {H : Type} {enc : TypeId × Value → H} {P : Program} {w : World}
theorem open_stepK {t fr i u s e : TypeId} {f0 f1 f2 f3 f4 f5 f6 f7 f8 f9 d0 d1 d2 d3 : Field} {a0 a1 b0 b1 b2 b3 b4 b5 b6 b7 b8 b9 a3 : Value} {d : DataW H} {p : List MemPlace} {fuel : Nat} (hst : P.underlying t = some (.struct #[d0, d1, d2, d3])) (hfr : P.underlying fr = some (.struct #[f0, f1, f2, f3, f4, f5, f6, f7, f8, f9]))
  (hod : ([d0, d1, d2, d3].map fun f => (f.offset, f.type, P.cellsOf f.type)) = [(0, i, 1), (1, u, 1), (2, fr, 10), (12, s, 1)])
  (hof : ([f0, f1, f2, f3, f4, f5, f6, f7, f8, f9].map fun f => (f.offset, f.type, P.cellsOf f.type)) = [(0, i, 1), (1, i, 1), (2, i, 1), (3, u, 1), (4, u, 1), (5, u, 1), (6, u, 1), (7, u, 1), (8, u, 1), (9, s, 1)])
  (hi : P.underlying i = some (.int .i64)) (hu : P.underlying u = some (.int .u64)) (hs : P.underlying s = some (.slice e)) (he : P.underlying e = some (.int .u8)) (hc : P.cellsOf e = 1) (hby : P.bytesOf e = 1)
  (h : DataW.trod enc P w 0 (fun _ => true) true fuel t [a0, a1, b0, b1, b2, b3, b4, b5, b6, b7, b8, b9, a3] = some (d, p)) (hw : ∀ n ∈ d.weights P t, n ≤ reachBytes) :
  ∃ x : Sp, [a0, a1, b0, b1, b2, b3, b4, b5, b6, b7, b8, b9, a3] = x.cells ∧ Has w w.heap.size x.A (us x.body) ∧ Has w w.heap.size x.A2 (us x.snd) ∧ x.body.length ≤ 140737488355328 ∧ x.snd.length ≤ 140737488355328 ∧ x.now < 18446744073709551616 ∧ x.n5 < 18446744073709551616 ∧ x.n6 < 18446744073709551616 := by
 simp only [List.map_cons, List.map_nil, List.cons.injEq, and_true, Prod.mk.injEq] at hod; obtain ⟨⟨o0, t0, c0⟩, ⟨o1, t1, c1⟩, ⟨o2, t2, c2⟩, ⟨o3, t3, c3⟩⟩ := hod; obtain ⟨xs, n, _, hxx, _, hxl, hx⟩ := DataW.trod_struct hst h; injection hxx with hd hp; subst hd; simp only [List.size_toArray, List.length_cons, List.length_nil, Nat.reduceAdd] at hxl
 match xs, hxl with
 | [x0, x1, x2, x3], _ =>
  have g0 := hx 0 d0 rfl; rw [o0, c0, t0] at g0; have g1 := hx 1 d1 rfl; rw [o1, c1, t1] at g1; have g2 := hx 2 d2 rfl; rw [o2, c2, t2] at g2; have g3 := hx 3 d3 rfl; rw [o3, c3, t3] at g3; obtain ⟨dd, ed, _, _⟩ := DataW.trod_int hi (show DataW.trod enc P w 0 (fun _ => true) true n i [a0] = some x0 from g0); obtain rfl : a0 = .int .i64 dd := by simpa using ed
  obtain ⟨zn, en, _, wn⟩ := DataW.trod_int hu (show DataW.trod enc P w 0 (fun _ => true) true n u [a1] = some x1 from g1); obtain ⟨now, rfl, hnw⟩ := u64_natK wn; obtain rfl : a1 = .int .u64 (now : Int) := by simpa using en
  obtain ⟨ka, kb, kc, n1, n2, n3, n4, n5, n6, A, c, l, eb, hl1, hh1, hb5, hb6⟩ := open_frameK hfr hof hi hu hs he hc hby (show DataW.trod enc P w 0 (fun _ => true) true n fr [b0, b1, b2, b3, b4, b5, b6, b7, b8, b9] = some (x2.1, x2.2) from g2) (fun k hk => hw k (by
   simp only [DataW.weights, hst, List.map_cons, List.map_nil, DataW.weightsEach, List.mem_append, t2]; exact .inr (.inr (.inl hk))))
  simp only [List.cons.injEq, and_true] at eb; obtain ⟨rfl, rfl, rfl, rfl, rfl, rfl, rfl, rfl, rfl, rfl⟩ := eb; obtain ⟨A2, c2', l2, rfl, q1, q2, q3, q4⟩ := open_bytes hs he hc hby (show DataW.trod enc P w 0 (fun _ => true) true n s [a3] = some (x3.1, x3.2) from g3) (fun k hk => hw k (by
   simp only [DataW.weights, hst, List.map_cons, List.map_nil, DataW.weightsEach, List.mem_append, t3]; exact .inr (.inr (.inr (.inl hk)))))
  exact ⟨⟨dd, now, ka, kb, kc, n1, n2, n3, n4, n5, n6, A, c, l, A2, c2', l2⟩, rfl, hh1, q4, hl1, q3, hnw, hb5, hb6⟩
theorem arg_steps {r : Reach} {b0 : Nat} {tt t fr i u s e : TypeId} {f0 f1 f2 f3 f4 f5 f6 f7 f8 f9 d0 d1 d2 d3 : Field} {v : Value} {d : DataW H} {p : List MemPlace} (htt : P.underlying tt = some (.slice t)) (hct : P.cellsOf t = 13) (hbt : P.bytesOf t = 136) (hst : P.underlying t = some (.struct #[d0, d1, d2, d3])) (hfr : P.underlying fr = some (.struct #[f0, f1, f2, f3, f4, f5, f6, f7, f8, f9]))
  (hod : ([d0, d1, d2, d3].map fun f => (f.offset, f.type, P.cellsOf f.type)) = [(0, i, 1), (1, u, 1), (2, fr, 10), (12, s, 1)])
  (hof : ([f0, f1, f2, f3, f4, f5, f6, f7, f8, f9].map fun f => (f.offset, f.type, P.cellsOf f.type)) = [(0, i, 1), (1, i, 1), (2, i, 1), (3, u, 1), (4, u, 1), (5, u, 1), (6, u, 1), (7, u, 1), (8, u, 1), (9, s, 1)])
  (hi : P.underlying i = some (.int .i64)) (hu : P.underlying u = some (.int .u64)) (hs : P.underlying s = some (.slice e)) (he : P.underlying e = some (.int .u8)) (hc : P.cellsOf e = 1) (hby : P.bytesOf e = 1)
  (hv : Value.okWide P w r b0 tt v) (h : DataW.Trod enc P w 0 (fun _ => true) true tt v d p) (hw : ∀ n ∈ d.weights P tt, n ≤ reachBytes) :
  ∃ (A : Option Addr) (c : Nat) (L : List Sp), v = .slice A L.length c ∧ L.length ≤ c ∧ c ≤ maxLen ∧ L.length ≤ 140737488355328 ∧ Steps w w.heap.size A L ∧ ∀ x ∈ L, x.now < 18446744073709551616 ∧ x.n5 < 18446744073709551616 ∧ x.n6 < 18446744073709551616 := by
 obtain ⟨a0, n0, c0, rfl⟩ := okWide_slice htt hv; obtain ⟨fuel, hf⟩ := h; have hf' : DataW.trod enc P w 0 (fun _ => true) true fuel tt [.slice a0 n0 c0] = some (d, p) := by simpa [Value.cells] using hf
 rcases open_slice htt hf' with ⟨hcs, _⟩ | ⟨a, len, cap, m, n, D, Pl, hcs, _, hl, hm, hmm, hx, hel⟩
 ·exact ⟨none, 0, [], by simpa using hcs, by simp, by unfold maxLen; omega, by simp, ⟨Has.nil, fun x hx => by simp at hx⟩, fun x hx => by simp at hx⟩
 ·simp only [if_true] at hmm; simp only [Prod.mk.injEq] at hx; obtain ⟨hx, _⟩ := hx; subst hmm; obtain ⟨ls, hls, hp⟩ := choose_list len (fun k (x : Sp) => (∀ j u, x.cells[j]? = some u → w.cell? (a.add (k * 13 + j)) = some u) ∧ Has w w.heap.size x.A (us x.body) ∧ Has w w.heap.size x.A2 (us x.snd) ∧ x.body.length ≤ 140737488355328 ∧ x.snd.length ≤ 140737488355328 ∧ x.now < 18446744073709551616 ∧ x.n5 < 18446744073709551616 ∧ x.n6 < 18446744073709551616) (fun k hk => by
   obtain ⟨cs', hc1, ht1⟩ := hel k (by omega); obtain ⟨_, hlen, hcell⟩ := World.cells?_some hc1; rw [hct] at hlen hcell hc1
   match cs', hlen with
   | [a0, a1, b0, b1, b2, b3, b4, b5, b6, b7, b8, b9, a3], _ =>
    obtain ⟨x, ex, h1, h2, h3, h4⟩ := open_stepK hst hfr hod hof hi hu hs he hc hby ht1 (fun q hq => hw q (by
     rw [hx]; simp only [DataW.weights, htt, List.mem_cons, List.mem_append]; exact Or.inr (Or.inl (weightsAll_mem (List.mem_map.2 ⟨k, by simpa using hk, rfl⟩) hq))))
    refine ⟨x, fun j u hu => ?_, h1, h2, h3, h4⟩; have hj : j < 13 := by
     have := (List.getElem?_eq_some_iff.1 hu).1
     rwa [show x.cells.length = 13 from rfl] at this
    have cj := hcell j (by omega); rw [add_add] at cj; rw [cj]; rw [← hu, ← ex])
  refine ⟨some a, m, ls, by rw [hls]; simpa using hcs, by omega, hm, ?_, ⟨?_, fun x hxm => ?_⟩, fun x hxm => ?_⟩
  ·rw [hx] at hw; have := hw ((len + (m - len)) * 136) (by simp [DataW.weights, htt, hbt]); unfold reachBytes at this; omega
  ·refine has_of_cells fun j u hu => ?_
   have hfl : ∀ (L : List Sp), (L.flatMap Sp.cells).length = L.length * 13 := by
    intro L
    induction L with
    | nil => rfl
    | cons y L ih => rw [List.flatMap_cons, List.length_append, ih, show y.cells.length = 13 from rfl, List.length_cons]; omega
   have hj : j < ls.length * 13 := by
    rcases Nat.lt_or_ge j (ls.length * 13) with h' | h'
    ·exact h'
    ·rw [List.getElem?_eq_none (by rw [hfl]; exact h')] at hu; cases hu
   have hk2 : j / 13 < ls.length := by omega
   have hlx := List.getElem?_eq_getElem hk2; obtain ⟨y, hy⟩ : ∃ y, (ls[j / 13]).cells[j % 13]? = some y := ⟨_, List.getElem?_eq_getElem (show j % 13 < 13 by omega)⟩; have hfc := flat_cells ls (j / 13) (j % 13) _ y hlx hy; rw [show j / 13 * 13 + j % 13 = j by omega, hu] at hfc; injection hfc with hfc; subst hfc; have hpk := (hp (j / 13) _ hlx).1 (j % 13) u hy; rw [show j / 13 * 13 + j % 13 = j by omega] at hpk; exact hpk
  ·obtain ⟨k, hk, rfl⟩ := List.getElem_of_mem hxm; obtain ⟨_, h1, h2, h3, h4, _⟩ := hp k _ (List.getElem?_eq_getElem hk); exact ⟨h1, h2, h3, h4⟩
  ·obtain ⟨k, hk, rfl⟩ := List.getElem_of_mem hxm; exact (hp k _ (List.getElem?_eq_getElem hk)).2.2.2.2.2
end
end Go.Proofs.Ytngegjboenfmeaa
/- A process as an argument, opened. -/
namespace Go.Proofs.Ytngegjboenfmeaa
open Go Go.RowKit Go.ChangeShapes Go.WideShapes Go.ChangeAt Go.Deep Go.Joins
set_option linter.unusedVariables false
section
variable {H : Type} {enc : TypeId × Value → H} {P : Program} {w : World}
theorem arg_proc {r : Reach} {b0 : Nat} {t i u : TypeId} {f0 f1 : Field} {v : Value} {d : DataW H} {p : List MemPlace} (hst : P.underlying t = some (.struct #[f0, f1])) (hC : P.cellsOf t = 2)
  (hof : ([f0, f1].map fun f => (f.offset, f.type, P.cellsOf f.type)) = [(0, i, 1), (1, u, 1)]) (hi : P.underlying i = some (.int .i64)) (hu : P.underlying u = some (.int .u64))
  (hv : Value.okWide P w r b0 t v) (h : DataW.Trod enc P w 0 (fun _ => true) true t v d p) : ∃ (sn : Int) (si : Nat), v = .agg #[.int .i64 sn, .int .u64 (si : Int)] := by
 obtain ⟨cs, rfl, hsz⟩ := okWide_struct hst hv; obtain ⟨cs⟩ := cs; obtain ⟨fuel, hf⟩ := h; have hl : cs.length = 2 := by simpa using hsz.trans hC
 simp only [List.map_cons, List.map_nil, List.cons.injEq, and_true, Prod.mk.injEq] at hof; obtain ⟨⟨o0, t0, c0⟩, o1, t1, c1⟩ := hof; have hf' : DataW.trod enc P w 0 (fun _ => true) true fuel t cs = some (d, p) := by simpa [Value.cells] using hf
 obtain ⟨xs, n, _, hxx, _, hxl, hx⟩ := DataW.trod_struct hst hf'; injection hxx with hd hp; subst hd; simp only [List.size_toArray, List.length_cons, List.length_nil, Nat.reduceAdd] at hxl
 match cs, hl, xs, hxl with
 | [a0, a1], _, [x0, x1], _ =>
  have g0 := hx 0 f0 rfl; rw [o0, c0, t0] at g0; have g1 := hx 1 f1 rfl; rw [o1, c1, t1] at g1; obtain ⟨dd, ed, _, _⟩ := DataW.trod_int hi (show DataW.trod enc P w 0 (fun _ => true) true n i [a0] = some x0 from g0); obtain rfl : a0 = .int .i64 dd := by simpa using ed
  obtain ⟨zn, en, _, wn⟩ := DataW.trod_int hu (show DataW.trod enc P w 0 (fun _ => true) true n u [a1] = some x1 from g1); obtain ⟨si, rfl, _⟩ := u64_natK wn; obtain rfl : a1 = .int .u64 (si : Int) := by simpa using en
  exact ⟨dd, si, rfl⟩
end
end Go.Proofs.Ytngegjboenfmeaa
