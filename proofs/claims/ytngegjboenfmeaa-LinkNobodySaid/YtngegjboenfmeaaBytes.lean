/- Bytes in memory, over this seat's program: rows of the call's own, strings out of them, appends. -/
import Derived.Test.YtngegjboenfmeaaProg
import Derived.Test.YtngegjboenfmeaaWords
import Derived.WalkSpells
import Derived.Lib.SlBytesConst
namespace Go.Proofs.Ytngegjboenfmeaa
open Go Go.RowKit
set_option linter.unusedVariables false

theorem info_u8 : (Try.prog.info? 5).map (fun i => (i.zero, i.size, i.bytes)) = some (some (.int .u8 0), 1, 1) := by kernel_rfl

/-- a row of bytes of the call's own -/
def Own (w : World) (base : Nat) (v : Value) (l : List UInt8) : Prop := w.ownsRow base 5 1 v l.length (us l)
theorem Own.nil (w : World) (base : Nat) : Own w base (.slice none 0 0) [] := World.ownsRow_nil w base _ 1
theorem Own.form {w : World} {base : Nat} {v : Value} {l : List UInt8} (h : Own w base v l) : ∃ A c, v = .slice A l.length c ∧ l.length ≤ c ∧ c ≤ maxLen ∧ Has w w.heap.size A (us l) := by
  have h0 := h
  rcases h.2 with ⟨rfl, hn⟩ | ⟨g, cap, cur, rfl, _, _, hnc, hm, _⟩
  · refine ⟨none, 0, by rw [hn], by omega, by unfold maxLen; omega, ?_⟩
    rw [List.eq_nil_of_length_eq_zero hn]
    exact Has.nil
  · exact ⟨_, cap, rfl, hnc, hm, Has.of_own h0⟩

/-- a slice of bytes as a string -/
theorem run_str {w : World} {B : Nat} {A : Option Addr} {c : Nat} {l : List UInt8} (h : Has w B A (us l)) :
    (convert 47 9 (.slice A l.length c)).run Try.prog w = .ok (.string ⟨l.toArray⟩) w := by
  rcases A with _ | a
  · have hl : l = [] := by
      cases l with
      | nil => rfl
      | cons x l =>
        obtain ⟨b, o, h, _⟩ := h.at_ (show 0 < (us (x :: l)).length by simp [us])
        cases h
    subst hl
    exact run_convert_bytes_nil w 47 5 Try.underlying47 Try.underlying5 _ _ _ Try.underlying9
  · rw [run_convert_bytes_string w 47 9 5 _ _ _ Try.underlying47 Try.underlying5 Try.underlying9]
    have hc : (loadCells a l.length).run Try.prog w = .ok ((l.map fun b => ((b.toNat : Nat) : Int)).map (Value.int .u8)).toArray w := by
      have := run_loadCells_list (P := Try.prog) w a (us l) (fun j v hj => by
        obtain ⟨b, o, hA, _, hcell⟩ := h j v hj
        injection hA with hA
        subst hA
        rw [add_mk]; exact hcell)
      rw [us_length] at this
      rw [this]
      simp [us]
    rw [run_bytesToString w a l.length c _ hc, foldl_push_bytes]
    congr 3
    have : ((fun n : Int => UInt8.ofNat n.toNat) ∘ fun b : UInt8 => ((b.toNat : Nat) : Int)) = id := by
      funext b
      simp
    simp [this]

theorem str_eq (l m : List UInt8) : (l == m) = decide (l = m) := by
  rw [Bool.eq_iff_iff]
  simp

/-- append onto a row of bytes of the call's own -/
theorem wp_app {w : World} {ops : Array Oper} {rest : List Oper} {o : Oper} {a : Act} {Q : Exit → Act → World → Prop} {s x : Operand} {base B c : Nat} {v : Value} {A : Option Addr} {l m : List UInt8} (hgd : o.guard = none)
    (ho : o.op = .call { callee := .builtin .append, args := #[s, x], argTypes := #[47, 47] }) (hs : a.eval s = v) (hx : a.eval x = .slice A m.length c)
    (hown : Own w base v l) (hr : Has w B A (us m)) (hlen : l.length + m.length ≤ 100000000000000) (hbase : base ≤ w.heap.size)
    (h : ∀ v' w', Own w' base v' (l ++ m) → Below base w w' → w.grownBy w' v.ownBlock → (v'.ownBlock = v.ownBlock ∨ v'.ownBlock = some w.heap.size) → wpList Try.prog ops Q rest (a.put o.dst v') w') : wpList Try.prog ops Q (o :: rest) a w := by
  obtain ⟨i0, hi, hz0, hz1, hz2⟩ := info_parts info_u8
  refine wpList_append_has w hgd s x _ ho base 5 i0 _ 1 1 Try.underlying47 hi hz0 hz1 hz2 rfl (by omega) v l.length (us l) hs hown B A m.length c (us m) hx (by rw [us_length, Nat.mul_one]) hr (us_one m) (by unfold maxLen; omega) (by omega) hbase ?_
  intro v' w' h1 h2 h3
  refine h v' w' (by unfold Own; rw [List.length_append, us_append]; exact h1) ((Below.refl _ _).grown h2 hbase (fun k hk => (hown.lt k hk).1)) h2 h3
/-- an empty literal is a row of the call's own -/
theorem own_empty (w : World) : Own (w.alloc (.cells #[] 5)) w.heap.size (.slice (some ⟨w.heap.size, 0, none⟩) 0 0) [] := World.ownsRow_made w #[] 0 (Nat.le_refl _) (by unfold maxLen; omega) rfl


theorem has_new (w : World) (cs : Array Value) (t : TypeId) (fr : Nat × Nat := (0, 0)) : Has (w.alloc (.cells cs t fr)) (w.heap.size + 1) (some ⟨w.heap.size, 0, none⟩) cs.toList := fun j u hu =>
  ⟨w.heap.size, 0, rfl, by omega, by rw [Nat.zero_add, cell_of_row _ _ j cs t fr (heap_alloc_new w _)]; simpa using hu⟩
theorem le_alloc {w : World} {n : Nat} (h : n ≤ w.heap.size) (o : Obj) : n ≤ (w.alloc o).heap.size := by simp; omega
theorem has_lit {w : World} {cs : List Value} {t : TypeId} {fr : Nat × Nat} {m : List UInt8} (h : us m = cs) : Has (w.alloc (.cells cs.toArray t fr)) (w.heap.size + 1) (some ⟨w.heap.size, 0, none⟩) (us m) := by
  rw [h]
  exact has_new w cs.toArray t fr
theorem Sl.mk' {w : World} {B c : Nat} {A : Option Addr} {l : List UInt8} (h : Has w B A (us l)) (h1 : l.length ≤ c) (h2 : c ≤ maxLen) (h3 : l.length ≤ 140737488355328) : Sl w B 1 (.slice A l.length c) (us l) := ⟨A, l.length, c, rfl, by rw [us_length, Nat.mul_one], h1, h2, h3, h⟩
theorem Parts.nil {w : World} {B : Nat} : Parts w B [] [] := ⟨rfl, fun i v m hv => by simp at hv⟩
theorem Parts.cons {w : World} {B : Nat} {v : Value} {l : List UInt8} {vs : List Value} {ls : List (List UInt8)} (h : Sl w B 1 v (us l)) (hs : Parts w B vs ls) : Parts w B (v :: vs) (l :: ls) :=
  ⟨by simp [hs.1], fun i u m hu hm => by
    rcases i with _ | i
    · simp at hu hm; subst hu hm; exact h
    · exact hs.2 i u m (by simpa using hu) (by simpa using hm)⟩
theorem Parts.one {w : World} {B c : Nat} {A : Option Addr} {l : List UInt8} (h : Has w B A (us l)) (h1 : l.length ≤ c) (h2 : c ≤ maxLen) (h3 : l.length ≤ 140737488355328) : Parts w B [.slice A l.length c] [l] :=
  ⟨rfl, fun i v m hv hm => by
    rcases i with _ | i
    · simp at hv hm; subst hv hm; exact Sl.mk' h h1 h2 h3
    · simp at hv⟩

/-- a constant text as bytes: its block is marked behind its end -/
theorem conv1 (w : World) (C : Array Value) (n c : Nat) : (convert 47 47 (.slice (some ⟨w.heap.size, 0, none⟩) n c)).run Try.prog (w.alloc (.cells C 5)) = .ok (.slice (some ⟨w.heap.size, 0, none⟩) n c) (w.alloc (.cells C 5 (C.size, C.size + 1))) :=
  Lib.run_convert_bytes_const (P := Try.prog) w 47 5 C n c Try.underlying47 Try.underlying5
theorem conv2 (w : World) (o : Obj) (C : Array Value) (n c : Nat) : (convert 47 47 (.slice (some ⟨w.heap.size + 1, 0, none⟩) n c)).run Try.prog ((w.alloc o).alloc (.cells C 5)) = .ok (.slice (some ⟨w.heap.size + 1, 0, none⟩) n c) ((w.alloc o).alloc (.cells C 5 (C.size, C.size + 1))) := by
  have := conv1 (w.alloc o) C n c
  simpa using this

theorem us_ofNat (t : Nat) : us [UInt8.ofNat t] = [.int .u8 ((t : Int) % 256)] := by
  simp [us]

theorem below_drewN {B : Nat} {a w : World} (h : Below B a w) (n : Nat) : Below B a (w.drewN n) := ⟨h.os, h.tape, h.output, h.size, h.block⟩

theorem own_mono {w : World} {b b' : Nat} {v : Value} {l : List UInt8} (h : Own w b v l) (hb : b' ≤ b) : Own w b' v l := by
  refine ⟨h.1, ?_⟩
  rcases h.2 with h0 | ⟨g, cap, cur, h1, h2, h3⟩
  · exact .inl h0
  · exact .inr ⟨g, cap, cur, h1, Nat.le_trans hb h2, h3⟩

/-- a byte of a row of the call's own: it is read, and written -/
theorem Own.at_ {w : World} {base n c : Nat} {A : Option Addr} {l : List UInt8} {k : Nat} (h : Own w base (.slice A n c) l) (hk : k < l.length) :
    ∃ g, A = some ⟨g, 0, none⟩ ∧ base ≤ g ∧ g < w.heap.size ∧ w.cell? ⟨g, k, none⟩ = some (.int .u8 ((l[k]).toNat : Int)) ∧ w.frozen? ⟨g, k, none⟩ = false ∧
      ∀ b : UInt8, Own (w.setCell ⟨g, k, none⟩ (.int .u8 (b.toNat : Int))) base (.slice A n c) (l.set k b) := by
  have h0 := h
  rcases h.2 with ⟨_, hn⟩ | ⟨g, cap, cur, hv, hb, hh, hnc, hm, hs, ht⟩
  · omega
  · injection hv with hA hn hc
    subst hA hn hc
    have hlt : g < w.heap.size := by
      rcases Nat.lt_or_ge g w.heap.size with hlt | hge
      · exact hlt
      · rw [Array.getElem?_eq_none hge] at hh; cases hh
    refine ⟨g, rfl, hb, hlt, ?_, ?_, ?_⟩
    · rw [h0.cellAt k (by omega), us_at hk]
    · exact h0.frozenAt k
    · intro b
      have := h0.stored k (.int .u8 (b.toNat : Int))
      unfold Own
      rw [List.length_set]
      have e : us (l.set k b) = (us l).set k (.int .u8 (b.toNat : Int)) := by simp [us]
      rw [e]
      exact this.1


theorem own_below {w w' : World} {base B : Nat} {v : Value} {l : List UInt8} (h : Own w base v l) (hb : Below B w w') (hB : w.heap.size ≤ B) : Own w' base v l := by
  refine ⟨h.1, ?_⟩
  rcases h.2 with h0 | ⟨g, cap, cur, h1, h2, h3, h4⟩
  · exact .inl h0
  · refine .inr ⟨g, cap, cur, h1, h2, ?_, h4⟩
    have hlt : g < w.heap.size := by
      rcases Nat.lt_or_ge g w.heap.size with hlt | hge
      · exact hlt
      · rw [Array.getElem?_eq_none hge] at h3; cases h3
    rw [hb.block g (by omega)]; exact h3

theorem u8_succ (b : UInt8) : ∃ b' : UInt8, ((b.toNat : Int) + 1) % 256 = (b'.toNat : Int) := ⟨b + 1, by
  rw [UInt8.toNat_add]
  have := b.toNat_lt
  simp⟩


theorem quiet_w {P : Program} {f : FuncId} {args : Array Value} {w : World} {n : Nat} {v : Value}
    (h : Calls P f args (w.drewN n) fun e w' => e = .returned v ∧ w.drewN n = w') : Calls P f args (w.drewN n) fun e w'' => e = .returned v ∧ ∃ m, w'' = w.drewN m :=
  h.mono fun _ _ ⟨he, hm⟩ => ⟨he, n, hm.symm⟩

theorem Parts.below {w w' : World} {B : Nat} {vs : List Value} {ls : List (List UInt8)} (h : Parts w B vs ls) (hb : Below B w w') : Parts w' B vs ls :=
  ⟨h.1, fun i v l hv hl => by
    obtain ⟨A, n, c, h1, h2, h3, h4, h5, h6⟩ := h.2 i v l hv hl
    exact ⟨A, n, c, h1, h2, h3, h4, h5, h6.below hb⟩⟩
end Go.Proofs.Ytngegjboenfmeaa
