/- side.due: the copies that are due. -/
import Derived.Test.YtmjlehofjholaaaSideA
namespace Go.Proofs.Ytmjlehofjholaaa
open Go Go.RowKit Go.Shelf
set_option linter.unusedVariables false
set_option maxRecDepth 100000
attribute [local go_sem] Oper.semAt_some

def Six (w : World) (g : Nat) (a b c d e f : Value) : Prop := w.heap[g]? = some (.cells #[a, b, c, d, e, f] 55 (0, 0))
section
variable {w w' : World} {g B : Nat} {a b c d e f : Value}
theorem Six.c0 (h : Six w g a b c d e f) : w.cell? ⟨g, 0, none⟩ = some a := by simp [World.cell?, show w.heap[g]? = _ from h]
theorem Six.c1 (h : Six w g a b c d e f) : w.cell? ⟨g, 1, none⟩ = some b := by simp [World.cell?, show w.heap[g]? = _ from h]
theorem Six.c2 (h : Six w g a b c d e f) : w.cell? ⟨g, 2, none⟩ = some c := by simp [World.cell?, show w.heap[g]? = _ from h]
theorem Six.c3 (h : Six w g a b c d e f) : w.cell? ⟨g, 3, none⟩ = some d := by simp [World.cell?, show w.heap[g]? = _ from h]
theorem Six.c4 (h : Six w g a b c d e f) : w.cell? ⟨g, 4, none⟩ = some e := by simp [World.cell?, show w.heap[g]? = _ from h]
theorem Six.c5 (h : Six w g a b c d e f) : w.cell? ⟨g, 5, none⟩ = some f := by simp [World.cell?, show w.heap[g]? = _ from h]
theorem Six.fz (h : Six w g a b c d e f) (i : Nat) : w.frozen? ⟨g, i, none⟩ = false := by simp [World.frozen?, show w.heap[g]? = _ from h]
theorem Six.lt (h : Six w g a b c d e f) : g < w.heap.size := (Array.getElem?_eq_some_iff.1 h).1
theorem Six.below (h : Six w g a b c d e f) (hb : Below B w w') (hl : g < B) : Six w' g a b c d e f := (hb.block g hl).trans h
theorem Six.set0 (h : Six w g a b c d e f) (z : Value) : Six (w.setCell ⟨g, 0, none⟩ z) g z b c d e f := by simpa [Six] using heap_setCell_same w g 0 _ _ z h
theorem Six.set1 (h : Six w g a b c d e f) (z : Value) : Six (w.setCell ⟨g, 1, none⟩ z) g a z c d e f := by simpa [Six] using heap_setCell_same w g 1 _ _ z h
theorem Six.set2 (h : Six w g a b c d e f) (z : Value) : Six (w.setCell ⟨g, 2, none⟩ z) g a b z d e f := by simpa [Six] using heap_setCell_same w g 2 _ _ z h
theorem Six.set3 (h : Six w g a b c d e f) (z : Value) : Six (w.setCell ⟨g, 3, none⟩ z) g a b c z e f := by simpa [Six] using heap_setCell_same w g 3 _ _ z h
theorem Six.set4 (h : Six w g a b c d e f) (z : Value) : Six (w.setCell ⟨g, 4, none⟩ z) g a b c d z f := by simpa [Six] using heap_setCell_same w g 4 _ _ z h
theorem Six.set5 (h : Six w g a b c d e f) (z : Value) : Six (w.setCell ⟨g, 5, none⟩ z) g a b c d e z := by simpa [Six] using heap_setCell_same w g 5 _ _ z h
end
theorem grown_set (w : World) (g i : Nat) (z : Value) : w.grownBy (w.setCell ⟨g, i, none⟩ z) (some g) :=
  ⟨rfl, rfl, rfl, by simp, fun k _ hk => Below.heap_setCell w ⟨g, i, none⟩ z k (by rintro rfl; exact hk rfl)⟩

structure SideAt (B0 : Nat) (w : World) (g : Nat) (s : St) (vB vP vT vW : Value) : Prop where
  hg : B0 ≤ g
  six : Six w g (.int .u64 (s.base : Int)) vB (.int .u64 (s.got : Int)) vP vT vW
  box : OwnB w B0 vB s.box
  ps : StrRow w B0 vP s.pushed
  ts : StrRow w B0 vT s.taken
  ws : CpRow w B0 vW s.way
  ap : ∀ k, vP.ownBlock = some k → vT.ownBlock ≠ some k
theorem SideAt.below {B0 : Nat} {w w' : World} {g : Nat} {s : St} {vB vP vT vW : Value} (h : SideAt B0 w g s vB vP vT vW) (hb : Below w.heap.size w w') : SideAt B0 w' g s vB vP vT vW :=
  ⟨h.hg, h.six.below hb h.six.lt, h.box.below hb, row_below h.ps hb, row_below h.ts hb, row_below h.ws hb, h.ap⟩

theorem wpi_appC {r n : Nat} {ops : Array Oper} {rest : List Oper} {w : World} {o : Oper} {a : Act} {Q : Exit → Act → World → Prop} {s x : Operand} {base B c : Nat} {v : Value} {A : Option Addr} {l m : List Cp} (hgd : o.guard = none)
    (ho : o.op = .call { callee := .builtin .append, args := #[s, x], argTypes := #[53, 53] }) (hs : a.eval s = v) (hx : a.eval x = .slice A m.length c)
    (hown : CpRow w base v l) (hr : Has w B A (cps m)) (hlen : l.length + m.length ≤ 1000000) (hbase : base ≤ w.heap.size)
    (h : ∀ v' w', CpRow w' base v' (l ++ m) → w.grownBy w' v.ownBlock → (v'.ownBlock = v.ownBlock ∨ v'.ownBlock = some w.heap.size) → wpListIn (Fence.wide.inRound r) n Try.prog ops Q rest (a.put o.dst v') w') : wpListIn (Fence.wide.inRound r) n Try.prog ops Q (o :: rest) a w :=
  wpListIn_plain hgd fun K hK => oper_in (by intro c; rw [ho]; simp) (op_appC ho hs hx hown hr hlen hbase fun v' w' h1 h2 h3 => hK _ _ (h v' w' h1 h2 h3))
theorem ownFrom_size {β : Type} (B n : Nat) : OwnFrom B (fun (_ : β) W => n ≤ W.heap.size) := fun _ _ _ _ h hg _ => Nat.le_trans h hg.size
theorem boxed_app {W w1 : World} {b base e n size : Nat} {t : TypeId} {o : Obj} {u v : Value} {xs : List Value} (h : Boxed W b t u) (hr : W.ownsRow base e size v n xs) (hne : t ≠ e) (hg : (W.alloc o).grownBy w1 v.ownBlock) : Boxed w1 b t u :=
  h.kept ((World.grownBy_alloc W _ _).trans hg) (fun e => by
    obtain ⟨_, _, cur, hcur⟩ := row_lt hr e.symm
    exact kind_ne h hcur hne rfl)
theorem prI_snoc (pre : List It) (x : It) : (pre ++ [x]).map prI = pre.map prI ++ [prI x] := by simp

set_option maxHeartbeats 2000000 in
theorem sdue_any (w : World) (g base : Nat) (A : Option Addr) (c : Nat) (L : List (List UInt8)) (x2 x3 x4 x5 : Value) (hs : Six w g (.int .u64 (base : Int)) (.slice A L.length c) x2 x3 x4 x5) (h : Bx w w.heap.size A L) (hb : base < 18446744073709551616) (hf : Fit L) (hcc : L.length ≤ c) (hcm : c ≤ maxLen) :
    Calls Try.prog 26 #[.pointer (some ⟨g, 0, none⟩)] w fun e w' => ∃ v, e = .returned v ∧ CpRow w' w.heap.size v (items base (dueL base L)) ∧ Below w.heap.size w w' := by
  obtain ⟨W, HW⟩ : ∃ W, Hid (W = w.alloc (.cells #[.slice none 0 0] 53)) := ⟨_, Lib.hid rfl⟩
  have hbW : Below w.heap.size w W := by rw [HW.out]; exact (Below.refl _ w).alloc (Nat.le_refl _) _
  have hzW : w.heap.size + 1 ≤ W.heap.size := by rw [HW.out]; simp
  have bW : Boxed W w.heap.size 53 (.slice none 0 0) := by rw [HW.out]; exact Boxed.new w _ _
  have hgl := hs.lt
  have S := Lib.hid (hs.below hbW hgl)
  have HX := Lib.hid (h.below hbW)
  have HF := Lib.hid hf
  have k0 := hs.c0
  have k1 := hs.c1
  clear h hf hs
  have hnil := fun (W : World) => run_eql_seq_nil W
  refine calls_marks 6 Try.func26 rfl ?_
  simp only [Try.ntmps26, List.size_toArray, List.length_cons, List.length_nil, Nat.reduceAdd, Nat.reduceSub, Array.replicate_succ, Array.replicate_zero, List.push_toArray, List.append_toArray, List.nil_append, List.cons_append]
  go_wp2_with fail
  rw [← HW.out]
  refine (due_any W base A c L (HX.out.more hbW.size) hb HF.out hcc hcm).mono ?_
  rintro e w1 ⟨hb1, hz1, rfl, -⟩
  have k0 := (S.out.below hb1 (by omega)).c0
  have k1 := (S.out.below hb1 (by omega)).c1
  have HX1 := Lib.hid (HX.out.below (hb1.mono hbW.size))
  have hz10 := hb1.size
  go_wp2_with fail
  refine (due_any w1 base A c L (HX1.out.more (by omega)) hb HF.out hcc hcm).mono ?_
  rintro e X ⟨hb4, hz4, rfl, d1, v4, d2, ho4⟩
  obtain ⟨LT, HLT⟩ : ∃ LT, Hid (dueL base L = LT) := ⟨_, Lib.hid rfl⟩
  rw [HLT.out] at ho4
  have HFT : Hid (Fit LT) := Lib.hid (by rw [← HLT.out]; exact dueL_fit HF.out)
  have HSM : Hid (LT.length = 0 ∨ base + LT.length ≤ 34359738367) := Lib.hid (by rw [← HLT.out]; exact dueL_sum)
  have hlt8 : LT.length ≤ 8 := by rw [← HLT.out, dueL_len]; exact (dueN_le base L).1
  obtain ⟨A4, c4, rfl, q11, q12, _⟩ := ho4.form HFT.out.all
  have hbX : Below W.heap.size W X := hb1.trans (hb4.mono hb1.size)
  have bX : Boxed X w.heap.size 53 (.slice none 0 0) := (hbX.block _ (by omega)).trans bW
  have hBX : Below w.heap.size w X := hbW.trans (hbX.mono hbW.size)
  have hzX := hb4.size
  have D1 := Lib.hid d1
  have D2 := Lib.hid d2
  have HO4 := Lib.hid ho4
  have BX := Lib.hid bX
  clear d1 d2 ho4 hnil k0 k1 bX bW S HX HX1
  go_wp2_with fail
  refine (wpIn_wide (n := 6)).1 ?_
  refine range_v (α := It) rfl (by omega) (gf := 35) (lb := #[.pointer (some ⟨w1.heap.size + 1, 0, none⟩), .pointer (some ⟨w1.heap.size, 0, none⟩)]) rfl trivial (enters_of Try.func35 (by kernel_rfl) rfl)
    (due1_seq 5 (by omega) X w1.heap.size base LT (.slice A4 LT.length c4) hz4 D1.out D2.out HO4.out HFT.out HSM.out) Mid.trans (fun W l o o' h _ _ _ => Mid.putObj W o' h) (Below.refl _ _) (fun _ => rfl)
    (fun pre x => valid_own)
    (fun pre W => (Below w.heap.size w W ∧ ∃ v, Boxed W w.heap.size 53 v ∧ W.ownsRow X.heap.size 62 2 v (pre.map prI).length (cps (pre.map prI)) ∧ True) ∧ (X.heap.size ≤ W.heap.size ∧ pre.length ≤ LT.length))
    (fun _ _ _ => False)
    (OwnFrom.and (OwnFrom.and (ownFrom_below (Nat.le_refl _) hBX.size) ((holdsRow_own X.heap.size w.heap.size 53 62 2 (fun pre : List It => (pre.map prI).length) (fun pre => cps (pre.map prI)) (fun _ _ => True)).from _)) (OwnFrom.and (ownFrom_size _ _) (ownFrom_pure _ _)))
    (fun _ _ _ _ _ hs _ _ => hs)
    ⟨⟨hBX, .slice none 0 0, BX.out, World.ownsRow_nil _ _ _ _, trivial⟩, Nat.le_refl _, by simp⟩ ?round ?done ?stop
  case round =>
    rintro r pre ⟨m, l, v⟩ W0
    rw [show encI (m, l, v) = #[.int .u64 (m : Int), v] from rfl]
    gi_wp2
    refine ⟨trivial, ?_⟩
    rintro Wr ⟨⟨i1, vr, i2, i3, _⟩, hzx, i4⟩ ⟨hat, hv⟩ hlt
    obtain ⟨Av, cv, rfl, hcv, hmv, hhv⟩ := hv.form
    have hstr := run_str (c := cv) hhv
    obtain ⟨Ar, cr, rfl, _, _, _⟩ := row_form i3
    have n1 := i2.cell
    have n2 := i2.frozen
    have hml : (pre.map prI).length ≤ 8 := by rw [List.length_map]; omega
    obtain ⟨Pr, HPr⟩ : ∃ Pr, Hid (pre.map prI = Pr) := ⟨_, Lib.hid rfl⟩
    rw [HPr.out] at i2 i3 n1 hml
    have HI3 := Lib.hid i3
    have hzr := i1.size
    clear i3 hhv hat
    gi_wp2_with (gi_at_builtin; go_must (refine wpi_appC (base := X.heap.size) (l := Pr) (m := [(m, l)]) rfl rfl (by rfl) (by rfl) (row_below HI3.out ((Below.refl _ _).alloc (Nat.le_refl _) _)) (by have := has_new Wr #[.int .u64 (m : Int), .string ⟨l.toArray⟩] 62; exact this) (by simp; omega) (by simp; omega) ?_); intro v' w2 hrow1 hg1 hap1; obtain ⟨Av', cv', rfl, _, _, _⟩ := row_form hrow1; have hbx := boxed_app i2 HI3.out (by decide) hg1; have n3 := hbx.cell; have n4 := hbx.frozen; clear n1 n2; have HROW := Lib.hid hrow1; clear hrow1)
    have hg0 : Wr.grownBy w2 (Value.slice Ar Pr.length cr).ownBlock := (World.grownBy_alloc Wr _ _).trans hg1
    have hlow : ∀ k, (Value.slice Ar Pr.length cr).ownBlock = some k → X.heap.size ≤ k ∧ ∃ cur, Wr.heap[k]? = some (.cells cur 62 (0, 0)) := fun k hk => ⟨(row_lt HI3.out hk).1, (row_lt HI3.out hk).2.2⟩
    have hbw : Below X.heap.size Wr w2 := (Below.refl _ _).grown hg0 hzx (fun k hk => (hlow k hk).1)
    have hx0 : w.heap.size < X.heap.size := by omega
    have hwX : w.heap.size < w1.heap.size := by omega
    have em : (pre ++ [((m, l, Value.slice Av l.length cv) : It)]).map prI = Pr ++ [(m, l)] := by rw [prI_snoc, HPr.out]; rfl
    refine ⟨⟨?_, ?_⟩, ⟨?_, ?_⟩, ⟨?_, .slice Av' (Pr.length + 1) cv', ?_, ?_, trivial⟩, ?_, ?_⟩
    · have := hbw.size; simpa using this
    · intro k o hB hk ho
      refine (Below.heap_setCell w2 ⟨w.heap.size, 0, none⟩ _ k (by simp; omega)).trans ((hg0.block k (Array.getElem?_eq_some_iff.1 hk).1 ?_).trans hk)
      intro e
      obtain ⟨_, cur, hcur⟩ := hlow k e.symm
      rw [hcur] at hk
      cases hk
      cases ho
    · have := hbw.size; simpa using this
    · intro k h1 h2
      exact (Below.heap_setCell w2 ⟨w.heap.size, 0, none⟩ _ k (by simp; omega)).trans (hbw.block k h2)
    · exact (i1.trans (hbw.mono (by omega))).setCell (by simp) _
    · exact hbx.set _
    · rw [em]
      have h2 : CpRow w2 X.heap.size (.slice Av' (Pr ++ [(m, l)]).length cv') (Pr ++ [(m, l)]) := HROW.out
      have e3 : (Pr ++ [((m, l) : Cp)]).length = Pr.length + 1 := by simp
      rw [e3] at h2
      refine row_same h2 fun k hk => Below.heap_setCell w2 ⟨w.heap.size, 0, none⟩ _ k ?_
      have := (row_lt h2 hk).1
      simp
      omega
    · have := hbw.size; simp; omega
    · simp; omega
  case done =>
    rintro D xs Wd hD hS ⟨⟨i1, vr, i2, i3, _⟩, hzx, i4⟩ hK
    have exs : xs.map prI = items base LT := by
      unfold AtI at hS
      rw [hS, List.take_of_length_le (by rw [items_len]; exact Nat.le_refl _)]
    rw [exs] at i3
    obtain ⟨Ar, cr, rfl, _, _, _⟩ := row_form i3
    have n1 := i2.cell
    have HI := Lib.hid i3
    clear hS exs i3
    go_wp2_with fail
    refine ⟨by simp, .inl ⟨_, _, rfl, run_takeDeferred hK, ?_⟩⟩
    refine ⟨_, results_tmp rfl _ _ _, _, rfl, ?_, ?_⟩
    · rw [HLT.out]
      refine row_base (row_same HI.out fun k hk => World.putObj_heap_other ?_) hBX.size
      obtain ⟨_, _, cur, hcur⟩ := row_lt HI.out hk
      rintro rfl
      rw [hK] at hcur
      cases hcur
    · exact i1.trans (belowK_b (w := w) (Nat.le_refl _) _ D _ _ (by have := hBX.size; omega) hK rfl rfl)
  case stop =>
    rintro D cx pre Wd hD _ hh hK
    exact hh.elim
end Go.Proofs.Ytmjlehofjholaaa
