/- WindowDue: the statement's walk. -/
import Derived.Test.YtmjlehofjholaaaWinP
import Derived.Test.YtmjlehofjholaaaRgIn
namespace Go.Proofs.Ytmjlehofjholaaa
open Go Go.RowKit Go.Shelf
set_option linter.unusedVariables false
set_option maxRecDepth 100000
attribute [local go_sem] Oper.semAt_some

theorem dueL_len (base : Nat) (L : List (List UInt8)) : (dueL base L).length = dueN base L := by
  unfold dueL dueN
  split <;> simp
theorem dueL_at {base : Nat} {L : List (List UInt8)} {k : Nat} (h : k < (dueL base L).length) : ∃ h2 : k < L.length, (dueL base L)[k] = L[k] := by
  have h0 := dueL_len base L
  have h1 := (dueN_le base L).2
  refine ⟨by omega, ?_⟩
  by_cases hm : mayB base L = true
  · simp [dueL, hm]
  · simp [dueL, hm] at h
theorem dueL_fit {base : Nat} {L : List (List UInt8)} (h : Fit L) : Fit (dueL base L) := by
  unfold dueL
  split
  · exact h.take _
  · exact ⟨by simp, by simp⟩
theorem dueL_sum {base : Nat} {L : List (List UInt8)} : (dueL base L).length = 0 ∨ base + (dueL base L).length ≤ 34359738367 := by
  rcases Nat.eq_zero_or_pos (dueL base L).length with h | h
  · exact .inl h
  · have h0 := dueL_len base L
    have h1 := (dueN_le base L).2
    have := due_small (base := base) (L := L) (by omega)
    exact .inr (by omega)
theorem at_last {base : Nat} {LT : List (List UInt8)} {pre : List It} {x : It} (h : AtI base LT (pre.length + 1) (pre ++ [x])) (hlt : pre.length < LT.length) : x.1 = base + 1 + pre.length ∧ x.2.1 = LT[pre.length] := by
  unfold AtI at h
  have h1 := congrArg (fun l => l[pre.length]?) h
  simp [items, prI, hlt] at h1
  exact ⟨by rw [h1.1], by rw [h1.2]⟩

/-- what a round has done so far -/
structure Rd (X Wr W : World) : Prop where
  keeps : KeepsFrom X.heap.size Wr W
  below : Below X.heap.size Wr W
theorem Rd.of_below {X Wr W : World} (h : Below Wr.heap.size Wr W) (hz : X.heap.size ≤ Wr.heap.size) : Rd X Wr W :=
  ⟨⟨h.size, fun k o _ hk _ => (h.block k (Array.getElem?_eq_some_iff.1 hk).1).trans hk⟩, h.mono hz⟩
theorem Rd.byte {X Wr W : World} {g : Nat} {cur : Array Value} {t : TypeId} (h : Rd X Wr W) (hg : X.heap.size ≤ g) (hb : W.heap[g]? = some (.cells cur t (0, 0))) (k : Nat) (v : Value) : Rd X Wr (W.setCell ⟨g, k, none⟩ v) := by
  refine ⟨h.keeps.trans ⟨by simp, fun j o _ hj ho => (Below.heap_setCell W ⟨g, k, none⟩ v j ?_).trans hj⟩, h.below.setCell hg v⟩
  intro e
  have e' : j = g := e
  rw [e', hb] at hj
  cases hj
  cases ho
theorem Rd.boxed {X Wr W : World} {b : Nat} {t : TypeId} {v : Value} (h : Rd X Wr W) (hb : Boxed Wr b t v) (hlt : b < X.heap.size) : Boxed W b t v := (h.below.block b hlt).trans hb

set_option maxHeartbeats 2000000 in
theorem windowDue_walk (w : World) (base : Nat) (A : Option Addr) (c : Nat) (L : List (List UInt8)) (leave : Int) (hb : base < 18446744073709551616) (hcc : L.length ≤ c) (hcm : c ≤ maxLen) (hr : L.length ≤ 140737488355328) (h : Bx w w.heap.size A L)
    (hlv : -9223372036854775808 ≤ leave ∧ leave ≤ 9223372036854775807) :
    Calls Try.prog 4 #[.agg #[.int .u64 (base : Int), .slice A L.length c], .int .i64 leave] w fun e w' => e = .returned (.bool true) ∧ Below w.heap.size w w' := by
  obtain ⟨W, HW⟩ : ∃ W, Hid (W = ((w.alloc (.cells #[.int .u64 (base : Int), .slice A L.length c] 25)).alloc (.cells #[.int .i64 leave] 3)).alloc (.cells #[.bool false] 4)) := ⟨_, Lib.hid rfl⟩
  have hbW : Below w.heap.size w W := by rw [HW.out]; exact (((Below.refl _ w).alloc (Nat.le_refl _) _).alloc (by simp) _).alloc (by simp; omega) _
  have hzW : w.heap.size + 3 ≤ W.heap.size := by rw [HW.out]; simp
  have tW : Two W w.heap.size (.int .u64 (base : Int)) (.slice A L.length c) := by
    rw [HW.out]
    exact ((Two.new w _ _).below ((Below.refl (w.heap.size + 1) _).alloc (by simp) _) (by omega)).below ((Below.refl (w.heap.size + 1) _).alloc (by simp) _) (by omega)
  have lW : Boxed W (w.heap.size + 1) 3 (.int .i64 leave) := by
    rw [HW.out]
    have := Boxed.new (w.alloc (.cells #[.int .u64 (base : Int), .slice A L.length c] 25)) 3 (.int .i64 leave)
    rw [World.size_alloc] at this
    exact this.alloc _
  have rW : Boxed W (w.heap.size + 1 + 1) 4 (.bool false) := by
    rw [HW.out]
    have := Boxed.new ((w.alloc (.cells #[.int .u64 (base : Int), .slice A L.length c] 25)).alloc (.cells #[.int .i64 leave] 3)) 4 (.bool false)
    rw [World.size_alloc, World.size_alloc] at this
    exact this
  have HX := Lib.hid (h.below hbW)
  have k0 := tW.c0
  have k1 := tW.c1
  clear h
  by_cases hlong : longB L = true
  · have HL := Lib.hid hlong
    clear hlong
    refine calls_marks 6 Try.func4 rfl ?_
    simp only [Try.ntmps4, List.size_toArray, List.length_cons, List.length_nil, Nat.reduceAdd, Nat.reduceSub, Array.replicate_succ, Array.replicate_zero, List.push_toArray, List.append_toArray, List.nil_append, List.cons_append]
    go_wp2_with fail
    rw [← HW.out]
    refine (long_t W w.heap.size base A c L HX.out hbW.size (by omega) HL.out).mono ?_
    rintro e w1 ⟨rfl, hb1⟩
    go_wp2_with fail
    refine (awake_any w1).mono ?_
    rintro e w2 ⟨rfl, hb2⟩
    have hb12 := hb1.trans (hb2.mono hb1.size)
    have r2 : Boxed w2 (w.heap.size + 1 + 1) 4 (.bool false) := (hb12.block _ (by omega)).trans rW
    have c2 := r2.cell
    have f2 := r2.frozen
    go_wp2_with fail
    have hB2 := hbW.trans (hb12.mono hbW.size)
    have hc9 : (w2.setCell ⟨w.heap.size + 1 + 1, 0, none⟩ (.bool true)).cell? ⟨w.heap.size + 1 + 1, 0, none⟩ = some (.bool true) := (r2.set _).cell
    exact ⟨_, by simp [results, Try.results4, go_sem, hc9], rfl, hB2.setCell (by simp; omega) _⟩
  · have hl2 : longB L = false := by simpa using hlong
    have HL := Lib.hid hl2
    have HF := Lib.hid (long_fit hl2)
    have hlen := long_len hl2
    clear hlong hl2
    have hnil := fun (W : World) => run_eql_seq_nil W
    refine calls_marks 6 Try.func4 rfl ?_
    simp only [Try.ntmps4, List.size_toArray, List.length_cons, List.length_nil, Nat.reduceAdd, Nat.reduceSub, Array.replicate_succ, Array.replicate_zero, List.push_toArray, List.append_toArray, List.nil_append, List.cons_append]
    go_wp2_with fail
    rw [← HW.out]
    refine (long_f W w.heap.size base A c L HX.out hbW.size (by omega) HL.out).mono ?_
    rintro e w1 ⟨rfl, hb1⟩
    have hB1 : Below w.heap.size w w1 := hbW.trans (hb1.mono hbW.size)
    have HX1 := Lib.hid (HX.out.below (hb1.mono hbW.size))
    have hz1 := hb1.size
    have hz10 := hB1.size
    have T1 := Lib.hid (tW.below hb1 (by omega))
    have L1 := Lib.hid (show Boxed w1 (w.heap.size + 1) 3 (.int .i64 leave) from (hb1.block _ (by omega)).trans lW)
    have R1 := Lib.hid (show Boxed w1 (w.heap.size + 1 + 1) 4 (.bool false) from (hb1.block _ (by omega)).trans rW)
    have k0 := T1.out.c0
    have k1 := T1.out.c1
    clear tW HX lW rW
    go_wp2_with fail
    refine (ownR_any w1 base A c L (HX1.out.more hB1.size) HF.out).mono ?_
    rintro e w2 ⟨v, rfl, ho2, hb2⟩
    obtain ⟨Ao, co, rfl, p1, p2, hx2⟩ := ho2.form HF.out.all
    have hz2 := hb2.size
    obtain ⟨W2, HW2⟩ : ∃ W, Hid (W = w2.alloc (.cells #[.int .u64 (base : Int), .slice Ao L.length co] 25)) := ⟨_, Lib.hid rfl⟩
    obtain ⟨hbW2, hzW2, t2⟩ := two_new HW2.out
    have hzW2 := Nat.le_of_eq hzW2.symm
    have hb12 : Below w1.heap.size w1 W2 := hb2.trans (hbW2.mono hb2.size)
    have TO := Lib.hid t2
    have XS := Lib.hid (HX1.out.below (hb12.mono hB1.size))
    have XO := Lib.hid (hx2.below hbW2)
    have hBW2 : Below w.heap.size w W2 := hB1.trans (hb12.mono hB1.size)
    have k0 := (T1.out.below hb2 (by omega)).c0
    have k1 := (T1.out.below hb2 (by omega)).c1
    have hn0 : w.heap.size < w2.heap.size := by omega
    have TS := Lib.hid (T1.out.below hb12 (by omega))
    have LS := Lib.hid (show Boxed W2 (w.heap.size + 1) 3 (.int .i64 leave) from (hb12.block _ (by omega)).trans L1.out)
    have RS := Lib.hid (show Boxed W2 (w.heap.size + 1 + 1) 4 (.bool false) from (hb12.block _ (by omega)).trans R1.out)
    clear t2 T1 HX1 hb2 hx2 ho2 L1 R1
    go_wp2_with fail
    rw [← HW2.out]
    refine (due_any W2 base A c L (XS.out.more hBW2.size) hb HF.out hcc hcm).mono ?_
    rintro e w3 ⟨hb3, hz3, rfl, -⟩
    have hz23 := hb3.size
    obtain ⟨W3, HW3⟩ : ∃ W, Hid (W = w3.alloc (.cells #[.int .i64 0] 3)) := ⟨_, Lib.hid rfl⟩
    have hbW3 : Below w3.heap.size w3 W3 := by rw [HW3.out]; exact (Below.refl _ _).alloc (Nat.le_refl _) _
    have hzW3 : w3.heap.size + 1 ≤ W3.heap.size := by rw [HW3.out]; simp
    have NS := Lib.hid (show Boxed W3 w3.heap.size 3 (.int .i64 0) by rw [HW3.out]; exact Boxed.new w3 _ _)
    have hb23 : Below W2.heap.size W2 W3 := hb3.trans (hbW3.mono hb3.size)
    have k0 := (TS.out.below hb3 (by omega)).c0
    have k1 := (TS.out.below hb3 (by omega)).c1
    have hn1 : w.heap.size < w3.heap.size := by omega
    have hBW3 : Below w.heap.size w W3 := hBW2.trans (hb23.mono hBW2.size)
    go_wp2_with fail
    rw [← HW3.out]
    refine (due_any W3 base A c L ((XS.out.below (hb23.mono hBW2.size)).more hBW3.size) hb HF.out hcc hcm).mono ?_
    rintro e X ⟨hb4, hz4, rfl, d1, v4, d2, ho4⟩
    have hb3X : Below w3.heap.size w3 X := hbW3.trans (hb4.mono hbW3.size)
    have hb2X : Below W2.heap.size W2 X := hb23.trans (hb4.mono hb23.size)
    obtain ⟨LT, HLT⟩ : ∃ LT, Hid (dueL base L = LT) := ⟨_, Lib.hid rfl⟩
    rw [HLT.out] at ho4
    have HFT : Hid (Fit LT) := Lib.hid (by rw [← HLT.out]; exact dueL_fit HF.out)
    have HSM : Hid (LT.length = 0 ∨ base + LT.length ≤ 34359738367) := Lib.hid (by rw [← HLT.out]; exact dueL_sum)
    have HDN : Hid (dueN base L = LT.length) := Lib.hid (by rw [← HLT.out]; exact (dueL_len base L).symm)
    obtain ⟨A4, c4, rfl, q11, q12, _⟩ := ho4.form HFT.out.all
    have TSX := Lib.hid (TS.out.below hb2X (by omega))
    have TOX := Lib.hid (TO.out.below hb2X (by omega))
    have LSX := Lib.hid (show Boxed X (w.heap.size + 1) 3 (.int .i64 leave) from (hb2X.block _ (by omega)).trans LS.out)
    have RSX := Lib.hid (show Boxed X (w.heap.size + 1 + 1) 4 (.bool false) from (hb2X.block _ (by omega)).trans RS.out)
    have NSX := Lib.hid (show Boxed X w3.heap.size 3 (.int .i64 0) from (hb4.block _ (by omega)).trans NS.out)
    have XSX := Lib.hid (XS.out.below (hb2X.mono hBW2.size))
    have XOX := Lib.hid (XO.out.below (hb2X.mono hbW2.size))
    have hBX : Below w.heap.size w X := hBW2.trans (hb2X.mono hBW2.size)
    have hzX := hb4.size
    have D1 := Lib.hid d1
    have D2 := Lib.hid d2
    have HO4 := Lib.hid ho4
    clear d1 d2 ho4 TS TO LS RS NS XS XO hnil k0 k1
    go_wp2_with fail
    refine (wpIn_wide (n := 6)).1 ?_
    refine range_v (α := It) rfl (by omega) (gf := 35) (lb := #[.pointer (some ⟨W3.heap.size + 1, 0, none⟩), .pointer (some ⟨W3.heap.size, 0, none⟩)]) rfl trivial (enters_of Try.func35 (by kernel_rfl) rfl)
      (due1_seq 5 (by omega) X W3.heap.size base LT (.slice A4 LT.length c4) hz4 D1.out D2.out HO4.out HFT.out HSM.out) Mid.trans (fun W l o o' h _ _ _ => Mid.putObj W o' h) (Below.refl _ _) (fun _ => rfl)
      (fun pre x => valid_own)
      (fun pre W => (Below w3.heap.size X W ∧ Boxed W w3.heap.size 3 (.int .i64 (pre.length : Int))) ∧ (pre.length ≤ LT.length ∧ Hid (∀ j : Nat, 1 ≤ j → j ≤ pre.length → (j : Int) = leave → False)))
      (fun cx pre W => (Below w3.heap.size X W ∧ Boxed W w3.heap.size 3 (.int .i64 leave)) ∧ (cx = .exit 0 ∧ 1 ≤ leave ∧ leave ≤ (LT.length : Int)))
      (OwnFrom.and (OwnFrom.and (ownFrom_below (by omega) (by omega)) ((boxed_own _ _ (fun pre : List It => .int .i64 (pre.length : Int))).from _)) (ownFrom_pure _ _))
      (fun cx => OwnFrom.and (OwnFrom.and (ownFrom_below (by omega) (by omega)) ((boxed_own _ _ _).from _)) (ownFrom_pure _ _))
      ⟨⟨Below.refl _ _, NSX.out⟩, by simp, Lib.hid (fun j h1 h2 => by simp at h2; omega)⟩ ?round ?done ?stop
    case round =>
      rintro r pre ⟨m, l, v⟩ W0
      rw [show encI (m, l, v) = #[.int .u64 (m : Int), v] from rfl]
      gi_wp2
      refine ⟨trivial, ?_⟩
      rintro Wr ⟨⟨i1, i2⟩, i3, HNL⟩ ⟨hat, hv⟩ hlt
      obtain ⟨hm, hl⟩ := at_last hat hlt
      simp only at hm hl hv
      subst hm
      obtain ⟨p, Hp⟩ : ∃ p, Hid (pre.length = p) := ⟨_, Lib.hid rfl⟩
      have HPX : Hid (∀ u : It, (pre ++ [u]).length = p + 1) := Lib.hid (fun u => by rw [List.length_append, Hp.out]; rfl)
      rw [Hp.out] at i2 i3 HNL hlt ⊢
      have hLt : LT[p]? = some l := by rw [List.getElem?_eq_getElem hlt, hl]; simp only [Hp.out]
      have hsm : base + LT.length ≤ 34359738367 := by have := HSM.out; omega
      obtain ⟨hpL, hLl⟩ := dueL_at (base := base) (L := L) (k := p) (by rw [HLT.out]; exact hlt)
      have hLL : L[p] = l := by
        have e : (dueL base L)[p]? = some l := by rw [HLT.out]; exact hLt
        rw [List.getElem?_eq_getElem (by rw [HLT.out]; exact hlt)] at e
        rw [← hLl]
        simpa using e
      have hbX2 : Below W2.heap.size X Wr := i1.mono (by omega)
      have hzr := i1.size
      obtain ⟨b, o, Ap, cp, rfl, hbB, hc, q1, q2, q3, hh⟩ := (XOX.out.below (i1.mono (by omega))).at_ hpL
      rw [hLL] at hc q1 q3 hh
      have hl6 : l.length ≤ 1000000 := HF.out.2 l (by rw [← hLL]; exact List.getElem_mem hpL)
      obtain ⟨Av, cv, rfl, hcv, hmv, hhv⟩ := hv.form
      have HV := Lib.hid hv
      have HHV := Lib.hid hhv
      have HH := Lib.hid hh
      have T3 := Lib.hid (TOX.out.below hbX2 (by omega))
      have T6 := Lib.hid i2
      have T1 := Lib.hid i1
      have hLSr : Boxed Wr (w.heap.size + 1) 3 (.int .i64 leave) := (hbX2.block _ (by omega)).trans LSX.out
      have TL := Lib.hid hLSr
      have hlt6 := i2.lt
      clear hat hl hv hh hhv hLt hLl hLL i1 i2 hbX2 hLSr
      have XOr := Lib.hid (XOX.out.below (T1.out.mono (by omega)))
      have e1 : decide (LT.length ≤ p) = false := decide_eq_false (by omega)
      have x1 : IntKind.u64.wrap (p : Int) = (p : Int) := u64_wrap (by omega) (by omega)
      have x2 : IntKind.u64.wrap ((base : Int) + (p : Int)) = (base : Int) + (p : Int) := u64_wrap (by omega) (by omega)
      have x3 : IntKind.u64.wrap ((base : Int) + (p : Int) + 1) = (base : Int) + (p : Int) + 1 := u64_wrap (by omega) (by omega)
      have e2 : (((base + 1 + p : Nat) : Int) != (base : Int) + (p : Int) + 1) = false := by simp; omega
      have i0 : (0 : Int) ≤ (p : Int) := by omega
      have i1 : (p : Int) < (L.length : Int) := by omega
      obtain ⟨mm, Hmm⟩ : ∃ mm : Int, Hid (((base + 1 + p : Nat) : Int) = mm) := ⟨_, Lib.hid rfl⟩
      rw [Hmm.out] at e2 ⊢
      gi_wp2
      refine wpIn_region_f (by kernel_rfl) (fun dn xv W => Below Wr.heap.size Wr W) (fun _ _ => True) [fun v _ => v = .int .i64 (p : Int), fun v _ => v = .agg #[.int .u64 (base : Int), .slice (some ⟨b, o, none⟩) L.length co], fun v _ => v = .int .i64 (LT.length : Int), fun v _ => v = .bool false, fun v _ => v = .bool false, fun v _ => v = .int .u64 mm, fun v _ => v = .pointer (some ⟨w2.heap.size, 0, none⟩), fun v _ => v = .int .u64 (base : Int), fun v _ => v = .int .i64 (p : Int), fun v _ => v = .int .u64 (p : Int), fun v _ => v = .int .u64 ((base : Int) + (p : Int)), fun v _ => v = .int .u64 ((base : Int) + (p : Int) + 1), fun v _ => v = .bool false, fun v _ => v = .bool false, fun v _ => v = .bool false, fun v _ => v = .slice Av l.length cv, fun v _ => v = .string ⟨l.toArray⟩, fun v _ => v = .pointer (some ⟨w2.heap.size, 1, none⟩), fun v _ => v = .slice (some ⟨b, o, none⟩) L.length co, fun v _ => v = .int .i64 (p : Int), fun v _ => v = .pointer (some ⟨b, o + p, none⟩), fun v _ => v = .slice Ap l.length cp, fun v _ => v = .string ⟨l.toArray⟩, fun v _ => v = .bool false, fun v _ => v = .bool false] (by kernel_rfl) (by kernel_rfl) (by kernel_rfl) (by kernel_rfl) (fun xv => by simpa using (Below.refl _ Wr).drew)
        (by exact ⟨fun _ _ _ _ h => h, fun _ _ _ _ h => h, fun _ _ _ _ h => h, fun _ _ _ _ h => h, fun _ _ _ _ h => h, fun _ _ _ _ h => h, fun _ _ _ _ h => h, fun _ _ _ _ h => h, fun _ _ _ _ h => h, fun _ _ _ _ h => h, fun _ _ _ _ h => h, fun _ _ _ _ h => h, fun _ _ _ _ h => h, fun _ _ _ _ h => h, fun _ _ _ _ h => h, fun _ _ _ _ h => h, fun _ _ _ _ h => h, fun _ _ _ _ h => h, fun _ _ _ _ h => h, fun _ _ _ _ h => h, fun _ _ _ _ h => h, fun _ _ _ _ h => h, fun _ _ _ _ h => h, fun _ _ _ _ h => h, fun _ _ _ _ h => h, trivial⟩) ?_ ?_
      · refine EachF.cons 1 rfl (fun dn xv W F hF hd hN hX hI H K hK => ?_) ?_
        · have f6 : F.tmps.getD 6 undef = .pointer (some ⟨w3.heap.size, 0, none⟩) := (hF 6).trans (by kernel_rfl)
          have hc0 := (hI.cell (p := ⟨w3.heap.size, 0, none⟩) hlt6).trans T6.out.cell
          clear H hN hd hX hF
          refine on_plain rfl ?_
          go_simp
          exact hK.out _ _ rfl trivial (by simpa [upB, upd] using hI)
        refine EachF.cons 2 rfl (fun dn xv W F hF hd hN hX hI H K hK => ?_) ?_
        · have f5 : F.tmps.getD 5 undef = .pointer (some ⟨w2.heap.size, 0, none⟩) := (hF 5).trans (by kernel_rfl)
          have hc0 := (T3.out.below hI (by omega)).c0
          have hc1 := (T3.out.below hI (by omega)).c1
          clear H hN hd hX hF
          refine on_plain rfl ?_
          go_simp
          exact hK.out _ _ rfl trivial (by simpa [upB, upd] using hI)
        refine EachF.cons 3 rfl (fun dn xv W F hF hd hN hX hI H K hK => ?_) ?_
        · have h1 : xv 1 = .agg #[.int .u64 (base : Int), .slice (some ⟨b, o, none⟩) L.length co] := (H 1 (.edge (by kernel_rfl))).2
          have f24 : F.tmps.getD 24 undef = .agg #[.int .u64 (base : Int), .slice (some ⟨b, o, none⟩) L.length co] := (hF 24).trans (Eq.trans (by kernel_rfl) h1)
          clear H hN hd hX hF
          refine on_plain rfl ?_
          go_simp
          refine (dueR_any W w2.heap.size base (some ⟨b, o, none⟩) co L (XOr.out.below (hI.mono (by omega))) (by have := hI.size; omega) hb (by omega)).mono ?_
          rintro e W' ⟨rfl, hbb⟩
          rw [HDN.out]
          exact hK.out _ W' rfl trivial (by simpa [upB, upd] using hI.trans (hbb.mono hI.size))
        refine EachF.cons 4 rfl (fun dn xv W F hF hd hN hX hI H K hK => ?_) ?_
        · have h0 : xv 0 = .int .i64 (p : Int) := (H 0 (.edge (by kernel_rfl))).2
          have f23 : F.tmps.getD 23 undef = .int .i64 (p : Int) := (hF 23).trans (Eq.trans (by kernel_rfl) h0)
          have h2 : xv 2 = .int .i64 (LT.length : Int) := (H 2 (.edge (by kernel_rfl))).2
          have f25 : F.tmps.getD 25 undef = .int .i64 (LT.length : Int) := (hF 25).trans (Eq.trans (by kernel_rfl) h2)
          clear H hN hd hX hF
          refine on_plain rfl ?_
          go_simp
          exact hK.out _ _ rfl trivial (by simpa [upB, upd] using hI)
        refine EachF.cons 5 rfl (fun dn xv W F hF hd hN hX hI H K hK => ?_) ?_
        · have h3 : xv 3 = .bool false := (H 3 (.edge (by kernel_rfl))).2
          have f26 : F.tmps.getD 26 undef = .bool false := (hF 26).trans (Eq.trans (by kernel_rfl) h3)
          clear H hN hd hX hF
          refine on_plain rfl ?_
          go_simp
          exact hK.out _ _ rfl trivial (by simpa [upB, upd] using hI)
        refine EachF.cons 6 rfl (fun dn xv W F hF hd hN hX hI H K hK => ?_) ?_
        · have f7 : F.tmps.getD 7 undef = .int .u64 mm := (hF 7).trans (by kernel_rfl)
          have h4 : xv 4 = .bool false := (H 4 (.edge (by kernel_rfl))).2
          have f27 : F.tmps.getD 27 undef = .bool false := (hF 27).trans (Eq.trans (by kernel_rfl) h4)
          clear H hN hd hX hF
          refine on_guard rfl (by kernel_rfl) f27 ?_
          go_simp
          exact hK.out _ _ rfl trivial (by simpa [upB, upd] using hI)
        refine EachF.cons 7 rfl (fun dn xv W F hF hd hN hX hI H K hK => ?_) ?_
        · have f5 : F.tmps.getD 5 undef = .pointer (some ⟨w2.heap.size, 0, none⟩) := (hF 5).trans (by kernel_rfl)
          have h4 : xv 4 = .bool false := (H 4 (.edge (by kernel_rfl))).2
          have f27 : F.tmps.getD 27 undef = .bool false := (hF 27).trans (Eq.trans (by kernel_rfl) h4)
          clear H hN hd hX hF
          refine on_guard rfl (by kernel_rfl) f27 ?_
          go_simp
          exact hK.out _ _ rfl trivial (by simpa [upB, upd] using hI)
        refine EachF.cons 8 rfl (fun dn xv W F hF hd hN hX hI H K hK => ?_) ?_
        · have h6 : xv 6 = .pointer (some ⟨w2.heap.size, 0, none⟩) := (H 6 (.edge (by kernel_rfl))).2
          have f29 : F.tmps.getD 29 undef = .pointer (some ⟨w2.heap.size, 0, none⟩) := (hF 29).trans (Eq.trans (by kernel_rfl) h6)
          have h4 : xv 4 = .bool false := (H 4 (.edge (by kernel_rfl))).2
          have f27 : F.tmps.getD 27 undef = .bool false := (hF 27).trans (Eq.trans (by kernel_rfl) h4)
          have hc0 := (T3.out.below hI (by omega)).c0
          clear H hN hd hX hF
          refine on_guard rfl (by kernel_rfl) f27 ?_
          go_simp
          exact hK.out _ _ rfl trivial (by simpa [upB, upd] using hI)
        refine EachF.cons 9 rfl (fun dn xv W F hF hd hN hX hI H K hK => ?_) ?_
        · have f6 : F.tmps.getD 6 undef = .pointer (some ⟨w3.heap.size, 0, none⟩) := (hF 6).trans (by kernel_rfl)
          have h4 : xv 4 = .bool false := (H 4 (.edge (by kernel_rfl))).2
          have f27 : F.tmps.getD 27 undef = .bool false := (hF 27).trans (Eq.trans (by kernel_rfl) h4)
          have hc0 := (hI.cell (p := ⟨w3.heap.size, 0, none⟩) hlt6).trans T6.out.cell
          clear H hN hd hX hF
          refine on_guard rfl (by kernel_rfl) f27 ?_
          go_simp
          exact hK.out _ _ rfl trivial (by simpa [upB, upd] using hI)
        refine EachF.cons 10 rfl (fun dn xv W F hF hd hN hX hI H K hK => ?_) ?_
        · have h8 : xv 8 = .int .i64 (p : Int) := (H 8 (.edge (by kernel_rfl))).2
          have f31 : F.tmps.getD 31 undef = .int .i64 (p : Int) := (hF 31).trans (Eq.trans (by kernel_rfl) h8)
          have h4 : xv 4 = .bool false := (H 4 (.edge (by kernel_rfl))).2
          have f27 : F.tmps.getD 27 undef = .bool false := (hF 27).trans (Eq.trans (by kernel_rfl) h4)
          clear H hN hd hX hF
          refine on_guard rfl (by kernel_rfl) f27 ?_
          go_simp
          exact hK.out _ _ rfl trivial (by simpa [upB, upd] using hI)
        refine EachF.cons 11 rfl (fun dn xv W F hF hd hN hX hI H K hK => ?_) ?_
        · have h7 : xv 7 = .int .u64 (base : Int) := (H 7 (.edge (by kernel_rfl))).2
          have f30 : F.tmps.getD 30 undef = .int .u64 (base : Int) := (hF 30).trans (Eq.trans (by kernel_rfl) h7)
          have h9 : xv 9 = .int .u64 (p : Int) := (H 9 (.edge (by kernel_rfl))).2
          have f32 : F.tmps.getD 32 undef = .int .u64 (p : Int) := (hF 32).trans (Eq.trans (by kernel_rfl) h9)
          have h4 : xv 4 = .bool false := (H 4 (.edge (by kernel_rfl))).2
          have f27 : F.tmps.getD 27 undef = .bool false := (hF 27).trans (Eq.trans (by kernel_rfl) h4)
          clear H hN hd hX hF
          refine on_guard rfl (by kernel_rfl) f27 ?_
          go_simp
          exact hK.out _ _ rfl trivial (by simpa [upB, upd] using hI)
        refine EachF.cons 12 rfl (fun dn xv W F hF hd hN hX hI H K hK => ?_) ?_
        · have h10 : xv 10 = .int .u64 ((base : Int) + (p : Int)) := (H 10 (.edge (by kernel_rfl))).2
          have f33 : F.tmps.getD 33 undef = .int .u64 ((base : Int) + (p : Int)) := (hF 33).trans (Eq.trans (by kernel_rfl) h10)
          have h4 : xv 4 = .bool false := (H 4 (.edge (by kernel_rfl))).2
          have f27 : F.tmps.getD 27 undef = .bool false := (hF 27).trans (Eq.trans (by kernel_rfl) h4)
          clear H hN hd hX hF
          refine on_guard rfl (by kernel_rfl) f27 ?_
          go_simp
          exact hK.out _ _ rfl trivial (by simpa [upB, upd] using hI)
        refine EachF.cons 13 rfl (fun dn xv W F hF hd hN hX hI H K hK => ?_) ?_
        · have h5 : xv 5 = .int .u64 mm := (H 5 (.edge (by kernel_rfl))).2
          have f28 : F.tmps.getD 28 undef = .int .u64 mm := (hF 28).trans (Eq.trans (by kernel_rfl) h5)
          have h11 : xv 11 = .int .u64 ((base : Int) + (p : Int) + 1) := (H 11 (.edge (by kernel_rfl))).2
          have f34 : F.tmps.getD 34 undef = .int .u64 ((base : Int) + (p : Int) + 1) := (hF 34).trans (Eq.trans (by kernel_rfl) h11)
          have h4 : xv 4 = .bool false := (H 4 (.edge (by kernel_rfl))).2
          have f27 : F.tmps.getD 27 undef = .bool false := (hF 27).trans (Eq.trans (by kernel_rfl) h4)
          clear H hN hd hX hF
          refine on_guard rfl (by kernel_rfl) f27 ?_
          go_simp
          exact hK.out _ _ rfl trivial (by simpa [upB, upd] using hI)
        refine EachF.cons 14 rfl (fun dn xv W F hF hd hN hX hI H K hK => ?_) ?_
        · have h4 : xv 4 = .bool false := (H 4 (.edge (by kernel_rfl))).2
          have f27 : F.tmps.getD 27 undef = .bool false := (hF 27).trans (Eq.trans (by kernel_rfl) h4)
          have h12 : xv 12 = .bool false := (H 12 (.edge (by kernel_rfl))).2
          have f35 : F.tmps.getD 35 undef = .bool false := (hF 35).trans (Eq.trans (by kernel_rfl) h12)
          clear H hN hd hX hF
          refine on_plain rfl ?_
          go_simp
          exact hK.out _ _ rfl trivial (by simpa [upB, upd] using hI)
        refine EachF.cons 15 rfl (fun dn xv W F hF hd hN hX hI H K hK => ?_) ?_
        · have h13 : xv 13 = .bool false := (H 13 (.edge (by kernel_rfl))).2
          have f36 : F.tmps.getD 36 undef = .bool false := (hF 36).trans (Eq.trans (by kernel_rfl) h13)
          clear H hN hd hX hF
          refine on_plain rfl ?_
          go_simp
          exact hK.out _ _ rfl trivial (by simpa [upB, upd] using hI)
        refine EachF.cons 16 rfl (fun dn xv W F hF hd hN hX hI H K hK => ?_) ?_
        · have f8 : F.tmps.getD 8 undef = .slice Av l.length cv := (hF 8).trans (by kernel_rfl)
          have h14 : xv 14 = .bool false := (H 14 (.edge (by kernel_rfl))).2
          have f37 : F.tmps.getD 37 undef = .bool false := (hF 37).trans (Eq.trans (by kernel_rfl) h14)
          clear H hN hd hX hF
          refine on_guard rfl (by kernel_rfl) f37 ?_
          go_simp
          exact hK.out _ _ rfl trivial (by simpa [upB, upd] using hI)
        refine EachF.cons 17 rfl (fun dn xv W F hF hd hN hX hI H K hK => ?_) ?_
        · have h15 : xv 15 = .slice Av l.length cv := (H 15 (.edge (by kernel_rfl))).2
          have f38 : F.tmps.getD 38 undef = .slice Av l.length cv := (hF 38).trans (Eq.trans (by kernel_rfl) h15)
          have h14 : xv 14 = .bool false := (H 14 (.edge (by kernel_rfl))).2
          have f37 : F.tmps.getD 37 undef = .bool false := (hF 37).trans (Eq.trans (by kernel_rfl) h14)
          have e9 := run_str (c := cv) (HHV.out.below hI)
          clear H hN hd hX hF
          refine on_guard rfl (by kernel_rfl) f37 ?_
          go_simp
          exact hK.out _ _ rfl trivial (by simpa [upB, upd] using hI)
        refine EachF.cons 18 rfl (fun dn xv W F hF hd hN hX hI H K hK => ?_) ?_
        · have f5 : F.tmps.getD 5 undef = .pointer (some ⟨w2.heap.size, 0, none⟩) := (hF 5).trans (by kernel_rfl)
          have h14 : xv 14 = .bool false := (H 14 (.edge (by kernel_rfl))).2
          have f37 : F.tmps.getD 37 undef = .bool false := (hF 37).trans (Eq.trans (by kernel_rfl) h14)
          clear H hN hd hX hF
          refine on_guard rfl (by kernel_rfl) f37 ?_
          go_simp
          exact hK.out _ _ rfl trivial (by simpa [upB, upd] using hI)
        refine EachF.cons 19 rfl (fun dn xv W F hF hd hN hX hI H K hK => ?_) ?_
        · have h17 : xv 17 = .pointer (some ⟨w2.heap.size, 1, none⟩) := (H 17 (.edge (by kernel_rfl))).2
          have f40 : F.tmps.getD 40 undef = .pointer (some ⟨w2.heap.size, 1, none⟩) := (hF 40).trans (Eq.trans (by kernel_rfl) h17)
          have h14 : xv 14 = .bool false := (H 14 (.edge (by kernel_rfl))).2
          have f37 : F.tmps.getD 37 undef = .bool false := (hF 37).trans (Eq.trans (by kernel_rfl) h14)
          have hc1 := (T3.out.below hI (by omega)).c1
          clear H hN hd hX hF
          refine on_guard rfl (by kernel_rfl) f37 ?_
          go_simp
          exact hK.out _ _ rfl trivial (by simpa [upB, upd] using hI)
        refine EachF.cons 20 rfl (fun dn xv W F hF hd hN hX hI H K hK => ?_) ?_
        · have f6 : F.tmps.getD 6 undef = .pointer (some ⟨w3.heap.size, 0, none⟩) := (hF 6).trans (by kernel_rfl)
          have h14 : xv 14 = .bool false := (H 14 (.edge (by kernel_rfl))).2
          have f37 : F.tmps.getD 37 undef = .bool false := (hF 37).trans (Eq.trans (by kernel_rfl) h14)
          have hc0 := (hI.cell (p := ⟨w3.heap.size, 0, none⟩) hlt6).trans T6.out.cell
          clear H hN hd hX hF
          refine on_guard rfl (by kernel_rfl) f37 ?_
          go_simp
          exact hK.out _ _ rfl trivial (by simpa [upB, upd] using hI)
        refine EachF.cons 21 rfl (fun dn xv W F hF hd hN hX hI H K hK => ?_) ?_
        · have h18 : xv 18 = .slice (some ⟨b, o, none⟩) L.length co := (H 18 (.edge (by kernel_rfl))).2
          have f41 : F.tmps.getD 41 undef = .slice (some ⟨b, o, none⟩) L.length co := (hF 41).trans (Eq.trans (by kernel_rfl) h18)
          have h19 : xv 19 = .int .i64 (p : Int) := (H 19 (.edge (by kernel_rfl))).2
          have f42 : F.tmps.getD 42 undef = .int .i64 (p : Int) := (hF 42).trans (Eq.trans (by kernel_rfl) h19)
          have h14 : xv 14 = .bool false := (H 14 (.edge (by kernel_rfl))).2
          have f37 : F.tmps.getD 37 undef = .bool false := (hF 37).trans (Eq.trans (by kernel_rfl) h14)
          clear H hN hd hX hF
          refine on_guard rfl (by kernel_rfl) f37 ?_
          go_simp
          exact hK.out _ _ rfl trivial (by simpa [upB, upd] using hI)
        refine EachF.cons 22 rfl (fun dn xv W F hF hd hN hX hI H K hK => ?_) ?_
        · have h20 : xv 20 = .pointer (some ⟨b, o + p, none⟩) := (H 20 (.edge (by kernel_rfl))).2
          have f43 : F.tmps.getD 43 undef = .pointer (some ⟨b, o + p, none⟩) := (hF 43).trans (Eq.trans (by kernel_rfl) h20)
          have h14 : xv 14 = .bool false := (H 14 (.edge (by kernel_rfl))).2
          have f37 : F.tmps.getD 37 undef = .bool false := (hF 37).trans (Eq.trans (by kernel_rfl) h14)
          have hc1 := (hI.cell (p := ⟨b, o + p, none⟩) (show b < Wr.heap.size by omega)).trans hc
          clear H hN hd hX hF
          refine on_guard rfl (by kernel_rfl) f37 ?_
          go_simp
          exact hK.out _ _ rfl trivial (by simpa [upB, upd] using hI)
        refine EachF.cons 23 rfl (fun dn xv W F hF hd hN hX hI H K hK => ?_) ?_
        · have h21 : xv 21 = .slice Ap l.length cp := (H 21 (.edge (by kernel_rfl))).2
          have f44 : F.tmps.getD 44 undef = .slice Ap l.length cp := (hF 44).trans (Eq.trans (by kernel_rfl) h21)
          have h14 : xv 14 = .bool false := (H 14 (.edge (by kernel_rfl))).2
          have f37 : F.tmps.getD 37 undef = .bool false := (hF 37).trans (Eq.trans (by kernel_rfl) h14)
          have e9 := run_str (c := cp) (HH.out.below (hI.mono (by omega)))
          clear H hN hd hX hF
          refine on_guard rfl (by kernel_rfl) f37 ?_
          go_simp
          exact hK.out _ _ rfl trivial (by simpa [upB, upd] using hI)
        refine EachF.cons 24 rfl (fun dn xv W F hF hd hN hX hI H K hK => ?_) ?_
        · have h16 : xv 16 = .string ⟨l.toArray⟩ := (H 16 (.edge (by kernel_rfl))).2
          have f39 : F.tmps.getD 39 undef = .string ⟨l.toArray⟩ := (hF 39).trans (Eq.trans (by kernel_rfl) h16)
          have h22 : xv 22 = .string ⟨l.toArray⟩ := (H 22 (.edge (by kernel_rfl))).2
          have f45 : F.tmps.getD 45 undef = .string ⟨l.toArray⟩ := (hF 45).trans (Eq.trans (by kernel_rfl) h22)
          have h14 : xv 14 = .bool false := (H 14 (.edge (by kernel_rfl))).2
          have f37 : F.tmps.getD 37 undef = .bool false := (hF 37).trans (Eq.trans (by kernel_rfl) h14)
          clear H hN hd hX hF
          refine on_guard rfl (by kernel_rfl) f37 ?_
          go_simp
          exact hK.out _ _ rfl trivial (by simpa [upB, upd] using hI)
        refine EachF.cons 25 rfl (fun dn xv W F hF hd hN hX hI H K hK => ?_) ?_
        · have h14 : xv 14 = .bool false := (H 14 (.edge (by kernel_rfl))).2
          have f37 : F.tmps.getD 37 undef = .bool false := (hF 37).trans (Eq.trans (by kernel_rfl) h14)
          have h23 : xv 23 = .bool false := (H 23 (.edge (by kernel_rfl))).2
          have f46 : F.tmps.getD 46 undef = .bool false := (hF 46).trans (Eq.trans (by kernel_rfl) h23)
          clear H hN hd hX hF
          refine on_plain rfl ?_
          go_simp
          exact hK.out _ _ rfl trivial (by simpa [upB, upd] using hI)
        exact EachF.nil
      · intro dn xv W hI H
        have q24 : xv 24 = .bool false := (H 24 (of_decide_eq_true (by kernel_rfl))).2
        have hS : Below Wr.heap.size Wr W := hI
        clear H hI
        simp only [putAll, Act.put, List.setIfInBounds_toArray, List.set_cons_zero, List.set_cons_succ, Nat.reduceAdd, q24]
        clear q24
        have hR : Rd X Wr W := Rd.of_below hS hzr
        have ho : Own W X.heap.size (.slice Av l.length cv) l := own_below HV.out hS (Nat.le_refl _)
        clear hS e1 e2 x1 x2 x3
        gi_wp2
        gi_loopw [9] (fun i wr => ∃ (k : Nat) (l' : List UInt8), k ≤ l.length ∧ i = .int .i64 (k : Int) ∧ l'.length = l.length ∧ Own wr X.heap.size (.slice Av l.length cv) l' ∧ Rd X Wr wr) (fun i _ => l.length - (intOf i).toNat)
        case atStart => exact ⟨0, l, by omega, rfl, rfl, ho, hR⟩
        case round =>
          obtain ⟨k, l', hk, rfl, hl', ho', hR'⟩ := hrel
          by_cases hkl : k < l.length
          · obtain ⟨g, c9, e9, hg9, hc9, hf9⟩ := ho'.cell (k := k) (by omega)
            obtain ⟨rfl, -⟩ : Av = some ⟨g, 0, none⟩ ∧ cv = c9 := by simp only [Value.slice.injEq] at e9; exact ⟨e9.1, e9.2.2⟩
            have hput := ho'.put (g := g) rfl k (l'[k] + 1)
            obtain ⟨cur, hblk⟩ := ho'.block (g := g) rfl
            have hR2 := hR'.byte hg9 hblk k (.int .u8 ((l'[k] + 1).toNat : Int))
            have hinc := byte_inc' l'[k]
            have HE := Lib.hid (And.intro hput hR2)
            have HL' := Lib.hid hl'
            generalize l'[k] = x at hc9 HE hinc
            have HI := Lib.hid hinc
            clear hput hR2 ho' hR' hblk hl' hinc e9
            gi_wp2
            go_roundw
            case rel => exact ⟨k + 1, l'.set k (x + 1), by omega, by go_num, by rw [List.length_set]; exact HL'.out, by rw [HI.out]; exact HE.out.1, by rw [HI.out]; exact HE.out.2⟩
            case measure => simp [intOf]; omega
          · have n1 := (hR'.boxed T6.out (by omega)).cell
            have n2 := (hR'.boxed T6.out (by omega)).frozen
            have l1 := (hR'.boxed TL.out (by omega)).cell
            have HRR := Lib.hid hR'
            have NB := Lib.hid (hR'.boxed T6.out (by omega))
            have hp64 : p ≤ 34359738367 := by omega
            clear ho' hR' hl'
            by_cases hbr : ((p : Int) + 1) = leave
            · have eb : ((p : Int) + 1 == leave) = true := by simpa using hbr
              have HBR := Lib.hid hbr
              clear hbr
              gi_wp2
              refine ⟨HRR.out.keeps.trans (KeepsFrom.of_grownBy (grownBy_setCell' wr _ _) (fun j e => by cases e; omega)), ⟨?_, ?_⟩, rfl, by have := HBR.out; omega, by have := HBR.out; omega⟩
              · exact (T1.out.trans (HRR.out.below.mono (by omega))).setCell (by simp) _
              · have := NB.out.set (.int .i64 ((p : Int) + 1))
                rw [HBR.out] at this ⊢
                exact this
            · have eb : ((p : Int) + 1 == leave) = false := by simpa using hbr
              have HBR := Lib.hid hbr
              clear hbr
              gi_wp2
              refine ⟨HRR.out.keeps.trans (KeepsFrom.of_grownBy (grownBy_setCell' wr _ _) (fun j e => by cases e; omega)), ?_, ⟨?_, ?_⟩, ?_, ?_⟩
              · exact ⟨by have := HRR.out.below.size; simpa using this, fun k h1 h2 => (Below.heap_setCell _ _ _ _ (by simp; omega)).trans (HRR.out.below.block k h2)⟩
              · exact (T1.out.trans (HRR.out.below.mono (by omega))).setCell (by simp) _
              · rw [HPX.out]
                exact NB.out.set _
              · rw [HPX.out]
                omega
              · rw [HPX.out]
                exact Lib.hid fun j j1 j2 je => by
                  rcases Nat.lt_or_ge p j with hj | hj
                  · have : j = p + 1 := by omega
                    subst this
                    exact HBR.out (by rw [← je]; push_cast; rfl)
                  · exact HNL.out j j1 hj je
    case done =>
      rintro D xs Wd hD hS ⟨⟨i1, i2⟩, i3, HNL⟩ hK
      have hxl := hS.len (Nat.le_refl _)
      rw [hxl] at i2 HNL
      clear hS hxl i3
      have hbX2 : Below W2.heap.size X Wd := i1.mono (by omega)
      have hzd := i1.size
      have t1 := (TSX.out.below hbX2 (by omega)).c0
      have t2 := (TSX.out.below hbX2 (by omega)).c1
      have t3 := (TOX.out.below hbX2 (by omega)).c0
      have t4 := (TOX.out.below hbX2 (by omega)).c1
      have l1 : Boxed Wd (w.heap.size + 1) 3 (.int .i64 leave) := (hbX2.block _ (by omega)).trans LSX.out
      have l2 := l1.cell
      have n2 := i2.cell
      have XO := Lib.hid (XOX.out.below (i1.mono (by omega)))
      have XS := Lib.hid (XSX.out.below (i1.mono (by omega)))
      have hBd : Below w.heap.size w Wd := hBX.trans (i1.mono (by omega))
      have hbd := hBd.size
      go_wp2_with fail
      refine (dueR_any Wd w2.heap.size base Ao co L XO.out (by omega) hb (by omega)).mono ?_
      rintro e Wf ⟨rfl, hbf⟩
      rw [HDN.out]
      have hzf := hbf.size
      have t1 := (hbf.cell (p := ⟨w.heap.size, 0, none⟩) (show w.heap.size < Wd.heap.size by omega)).trans t1
      have t2 := (hbf.cell (p := ⟨w.heap.size, 1, none⟩) (show w.heap.size < Wd.heap.size by omega)).trans t2
      have t3 := (hbf.cell (p := ⟨w2.heap.size, 0, none⟩) (show w2.heap.size < Wd.heap.size by omega)).trans t3
      have t4 := (hbf.cell (p := ⟨w2.heap.size, 1, none⟩) (show w2.heap.size < Wd.heap.size by omega)).trans t4
      have l2 := (hbf.cell (p := ⟨w.heap.size + 1, 0, none⟩) (show w.heap.size + 1 < Wd.heap.size by omega)).trans l2
      have n2 := (hbf.cell (p := ⟨w3.heap.size, 0, none⟩) (show w3.heap.size < Wd.heap.size from i2.lt)).trans n2
      have hBf : Below w.heap.size w Wf := hBd.trans (hbf.mono hbd)
      have XOf := Lib.hid ((XO.out.below (hbf.mono (by omega))).more (show w2.heap.size ≤ Wf.heap.size by omega))
      have XSf := Lib.hid ((XS.out.below (hbf.mono hbd)).more hBf.size)
      have rf : Boxed Wf (w.heap.size + 1 + 1) 4 (.bool false) := (hbf.block _ (by omega)).trans ((hbX2.block _ (by omega)).trans RSX.out)
      have hKf := (hbf.block D (by have := (Array.getElem?_eq_some_iff.1 hK).1; omega)).trans hK
      by_cases hpos : 0 < leave
      · have hgt : (LT.length : Int) ≤ leave := by
          by_cases h : leave < (LT.length : Int)
          · exact (HNL.out leave.toNat (by omega) (by omega) (by omega)).elim
          · omega
        go_wp2_with fail
        refine (same_t Wf Wf.heap.size base A Ao c co L XSf.out XOf.out (Nat.le_refl _) (by omega)).mono ?_
        rintro e Wg ⟨rfl, hbg⟩
        go_wp2_with fail
        refine (awake_any Wg).mono ?_
        rintro e Wh ⟨rfl, hbh⟩
        have hbgh := hbg.trans (hbh.mono hbg.size)
        have rh : Boxed Wh (w.heap.size + 1 + 1) 4 (.bool false) := (hbgh.block _ (by omega)).trans rf
        have hKh := (hbgh.block D (by have := (Array.getElem?_eq_some_iff.1 hKf).1; omega)).trans hKf
        have hBh := hBf.trans (hbgh.mono hBf.size)
        have rc := rh.cell
        have rz := rh.frozen
        go_wp2_with fail
        have hK2 := (Below.heap_setCell Wh ⟨w.heap.size + 1 + 1, 0, none⟩ (.bool true) D (by simp; omega)).trans hKh
        refine ⟨by simp, .inl ⟨_, _, rfl, run_takeDeferred hK2, ?_⟩⟩
        have hc9 : ((Wh.setCell ⟨w.heap.size + 1 + 1, 0, none⟩ (.bool true)).putObj D (.deferred none)).cell? ⟨w.heap.size + 1 + 1, 0, none⟩ = some (.bool true) := (World.cell?_of_block (World.putObj_heap_other (by simp; omega))).trans (rh.set _).cell
        exact ⟨_, by simp [results, Try.results4, go_sem, hc9], rfl, (hBh.setCell (by simp; omega) _).trans (belowK_b (w := w) (Nat.le_refl _) _ D _ _ (by omega) hK2 rfl rfl)⟩
      · have hpos2 : decide (0 < leave) = false := decide_eq_false hpos
        go_wp2_with fail
        refine (same_t Wf Wf.heap.size base A Ao c co L XSf.out XOf.out (Nat.le_refl _) (by omega)).mono ?_
        rintro e Wg ⟨rfl, hbg⟩
        go_wp2_with fail
        refine (awake_any Wg).mono ?_
        rintro e Wh ⟨rfl, hbh⟩
        have hbgh := hbg.trans (hbh.mono hbg.size)
        have rh : Boxed Wh (w.heap.size + 1 + 1) 4 (.bool false) := (hbgh.block _ (by omega)).trans rf
        have hKh := (hbgh.block D (by have := (Array.getElem?_eq_some_iff.1 hKf).1; omega)).trans hKf
        have hBh := hBf.trans (hbgh.mono hBf.size)
        have rc := rh.cell
        have rz := rh.frozen
        go_wp2_with fail
        have hK2 := (Below.heap_setCell Wh ⟨w.heap.size + 1 + 1, 0, none⟩ (.bool true) D (by simp; omega)).trans hKh
        refine ⟨by simp, .inl ⟨_, _, rfl, run_takeDeferred hK2, ?_⟩⟩
        have hc9 : ((Wh.setCell ⟨w.heap.size + 1 + 1, 0, none⟩ (.bool true)).putObj D (.deferred none)).cell? ⟨w.heap.size + 1 + 1, 0, none⟩ = some (.bool true) := (World.cell?_of_block (World.putObj_heap_other (by simp; omega))).trans (rh.set _).cell
        exact ⟨_, by simp [results, Try.results4, go_sem, hc9], rfl, (hBh.setCell (by simp; omega) _).trans (belowK_b (w := w) (Nat.le_refl _) _ D _ _ (by omega) hK2 rfl rfl)⟩
    case stop =>
      rintro D cx pre Wd hD _ ⟨⟨i1, i2⟩, rfl, g1, g2⟩ hK
      refine wpIn_exit ?_
      have hbX2 : Below W2.heap.size X Wd := i1.mono (by omega)
      have hzd := i1.size
      have t1 := (TSX.out.below hbX2 (by omega)).c0
      have t2 := (TSX.out.below hbX2 (by omega)).c1
      have t3 := (TOX.out.below hbX2 (by omega)).c0
      have t4 := (TOX.out.below hbX2 (by omega)).c1
      have l1 : Boxed Wd (w.heap.size + 1) 3 (.int .i64 leave) := (hbX2.block _ (by omega)).trans LSX.out
      have l2 := l1.cell
      have n2 := i2.cell
      have XO := Lib.hid (XOX.out.below (i1.mono (by omega)))
      have XS := Lib.hid (XSX.out.below (i1.mono (by omega)))
      have hBd : Below w.heap.size w Wd := hBX.trans (i1.mono (by omega))
      have hbd := hBd.size
      go_wp2_with fail
      refine (dueR_any Wd w2.heap.size base Ao co L XO.out (by omega) hb (by omega)).mono ?_
      rintro e Wf ⟨rfl, hbf⟩
      rw [HDN.out]
      have hzf := hbf.size
      have t1 := (hbf.cell (p := ⟨w.heap.size, 0, none⟩) (show w.heap.size < Wd.heap.size by omega)).trans t1
      have t2 := (hbf.cell (p := ⟨w.heap.size, 1, none⟩) (show w.heap.size < Wd.heap.size by omega)).trans t2
      have t3 := (hbf.cell (p := ⟨w2.heap.size, 0, none⟩) (show w2.heap.size < Wd.heap.size by omega)).trans t3
      have t4 := (hbf.cell (p := ⟨w2.heap.size, 1, none⟩) (show w2.heap.size < Wd.heap.size by omega)).trans t4
      have l2 := (hbf.cell (p := ⟨w.heap.size + 1, 0, none⟩) (show w.heap.size + 1 < Wd.heap.size by omega)).trans l2
      have n2 := (hbf.cell (p := ⟨w3.heap.size, 0, none⟩) (show w3.heap.size < Wd.heap.size from i2.lt)).trans n2
      have hBf : Below w.heap.size w Wf := hBd.trans (hbf.mono hbd)
      have XOf := Lib.hid ((XO.out.below (hbf.mono (by omega))).more (show w2.heap.size ≤ Wf.heap.size by omega))
      have XSf := Lib.hid ((XS.out.below (hbf.mono hbd)).more hBf.size)
      have rf : Boxed Wf (w.heap.size + 1 + 1) 4 (.bool false) := (hbf.block _ (by omega)).trans ((hbX2.block _ (by omega)).trans RSX.out)
      have hKf := (hbf.block D (by have := (Array.getElem?_eq_some_iff.1 hK).1; omega)).trans hK
      have hpos : 0 < leave := by omega
      by_cases heq : leave = (LT.length : Int)
      · subst heq
        go_wp2_with fail
        refine (same_t Wf Wf.heap.size base A Ao c co L XSf.out XOf.out (Nat.le_refl _) (by omega)).mono ?_
        rintro e Wg ⟨rfl, hbg⟩
        go_wp2_with fail
        refine (awake_any Wg).mono ?_
        rintro e Wh ⟨rfl, hbh⟩
        have hbgh := hbg.trans (hbh.mono hbg.size)
        have rh : Boxed Wh (w.heap.size + 1 + 1) 4 (.bool false) := (hbgh.block _ (by omega)).trans rf
        have hKh := (hbgh.block D (by have := (Array.getElem?_eq_some_iff.1 hKf).1; omega)).trans hKf
        have hBh := hBf.trans (hbgh.mono hBf.size)
        have rc := rh.cell
        have rz := rh.frozen
        go_wp2_with fail
        have hK2 := (Below.heap_setCell Wh ⟨w.heap.size + 1 + 1, 0, none⟩ (.bool true) D (by simp; omega)).trans hKh
        refine ⟨by simp, .inl ⟨_, _, rfl, run_takeDeferred hK2, ?_⟩⟩
        have hc9 : ((Wh.setCell ⟨w.heap.size + 1 + 1, 0, none⟩ (.bool true)).putObj D (.deferred none)).cell? ⟨w.heap.size + 1 + 1, 0, none⟩ = some (.bool true) := (World.cell?_of_block (World.putObj_heap_other (by simp; omega))).trans (rh.set _).cell
        exact ⟨_, by simp [results, Try.results4, go_sem, hc9], rfl, (hBh.setCell (by simp; omega) _).trans (belowK_b (w := w) (Nat.le_refl _) _ D _ _ (by omega) hK2 rfl rfl)⟩
      · have hlt2 : leave < (LT.length : Int) := by omega
        go_wp2_with fail
        refine (same_t Wf Wf.heap.size base A Ao c co L XSf.out XOf.out (Nat.le_refl _) (by omega)).mono ?_
        rintro e Wg ⟨rfl, hbg⟩
        go_wp2_with fail
        refine (awake_any Wg).mono ?_
        rintro e Wh ⟨rfl, hbh⟩
        have hbgh := hbg.trans (hbh.mono hbg.size)
        have rh : Boxed Wh (w.heap.size + 1 + 1) 4 (.bool false) := (hbgh.block _ (by omega)).trans rf
        have hKh := (hbgh.block D (by have := (Array.getElem?_eq_some_iff.1 hKf).1; omega)).trans hKf
        have hBh := hBf.trans (hbgh.mono hBf.size)
        have rc := rh.cell
        have rz := rh.frozen
        go_wp2_with fail
        have hK2 := (Below.heap_setCell Wh ⟨w.heap.size + 1 + 1, 0, none⟩ (.bool true) D (by simp; omega)).trans hKh
        refine ⟨by simp, .inl ⟨_, _, rfl, run_takeDeferred hK2, ?_⟩⟩
        have hc9 : ((Wh.setCell ⟨w.heap.size + 1 + 1, 0, none⟩ (.bool true)).putObj D (.deferred none)).cell? ⟨w.heap.size + 1 + 1, 0, none⟩ = some (.bool true) := (World.cell?_of_block (World.putObj_heap_other (by simp; omega))).trans (rh.set _).cell
        exact ⟨_, by simp [results, Try.results4, go_sem, hc9], rfl, (hBh.setCell (by simp; omega) _).trans (belowK_b (w := w) (Nat.le_refl _) _ D _ _ (by omega) hK2 rfl rfl)⟩
end Go.Proofs.Ytmjlehofjholaaa
