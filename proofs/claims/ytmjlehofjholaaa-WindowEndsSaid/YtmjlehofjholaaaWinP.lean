/- WindowPushes: the statement's walk. -/
import Derived.Test.YtmjlehofjholaaaWinK
import Derived.Test.YtmjlehofjholaaaWinQ
import Derived.Lib.ConvBytes
namespace Go.Proofs.Ytmjlehofjholaaa
open Go Go.RowKit Go.Shelf
set_option linter.unusedVariables false
set_option maxRecDepth 100000
attribute [local go_sem] Oper.semAt_some

theorem size_str (m : List UInt8) : (⟨m.toArray⟩ : ByteArray).size = m.length := by simp [ByteArray.size]
/-- bytes made of a string -/
theorem run_bytes (w : World) (l : List UInt8) : ∃ w2 c, (convert 9 26 (.string ⟨l.toArray⟩)).run Try.prog w = .ok (.slice (some ⟨w.heap.size, 0, none⟩) l.length c) w2 ∧ Below w.heap.size w w2 ∧ Has w2 w2.heap.size (some ⟨w.heap.size, 0, none⟩) (us l) := by
  have hsz := size_str l
  refine ⟨Lib.bytesWorld w 5 ⟨l.toArray⟩, grownCap w l.length 0 5, ?_, ⟨rfl, rfl, rfl, ?_, fun k hk => Lib.bytesWorld_at_old w _ _ k hk⟩, fun j u hu => ⟨w.heap.size, 0, rfl, ?_, ?_⟩⟩
  · rw [Lib.run_convert_string_bytes w 9 26 5 ⟨l.toArray⟩ Try.underlying9 Try.underlying26 Try.underlying5, hsz]
  · rw [Lib.bytesWorld_size]; omega
  · rw [Lib.bytesWorld_size]; omega
  · have hj : j < l.length := by
      rcases Nat.lt_or_ge j l.length with h1 | h1
      · exact h1
      · rw [List.getElem?_eq_none (by rw [us_length]; exact h1)] at hu; cases hu
    rw [us_at hj] at hu
    rw [Nat.zero_add, Lib.bytesWorld_cell _ _ _ _ (by rw [hsz]; exact hj), ← hu]
    simp [hj]

def pushBase (base : Nat) (L : List (List UInt8)) (l : List UInt8) : Nat := if pushE base L l = 0 then base else 0
def pushL (base : Nat) (L : List (List UInt8)) (l : List UInt8) : List (List UInt8) := if pushE base L l = 0 then L ++ [l] else []
theorem push_flat {w : World} {base : Nat} {L : List (List UInt8)} {l : List UInt8} {e : Ending} {w' : World} (h : PushPost w base L l e w') :
    Below w.heap.size w w' ∧ ∃ v, e = .returned (.tuple #[.agg #[.int .u64 (pushBase base L l : Int), v], .int .i64 (pushE base L l : Int)]) ∧ OwnB w' w.heap.size v (pushL base L l) := by
  obtain ⟨hb, ⟨h0, rfl⟩ | ⟨h0, v, rfl, ho⟩⟩ := h
  · refine ⟨hb, .slice none 0 0, ?_, ?_⟩
    · simp [pushBase, h0]
    · simp only [pushL, if_neg h0]
      exact OwnB.nil _ _
  · refine ⟨hb, v, ?_, ?_⟩
    · simp [pushBase, h0]
    · simp only [pushL, if_pos h0]
      exact ho
theorem pushL_fit {base : Nat} {L : List (List UInt8)} {l : List UInt8} (h : Fit L) (h2 : L.length ≤ 10000) (hl : l.length ≤ 1000000) : Fit (pushL base L l) := by
  unfold pushL
  split
  · refine ⟨by simp; omega, fun x hx => ?_⟩
    rcases List.mem_append.1 hx with hx | hx
    · exact h.2 x hx
    · simp at hx; subst hx; exact hl
  · exact ⟨by simp, by simp⟩
theorem long_len {L : List (List UInt8)} (h : longB L = false) : L.length ≤ 10000 := by
  have h1 : ¬ 2000 < lsum L := by simpa [longB] using h
  have h2 := lsum_len L
  omega
theorem OwnB.other {w : World} {base g i : Nat} {v x y : Value} {L : List (List UInt8)} (h : OwnB w base v L) (ht : Two w g x y) (z : Value) : OwnB (w.setCell ⟨g, i, none⟩ z) base v L := by
  obtain ⟨vs, h1, h2, h3⟩ := h
  have key : ∀ (k : Nat) (cur : Array Value) (t : TypeId), t ≠ 25 → w.heap[k]? = some (Obj.cells cur t (0, 0)) → (w.setCell ⟨g, i, none⟩ z).heap[k]? = w.heap[k]? := fun k cur t hne hk => by
    refine Below.heap_setCell w ⟨g, i, none⟩ z k ?_
    intro e
    have e' : k = g := e
    rw [e'] at hk
    unfold Two at ht
    rw [ht] at hk
    simp at hk
    exact hne hk.2.symm
  refine ⟨vs, h1, row_keep h2 fun k hk => ?_, fun j u l hu hl => ⟨row_keep (h3 j u l hu hl).1 fun k hk => ?_, (h3 j u l hu hl).2⟩⟩
  · rcases h2.2 with ⟨rfl, _⟩ | ⟨g', cap, cur, rfl, p1, p2, _⟩
    · cases hk
    · obtain rfl : g' = k := by simpa [Value.ownBlock] using hk
      exact key _ cur 26 (by decide) p2
  · obtain ⟨cur, hb⟩ := (h3 j u l hu hl).1.block hk
    exact key _ cur 5 (by decide) hb

/-- 'was, text := Own(s), string(body)': how far it has come -/
def PI (W0 : World) (base : Nat) (L : List (List UInt8)) (d1 : Bool) (x1 : Value) (d4 : Bool) (x4 : Value) (d5 : Bool) (W : World) : Prop :=
  Below W0.heap.size W0 W ∧ (d1 = true → ∃ v, x1 = .agg #[.int .u64 (base : Int), v] ∧ OwnB W W0.heap.size v L) ∧
    (d4 = true → ∃ g, x4 = .pointer (some ⟨g, 0, none⟩) ∧ W0.heap.size ≤ g ∧ g < W.heap.size ∧ ∃ a b, Two W g a b ∧ (d5 = true → x1 = .agg #[a, b]))
theorem PI.call {W0 : World} {base : Nat} {L : List (List UInt8)} {x1 : Value} {d4 : Bool} {x4 : Value} {W W' : World} {v : Value} (h : PI W0 base L false x1 d4 x4 false W) (hb : Below W.heap.size W W') (ho : OwnB W' W.heap.size v L) :
    PI W0 base L true (.agg #[.int .u64 (base : Int), v]) d4 x4 false W' := by
  refine ⟨h.1.trans (hb.mono h.1.size), fun _ => ⟨v, rfl, ho.mono h.1.size⟩, fun hd => ?_⟩
  obtain ⟨g, e, h1, h2, a, b, h3, h4⟩ := h.2.2 hd
  exact ⟨g, e, h1, Nat.lt_of_lt_of_le h2 hb.size, a, b, h3.below hb h2, fun h => by cases h⟩
theorem PI.alloc {W0 : World} {base : Nat} {L : List (List UInt8)} {d1 : Bool} {x1 x4 : Value} {W : World} (h : PI W0 base L d1 x1 false x4 false W) :
    PI W0 base L d1 x1 true (.pointer (some ⟨W.heap.size, 0, none⟩)) false (W.alloc (.cells #[.int .u64 0, .slice none 0 0] 25)) := by
  have hb : Below W.heap.size W (W.alloc (.cells #[.int .u64 0, .slice none 0 0] 25)) := (Below.refl _ _).alloc (Nat.le_refl _) _
  refine ⟨h.1.trans (hb.mono h.1.size), fun hd => ?_, fun _ => ⟨_, rfl, h.1.size, by simp, _, _, Two.new W _ _, fun h => by cases h⟩⟩
  obtain ⟨v, e, ho⟩ := h.2.1 hd
  exact ⟨v, e, ho.below hb⟩
theorem PI.store {W0 : World} {base : Nat} {L : List (List UInt8)} {x1 v : Value} {g : Nat} {W : World} (h : PI W0 base L true (.agg #[.int .u64 (base : Int), v]) true (.pointer (some ⟨g, 0, none⟩)) false W) :
    PI W0 base L true (.agg #[.int .u64 (base : Int), v]) true (.pointer (some ⟨g, 0, none⟩)) true ((W.setCell ⟨g, 0, none⟩ (.int .u64 (base : Int))).setCell ⟨g, 1, none⟩ v) := by
  obtain ⟨v', e, ho⟩ := h.2.1 rfl
  obtain rfl : v = v' := by simpa using e
  obtain ⟨g', e', h1, h2, a, b, h3, _⟩ := h.2.2 rfl
  obtain rfl : g = g' := by simpa using e'
  refine ⟨(h.1.setCell h1 _).setCell h1 _, fun _ => ⟨v, rfl, (ho.other h3 _).other (h3.set0 _) _⟩, fun _ => ⟨g, rfl, h1, by simpa using h2, _, _, (h3.set0 _).set1 _, fun _ => rfl⟩⟩

set_option maxHeartbeats 2000000 in
theorem windowPushes_walk (w : World) (base : Nat) (A : Option Addr) (c : Nat) (L : List (List UInt8)) (A1 : Option Addr) (c1 : Nat) (l : List UInt8) (hb : base < 18446744073709551616) (hcc : L.length ≤ c) (hcm : c ≤ maxLen) (hr : L.length ≤ 140737488355328) (h : Bx w w.heap.size A L)
    (hcc1 : l.length ≤ c1) (hcm1 : c1 ≤ maxLen) (hr1 : l.length ≤ 140737488355328) (h1 : Has w w.heap.size A1 (us l)) :
    Calls Try.prog 3 #[.agg #[.int .u64 (base : Int), .slice A L.length c], .slice A1 l.length c1] w fun e w' => e = .returned (.bool true) ∧ Below w.heap.size w w' := by
  obtain ⟨W, HW⟩ : ∃ W, Hid (W = w.alloc (.cells #[.int .u64 (base : Int), .slice A L.length c] 25)) := ⟨_, Lib.hid rfl⟩
  obtain ⟨hbW, hzW, tW⟩ := two_new HW.out
  have hzW := Nat.le_of_eq hzW.symm
  have HX := Lib.hid (h.below hbW)
  have HB := Lib.hid (h1.below hbW)
  have k0 := tW.c0
  have k1 := tW.c1
  clear h h1
  by_cases hlong : longB L = true
  · have HL := Lib.hid hlong
    clear hlong
    go_enter Try.func3, Try.ntmps3
    go_wp2_with fail
    rw [← HW.out]
    refine (long_t W w.heap.size base A c L HX.out hbW.size (by omega) HL.out).mono ?_
    rintro e w1 ⟨rfl, hb1⟩
    go_wp2_with fail
    refine (awake_any w1).mono ?_
    rintro e w2 ⟨rfl, hb2⟩
    go_wp2_with fail
    go_ret
    have hB1 := hbW.trans (hb1.mono hbW.size)
    exact ⟨rfl, hB1.trans (hb2.mono hB1.size)⟩
  · have hl2 : longB L = false := by simpa using hlong
    have HL := Lib.hid hl2
    have HF := Lib.hid (long_fit hl2)
    have hlen := long_len hl2
    clear hlong hl2
    by_cases h65 : 65536 < l.length
    · have e65 : decide ((65536 : Int) < (l.length : Int)) = true := decide_eq_true (by omega)
      go_enter Try.func3, Try.ntmps3
      go_wp2_with fail
      rw [← HW.out]
      refine (long_f W w.heap.size base A c L HX.out hbW.size (by omega) HL.out).mono ?_
      rintro e w1 ⟨rfl, hb1⟩
      go_wp2_with fail
      refine (awake_any w1).mono ?_
      rintro e w2 ⟨rfl, hb2⟩
      go_wp2_with fail
      go_ret
      have hB1 := hbW.trans (hb1.mono hbW.size)
      exact ⟨rfl, hB1.trans (hb2.mono hB1.size)⟩
    have e65 : decide ((65536 : Int) < (l.length : Int)) = false := decide_eq_false (by omega)
    have hl6 : l.length ≤ 65536 := by omega
    clear h65
    obtain ⟨bp, HBP⟩ : ∃ b, Hid (pushBase base L l = b) := ⟨_, Lib.hid rfl⟩
    obtain ⟨Lp, HLP⟩ : ∃ b, Hid (pushL base L l = b) := ⟨_, Lib.hid rfl⟩
    obtain ⟨ep, HEP⟩ : ∃ b, Hid (pushE base L l = b) := ⟨_, Lib.hid rfl⟩
    have HFP : Hid (Fit Lp) := Lib.hid (by rw [← HLP.out]; exact pushL_fit HF.out hlen (by omega))
    have hLp := HFP.out.1
    go_enter Try.func3, Try.ntmps3
    go_wp2_with fail
    rw [← HW.out]
    refine (long_f W w.heap.size base A c L HX.out hbW.size (by omega) HL.out).mono ?_
    rintro e w1 ⟨rfl, hb1⟩
    have hB1 : Below w.heap.size w w1 := hbW.trans (hb1.mono hbW.size)
    have HX1 := Lib.hid (HX.out.below (hb1.mono hbW.size))
    have HB1 := Lib.hid (HB.out.below (hb1.mono hbW.size))
    have hz1 := hb1.size
    have hz10 := hB1.size
    have T1 := Lib.hid (tW.below hb1 (by omega))
    have k0 := T1.out.c0
    have k1 := T1.out.c1
    clear tW HX HB
    go_wp2_with fail
    clear k0 k1
    refine wp_region_f (fun dn xv W => PI w1 base L (dn 1) (xv 1) (dn 4) (xv 4) (dn 5) W) (fun _ _ => True) [fun v _ => v = .agg #[.int .u64 (base : Int), .slice A L.length c], fun v _ => ∃ A c, v = .agg #[.int .u64 (base : Int), .slice A L.length c], fun v _ => v = .slice A1 l.length c1, fun v _ => v = .string ⟨l.toArray⟩, fun v _ => True, fun v _ => True, fun v _ => v = .string ⟨l.toArray⟩] (by kernel_rfl) (by kernel_rfl) (by kernel_rfl) (by kernel_rfl) (fun xv => by simpa using (show PI w1 base L false (xv 1) false (xv 4) false w1.drew from ⟨(Below.refl _ w1).drew, (fun h => by cases h), (fun h => by cases h)⟩))
      (by exact ⟨fun _ _ _ _ h => h, fun _ _ _ _ h => h, fun _ _ _ _ h => h, fun _ _ _ _ h => h, fun _ _ _ _ h => h, fun _ _ _ _ h => h, fun _ _ _ _ h => h, trivial⟩) ?_ ?_
    · refine EachF.cons 1 rfl (fun dn xv W F hF hd hN hX hI H K hK => ?_) ?_
      · have f2 : F.tmps.getD 2 undef = .pointer (some ⟨w.heap.size, 0, none⟩) := (hF 2).trans (by kernel_rfl)
        have hc0 := (T1.out.below hI.1 (by omega)).c0
        have hc1 := (T1.out.below hI.1 (by omega)).c1
        clear H hN hd hX hF
        refine on_plain rfl ?_
        go_simp
        exact hK.out _ _ rfl trivial (by simpa [upB, upd] using hI)
      refine EachF.cons 2 rfl (fun dn xv W F hF hd hN hX hI H K hK => ?_) ?_
      · have h0 : xv 0 = .agg #[.int .u64 (base : Int), .slice A L.length c] := (H 0 (.edge (by kernel_rfl))).2
        have f19 : F.tmps.getD 19 undef = .agg #[.int .u64 (base : Int), .slice A L.length c] := (hF 19).trans (Eq.trans (by kernel_rfl) h0)
        have h5 := hN 5 (.edge (by kernel_rfl))
        rw [hd, h5] at hI
        clear H hN hd hX hF
        refine on_plain rfl ?_
        go_simp
        refine (ownR_any W base A c L ((HX1.out.below (hI.1.mono hz10)).more (Nat.le_trans hz10 hI.1.size)) HF.out).mono ?_
        rintro e W' ⟨v, rfl, ho, hb⟩
        have hs := hI.call hb ho
        obtain ⟨A2, c2, e2, _⟩ := ho.form HF.out.all
        exact hK.out _ W' ⟨A2, c2, by rw [e2]⟩ trivial (by simpa [upB, upd, h5] using hs)
      refine EachF.cons 3 rfl (fun dn xv W F hF hd hN hX hI H K hK => ?_) ?_
      · have f1 : F.tmps.getD 1 undef = .slice A1 l.length c1 := (hF 1).trans (by kernel_rfl)
        clear H hN hd hX hF
        refine on_plain rfl ?_
        go_simp
        exact hK.out _ _ rfl trivial (by simpa [upB, upd] using hI)
      refine EachF.cons 4 rfl (fun dn xv W F hF hd hN hX hI H K hK => ?_) ?_
      · have h2 : xv 2 = .slice A1 l.length c1 := (H 2 (.edge (by kernel_rfl))).2
        have f21 : F.tmps.getD 21 undef = .slice A1 l.length c1 := (hF 21).trans (Eq.trans (by kernel_rfl) h2)
        have e2 := run_str (c := c1) (HB1.out.below (hI.1.mono hz10))
        clear H hN hd hX hF
        refine on_plain rfl ?_
        go_simp
        exact hK.out _ _ rfl trivial (by simpa [upB, upd] using hI)
      refine EachF.cons 5 rfl (fun dn xv W F hF hd hN hX hI H K hK => ?_) ?_
      · have h5 := hN 5 (.edge (by kernel_rfl))
        rw [hd, h5] at hI
        clear H hN hd hX hF
        refine on_plain rfl ?_
        go_simp
        have hs := hI.alloc
        exact hK.out _ _ trivial trivial (by simpa [upB, upd, h5] using hs)
      refine EachF.cons 6 rfl (fun dn xv W F hF hd hN hX hI H K hK => ?_) ?_
      · have h4 := (H 4 (.edge (by kernel_rfl))).2
        simp only [Dl] at h4
        have f5 : F.tmps.getD 5 undef = xv 4 := (hF 5).trans (by kernel_rfl)
        have h1 := (H 1 (.edge (by kernel_rfl))).2
        simp only [Dl] at h1
        have f20 : F.tmps.getD 20 undef = xv 1 := (hF 20).trans (by kernel_rfl)
        have d1 : dn 1 = true := (H 1 (.edge (by kernel_rfl))).1
        have d4 : dn 4 = true := (H 4 (.edge (by kernel_rfl))).1
        rw [hd, d1, d4] at hI
        obtain ⟨A2, c2, e1⟩ := h1
        obtain ⟨g, e4, g1, g2, a, b, t, _⟩ := hI.2.2 rfl
        have f20x := f20.trans e1
        have f5x := f5.trans e4
        have hI2 := hI
        rw [e1, e4] at hI2
        have hs := hI2.store (x1 := undef)
        have hc0 := t.c0
        have hc1 := t.c1
        have hf0 := t.f0
        have hf1 := t.f1
        clear f20 f5
        clear H hN hd hX hF
        refine on_plain rfl ?_
        go_simp
        exact hK.out undef _ trivial trivial (by simpa [upB, upd, d1, d4, e1, e4] using hs)
      refine EachF.cons 7 rfl (fun dn xv W F hF hd hN hX hI H K hK => ?_) ?_
      · have h3 : xv 3 = .string ⟨l.toArray⟩ := (H 3 (.edge (by kernel_rfl))).2
        have f22 : F.tmps.getD 22 undef = .string ⟨l.toArray⟩ := (hF 22).trans (Eq.trans (by kernel_rfl) h3)
        clear H hN hd hX hF
        refine on_plain rfl ?_
        go_simp
        exact hK.out _ _ rfl trivial (by simpa [upB, upd] using hI)
      exact EachF.nil
    · intro dn xv W hI H
      have q6 : xv 6 = .string ⟨l.toArray⟩ := (H 6 (of_decide_eq_true (by kernel_rfl))).2
      have hS : PI w1 base L (dn 1) (xv 1) (dn 4) (xv 4) (dn 5) W := hI
      rw [(H 1 (of_decide_eq_true (by kernel_rfl))).1, (H 4 (of_decide_eq_true (by kernel_rfl))).1, (H 5 (of_decide_eq_true (by kernel_rfl))).1] at hS
      clear H hI
      simp only [putAll, Act.put, List.setIfInBounds_toArray, List.set_cons_zero, List.set_cons_succ, Nat.reduceAdd, q6]
      clear q6
      obtain ⟨hbS, hS1, hS2⟩ := hS
      obtain ⟨v, ex1, ho2⟩ := hS1 rfl
      obtain ⟨go, ex4, hg1, hg2, a, b, t2, hab⟩ := hS2 rfl
      have hab := hab rfl
      rw [ex1] at hab
      obtain ⟨rfl, rfl⟩ : .int .u64 (base : Int) = a ∧ v = b := by simpa using hab
      obtain ⟨Ao, co, rfl, p1, p2, hx2⟩ := ho2.form HF.out.all
      simp only [ex1, ex4]
      clear ex1 ex4 hab
      have TS := Lib.hid (T1.out.below hbS (by omega))
      have hzS := hbS.size
      have XS := Lib.hid (HX1.out.below (hbS.mono hz10))
      have BS := Lib.hid (HB1.out.below (hbS.mono hz10))
      have hBW : Below w.heap.size w W := hB1.trans (hbS.mono hz10)
      have TO := Lib.hid t2
      have XO := Lib.hid hx2
      have k0 := TS.out.c0
      have k1 := TS.out.c1
      clear t2 hx2 ho2 T1 HX1 HB1 hS1 hS2 hbS
      go_wp2_with fail
      refine (push_any W base A c L A1 c1 l (XS.out.more hBW.size) (BS.out.more hBW.size) hb HF.out (by omega)).mono ?_
      rintro e w3 hp
      obtain ⟨hb3, v3, rfl, ho3⟩ := push_flat hp
      rw [HLP.out] at ho3
      rw [HBP.out, HEP.out]
      obtain ⟨A3, c3, rfl, p3, p4, hx3⟩ := ho3.form HFP.out.all
      have hz3 := hb3.size
      obtain ⟨W3, HW3⟩ : ∃ W, Hid (W = w3.alloc (.cells #[.int .u64 (bp : Int), .slice A3 Lp.length c3] 25)) := ⟨_, Lib.hid rfl⟩
      obtain ⟨hbW3, hzW3, t3⟩ := two_new HW3.out
      have HZ3 := Lib.hid hzW3
      have hzW3 := Nat.le_of_eq hzW3.symm
      obtain ⟨w4, c4, hcv, hb4, hh4⟩ := run_bytes W3 l
      rw [HW3.out] at hcv
      rw [HZ3.out] at hh4
      have hb23 : Below W.heap.size W W3 := hb3.trans (hbW3.mono hb3.size)
      have hb34 : Below W3.heap.size W3 w4 := hb4
      have TT := Lib.hid (t3.below hb4 (by omega))
      have OT := Lib.hid ((ho3.below hbW3).below hb4)
      have hz4 := hb4.size
      have hb24 : Below W.heap.size W w4 := hb23.trans (hb4.mono hb23.size)
      have k0 := (TO.out.below hb3 hg2).c0
      have k1 := (TO.out.below hb3 hg2).c1
      have XO4 := Lib.hid (XO.out.below hb24)
      have HH4 := Lib.hid hh4
      have hn1 : go < w3.heap.size := by omega
      clear t3 hx3 ho3 hb3 hp hh4 hb4 hzW3
      go_wp2_with fail
      refine (pushR_any w4 base Ao co L (some ⟨w3.heap.size + 1, 0, none⟩) c4 l (XO4.out.more (by omega)) HH4.out hb HF.out (by omega)).mono ?_
      rintro e w5 hp
      obtain ⟨hb5, v5, rfl, ho5⟩ := push_flat hp
      rw [HLP.out] at ho5
      rw [HBP.out, HEP.out]
      obtain ⟨A5, c5, rfl, p5, p6, hx5⟩ := ho5.form HFP.out.all
      have hz5 := hb5.size
      obtain ⟨W5, HW5⟩ : ∃ W, Hid (W = w5.alloc (.cells #[.int .u64 (bp : Int), .slice A5 Lp.length c5] 25)) := ⟨_, Lib.hid rfl⟩
      obtain ⟨hbW5, hzW5, t5⟩ := two_new HW5.out
      have hzW5 := Nat.le_of_eq hzW5.symm
      have hb45 : Below w4.heap.size w4 W5 := hb5.trans (hbW5.mono hb5.size)
      have XU := Lib.hid (hx5.below hbW5)
      have hn2 : w3.heap.size < w4.heap.size := by have := HZ3.out; omega
      have hn3 : w3.heap.size < w5.heap.size := by omega
      have k0 := (TT.out.below hb5 (by omega)).c0
      have k1 := (TT.out.below hb5 (by omega)).c1
      have OT5 := Lib.hid (OT.out.below hb45)
      have XT5 := Lib.hid ((OT.out.below hb45).bx HFP.out.all)
      have TT5 := Lib.hid (TT.out.below hb45 (by omega))
      clear t5 hx5 hb5 OT hp ho5 hcv
      go_wp2_with fail
      rw [← HW5.out]
      refine (same_t W5 W5.heap.size bp A3 A5 c3 c5 Lp XT5.out (XU.out.more (by omega)) (Nat.le_refl _) (by unfold maxLen; omega)).mono ?_
      rintro e w6 ⟨rfl, hb6⟩
      have hz6 := hb6.size
      have k0 := (TT5.out.below hb6 (by omega)).c0
      have k1 := (TT5.out.below hb6 (by omega)).c1
      have OT6 := Lib.hid (OT5.out.below hb6)
      have hb26 : Below W.heap.size W w6 := (hb24.trans (hb45.mono hb24.size)).trans (hb6.mono (by have := hb24.size; omega))
      have hz26 := hb26.size
      clear XT5 XU OT5 TT5
      go_wp2_with fail
      refine (spoil_any w6 W.heap.size bp A3 c3 Lp OT6.out hz26 HFP.out).mono ?_
      rintro e w7 ⟨rfl, hb7⟩
      have hb27 := hb26.trans hb7
      have hz7 := hb27.size
      have k0 := (TS.out.below hb27 (by omega)).c0
      have k1 := (TS.out.below hb27 (by omega)).c1
      have k2 := (TO.out.below hb27 hg2).c0
      have k3 := (TO.out.below hb27 hg2).c1
      have XS7 := Lib.hid ((XS.out.below (hb27.mono hBW.size)).more (Nat.le_trans hBW.size hz7))
      have XO7 := Lib.hid ((XO.out.below hb27).more hz7)
      have BS7 := Lib.hid (BS.out.below (hb27.mono hBW.size))
      have hB7 := hBW.trans (hb27.mono hBW.size)
      clear TS TO XS XO XO4
      go_wp2_with fail
      refine (same_t w7 w7.heap.size base A Ao c co L XS7.out XO7.out (Nat.le_refl _) (by omega)).mono ?_
      rintro e w8 ⟨rfl, hb8⟩
      have e2 := run_str (c := c1) (BS7.out.below (hb8.mono hB7.size))
      go_wp2_with fail
      refine (awake_any w8).mono ?_
      rintro e w9 ⟨rfl, hb9⟩
      go_wp2_with fail
      go_ret
      have hB8 := hB7.trans (hb8.mono hB7.size)
      exact ⟨rfl, hB8.trans (hb9.mono hB8.size)⟩
end Go.Proofs.Ytmjlehofjholaaa
