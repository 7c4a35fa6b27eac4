/- The document's Push. -/
import Derived.Test.YtmjlehofjholaaaWinS
namespace Go.Proofs.Ytmjlehofjholaaa
open Go Go.RowKit Go.Shelf
set_option linter.unusedVariables false
set_option maxRecDepth 100000
attribute [local go_sem] Oper.semAt_some

theorem count_sum3_yes (w : World) (x y : Nat) (h : x + y + 1 ≤ 34359738367) : Calls Try.prog 33 #[.int .u64 ((x : Int) + (y : Int) + 1)] w fun e w' => e = .returned (.bool true) ∧ w = w' := by
  have := count_yes w (x + y + 1) h
  rwa [Int.natCast_add, Int.natCast_add] at this
theorem count_sum3_no (w : World) (x y : Nat) (h : 34359738367 < x + y + 1) : Calls Try.prog 33 #[.int .u64 ((x : Int) + (y : Int) + 1)] w fun e w' => e = .returned (.bool false) ∧ w = w' := by
  have := count_no w (x + y + 1) h
  rwa [Int.natCast_add, Int.natCast_add] at this
theorem may_bounds {base : Nat} {L : List (List UInt8)} (h : mayB base L = true) : L.length ≤ 48 ∧ base + L.length ≤ 34359738367 := by
  simp [mayB] at h
  omega
theorem AckAt.next {w wr W : World} {base : Nat} {v u : Value} {L M : List (List UInt8)} (h : AckAt w wr base v L) (hb : Below (w.heap.size + 2) wr W) (ho : OwnB W (w.heap.size + 2) u M) :
    AckAt w (W.setCell ⟨w.heap.size, 1, none⟩ u) base u M :=
  ⟨(h.below.trans (hb.mono (by omega))).setCell (by simp) _, by have := hb.size; have := h.big; simp; omega, (h.b0.below hb (by omega)).set1 _, (h.b1.below hb (by omega)).other (by omega) _, ho.set (by omega) _⟩

set_option maxHeartbeats 2000000 in
theorem pushR_any (w : World) (base : Nat) (A : Option Addr) (c : Nat) (L : List (List UInt8)) (A1 : Option Addr) (c1 : Nat) (l : List UInt8) (h : Bx w w.heap.size A L) (h1 : Has w w.heap.size A1 (us l)) (hb : base < 18446744073709551616) (hf : Fit L) (hl : l.length ≤ 1000000) :
    Calls Try.prog 14 #[.agg #[.int .u64 (base : Int), .slice A L.length c], .slice A1 l.length c1] w (PushPost w base L l) := by
  obtain ⟨W, HW⟩ : ∃ W, Hid (W = (w.alloc (.cells #[.int .u64 (base : Int), .slice A L.length c] 25)).alloc (.cells #[.int .u64 0, .slice none 0 0] 25)) := ⟨_, Lib.hid rfl⟩
  have hbw : Below w.heap.size w W := by rw [HW.out]; exact ((Below.refl _ w).alloc (Nat.le_refl _) _).alloc (by simp) _
  have hz : W.heap.size = w.heap.size + 2 := by rw [HW.out]; simp
  have HZ := Lib.hid hz
  have hz := Nat.le_of_eq hz.symm
  have HX := Lib.hid ((h.below hbw).more hbw.size)
  have HH := Lib.hid h1
  have n0 : Two W w.heap.size (.int .u64 (base : Int)) (.slice A L.length c) := by rw [HW.out]; exact (Two.new w _ _).below ((Below.refl (w.heap.size + 1) _).alloc (by simp) _) (by omega)
  have n1 : Two W (w.heap.size + 1) (.int .u64 0) (.slice none 0 0) := by
    rw [HW.out]
    have := Two.new (w.alloc (.cells #[.int .u64 (base : Int), .slice A L.length c] 25)) (.int .u64 0) (.slice none 0 0)
    rwa [World.size_alloc] at this
  have hL1 := hf.1
  have hLm : L.length ≤ maxLen := by unfold maxLen; omega
  have HF := Lib.hid hf
  clear h hf h1
  by_cases hm : mayB base L = true
  · have hmb := may_bounds hm
    have HM := Lib.hid hm
    clear hm
    by_cases hbd : bodyB l = true
    · have HBD := Lib.hid hbd
      clear hbd
      by_cases h48 : 48 ≤ L.length
      · have HE : Hid (pushE base L l = 4) := Lib.hid (by simp [pushE, HM.out, HBD.out, h48])
        have e48 : decide ((48 : Int) ≤ (L.length : Int)) = true := decide_eq_true (by omega)
        go_enter Try.func14, Try.ntmps14
        go_wp2_with fail
        rw [← HW.out]
        refine (mayR_t W W.heap.size base A c L HX.out (Nat.le_refl _) hb hLm HM.out).mono ?_
        rintro e w1 ⟨rfl, hb1⟩
        have k0 := (n0.below hb1 (by omega)).c0
        have k1 := (n0.below hb1 (by omega)).c1
        have k2 := (n1.below hb1 (by omega)).c0
        have k3 := (n1.below hb1 (by omega)).c1
        have k4 := (n1.below hb1 (by omega)).f0
        have k5 := (n1.below hb1 (by omega)).f1
        go_wp2_with (go_at_call 32; refine (bodyR_t _ A1 c1 l (by omega) HBD.out).mono ?_; rintro e w' ⟨rfl, rfl⟩)
        refine bodyPost_ret (v := .tuple #[.agg #[.int .u64 0, .slice none 0 0], .int .i64 4]) (by simp [results, Try.results14, go_sem, k2, k3]) rfl ?_
        exact ⟨((hbw.trans (hb1.mono hbw.size)).setCell (by simp) _).setCell (by simp) _, .inl ⟨by rw [HE.out]; decide, by rw [HE.out]; rfl⟩⟩
      · have e48 : decide ((48 : Int) ≤ (L.length : Int)) = false := decide_eq_false (by omega)
        by_cases hfull : 34359738367 ≤ base + L.length
        · have HE : Hid (pushE base L l = 4) := Lib.hid (by simp [pushE, HM.out, HBD.out, hfull])
          go_enter Try.func14, Try.ntmps14
          go_wp2_with fail
          rw [← HW.out]
          refine (mayR_t W W.heap.size base A c L HX.out (Nat.le_refl _) hb hLm HM.out).mono ?_
          rintro e w1 ⟨rfl, hb1⟩
          have k0 := (n0.below hb1 (by omega)).c0
          have k1 := (n0.below hb1 (by omega)).c1
          have k2 := (n1.below hb1 (by omega)).c0
          have k3 := (n1.below hb1 (by omega)).c1
          have k4 := (n1.below hb1 (by omega)).f0
          have k5 := (n1.below hb1 (by omega)).f1
          go_wp2_with (go_at_call 32; refine (bodyR_t _ A1 c1 l (by omega) HBD.out).mono ?_; rintro e w' ⟨rfl, rfl⟩)
          refine (count_sum3_no _ base L.length (by omega)).mono ?_
          rintro e w' ⟨rfl, rfl⟩
          go_wp2_with fail
          refine bodyPost_ret (v := .tuple #[.agg #[.int .u64 0, .slice none 0 0], .int .i64 4]) (by simp [results, Try.results14, go_sem, k2, k3]) rfl ?_
          exact ⟨((hbw.trans (hb1.mono hbw.size)).setCell (by simp) _).setCell (by simp) _, .inl ⟨by rw [HE.out]; decide, by rw [HE.out]; rfl⟩⟩
        · have HE : Hid (pushE base L l = 0) := Lib.hid (by simp [pushE, HM.out, HBD.out]; omega)
          go_enter Try.func14, Try.ntmps14
          go_wp2_with fail
          rw [← HW.out]
          refine (mayR_t W W.heap.size base A c L HX.out (Nat.le_refl _) hb hLm HM.out).mono ?_
          rintro e w1 ⟨rfl, hb1⟩
          have k0 := (n0.below hb1 (by omega)).c0
          have k1 := (n0.below hb1 (by omega)).c1
          go_wp2_with (go_at_call 32; refine (bodyR_t _ A1 c1 l (by omega) HBD.out).mono ?_; rintro e w' ⟨rfl, rfl⟩)
          refine (count_sum3_yes _ base L.length (by omega)).mono ?_
          rintro e w' ⟨rfl, rfl⟩
          go_wp2_with fail
          refine (ownR_any w1 base A c L ((HX.out.below hb1).more hb1.size) HF.out).mono ?_
          rintro e w2 ⟨v, rfl, ho, hb2⟩
          obtain ⟨Av, cv, rfl, p1, p2, _⟩ := ho.form HF.out.all
          have hb12 := hb1.trans (hb2.mono hb1.size)
          have ha := AckAt.start HW.out hb12 (ho.mono hb1.size)
          have k0 := (n0.below hb12 (by omega)).c0
          have k1 := (n0.below hb12 (by omega)).c1
          have k2 := (n0.below hb12 (by omega)).f0
          have k3 := (n0.below hb12 (by omega)).f1
          obtain ⟨wr, HWR⟩ : ∃ W1, Hid (W1 = (w2.setCell ⟨w.heap.size, 0, none⟩ (.int .u64 (base : Int))).setCell ⟨w.heap.size, 1, none⟩ (.slice Av L.length cv)) := ⟨_, Lib.hid rfl⟩
          rw [← HWR.out] at ha
          have hbig := ha.big
          have hzw := ha.below.size
          have HA := Lib.hid ha
          have HCL := Lib.hid ha.b0.c1
          have HHR := Lib.hid (HH.out.below ha.below)
          clear ho hb12 hb1 hb2 ha n0 n1
          have HFM : Hid (∀ x ∈ L ++ [l], x.length ≤ 140737488355328) := Lib.hid (by
            intro x hx
            rcases List.mem_append.1 hx with hx | hx
            · exact HF.out.all x hx
            · simp at hx; subst hx; omega)
          go_wp2_with fail
          rw [← HWR.out]
          clear k0 k1 k2 k3
          have hbel : ∀ (dn : Nat → Bool) (xv : Nat → Value) (W : World), (if dn 8 = true then AckAt w W base (xv 6) (L ++ [l]) else if dn 6 = true then Below (w.heap.size + 2) wr W ∧ OwnB W (w.heap.size + 2) (xv 6) (L ++ [l]) else if dn 5 = true then Below wr.heap.size wr W ∧ Own W wr.heap.size (xv 4) l ∧ OneOf (xv 4) (xv 5) W else if dn 4 = true then Below wr.heap.size wr W ∧ Own W wr.heap.size (xv 4) l else if dn 2 = true then Below wr.heap.size wr W ∧ Own W wr.heap.size (xv 2) [] else Below wr.heap.size wr W) → dn 8 = false → Below (w.heap.size + 2) wr W := fun dn xv W h h0 => by
            rw [if_neg (by simp [h0])] at h
            split at h
            · exact h.1
            split at h
            · exact h.1.mono hbig
            split at h
            · exact h.1.mono hbig
            split at h
            · exact h.1.mono hbig
            exact h.mono hbig
          refine wp_region_f (fun dn xv W => if dn 8 = true then AckAt w W base (xv 6) (L ++ [l]) else if dn 6 = true then Below (w.heap.size + 2) wr W ∧ OwnB W (w.heap.size + 2) (xv 6) (L ++ [l]) else if dn 5 = true then Below wr.heap.size wr W ∧ Own W wr.heap.size (xv 4) l ∧ OneOf (xv 4) (xv 5) W else if dn 4 = true then Below wr.heap.size wr W ∧ Own W wr.heap.size (xv 4) l else if dn 2 = true then Below wr.heap.size wr W ∧ Own W wr.heap.size (xv 2) [] else Below wr.heap.size wr W) (fun _ _ => True) [fun v _ => v = .pointer (some ⟨w.heap.size, 1, none⟩), fun v _ => v = .slice Av L.length cv, fun v _ => True, fun v _ => v = .slice A1 l.length c1, fun v _ => True, fun v _ => True, fun v _ => True, fun v _ => v = .pointer (some ⟨w.heap.size, 1, none⟩), fun v _ => True] (by kernel_rfl) (by kernel_rfl) (by kernel_rfl) (by kernel_rfl) (fun xv => by simpa using (Below.refl _ wr).drew)
            (by exact ⟨fun _ _ _ _ h => h, fun _ _ _ _ h => h, fun _ _ _ _ h => h, fun _ _ _ _ h => h, fun _ _ _ _ h => h, fun _ _ _ _ h => h, fun _ _ _ _ h => h, fun _ _ _ _ h => h, fun _ _ _ _ h => h, trivial⟩) ?_ ?_
          · refine EachF.cons 1 rfl (fun dn xv W F hF hd hN hX hI H K hK => ?_) ?_
            · have f2 : F.tmps.getD 2 undef = .pointer (some ⟨w.heap.size, 0, none⟩) := (hF 2).trans (by kernel_rfl)
              clear H hN hd hX hF
              refine on_plain rfl ?_
              go_simp
              exact hK.out _ _ rfl trivial (by simpa [upB, upd] using hI)
            refine EachF.cons 2 rfl (fun dn xv W F hF hd hN hX hI H K hK => ?_) ?_
            · have h0 : xv 0 = .pointer (some ⟨w.heap.size, 1, none⟩) := (H 0 (.edge (by kernel_rfl))).2
              have f33 : F.tmps.getD 33 undef = .pointer (some ⟨w.heap.size, 1, none⟩) := (hF 33).trans (Eq.trans (by kernel_rfl) h0)
              have hb0 := hbel dn xv W hI (hN 8 (.more (j := 6) (by kernel_rfl) (.edge (by kernel_rfl))))
              have hc0 := (hb0.cell (p := ⟨w.heap.size, 1, none⟩) (show w.heap.size < w.heap.size + 2 by omega)).trans HCL.out
              clear hb0
              clear H hN hd hX hF
              refine on_plain rfl ?_
              go_simp
              exact hK.out _ _ rfl trivial (by simpa [upB, upd] using hI)
            refine EachF.cons 3 rfl (fun dn xv W F hF hd hN hX hI H K hK => ?_) ?_
            · have q4 : dn 4 = false := hN 4 (.edge (by kernel_rfl))
              have q5 : dn 5 = false := hN 5 (.more (j := 4) (by kernel_rfl) (.edge (by kernel_rfl)))
              have q6 : dn 6 = false := hN 6 (.more (j := 5) (by kernel_rfl) (.more (j := 4) (by kernel_rfl) (.edge (by kernel_rfl))))
              have q8 : dn 8 = false := hN 8 (.more (j := 6) (by kernel_rfl) (.more (j := 5) (by kernel_rfl) (.more (j := 4) (by kernel_rfl) (.edge (by kernel_rfl)))))
              have hS : Below wr.heap.size wr W := by simpa [hd, q4, q5, q6, q8] using hI
              clear hI hN hd hX hF H
              refine on_plain rfl ?_
              go_simp
              have hb : Below W.heap.size W (W.alloc (.cells #[] 5)) := (Below.refl _ _).alloc (Nat.le_refl _) _
              have hs : Below wr.heap.size wr (W.alloc (.cells #[] 5)) ∧ Own (W.alloc (.cells #[] 5)) wr.heap.size (.slice (some ⟨W.heap.size, 0, none⟩) 0 0) [] := ⟨hS.trans (hb.mono hS.size), own_mono (own_empty W) hS.size⟩
              exact hK.out _ _ trivial trivial (by simpa [upB, upd, q4, q5, q6, q8] using hs)
            refine EachF.cons 4 rfl (fun dn xv W F hF hd hN hX hI H K hK => ?_) ?_
            · have f1 : F.tmps.getD 1 undef = .slice A1 l.length c1 := (hF 1).trans (by kernel_rfl)
              clear H hN hd hX hF
              refine on_plain rfl ?_
              go_simp
              exact hK.out _ _ rfl trivial (by simpa [upB, upd] using hI)
            refine EachF.cons 5 rfl (fun dn xv W F hF hd hN hX hI H K hK => ?_) ?_
            · have h2 := (H 2 (.edge (by kernel_rfl))).2
              simp only [Dl] at h2
              have f35 : F.tmps.getD 35 undef = xv 2 := (hF 35).trans (by kernel_rfl)
              have h3 : xv 3 = .slice A1 l.length c1 := (H 3 (.edge (by kernel_rfl))).2
              have f36 : F.tmps.getD 36 undef = .slice A1 l.length c1 := (hF 36).trans (Eq.trans (by kernel_rfl) h3)
              have q2 : dn 2 = true := (H 2 (.edge (by kernel_rfl))).1
              have q5 : dn 5 = false := hN 5 (.edge (by kernel_rfl))
              have q6 : dn 6 = false := hN 6 (.more (j := 5) (by kernel_rfl) (.edge (by kernel_rfl)))
              have q8 : dn 8 = false := hN 8 (.more (j := 6) (by kernel_rfl) (.more (j := 5) (by kernel_rfl) (.edge (by kernel_rfl))))
              have hS : Below wr.heap.size wr W ∧ Own W wr.heap.size (xv 2) [] := by simpa [hd, q5, q6, q8, q2] using hI
              clear hI hN hd hX hF H
              refine on_plain rfl ?_
              refine op_app (base := wr.heap.size) (l := []) (m := l) (B := w.heap.size) (s := .tmp 35) (x := .tmp 36) (by rfl) f35 f36 hS.2 (HHR.out.below (hS.1.mono (by omega))) (by simp; omega) hS.1.size ?_
              intro v W' ho hb _ _
              have hs : Below wr.heap.size wr W' ∧ Own W' wr.heap.size v l := ⟨hS.1.trans hb, ho⟩
              exact hK.out v W' trivial trivial (by simpa [upB, upd, q5, q6, q8] using hs)
            refine EachF.cons 6 rfl (fun dn xv W F hF hd hN hX hI H K hK => ?_) ?_
            · have h4 := (H 4 (.edge (by kernel_rfl))).2
              simp only [Dl] at h4
              have f37 : F.tmps.getD 37 undef = xv 4 := (hF 37).trans (by kernel_rfl)
              have q4 : dn 4 = true := (H 4 (.edge (by kernel_rfl))).1
              have q6 : dn 6 = false := hN 6 (.edge (by kernel_rfl))
              have q8 : dn 8 = false := hN 8 (.more (j := 6) (by kernel_rfl) (.edge (by kernel_rfl)))
              have hS : Below wr.heap.size wr W ∧ Own W wr.heap.size (xv 4) l := by simpa [hd, q6, q8, q4] using hI
              clear hI hN hd hX hF H
              refine on_plain rfl ?_
              obtain ⟨A2, c2, e2, _⟩ := hS.2.form
              have e3 := e2
              rw [e2] at f37
              have g37 := f37
              rw [Array.getD_eq_getD_getElem?] at g37
              go_simp
              rw [← e3]
              have hb : Below W.heap.size W (W.alloc (.cells #[xv 4] 26)) := (Below.refl _ _).alloc (Nat.le_refl _) _
              have hs : Below wr.heap.size wr (W.alloc (.cells #[xv 4] 26)) ∧ Own (W.alloc (.cells #[xv 4] 26)) wr.heap.size (xv 4) l ∧ OneOf (xv 4) (.slice (some ⟨W.heap.size, 0, none⟩) 1 1) (W.alloc (.cells #[xv 4] 26)) := ⟨hS.1.trans (hb.mono hS.1.size), own_below hS.2 hb (Nat.le_refl _), OneOf.new W _ _⟩
              exact hK.out _ _ trivial trivial (by simpa [upB, upd, q6, q8] using hs)
            refine EachF.cons 7 rfl (fun dn xv W F hF hd hN hX hI H K hK => ?_) ?_
            · have h1 : xv 1 = .slice Av L.length cv := (H 1 (.edge (by kernel_rfl))).2
              have f34 : F.tmps.getD 34 undef = .slice Av L.length cv := (hF 34).trans (Eq.trans (by kernel_rfl) h1)
              have h5 := (H 5 (.edge (by kernel_rfl))).2
              simp only [Dl] at h5
              have f38 : F.tmps.getD 38 undef = xv 5 := (hF 38).trans (by kernel_rfl)
              have q5 : dn 5 = true := (H 5 (.edge (by kernel_rfl))).1
              have q8 : dn 8 = false := hN 8 (.edge (by kernel_rfl))
              have hS : Below wr.heap.size wr W ∧ Own W wr.heap.size (xv 4) l ∧ OneOf (xv 4) (xv 5) W := by simpa [hd, q8, q5] using hI
              clear hI hN hd hX hF H
              refine on_plain rfl ?_
              obtain ⟨s1, s2, A3, c3, e3, hh3⟩ := hS
              have f38x := f38.trans e3
              refine op_appB (base := w.heap.size + 2) (l := l) (u := xv 4) (s := .tmp 34) (x := .tmp 38) (by rfl) f34 f38x (HA.out.own.below s1) (own_mono s2 hbig) (apart_new HA.out.own s2) hh3 (by omega) (Nat.le_trans hbig s1.size) ?_
              intro v W' ho hb
              have hs : Below (w.heap.size + 2) wr W' ∧ OwnB W' (w.heap.size + 2) v (L ++ [l]) := ⟨(s1.mono hbig).trans hb, ho⟩
              exact hK.out v _ trivial trivial (by simpa [upB, upd, q8] using hs)
            refine EachF.cons 8 rfl (fun dn xv W F hF hd hN hX hI H K hK => ?_) ?_
            · have f2 : F.tmps.getD 2 undef = .pointer (some ⟨w.heap.size, 0, none⟩) := (hF 2).trans (by kernel_rfl)
              clear H hN hd hX hF
              refine on_plain rfl ?_
              go_simp
              exact hK.out _ _ rfl trivial (by simpa [upB, upd] using hI)
            refine EachF.cons 9 rfl (fun dn xv W F hF hd hN hX hI H K hK => ?_) ?_
            · have h6 := (H 6 (.edge (by kernel_rfl))).2
              simp only [Dl] at h6
              have f39 : F.tmps.getD 39 undef = xv 6 := (hF 39).trans (by kernel_rfl)
              have h7 : xv 7 = .pointer (some ⟨w.heap.size, 1, none⟩) := (H 7 (.edge (by kernel_rfl))).2
              have f40 : F.tmps.getD 40 undef = .pointer (some ⟨w.heap.size, 1, none⟩) := (hF 40).trans (Eq.trans (by kernel_rfl) h7)
              have q6 : dn 6 = true := (H 6 (.edge (by kernel_rfl))).1
              have hS : Below (w.heap.size + 2) wr W ∧ OwnB W (w.heap.size + 2) (xv 6) (L ++ [l]) := by simpa [hd, q6] using hI
              clear hI hN hd hX hF H
              refine on_plain rfl ?_
              obtain ⟨s1, s2⟩ := hS
              obtain ⟨A2, c2, e2, _⟩ := s2.form HFM.out
              rw [len1] at e2
              have f39x := f39.trans e2
              have hc3 := (HA.out.b0.below s1 (by omega)).c1
              have hf3 := (HA.out.b0.below s1 (by omega)).f1
              have hs := HA.out.next s1 s2
              go_simp
              rw [← e2]
              exact hK.out undef _ trivial trivial (by simpa [upB, upd] using hs)
            exact EachF.nil
          · intro dn xv W hI H
            have qe : dn 8 = true := (H 8 (of_decide_eq_true (by kernel_rfl))).1
            have hS : AckAt w W base (xv 6) (L ++ [l]) := by simpa [qe] using hI
            clear H hI qe
            simp only [putAll, Act.put, List.setIfInBounds_toArray, List.set_cons_zero, List.set_cons_succ, Nat.reduceAdd]
            obtain ⟨A2, c2, e2, _⟩ := hS.own.form HFM.out
            rw [len1] at e2
            have k0 := hS.b0.c0
            have k1 := hS.b0.c1
            rw [e2] at k1
            have k2 := hS.b1.c0
            have k3 := hS.b1.c1
            have k4 := hS.b1.f0
            have k5 := hS.b1.f1
            have HS := Lib.hid hS
            clear hS
            go_wp2_with fail
            refine bodyPost_ret (v := .tuple #[.agg #[.int .u64 (base : Int), .slice A2 (L.length + 1) c2], .int .i64 0]) (by simp [results, Try.results14, go_sem, k2, k3]) rfl ?_
            refine ⟨(HS.out.below.setCell (by simp) _).setCell (by simp) _, .inr ⟨HE.out, _, rfl, ?_⟩⟩
            rw [← e2]
            exact ((HS.out.own.set (by omega) _).set (by omega) _).mono (by omega)
    · have HBD := Lib.hid (show bodyB l = false by simpa using hbd)
      clear hbd
      have HE : Hid (pushE base L l = 2) := Lib.hid (by simp [pushE, HM.out, HBD.out])
      go_enter Try.func14, Try.ntmps14
      go_wp2_with fail
      rw [← HW.out]
      refine (mayR_t W W.heap.size base A c L HX.out (Nat.le_refl _) hb hLm HM.out).mono ?_
      rintro e w1 ⟨rfl, hb1⟩
      have k2 := (n1.below hb1 (by omega)).c0
      have k3 := (n1.below hb1 (by omega)).c1
      have k4 := (n1.below hb1 (by omega)).f0
      have k5 := (n1.below hb1 (by omega)).f1
      go_wp2_with (go_at_call 32; refine (bodyR_f _ A1 c1 l (by omega) HBD.out).mono ?_; rintro e w' ⟨rfl, rfl⟩)
      refine bodyPost_ret (v := .tuple #[.agg #[.int .u64 0, .slice none 0 0], .int .i64 2]) (by simp [results, Try.results14, go_sem, k2, k3]) rfl ?_
      exact ⟨((hbw.trans (hb1.mono hbw.size)).setCell (by simp) _).setCell (by simp) _, .inl ⟨by rw [HE.out]; decide, by rw [HE.out]; rfl⟩⟩
  · have HM := Lib.hid (show mayB base L = false by simpa using hm)
    clear hm
    have HE : Hid (pushE base L l = 1) := Lib.hid (by simp [pushE, HM.out])
    go_enter Try.func14, Try.ntmps14
    go_wp2_with fail
    rw [← HW.out]
    refine (mayR_f W W.heap.size base A c L HX.out (Nat.le_refl _) hb hLm HM.out).mono ?_
    rintro e w1 ⟨rfl, hb1⟩
    have k2 := (n1.below hb1 (by omega)).c0
    have k3 := (n1.below hb1 (by omega)).c1
    have k4 := (n1.below hb1 (by omega)).f0
    have k5 := (n1.below hb1 (by omega)).f1
    go_wp2_with fail
    refine bodyPost_ret (v := .tuple #[.agg #[.int .u64 0, .slice none 0 0], .int .i64 1]) (by simp [results, Try.results14, go_sem, k2, k3]) rfl ?_
    exact ⟨((hbw.trans (hb1.mono hbw.size)).setCell (by simp) _).setCell (by simp) _, .inl ⟨by rw [HE.out]; decide, by rw [HE.out]; rfl⟩⟩
end Go.Proofs.Ytmjlehofjholaaa
