/- The walk of the law SumXors. -/
import Derived.Test.YtmjhdjiglnkoiaaDoorSumLaw4
import Derived.Test.YtmjhdjiglnkoiaaDoorSepBy
namespace Go.Proofs.YtmjhdjiglnkoiaaDoor
open Go Go.RowKit
set_option linter.unusedVariables false

theorem of_xor3 (a b : List UInt8) (h : a.length = b.length) :
    Crc.of (List.zipWith (· ^^^ ·) a b) = (Crc.of a ^^^ Crc.of b) ^^^ Crc.of (List.replicate a.length 0) := by
  have hz : List.zipWith (· ^^^ ·) (List.zipWith (· ^^^ ·) a b) (List.replicate a.length (0 : UInt8)) = List.zipWith (· ^^^ ·) a b := by
    apply List.ext_getElem
    · simp [h]
    · intro i h1 h2
      simp
  have h1 := Crc.run_xor (4294967295 ^^^ 4294967295) 4294967295 (List.zipWith (· ^^^ ·) a b) (List.replicate a.length (0 : UInt8)) (by simp [h])
  rw [hz, Crc.run_xor 4294967295 4294967295 a b h, Nat.xor_self, Nat.zero_xor] at h1
  have hm : (4294967295 : Nat) < 4294967296 := by omega
  unfold Crc.of
  rw [← Crc.max_xor _ (Crc.run_lt hm _), ← Crc.max_xor _ (Crc.run_lt hm _), ← Crc.max_xor _ (Crc.run_lt hm _), ← Crc.max_xor _ (Crc.run_lt hm _), h1]
  generalize Crc.run 4294967295 a = x
  generalize Crc.run 4294967295 b = y
  generalize Crc.run 4294967295 (List.replicate a.length 0) = z
  apply Nat.eq_of_testBit_eq
  intro i
  simp only [Nat.testBit_xor]
  cases Nat.testBit 4294967295 i <;> cases x.testBit i <;> cases y.testBit i <;> cases z.testBit i <;> rfl
theorem zip_snoc (a b : List UInt8) (k : Nat) (ha : k < a.length) (hb : k < b.length) : List.zipWith (· ^^^ ·) (a.take (k + 1)) (b.take (k + 1)) = List.zipWith (· ^^^ ·) (a.take k) (b.take k) ++ [a[k] ^^^ b[k]] := by
  rw [List.take_succ_eq_append_getElem ha, List.take_succ_eq_append_getElem hb, List.zipWith_append (by simp; omega)]
  rfl

set_option maxRecDepth 100000 in
set_option maxHeartbeats 400000 in
theorem sumXors_lt (w : World) (hT : Table w) (A A' : Option Addr) (c c' : Nat) (l m : List UInt8) (h : Has w w.heap.size A (us l)) (h' : Has w w.heap.size A' (us m)) (hc : l.length ≤ c) (hm : c ≤ maxLen) (hr : l.length ≤ 140737488355328)
    (hc' : m.length ≤ c') (hm' : c' ≤ maxLen) (hr' : m.length ≤ 140737488355328) (hml : m.length < l.length) :
    Calls Tryd.prog 10 #[.slice A l.length c, .slice A' m.length c'] w fun e w' => e = .returned (.bool true) ∧ Below w.heap.size w w' := by
  have HT := Lib.hid hT
  have H := Lib.hid h
  have H' := Lib.hid h'
  clear hT h h'
  have hb0 : Below w.heap.size w (w.alloc (.cells #[.slice A l.length c] 25)) := (Below.refl _ _).alloc (Nat.le_refl _) _
  go_enter Tryd.func10, Tryd.ntmps10
  go_wp2_with fail
  refine (long_any _ (w.heap.size + 1) _ 1 [.slice A l.length c] [l] (has_new w #[.slice A l.length c] _) (Parts.one ((H.out.alloc (Nat.le_refl _) _).more (by omega)) hc hm hr) (by simp)).mono ?_
  rintro e w' ⟨rfl, rfl⟩
  rw [longB_one]
  generalize w.alloc (.cells #[.slice A l.length c] 25) = w0 at *
  have HT0 := Lib.hid (HT.out.below hb0 HT.out.lt)
  by_cases hlong : 65536 < l.length
  · go_wp2_with fail
    refine (awake_any w0 HT0.out).mono ?_
    rintro e w' ⟨rfl, hb⟩
    go_wp2
    go_ret
    exact ⟨rfl, hb0.trans (hb.mono hb0.size)⟩
  · rw [decide_eq_false hlong]
    go_wp2_with fail
    refine (long_any _ (w0.heap.size + 1) _ 1 [.slice A' m.length c'] [m] (has_new w0 #[.slice A' m.length c'] _) (Parts.one ((((H'.out.below hb0).more hb0.size).alloc (Nat.le_refl _) _).more (by omega)) hc' hm' hr') (by simp)).mono ?_
    rintro e w' ⟨rfl, rfl⟩
    rw [longB_one]
    have hb1 : Below w.heap.size w (w0.alloc (.cells #[.slice A' m.length c'] 25)) := hb0.alloc hb0.size _
    generalize w0.alloc (.cells #[.slice A' m.length c'] 25) = w1 at *
    have HT1 := Lib.hid (HT.out.below hb1 HT.out.lt)
    by_cases hlong2 : 65536 < m.length
    · go_wp2_with fail
      refine (awake_any w1 HT1.out).mono ?_
      rintro e w' ⟨rfl, hb⟩
      go_wp2
      go_ret
      exact ⟨rfl, hb1.trans (hb.mono hb1.size)⟩
    · rw [decide_eq_false hlong2]
      have HS0 := Lib.hid (show Sep w w1 [By (.slice none 0 0) [], By (.slice none 0 0) []] from sep_byNil (sep_byNil (Sep.start hb1)))
      have hl1 : l.length ≤ 65536 := by omega
      have hl2 : m.length ≤ 65536 := by omega
      clear HT0 HT1 hb0 hb1 hlong hlong2
      go_wp2
      go_loopw [6, 7, 8] (fun v6 v7 iv wr => ∃ k : Nat, k ≤ m.length ∧ iv = .int .i64 k ∧ Hid (Sep w wr [By v6 (List.zipWith (· ^^^ ·) (l.take k) (m.take k)), By v7 (List.replicate k 0)])) (fun _ _ iv _ => m.length - (intOf iv).toNat)
      case atStart => exact ⟨0, Nat.zero_le _, rfl, HS0⟩
      case round =>
        obtain ⟨k, hk, rfl, HS⟩ := hrel
        obtain ⟨A6, c6, e6, hc6, hm6, h6⟩ := sep_byForm (i := 0) HS.out rfl
        obtain ⟨A7, c7, e7, hc7, hm7, h7⟩ := sep_byForm (i := 1) HS.out rfl
        subst e6
        subst e7
        have hlC : (List.zipWith (· ^^^ ·) (l.take k) (m.take k)).length = k := by rw [List.length_zipWith, List.length_take, List.length_take]; omega
        have hlZ : (List.replicate k (0 : UInt8)).length = k := List.length_replicate
        by_cases hkt : k < m.length
        · obtain ⟨b, o, rfl, hbB, hcell0⟩ := H.out.at_ (show k < (us l).length by rw [us_length]; omega)
          obtain ⟨b2, o2, rfl, hbB2, hcell20⟩ := H'.out.at_ (show k < (us m).length by rw [us_length]; omega)
          have HCR := Lib.hid (show ∀ W, Below w.heap.size w W → W.cell? ⟨b, o + k, none⟩ = some (.int .u8 ((l[k]'(by omega)).toNat : Int)) ∧ W.cell? ⟨b2, o2 + k, none⟩ = some (.int .u8 ((m[k]'(by omega)).toNat : Int)) from fun W hW => by
            rw [hW.cell (p := ⟨b, o + k, none⟩) hbB, hcell0, hW.cell (p := ⟨b2, o2 + k, none⟩) hbB2, hcell20]
            simp [us])
          have HCS := Lib.hid (zip_snoc l m k (by omega) (by omega))
          have HZS := Lib.hid (show List.replicate (k + 1) (0 : UInt8) = List.replicate k 0 ++ [0] by rw [List.replicate_succ'])
          clear hcell0 hcell20 h6 h7
          generalize l[k]'(by omega) = x at *
          generalize m[k]'(by omega) = y at *
          have HXY := Lib.hid (show bits .xor .u8 (x.toNat : Int) (y.toNat : Int) = ((x ^^^ y).toNat : Int) by rw [u8_xor_nat _ _ x.toNat_lt y.toNat_lt, UInt8.toNat_xor])
          generalize List.zipWith (· ^^^ ·) (l.take k) (m.take k) = C at *
          generalize List.replicate k (0 : UInt8) = Z at *
          have hC : C.length ≤ 65536 := by omega
          have hZ : Z.length ≤ 65536 := by omega
          clear hlC hlZ
          have hkl : k < l.length := by omega
          have hkm : k < m.length := by omega
          go_wp2_with fail
          have hbel : ∀ (dn : Nat → Bool) (xv : Nat → Value) (W : World), (if dn 12 = true then Sep w W [By (xv 12) (C ++ [x ^^^ y]), By (.slice A7 Z.length c7) Z] else if dn 11 = true then Sep w W [By (xv 11) (C ++ [x ^^^ y]), By (.slice A7 Z.length c7) Z] else if dn 10 = true then Sep w W [By (.slice A6 C.length c6) C, By (.slice A7 Z.length c7) Z] ∧ IsB [x ^^^ y] (xv 10) W else Sep w W [By (.slice A6 C.length c6) C, By (.slice A7 Z.length c7) Z]) → Below w.heap.size w W := fun dn xv W h => by
            split at h
            · exact h.bel
            · split at h
              · exact h.bel
              · split at h
                · exact h.1.bel
                · exact h.bel
          refine wp_region_f (fun dn xv W => if dn 12 = true then Sep w W [By (xv 12) (C ++ [x ^^^ y]), By (.slice A7 Z.length c7) Z] else if dn 11 = true then Sep w W [By (xv 11) (C ++ [x ^^^ y]), By (.slice A7 Z.length c7) Z] else if dn 10 = true then Sep w W [By (.slice A6 C.length c6) C, By (.slice A7 Z.length c7) Z] ∧ IsB [x ^^^ y] (xv 10) W else Sep w W [By (.slice A6 C.length c6) C, By (.slice A7 Z.length c7) Z]) (fun _ _ => True) [fun v _ => v = .slice A6 C.length c6, fun v _ => v = .slice (some ⟨b, o, none⟩) l.length c, fun v _ => v = .int .i64 (k : Int), fun v _ => v = .pointer (some ⟨b, o + k, none⟩), fun v _ => v = .int .u8 (x.toNat : Int), fun v _ => v = .slice (some ⟨b2, o2, none⟩) m.length c', fun v _ => v = .int .i64 (k : Int), fun v _ => v = .pointer (some ⟨b2, o2 + k, none⟩), fun v _ => v = .int .u8 (y.toNat : Int), fun v _ => v = .int .u8 ((x ^^^ y).toNat : Int), fun v _ => True, fun v _ => True, fun v _ => True] (by kernel_rfl) (by kernel_rfl) (by kernel_rfl) (by kernel_rfl) (fun xv => by simpa using HS.out.drew)
            (by exact ⟨fun _ _ _ _ h => h, fun _ _ _ _ h => h, fun _ _ _ _ h => h, fun _ _ _ _ h => h, fun _ _ _ _ h => h, fun _ _ _ _ h => h, fun _ _ _ _ h => h, fun _ _ _ _ h => h, fun _ _ _ _ h => h, fun _ _ _ _ h => h, fun _ _ _ _ h => h, fun _ _ _ _ h => h, fun _ _ _ _ h => h, trivial⟩) ?_ ?_
          · refine EachF.cons 1 rfl (fun dn xv W F hF hd hN hX hI H K hK => ?_) ?_
            · have h12 : xv 12 = .slice A6 C.length c6 := hX 12 (hN 12 (.more (j := 11) (by kernel_rfl) (.edge (by kernel_rfl))))
              have f6 : F.tmps.getD 6 undef = .slice A6 C.length c6 := (hF 6).trans (Eq.trans (by kernel_rfl) h12)
              clear H hN hd hX hF
              refine on_plain rfl ?_
              go_simp
              exact hK.out _ _ rfl trivial (by simpa [upB, upd] using hI)
            refine EachF.cons 2 rfl (fun dn xv W F hF hd hN hX hI H K hK => ?_) ?_
            · have f0 : F.tmps.getD 0 undef = .slice (some ⟨b, o, none⟩) l.length c := (hF 0).trans (by kernel_rfl)
              clear H hN hd hX hF
              refine on_plain rfl ?_
              go_simp
              exact hK.out _ _ rfl trivial (by simpa [upB, upd] using hI)
            refine EachF.cons 3 rfl (fun dn xv W F hF hd hN hX hI H K hK => ?_) ?_
            · have f8 : F.tmps.getD 8 undef = .int .i64 (k : Int) := (hF 8).trans (by kernel_rfl)
              clear H hN hd hX hF
              refine on_plain rfl ?_
              go_simp
              exact hK.out _ _ rfl trivial (by simpa [upB, upd] using hI)
            refine EachF.cons 4 rfl (fun dn xv W F hF hd hN hX hI H K hK => ?_) ?_
            · have h1 : xv 1 = .slice (some ⟨b, o, none⟩) l.length c := (H 1 (.edge (by kernel_rfl))).2
              have f29 : F.tmps.getD 29 undef = .slice (some ⟨b, o, none⟩) l.length c := (hF 29).trans (Eq.trans (by kernel_rfl) h1)
              have h2 : xv 2 = .int .i64 (k : Int) := (H 2 (.edge (by kernel_rfl))).2
              have f30 : F.tmps.getD 30 undef = .int .i64 (k : Int) := (hF 30).trans (Eq.trans (by kernel_rfl) h2)
              clear H hN hd hX hF
              refine on_plain rfl ?_
              go_simp
              exact hK.out _ _ rfl trivial (by simpa [upB, upd] using hI)
            refine EachF.cons 5 rfl (fun dn xv W F hF hd hN hX hI H K hK => ?_) ?_
            · have h3 : xv 3 = .pointer (some ⟨b, o + k, none⟩) := (H 3 (.edge (by kernel_rfl))).2
              have f31 : F.tmps.getD 31 undef = .pointer (some ⟨b, o + k, none⟩) := (hF 31).trans (Eq.trans (by kernel_rfl) h3)
              obtain ⟨hc1, hc2⟩ := HCR.out W (hbel dn xv W hI)
              clear H hN hd hX hF
              refine on_plain rfl ?_
              go_simp
              exact hK.out _ _ rfl trivial (by simpa [upB, upd] using hI)
            refine EachF.cons 6 rfl (fun dn xv W F hF hd hN hX hI H K hK => ?_) ?_
            · have f1 : F.tmps.getD 1 undef = .slice (some ⟨b2, o2, none⟩) m.length c' := (hF 1).trans (by kernel_rfl)
              clear H hN hd hX hF
              refine on_plain rfl ?_
              go_simp
              exact hK.out _ _ rfl trivial (by simpa [upB, upd] using hI)
            refine EachF.cons 7 rfl (fun dn xv W F hF hd hN hX hI H K hK => ?_) ?_
            · have f8 : F.tmps.getD 8 undef = .int .i64 (k : Int) := (hF 8).trans (by kernel_rfl)
              clear H hN hd hX hF
              refine on_plain rfl ?_
              go_simp
              exact hK.out _ _ rfl trivial (by simpa [upB, upd] using hI)
            refine EachF.cons 8 rfl (fun dn xv W F hF hd hN hX hI H K hK => ?_) ?_
            · have h5 : xv 5 = .slice (some ⟨b2, o2, none⟩) m.length c' := (H 5 (.edge (by kernel_rfl))).2
              have f33 : F.tmps.getD 33 undef = .slice (some ⟨b2, o2, none⟩) m.length c' := (hF 33).trans (Eq.trans (by kernel_rfl) h5)
              have h6 : xv 6 = .int .i64 (k : Int) := (H 6 (.edge (by kernel_rfl))).2
              have f34 : F.tmps.getD 34 undef = .int .i64 (k : Int) := (hF 34).trans (Eq.trans (by kernel_rfl) h6)
              clear H hN hd hX hF
              refine on_plain rfl ?_
              go_simp
              exact hK.out _ _ rfl trivial (by simpa [upB, upd] using hI)
            refine EachF.cons 9 rfl (fun dn xv W F hF hd hN hX hI H K hK => ?_) ?_
            · have h7 : xv 7 = .pointer (some ⟨b2, o2 + k, none⟩) := (H 7 (.edge (by kernel_rfl))).2
              have f35 : F.tmps.getD 35 undef = .pointer (some ⟨b2, o2 + k, none⟩) := (hF 35).trans (Eq.trans (by kernel_rfl) h7)
              obtain ⟨hc1, hc2⟩ := HCR.out W (hbel dn xv W hI)
              clear H hN hd hX hF
              refine on_plain rfl ?_
              go_simp
              exact hK.out _ _ rfl trivial (by simpa [upB, upd] using hI)
            refine EachF.cons 10 rfl (fun dn xv W F hF hd hN hX hI H K hK => ?_) ?_
            · have h4 : xv 4 = .int .u8 (x.toNat : Int) := (H 4 (.edge (by kernel_rfl))).2
              have f32 : F.tmps.getD 32 undef = .int .u8 (x.toNat : Int) := (hF 32).trans (Eq.trans (by kernel_rfl) h4)
              have h8 : xv 8 = .int .u8 (y.toNat : Int) := (H 8 (.edge (by kernel_rfl))).2
              have f36 : F.tmps.getD 36 undef = .int .u8 (y.toNat : Int) := (hF 36).trans (Eq.trans (by kernel_rfl) h8)
              clear H hN hd hX hF
              refine on_plain rfl ?_
              go_simp
              rw [HXY.out]
              exact hK.out _ _ rfl trivial (by simpa [upB, upd] using hI)
            refine EachF.cons 11 rfl (fun dn xv W F hF hd hN hX hI H K hK => ?_) ?_
            · have h9 : xv 9 = .int .u8 ((x ^^^ y).toNat : Int) := (H 9 (.edge (by kernel_rfl))).2
              have f37 : F.tmps.getD 37 undef = .int .u8 ((x ^^^ y).toNat : Int) := (hF 37).trans (Eq.trans (by kernel_rfl) h9)
              have q11 : dn 11 = false := hN 11 (.edge (by kernel_rfl))
              have q12 : dn 12 = false := hN 12 (.more (j := 11) (by kernel_rfl) (.edge (by kernel_rfl)))
              have hS : Sep w W [By (.slice A6 C.length c6) C, By (.slice A7 Z.length c7) Z] := by simpa [hd, q11, q12] using hI
              clear hI hN hd hX hF H
              refine on_plain rfl ?_
              have g37 := f37
              rw [Array.getD_eq_getD_getElem?] at g37
              go_simp
              have hs : Sep w (W.alloc (.cells #[.int .u8 ((x ^^^ y).toNat : Int)] 5)) [By (.slice A6 C.length c6) C, By (.slice A7 Z.length c7) Z] ∧ IsB [x ^^^ y] (.slice (some ⟨W.heap.size, 0, none⟩) 1 1) (W.alloc (.cells #[.int .u8 ((x ^^^ y).toNat : Int)] 5)) := ⟨hS.alloc _, ⟨_, 1, rfl, (has_new W #[.int .u8 ((x ^^^ y).toNat : Int)] _).more (by simp)⟩⟩
              exact hK.out _ _ trivial trivial (by simpa [upB, upd, q11, q12] using hs)
            refine EachF.cons 12 rfl (fun dn xv W F hF hd hN hX hI H K hK => ?_) ?_
            · have h0 : xv 0 = .slice A6 C.length c6 := (H 0 (.edge (by kernel_rfl))).2
              have f28 : F.tmps.getD 28 undef = .slice A6 C.length c6 := (hF 28).trans (Eq.trans (by kernel_rfl) h0)
              have h10 := (H 10 (.edge (by kernel_rfl))).2
              simp only [Dl] at h10
              have f38 : F.tmps.getD 38 undef = xv 10 := (hF 38).trans (by kernel_rfl)
              have q10 : dn 10 = true := (H 10 (.edge (by kernel_rfl))).1
              have q12 : dn 12 = false := hN 12 (.edge (by kernel_rfl))
              have hS : Sep w W [By (.slice A6 C.length c6) C, By (.slice A7 Z.length c7) Z] ∧ IsB [x ^^^ y] (xv 10) W := by simpa [hd, q12, q10] using hI
              clear hI hN hd hX hF H
              refine on_plain rfl ?_
              obtain ⟨hS1, A1, c1, e1, hh1⟩ := hS
              rw [e1] at f38
              refine sep_opApp (i := 0) (m := [x ^^^ y]) (s := .tmp 28) (x := .tmp 38) (by rfl) f28 f38 hS1 rfl hh1 (by simp; omega) ?_
              intro v W' hs
              exact hK.out v _ trivial trivial (by simpa [upB, upd, q12] using hs)
            refine EachF.cons 13 rfl (fun dn xv W F hF hd hN hX hI H K hK => ?_) ?_
            · have h11 := (H 11 (.edge (by kernel_rfl))).2
              simp only [Dl] at h11
              have f39 : F.tmps.getD 39 undef = xv 11 := (hF 39).trans (by kernel_rfl)
              have q11 : dn 11 = true := (H 11 (.edge (by kernel_rfl))).1
              have hS : Sep w W [By (xv 11) (C ++ [x ^^^ y]), By (.slice A7 Z.length c7) Z] := by simpa [hd, q11] using hI
              clear hI hN hd hX hF H
              refine on_plain rfl ?_
              have hs := hS
              go_simp
              exact hK.out _ _ trivial trivial (by simpa [upB, upd] using hs)
            exact EachF.nil
          · intro dn xv W hI H
            have qe : dn 12 = true := (H 12 (of_decide_eq_true (by kernel_rfl))).1
            have hS : Sep w W [By (xv 12) (C ++ [x ^^^ y]), By (.slice A7 Z.length c7) Z] := by simpa [qe] using hI
            clear H hI qe
            simp only [putAll, Act.put, List.setIfInBounds_toArray, List.set_cons_zero, List.set_cons_succ, Nat.reduceAdd]

            obtain ⟨A8, c8, e8, _, _, _⟩ := sep_byForm (i := 0) hS rfl
            rw [e8] at hS ⊢
            have HS1 := Lib.hid hS
            clear hS e8
            go_wp2_with (at_builtin; go_must (refine sep_app (i := 1) (c := 1) (A := some ⟨W.heap.size, 0, none⟩) (m := [0]) rfl rfl (by rfl) (by rfl) (HS1.out.alloc _) rfl (has_lit (m := [0]) rfl) (by simp; omega) ?_); intro v9 w9 hs9)
            have HS9 := Lib.hid hs9
            clear hs9
            go_wp2
            go_roundw
            case rel => exact ⟨k + 1, by omega, by go_num, by rw [HCS.out, HZS.out]; have h9 := HS9.out; rw [List.length_append] at h9; exact Lib.hid h9⟩
            case measure => simp [intOf]; omega
        · obtain rfl : k = m.length := by omega
          have HC := Lib.hid h6
          have HZ := Lib.hid h7
          have Hl := Lib.hid ((H.out.below HS.out.bel).more HS.out.size)
          have Hm := Lib.hid ((H'.out.below HS.out.bel).more HS.out.size)
          have HTr := Lib.hid (HT.out.below HS.out.bel HT.out.lt)
          have HB := Lib.hid HS.out.bel
          have hX := of_xor3 (l.take m.length) (m.take m.length) (by rw [List.length_take, List.length_take]; omega)
          rw [show (l.take m.length).length = m.length by rw [List.length_take]; omega] at hX
          have hCl : (List.zipWith (· ^^^ ·) (l.take m.length) (m.take m.length)).length ≤ 65536 := by omega
          have hZl : (List.replicate m.length (0 : UInt8)).length ≤ 65536 := by omega
          clear hlC hlZ h6 h7 HS
          generalize List.zipWith (· ^^^ ·) (l.take m.length) (m.take m.length) = C at *
          generalize List.replicate m.length (0 : UInt8) = Z at *
          obtain ⟨sC, HqC⟩ : ∃ s, Hid (Crc.of [C].flatten = s) := ⟨_, Lib.hid rfl⟩
          obtain ⟨sL, HqL⟩ : ∃ s, Hid (Crc.of [l.take m.length].flatten = s) := ⟨_, Lib.hid rfl⟩
          obtain ⟨sM, HqM⟩ : ∃ s, Hid (Crc.of [m.take m.length].flatten = s) := ⟨_, Lib.hid rfl⟩
          obtain ⟨sZ, HqZ⟩ : ∃ s, Hid (Crc.of [Z].flatten = s) := ⟨_, Lib.hid rfl⟩
          have hX2 : sC = (sL ^^^ sM) ^^^ sZ := by
            rw [← HqC.out, ← HqL.out, ← HqM.out, ← HqZ.out]
            simpa using hX
          have hsL : sL < 4294967296 := by rw [← HqL.out]; exact Crc.of_lt _
          have hsM : sM < 4294967296 := by rw [← HqM.out]; exact Crc.of_lt _
          have hsZ : sZ < 4294967296 := by rw [← HqZ.out]; exact Crc.of_lt _
          have Hx1 := Lib.hid (show bits .xor .u32 (sL : Int) (sM : Int) = ((sL ^^^ sM : Nat) : Int) from u32_xor_nat _ _ hsL hsM)
          have Hx2 := Lib.hid (show bits .xor .u32 ((sL ^^^ sM : Nat) : Int) (sZ : Int) = (sC : Int) by rw [hX2]; exact u32_xor_nat _ _ (Nat.xor_lt_two_pow (n := 32) hsL hsM) hsZ)
          clear hX hX2 hsL hsM hsZ
          have hnc : m.length ≤ c := by omega
          have hnc' : m.length ≤ c' := by omega
          have hnl : m.length ≤ l.length := by omega
          have hnm : m.length ≤ m.length := by omega
          go_wp2_with fail
          refine wp_region_f (fun dn xv W => Below wr.heap.size wr W) (fun W W' => Below W.heap.size W W') [fun v _ => v = .slice A6 C.length c6, IsP [C], fun v _ => v = .int .u32 (sC : Int), fun v _ => v = .slice A l.length c, fun v _ => v = .int .i64 (m.length : Int), fun v _ => v = .slice A m.length c, IsP [l.take m.length], fun v _ => v = .int .u32 (sL : Int), fun v _ => v = .slice A' m.length c', fun v _ => v = .int .i64 (m.length : Int), fun v _ => v = .slice A' m.length c', IsP [m.take m.length], fun v _ => v = .int .u32 (sM : Int), fun v _ => v = .int .u32 ((sL ^^^ sM : Nat) : Int), fun v _ => v = .slice A7 Z.length c7, IsP [Z], fun v _ => v = .int .u32 (sZ : Int), fun v _ => v = .int .u32 (sC : Int), fun v _ => v = .bool true, fun v _ => v = .bool true, fun v _ => v = .bool true, fun v _ => v = .bool true, fun v _ => v = .bool true] (by kernel_rfl) (by kernel_rfl) (by kernel_rfl) (by kernel_rfl) (fun xv => by simpa using (Below.refl _ wr).drew)
            (by exact ⟨fun _ _ _ _ h => h, fun _ _ _ hR h => h.keep hR, fun _ _ _ _ h => h, fun _ _ _ _ h => h, fun _ _ _ _ h => h, fun _ _ _ _ h => h, fun _ _ _ hR h => h.keep hR, fun _ _ _ _ h => h, fun _ _ _ _ h => h, fun _ _ _ _ h => h, fun _ _ _ _ h => h, fun _ _ _ hR h => h.keep hR, fun _ _ _ _ h => h, fun _ _ _ _ h => h, fun _ _ _ _ h => h, fun _ _ _ hR h => h.keep hR, fun _ _ _ _ h => h, fun _ _ _ _ h => h, fun _ _ _ _ h => h, fun _ _ _ _ h => h, fun _ _ _ _ h => h, fun _ _ _ _ h => h, fun _ _ _ _ h => h, trivial⟩) ?_ ?_
          · refine EachF.cons 1 rfl (fun dn xv W F hF hd hN hX hI H K hK => ?_) ?_
            · have f6 : F.tmps.getD 6 undef = .slice A6 C.length c6 := (hF 6).trans (by kernel_rfl)
              clear H hN hd hX hF
              refine on_plain rfl ?_
              go_simp
              exact hK.out _ _ rfl (Below.refl _ _) (by simpa [upB, upd] using hI)
            refine EachF.cons 2 rfl (fun dn xv W F hF hd hN hX hI H K hK => ?_) ?_
            · have h0 : xv 0 = .slice A6 C.length c6 := (H 0 (.edge (by kernel_rfl))).2
              have f43 : F.tmps.getD 43 undef = .slice A6 C.length c6 := (hF 43).trans (Eq.trans (by kernel_rfl) h0)
              clear H hN hd hX hF
              refine on_plain rfl ?_
              have g43 := f43
              rw [Array.getD_eq_getD_getElem?] at g43
              go_simp
              have hb : Below W.heap.size W (W.alloc (.cells #[.slice A6 C.length c6] 25)) := (Below.refl _ _).alloc (Nat.le_refl _) _
              exact hK.out _ _ (IsP.made W [.slice A6 C.length c6] _ _ (Parts.cons (sl_all ((HC.out.below hI).more hI.size) hc6 hm6 (by omega)) Parts.nil)) hb (by simpa [upB, upd] using (hI.trans (hb.mono hI.size)))
            refine EachF.cons 3 rfl (fun dn xv W F hF hd hN hX hI H K hK => ?_) ?_
            · have h1 := (H 1 (.edge (by kernel_rfl))).2
              simp only [Dl] at h1
              have f44 : F.tmps.getD 44 undef = xv 1 := (hF 44).trans (by kernel_rfl)
              clear H hN hd hX hF
              refine on_plain rfl ?_
              go_simp
              refine (of_isP W (HTr.out.below hI HTr.out.lt) h1).mono ?_
              rintro e W' ⟨rfl, rfl⟩
              rw [HqC.out]
              exact hK.out _ _ rfl (Below.refl _ _) (by simpa [upB, upd] using hI)
            refine EachF.cons 4 rfl (fun dn xv W F hF hd hN hX hI H K hK => ?_) ?_
            · have f0 : F.tmps.getD 0 undef = .slice A l.length c := (hF 0).trans (by kernel_rfl)
              clear H hN hd hX hF
              refine on_plain rfl ?_
              go_simp
              exact hK.out _ _ rfl (Below.refl _ _) (by simpa [upB, upd] using hI)
            refine EachF.cons 5 rfl (fun dn xv W F hF hd hN hX hI H K hK => ?_) ?_
            · have f5 : F.tmps.getD 5 undef = .int .i64 (m.length : Int) := (hF 5).trans (by kernel_rfl)
              clear H hN hd hX hF
              refine on_plain rfl ?_
              go_simp
              exact hK.out _ _ rfl (Below.refl _ _) (by simpa [upB, upd] using hI)
            refine EachF.cons 6 rfl (fun dn xv W F hF hd hN hX hI H K hK => ?_) ?_
            · have h3 : xv 3 = .slice A l.length c := (H 3 (.edge (by kernel_rfl))).2
              have f46 : F.tmps.getD 46 undef = .slice A l.length c := (hF 46).trans (Eq.trans (by kernel_rfl) h3)
              have h4 : xv 4 = .int .i64 (m.length : Int) := (H 4 (.edge (by kernel_rfl))).2
              have f47 : F.tmps.getD 47 undef = .int .i64 (m.length : Int) := (hF 47).trans (Eq.trans (by kernel_rfl) h4)
              clear H hN hd hX hF
              refine on_plain rfl ?_
              go_simp
              exact hK.out _ _ rfl (Below.refl _ _) (by simpa [upB, upd] using hI)
            refine EachF.cons 7 rfl (fun dn xv W F hF hd hN hX hI H K hK => ?_) ?_
            · have h5 : xv 5 = .slice A m.length c := (H 5 (.edge (by kernel_rfl))).2
              have f48 : F.tmps.getD 48 undef = .slice A m.length c := (hF 48).trans (Eq.trans (by kernel_rfl) h5)
              clear H hN hd hX hF
              refine on_plain rfl ?_
              have g48 := f48
              rw [Array.getD_eq_getD_getElem?] at g48
              go_simp
              have hb : Below W.heap.size W (W.alloc (.cells #[.slice A m.length c] 25)) := (Below.refl _ _).alloc (Nat.le_refl _) _
              exact hK.out _ _ (IsP.made W [.slice A m.length c] _ _ (Parts.cons (sl_take ((Hl.out.below hI).more hI.size) hc hm hr (by omega)) Parts.nil)) hb (by simpa [upB, upd] using (hI.trans (hb.mono hI.size)))
            refine EachF.cons 8 rfl (fun dn xv W F hF hd hN hX hI H K hK => ?_) ?_
            · have h6 := (H 6 (.edge (by kernel_rfl))).2
              simp only [Dl] at h6
              have f49 : F.tmps.getD 49 undef = xv 6 := (hF 49).trans (by kernel_rfl)
              clear H hN hd hX hF
              refine on_plain rfl ?_
              go_simp
              refine (of_isP W (HTr.out.below hI HTr.out.lt) h6).mono ?_
              rintro e W' ⟨rfl, rfl⟩
              rw [HqL.out]
              exact hK.out _ _ rfl (Below.refl _ _) (by simpa [upB, upd] using hI)
            refine EachF.cons 9 rfl (fun dn xv W F hF hd hN hX hI H K hK => ?_) ?_
            · have f1 : F.tmps.getD 1 undef = .slice A' m.length c' := (hF 1).trans (by kernel_rfl)
              clear H hN hd hX hF
              refine on_plain rfl ?_
              go_simp
              exact hK.out _ _ rfl (Below.refl _ _) (by simpa [upB, upd] using hI)
            refine EachF.cons 10 rfl (fun dn xv W F hF hd hN hX hI H K hK => ?_) ?_
            · have f5 : F.tmps.getD 5 undef = .int .i64 (m.length : Int) := (hF 5).trans (by kernel_rfl)
              clear H hN hd hX hF
              refine on_plain rfl ?_
              go_simp
              exact hK.out _ _ rfl (Below.refl _ _) (by simpa [upB, upd] using hI)
            refine EachF.cons 11 rfl (fun dn xv W F hF hd hN hX hI H K hK => ?_) ?_
            · have h8 : xv 8 = .slice A' m.length c' := (H 8 (.edge (by kernel_rfl))).2
              have f51 : F.tmps.getD 51 undef = .slice A' m.length c' := (hF 51).trans (Eq.trans (by kernel_rfl) h8)
              have h9 : xv 9 = .int .i64 (m.length : Int) := (H 9 (.edge (by kernel_rfl))).2
              have f52 : F.tmps.getD 52 undef = .int .i64 (m.length : Int) := (hF 52).trans (Eq.trans (by kernel_rfl) h9)
              clear H hN hd hX hF
              refine on_plain rfl ?_
              go_simp
              exact hK.out _ _ rfl (Below.refl _ _) (by simpa [upB, upd] using hI)
            refine EachF.cons 12 rfl (fun dn xv W F hF hd hN hX hI H K hK => ?_) ?_
            · have h10 : xv 10 = .slice A' m.length c' := (H 10 (.edge (by kernel_rfl))).2
              have f53 : F.tmps.getD 53 undef = .slice A' m.length c' := (hF 53).trans (Eq.trans (by kernel_rfl) h10)
              clear H hN hd hX hF
              refine on_plain rfl ?_
              have g53 := f53
              rw [Array.getD_eq_getD_getElem?] at g53
              go_simp
              have hb : Below W.heap.size W (W.alloc (.cells #[.slice A' m.length c'] 25)) := (Below.refl _ _).alloc (Nat.le_refl _) _
              exact hK.out _ _ (IsP.made W [.slice A' m.length c'] _ _ (Parts.cons (sl_take ((Hm.out.below hI).more hI.size) hc' hm' hr' (by omega)) Parts.nil)) hb (by simpa [upB, upd] using (hI.trans (hb.mono hI.size)))
            refine EachF.cons 13 rfl (fun dn xv W F hF hd hN hX hI H K hK => ?_) ?_
            · have h11 := (H 11 (.edge (by kernel_rfl))).2
              simp only [Dl] at h11
              have f54 : F.tmps.getD 54 undef = xv 11 := (hF 54).trans (by kernel_rfl)
              clear H hN hd hX hF
              refine on_plain rfl ?_
              go_simp
              refine (of_isP W (HTr.out.below hI HTr.out.lt) h11).mono ?_
              rintro e W' ⟨rfl, rfl⟩
              rw [HqM.out]
              exact hK.out _ _ rfl (Below.refl _ _) (by simpa [upB, upd] using hI)
            refine EachF.cons 14 rfl (fun dn xv W F hF hd hN hX hI H K hK => ?_) ?_
            · have h7 : xv 7 = .int .u32 (sL : Int) := (H 7 (.edge (by kernel_rfl))).2
              have f50 : F.tmps.getD 50 undef = .int .u32 (sL : Int) := (hF 50).trans (Eq.trans (by kernel_rfl) h7)
              have h12 : xv 12 = .int .u32 (sM : Int) := (H 12 (.edge (by kernel_rfl))).2
              have f55 : F.tmps.getD 55 undef = .int .u32 (sM : Int) := (hF 55).trans (Eq.trans (by kernel_rfl) h12)
              clear H hN hd hX hF
              refine on_plain rfl ?_
              go_simp
              rw [Hx1.out]
              exact hK.out _ _ rfl (Below.refl _ _) (by simpa [upB, upd] using hI)
            refine EachF.cons 15 rfl (fun dn xv W F hF hd hN hX hI H K hK => ?_) ?_
            · have f7 : F.tmps.getD 7 undef = .slice A7 Z.length c7 := (hF 7).trans (by kernel_rfl)
              clear H hN hd hX hF
              refine on_plain rfl ?_
              go_simp
              exact hK.out _ _ rfl (Below.refl _ _) (by simpa [upB, upd] using hI)
            refine EachF.cons 16 rfl (fun dn xv W F hF hd hN hX hI H K hK => ?_) ?_
            · have h14 : xv 14 = .slice A7 Z.length c7 := (H 14 (.edge (by kernel_rfl))).2
              have f57 : F.tmps.getD 57 undef = .slice A7 Z.length c7 := (hF 57).trans (Eq.trans (by kernel_rfl) h14)
              clear H hN hd hX hF
              refine on_plain rfl ?_
              have g57 := f57
              rw [Array.getD_eq_getD_getElem?] at g57
              go_simp
              have hb : Below W.heap.size W (W.alloc (.cells #[.slice A7 Z.length c7] 25)) := (Below.refl _ _).alloc (Nat.le_refl _) _
              exact hK.out _ _ (IsP.made W [.slice A7 Z.length c7] _ _ (Parts.cons (sl_all ((HZ.out.below hI).more hI.size) hc7 hm7 (by omega)) Parts.nil)) hb (by simpa [upB, upd] using (hI.trans (hb.mono hI.size)))
            refine EachF.cons 17 rfl (fun dn xv W F hF hd hN hX hI H K hK => ?_) ?_
            · have h15 := (H 15 (.edge (by kernel_rfl))).2
              simp only [Dl] at h15
              have f58 : F.tmps.getD 58 undef = xv 15 := (hF 58).trans (by kernel_rfl)
              clear H hN hd hX hF
              refine on_plain rfl ?_
              go_simp
              refine (of_isP W (HTr.out.below hI HTr.out.lt) h15).mono ?_
              rintro e W' ⟨rfl, rfl⟩
              rw [HqZ.out]
              exact hK.out _ _ rfl (Below.refl _ _) (by simpa [upB, upd] using hI)
            refine EachF.cons 18 rfl (fun dn xv W F hF hd hN hX hI H K hK => ?_) ?_
            · have h13 : xv 13 = .int .u32 ((sL ^^^ sM : Nat) : Int) := (H 13 (.edge (by kernel_rfl))).2
              have f56 : F.tmps.getD 56 undef = .int .u32 ((sL ^^^ sM : Nat) : Int) := (hF 56).trans (Eq.trans (by kernel_rfl) h13)
              have h16 : xv 16 = .int .u32 (sZ : Int) := (H 16 (.edge (by kernel_rfl))).2
              have f59 : F.tmps.getD 59 undef = .int .u32 (sZ : Int) := (hF 59).trans (Eq.trans (by kernel_rfl) h16)
              clear H hN hd hX hF
              refine on_plain rfl ?_
              go_simp
              rw [Hx2.out]
              exact hK.out _ _ rfl (Below.refl _ _) (by simpa [upB, upd] using hI)
            refine EachF.cons 19 rfl (fun dn xv W F hF hd hN hX hI H K hK => ?_) ?_
            · have h2 : xv 2 = .int .u32 (sC : Int) := (H 2 (.edge (by kernel_rfl))).2
              have f45 : F.tmps.getD 45 undef = .int .u32 (sC : Int) := (hF 45).trans (Eq.trans (by kernel_rfl) h2)
              have h17 : xv 17 = .int .u32 (sC : Int) := (H 17 (.edge (by kernel_rfl))).2
              have f60 : F.tmps.getD 60 undef = .int .u32 (sC : Int) := (hF 60).trans (Eq.trans (by kernel_rfl) h17)
              clear H hN hd hX hF
              refine on_plain rfl ?_
              go_simp
              exact hK.out _ _ rfl (Below.refl _ _) (by simpa [upB, upd] using hI)
            refine EachF.cons 20 rfl (fun dn xv W F hF hd hN hX hI H K hK => ?_) ?_
            · have h18 : xv 18 = .bool true := (H 18 (.edge (by kernel_rfl))).2
              have f61 : F.tmps.getD 61 undef = .bool true := (hF 61).trans (Eq.trans (by kernel_rfl) h18)
              clear H hN hd hX hF
              refine on_plain rfl ?_
              go_simp
              exact hK.out _ _ rfl (Below.refl _ _) (by simpa [upB, upd] using hI)
            refine EachF.cons 21 rfl (fun dn xv W F hF hd hN hX hI H K hK => ?_) ?_
            · have h19 : xv 19 = .bool true := (H 19 (.edge (by kernel_rfl))).2
              have f62 : F.tmps.getD 62 undef = .bool true := (hF 62).trans (Eq.trans (by kernel_rfl) h19)
              clear H hN hd hX hF
              refine on_guard rfl (by kernel_rfl) f62 ?_
              go_simp
              refine (awake_any W (HTr.out.below hI HTr.out.lt)).mono ?_
              rintro e W' ⟨rfl, hb⟩
              exact hK.out _ W' rfl hb (by simpa [upB, upd] using (hI.trans (hb.mono hI.size)))
            refine EachF.cons 22 rfl (fun dn xv W F hF hd hN hX hI H K hK => ?_) ?_
            · have h19 : xv 19 = .bool true := (H 19 (.edge (by kernel_rfl))).2
              have f62 : F.tmps.getD 62 undef = .bool true := (hF 62).trans (Eq.trans (by kernel_rfl) h19)
              have h20 : xv 20 = .bool true := (H 20 (.edge (by kernel_rfl))).2
              have f63 : F.tmps.getD 63 undef = .bool true := (hF 63).trans (Eq.trans (by kernel_rfl) h20)
              clear H hN hd hX hF
              refine on_plain rfl ?_
              go_simp
              exact hK.out _ _ rfl (Below.refl _ _) (by simpa [upB, upd] using hI)
            refine EachF.cons 23 rfl (fun dn xv W F hF hd hN hX hI H K hK => ?_) ?_
            · have h21 : xv 21 = .bool true := (H 21 (.edge (by kernel_rfl))).2
              have f64 : F.tmps.getD 64 undef = .bool true := (hF 64).trans (Eq.trans (by kernel_rfl) h21)
              clear H hN hd hX hF
              refine on_plain rfl ?_
              go_simp
              exact hK.out _ _ rfl (Below.refl _ _) (by simpa [upB, upd] using hI)
            exact EachF.nil
          · intro dn xv W hI H
            have q22 : xv 22 = .bool true := (H 22 (of_decide_eq_true (by kernel_rfl))).2
            have hS : Below wr.heap.size wr W := hI
            clear H hI
            simp only [putAll, Act.put, List.setIfInBounds_toArray, List.set_cons_zero, List.set_cons_succ, Nat.reduceAdd, q22]
            clear q22

            go_wp2
            go_ret
            exact ⟨rfl, HB.out.trans (hS.mono HB.out.size)⟩


set_option maxRecDepth 100000 in
set_option maxHeartbeats 400000 in
theorem sumXors_ge (w : World) (hT : Table w) (A A' : Option Addr) (c c' : Nat) (l m : List UInt8) (h : Has w w.heap.size A (us l)) (h' : Has w w.heap.size A' (us m)) (hc : l.length ≤ c) (hm : c ≤ maxLen) (hr : l.length ≤ 140737488355328)
    (hc' : m.length ≤ c') (hm' : c' ≤ maxLen) (hr' : m.length ≤ 140737488355328) (hml : ¬ m.length < l.length) :
    Calls Tryd.prog 10 #[.slice A l.length c, .slice A' m.length c'] w fun e w' => e = .returned (.bool true) ∧ Below w.heap.size w w' := by
  have HT := Lib.hid hT
  have H := Lib.hid h
  have H' := Lib.hid h'
  clear hT h h'
  have hb0 : Below w.heap.size w (w.alloc (.cells #[.slice A l.length c] 25)) := (Below.refl _ _).alloc (Nat.le_refl _) _
  go_enter Tryd.func10, Tryd.ntmps10
  go_wp2_with fail
  refine (long_any _ (w.heap.size + 1) _ 1 [.slice A l.length c] [l] (has_new w #[.slice A l.length c] _) (Parts.one ((H.out.alloc (Nat.le_refl _) _).more (by omega)) hc hm hr) (by simp)).mono ?_
  rintro e w' ⟨rfl, rfl⟩
  rw [longB_one]
  generalize w.alloc (.cells #[.slice A l.length c] 25) = w0 at *
  have HT0 := Lib.hid (HT.out.below hb0 HT.out.lt)
  by_cases hlong : 65536 < l.length
  · go_wp2_with fail
    refine (awake_any w0 HT0.out).mono ?_
    rintro e w' ⟨rfl, hb⟩
    go_wp2
    go_ret
    exact ⟨rfl, hb0.trans (hb.mono hb0.size)⟩
  · rw [decide_eq_false hlong]
    go_wp2_with fail
    refine (long_any _ (w0.heap.size + 1) _ 1 [.slice A' m.length c'] [m] (has_new w0 #[.slice A' m.length c'] _) (Parts.one ((((H'.out.below hb0).more hb0.size).alloc (Nat.le_refl _) _).more (by omega)) hc' hm' hr') (by simp)).mono ?_
    rintro e w' ⟨rfl, rfl⟩
    rw [longB_one]
    have hb1 : Below w.heap.size w (w0.alloc (.cells #[.slice A' m.length c'] 25)) := hb0.alloc hb0.size _
    generalize w0.alloc (.cells #[.slice A' m.length c'] 25) = w1 at *
    have HT1 := Lib.hid (HT.out.below hb1 HT.out.lt)
    by_cases hlong2 : 65536 < m.length
    · go_wp2_with fail
      refine (awake_any w1 HT1.out).mono ?_
      rintro e w' ⟨rfl, hb⟩
      go_wp2
      go_ret
      exact ⟨rfl, hb1.trans (hb.mono hb1.size)⟩
    · rw [decide_eq_false hlong2]
      have HS0 := Lib.hid (show Sep w w1 [By (.slice none 0 0) [], By (.slice none 0 0) []] from sep_byNil (sep_byNil (Sep.start hb1)))
      have hl1 : l.length ≤ 65536 := by omega
      have hl2 : m.length ≤ 65536 := by omega
      clear HT0 HT1 hb0 hb1 hlong hlong2
      go_wp2
      go_loopw [6, 7, 8] (fun v6 v7 iv wr => ∃ k : Nat, k ≤ l.length ∧ iv = .int .i64 k ∧ Hid (Sep w wr [By v6 (List.zipWith (· ^^^ ·) (l.take k) (m.take k)), By v7 (List.replicate k 0)])) (fun _ _ iv _ => l.length - (intOf iv).toNat)
      case atStart => exact ⟨0, Nat.zero_le _, rfl, HS0⟩
      case round =>
        obtain ⟨k, hk, rfl, HS⟩ := hrel
        obtain ⟨A6, c6, e6, hc6, hm6, h6⟩ := sep_byForm (i := 0) HS.out rfl
        obtain ⟨A7, c7, e7, hc7, hm7, h7⟩ := sep_byForm (i := 1) HS.out rfl
        subst e6
        subst e7
        have hlC : (List.zipWith (· ^^^ ·) (l.take k) (m.take k)).length = k := by rw [List.length_zipWith, List.length_take, List.length_take]; omega
        have hlZ : (List.replicate k (0 : UInt8)).length = k := List.length_replicate
        by_cases hkt : k < l.length
        · obtain ⟨b, o, rfl, hbB, hcell0⟩ := H.out.at_ (show k < (us l).length by rw [us_length]; omega)
          obtain ⟨b2, o2, rfl, hbB2, hcell20⟩ := H'.out.at_ (show k < (us m).length by rw [us_length]; omega)
          have HCR := Lib.hid (show ∀ W, Below w.heap.size w W → W.cell? ⟨b, o + k, none⟩ = some (.int .u8 ((l[k]'(by omega)).toNat : Int)) ∧ W.cell? ⟨b2, o2 + k, none⟩ = some (.int .u8 ((m[k]'(by omega)).toNat : Int)) from fun W hW => by
            rw [hW.cell (p := ⟨b, o + k, none⟩) hbB, hcell0, hW.cell (p := ⟨b2, o2 + k, none⟩) hbB2, hcell20]
            simp [us])
          have HCS := Lib.hid (zip_snoc l m k (by omega) (by omega))
          have HZS := Lib.hid (show List.replicate (k + 1) (0 : UInt8) = List.replicate k 0 ++ [0] by rw [List.replicate_succ'])
          clear hcell0 hcell20 h6 h7
          generalize l[k]'(by omega) = x at *
          generalize m[k]'(by omega) = y at *
          have HXY := Lib.hid (show bits .xor .u8 (x.toNat : Int) (y.toNat : Int) = ((x ^^^ y).toNat : Int) by rw [u8_xor_nat _ _ x.toNat_lt y.toNat_lt, UInt8.toNat_xor])
          generalize List.zipWith (· ^^^ ·) (l.take k) (m.take k) = C at *
          generalize List.replicate k (0 : UInt8) = Z at *
          have hC : C.length ≤ 65536 := by omega
          have hZ : Z.length ≤ 65536 := by omega
          clear hlC hlZ
          have hkl : k < l.length := by omega
          have hkm : k < m.length := by omega
          go_wp2_with fail
          have hbel : ∀ (dn : Nat → Bool) (xv : Nat → Value) (W : World), (if dn 12 = true then Sep w W [By (xv 12) (C ++ [x ^^^ y]), By (.slice A7 Z.length c7) Z] else if dn 11 = true then Sep w W [By (xv 11) (C ++ [x ^^^ y]), By (.slice A7 Z.length c7) Z] else if dn 10 = true then Sep w W [By (.slice A6 C.length c6) C, By (.slice A7 Z.length c7) Z] ∧ IsB [x ^^^ y] (xv 10) W else Sep w W [By (.slice A6 C.length c6) C, By (.slice A7 Z.length c7) Z]) → Below w.heap.size w W := fun dn xv W h => by
            split at h
            · exact h.bel
            · split at h
              · exact h.bel
              · split at h
                · exact h.1.bel
                · exact h.bel
          refine wp_region_f (fun dn xv W => if dn 12 = true then Sep w W [By (xv 12) (C ++ [x ^^^ y]), By (.slice A7 Z.length c7) Z] else if dn 11 = true then Sep w W [By (xv 11) (C ++ [x ^^^ y]), By (.slice A7 Z.length c7) Z] else if dn 10 = true then Sep w W [By (.slice A6 C.length c6) C, By (.slice A7 Z.length c7) Z] ∧ IsB [x ^^^ y] (xv 10) W else Sep w W [By (.slice A6 C.length c6) C, By (.slice A7 Z.length c7) Z]) (fun _ _ => True) [fun v _ => v = .slice A6 C.length c6, fun v _ => v = .slice (some ⟨b, o, none⟩) l.length c, fun v _ => v = .int .i64 (k : Int), fun v _ => v = .pointer (some ⟨b, o + k, none⟩), fun v _ => v = .int .u8 (x.toNat : Int), fun v _ => v = .slice (some ⟨b2, o2, none⟩) m.length c', fun v _ => v = .int .i64 (k : Int), fun v _ => v = .pointer (some ⟨b2, o2 + k, none⟩), fun v _ => v = .int .u8 (y.toNat : Int), fun v _ => v = .int .u8 ((x ^^^ y).toNat : Int), fun v _ => True, fun v _ => True, fun v _ => True] (by kernel_rfl) (by kernel_rfl) (by kernel_rfl) (by kernel_rfl) (fun xv => by simpa using HS.out.drew)
            (by exact ⟨fun _ _ _ _ h => h, fun _ _ _ _ h => h, fun _ _ _ _ h => h, fun _ _ _ _ h => h, fun _ _ _ _ h => h, fun _ _ _ _ h => h, fun _ _ _ _ h => h, fun _ _ _ _ h => h, fun _ _ _ _ h => h, fun _ _ _ _ h => h, fun _ _ _ _ h => h, fun _ _ _ _ h => h, fun _ _ _ _ h => h, trivial⟩) ?_ ?_
          · refine EachF.cons 1 rfl (fun dn xv W F hF hd hN hX hI H K hK => ?_) ?_
            · have h12 : xv 12 = .slice A6 C.length c6 := hX 12 (hN 12 (.more (j := 11) (by kernel_rfl) (.edge (by kernel_rfl))))
              have f6 : F.tmps.getD 6 undef = .slice A6 C.length c6 := (hF 6).trans (Eq.trans (by kernel_rfl) h12)
              clear H hN hd hX hF
              refine on_plain rfl ?_
              go_simp
              exact hK.out _ _ rfl trivial (by simpa [upB, upd] using hI)
            refine EachF.cons 2 rfl (fun dn xv W F hF hd hN hX hI H K hK => ?_) ?_
            · have f0 : F.tmps.getD 0 undef = .slice (some ⟨b, o, none⟩) l.length c := (hF 0).trans (by kernel_rfl)
              clear H hN hd hX hF
              refine on_plain rfl ?_
              go_simp
              exact hK.out _ _ rfl trivial (by simpa [upB, upd] using hI)
            refine EachF.cons 3 rfl (fun dn xv W F hF hd hN hX hI H K hK => ?_) ?_
            · have f8 : F.tmps.getD 8 undef = .int .i64 (k : Int) := (hF 8).trans (by kernel_rfl)
              clear H hN hd hX hF
              refine on_plain rfl ?_
              go_simp
              exact hK.out _ _ rfl trivial (by simpa [upB, upd] using hI)
            refine EachF.cons 4 rfl (fun dn xv W F hF hd hN hX hI H K hK => ?_) ?_
            · have h1 : xv 1 = .slice (some ⟨b, o, none⟩) l.length c := (H 1 (.edge (by kernel_rfl))).2
              have f29 : F.tmps.getD 29 undef = .slice (some ⟨b, o, none⟩) l.length c := (hF 29).trans (Eq.trans (by kernel_rfl) h1)
              have h2 : xv 2 = .int .i64 (k : Int) := (H 2 (.edge (by kernel_rfl))).2
              have f30 : F.tmps.getD 30 undef = .int .i64 (k : Int) := (hF 30).trans (Eq.trans (by kernel_rfl) h2)
              clear H hN hd hX hF
              refine on_plain rfl ?_
              go_simp
              exact hK.out _ _ rfl trivial (by simpa [upB, upd] using hI)
            refine EachF.cons 5 rfl (fun dn xv W F hF hd hN hX hI H K hK => ?_) ?_
            · have h3 : xv 3 = .pointer (some ⟨b, o + k, none⟩) := (H 3 (.edge (by kernel_rfl))).2
              have f31 : F.tmps.getD 31 undef = .pointer (some ⟨b, o + k, none⟩) := (hF 31).trans (Eq.trans (by kernel_rfl) h3)
              obtain ⟨hc1, hc2⟩ := HCR.out W (hbel dn xv W hI)
              clear H hN hd hX hF
              refine on_plain rfl ?_
              go_simp
              exact hK.out _ _ rfl trivial (by simpa [upB, upd] using hI)
            refine EachF.cons 6 rfl (fun dn xv W F hF hd hN hX hI H K hK => ?_) ?_
            · have f1 : F.tmps.getD 1 undef = .slice (some ⟨b2, o2, none⟩) m.length c' := (hF 1).trans (by kernel_rfl)
              clear H hN hd hX hF
              refine on_plain rfl ?_
              go_simp
              exact hK.out _ _ rfl trivial (by simpa [upB, upd] using hI)
            refine EachF.cons 7 rfl (fun dn xv W F hF hd hN hX hI H K hK => ?_) ?_
            · have f8 : F.tmps.getD 8 undef = .int .i64 (k : Int) := (hF 8).trans (by kernel_rfl)
              clear H hN hd hX hF
              refine on_plain rfl ?_
              go_simp
              exact hK.out _ _ rfl trivial (by simpa [upB, upd] using hI)
            refine EachF.cons 8 rfl (fun dn xv W F hF hd hN hX hI H K hK => ?_) ?_
            · have h5 : xv 5 = .slice (some ⟨b2, o2, none⟩) m.length c' := (H 5 (.edge (by kernel_rfl))).2
              have f33 : F.tmps.getD 33 undef = .slice (some ⟨b2, o2, none⟩) m.length c' := (hF 33).trans (Eq.trans (by kernel_rfl) h5)
              have h6 : xv 6 = .int .i64 (k : Int) := (H 6 (.edge (by kernel_rfl))).2
              have f34 : F.tmps.getD 34 undef = .int .i64 (k : Int) := (hF 34).trans (Eq.trans (by kernel_rfl) h6)
              clear H hN hd hX hF
              refine on_plain rfl ?_
              go_simp
              exact hK.out _ _ rfl trivial (by simpa [upB, upd] using hI)
            refine EachF.cons 9 rfl (fun dn xv W F hF hd hN hX hI H K hK => ?_) ?_
            · have h7 : xv 7 = .pointer (some ⟨b2, o2 + k, none⟩) := (H 7 (.edge (by kernel_rfl))).2
              have f35 : F.tmps.getD 35 undef = .pointer (some ⟨b2, o2 + k, none⟩) := (hF 35).trans (Eq.trans (by kernel_rfl) h7)
              obtain ⟨hc1, hc2⟩ := HCR.out W (hbel dn xv W hI)
              clear H hN hd hX hF
              refine on_plain rfl ?_
              go_simp
              exact hK.out _ _ rfl trivial (by simpa [upB, upd] using hI)
            refine EachF.cons 10 rfl (fun dn xv W F hF hd hN hX hI H K hK => ?_) ?_
            · have h4 : xv 4 = .int .u8 (x.toNat : Int) := (H 4 (.edge (by kernel_rfl))).2
              have f32 : F.tmps.getD 32 undef = .int .u8 (x.toNat : Int) := (hF 32).trans (Eq.trans (by kernel_rfl) h4)
              have h8 : xv 8 = .int .u8 (y.toNat : Int) := (H 8 (.edge (by kernel_rfl))).2
              have f36 : F.tmps.getD 36 undef = .int .u8 (y.toNat : Int) := (hF 36).trans (Eq.trans (by kernel_rfl) h8)
              clear H hN hd hX hF
              refine on_plain rfl ?_
              go_simp
              rw [HXY.out]
              exact hK.out _ _ rfl trivial (by simpa [upB, upd] using hI)
            refine EachF.cons 11 rfl (fun dn xv W F hF hd hN hX hI H K hK => ?_) ?_
            · have h9 : xv 9 = .int .u8 ((x ^^^ y).toNat : Int) := (H 9 (.edge (by kernel_rfl))).2
              have f37 : F.tmps.getD 37 undef = .int .u8 ((x ^^^ y).toNat : Int) := (hF 37).trans (Eq.trans (by kernel_rfl) h9)
              have q11 : dn 11 = false := hN 11 (.edge (by kernel_rfl))
              have q12 : dn 12 = false := hN 12 (.more (j := 11) (by kernel_rfl) (.edge (by kernel_rfl)))
              have hS : Sep w W [By (.slice A6 C.length c6) C, By (.slice A7 Z.length c7) Z] := by simpa [hd, q11, q12] using hI
              clear hI hN hd hX hF H
              refine on_plain rfl ?_
              have g37 := f37
              rw [Array.getD_eq_getD_getElem?] at g37
              go_simp
              have hs : Sep w (W.alloc (.cells #[.int .u8 ((x ^^^ y).toNat : Int)] 5)) [By (.slice A6 C.length c6) C, By (.slice A7 Z.length c7) Z] ∧ IsB [x ^^^ y] (.slice (some ⟨W.heap.size, 0, none⟩) 1 1) (W.alloc (.cells #[.int .u8 ((x ^^^ y).toNat : Int)] 5)) := ⟨hS.alloc _, ⟨_, 1, rfl, (has_new W #[.int .u8 ((x ^^^ y).toNat : Int)] _).more (by simp)⟩⟩
              exact hK.out _ _ trivial trivial (by simpa [upB, upd, q11, q12] using hs)
            refine EachF.cons 12 rfl (fun dn xv W F hF hd hN hX hI H K hK => ?_) ?_
            · have h0 : xv 0 = .slice A6 C.length c6 := (H 0 (.edge (by kernel_rfl))).2
              have f28 : F.tmps.getD 28 undef = .slice A6 C.length c6 := (hF 28).trans (Eq.trans (by kernel_rfl) h0)
              have h10 := (H 10 (.edge (by kernel_rfl))).2
              simp only [Dl] at h10
              have f38 : F.tmps.getD 38 undef = xv 10 := (hF 38).trans (by kernel_rfl)
              have q10 : dn 10 = true := (H 10 (.edge (by kernel_rfl))).1
              have q12 : dn 12 = false := hN 12 (.edge (by kernel_rfl))
              have hS : Sep w W [By (.slice A6 C.length c6) C, By (.slice A7 Z.length c7) Z] ∧ IsB [x ^^^ y] (xv 10) W := by simpa [hd, q12, q10] using hI
              clear hI hN hd hX hF H
              refine on_plain rfl ?_
              obtain ⟨hS1, A1, c1, e1, hh1⟩ := hS
              rw [e1] at f38
              refine sep_opApp (i := 0) (m := [x ^^^ y]) (s := .tmp 28) (x := .tmp 38) (by rfl) f28 f38 hS1 rfl hh1 (by simp; omega) ?_
              intro v W' hs
              exact hK.out v _ trivial trivial (by simpa [upB, upd, q12] using hs)
            refine EachF.cons 13 rfl (fun dn xv W F hF hd hN hX hI H K hK => ?_) ?_
            · have h11 := (H 11 (.edge (by kernel_rfl))).2
              simp only [Dl] at h11
              have f39 : F.tmps.getD 39 undef = xv 11 := (hF 39).trans (by kernel_rfl)
              have q11 : dn 11 = true := (H 11 (.edge (by kernel_rfl))).1
              have hS : Sep w W [By (xv 11) (C ++ [x ^^^ y]), By (.slice A7 Z.length c7) Z] := by simpa [hd, q11] using hI
              clear hI hN hd hX hF H
              refine on_plain rfl ?_
              have hs := hS
              go_simp
              exact hK.out _ _ trivial trivial (by simpa [upB, upd] using hs)
            exact EachF.nil
          · intro dn xv W hI H
            have qe : dn 12 = true := (H 12 (of_decide_eq_true (by kernel_rfl))).1
            have hS : Sep w W [By (xv 12) (C ++ [x ^^^ y]), By (.slice A7 Z.length c7) Z] := by simpa [qe] using hI
            clear H hI qe
            simp only [putAll, Act.put, List.setIfInBounds_toArray, List.set_cons_zero, List.set_cons_succ, Nat.reduceAdd]

            obtain ⟨A8, c8, e8, _, _, _⟩ := sep_byForm (i := 0) hS rfl
            rw [e8] at hS ⊢
            have HS1 := Lib.hid hS
            clear hS e8
            go_wp2_with (at_builtin; go_must (refine sep_app (i := 1) (c := 1) (A := some ⟨W.heap.size, 0, none⟩) (m := [0]) rfl rfl (by rfl) (by rfl) (HS1.out.alloc _) rfl (has_lit (m := [0]) rfl) (by simp; omega) ?_); intro v9 w9 hs9)
            have HS9 := Lib.hid hs9
            clear hs9
            go_wp2
            go_roundw
            case rel => exact ⟨k + 1, by omega, by go_num, by rw [HCS.out, HZS.out]; have h9 := HS9.out; rw [List.length_append] at h9; exact Lib.hid h9⟩
            case measure => simp [intOf]; omega
        · obtain rfl : k = l.length := by omega
          have HC := Lib.hid h6
          have HZ := Lib.hid h7
          have Hl := Lib.hid ((H.out.below HS.out.bel).more HS.out.size)
          have Hm := Lib.hid ((H'.out.below HS.out.bel).more HS.out.size)
          have HTr := Lib.hid (HT.out.below HS.out.bel HT.out.lt)
          have HB := Lib.hid HS.out.bel
          have hX := of_xor3 (l.take l.length) (m.take l.length) (by rw [List.length_take, List.length_take]; omega)
          rw [show (l.take l.length).length = l.length by rw [List.length_take]; omega] at hX
          have hCl : (List.zipWith (· ^^^ ·) (l.take l.length) (m.take l.length)).length ≤ 65536 := by omega
          have hZl : (List.replicate l.length (0 : UInt8)).length ≤ 65536 := by omega
          clear hlC hlZ h6 h7 HS
          generalize List.zipWith (· ^^^ ·) (l.take l.length) (m.take l.length) = C at *
          generalize List.replicate l.length (0 : UInt8) = Z at *
          obtain ⟨sC, HqC⟩ : ∃ s, Hid (Crc.of [C].flatten = s) := ⟨_, Lib.hid rfl⟩
          obtain ⟨sL, HqL⟩ : ∃ s, Hid (Crc.of [l.take l.length].flatten = s) := ⟨_, Lib.hid rfl⟩
          obtain ⟨sM, HqM⟩ : ∃ s, Hid (Crc.of [m.take l.length].flatten = s) := ⟨_, Lib.hid rfl⟩
          obtain ⟨sZ, HqZ⟩ : ∃ s, Hid (Crc.of [Z].flatten = s) := ⟨_, Lib.hid rfl⟩
          have hX2 : sC = (sL ^^^ sM) ^^^ sZ := by
            rw [← HqC.out, ← HqL.out, ← HqM.out, ← HqZ.out]
            simpa using hX
          have hsL : sL < 4294967296 := by rw [← HqL.out]; exact Crc.of_lt _
          have hsM : sM < 4294967296 := by rw [← HqM.out]; exact Crc.of_lt _
          have hsZ : sZ < 4294967296 := by rw [← HqZ.out]; exact Crc.of_lt _
          have Hx1 := Lib.hid (show bits .xor .u32 (sL : Int) (sM : Int) = ((sL ^^^ sM : Nat) : Int) from u32_xor_nat _ _ hsL hsM)
          have Hx2 := Lib.hid (show bits .xor .u32 ((sL ^^^ sM : Nat) : Int) (sZ : Int) = (sC : Int) by rw [hX2]; exact u32_xor_nat _ _ (Nat.xor_lt_two_pow (n := 32) hsL hsM) hsZ)
          clear hX hX2 hsL hsM hsZ
          have hnc : l.length ≤ c := by omega
          have hnc' : l.length ≤ c' := by omega
          have hnl : l.length ≤ l.length := by omega
          have hnm : l.length ≤ m.length := by omega
          go_wp2_with fail
          refine wp_region_f (fun dn xv W => Below wr.heap.size wr W) (fun W W' => Below W.heap.size W W') [fun v _ => v = .slice A6 C.length c6, IsP [C], fun v _ => v = .int .u32 (sC : Int), fun v _ => v = .slice A l.length c, fun v _ => v = .int .i64 (l.length : Int), fun v _ => v = .slice A l.length c, IsP [l.take l.length], fun v _ => v = .int .u32 (sL : Int), fun v _ => v = .slice A' m.length c', fun v _ => v = .int .i64 (l.length : Int), fun v _ => v = .slice A' l.length c', IsP [m.take l.length], fun v _ => v = .int .u32 (sM : Int), fun v _ => v = .int .u32 ((sL ^^^ sM : Nat) : Int), fun v _ => v = .slice A7 Z.length c7, IsP [Z], fun v _ => v = .int .u32 (sZ : Int), fun v _ => v = .int .u32 (sC : Int), fun v _ => v = .bool true, fun v _ => v = .bool true, fun v _ => v = .bool true, fun v _ => v = .bool true, fun v _ => v = .bool true] (by kernel_rfl) (by kernel_rfl) (by kernel_rfl) (by kernel_rfl) (fun xv => by simpa using (Below.refl _ wr).drew)
            (by exact ⟨fun _ _ _ _ h => h, fun _ _ _ hR h => h.keep hR, fun _ _ _ _ h => h, fun _ _ _ _ h => h, fun _ _ _ _ h => h, fun _ _ _ _ h => h, fun _ _ _ hR h => h.keep hR, fun _ _ _ _ h => h, fun _ _ _ _ h => h, fun _ _ _ _ h => h, fun _ _ _ _ h => h, fun _ _ _ hR h => h.keep hR, fun _ _ _ _ h => h, fun _ _ _ _ h => h, fun _ _ _ _ h => h, fun _ _ _ hR h => h.keep hR, fun _ _ _ _ h => h, fun _ _ _ _ h => h, fun _ _ _ _ h => h, fun _ _ _ _ h => h, fun _ _ _ _ h => h, fun _ _ _ _ h => h, fun _ _ _ _ h => h, trivial⟩) ?_ ?_
          · refine EachF.cons 1 rfl (fun dn xv W F hF hd hN hX hI H K hK => ?_) ?_
            · have f6 : F.tmps.getD 6 undef = .slice A6 C.length c6 := (hF 6).trans (by kernel_rfl)
              clear H hN hd hX hF
              refine on_plain rfl ?_
              go_simp
              exact hK.out _ _ rfl (Below.refl _ _) (by simpa [upB, upd] using hI)
            refine EachF.cons 2 rfl (fun dn xv W F hF hd hN hX hI H K hK => ?_) ?_
            · have h0 : xv 0 = .slice A6 C.length c6 := (H 0 (.edge (by kernel_rfl))).2
              have f43 : F.tmps.getD 43 undef = .slice A6 C.length c6 := (hF 43).trans (Eq.trans (by kernel_rfl) h0)
              clear H hN hd hX hF
              refine on_plain rfl ?_
              have g43 := f43
              rw [Array.getD_eq_getD_getElem?] at g43
              go_simp
              have hb : Below W.heap.size W (W.alloc (.cells #[.slice A6 C.length c6] 25)) := (Below.refl _ _).alloc (Nat.le_refl _) _
              exact hK.out _ _ (IsP.made W [.slice A6 C.length c6] _ _ (Parts.cons (sl_all ((HC.out.below hI).more hI.size) hc6 hm6 (by omega)) Parts.nil)) hb (by simpa [upB, upd] using (hI.trans (hb.mono hI.size)))
            refine EachF.cons 3 rfl (fun dn xv W F hF hd hN hX hI H K hK => ?_) ?_
            · have h1 := (H 1 (.edge (by kernel_rfl))).2
              simp only [Dl] at h1
              have f44 : F.tmps.getD 44 undef = xv 1 := (hF 44).trans (by kernel_rfl)
              clear H hN hd hX hF
              refine on_plain rfl ?_
              go_simp
              refine (of_isP W (HTr.out.below hI HTr.out.lt) h1).mono ?_
              rintro e W' ⟨rfl, rfl⟩
              rw [HqC.out]
              exact hK.out _ _ rfl (Below.refl _ _) (by simpa [upB, upd] using hI)
            refine EachF.cons 4 rfl (fun dn xv W F hF hd hN hX hI H K hK => ?_) ?_
            · have f0 : F.tmps.getD 0 undef = .slice A l.length c := (hF 0).trans (by kernel_rfl)
              clear H hN hd hX hF
              refine on_plain rfl ?_
              go_simp
              exact hK.out _ _ rfl (Below.refl _ _) (by simpa [upB, upd] using hI)
            refine EachF.cons 5 rfl (fun dn xv W F hF hd hN hX hI H K hK => ?_) ?_
            · have f5 : F.tmps.getD 5 undef = .int .i64 (l.length : Int) := (hF 5).trans (by kernel_rfl)
              clear H hN hd hX hF
              refine on_plain rfl ?_
              go_simp
              exact hK.out _ _ rfl (Below.refl _ _) (by simpa [upB, upd] using hI)
            refine EachF.cons 6 rfl (fun dn xv W F hF hd hN hX hI H K hK => ?_) ?_
            · have h3 : xv 3 = .slice A l.length c := (H 3 (.edge (by kernel_rfl))).2
              have f46 : F.tmps.getD 46 undef = .slice A l.length c := (hF 46).trans (Eq.trans (by kernel_rfl) h3)
              have h4 : xv 4 = .int .i64 (l.length : Int) := (H 4 (.edge (by kernel_rfl))).2
              have f47 : F.tmps.getD 47 undef = .int .i64 (l.length : Int) := (hF 47).trans (Eq.trans (by kernel_rfl) h4)
              clear H hN hd hX hF
              refine on_plain rfl ?_
              go_simp
              exact hK.out _ _ rfl (Below.refl _ _) (by simpa [upB, upd] using hI)
            refine EachF.cons 7 rfl (fun dn xv W F hF hd hN hX hI H K hK => ?_) ?_
            · have h5 : xv 5 = .slice A l.length c := (H 5 (.edge (by kernel_rfl))).2
              have f48 : F.tmps.getD 48 undef = .slice A l.length c := (hF 48).trans (Eq.trans (by kernel_rfl) h5)
              clear H hN hd hX hF
              refine on_plain rfl ?_
              have g48 := f48
              rw [Array.getD_eq_getD_getElem?] at g48
              go_simp
              have hb : Below W.heap.size W (W.alloc (.cells #[.slice A l.length c] 25)) := (Below.refl _ _).alloc (Nat.le_refl _) _
              exact hK.out _ _ (IsP.made W [.slice A l.length c] _ _ (Parts.cons (sl_take ((Hl.out.below hI).more hI.size) hc hm hr (by omega)) Parts.nil)) hb (by simpa [upB, upd] using (hI.trans (hb.mono hI.size)))
            refine EachF.cons 8 rfl (fun dn xv W F hF hd hN hX hI H K hK => ?_) ?_
            · have h6 := (H 6 (.edge (by kernel_rfl))).2
              simp only [Dl] at h6
              have f49 : F.tmps.getD 49 undef = xv 6 := (hF 49).trans (by kernel_rfl)
              clear H hN hd hX hF
              refine on_plain rfl ?_
              go_simp
              refine (of_isP W (HTr.out.below hI HTr.out.lt) h6).mono ?_
              rintro e W' ⟨rfl, rfl⟩
              rw [HqL.out]
              exact hK.out _ _ rfl (Below.refl _ _) (by simpa [upB, upd] using hI)
            refine EachF.cons 9 rfl (fun dn xv W F hF hd hN hX hI H K hK => ?_) ?_
            · have f1 : F.tmps.getD 1 undef = .slice A' m.length c' := (hF 1).trans (by kernel_rfl)
              clear H hN hd hX hF
              refine on_plain rfl ?_
              go_simp
              exact hK.out _ _ rfl (Below.refl _ _) (by simpa [upB, upd] using hI)
            refine EachF.cons 10 rfl (fun dn xv W F hF hd hN hX hI H K hK => ?_) ?_
            · have f5 : F.tmps.getD 5 undef = .int .i64 (l.length : Int) := (hF 5).trans (by kernel_rfl)
              clear H hN hd hX hF
              refine on_plain rfl ?_
              go_simp
              exact hK.out _ _ rfl (Below.refl _ _) (by simpa [upB, upd] using hI)
            refine EachF.cons 11 rfl (fun dn xv W F hF hd hN hX hI H K hK => ?_) ?_
            · have h8 : xv 8 = .slice A' m.length c' := (H 8 (.edge (by kernel_rfl))).2
              have f51 : F.tmps.getD 51 undef = .slice A' m.length c' := (hF 51).trans (Eq.trans (by kernel_rfl) h8)
              have h9 : xv 9 = .int .i64 (l.length : Int) := (H 9 (.edge (by kernel_rfl))).2
              have f52 : F.tmps.getD 52 undef = .int .i64 (l.length : Int) := (hF 52).trans (Eq.trans (by kernel_rfl) h9)
              clear H hN hd hX hF
              refine on_plain rfl ?_
              go_simp
              exact hK.out _ _ rfl (Below.refl _ _) (by simpa [upB, upd] using hI)
            refine EachF.cons 12 rfl (fun dn xv W F hF hd hN hX hI H K hK => ?_) ?_
            · have h10 : xv 10 = .slice A' l.length c' := (H 10 (.edge (by kernel_rfl))).2
              have f53 : F.tmps.getD 53 undef = .slice A' l.length c' := (hF 53).trans (Eq.trans (by kernel_rfl) h10)
              clear H hN hd hX hF
              refine on_plain rfl ?_
              have g53 := f53
              rw [Array.getD_eq_getD_getElem?] at g53
              go_simp
              have hb : Below W.heap.size W (W.alloc (.cells #[.slice A' l.length c'] 25)) := (Below.refl _ _).alloc (Nat.le_refl _) _
              exact hK.out _ _ (IsP.made W [.slice A' l.length c'] _ _ (Parts.cons (sl_take ((Hm.out.below hI).more hI.size) hc' hm' hr' (by omega)) Parts.nil)) hb (by simpa [upB, upd] using (hI.trans (hb.mono hI.size)))
            refine EachF.cons 13 rfl (fun dn xv W F hF hd hN hX hI H K hK => ?_) ?_
            · have h11 := (H 11 (.edge (by kernel_rfl))).2
              simp only [Dl] at h11
              have f54 : F.tmps.getD 54 undef = xv 11 := (hF 54).trans (by kernel_rfl)
              clear H hN hd hX hF
              refine on_plain rfl ?_
              go_simp
              refine (of_isP W (HTr.out.below hI HTr.out.lt) h11).mono ?_
              rintro e W' ⟨rfl, rfl⟩
              rw [HqM.out]
              exact hK.out _ _ rfl (Below.refl _ _) (by simpa [upB, upd] using hI)
            refine EachF.cons 14 rfl (fun dn xv W F hF hd hN hX hI H K hK => ?_) ?_
            · have h7 : xv 7 = .int .u32 (sL : Int) := (H 7 (.edge (by kernel_rfl))).2
              have f50 : F.tmps.getD 50 undef = .int .u32 (sL : Int) := (hF 50).trans (Eq.trans (by kernel_rfl) h7)
              have h12 : xv 12 = .int .u32 (sM : Int) := (H 12 (.edge (by kernel_rfl))).2
              have f55 : F.tmps.getD 55 undef = .int .u32 (sM : Int) := (hF 55).trans (Eq.trans (by kernel_rfl) h12)
              clear H hN hd hX hF
              refine on_plain rfl ?_
              go_simp
              rw [Hx1.out]
              exact hK.out _ _ rfl (Below.refl _ _) (by simpa [upB, upd] using hI)
            refine EachF.cons 15 rfl (fun dn xv W F hF hd hN hX hI H K hK => ?_) ?_
            · have f7 : F.tmps.getD 7 undef = .slice A7 Z.length c7 := (hF 7).trans (by kernel_rfl)
              clear H hN hd hX hF
              refine on_plain rfl ?_
              go_simp
              exact hK.out _ _ rfl (Below.refl _ _) (by simpa [upB, upd] using hI)
            refine EachF.cons 16 rfl (fun dn xv W F hF hd hN hX hI H K hK => ?_) ?_
            · have h14 : xv 14 = .slice A7 Z.length c7 := (H 14 (.edge (by kernel_rfl))).2
              have f57 : F.tmps.getD 57 undef = .slice A7 Z.length c7 := (hF 57).trans (Eq.trans (by kernel_rfl) h14)
              clear H hN hd hX hF
              refine on_plain rfl ?_
              have g57 := f57
              rw [Array.getD_eq_getD_getElem?] at g57
              go_simp
              have hb : Below W.heap.size W (W.alloc (.cells #[.slice A7 Z.length c7] 25)) := (Below.refl _ _).alloc (Nat.le_refl _) _
              exact hK.out _ _ (IsP.made W [.slice A7 Z.length c7] _ _ (Parts.cons (sl_all ((HZ.out.below hI).more hI.size) hc7 hm7 (by omega)) Parts.nil)) hb (by simpa [upB, upd] using (hI.trans (hb.mono hI.size)))
            refine EachF.cons 17 rfl (fun dn xv W F hF hd hN hX hI H K hK => ?_) ?_
            · have h15 := (H 15 (.edge (by kernel_rfl))).2
              simp only [Dl] at h15
              have f58 : F.tmps.getD 58 undef = xv 15 := (hF 58).trans (by kernel_rfl)
              clear H hN hd hX hF
              refine on_plain rfl ?_
              go_simp
              refine (of_isP W (HTr.out.below hI HTr.out.lt) h15).mono ?_
              rintro e W' ⟨rfl, rfl⟩
              rw [HqZ.out]
              exact hK.out _ _ rfl (Below.refl _ _) (by simpa [upB, upd] using hI)
            refine EachF.cons 18 rfl (fun dn xv W F hF hd hN hX hI H K hK => ?_) ?_
            · have h13 : xv 13 = .int .u32 ((sL ^^^ sM : Nat) : Int) := (H 13 (.edge (by kernel_rfl))).2
              have f56 : F.tmps.getD 56 undef = .int .u32 ((sL ^^^ sM : Nat) : Int) := (hF 56).trans (Eq.trans (by kernel_rfl) h13)
              have h16 : xv 16 = .int .u32 (sZ : Int) := (H 16 (.edge (by kernel_rfl))).2
              have f59 : F.tmps.getD 59 undef = .int .u32 (sZ : Int) := (hF 59).trans (Eq.trans (by kernel_rfl) h16)
              clear H hN hd hX hF
              refine on_plain rfl ?_
              go_simp
              rw [Hx2.out]
              exact hK.out _ _ rfl (Below.refl _ _) (by simpa [upB, upd] using hI)
            refine EachF.cons 19 rfl (fun dn xv W F hF hd hN hX hI H K hK => ?_) ?_
            · have h2 : xv 2 = .int .u32 (sC : Int) := (H 2 (.edge (by kernel_rfl))).2
              have f45 : F.tmps.getD 45 undef = .int .u32 (sC : Int) := (hF 45).trans (Eq.trans (by kernel_rfl) h2)
              have h17 : xv 17 = .int .u32 (sC : Int) := (H 17 (.edge (by kernel_rfl))).2
              have f60 : F.tmps.getD 60 undef = .int .u32 (sC : Int) := (hF 60).trans (Eq.trans (by kernel_rfl) h17)
              clear H hN hd hX hF
              refine on_plain rfl ?_
              go_simp
              exact hK.out _ _ rfl (Below.refl _ _) (by simpa [upB, upd] using hI)
            refine EachF.cons 20 rfl (fun dn xv W F hF hd hN hX hI H K hK => ?_) ?_
            · have h18 : xv 18 = .bool true := (H 18 (.edge (by kernel_rfl))).2
              have f61 : F.tmps.getD 61 undef = .bool true := (hF 61).trans (Eq.trans (by kernel_rfl) h18)
              clear H hN hd hX hF
              refine on_plain rfl ?_
              go_simp
              exact hK.out _ _ rfl (Below.refl _ _) (by simpa [upB, upd] using hI)
            refine EachF.cons 21 rfl (fun dn xv W F hF hd hN hX hI H K hK => ?_) ?_
            · have h19 : xv 19 = .bool true := (H 19 (.edge (by kernel_rfl))).2
              have f62 : F.tmps.getD 62 undef = .bool true := (hF 62).trans (Eq.trans (by kernel_rfl) h19)
              clear H hN hd hX hF
              refine on_guard rfl (by kernel_rfl) f62 ?_
              go_simp
              refine (awake_any W (HTr.out.below hI HTr.out.lt)).mono ?_
              rintro e W' ⟨rfl, hb⟩
              exact hK.out _ W' rfl hb (by simpa [upB, upd] using (hI.trans (hb.mono hI.size)))
            refine EachF.cons 22 rfl (fun dn xv W F hF hd hN hX hI H K hK => ?_) ?_
            · have h19 : xv 19 = .bool true := (H 19 (.edge (by kernel_rfl))).2
              have f62 : F.tmps.getD 62 undef = .bool true := (hF 62).trans (Eq.trans (by kernel_rfl) h19)
              have h20 : xv 20 = .bool true := (H 20 (.edge (by kernel_rfl))).2
              have f63 : F.tmps.getD 63 undef = .bool true := (hF 63).trans (Eq.trans (by kernel_rfl) h20)
              clear H hN hd hX hF
              refine on_plain rfl ?_
              go_simp
              exact hK.out _ _ rfl (Below.refl _ _) (by simpa [upB, upd] using hI)
            refine EachF.cons 23 rfl (fun dn xv W F hF hd hN hX hI H K hK => ?_) ?_
            · have h21 : xv 21 = .bool true := (H 21 (.edge (by kernel_rfl))).2
              have f64 : F.tmps.getD 64 undef = .bool true := (hF 64).trans (Eq.trans (by kernel_rfl) h21)
              clear H hN hd hX hF
              refine on_plain rfl ?_
              go_simp
              exact hK.out _ _ rfl (Below.refl _ _) (by simpa [upB, upd] using hI)
            exact EachF.nil
          · intro dn xv W hI H
            have q22 : xv 22 = .bool true := (H 22 (of_decide_eq_true (by kernel_rfl))).2
            have hS : Below wr.heap.size wr W := hI
            clear H hI
            simp only [putAll, Act.put, List.setIfInBounds_toArray, List.set_cons_zero, List.set_cons_succ, Nat.reduceAdd, q22]
            clear q22

            go_wp2
            go_ret
            exact ⟨rfl, HB.out.trans (hS.mono HB.out.size)⟩


theorem sumXors_walk (w : World) (hT : Table w) (A A' : Option Addr) (c c' : Nat) (l m : List UInt8) (h : Has w w.heap.size A (us l)) (h' : Has w w.heap.size A' (us m)) (hc : l.length ≤ c) (hm : c ≤ maxLen) (hr : l.length ≤ 140737488355328)
    (hc' : m.length ≤ c') (hm' : c' ≤ maxLen) (hr' : m.length ≤ 140737488355328) :
    Calls Tryd.prog 10 #[.slice A l.length c, .slice A' m.length c'] w fun e w' => e = .returned (.bool true) ∧ Below w.heap.size w w' := by
  by_cases hml : m.length < l.length
  · exact sumXors_lt w hT A A' c c' l m h h' hc hm hr hc' hm' hr' hml
  · exact sumXors_ge w hT A A' c c' l m h h' hc hm hr hc' hm' hr' hml

end Go.Proofs.YtmjhdjiglnkoiaaDoor
