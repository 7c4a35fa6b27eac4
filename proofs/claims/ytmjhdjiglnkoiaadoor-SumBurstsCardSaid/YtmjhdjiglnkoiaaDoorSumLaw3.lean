/- The walks of the laws SumBack and SumOf. -/
import Derived.Test.YtmjhdjiglnkoiaaDoorSumLaw2
namespace Go.Proofs.YtmjhdjiglnkoiaaDoor
open Go Go.RowKit
set_option linter.unusedVariables false

theorem sealed_length (l : List UInt8) : (Crc.sealed l).length = l.length + 4 := by simp [Crc.sealed, Crc.le4]
theorem sealed_take (l : List UInt8) : (Crc.sealed l).take l.length = l := by simp [Crc.sealed]

set_option maxHeartbeats 400000 in
theorem sumBack_walk (w : World) (hT : Table w) (A : Option Addr) (c : Nat) (l : List UInt8) (h : Has w w.heap.size A (us l)) (hc : l.length ≤ c) (hm : c ≤ maxLen) (hr : l.length ≤ 140737488355328) :
    Calls Tryd.prog 7 #[.slice A l.length c] w fun e w' => e = .returned (.bool true) ∧ Below w.heap.size w w' := by
  have HT := Lib.hid hT
  clear hT
  have H := Lib.hid h
  clear h
  go_enter Tryd.func7, Tryd.ntmps7
  go_wp2_with fail
  refine (long_any _ (w.heap.size + 1) _ 1 [.slice A l.length c] [l] (has_new w #[.slice A l.length c] _) (Parts.one ((H.out.alloc (Nat.le_refl _) _).more (by omega)) hc hm hr) (by simp)).mono ?_
  rintro e w' ⟨rfl, rfl⟩
  rw [longB_one]
  have hb0 : Below w.heap.size w (w.alloc (.cells #[.slice A l.length c] 25)) := (Below.refl _ _).alloc (Nat.le_refl _) _
  generalize w.alloc (.cells #[.slice A l.length c] 25) = w0 at *
  have H0 := Lib.hid (H.out.below hb0)
  have HT0 := Lib.hid (HT.out.below hb0 HT.out.lt)
  by_cases hlong : 65536 < l.length
  · go_wp2_with fail
    refine (awake_any w0 HT0.out).mono ?_
    rintro e w' ⟨rfl, hb⟩
    go_wp2
    go_ret
    exact ⟨rfl, hb0.trans (hb.mono hb0.size)⟩
  · go_wp2_with fail
    refine (seal_any w0 HT0.out w.heap.size A c l H0.out hb0.size hc hm (by omega)).mono ?_
    rintro e w1 ⟨v1, rfl, ho1, hb1⟩
    obtain ⟨A1, c1, rfl, hc1, hm1, h1⟩ := ho1.form
    clear ho1
    have hb1' := hb0.trans (hb1.mono hb0.size)
    have HT1 := Lib.hid (HT.out.below hb1' HT.out.lt)
    have H1 := Lib.hid h1
    have HTk := Lib.hid (show Has w1 w1.heap.size A1 (us l) by have := h1.take l.length; rwa [← us_take, sealed_take] at this)
    clear h1
    have HSL := Lib.hid (sealed_length l)
    rw [sealed_length] at hc1 ⊢
    go_wp2_with fail
    refine (same_any w1 w1.heap.size A1 A c1 c l l HTk.out ((H.out.below hb1').more hb1'.size)).mono ?_
    rintro e w2 ⟨rfl, rfl⟩
    simp only [decide_true]
    go_wp2_with fail
    have ho := open_any w1 HT1.out w1.heap.size A1 c1 (Crc.sealed l) H1.out (Nat.le_refl _) (by rw [HSL.out]; exact hc1) hm1 (by rw [HSL.out]; omega)
    rw [HSL.out] at ho
    refine ho.mono ?_
    rintro e w2 (⟨m, v2, hop, rfl, ho2, hb2⟩ | ⟨hop, rfl, hb2⟩)
    rotate_left
    · rw [Crc.opened_sealed] at hop; cases hop
    obtain rfl : l = m := by rw [Crc.opened_sealed] at hop; injection hop
    clear hop ho
    obtain ⟨A2, c2, rfl, hc2, hm2, h2⟩ := ho2.form
    clear ho2
    have hb2' := hb1'.trans (hb2.mono hb1'.size)
    go_wp2_with fail
    refine (same_any w2 w2.heap.size A2 A c2 c l l h2 ((H.out.below hb2').more hb2'.size)).mono ?_
    rintro e w3 ⟨rfl, rfl⟩
    simp only [decide_true]
    go_wp2_with fail
    refine (awake_any w2 (HT.out.below hb2' HT.out.lt)).mono ?_
    rintro e w5 ⟨rfl, hb6⟩
    go_wp2
    go_ret
    exact ⟨rfl, hb2'.trans (hb6.mono hb2'.size)⟩

theorem quiet_w {P : Program} {f : FuncId} {args : Array Value} {w : World} {n : Nat} {v : Value}
    (h : Calls P f args (w.drewN n) fun e w' => e = .returned v ∧ w.drewN n = w') : Calls P f args (w.drewN n) fun e w'' => e = .returned v ∧ ∃ m, w'' = w.drewN m :=
  h.mono fun _ _ ⟨he, hm⟩ => ⟨he, n, hm.symm⟩
theorem Parts.below {w w' : World} {B : Nat} {vs : List Value} {ls : List (List UInt8)} (h : Parts w B vs ls) (hb : Below B w w') : Parts w' B vs ls :=
  ⟨h.1, fun i v l hv hl => by
    obtain ⟨A, n, c, h1, h2, h3, h4, h5, h6⟩ := h.2 i v l hv hl
    exact ⟨A, n, c, h1, h2, h3, h4, h5, h6.below hb⟩⟩
theorem flatten_take_drop (ls : List (List UInt8)) (k : Nat) (hk : k < ls.length) : (ls.flatten.drop (ls.take k).flatten.length).take ls[k].length = ls[k] := by
  have h1 : ls.flatten = (ls.take k).flatten ++ (ls[k] ++ (ls.drop (k + 1)).flatten) := by
    rw [← List.flatten_cons, ← List.flatten_append, ← List.drop_eq_getElem_cons hk, List.take_append_drop]
  rw [h1, List.drop_left, List.take_left]
theorem flatten_le (ls : List (List UInt8)) (k : Nat) (hk : k < ls.length) : (ls.take k).flatten.length + ls[k].length ≤ ls.flatten.length := by
  have h1 : ls.flatten = (ls.take k).flatten ++ (ls[k] ++ (ls.drop (k + 1)).flatten) := by
    rw [← List.flatten_cons, ← List.flatten_append, ← List.drop_eq_getElem_cons hk, List.take_append_drop]
  rw [h1]
  simp

set_option maxHeartbeats 800000 in
theorem sumOf_walk (w : World) (hT : Table w) (A : Option Addr) (c : Nat) (vs : List Value) (ls : List (List UInt8)) (hA : Has w w.heap.size A vs) (hP : Parts w w.heap.size vs ls) (hc : vs.length ≤ c) (hm : c ≤ maxLen) (hr : vs.length ≤ 140737488355328) :
    Calls Tryd.prog 3 #[.slice A vs.length c] w fun e w' => e = .returned (.bool true) ∧ Below w.heap.size w w' := by
  have HT := Lib.hid hT
  clear hT
  have HA := Lib.hid hA
  clear hA
  have HP := Lib.hid hP
  clear hP
  go_enter Tryd.func3, Tryd.ntmps3
  go_wp2_with fail
  refine (long_any w w.heap.size A c vs ls HA.out HP.out (by omega)).mono ?_
  rintro e w' ⟨rfl, rfl⟩
  cases hlong : longB 0 0 ls with
  | true =>
    clear hlong
    go_wp2_with fail
    refine (awake_any w HT.out).mono ?_
    rintro e w' ⟨rfl, hb⟩
    go_wp2
    go_ret
    exact ⟨rfl, hb⟩
  | false =>
    obtain ⟨hlen, _, hcnt⟩ := longB_false ls 0 0 hlong
    clear hlong
    go_wp2
    go_loopw [3, 4] (fun v i wr => ∃ k : Nat, k ≤ vs.length ∧ i = .int .i64 k ∧ Hid (Own wr w.heap.size v (ls.take k).flatten) ∧ Hid (Below w.heap.size w wr)) (fun _ i _ => vs.length - (intOf i).toNat)
    case atStart => exact ⟨0, Nat.zero_le _, rfl, Own.nil _ _, Lib.hid (Below.refl _ _)⟩
    case round =>
      obtain ⟨k, hk, rfl, HO, HB⟩ := hrel
      by_cases hlt : k < vs.length
      · obtain ⟨b, o, rfl, hb, hcell0⟩ := HA.out.at_ hlt
        have hlk : k < ls.length := by have := HP.out.1; omega
        obtain ⟨A', c', hv, hc1, hc2, hr2, hh⟩ := HP.out.at_ hlt
        have hcell : wr.cell? ⟨b, o + k, none⟩ = some (.slice A' ls[k].length c') := by rw [HB.out.cell (p := ⟨b, o + k, none⟩) hb, hcell0, hv]
        have HH := Lib.hid (hh.below HB.out)
        have HF := Lib.hid (show (ls.take (k + 1)).flatten = (ls.take k).flatten ++ ls[k] by rw [List.take_succ_eq_append_getElem hlk, List.flatten_append, List.flatten_cons, List.flatten_nil, List.append_nil])
        have hle := flatten_le ls k hlk
        clear hh hv hcell0
        generalize ls[k] = x at *
        generalize (ls.take k).flatten = y at *
        go_wp2_with (at_builtin; go_must (refine wp_app (c := c') (base := w.heap.size) rfl rfl (by rfl) (by rfl) (l := y) (m := x) HO.out HH.out (by omega) HB.out.size ?_); intro v' w1 hown1 hb1 _ _)
        go_roundw
        case rel => exact ⟨k + 1, by omega, by go_num, by rw [HF.out]; exact hown1, Lib.hid (HB.out.trans hb1)⟩
        case measure => simp [intOf]; omega
      · have hkl : k = vs.length := by omega
        have HK := Lib.hid (show (ls.take k).flatten = ls.flatten by rw [hkl, HP.out.1, List.take_length])
        clear hkl
        rw [HK.out] at HO
        clear HK
        obtain ⟨al, hal⟩ : ∃ al, ls.flatten = al := ⟨_, rfl⟩
        rw [hal] at HO hlen
        have HAL := Lib.hid hal
        clear hal
        obtain ⟨A1, c1, hv1, hc1, hm1, h1⟩ := HO.out.form
        have H1 := Lib.hid h1
        subst hv1
        clear h1 HO
        have hbr := HB.out
        clear HB
        obtain ⟨wo, rfl⟩ : ∃ wo : World, wo = wr := ⟨_, rfl⟩
        go_wp2_with fail
        refine (copy_any wo wo.heap.size A1 c1 al H1.out (Nat.le_refl _) (by omega)).mono ?_
        rintro e w2 ⟨v2, rfl, ho2, hb2⟩
        obtain ⟨A2, c2, rfl, hc2, hm2, h2⟩ := ho2.form
        have H2 := Lib.hid h2
        clear ho2 h2
        have hb2' := hbr.trans (hb2.mono hbr.size)
        go_wp2_with fail
        refine (of_any w2 (HT.out.below hb2' HT.out.lt) w.heap.size A c vs ls (HA.out.below hb2') (HP.out.below hb2') (by omega)).mono ?_
        rintro e w3 ⟨rfl, rfl⟩
        rw [HAL.out]
        go_wp2_with fail
        refine (refOf_any w2 wo.heap.size A1 c1 al (H1.out.below hb2) (by omega)).mono ?_
        rintro e w3 ⟨rfl, rfl⟩
        have hcrc := Crc.of_lt al
        generalize Crc.of al = s at *
        go_wp2
        go_loopw [6, 7] (fun n i wq => ∃ k : Nat, k ≤ vs.length ∧ i = .int .i64 k ∧ n = .int .i64 ((ls.take k).flatten.length : Nat) ∧ Hid (Below w2.heap.size w2 wq)) (fun _ i _ => vs.length - (intOf i).toNat)
        case atStart => exact ⟨0, Nat.zero_le _, rfl, rfl, Lib.hid (Below.refl _ _)⟩
        case round =>
          obtain ⟨k2, hk2, rfl, rfl, HB2⟩ := hrel
          by_cases hlt2 : k2 < vs.length
          · obtain ⟨b, o, rfl, hb, hcell0⟩ := HA.out.at_ hlt2
            have hlk : k2 < ls.length := by have := HP.out.1; omega
            obtain ⟨A', c', hv, hc1', hc2', hr2, hh⟩ := HP.out.at_ hlt2
            have hbq := hb2'.trans (HB2.out.mono hb2'.size)
            have hcell : wr.cell? ⟨b, o + k2, none⟩ = some (.slice A' ls[k2].length c') := by rw [hbq.cell (p := ⟨b, o + k2, none⟩) hb, hcell0, hv]
            have HH := Lib.hid (hh.below hbq)
            have HF := Lib.hid (show ((ls.take (k2 + 1)).flatten.length : Nat) = (ls.take k2).flatten.length + ls[k2].length by rw [List.take_succ_eq_append_getElem hlk, List.flatten_append, List.flatten_cons, List.flatten_nil, List.append_nil, List.length_append])
            have hle := flatten_le ls k2 hlk
            have HD := Lib.hid (flatten_take_drop ls k2 hlk)
            rw [HAL.out] at hle HD
            clear hh hv hcell0
            generalize ls[k2] = x at *
            generalize (ls.take k2).flatten.length = n at *
            have H3 := Lib.hid (show Has wr w2.heap.size (if c2 = n then A2 else A2.map (·.add n)) (us x) by
              have h1 := (H2.out.below HB2.out).drop n 1 c2 (by rw [us_length]; omega)
              rw [Nat.mul_one, ← us_drop] at h1
              have h2 := h1.take x.length
              rw [← us_take, HD.out] at h2
              exact h2)
            have i0 : (0 : Int) ≤ (n : Int) := by omega
            have i1 : (n : Int) ≤ (n : Int) + (x.length : Int) := by omega
            have i2 : (n : Int) + (x.length : Int) ≤ (c2 : Int) := by omega
            go_wp2
            go_quiet ((go_at_call 16; exact quiet_w (same_any _ w2.heap.size _ _ _ _ x x (HH.out.more hb2'.size) H3.out)))
            simp only [decide_true]
            go_wp2
            go_roundw
            case rel => exact ⟨k2 + 1, by omega, by go_num, by rw [HF.out]; go_num, Lib.hid (below_drewN HB2.out nq)⟩
            case measure => simp [intOf]; omega
          · have hbq := hb2'.trans (HB2.out.mono hb2'.size)
            go_wp2_with fail
            refine (awake_any wr (HT.out.below hbq HT.out.lt)).mono ?_
            rintro e w5 ⟨rfl, hb6⟩
            go_wp2
            go_ret
            exact ⟨rfl, hbq.trans (hb6.mono hbq.size)⟩
end Go.Proofs.YtmjhdjiglnkoiaaDoor
