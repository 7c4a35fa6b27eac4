/- The walks of the laws SumSeals and SumOpens. -/
import Derived.Test.YtmjhdjiglnkoiaaDoorSumLaw
namespace Go.Proofs.YtmjhdjiglnkoiaaDoor
open Go Go.RowKit
set_option linter.unusedVariables false

/-- a byte of a row of the call's own: it is read, and written -/
theorem Own.at_ {w : World} {base n c : Nat} {A : Option Addr} {l : List UInt8} {k : Nat} (h : Own w base (.slice A n c) l) (hk : k < l.length) :
    ∃ g, A = some ⟨g, 0, none⟩ ∧ base ≤ g ∧ g < w.heap.size ∧ w.cell? ⟨g, k, none⟩ = some (.int .u8 ((l[k]).toNat : Int)) ∧ w.frozen? ⟨g, k, none⟩ = false ∧
      ∀ b : UInt8, Own (w.setCell ⟨g, k, none⟩ (.int .u8 (b.toNat : Int))) base (.slice A n c) (l.set k b) := by
  have h0 := h
  rcases h.2 with ⟨_, hn⟩ | ⟨g, cap, cur, hv, hb, hh, hnc, hm, hs, ht⟩
  · omega
  · injection hv with hA hn hc
    subst hA hn hc
    have hlt : g < w.heap.size := by
      rcases Nat.lt_or_ge g w.heap.size with hlt | hge
      · exact hlt
      · rw [Array.getElem?_eq_none hge] at hh; cases hh
    refine ⟨g, rfl, hb, hlt, ?_, ?_, ?_⟩
    · rw [h0.cellAt k (by omega), us_at hk]
    · exact h0.frozenAt k
    · intro b
      have := h0.stored k (.int .u8 (b.toNat : Int))
      unfold Own
      rw [List.length_set]
      have e : us (l.set k b) = (us l).set k (.int .u8 (b.toNat : Int)) := by simp [us]
      rw [e]
      exact this.1

theorem own_below {w w' : World} {base B : Nat} {v : Value} {l : List UInt8} (h : Own w base v l) (hb : Below B w w') (hB : w.heap.size ≤ B) : Own w' base v l := by
  refine ⟨h.1, ?_⟩
  rcases h.2 with h0 | ⟨g, cap, cur, h1, h2, h3, h4⟩
  · exact .inl h0
  · refine .inr ⟨g, cap, cur, h1, h2, ?_, h4⟩
    have hlt : g < w.heap.size := by
      rcases Nat.lt_or_ge g w.heap.size with hlt | hge
      · exact hlt
      · rw [Array.getElem?_eq_none hge] at h3; cases h3
    rw [hb.block g (by omega)]; exact h3
theorem u8_succ (b : UInt8) : ∃ b' : UInt8, ((b.toNat : Int) + 1) % 256 = (b'.toNat : Int) := ⟨b + 1, by
  rw [UInt8.toNat_add]
  have := b.toNat_lt
  simp⟩

set_option maxHeartbeats 400000 in
theorem sumSeals_walk (w : World) (hT : Table w) (A : Option Addr) (c : Nat) (l : List UInt8) (h : Has w w.heap.size A (us l)) (hc : l.length ≤ c) (hm : c ≤ maxLen) (hr : l.length ≤ 140737488355328) :
    Calls Tryd.prog 4 #[.slice A l.length c] w fun e w' => e = .returned (.bool true) ∧ Below w.heap.size w w' := by
  have HT := Lib.hid hT
  clear hT
  have H := Lib.hid h
  clear h
  go_enter Tryd.func4, Tryd.ntmps4
  go_wp2_with fail
  refine (long_any _ (w.heap.size + 1) _ 1 [.slice A l.length c] [l] (has_new w #[.slice A l.length c] _) (Parts.one ((H.out.alloc (Nat.le_refl _) _).more (by omega)) hc hm hr) (by simp)).mono ?_
  rintro e w' ⟨rfl, rfl⟩
  rw [longB_one]
  have hb0 : Below w.heap.size w (w.alloc (.cells #[.slice A l.length c] 25)) := (Below.refl _ _).alloc (Nat.le_refl _) _
  generalize w.alloc (.cells #[.slice A l.length c] 25) = w0 at *
  have H0 := Lib.hid (H.out.below hb0)
  have HT0 := Lib.hid (HT.out.below hb0 HT.out.lt)
  by_cases hlong : 65536 < l.length
  · go_wp2_with fail
    refine (awake_any w0 HT0.out).mono ?_
    rintro e w' ⟨rfl, hb⟩
    go_wp2
    go_ret
    exact ⟨rfl, hb0.trans (hb.mono hb0.size)⟩
  · go_wp2_with fail
    refine (copy_any w0 w.heap.size A c l H0.out hb0.size (by omega)).mono ?_
    rintro e w1 ⟨v1, rfl, ho1, hb1⟩
    obtain ⟨A1, c1, rfl, hc1, hm1, h1⟩ := ho1.form
    clear ho1
    have hb1' := hb0.trans (hb1.mono hb0.size)
    have HT1 := Lib.hid (HT.out.below hb1' HT.out.lt)
    go_wp2_with fail
    refine (seal_any w1 HT1.out w.heap.size A c l (H.out.below hb1') hb1'.size hc hm (by omega)).mono ?_
    rintro e w2 ⟨v2, rfl, ho2, hb2⟩
    obtain ⟨A2, c2, rfl, hc2, hm2, h2⟩ := ho2.form
    have hb2' := hb1'.trans (hb2.mono hb1'.size)
    have H12 := Lib.hid (h1.below hb2)
    have H1 := Lib.hid h1
    go_wp2_with fail
    refine (refSeal_any w2 w1.heap.size A1 c1 l H12.out hb2.size (by omega)).mono ?_
    rintro e w3 ⟨v3, rfl, ho3, hb3⟩
    obtain ⟨A3, c3, rfl, hc3, hm3, h3⟩ := ho3.form
    clear ho3
    have HO2 := Lib.hid (own_below ho2 hb3 (Nat.le_refl _))
    go_wp2_with fail
    refine (same_any w3 w3.heap.size A2 A3 c2 c3 (Crc.sealed l) (Crc.sealed l) ((h2.below hb3).more hb3.size) h3).mono ?_
    rintro e w4 ⟨rfl, rfl⟩
    simp only [decide_true]
    have hb13 := hb2.trans (hb3.mono hb2.size)
    have hlen : (Crc.sealed l).length ≤ 65540 := by simp [Crc.sealed, Crc.le4]; omega
    generalize Crc.sealed l = x at *
    clear ho2 h1 h2 h3 hb1 hb2 hb3
    go_wp2
    go_loopw [5] (fun i wr => ∃ (k : Nat) (y : List UInt8), k ≤ x.length ∧ y.length = x.length ∧ i = .int .i64 k ∧ Hid (Own wr w1.heap.size (.slice A2 x.length c2) y) ∧ Hid (Below w1.heap.size w1 wr)) (fun i _ => x.length - (intOf i).toNat)
    case atStart => exact ⟨0, x, Nat.zero_le _, rfl, rfl, HO2, Lib.hid hb13⟩
    case round =>
      obtain ⟨k, y, hk, hy, rfl, HO, HB⟩ := hrel
      by_cases hkt : k < x.length
      · obtain ⟨g, rfl, hg, hg2, hcell, hfr, hst⟩ := HO.out.at_ (k := k) (by omega)
        obtain ⟨b', hb'⟩ := u8_succ (y[k]'(by omega))
        have hbt := (y[k]'(by omega)).toNat_lt
        have HW := Lib.hid (hst b')
        clear hst
        generalize (y[k]'(by omega)) = z at *
        have HY := Lib.hid hy
        clear hy
        go_wp2
        go_roundw
        case rel => exact ⟨k + 1, y.set k b', by omega, by rw [List.length_set]; exact HY.out, by go_num, HW, Lib.hid (HB.out.setCell hg _)⟩
        case measure => simp [intOf]; omega
      · have hbr := HB.out
        have hb5 := hb1'.trans (hbr.mono hb1'.size)
        go_wp2_with fail
        refine (same_any wr w1.heap.size A A1 c c1 l l ((H.out.below hb5).more hb1'.size) (H1.out.below hbr)).mono ?_
        rintro e w4 ⟨rfl, rfl⟩
        simp only [decide_true]
        go_wp2_with fail
        refine (awake_any wr (HT.out.below hb5 HT.out.lt)).mono ?_
        rintro e w5 ⟨rfl, hb6⟩
        go_wp2
        go_ret
        exact ⟨rfl, hb5.trans (hb6.mono hb5.size)⟩

set_option maxHeartbeats 400000 in
theorem sumOpens_walk (w : World) (hT : Table w) (A : Option Addr) (c : Nat) (l : List UInt8) (h : Has w w.heap.size A (us l)) (hc : l.length ≤ c) (hm : c ≤ maxLen) (hr : l.length ≤ 140737488355328) :
    Calls Tryd.prog 5 #[.slice A l.length c] w fun e w' => e = .returned (.bool true) ∧ Below w.heap.size w w' := by
  have HT := Lib.hid hT
  clear hT
  have H := Lib.hid h
  clear h
  go_enter Tryd.func5, Tryd.ntmps5
  go_wp2_with fail
  refine (long_any _ (w.heap.size + 1) _ 1 [.slice A l.length c] [l] (has_new w #[.slice A l.length c] _) (Parts.one ((H.out.alloc (Nat.le_refl _) _).more (by omega)) hc hm hr) (by simp)).mono ?_
  rintro e w' ⟨rfl, rfl⟩
  rw [longB_one]
  have hb0 : Below w.heap.size w (w.alloc (.cells #[.slice A l.length c] 25)) := (Below.refl _ _).alloc (Nat.le_refl _) _
  generalize w.alloc (.cells #[.slice A l.length c] 25) = w0 at *
  have H0 := Lib.hid (H.out.below hb0)
  have HT0 := Lib.hid (HT.out.below hb0 HT.out.lt)
  by_cases hlong : 65536 < l.length
  · go_wp2_with fail
    refine (awake_any w0 HT0.out).mono ?_
    rintro e w' ⟨rfl, hb⟩
    go_wp2
    go_ret
    exact ⟨rfl, hb0.trans (hb.mono hb0.size)⟩
  · go_wp2_with fail
    refine (copy_any w0 w.heap.size A c l H0.out hb0.size (by omega)).mono ?_
    rintro e w1 ⟨v1, rfl, ho1, hb1⟩
    obtain ⟨A1, c1, rfl, hc1, hm1, h1⟩ := ho1.form
    clear ho1
    have hb1' := hb0.trans (hb1.mono hb0.size)
    have HT1 := Lib.hid (HT.out.below hb1' HT.out.lt)
    go_wp2_with fail
    refine (open_any w1 HT1.out w.heap.size A c l (H.out.below hb1') hb1'.size hc hm (by omega)).mono ?_
    rintro e w2 (⟨m, v2, hop, rfl, ho2, hb2⟩ | ⟨hop, rfl, hb2⟩)
    · obtain ⟨A2, c2, rfl, hc2, hm2, h2⟩ := ho2.form
      have hb2' := hb1'.trans (hb2.mono hb1'.size)
      have H12 := Lib.hid (h1.below hb2)
      have H1 := Lib.hid h1
      have HOP := Lib.hid hop
      clear hop
      have hml : m.length ≤ 65536 := by
        have := HOP.out
        unfold Crc.opened at this
        split at this
        · injection this with this; rw [← this]; simp; omega
        · cases this
      go_wp2_with fail
      refine (refOpen_any w2 w1.heap.size A1 c1 l H12.out hb2.size hc1 (by omega)).mono ?_
      rintro e w3 (⟨m3, v3, hop3, rfl, ho3, hb3⟩ | ⟨hop3, rfl, hb3⟩)
      rotate_left
      · rw [HOP.out] at hop3; cases hop3
      obtain rfl : m = m3 := by rw [HOP.out] at hop3; injection hop3
      obtain ⟨A3, c3, rfl, hc3, hm3, h3⟩ := ho3.form
      clear ho3 hop3
      have HO2 := Lib.hid (own_below ho2 hb3 (Nat.le_refl _))
      go_wp2_with fail
      refine (same_any w3 w3.heap.size A2 A3 c2 c3 m m ((h2.below hb3).more hb3.size) h3).mono ?_
      rintro e w4 ⟨rfl, rfl⟩
      simp only [decide_true]
      have hb13 := hb2.trans (hb3.mono hb2.size)
      clear ho2 h1 h2 h3 hb1 hb2 hb3
      go_wp2
      go_loopw [8] (fun i wr => ∃ (k : Nat) (y : List UInt8), k ≤ m.length ∧ y.length = m.length ∧ i = .int .i64 k ∧ Hid (Own wr w1.heap.size (.slice A2 m.length c2) y) ∧ Hid (Below w1.heap.size w1 wr)) (fun i _ => m.length - (intOf i).toNat)
      case atStart => exact ⟨0, m, Nat.zero_le _, rfl, rfl, HO2, Lib.hid hb13⟩
      case round =>
        obtain ⟨k, y, hk, hy, rfl, HO, HB⟩ := hrel
        by_cases hkt : k < m.length
        · obtain ⟨g, rfl, hg, hg2, hcell, hfr, hst⟩ := HO.out.at_ (k := k) (by omega)
          obtain ⟨b', hb'⟩ := u8_succ (y[k]'(by omega))
          have hbt := (y[k]'(by omega)).toNat_lt
          have HW := Lib.hid (hst b')
          clear hst
          generalize (y[k]'(by omega)) = z at *
          have HY := Lib.hid hy
          clear hy
          go_wp2
          go_roundw
          case rel => exact ⟨k + 1, y.set k b', by omega, by rw [List.length_set]; exact HY.out, by go_num, HW, Lib.hid (HB.out.setCell hg _)⟩
          case measure => simp [intOf]; omega
        · have hbr := HB.out
          have hb5 := hb1'.trans (hbr.mono hb1'.size)
          go_wp2_with fail
          refine (same_any wr w1.heap.size A A1 c c1 l l ((H.out.below hb5).more hb1'.size) (H1.out.below hbr)).mono ?_
          rintro e w4 ⟨rfl, rfl⟩
          simp only [decide_true]
          go_wp2_with fail
          refine (awake_any wr (HT.out.below hb5 HT.out.lt)).mono ?_
          rintro e w5 ⟨rfl, hb6⟩
          go_wp2
          go_ret
          exact ⟨rfl, hb5.trans (hb6.mono hb5.size)⟩
    · have hb2' := hb1'.trans (hb2.mono hb1'.size)
      have H12 := Lib.hid (h1.below hb2)
      have H1 := Lib.hid h1
      have HOP := Lib.hid hop
      clear hop
      go_wp2_with fail
      refine (refOpen_any w2 w1.heap.size A1 c1 l H12.out hb2.size hc1 (by omega)).mono ?_
      rintro e w3 (⟨m3, v3, hop3, rfl, ho3, hb3⟩ | ⟨hop3, rfl, hb3⟩)
      · rw [HOP.out] at hop3; cases hop3
      clear hop3
      go_wp2_with fail
      refine (same_any w3 0 none none 0 0 [] [] Has.nil Has.nil).mono ?_
      rintro e w4 ⟨rfl, rfl⟩
      simp only [decide_true]
      have hb13 := hb2.trans (hb3.mono hb2.size)
      have hb5 := hb1'.trans (hb13.mono hb1'.size)
      clear h1 hb1 hb2 hb3
      go_wp2
      go_loopw [8] (fun i wr => i = .int .i64 0 ∧ w3 = wr) (fun i _ => 0)
      case atStart => exact ⟨rfl, rfl⟩
      case round =>
        obtain ⟨rfl, rfl⟩ := hrel
        go_wp2_with fail
        refine (same_any w3 w1.heap.size A A1 c c1 l l ((H.out.below hb5).more hb1'.size) (H1.out.below hb13)).mono ?_
        rintro e w4 ⟨rfl, rfl⟩
        simp only [decide_true]
        go_wp2_with fail
        refine (awake_any w3 (HT.out.below hb5 HT.out.lt)).mono ?_
        rintro e w5 ⟨rfl, hb6⟩
        go_wp2
        go_ret
        exact ⟨rfl, hb5.trans (hb6.mono hb5.size)⟩
end Go.Proofs.YtmjhdjiglnkoiaaDoor
