/- The walks of the laws SumSpoilt and SumBursts. -/
import Derived.Test.YtmjhdjiglnkoiaaDoorSumTurn
import Derived.Test.YtmjhdjiglnkoiaaDoorSumLaw3
namespace Go.Proofs.YtmjhdjiglnkoiaaDoor
open Go Go.RowKit
set_option linter.unusedVariables false

theorem nodup_toNat {zs : List Int} (h0 : ∀ z ∈ zs, 0 ≤ z) (h : zs.Nodup) : (zs.map Int.toNat).Nodup := by
  induction zs with
  | nil => simp
  | cons z zs ih =>
    obtain ⟨h1, h2⟩ := List.nodup_cons.1 h
    rw [List.map_cons, List.nodup_cons]
    refine ⟨fun hm => ?_, ih (fun x hx => h0 x (List.mem_cons_of_mem _ hx)) h2⟩
    obtain ⟨y, hy, he⟩ := List.mem_map.1 hm
    have := h0 y (List.mem_cons_of_mem _ hy)
    have := h0 z (by simp)
    have e : y = z := by omega
    subst e
    exact h1 hy
theorem spoilt_ints (b : List UInt8) (zs : List Int) (hb : b.length ≤ 65532) (h : Turnable (Crc.sealed b).length zs) (h1 : 1 ≤ zs.length) (h3 : zs.length ≤ 3) : Crc.opened (Crc.flips (Crc.sealed b) (zs.map Int.toNat)) = none := by
  apply Crc.spoilt b _ hb
  · intro p hp
    obtain ⟨z, hz, rfl⟩ := List.mem_map.1 hp
    have := h.1 z hz
    omega
  · exact nodup_toNat (fun z hz => (h.1 z hz).1) h.2
  · simpa using h1
  · simpa using h3

set_option maxHeartbeats 800000 in
theorem sumSpoilt_walk (w : World) (hT : Table w) (A A' : Option Addr) (c c' : Nat) (l : List UInt8) (zs : List Int) (h : Has w w.heap.size A (us l)) (hA : Has w w.heap.size A' (zs.map (Value.int .i64))) (hc : l.length ≤ c) (hm : c ≤ maxLen) (hr : l.length ≤ 140737488355328)
    (hc' : zs.length ≤ c') (hm' : c' ≤ maxLen) (hr' : zs.length ≤ 140737488355328) (hwf : ∀ z ∈ zs, (Lit.int .i64 z).wf = true) :
    Calls Tryd.prog 8 #[.slice A l.length c, .slice A' zs.length c'] w fun e w' => e = .returned (.bool true) ∧ Below w.heap.size w w' := by
  have HT := Lib.hid hT
  have H := Lib.hid h
  have HA := Lib.hid hA
  have HW := Lib.hid hwf
  clear hT h hA hwf
  go_enter Tryd.func8, Tryd.ntmps8
  go_wp2_with fail
  refine (long_any _ (w.heap.size + 1) _ 1 [.slice A l.length c] [l] (has_new w #[.slice A l.length c] _) (Parts.one ((H.out.alloc (Nat.le_refl _) _).more (by omega)) hc hm hr) (by simp)).mono ?_
  rintro e w' ⟨rfl, rfl⟩
  rw [longB_one]
  have hb0 : Below w.heap.size w (w.alloc (.cells #[.slice A l.length c] 25)) := (Below.refl _ _).alloc (Nat.le_refl _) _
  generalize w.alloc (.cells #[.slice A l.length c] 25) = w0 at *
  have H0 := Lib.hid (H.out.below hb0)
  have HT0 := Lib.hid (HT.out.below hb0 HT.out.lt)
  by_cases hbad : 65536 < l.length ∨ 65532 < l.length ∨ zs.length < 1 ∨ 3 < zs.length
  · rcases hbad with h1 | h1 | h1 | h1
    · go_wp2_with fail
      refine (awake_any w0 HT0.out).mono ?_
      rintro e w' ⟨rfl, hb⟩
      go_wp2
      go_ret
      exact ⟨rfl, hb0.trans (hb.mono hb0.size)⟩
    all_goals
      by_cases h2 : 65536 < l.length
      · go_wp2_with fail
        refine (awake_any w0 HT0.out).mono ?_
        rintro e w' ⟨rfl, hb⟩
        go_wp2
        go_ret
        exact ⟨rfl, hb0.trans (hb.mono hb0.size)⟩
      · by_cases h3 : 65532 < l.length
        · go_wp2_with fail
          refine (awake_any w0 HT0.out).mono ?_
          rintro e w' ⟨rfl, hb⟩
          go_wp2
          go_ret
          exact ⟨rfl, hb0.trans (hb.mono hb0.size)⟩
        · first
          | (exfalso; omega)
          | (go_wp2_with fail
             refine (awake_any w0 HT0.out).mono ?_
             rintro e w' ⟨rfl, hb⟩
             go_wp2
             go_ret
             exact ⟨rfl, hb0.trans (hb.mono hb0.size)⟩)
  · have h1 : ¬ 65536 < l.length := by omega
    have h2 : ¬ 65532 < l.length := by omega
    have h3 : ¬ zs.length < 1 := by omega
    have h4 : ¬ 3 < zs.length := by omega
    clear hbad
    go_wp2_with fail
    refine (seal_any w0 HT0.out w.heap.size A c l H0.out hb0.size hc hm (by omega)).mono ?_
    rintro e w1 ⟨v1, rfl, ho1, hb1⟩
    obtain ⟨A1, c1, rfl, hc1, hm1, _⟩ := ho1.form
    have HO1 := Lib.hid ho1
    clear ho1
    have hb1' := hb0.trans (hb1.mono hb0.size)
    have HA1 := Lib.hid (HA.out.below hb1')
    have HSL := Lib.hid (sealed_length l)
    rw [sealed_length] at hc1 ⊢
    by_cases hturn : Turnable (Crc.sealed l).length zs
    · have HTr := Lib.hid hturn
      clear hturn
      go_wp2_with fail
      have ht := turn_any w1 w0.heap.size w.heap.size A1 A' c1 c' (Crc.sealed l) zs HO1.out HA1.out hb0.size hb1.size (by rw [HSL.out]; omega) (by omega) HTr.out
      rw [HSL.out] at ht
      refine ht.mono ?_
      clear ht
      rintro e w2 ⟨rfl, ho2, hb2⟩
      have HN := Lib.hid (spoilt_ints l zs (by omega) HTr.out (by omega) (by omega))
      have HFL := Lib.hid (show (Crc.flips (Crc.sealed l) (zs.map Int.toNat)).length = l.length + 4 by rw [Crc.flips_length, sealed_length])
      generalize Crc.flips (Crc.sealed l) (zs.map Int.toNat) = y at *
      have hb2' := hb1'.trans (hb2.mono hb0.size)
      have hy : Has w2 w2.heap.size A1 (us y) := by
        have h5 : Own w2 w0.heap.size (.slice A1 y.length c1) y := by rw [HFL.out]; exact ho2
        exact Has.of_own h5
      clear ho2
      go_wp2_with fail
      have ho := open_any w2 (HT.out.below hb2' HT.out.lt) w2.heap.size A1 c1 y hy (Nat.le_refl _) (by rw [HFL.out]; exact hc1) hm1 (by rw [HFL.out]; omega)
      rw [HFL.out] at ho
      refine ho.mono ?_
      clear ho
      rintro e w3 (⟨m, v2, hop, rfl, ho3, hb3⟩ | ⟨hop, rfl, hb3⟩)
      · rw [HN.out] at hop; cases hop
      clear hop
      have hb3' := hb2'.trans (hb3.mono hb2'.size)
      go_wp2_with fail
      refine (awake_any w3 (HT.out.below hb3' HT.out.lt)).mono ?_
      rintro e w5 ⟨rfl, hb6⟩
      go_wp2
      go_ret
      exact ⟨rfl, hb3'.trans (hb6.mono hb3'.size)⟩
    · have HTr := Lib.hid hturn
      clear hturn
      rw [HSL.out] at HTr
      go_wp2_with fail
      refine (turn_no w1 w.heap.size A1 A' (l.length + 4) c1 c' zs HA1.out hb1'.size (by omega) (by omega) HW.out HTr.out).mono ?_
      rintro e w2 ⟨rfl, hb2⟩
      have hb2' := hb1'.trans (hb2.mono hb1'.size)
      go_wp2_with fail
      refine (awake_any w2 (HT.out.below hb2' HT.out.lt)).mono ?_
      rintro e w5 ⟨rfl, hb6⟩
      go_wp2
      go_ret
      exact ⟨rfl, hb2'.trans (hb6.mono hb2'.size)⟩

theorem info_int : (Tryd.prog.info? 3).map (fun i => (i.zero, i.size, i.bytes)) = some (some (.int .i64 0), 1, 8) := by kernel_rfl
/-- a row of ints of the call's own -/
def OwnI (w : World) (base : Nat) (v : Value) (l : List Int) : Prop := w.ownsRow base 3 1 v l.length (l.map (Value.int .i64))
/-- append onto a row of ints of the call's own -/
theorem wp_app_ints {w : World} {ops : Array Oper} {rest : List Oper} {o : Oper} {a : Act} {Q : Exit → Act → World → Prop} {s x : Operand} {base B c : Nat} {v : Value} {A : Option Addr} {l m : List Int} (hgd : o.guard = none)
    (ho : o.op = .call { callee := .builtin .append, args := #[s, x], argTypes := #[36, 36] }) (hs : a.eval s = v) (hx : a.eval x = .slice A m.length c)
    (hown : OwnI w base v l) (hr : Has w B A (m.map (Value.int .i64))) (hlen : l.length + m.length ≤ 1000000000000) (hbase : base ≤ w.heap.size)
    (h : ∀ v' w', OwnI w' base v' (l ++ m) → Below base w w' → w.grownBy w' v.ownBlock → (v'.ownBlock = v.ownBlock ∨ v'.ownBlock = some w.heap.size) → wpList Tryd.prog ops Q rest (a.put o.dst v') w') : wpList Tryd.prog ops Q (o :: rest) a w := by
  obtain ⟨i0, hi, hz0, hz1, hz2⟩ := info_parts info_int
  refine wpList_append_has w hgd s x _ ho base 3 i0 _ 1 8 Tryd.underlying36 hi hz0 hz1 hz2 rfl (by omega) v l.length (l.map (Value.int .i64)) hs hown B A m.length c (m.map (Value.int .i64)) hx (by simp) hr (fun u hu => by obtain ⟨z, _, rfl⟩ := List.mem_map.1 hu; rfl) (by unfold maxLen; omega) (by omega) hbase ?_
  intro v' w' h1 h2 h3
  refine h v' w' (by unfold OwnI; rw [List.length_append, List.map_append]; exact h1) ((Below.refl _ _).grown h2 hbase (fun k hk => (hown.lt k hk).1)) h2 h3

/-- the set bits below a place -/
def bitsBelow (b k : Nat) : List Nat := (List.range k).filter fun i => b.testBit i
theorem bitsBelow_succ (b k : Nat) : bitsBelow b (k + 1) = if b.testBit k then bitsBelow b k ++ [k] else bitsBelow b k := by
  unfold bitsBelow
  rw [List.range_succ, List.filter_append]
  cases h : b.testBit k <;> simp [h]
theorem bitsBelow_lt {b k i : Nat} (h : i ∈ bitsBelow b k) : i < k := by
  unfold bitsBelow at h
  simpa using (List.mem_filter.1 h).1
theorem bitsBelow_length (b k : Nat) : (bitsBelow b k).length ≤ k := by
  unfold bitsBelow
  have := List.length_filter_le (fun i => b.testBit i) (List.range k)
  simpa using this
theorem bitsBelow_nodup (b k : Nat) : (bitsBelow b k).Nodup := List.nodup_range.filter _
def spots (p b k : Nat) : List Int := (bitsBelow b k).map fun i => ((p + i : Nat) : Int)
theorem spots_length (p b k : Nat) : (spots p b k).length = (bitsBelow b k).length := by simp [spots]
theorem spots_toNat (p b k : Nat) : (spots p b k).map Int.toNat = Crc.burst p (bitsBelow b k) := by
  unfold spots Crc.burst
  rw [List.map_map]
  apply List.map_congr_left
  intro i _
  exact Int.toNat_natCast (p + i)
theorem spots_turnable (p b k n : Nat) (h : ∀ i ∈ bitsBelow b k, p + i < 8 * n) : Turnable n (spots p b k) := by
  refine ⟨fun z hz => ?_, ?_⟩
  · obtain ⟨i, hi, rfl⟩ := List.mem_map.1 hz
    have := h i hi
    omega
  · unfold spots
    exact List.Pairwise.map _ (fun i j (hij : i ≠ j) e => hij (by omega)) (bitsBelow_nodup b k)
theorem bit_test (b k : Nat) (hb : b < 4294967296) : (bits .and .u32 ((b : Int) / 2 ^ k) 1 == 1) = b.testBit k := by
  have h1 : b / 2 ^ k < 4294967296 := Nat.lt_of_le_of_lt (Nat.div_le_self _ _) hb
  rw [show ((b : Int) / 2 ^ k) = ((b / 2 ^ k : Nat) : Int) by simp, show (1 : Int) = ((1 : Nat) : Int) from rfl, u32_and_nat _ _ h1 (by omega), nat_mask1, Nat.testBit_eq_decide_div_mod_eq]
  generalize b / 2 ^ k % 2 = q
  rw [Bool.eq_iff_iff, beq_iff_eq, decide_eq_true_iff]
  omega

set_option maxHeartbeats 800000 in
theorem sumBursts_walk (w : World) (hT : Table w) (A : Option Addr) (c : Nat) (l : List UInt8) (x1 x2 : Int) (h : Has w w.heap.size A (us l)) (hc : l.length ≤ c) (hm : c ≤ maxLen) (hr : l.length ≤ 140737488355328)
    (wx1 : (Lit.int .i64 x1).wf = true) (wx2 : (Lit.int .u32 x2).wf = true) :
    Calls Tryd.prog 9 #[.slice A l.length c, .int .i64 x1, .int .u32 x2] w fun e w' => e = .returned (.bool true) ∧ Below w.heap.size w w' := by
  have HT := Lib.hid hT
  have H := Lib.hid h
  clear hT h
  obtain ⟨b1, b2⟩ := bounds_i64 wx1
  obtain ⟨b3, b4⟩ := bounds_u32 wx2
  clear wx1 wx2
  obtain ⟨B, rfl⟩ : ∃ B : Nat, x2 = (B : Int) := ⟨x2.toNat, by omega⟩
  go_enter Tryd.func9, Tryd.ntmps9
  go_wp2_with fail
  refine (long_any _ (w.heap.size + 1) _ 1 [.slice A l.length c] [l] (has_new w #[.slice A l.length c] _) (Parts.one ((H.out.alloc (Nat.le_refl _) _).more (by omega)) hc hm hr) (by simp)).mono ?_
  rintro e w' ⟨rfl, rfl⟩
  rw [longB_one]
  have hb0 : Below w.heap.size w (w.alloc (.cells #[.slice A l.length c] 25)) := (Below.refl _ _).alloc (Nat.le_refl _) _
  generalize w.alloc (.cells #[.slice A l.length c] 25) = w0 at *
  have H0 := Lib.hid (H.out.below hb0)
  have HT0 := Lib.hid (HT.out.below hb0 HT.out.lt)
  by_cases h1 : 65536 < l.length
  · go_wp2_with fail
    refine (awake_any w0 HT0.out).mono ?_
    rintro e w' ⟨rfl, hb⟩
    go_wp2
    go_ret
    exact ⟨rfl, hb0.trans (hb.mono hb0.size)⟩
  by_cases h2 : 65532 < l.length
  · go_wp2_with fail
    refine (awake_any w0 HT0.out).mono ?_
    rintro e w' ⟨rfl, hb⟩
    go_wp2
    go_ret
    exact ⟨rfl, hb0.trans (hb.mono hb0.size)⟩
  by_cases h3 : x1 < 0
  · go_wp2_with fail
    refine (awake_any w0 HT0.out).mono ?_
    rintro e w' ⟨rfl, hb⟩
    go_wp2
    go_ret
    exact ⟨rfl, hb0.trans (hb.mono hb0.size)⟩
  by_cases h4 : 8 * (l.length : Int) + 32 ≤ x1
  · go_wp2_with fail
    refine (awake_any w0 HT0.out).mono ?_
    rintro e w' ⟨rfl, hb⟩
    go_wp2
    go_ret
    exact ⟨rfl, hb0.trans (hb.mono hb0.size)⟩
  obtain ⟨p, rfl⟩ : ∃ p : Nat, x1 = (p : Int) := ⟨x1.toNat, by omega⟩
  go_wp2_with fail
  refine (seal_any w0 HT0.out w.heap.size A c l H0.out hb0.size hc hm (by omega)).mono ?_
  rintro e w1 ⟨v1, rfl, ho1, hb1⟩
  obtain ⟨A1, c1, rfl, hc1, hm1, _⟩ := ho1.form
  have HO1 := Lib.hid ho1
  clear ho1
  have hb1' := hb0.trans (hb1.mono hb0.size)
  have HSL := Lib.hid (sealed_length l)
  rw [sealed_length] at hc1 ⊢
  go_wp2
  go_loopw [8, 9] (fun v i wr => ∃ k : Nat, k ≤ 32 ∧ p + k ≤ 8 * (l.length + 4) ∧ i = .int .i64 k ∧ Hid (OwnI wr w1.heap.size v (spots p B k)) ∧ Hid (Below w1.heap.size w1 wr)) (fun _ i _ => 32 - (intOf i).toNat)
  case atStart => exact ⟨0, by omega, by omega, rfl, Lib.hid (World.ownsRow_nil _ _ _ 1), Lib.hid (Below.refl _ _)⟩
  case round =>
    obtain ⟨k, hk, hpk, rfl, HO, HB⟩ := hrel
    by_cases hgo : k < 32 ∧ p + k < 8 * (l.length + 4)
    · obtain ⟨hk32, hk8⟩ := hgo
      have hbt := bit_test B k (by omega)
      have HSu := Lib.hid (bitsBelow_succ B k)
      cases htb : B.testBit k with
      | true =>
        rw [htb] at hbt
        have HS2 := Lib.hid (show spots p B (k + 1) = spots p B k ++ [((p + k : Nat) : Int)] by
          unfold spots
          rw [HSu.out, htb]
          simp)
        clear htb HSu
        have hsl : (spots p B k).length ≤ 32 := by rw [spots_length]; have := bitsBelow_length B k; omega
        generalize spots p B k = zs at *
        go_wp2_with (at_builtin; go_must (refine wp_app_ints (c := 1) (A := some ⟨wr.heap.size, 0, none⟩) (m := [((p + k : Nat) : Int)]) rfl rfl (by rfl) (by rfl) (l := zs) (HO.out.alloc _) (by exact has_new wr #[.int .i64 ((p : Int) + (k : Int))] _) (by simp; omega) (le_alloc HB.out.size _) ?_); intro v4 w4 hown4 hb4 _ _)
        go_roundw
        case rel => exact ⟨k + 1, by omega, by omega, by go_num, by rw [HS2.out]; exact Lib.hid hown4, Lib.hid ((HB.out.alloc HB.out.size _).trans hb4)⟩
        case measure => simp [intOf]; omega
      | false =>
        rw [htb] at hbt
        have HS2 := Lib.hid (show spots p B (k + 1) = spots p B k by
          unfold spots
          rw [HSu.out, htb]
          simp)
        clear htb HSu
        go_wp2
        go_roundw
        case rel => exact ⟨k + 1, by omega, by omega, by go_num, by rw [HS2.out]; exact HO, HB⟩
        case measure => simp [intOf]; omega
    · have HE := Lib.hid (show ∀ i ∈ bitsBelow B k, p + i < 8 * (l.length + 4) from fun i hi => by have := bitsBelow_lt hi; omega)
      have hsl : (spots p B k).length ≤ 32 := by rw [spots_length]; have := bitsBelow_length B k; omega
      obtain ⟨wo, rfl⟩ : ∃ wo : World, wo = wr := ⟨_, rfl⟩
      have hbo := HB.out
      have hbo' := hb1'.trans (hbo.mono hb1'.size)
      have HTo := Lib.hid (HT.out.below hbo' HT.out.lt)
      obtain ⟨A2, c2, hv2, hc2, hm2, h2⟩ : ∃ A2 c2, u8 = .slice A2 (spots p B k).length c2 ∧ (spots p B k).length ≤ c2 ∧ c2 ≤ maxLen ∧ Has wo wo.heap.size A2 ((spots p B k).map (Value.int .i64)) := by
        have h0 := HO.out
        rcases h0.2 with ⟨e, hn⟩ | ⟨g, cap, cur, e, _, _, hnc, hmc, _⟩
        · refine ⟨none, 0, by rw [e, hn], by omega, by unfold maxLen; omega, ?_⟩
          rw [List.eq_nil_of_length_eq_zero hn]
          exact Has.nil
        · rw [e] at h0
          exact ⟨_, cap, e, hnc, hmc, Has.of_own h0⟩
      have HSep := Lib.hid (show 0 < (spots p B k).length → ∀ g g' o' : Nat, A1 = some ⟨g, 0, none⟩ → A2 = some ⟨g', o', none⟩ → g' ≠ g from fun _ g g' o' e e' => by
        have l1 := HO1.out.lt g (by rw [e]; rfl)
        have l2 := HO.out.lt g' (by rw [hv2, e']; rfl)
        omega)
      subst hv2
      have H2 := Lib.hid h2
      clear h2 HO
      have HO1' := Lib.hid (own_below HO1.out hbo (Nat.le_refl _))
      have HSP := Lib.hid (show Turnable (l.length + 4) (spots p B k) from spots_turnable p B k _ HE.out)
      have HKN := Lib.hid (show 0 < (spots p B k).length → Crc.opened (Crc.flips (Crc.sealed l) ((spots p B k).map Int.toNat)) = none from fun h0 => by
        rw [spots_toNat]
        refine Crc.spoilt_burst l p (bitsBelow B k) ?_ (bitsBelow_nodup B k) (fun i hi => by have := bitsBelow_lt hi; omega) (fun i hi => by rw [sealed_length]; exact HE.out i hi)
        intro e
        rw [spots_length, e] at h0
        simp at h0)
      generalize spots p B k = zs at *
      have hgo1 : ¬ (k < 32 ∧ p + k < 8 * (l.length + 4)) := hgo
      by_cases h0 : zs.length = 0
      · have e0 : ((zs.length : Int) == 0) = true := beq_iff_eq.2 (by omega)
        clear hgo
        by_cases hk32 : k < 32
        all_goals
          go_wp2_with fail
          refine (awake_any wo HTo.out).mono ?_
          rintro e w5 ⟨rfl, hb6⟩
          go_wp2
          go_ret
          exact ⟨rfl, hbo'.trans (hb6.mono hbo'.size)⟩
      · have e0 : ((zs.length : Int) == 0) = false := beq_eq_false_iff_ne.2 (by omega)
        have hpos : 0 < zs.length := by omega
        clear hgo h0
        have HT1 := Lib.hid (show Calls Tryd.prog 21 #[.slice A1 (l.length + 4) c1, .slice A2 zs.length c2] wo fun e w' => e = .returned (.bool true) ∧ Own w' w0.heap.size (.slice A1 (l.length + 4) c1) (Crc.flips (Crc.sealed l) (zs.map Int.toNat)) ∧ wo.grownBy w' (Value.slice A1 (l.length + 4) c1).ownBlock by
          have ht := turn_gen wo w0.heap.size wo.heap.size A1 A2 c1 c2 (Crc.sealed l) zs HO1'.out H2.out (Nat.le_refl _) HSep.out (by rw [HSL.out]; omega) (by omega) (by rw [HSL.out]; exact HSP.out)
          rw [HSL.out] at ht
          exact ht)
        have HN := Lib.hid (HKN.out hpos)
        have HFL := Lib.hid (show (Crc.flips (Crc.sealed l) (zs.map Int.toNat)).length = l.length + 4 by rw [Crc.flips_length, sealed_length])
        generalize Crc.flips (Crc.sealed l) (zs.map Int.toNat) = y at *
        clear HKN
        by_cases hk32 : k < 32
        all_goals
          go_wp2_with fail
          refine HT1.out.mono ?_
          rintro e w2 ⟨rfl, ho2, hg2⟩
          have hb2' : Below w.heap.size w w2 := hbo'.grown hg2 hbo'.size (fun g hg => by have := HO1.out.lt g (by rw [HSL.out]; exact hg); have := hb0.size; omega)
          have hy : Has w2 w2.heap.size A1 (us y) := by
            have h5 : Own w2 w0.heap.size (.slice A1 y.length c1) y := by rw [HFL.out]; exact ho2
            exact Has.of_own h5
          clear ho2
          have ho := open_any w2 (HT.out.below hb2' HT.out.lt) w2.heap.size A1 c1 y hy (Nat.le_refl _) (by rw [HFL.out]; exact hc1) hm1 (by rw [HFL.out]; omega)
          rw [HFL.out] at ho
          have HOP := Lib.hid ho
          clear ho
          go_wp2_with fail
          refine HOP.out.mono ?_
          rintro e w3 (⟨m, v2, hop, rfl, ho3, hb3⟩ | ⟨hop, rfl, hb3⟩)
          · rw [HN.out] at hop; cases hop
          clear hop
          have hb3' := hb2'.trans (hb3.mono hb2'.size)
          go_wp2_with fail
          refine (awake_any w3 (HT.out.below hb3' HT.out.lt)).mono ?_
          rintro e w5 ⟨rfl, hb6⟩
          go_wp2
          go_ret
          exact ⟨rfl, hb3'.trans (hb6.mono hb3'.size)⟩
end Go.Proofs.YtmjhdjiglnkoiaaDoor
