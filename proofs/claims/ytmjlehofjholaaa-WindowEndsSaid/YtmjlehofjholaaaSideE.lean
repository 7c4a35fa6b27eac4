/- side.act: one thing happens. -/
import Derived.Test.YtmjlehofjholaaaSideC
import Derived.IntWalk
namespace Go.Proofs.Ytmjlehofjholaaa
open Go Go.RowKit Go.Shelf
set_option linter.unusedVariables false
set_option maxRecDepth 100000
attribute [local go_sem] Oper.semAt_some

/-- the lowest bits of an int -/
theorem and_mask (z : Int) (k : Nat) (hk : k ≤ 32) : bits .and .i64 z ((2 ^ k - 1 : Nat) : Int) = (((z % (2 ^ k : Nat)).toNat : Nat) : Int) := by
  have hp : 2 ^ k ≤ 2 ^ 32 := Nat.pow_le_pow_right (by omega) hk
  have hp0 : 0 < 2 ^ k := Nat.pow_pos (by omega)
  have e32 : (2 : Nat) ^ 32 = 4294967296 := by decide
  have h1 : (BitVec.ofInt 64 z).toNat = (z % (18446744073709551616 : Int)).toNat := by
    rw [BitVec.toNat_ofInt]
    rfl
  have h2 : (BitVec.ofInt 64 ((2 ^ k - 1 : Nat) : Int)).toNat = 2 ^ k - 1 := by
    rw [BitVec.ofInt_natCast, BitVec.toNat_ofNat]; exact Nat.mod_eq_of_lt (by omega)
  have hd : (2 ^ k : Nat) ∣ 18446744073709551616 := by
    rw [show (18446744073709551616 : Nat) = 2 ^ 64 by decide]
    exact Nat.pow_dvd_pow 2 (by omega)
  have h3 : (z % (18446744073709551616 : Int)).toNat % 2 ^ k = (z % ((2 ^ k : Nat) : Int)).toNat := by
    apply Int.ofNat.inj
    rw [Int.ofNat_eq_natCast, Int.ofNat_eq_natCast, Int.natCast_emod, Int.toNat_of_nonneg (Int.emod_nonneg _ (by omega)), Int.toNat_of_nonneg (Int.emod_nonneg _ (by omega))]
    exact Int.emod_emod_of_dvd z (Int.natCast_dvd_natCast.2 hd)
  have h4 : (z % ((2 ^ k : Nat) : Int)).toNat < 2 ^ k := by
    have := Int.emod_lt_of_pos z (show (0 : Int) < ((2 ^ k : Nat) : Int) by omega)
    omega
  show IntKind.i64.wrap ((BitVec.ofInt 64 z &&& BitVec.ofInt 64 ((2 ^ k - 1 : Nat) : Int)).toNat : Int) = _
  rw [BitVec.toNat_and, h1, h2, Nat.and_two_pow_sub_one_eq_mod, h3]
  exact IntWalk.i64_in _ (by omega)
theorem and_16 (z : Int) : ∃ q : Nat, bits .and .i64 z 65535 = (q : Int) ∧ q ≤ 65535 := by
  refine ⟨_, and_mask z 16 (by omega), ?_⟩
  have h1 := Int.emod_nonneg z (show ((2 ^ 16 : Nat) : Int) ≠ 0 by decide)
  have h2 := Int.emod_lt_of_pos z (show (0 : Int) < ((2 ^ 16 : Nat) : Int) by decide)
  have e : ((2 ^ 16 : Nat) : Int) = 65536 := by decide
  rw [e] at *
  omega
theorem run_toC (A : Option Addr) (n c k : Nat) (h : k ≤ n) (hc : n ≤ c) (W : World) :
    (Instr.slice 53 (.slice A n c) none (some (.int .i64 (k : Int))) none).run Try.prog W = .ok (.slice A k c) W := by
  obtain ⟨i0, hi, hz0, hz1, hz2⟩ := info_parts info_cp
  have he : Try.prog.elem 53 = 62 := by kernel_rfl
  rw [run_slice_h W 53 A n c (by kernel_rfl) .i64 (k : Int) (by omega) (by omega), he]
  have ha : A.map (fun x => x.add 0) = A := by cases A <;> simp [Addr.add]
  simp [sizeOf, typeInfo, hi, hz1, sliced, ha]
theorem run_fromC (A : Option Addr) (n c k0 : Nat) (h : k0 ≤ n) (hc : n ≤ c) (W : World) :
    (Instr.slice 53 (.slice A n c) (some (.int .i64 (k0 : Int))) none none).run Try.prog W = .ok (.slice (if c = k0 then A else A.map (·.add (k0 * 2))) (n - k0) (c - k0)) W := by
  obtain ⟨i0, hi, hz0, hz1, hz2⟩ := info_parts info_cp
  have he : Try.prog.elem 53 = 62 := by kernel_rfl
  rw [run_slice_l W 53 A n c (by kernel_rfl) .i64 (k0 : Int) (by omega) (by omega), he]
  simp [sizeOf, typeInfo, hi, hz1, sliced]
def Side (B0 : Nat) (w : World) (g : Nat) (s : St) : Prop := ∃ vB vP vT vW, SideAt B0 w g s vB vP vT vW
/-- what an act answers -/
def ActPost (B0 : Nat) (w : World) (g : Nat) (bodies : List (List UInt8)) (e : Ending) (w' : World) : Prop := e = .returned (.bool true) ∧ (∃ s', Inv bodies s' ∧ Side B0 w' g s') ∧ Below B0 w w'
def OneC (c : Cp) (v : Value) (w : World) : Prop := ∃ A k, v = .slice A 1 k ∧ Has w w.heap.size A (cps [c])
theorem OneC.new (w : World) (c : Cp) : OneC c (.slice (some ⟨w.heap.size, 0, none⟩) 1 1) (w.alloc (.cells #[.int .u64 (c.1 : Int), .string ⟨c.2.toArray⟩] 62)) :=
  ⟨_, 1, rfl, by have := has_new w #[.int .u64 (c.1 : Int), .string ⟨c.2.toArray⟩] 62; rw [World.size_alloc]; exact this⟩
theorem cp_empty (w : World) : CpRow (w.alloc (.cells #[] 62)) w.heap.size (.slice (some ⟨w.heap.size, 0, none⟩) 0 0) [] := World.ownsRow_made w #[] 0 (Nat.le_refl _) (by unfold maxLen; omega) rfl
/-- a copy in a row -/
theorem cp_cells {w : World} {B : Nat} {A : Option Addr} {l : List Cp} (h : Has w B A (cps l)) {k : Nat} (hk : k < l.length) : ∃ b o, A = some ⟨b, o, none⟩ ∧ b < B ∧ w.cell? ⟨b, o + k * 2, none⟩ = some (.int .u64 (l[k].1 : Int)) ∧ w.cell? ⟨b, o + k * 2 + 1, none⟩ = some (.string ⟨l[k].2.toArray⟩) := by
  obtain ⟨b, o, e, hb, h1⟩ := h _ _ (cps_at hk).1
  obtain ⟨b2, o2, e2, _, h2⟩ := h _ _ (cps_at hk).2
  rw [e] at e2
  simp at e2
  obtain ⟨rfl, rfl⟩ := e2
  exact ⟨b, o, e, hb, h1, h2⟩

set_option maxHeartbeats 2000000 in
theorem act_other (B0 : Nat) (w : World) (g : Nat) (s : St) (vB vP vT vW : Value) (hs : SideAt B0 w g s vB vP vT vW) (hB : B0 ≤ w.heap.size) (bodies : List (List UInt8)) (Ab : Option Addr) (cb : Nat) (hbd : Bx w B0 Ab bodies) (hI : Inv bodies s) (n : Int) (d : Int) (d0 : (d == 0) = false) (d1 : (d == 1) = false) (d2 : (d == 2) = false) (d3 : (d == 3) = false) (d4 : (d == 4) = false) :
    Calls Try.prog 24 #[.pointer (some ⟨g, 0, none⟩), .agg #[.int .i64 d, .int .i64 n], .slice Ab bodies.length cb] w (ActPost B0 w g bodies) := by
  obtain ⟨W0, HW⟩ : ∃ W, Hid (W = w.alloc (.cells #[.int .i64 d, .int .i64 n] 58)) := ⟨_, Lib.hid rfl⟩
  have hbW : Below w.heap.size w W0 := by rw [HW.out]; exact (Below.refl _ w).alloc (Nat.le_refl _) _
  have hs0 := hs.below hbW
  have hgl := hs0.lt
  have hg0 := hs.lt
  have hgb := hs.hg
  have HBD := Lib.hid (hbd.below (hbW.mono hB))
  have hz0 := hbW.size
  have hBW : Below B0 w W0 := hbW.mono hB
  obtain ⟨q, hand, hq⟩ := and_16 n
  have hpl := hI.plen
  have hf3 := hI.fit.1
  have hsum := hI.sum
  have h48 := hI.b48
  have htl := hI.tl
  have hbt := hI.bt
  have hgt := hI.got
  have HGT := Lib.hid hgt
  have hgt := Nat.le_of_eq hgt
  have hwl := hI.wlen
  have HI := Lib.hid hI
  have HS := Lib.hid hs0
  obtain ⟨AB, cB, rfl, b1, b2, hbx⟩ := hs0.box.form hI.fitB.all
  obtain ⟨AP, cP, rfl, p1, p2, hhP⟩ := row_form hs0.ps
  obtain ⟨AT, cT, rfl, t1, t2, hhT⟩ := row_form hs0.ts
  obtain ⟨AW, cW, rfl, w1, w2, hhW⟩ := row_form hs0.ws
  have HBX := Lib.hid hbx
  have HHW := Lib.hid hhW
  have k0 := hs.six.c0
  have k1 := hs.six.c1
  have k3 := hs.six.c3
  have k4 := hs.six.c4
  have k5 := hs.six.c5
  have hp0 : s.pushed.length ≤ 300 := by omega
  clear hs hs0 hI hbd hbx hhP hhT hhW hsum hgt
  go_enter Try.func24, Try.ntmps24
  go_wp2_with fail
  go_ret
  rw [← HW.out]
  exact ⟨rfl, ⟨s, HI.out, _, _, _, _, HS.out⟩, hBW⟩

set_option maxHeartbeats 2000000 in
theorem act_0 (B0 : Nat) (w : World) (g : Nat) (s : St) (vB vP vT vW : Value) (hs : SideAt B0 w g s vB vP vT vW) (hB : B0 ≤ w.heap.size) (bodies : List (List UInt8)) (Ab : Option Addr) (cb : Nat) (hbd : Bx w B0 Ab bodies) (hI : Inv bodies s) (n : Int) :
    Calls Try.prog 24 #[.pointer (some ⟨g, 0, none⟩), .agg #[.int .i64 0, .int .i64 n], .slice Ab bodies.length cb] w (ActPost B0 w g bodies) := by
  obtain ⟨W0, HW⟩ : ∃ W, Hid (W = w.alloc (.cells #[.int .i64 0, .int .i64 n] 58)) := ⟨_, Lib.hid rfl⟩
  have hbW : Below w.heap.size w W0 := by rw [HW.out]; exact (Below.refl _ w).alloc (Nat.le_refl _) _
  have hs0 := hs.below hbW
  have hgl := hs0.lt
  have hg0 := hs.lt
  have hgb := hs.hg
  have HBD := Lib.hid (hbd.below (hbW.mono hB))
  have hz0 := hbW.size
  have hBW : Below B0 w W0 := hbW.mono hB
  obtain ⟨q, hand, hq⟩ := and_16 n
  have hpl := hI.plen
  have hf3 := hI.fit.1
  have hsum := hI.sum
  have h48 := hI.b48
  have htl := hI.tl
  have hbt := hI.bt
  have hgt := hI.got
  have HGT := Lib.hid hgt
  have hgt := Nat.le_of_eq hgt
  have hwl := hI.wlen
  have HI := Lib.hid hI
  have HS := Lib.hid hs0
  obtain ⟨AB, cB, rfl, b1, b2, hbx⟩ := hs0.box.form hI.fitB.all
  obtain ⟨AP, cP, rfl, p1, p2, hhP⟩ := row_form hs0.ps
  obtain ⟨AT, cT, rfl, t1, t2, hhT⟩ := row_form hs0.ts
  obtain ⟨AW, cW, rfl, w1, w2, hhW⟩ := row_form hs0.ws
  have HBX := Lib.hid hbx
  have HHW := Lib.hid hhW
  have k0 := hs.six.c0
  have k1 := hs.six.c1
  have k3 := hs.six.c3
  have k4 := hs.six.c4
  have k5 := hs.six.c5
  have hp0 : s.pushed.length ≤ 300 := by omega
  clear hs hs0 hI hbd hbx hhP hhT hhW hsum hgt
  by_cases hall : s.pushed.length = bodies.length
  · have e0 : ((s.pushed.length : Int) == (bodies.length : Int)) = true := by simp; omega
    clear hall
    go_enter Try.func24, Try.ntmps24
    go_wp2_with fail
    go_ret
    rw [← HW.out]
    exact ⟨rfl, ⟨s, HI.out, _, _, _, _, HS.out⟩, hBW⟩
  · have e0 : ((s.pushed.length : Int) == (bodies.length : Int)) = false := by simp; omega
    have hlt : s.pushed.length < bodies.length := by omega
    clear hall
    obtain ⟨bb, ob, A1, c1, rfl, hbB, hc, r1, r2, r3, hh⟩ := HBD.out.at_ hlt
    have HPE := Lib.hid (HI.out.pushE (List.getElem_mem hlt))
    have hbl := body_len (HI.out.fit.2 _ (List.getElem_mem hlt))
    have HNX := Lib.hid (fun h48 => HI.out.push hlt h48)
    obtain ⟨bd, Hbd⟩ : ∃ b, Hid (bodies[s.pushed.length] = b) := ⟨_, Lib.hid rfl⟩
    rw [Hbd.out] at hc r1 r3 hh hbl HPE HNX
    have HHB0 := Lib.hid hh
    have hbb : bb < w.heap.size := by omega
    have hc := (hbW.cell (p := ⟨bb, ob + s.pushed.length, none⟩) hbb).symm.trans hc
    have i0 : (0 : Int) ≤ (s.pushed.length : Int) := by omega
    clear hh
    go_enter Try.func24, Try.ntmps24
    go_wp2_with fail
    rw [← HW.out]
    refine (push_any W0 s.base AB cB s.box A1 c1 bd HBX.out (HHB0.out.more (by omega)) (by omega) HI.out.fitB (by omega)).mono ?_
    rintro e w1 hp
    obtain ⟨hb1, v1, rfl, ho1⟩ := push_flat hp
    have hz1 := hb1.size
    have hs1 := HS.out.below hb1
    rcases HPE.out with ⟨hpe, h47⟩ | ⟨hpe, h47⟩
    · have hpb : pushBase s.base s.box bd = s.base := by simp [pushBase, hpe]
      have hpl : pushL s.base s.box bd = s.box ++ [bd] := by simp [pushL, hpe]
      rw [hpl] at ho1
      rw [hpb, hpe]
      obtain ⟨A3, c3, rfl, p3, p4, _⟩ := ho1.form (fun x hx => by
        rcases List.mem_append.1 hx with hx | hx
        · exact HI.out.fitB.all x hx
        · simp at hx; subst hx; omega)
      rw [len1] at ho1
      have hs2 := hs1.setS s.base (ho1.mono (show B0 ≤ W0.heap.size by omega))
      obtain ⟨wr, HWR⟩ : ∃ W', Hid (W' = ((w1.setCell ⟨g, 0, none⟩ (.int .u64 (s.base : Int))).setCell ⟨g, 1, none⟩ (.slice A3 (s.box.length + 1) c3)).alloc (.cells #[.int .u64 (s.base : Int), .slice A3 (s.box.length + 1) c3] 25)) := ⟨_, Lib.hid rfl⟩
      have hs2 := hs2.below ((Below.refl _ _).alloc (Nat.le_refl _) (.cells #[.int .u64 (s.base : Int), .slice A3 (s.box.length + 1) c3] 25))
      rw [← HWR.out] at hs2
      have hBr : Below B0 W0 wr := by rw [HWR.out]; exact (((hb1.mono (by omega)).setCell hgb _).setCell hgb _).alloc (by simp; omega) _
      have hzr : wr.heap.size = w1.heap.size + 1 := by rw [HWR.out]; simp
      have hB0r : B0 ≤ wr.heap.size := by omega
      have HS2 := Lib.hid hs2
      have HHB := Lib.hid (HHB0.out.below hBr)
      have hzb : B0 ≤ wr.heap.size := hB0r
      have m0 := hs1.six.c0
      have m1 := hs1.six.c1
      have m2 := hs1.six.fz 0
      have m3 := hs1.six.fz 1
      have hgw1 : g < w1.heap.size := hs1.lt
      clear hs1 hs2 hp ho1
      rw [len1]
      go_wp2_with fail
      rw [← HWR.out]
      obtain ⟨vB2, HVB2⟩ : ∃ v, Hid (Value.slice A3 (s.box.length + 1) c3 = v) := ⟨_, Lib.hid rfl⟩
      rw [HVB2.out] at HS2
      have hbel : ∀ (dn : Nat → Bool) (xv : Nat → Value) (W : World), (if dn 11 = true then (SideAt B0 W g { s with base := s.base, box := s.box ++ [bd], pushed := s.pushed ++ [bd] } vB2 (xv 8) (.slice AT s.taken.length cT) (.slice AW s.way.length cW)) ∧ Below B0 wr W else if dn 8 = true then ∃ Wm, Below wr.heap.size wr Wm ∧ Wm.grownBy W (Value.slice AP s.pushed.length cP).ownBlock ∧ StrRow W B0 (xv 8) (s.pushed ++ [bd]) ∧ ((xv 8).ownBlock = (Value.slice AP s.pushed.length cP).ownBlock ∨ (xv 8).ownBlock = some Wm.heap.size) else if dn 7 = true then Below wr.heap.size wr W ∧ OneS bd (xv 7) W else Below wr.heap.size wr W) → dn 8 = false → dn 11 = false → Below wr.heap.size wr W := fun dn xv W h h8 h0 => by
        rw [if_neg (by simp [h0]), if_neg (by simp [h8])] at h
        split at h
        · exact h.1
        exact h
      refine wp_region_f (fun dn xv W => if dn 11 = true then (SideAt B0 W g { s with base := s.base, box := s.box ++ [bd], pushed := s.pushed ++ [bd] } vB2 (xv 8) (.slice AT s.taken.length cT) (.slice AW s.way.length cW)) ∧ Below B0 wr W else if dn 8 = true then ∃ Wm, Below wr.heap.size wr Wm ∧ Wm.grownBy W (Value.slice AP s.pushed.length cP).ownBlock ∧ StrRow W B0 (xv 8) (s.pushed ++ [bd]) ∧ ((xv 8).ownBlock = (Value.slice AP s.pushed.length cP).ownBlock ∨ (xv 8).ownBlock = some Wm.heap.size) else if dn 7 = true then Below wr.heap.size wr W ∧ OneS bd (xv 7) W else Below wr.heap.size wr W) (fun _ _ => True) [fun v _ => v = .pointer (some ⟨g, 0, none⟩), fun v _ => v = .pointer (some ⟨g, 0, none⟩), fun v _ => v = .pointer (some ⟨g, 0, none⟩), fun v _ => v = .pointer (some ⟨g, 3, none⟩), fun v _ => v = .slice AP s.pushed.length cP, fun v _ => v = .slice A1 bd.length c1, fun v _ => v = .string ⟨bd.toArray⟩, fun v _ => True, fun v _ => True, fun v _ => v = .pointer (some ⟨g, 0, none⟩), fun v _ => v = .pointer (some ⟨g, 3, none⟩), fun v _ => True] (by kernel_rfl) (by kernel_rfl) (by kernel_rfl) (by kernel_rfl) (fun xv => by simpa using (Below.refl _ wr).drew)
        (by exact ⟨fun _ _ _ _ h => h, fun _ _ _ _ h => h, fun _ _ _ _ h => h, fun _ _ _ _ h => h, fun _ _ _ _ h => h, fun _ _ _ _ h => h, fun _ _ _ _ h => h, fun _ _ _ _ h => h, fun _ _ _ _ h => h, fun _ _ _ _ h => h, fun _ _ _ _ h => h, fun _ _ _ _ h => h, trivial⟩) ?_ ?_
      · refine EachF.cons 1 rfl (fun dn xv W F hF hd hN hX hI H K hK => ?_) ?_
        · have f0 : F.tmps.getD 0 undef = .pointer (some ⟨g, 0, none⟩) := (hF 0).trans (by kernel_rfl)
          clear H hN hd hX hF
          refine on_plain rfl ?_
          go_simp
          exact hK.out _ _ rfl trivial (by simpa [upB, upd] using hI)
        refine EachF.cons 2 rfl (fun dn xv W F hF hd hN hX hI H K hK => ?_) ?_
        · have f0 : F.tmps.getD 0 undef = .pointer (some ⟨g, 0, none⟩) := (hF 0).trans (by kernel_rfl)
          clear H hN hd hX hF
          refine on_plain rfl ?_
          go_simp
          exact hK.out _ _ rfl trivial (by simpa [upB, upd] using hI)
        refine EachF.cons 3 rfl (fun dn xv W F hF hd hN hX hI H K hK => ?_) ?_
        · have h1 : xv 1 = .pointer (some ⟨g, 0, none⟩) := (H 1 (.edge (by kernel_rfl))).2
          have f61 : F.tmps.getD 61 undef = .pointer (some ⟨g, 0, none⟩) := (hF 61).trans (Eq.trans (by kernel_rfl) h1)
          clear H hN hd hX hF
          refine on_plain rfl ?_
          go_simp
          exact hK.out _ _ rfl trivial (by simpa [upB, upd] using hI)
        refine EachF.cons 4 rfl (fun dn xv W F hF hd hN hX hI H K hK => ?_) ?_
        · have h2 : xv 2 = .pointer (some ⟨g, 0, none⟩) := (H 2 (.edge (by kernel_rfl))).2
          have f62 : F.tmps.getD 62 undef = .pointer (some ⟨g, 0, none⟩) := (hF 62).trans (Eq.trans (by kernel_rfl) h2)
          clear H hN hd hX hF
          refine on_plain rfl ?_
          go_simp
          exact hK.out _ _ rfl trivial (by simpa [upB, upd] using hI)
        refine EachF.cons 5 rfl (fun dn xv W F hF hd hN hX hI H K hK => ?_) ?_
        · have h3 : xv 3 = .pointer (some ⟨g, 3, none⟩) := (H 3 (.edge (by kernel_rfl))).2
          have f63 : F.tmps.getD 63 undef = .pointer (some ⟨g, 3, none⟩) := (hF 63).trans (Eq.trans (by kernel_rfl) h3)
          have hb0 := hbel dn xv W hI (hN 8 (.edge (by kernel_rfl))) (hN 11 (.more (j := 8) (by kernel_rfl) (.edge (by kernel_rfl))))
          have hc4 := (HS2.out.six.below hb0 HS2.out.lt).c3
          clear H hN hd hX hF
          refine on_plain rfl ?_
          go_simp
          exact hK.out _ _ rfl trivial (by simpa [upB, upd] using hI)
        refine EachF.cons 6 rfl (fun dn xv W F hF hd hN hX hI H K hK => ?_) ?_
        · have f8 : F.tmps.getD 8 undef = .slice A1 bd.length c1 := (hF 8).trans (by kernel_rfl)
          clear H hN hd hX hF
          refine on_plain rfl ?_
          go_simp
          exact hK.out _ _ rfl trivial (by simpa [upB, upd] using hI)
        refine EachF.cons 7 rfl (fun dn xv W F hF hd hN hX hI H K hK => ?_) ?_
        · have h5 : xv 5 = .slice A1 bd.length c1 := (H 5 (.edge (by kernel_rfl))).2
          have f65 : F.tmps.getD 65 undef = .slice A1 bd.length c1 := (hF 65).trans (Eq.trans (by kernel_rfl) h5)
          have hb0 := hbel dn xv W hI (hN 8 (.more (j := 7) (by kernel_rfl) (.edge (by kernel_rfl)))) (hN 11 (.more (j := 8) (by kernel_rfl) (.more (j := 7) (by kernel_rfl) (.edge (by kernel_rfl)))))
          have e9 := run_str (c := c1) (HHB.out.below (hb0.mono hzb))
          clear H hN hd hX hF
          refine on_plain rfl ?_
          go_simp
          exact hK.out _ _ rfl trivial (by simpa [upB, upd] using hI)
        refine EachF.cons 8 rfl (fun dn xv W F hF hd hN hX hI H K hK => ?_) ?_
        · have h6 : xv 6 = .string ⟨bd.toArray⟩ := (H 6 (.edge (by kernel_rfl))).2
          have f66 : F.tmps.getD 66 undef = .string ⟨bd.toArray⟩ := (hF 66).trans (Eq.trans (by kernel_rfl) h6)
          have q8 : dn 8 = false := hN 8 (.edge (by kernel_rfl))
          have q11 : dn 11 = false := hN 11 (.more (j := 8) (by kernel_rfl) (.edge (by kernel_rfl)))
          have hS : Below wr.heap.size wr W := by simpa [hd, q8, q11] using hI
          clear hI hN hd hX hF H
          refine on_plain rfl ?_
          have g66 := f66
          rw [Array.getD_eq_getD_getElem?] at g66
          go_simp
          have hb : Below W.heap.size W (W.alloc (.cells #[.string ⟨bd.toArray⟩] 9)) := (Below.refl _ _).alloc (Nat.le_refl _) _
          have hs : Below wr.heap.size wr (W.alloc (.cells #[.string ⟨bd.toArray⟩] 9)) ∧ OneS bd (.slice (some ⟨W.heap.size, 0, none⟩) 1 1) (W.alloc (.cells #[.string ⟨bd.toArray⟩] 9)) := ⟨hS.trans (hb.mono hS.size), OneS.new W bd⟩
          exact hK.out _ _ trivial trivial (by simpa [upB, upd, q8, q11] using hs)
        refine EachF.cons 9 rfl (fun dn xv W F hF hd hN hX hI H K hK => ?_) ?_
        · have h4 : xv 4 = .slice AP s.pushed.length cP := (H 4 (.edge (by kernel_rfl))).2
          have f64 : F.tmps.getD 64 undef = .slice AP s.pushed.length cP := (hF 64).trans (Eq.trans (by kernel_rfl) h4)
          have h7 := (H 7 (.edge (by kernel_rfl))).2
          simp only [Dl] at h7
          have f67 : F.tmps.getD 67 undef = xv 7 := (hF 67).trans (by kernel_rfl)
          have q7 : dn 7 = true := (H 7 (.edge (by kernel_rfl))).1
          have q11 : dn 11 = false := hN 11 (.edge (by kernel_rfl))
          have hS : Below wr.heap.size wr W ∧ OneS bd (xv 7) W := by simpa [hd, q11, q7] using hI
          clear hI hN hd hX hF H
          refine on_plain rfl ?_
          obtain ⟨s1, A3, c3, e3, hh3⟩ := hS
          have f67x := f67.trans e3
          refine op_appS (base := B0) (l := s.pushed) (m := [bd]) (s := .tmp 64) (x := .tmp 67) (by rfl) f64 f67x (row_below HS2.out.ps s1) hh3 (by simp; omega) (Nat.le_trans hB0r s1.size) ?_
          intro v W' h1 h2 h3
          have hs : ∃ Wm, Below wr.heap.size wr Wm ∧ Wm.grownBy W' (Value.slice AP s.pushed.length cP).ownBlock ∧ StrRow W' B0 v (s.pushed ++ [bd]) ∧ (v.ownBlock = (Value.slice AP s.pushed.length cP).ownBlock ∨ v.ownBlock = some Wm.heap.size) := ⟨W, s1, h2, h1, h3⟩
          exact hK.out v _ trivial trivial (by simpa [upB, upd, q11] using hs)
        refine EachF.cons 10 rfl (fun dn xv W F hF hd hN hX hI H K hK => ?_) ?_
        · have h0 : xv 0 = .pointer (some ⟨g, 0, none⟩) := (H 0 (.edge (by kernel_rfl))).2
          have f60 : F.tmps.getD 60 undef = .pointer (some ⟨g, 0, none⟩) := (hF 60).trans (Eq.trans (by kernel_rfl) h0)
          clear H hN hd hX hF
          refine on_plain rfl ?_
          go_simp
          exact hK.out _ _ rfl trivial (by simpa [upB, upd] using hI)
        refine EachF.cons 11 rfl (fun dn xv W F hF hd hN hX hI H K hK => ?_) ?_
        · have h9 : xv 9 = .pointer (some ⟨g, 0, none⟩) := (H 9 (.edge (by kernel_rfl))).2
          have f69 : F.tmps.getD 69 undef = .pointer (some ⟨g, 0, none⟩) := (hF 69).trans (Eq.trans (by kernel_rfl) h9)
          clear H hN hd hX hF
          refine on_plain rfl ?_
          go_simp
          exact hK.out _ _ rfl trivial (by simpa [upB, upd] using hI)
        refine EachF.cons 12 rfl (fun dn xv W F hF hd hN hX hI H K hK => ?_) ?_
        · have h8 := (H 8 (.edge (by kernel_rfl))).2
          simp only [Dl] at h8
          have f68 : F.tmps.getD 68 undef = xv 8 := (hF 68).trans (by kernel_rfl)
          have h10 : xv 10 = .pointer (some ⟨g, 3, none⟩) := (H 10 (.edge (by kernel_rfl))).2
          have f70 : F.tmps.getD 70 undef = .pointer (some ⟨g, 3, none⟩) := (hF 70).trans (Eq.trans (by kernel_rfl) h10)
          have q8 : dn 8 = true := (H 8 (.edge (by kernel_rfl))).1
          have hS : ∃ Wm, Below wr.heap.size wr Wm ∧ Wm.grownBy W (Value.slice AP s.pushed.length cP).ownBlock ∧ StrRow W B0 (xv 8) (s.pushed ++ [bd]) ∧ ((xv 8).ownBlock = (Value.slice AP s.pushed.length cP).ownBlock ∨ (xv 8).ownBlock = some Wm.heap.size) := by simpa [hd, q8] using hI
          clear hI hN hd hX hF H
          refine on_plain rfl ?_
          obtain ⟨Wm, s1, s2, s3, s4⟩ := hS
          have hsm := HS2.out.below s1
          have hs0 := hsm.appP s2 s3 s4
          obtain ⟨A2, c2, e2, _⟩ := row_form s3
          have e2x : xv 8 = .slice A2 (s.pushed.length + 1) c2 := e2.trans (by simp)
          have f68x := f68.trans e2x
          have h6 := six_grown hsm.six s2 (fun k hk => (row_lt hsm.ps hk).2.2) (by decide)
          have hc3 := h6.c3
          have hf3 := h6.fz 3
          have hbw : Below B0 wr W := (s1.mono hB0r).trans ((Below.refl _ _).grown s2 (Nat.le_trans hB0r s1.size) (fun k hk => (row_lt hsm.ps hk).1))
          have hs : (SideAt B0 (W.setCell ⟨g, 3, none⟩ (xv 8)) g { s with base := s.base, box := s.box ++ [bd], pushed := s.pushed ++ [bd] } vB2 (xv 8) (.slice AT s.taken.length cT) (.slice AW s.way.length cW)) ∧ Below B0 wr (W.setCell ⟨g, 3, none⟩ (xv 8)) := ⟨hs0, hbw.setCell hgb _⟩
          clear e2 hs0
          go_simp
          rw [← e2x]
          exact hK.out undef _ trivial trivial (by simpa [upB, upd] using hs)
        exact EachF.nil
      · intro dn xv W hI H
        have qe : dn 11 = true := (H 11 (of_decide_eq_true (by kernel_rfl))).1
        have hS : (SideAt B0 W g { s with base := s.base, box := s.box ++ [bd], pushed := s.pushed ++ [bd] } vB2 (xv 8) (.slice AT s.taken.length cT) (.slice AW s.way.length cW)) ∧ Below B0 wr W := by simpa [qe] using hI
        clear H hI qe
        simp only [putAll, Act.put, List.setIfInBounds_toArray, List.set_cons_zero, List.set_cons_succ, Nat.reduceAdd]
        go_wp2_with fail
        go_ret
        exact ⟨rfl, ⟨_, HNX.out h47, _, _, _, _, hS.1⟩, hBW.trans (hBr.trans hS.2)⟩
    · have hpb : pushBase s.base s.box bd = 0 := by simp [pushBase, hpe]
      have hpl : pushL s.base s.box bd = [] := by simp [pushL, hpe]
      rw [hpl] at ho1
      rw [hpb, hpe]
      obtain ⟨A3, c3, rfl, p3, p4, _⟩ := ho1.form (by simp)
      have m0 := hs1.six.c0
      have m1 := hs1.six.c1
      have hgw1 : g < w1.heap.size := hs1.lt
      have e48 : ((s.box.length : Int) == 48) = true := by simp; omega
      have HS1 := Lib.hid hs1
      clear hs1 ho1 h47
      go_wp2_with fail
      go_ret
      exact ⟨rfl, ⟨s, HI.out, _, _, _, _, HS1.out.below ((Below.refl _ _).alloc (Nat.le_refl _) _)⟩, hBW.trans ((hb1.mono (by omega)).trans ((Below.refl _ _).alloc (by omega) _))⟩

set_option maxHeartbeats 2000000 in
theorem act_1 (B0 : Nat) (w : World) (g : Nat) (s : St) (vB vP vT vW : Value) (hs : SideAt B0 w g s vB vP vT vW) (hB : B0 ≤ w.heap.size) (bodies : List (List UInt8)) (Ab : Option Addr) (cb : Nat) (hbd : Bx w B0 Ab bodies) (hI : Inv bodies s) (n : Int) :
    Calls Try.prog 24 #[.pointer (some ⟨g, 0, none⟩), .agg #[.int .i64 1, .int .i64 n], .slice Ab bodies.length cb] w (ActPost B0 w g bodies) := by
  obtain ⟨W0, HW⟩ : ∃ W, Hid (W = w.alloc (.cells #[.int .i64 1, .int .i64 n] 58)) := ⟨_, Lib.hid rfl⟩
  have hbW : Below w.heap.size w W0 := by rw [HW.out]; exact (Below.refl _ w).alloc (Nat.le_refl _) _
  have hs0 := hs.below hbW
  have hgl := hs0.lt
  have hg0 := hs.lt
  have hgb := hs.hg
  have HBD := Lib.hid (hbd.below (hbW.mono hB))
  have hz0 := hbW.size
  have hBW : Below B0 w W0 := hbW.mono hB
  obtain ⟨q, hand, hq⟩ := and_16 n
  have hpl := hI.plen
  have hf3 := hI.fit.1
  have hsum := hI.sum
  have h48 := hI.b48
  have htl := hI.tl
  have hbt := hI.bt
  have hgt := hI.got
  have HGT := Lib.hid hgt
  have hgt := Nat.le_of_eq hgt
  have hwl := hI.wlen
  have HI := Lib.hid hI
  have HS := Lib.hid hs0
  obtain ⟨AB, cB, rfl, b1, b2, hbx⟩ := hs0.box.form hI.fitB.all
  obtain ⟨AP, cP, rfl, p1, p2, hhP⟩ := row_form hs0.ps
  obtain ⟨AT, cT, rfl, t1, t2, hhT⟩ := row_form hs0.ts
  obtain ⟨AW, cW, rfl, w1, w2, hhW⟩ := row_form hs0.ws
  have HBX := Lib.hid hbx
  have HHW := Lib.hid hhW
  have k0 := hs.six.c0
  have k1 := hs.six.c1
  have k3 := hs.six.c3
  have k4 := hs.six.c4
  have k5 := hs.six.c5
  have hp0 : s.pushed.length ≤ 300 := by omega
  clear hs hs0 hI hbd hbx hhP hhT hhW hsum hgt
  go_enter Try.func24, Try.ntmps24
  go_wp2_with fail
  rw [← HW.out]
  refine (sdue_any W0 g s.base AB cB s.box _ _ _ _ HS.out.six HBX.out (by omega) HI.out.fitB b1 b2).mono ?_
  rintro e wr ⟨vl, rfl, hrow, hb1⟩
  obtain ⟨l, Hl⟩ : ∃ l, Hid (items s.base (dueL s.base s.box) = l) := ⟨_, Lib.hid rfl⟩
  rw [Hl.out] at hrow
  have HDI : Hid (∀ c ∈ l, 1 ≤ c.1 ∧ c.1 ≤ s.base + 8 ∧ s.pushed[c.1 - 1]? = some c.2) := Lib.hid (by rw [← Hl.out]; exact fun c hc => HI.out.dueItem hc)
  obtain ⟨Al, cl, rfl, l1, l2, hhl⟩ := row_form hrow
  have hs2 := HS.out.below hb1
  have hz1 := hb1.size
  have m5 := hs2.six.c5
  have HS2 := Lib.hid hs2
  have hBr : Below B0 w wr := hBW.trans (hb1.mono (by omega))
  have hll : l.length ≤ 8 := by
    rw [← Hl.out, items_len, dueL_len]
    exact (dueN_le s.base s.box).1
  clear hs2 hrow
  by_cases hl0 : 0 < l.length
  · have e0 : decide (0 < l.length) = true := decide_eq_true hl0
    by_cases hw5 : s.way.length < 500
    · have e5 : decide ((s.way.length : Int) < 500) = true := decide_eq_true (by omega)
      have eb : ((l.length : Int) == 0) = false := beq_eq_false_iff_ne.2 (by omega)
      have hne : l ≠ [] := fun e => by rw [e] at hl0; simp at hl0
      obtain ⟨k, hk⟩ : ∃ k, q % l.length = k := ⟨_, rfl⟩
      have hkl : k < l.length := by rw [← hk]; exact Nat.mod_lt _ hl0
      have hra : (q : Int).tmod (l.length : Int) = (k : Int) := by rw [← hk]; rfl
      clear hk
      obtain ⟨bl, ol, rfl, hblr, hc1, hc2⟩ := cp_cells hhl hkl
      have HCI := Lib.hid (HDI.out l[k] (List.getElem_mem hkl))
      generalize l[k] = cc at hc1 hc2 HCI
      have hB0r : B0 ≤ wr.heap.size := by omega
      have i0 : (0 : Int) ≤ (k : Int) := by omega
      have i1 : (k : Int) < (l.length : Int) := by omega
      clear hhl
      go_wp2_with fail
      have hbel : ∀ (dn : Nat → Bool) (xv : Nat → Value) (W : World), (if dn 16 = true then (SideAt B0 W g { s with way := s.way ++ [cc] } (.slice AB s.box.length cB) (.slice AP s.pushed.length cP) (.slice AT s.taken.length cT) (xv 13)) ∧ Below B0 wr W else if dn 13 = true then ∃ Wm, Below wr.heap.size wr Wm ∧ Wm.grownBy W (Value.slice AW s.way.length cW).ownBlock ∧ CpRow W B0 (xv 13) (s.way ++ [cc]) ∧ ((xv 13).ownBlock = (Value.slice AW s.way.length cW).ownBlock ∨ (xv 13).ownBlock = some Wm.heap.size) else if dn 12 = true then Below wr.heap.size wr W ∧ OneC cc (xv 12) W else Below wr.heap.size wr W) → dn 13 = false → dn 16 = false → Below wr.heap.size wr W := fun dn xv W h h8 h0 => by
        rw [if_neg (by simp [h0]), if_neg (by simp [h8])] at h
        split at h
        · exact h.1
        exact h
      refine wp_region_f (fun dn xv W => if dn 16 = true then (SideAt B0 W g { s with way := s.way ++ [cc] } (.slice AB s.box.length cB) (.slice AP s.pushed.length cP) (.slice AT s.taken.length cT) (xv 13)) ∧ Below B0 wr W else if dn 13 = true then ∃ Wm, Below wr.heap.size wr Wm ∧ Wm.grownBy W (Value.slice AW s.way.length cW).ownBlock ∧ CpRow W B0 (xv 13) (s.way ++ [cc]) ∧ ((xv 13).ownBlock = (Value.slice AW s.way.length cW).ownBlock ∨ (xv 13).ownBlock = some Wm.heap.size) else if dn 12 = true then Below wr.heap.size wr W ∧ OneC cc (xv 12) W else Below wr.heap.size wr W) (fun _ _ => True) [fun v _ => v = .pointer (some ⟨g, 0, none⟩), fun v _ => v = .pointer (some ⟨g, 0, none⟩), fun v _ => v = .pointer (some ⟨g, 0, none⟩), fun v _ => v = .pointer (some ⟨g, 5, none⟩), fun v _ => v = .slice AW s.way.length cW, fun v _ => v = .slice (some ⟨bl, ol, none⟩) l.length cl, fun v _ => v = .int .i64 (q : Int), fun v _ => v = .slice (some ⟨bl, ol, none⟩) l.length cl, fun v _ => v = .int .i64 (l.length : Int), fun v _ => v = .int .i64 (k : Int), fun v _ => v = .pointer (some ⟨bl, ol + k * 2, none⟩), fun v _ => v = .agg #[.int .u64 (cc.1 : Int), .string ⟨cc.2.toArray⟩], fun v _ => True, fun v _ => True, fun v _ => v = .pointer (some ⟨g, 0, none⟩), fun v _ => v = .pointer (some ⟨g, 5, none⟩), fun v _ => True] (by kernel_rfl) (by kernel_rfl) (by kernel_rfl) (by kernel_rfl) (fun xv => by simpa using (Below.refl _ wr).drew)
        (by exact ⟨fun _ _ _ _ h => h, fun _ _ _ _ h => h, fun _ _ _ _ h => h, fun _ _ _ _ h => h, fun _ _ _ _ h => h, fun _ _ _ _ h => h, fun _ _ _ _ h => h, fun _ _ _ _ h => h, fun _ _ _ _ h => h, fun _ _ _ _ h => h, fun _ _ _ _ h => h, fun _ _ _ _ h => h, fun _ _ _ _ h => h, fun _ _ _ _ h => h, fun _ _ _ _ h => h, fun _ _ _ _ h => h, fun _ _ _ _ h => h, trivial⟩) ?_ ?_
      · refine EachF.cons 1 rfl (fun dn xv W F hF hd hN hX hI H K hK => ?_) ?_
        · have f0 : F.tmps.getD 0 undef = .pointer (some ⟨g, 0, none⟩) := (hF 0).trans (by kernel_rfl)
          clear H hN hd hX hF
          refine on_plain rfl ?_
          go_simp
          exact hK.out _ _ rfl trivial (by simpa [upB, upd] using hI)
        refine EachF.cons 2 rfl (fun dn xv W F hF hd hN hX hI H K hK => ?_) ?_
        · have f0 : F.tmps.getD 0 undef = .pointer (some ⟨g, 0, none⟩) := (hF 0).trans (by kernel_rfl)
          clear H hN hd hX hF
          refine on_plain rfl ?_
          go_simp
          exact hK.out _ _ rfl trivial (by simpa [upB, upd] using hI)
        refine EachF.cons 3 rfl (fun dn xv W F hF hd hN hX hI H K hK => ?_) ?_
        · have h1 : xv 1 = .pointer (some ⟨g, 0, none⟩) := (H 1 (.edge (by kernel_rfl))).2
          have f87 : F.tmps.getD 87 undef = .pointer (some ⟨g, 0, none⟩) := (hF 87).trans (Eq.trans (by kernel_rfl) h1)
          clear H hN hd hX hF
          refine on_plain rfl ?_
          go_simp
          exact hK.out _ _ rfl trivial (by simpa [upB, upd] using hI)
        refine EachF.cons 4 rfl (fun dn xv W F hF hd hN hX hI H K hK => ?_) ?_
        · have h2 : xv 2 = .pointer (some ⟨g, 0, none⟩) := (H 2 (.edge (by kernel_rfl))).2
          have f88 : F.tmps.getD 88 undef = .pointer (some ⟨g, 0, none⟩) := (hF 88).trans (Eq.trans (by kernel_rfl) h2)
          clear H hN hd hX hF
          refine on_plain rfl ?_
          go_simp
          exact hK.out _ _ rfl trivial (by simpa [upB, upd] using hI)
        refine EachF.cons 5 rfl (fun dn xv W F hF hd hN hX hI H K hK => ?_) ?_
        · have h3 : xv 3 = .pointer (some ⟨g, 5, none⟩) := (H 3 (.edge (by kernel_rfl))).2
          have f89 : F.tmps.getD 89 undef = .pointer (some ⟨g, 5, none⟩) := (hF 89).trans (Eq.trans (by kernel_rfl) h3)
          have hb0 := hbel dn xv W hI (hN 13 (.edge (by kernel_rfl))) (hN 16 (.more (j := 13) (by kernel_rfl) (.edge (by kernel_rfl))))
          have hc4 := (HS2.out.six.below hb0 HS2.out.lt).c5
          clear H hN hd hX hF
          refine on_plain rfl ?_
          go_simp
          exact hK.out _ _ rfl trivial (by simpa [upB, upd] using hI)
        refine EachF.cons 6 rfl (fun dn xv W F hF hd hN hX hI H K hK => ?_) ?_
        · have f11 : F.tmps.getD 11 undef = .slice (some ⟨bl, ol, none⟩) l.length cl := (hF 11).trans (by kernel_rfl)
          clear H hN hd hX hF
          refine on_plain rfl ?_
          go_simp
          exact hK.out _ _ rfl trivial (by simpa [upB, upd] using hI)
        refine EachF.cons 7 rfl (fun dn xv W F hF hd hN hX hI H K hK => ?_) ?_
        · have f7 : F.tmps.getD 7 undef = .int .i64 (q : Int) := (hF 7).trans (by kernel_rfl)
          clear H hN hd hX hF
          refine on_plain rfl ?_
          go_simp
          exact hK.out _ _ rfl trivial (by simpa [upB, upd] using hI)
        refine EachF.cons 8 rfl (fun dn xv W F hF hd hN hX hI H K hK => ?_) ?_
        · have f11 : F.tmps.getD 11 undef = .slice (some ⟨bl, ol, none⟩) l.length cl := (hF 11).trans (by kernel_rfl)
          clear H hN hd hX hF
          refine on_plain rfl ?_
          go_simp
          exact hK.out _ _ rfl trivial (by simpa [upB, upd] using hI)
        refine EachF.cons 9 rfl (fun dn xv W F hF hd hN hX hI H K hK => ?_) ?_
        · have h7 : xv 7 = .slice (some ⟨bl, ol, none⟩) l.length cl := (H 7 (.edge (by kernel_rfl))).2
          have f93 : F.tmps.getD 93 undef = .slice (some ⟨bl, ol, none⟩) l.length cl := (hF 93).trans (Eq.trans (by kernel_rfl) h7)
          clear H hN hd hX hF
          refine on_plain rfl ?_
          go_simp
          exact hK.out _ _ rfl trivial (by simpa [upB, upd] using hI)
        refine EachF.cons 10 rfl (fun dn xv W F hF hd hN hX hI H K hK => ?_) ?_
        · have h6 : xv 6 = .int .i64 (q : Int) := (H 6 (.edge (by kernel_rfl))).2
          have f92 : F.tmps.getD 92 undef = .int .i64 (q : Int) := (hF 92).trans (Eq.trans (by kernel_rfl) h6)
          have h8 : xv 8 = .int .i64 (l.length : Int) := (H 8 (.edge (by kernel_rfl))).2
          have f94 : F.tmps.getD 94 undef = .int .i64 (l.length : Int) := (hF 94).trans (Eq.trans (by kernel_rfl) h8)
          clear H hN hd hX hF
          refine on_plain rfl ?_
          go_simp
          exact hK.out _ _ rfl trivial (by simpa [upB, upd] using hI)
        refine EachF.cons 11 rfl (fun dn xv W F hF hd hN hX hI H K hK => ?_) ?_
        · have h5 : xv 5 = .slice (some ⟨bl, ol, none⟩) l.length cl := (H 5 (.edge (by kernel_rfl))).2
          have f91 : F.tmps.getD 91 undef = .slice (some ⟨bl, ol, none⟩) l.length cl := (hF 91).trans (Eq.trans (by kernel_rfl) h5)
          have h9 : xv 9 = .int .i64 (k : Int) := (H 9 (.edge (by kernel_rfl))).2
          have f95 : F.tmps.getD 95 undef = .int .i64 (k : Int) := (hF 95).trans (Eq.trans (by kernel_rfl) h9)
          clear H hN hd hX hF
          refine on_plain rfl ?_
          go_simp
          exact hK.out _ _ rfl trivial (by simpa [upB, upd] using hI)
        refine EachF.cons 12 rfl (fun dn xv W F hF hd hN hX hI H K hK => ?_) ?_
        · have h10 : xv 10 = .pointer (some ⟨bl, ol + k * 2, none⟩) := (H 10 (.edge (by kernel_rfl))).2
          have f96 : F.tmps.getD 96 undef = .pointer (some ⟨bl, ol + k * 2, none⟩) := (hF 96).trans (Eq.trans (by kernel_rfl) h10)
          have hb0 := hbel dn xv W hI (hN 13 (.more (j := 12) (by kernel_rfl) (.edge (by kernel_rfl)))) (hN 16 (.more (j := 13) (by kernel_rfl) (.more (j := 12) (by kernel_rfl) (.edge (by kernel_rfl)))))
          have hc4 := (hb0.cell (p := ⟨bl, ol + k * 2, none⟩) hblr).trans hc1
          have hc5 := (hb0.cell (p := ⟨bl, ol + k * 2 + 1, none⟩) hblr).trans hc2
          clear H hN hd hX hF
          refine on_plain rfl ?_
          go_simp
          exact hK.out _ _ rfl trivial (by simpa [upB, upd] using hI)
        refine EachF.cons 13 rfl (fun dn xv W F hF hd hN hX hI H K hK => ?_) ?_
        · have h11 : xv 11 = .agg #[.int .u64 (cc.1 : Int), .string ⟨cc.2.toArray⟩] := (H 11 (.edge (by kernel_rfl))).2
          have f97 : F.tmps.getD 97 undef = .agg #[.int .u64 (cc.1 : Int), .string ⟨cc.2.toArray⟩] := (hF 97).trans (Eq.trans (by kernel_rfl) h11)
          have q13 : dn 13 = false := hN 13 (.edge (by kernel_rfl))
          have q16 : dn 16 = false := hN 16 (.more (j := 13) (by kernel_rfl) (.edge (by kernel_rfl)))
          have hS : Below wr.heap.size wr W := by simpa [hd, q13, q16] using hI
          clear hI hN hd hX hF H
          refine on_plain rfl ?_
          have g97 := f97
          rw [Array.getD_eq_getD_getElem?] at g97
          go_simp
          have hb : Below W.heap.size W (W.alloc (.cells #[.int .u64 (cc.1 : Int), .string ⟨cc.2.toArray⟩] 62)) := (Below.refl _ _).alloc (Nat.le_refl _) _
          have hs : Below wr.heap.size wr (W.alloc (.cells #[.int .u64 (cc.1 : Int), .string ⟨cc.2.toArray⟩] 62)) ∧ OneC cc (.slice (some ⟨W.heap.size, 0, none⟩) 1 1) (W.alloc (.cells #[.int .u64 (cc.1 : Int), .string ⟨cc.2.toArray⟩] 62)) := ⟨hS.trans (hb.mono hS.size), OneC.new W cc⟩
          exact hK.out _ _ trivial trivial (by simpa [upB, upd, q13, q16] using hs)
        refine EachF.cons 14 rfl (fun dn xv W F hF hd hN hX hI H K hK => ?_) ?_
        · have h4 : xv 4 = .slice AW s.way.length cW := (H 4 (.edge (by kernel_rfl))).2
          have f90 : F.tmps.getD 90 undef = .slice AW s.way.length cW := (hF 90).trans (Eq.trans (by kernel_rfl) h4)
          have h12 := (H 12 (.edge (by kernel_rfl))).2
          simp only [Dl] at h12
          have f98 : F.tmps.getD 98 undef = xv 12 := (hF 98).trans (by kernel_rfl)
          have q12 : dn 12 = true := (H 12 (.edge (by kernel_rfl))).1
          have q16 : dn 16 = false := hN 16 (.edge (by kernel_rfl))
          have hS : Below wr.heap.size wr W ∧ OneC cc (xv 12) W := by simpa [hd, q16, q12] using hI
          clear hI hN hd hX hF H
          refine on_plain rfl ?_
          obtain ⟨s1, A3, c3, e3, hh3⟩ := hS
          have f98x := f98.trans e3
          refine op_appC (base := B0) (l := s.way) (m := [cc]) (s := .tmp 90) (x := .tmp 98) (by rfl) f90 f98x (row_below HS2.out.ws s1) hh3 (by simp; omega) (Nat.le_trans hB0r s1.size) ?_
          intro v W' h1 h2 h3
          have hs : ∃ Wm, Below wr.heap.size wr Wm ∧ Wm.grownBy W' (Value.slice AW s.way.length cW).ownBlock ∧ CpRow W' B0 v (s.way ++ [cc]) ∧ (v.ownBlock = (Value.slice AW s.way.length cW).ownBlock ∨ v.ownBlock = some Wm.heap.size) := ⟨W, s1, h2, h1, h3⟩
          exact hK.out v _ trivial trivial (by simpa [upB, upd, q16] using hs)
        refine EachF.cons 15 rfl (fun dn xv W F hF hd hN hX hI H K hK => ?_) ?_
        · have h0 : xv 0 = .pointer (some ⟨g, 0, none⟩) := (H 0 (.edge (by kernel_rfl))).2
          have f86 : F.tmps.getD 86 undef = .pointer (some ⟨g, 0, none⟩) := (hF 86).trans (Eq.trans (by kernel_rfl) h0)
          clear H hN hd hX hF
          refine on_plain rfl ?_
          go_simp
          exact hK.out _ _ rfl trivial (by simpa [upB, upd] using hI)
        refine EachF.cons 16 rfl (fun dn xv W F hF hd hN hX hI H K hK => ?_) ?_
        · have h14 : xv 14 = .pointer (some ⟨g, 0, none⟩) := (H 14 (.edge (by kernel_rfl))).2
          have f100 : F.tmps.getD 100 undef = .pointer (some ⟨g, 0, none⟩) := (hF 100).trans (Eq.trans (by kernel_rfl) h14)
          clear H hN hd hX hF
          refine on_plain rfl ?_
          go_simp
          exact hK.out _ _ rfl trivial (by simpa [upB, upd] using hI)
        refine EachF.cons 17 rfl (fun dn xv W F hF hd hN hX hI H K hK => ?_) ?_
        · have h13 := (H 13 (.edge (by kernel_rfl))).2
          simp only [Dl] at h13
          have f99 : F.tmps.getD 99 undef = xv 13 := (hF 99).trans (by kernel_rfl)
          have h15 : xv 15 = .pointer (some ⟨g, 5, none⟩) := (H 15 (.edge (by kernel_rfl))).2
          have f101 : F.tmps.getD 101 undef = .pointer (some ⟨g, 5, none⟩) := (hF 101).trans (Eq.trans (by kernel_rfl) h15)
          have q13 : dn 13 = true := (H 13 (.edge (by kernel_rfl))).1
          have hS : ∃ Wm, Below wr.heap.size wr Wm ∧ Wm.grownBy W (Value.slice AW s.way.length cW).ownBlock ∧ CpRow W B0 (xv 13) (s.way ++ [cc]) ∧ ((xv 13).ownBlock = (Value.slice AW s.way.length cW).ownBlock ∨ (xv 13).ownBlock = some Wm.heap.size) := by simpa [hd, q13] using hI
          clear hI hN hd hX hF H
          refine on_plain rfl ?_
          obtain ⟨Wm, s1, s2, s3, s4⟩ := hS
          have hsm := HS2.out.below s1
          have hs0 := hsm.appW s2 s3 
          obtain ⟨A2, c2, e2, _⟩ := row_form s3
          have e2x : xv 13 = .slice A2 (s.way.length + 1) c2 := e2.trans (by simp)
          have f99x := f99.trans e2x
          have h6 := six_grown hsm.six s2 (fun k hk => (row_lt hsm.ws hk).2.2) (by decide)
          have hc3 := h6.c5
          have hf3 := h6.fz 5
          have hbw : Below B0 wr W := (s1.mono hB0r).trans ((Below.refl _ _).grown s2 (Nat.le_trans hB0r s1.size) (fun k hk => (row_lt hsm.ws hk).1))
          have hs : (SideAt B0 (W.setCell ⟨g, 5, none⟩ (xv 13)) g { s with way := s.way ++ [cc] } (.slice AB s.box.length cB) (.slice AP s.pushed.length cP) (.slice AT s.taken.length cT) (xv 13)) ∧ Below B0 wr (W.setCell ⟨g, 5, none⟩ (xv 13)) := ⟨hs0, hbw.setCell hgb _⟩
          clear e2 hs0
          go_simp
          rw [← e2x]
          exact hK.out undef _ trivial trivial (by simpa [upB, upd] using hs)
        exact EachF.nil
      · intro dn xv W hI H
        have qe : dn 16 = true := (H 16 (of_decide_eq_true (by kernel_rfl))).1
        have hS : (SideAt B0 W g { s with way := s.way ++ [cc] } (.slice AB s.box.length cB) (.slice AP s.pushed.length cP) (.slice AT s.taken.length cT) (xv 13)) ∧ Below B0 wr W := by simpa [qe] using hI
        clear H hI qe
        simp only [putAll, Act.put, List.setIfInBounds_toArray, List.set_cons_zero, List.set_cons_succ, Nat.reduceAdd]
        go_wp2_with fail
        go_ret
        exact ⟨rfl, ⟨_, HI.out.send HCI.out hw5, _, _, _, _, hS.1⟩, hBr.trans hS.2⟩
    · have e5 : decide ((s.way.length : Int) < 500) = false := decide_eq_false (by omega)
      go_wp2_with fail
      go_ret
      exact ⟨rfl, ⟨_, HI.out, _, _, _, _, HS2.out⟩, hBr⟩
  · have e0 : decide (0 < l.length) = false := decide_eq_false hl0
    go_wp2_with fail
    go_ret
    exact ⟨rfl, ⟨_, HI.out, _, _, _, _, HS2.out⟩, hBr⟩

set_option maxHeartbeats 2000000 in
theorem act_2 (B0 : Nat) (w : World) (g : Nat) (s : St) (vB vP vT vW : Value) (hs : SideAt B0 w g s vB vP vT vW) (hB : B0 ≤ w.heap.size) (bodies : List (List UInt8)) (Ab : Option Addr) (cb : Nat) (hbd : Bx w B0 Ab bodies) (hI : Inv bodies s) (n : Int) :
    Calls Try.prog 24 #[.pointer (some ⟨g, 0, none⟩), .agg #[.int .i64 2, .int .i64 n], .slice Ab bodies.length cb] w (ActPost B0 w g bodies) := by
  obtain ⟨W0, HW⟩ : ∃ W, Hid (W = w.alloc (.cells #[.int .i64 2, .int .i64 n] 58)) := ⟨_, Lib.hid rfl⟩
  have hbW : Below w.heap.size w W0 := by rw [HW.out]; exact (Below.refl _ w).alloc (Nat.le_refl _) _
  have hs0 := hs.below hbW
  have hgl := hs0.lt
  have hg0 := hs.lt
  have hgb := hs.hg
  have HBD := Lib.hid (hbd.below (hbW.mono hB))
  have hz0 := hbW.size
  have hBW : Below B0 w W0 := hbW.mono hB
  obtain ⟨q, hand, hq⟩ := and_16 n
  have hpl := hI.plen
  have hf3 := hI.fit.1
  have hsum := hI.sum
  have h48 := hI.b48
  have htl := hI.tl
  have hbt := hI.bt
  have hgt := hI.got
  have HGT := Lib.hid hgt
  have hgt := Nat.le_of_eq hgt
  have hwl := hI.wlen
  have HI := Lib.hid hI
  have HS := Lib.hid hs0
  obtain ⟨AB, cB, rfl, b1, b2, hbx⟩ := hs0.box.form hI.fitB.all
  obtain ⟨AP, cP, rfl, p1, p2, hhP⟩ := row_form hs0.ps
  obtain ⟨AT, cT, rfl, t1, t2, hhT⟩ := row_form hs0.ts
  obtain ⟨AW, cW, rfl, w1, w2, hhW⟩ := row_form hs0.ws
  have HBX := Lib.hid hbx
  have HHW := Lib.hid hhW
  have k0 := hs.six.c0
  have k1 := hs.six.c1
  have k3 := hs.six.c3
  have k4 := hs.six.c4
  have k5 := hs.six.c5
  have hp0 : s.pushed.length ≤ 300 := by omega
  clear hs hs0 hI hbd hbx hhP hhT hhW hsum hgt
  by_cases hw0 : 0 < s.way.length
  · have e0 : decide (0 < s.way.length) = true := decide_eq_true hw0
    have eb : ((s.way.length : Int) == 0) = false := beq_eq_false_iff_ne.2 (by omega)
    have hne : s.way ≠ [] := fun e => by rw [e] at hw0; simp at hw0
    obtain ⟨k, hk⟩ : ∃ k, q % s.way.length = k := ⟨_, rfl⟩
    have hkl : k < s.way.length := by rw [← hk]; exact Nat.mod_lt _ hw0
    have hra : (q : Int).tmod (s.way.length : Int) = (k : Int) := by rw [← hk]; rfl
    clear hk
    obtain ⟨bl, ol, rfl, hblr, hc1, hc2⟩ := cp_cells HHW.out hkl
    have HCI := Lib.hid (HI.out.way s.way[k] (List.getElem_mem hkl))
    have hcl : s.way[k].1 ≤ s.base + 8 := (HI.out.way s.way[k] (List.getElem_mem hkl)).2.1
    generalize s.way[k] = cc at hc1 hc2 HCI hcl
    have hB0r : B0 ≤ W0.heap.size := by omega
    have i0 : (0 : Int) ≤ (k : Int) := by omega
    have i1 : (k : Int) < (s.way.length : Int) := by omega
    obtain ⟨wr, HWR⟩ : ∃ wr, Hid (wr = W0) := ⟨_, Lib.hid rfl⟩
    have HS2 := HS
    rw [← HWR.out] at HS2 hblr hc1 hc2 hB0r
    go_enter Try.func24, Try.ntmps24
    go_wp2_with fail
    rw [← HW.out, ← HWR.out]
    refine wp_region_f (fun dn xv W => if dn 14 = true then (∃ vT', SideAt B0 W g (s.come cc) (.slice AB s.box.length cB) (.slice AP s.pushed.length cP) vT' (.slice (some ⟨bl, ol, none⟩) s.way.length cW)) ∧ Below B0 wr W else Below wr.heap.size wr W) (fun _ _ => True) [fun v _ => v = .pointer (some ⟨g, 0, none⟩), fun v _ => v = .pointer (some ⟨g, 0, none⟩), fun v _ => v = .pointer (some ⟨g, 0, none⟩), fun v _ => v = .pointer (some ⟨g, 5, none⟩), fun v _ => v = .slice (some ⟨bl, ol, none⟩) s.way.length cW, fun v _ => v = .int .i64 (q : Int), fun v _ => v = .pointer (some ⟨g, 0, none⟩), fun v _ => v = .pointer (some ⟨g, 0, none⟩), fun v _ => v = .pointer (some ⟨g, 5, none⟩), fun v _ => v = .slice (some ⟨bl, ol, none⟩) s.way.length cW, fun v _ => v = .int .i64 (s.way.length : Int), fun v _ => v = .int .i64 (k : Int), fun v _ => v = .pointer (some ⟨bl, ol + k * 2, none⟩), fun v _ => v = .agg #[.int .u64 (cc.1 : Int), .string ⟨cc.2.toArray⟩], fun v _ => True] (by kernel_rfl) (by kernel_rfl) (by kernel_rfl) (by kernel_rfl) (fun xv => by simpa using (Below.refl _ wr).drew)
      (by exact ⟨fun _ _ _ _ h => h, fun _ _ _ _ h => h, fun _ _ _ _ h => h, fun _ _ _ _ h => h, fun _ _ _ _ h => h, fun _ _ _ _ h => h, fun _ _ _ _ h => h, fun _ _ _ _ h => h, fun _ _ _ _ h => h, fun _ _ _ _ h => h, fun _ _ _ _ h => h, fun _ _ _ _ h => h, fun _ _ _ _ h => h, fun _ _ _ _ h => h, fun _ _ _ _ h => h, trivial⟩) ?_ ?_
    · refine EachF.cons 1 rfl (fun dn xv W F hF hd hN hX hI H K hK => ?_) ?_
      · have f0 : F.tmps.getD 0 undef = .pointer (some ⟨g, 0, none⟩) := (hF 0).trans (by kernel_rfl)
        clear H hN hd hX hF
        refine on_plain rfl ?_
        go_simp
        exact hK.out _ _ rfl trivial (by simpa [upB, upd] using hI)
      refine EachF.cons 2 rfl (fun dn xv W F hF hd hN hX hI H K hK => ?_) ?_
      · have f0 : F.tmps.getD 0 undef = .pointer (some ⟨g, 0, none⟩) := (hF 0).trans (by kernel_rfl)
        clear H hN hd hX hF
        refine on_plain rfl ?_
        go_simp
        exact hK.out _ _ rfl trivial (by simpa [upB, upd] using hI)
      refine EachF.cons 3 rfl (fun dn xv W F hF hd hN hX hI H K hK => ?_) ?_
      · have h1 : xv 1 = .pointer (some ⟨g, 0, none⟩) := (H 1 (.edge (by kernel_rfl))).2
        have f111 : F.tmps.getD 111 undef = .pointer (some ⟨g, 0, none⟩) := (hF 111).trans (Eq.trans (by kernel_rfl) h1)
        clear H hN hd hX hF
        refine on_plain rfl ?_
        go_simp
        exact hK.out _ _ rfl trivial (by simpa [upB, upd] using hI)
      refine EachF.cons 4 rfl (fun dn xv W F hF hd hN hX hI H K hK => ?_) ?_
      · have h2 : xv 2 = .pointer (some ⟨g, 0, none⟩) := (H 2 (.edge (by kernel_rfl))).2
        have f112 : F.tmps.getD 112 undef = .pointer (some ⟨g, 0, none⟩) := (hF 112).trans (Eq.trans (by kernel_rfl) h2)
        clear H hN hd hX hF
        refine on_plain rfl ?_
        go_simp
        exact hK.out _ _ rfl trivial (by simpa [upB, upd] using hI)
      refine EachF.cons 5 rfl (fun dn xv W F hF hd hN hX hI H K hK => ?_) ?_
      · have h3 : xv 3 = .pointer (some ⟨g, 5, none⟩) := (H 3 (.edge (by kernel_rfl))).2
        have f113 : F.tmps.getD 113 undef = .pointer (some ⟨g, 5, none⟩) := (hF 113).trans (Eq.trans (by kernel_rfl) h3)
        have hb0 : Below wr.heap.size wr W := by have hq := hN 14 (.more (j := 13) (by kernel_rfl) (.more (j := 12) (by kernel_rfl) (.edge (by kernel_rfl)))); simpa [hq] using hI
        have hc4 := (HS2.out.six.below hb0 HS2.out.lt).c5
        clear H hN hd hX hF
        refine on_plain rfl ?_
        go_simp
        exact hK.out _ _ rfl trivial (by simpa [upB, upd] using hI)
      refine EachF.cons 6 rfl (fun dn xv W F hF hd hN hX hI H K hK => ?_) ?_
      · have f7 : F.tmps.getD 7 undef = .int .i64 (q : Int) := (hF 7).trans (by kernel_rfl)
        clear H hN hd hX hF
        refine on_plain rfl ?_
        go_simp
        exact hK.out _ _ rfl trivial (by simpa [upB, upd] using hI)
      refine EachF.cons 7 rfl (fun dn xv W F hF hd hN hX hI H K hK => ?_) ?_
      · have f0 : F.tmps.getD 0 undef = .pointer (some ⟨g, 0, none⟩) := (hF 0).trans (by kernel_rfl)
        clear H hN hd hX hF
        refine on_plain rfl ?_
        go_simp
        exact hK.out _ _ rfl trivial (by simpa [upB, upd] using hI)
      refine EachF.cons 8 rfl (fun dn xv W F hF hd hN hX hI H K hK => ?_) ?_
      · have h6 : xv 6 = .pointer (some ⟨g, 0, none⟩) := (H 6 (.edge (by kernel_rfl))).2
        have f116 : F.tmps.getD 116 undef = .pointer (some ⟨g, 0, none⟩) := (hF 116).trans (Eq.trans (by kernel_rfl) h6)
        clear H hN hd hX hF
        refine on_plain rfl ?_
        go_simp
        exact hK.out _ _ rfl trivial (by simpa [upB, upd] using hI)
      refine EachF.cons 9 rfl (fun dn xv W F hF hd hN hX hI H K hK => ?_) ?_
      · have h7 : xv 7 = .pointer (some ⟨g, 0, none⟩) := (H 7 (.edge (by kernel_rfl))).2
        have f117 : F.tmps.getD 117 undef = .pointer (some ⟨g, 0, none⟩) := (hF 117).trans (Eq.trans (by kernel_rfl) h7)
        clear H hN hd hX hF
        refine on_plain rfl ?_
        go_simp
        exact hK.out _ _ rfl trivial (by simpa [upB, upd] using hI)
      refine EachF.cons 10 rfl (fun dn xv W F hF hd hN hX hI H K hK => ?_) ?_
      · have h8 : xv 8 = .pointer (some ⟨g, 5, none⟩) := (H 8 (.edge (by kernel_rfl))).2
        have f118 : F.tmps.getD 118 undef = .pointer (some ⟨g, 5, none⟩) := (hF 118).trans (Eq.trans (by kernel_rfl) h8)
        have hb0 : Below wr.heap.size wr W := by have hq := hN 14 (.more (j := 13) (by kernel_rfl) (.more (j := 12) (by kernel_rfl) (.more (j := 11) (by kernel_rfl) (.more (j := 10) (by kernel_rfl) (.edge (by kernel_rfl)))))); simpa [hq] using hI
        have hc4 := (HS2.out.six.below hb0 HS2.out.lt).c5
        clear H hN hd hX hF
        refine on_plain rfl ?_
        go_simp
        exact hK.out _ _ rfl trivial (by simpa [upB, upd] using hI)
      refine EachF.cons 11 rfl (fun dn xv W F hF hd hN hX hI H K hK => ?_) ?_
      · have h9 : xv 9 = .slice (some ⟨bl, ol, none⟩) s.way.length cW := (H 9 (.edge (by kernel_rfl))).2
        have f119 : F.tmps.getD 119 undef = .slice (some ⟨bl, ol, none⟩) s.way.length cW := (hF 119).trans (Eq.trans (by kernel_rfl) h9)
        clear H hN hd hX hF
        refine on_plain rfl ?_
        go_simp
        exact hK.out _ _ rfl trivial (by simpa [upB, upd] using hI)
      refine EachF.cons 12 rfl (fun dn xv W F hF hd hN hX hI H K hK => ?_) ?_
      · have h5 : xv 5 = .int .i64 (q : Int) := (H 5 (.edge (by kernel_rfl))).2
        have f115 : F.tmps.getD 115 undef = .int .i64 (q : Int) := (hF 115).trans (Eq.trans (by kernel_rfl) h5)
        have h10 : xv 10 = .int .i64 (s.way.length : Int) := (H 10 (.edge (by kernel_rfl))).2
        have f120 : F.tmps.getD 120 undef = .int .i64 (s.way.length : Int) := (hF 120).trans (Eq.trans (by kernel_rfl) h10)
        clear H hN hd hX hF
        refine on_plain rfl ?_
        go_simp
        exact hK.out _ _ rfl trivial (by simpa [upB, upd] using hI)
      refine EachF.cons 13 rfl (fun dn xv W F hF hd hN hX hI H K hK => ?_) ?_
      · have h4 : xv 4 = .slice (some ⟨bl, ol, none⟩) s.way.length cW := (H 4 (.edge (by kernel_rfl))).2
        have f114 : F.tmps.getD 114 undef = .slice (some ⟨bl, ol, none⟩) s.way.length cW := (hF 114).trans (Eq.trans (by kernel_rfl) h4)
        have h11 : xv 11 = .int .i64 (k : Int) := (H 11 (.edge (by kernel_rfl))).2
        have f121 : F.tmps.getD 121 undef = .int .i64 (k : Int) := (hF 121).trans (Eq.trans (by kernel_rfl) h11)
        clear H hN hd hX hF
        refine on_plain rfl ?_
        go_simp
        exact hK.out _ _ rfl trivial (by simpa [upB, upd] using hI)
      refine EachF.cons 14 rfl (fun dn xv W F hF hd hN hX hI H K hK => ?_) ?_
      · have h12 : xv 12 = .pointer (some ⟨bl, ol + k * 2, none⟩) := (H 12 (.edge (by kernel_rfl))).2
        have f122 : F.tmps.getD 122 undef = .pointer (some ⟨bl, ol + k * 2, none⟩) := (hF 122).trans (Eq.trans (by kernel_rfl) h12)
        have hb0 : Below wr.heap.size wr W := by have hq := hN 14 (.edge (by kernel_rfl)); simpa [hq] using hI
        have hc4 := (hb0.cell (p := ⟨bl, ol + k * 2, none⟩) hblr).trans hc1
        have hc5 := (hb0.cell (p := ⟨bl, ol + k * 2 + 1, none⟩) hblr).trans hc2
        clear H hN hd hX hF
        refine on_plain rfl ?_
        go_simp
        exact hK.out _ _ rfl trivial (by simpa [upB, upd] using hI)
      refine EachF.cons 15 rfl (fun dn xv W F hF hd hN hX hI H K hK => ?_) ?_
      · have h0 : xv 0 = .pointer (some ⟨g, 0, none⟩) := (H 0 (.edge (by kernel_rfl))).2
        have f110 : F.tmps.getD 110 undef = .pointer (some ⟨g, 0, none⟩) := (hF 110).trans (Eq.trans (by kernel_rfl) h0)
        have h13 : xv 13 = .agg #[.int .u64 (cc.1 : Int), .string ⟨cc.2.toArray⟩] := (H 13 (.edge (by kernel_rfl))).2
        have f123 : F.tmps.getD 123 undef = .agg #[.int .u64 (cc.1 : Int), .string ⟨cc.2.toArray⟩] := (hF 123).trans (Eq.trans (by kernel_rfl) h13)
        have hS : Below wr.heap.size wr W := by simpa [hd] using hI
        clear hI hN hd hX hF H
        refine on_plain rfl ?_
        go_simp
        refine (come_any B0 W g s _ _ _ _ (HS2.out.below hS) (Nat.le_trans hB0r hS.size) cc.1 cc.2 (by omega) (by omega) (by omega)).mono ?_
        rintro e W' ⟨rfl, hx, hbb, -⟩
        have hs : (∃ vT', SideAt B0 W' g (s.come cc) (.slice AB s.box.length cB) (.slice AP s.pushed.length cP) vT' (.slice (some ⟨bl, ol, none⟩) s.way.length cW)) ∧ Below B0 wr W' := ⟨hx, (hS.mono hB0r).trans hbb⟩
        exact hK.out _ _ trivial trivial (by simpa [upB, upd] using hs)
      exact EachF.nil
    · intro dn xv W hI H
      have qe : dn 14 = true := (H 14 (of_decide_eq_true (by kernel_rfl))).1
      have hS : (∃ vT', SideAt B0 W g (s.come cc) (.slice AB s.box.length cB) (.slice AP s.pushed.length cP) vT' (.slice (some ⟨bl, ol, none⟩) s.way.length cW)) ∧ Below B0 wr W := by simpa [qe] using hI
      clear H hI qe
      simp only [putAll, Act.put, List.setIfInBounds_toArray, List.set_cons_zero, List.set_cons_succ, Nat.reduceAdd]
      go_wp2_with fail
      go_ret
      obtain ⟨⟨vT2, hx⟩, hbb⟩ := hS
      rw [HWR.out] at hbb
      exact ⟨rfl, ⟨_, HI.out.come HCI.out, _, _, _, _, hx⟩, hBW.trans hbb⟩
  · have e0 : decide (0 < s.way.length) = false := decide_eq_false hw0
    go_enter Try.func24, Try.ntmps24
    go_wp2_with fail
    go_ret
    rw [← HW.out]
    exact ⟨rfl, ⟨s, HI.out, _, _, _, _, HS.out⟩, hBW⟩

set_option maxHeartbeats 2000000 in
theorem act_3 (B0 : Nat) (w : World) (g : Nat) (s : St) (vB vP vT vW : Value) (hs : SideAt B0 w g s vB vP vT vW) (hB : B0 ≤ w.heap.size) (bodies : List (List UInt8)) (Ab : Option Addr) (cb : Nat) (hbd : Bx w B0 Ab bodies) (hI : Inv bodies s) (n : Int) :
    Calls Try.prog 24 #[.pointer (some ⟨g, 0, none⟩), .agg #[.int .i64 3, .int .i64 n], .slice Ab bodies.length cb] w (ActPost B0 w g bodies) := by
  obtain ⟨W0, HW⟩ : ∃ W, Hid (W = w.alloc (.cells #[.int .i64 3, .int .i64 n] 58)) := ⟨_, Lib.hid rfl⟩
  have hbW : Below w.heap.size w W0 := by rw [HW.out]; exact (Below.refl _ w).alloc (Nat.le_refl _) _
  have hs0 := hs.below hbW
  have hgl := hs0.lt
  have hg0 := hs.lt
  have hgb := hs.hg
  have HBD := Lib.hid (hbd.below (hbW.mono hB))
  have hz0 := hbW.size
  have hBW : Below B0 w W0 := hbW.mono hB
  obtain ⟨q, hand, hq⟩ := and_16 n
  have hpl := hI.plen
  have hf3 := hI.fit.1
  have hsum := hI.sum
  have h48 := hI.b48
  have htl := hI.tl
  have hbt := hI.bt
  have hgt := hI.got
  have HGT := Lib.hid hgt
  have hgt := Nat.le_of_eq hgt
  have hwl := hI.wlen
  have HI := Lib.hid hI
  have HS := Lib.hid hs0
  obtain ⟨AB, cB, rfl, b1, b2, hbx⟩ := hs0.box.form hI.fitB.all
  obtain ⟨AP, cP, rfl, p1, p2, hhP⟩ := row_form hs0.ps
  obtain ⟨AT, cT, rfl, t1, t2, hhT⟩ := row_form hs0.ts
  obtain ⟨AW, cW, rfl, w1, w2, hhW⟩ := row_form hs0.ws
  have HBX := Lib.hid hbx
  have HHW := Lib.hid hhW
  have k0 := hs.six.c0
  have k1 := hs.six.c1
  have k3 := hs.six.c3
  have k4 := hs.six.c4
  have k5 := hs.six.c5
  have hp0 : s.pushed.length ≤ 300 := by omega
  clear hs hs0 hI hbd hbx hhP hhT hhW hsum hgt
  by_cases hw0 : 0 < s.way.length
  · have e0 : decide (0 < s.way.length) = true := decide_eq_true hw0
    have eb : ((s.way.length : Int) == 0) = false := beq_eq_false_iff_ne.2 (by omega)
    have hne : s.way ≠ [] := fun e => by rw [e] at hw0; simp at hw0
    obtain ⟨k, hk⟩ : ∃ k, q % s.way.length = k := ⟨_, rfl⟩
    have hkl : k < s.way.length := by rw [← hk]; exact Nat.mod_lt _ hw0
    have hra : (q : Int).tmod (s.way.length : Int) = (k : Int) := by rw [← hk]; rfl
    clear hk
    have hB0r : B0 ≤ W0.heap.size := by omega
    have i0 : (0 : Int) ≤ (k : Int) := by omega
    have i1 : (k : Int) < (s.way.length : Int) := by omega
    have HG1 := Lib.hid (run_toC AW s.way.length cW k (by omega) w1)
    obtain ⟨Ad, HAD⟩ : ∃ Ad, Hid ((if cW = k + 1 then AW else AW.map (·.add ((k + 1) * 2))) = Ad) := ⟨_, Lib.hid rfl⟩
    have hg2 : ∀ W, (Instr.slice 53 (.slice AW s.way.length cW) (some (.int .i64 ((k : Int) + 1))) none none).run Try.prog W = .ok (.slice Ad (s.way.length - (k + 1)) (cW - (k + 1))) W := fun W => by
      rw [← HAD.out]
      exact run_fromC AW s.way.length cW (k + 1) (by omega) w1 W
    have HG2 := Lib.hid hg2
    have hta := HHW.out.take (k * 2)
    have hdr := HHW.out.drop (k + 1) 2 cW (by rw [cps_len]; omega)
    rw [← cps_take] at hta
    rw [← cps_drop, HAD.out] at hdr
    have ETK : Hid (Value.slice AW k cW = .slice AW (s.way.take k).length cW) := Lib.hid (by rw [List.length_take, Nat.min_eq_left (by omega)])
    have EDR : Hid (Value.slice Ad (s.way.length - (k + 1)) (cW - (k + 1)) = .slice Ad (s.way.drop (k + 1)).length (cW - (k + 1))) := Lib.hid (by rw [List.length_drop])
    obtain ⟨wr, HWR⟩ : ∃ wr, Hid (wr = W0) := ⟨_, Lib.hid rfl⟩
    have HS2 := HS
    rw [← HWR.out] at HS2 hB0r hta hdr
    have x1 : IntKind.i64.wrap ((k : Int) + 1) = (k : Int) + 1 := IntWalk.i64_in _ (by omega)
    have HTK := Lib.hid hta
    have HDR := Lib.hid hdr
    clear hg2 hta hdr
    go_enter Try.func24, Try.ntmps24
    go_wp2_with fail
    rw [← HW.out, ← HWR.out]
    have hbel : ∀ (dn : Nat → Bool) (xv : Nat → Value) (W : World), (if dn 19 = true then SideAt B0 W g { s with way := (s.way.take k) ++ (s.way.drop (k + 1)) } (.slice AB s.box.length cB) (.slice AP s.pushed.length cP) (.slice AT s.taken.length cT) (xv 16) ∧ Below B0 wr W else if dn 16 = true then Below wr.heap.size wr W ∧ CpRow W wr.heap.size (xv 16) ((s.way.take k) ++ (s.way.drop (k + 1))) else if dn 8 = true then Below wr.heap.size wr W ∧ CpRow W wr.heap.size (xv 8) (s.way.take k) else if dn 1 = true then Below wr.heap.size wr W ∧ CpRow W wr.heap.size (xv 1) [] else Below wr.heap.size wr W) → dn 19 = false → Below wr.heap.size wr W := fun dn xv W h h0 => by
      rw [if_neg (by simp [h0])] at h
      split at h
      · exact h.1
      split at h
      · exact h.1
      split at h
      · exact h.1
      exact h
    refine wp_region_f (fun dn xv W => if dn 19 = true then SideAt B0 W g { s with way := (s.way.take k) ++ (s.way.drop (k + 1)) } (.slice AB s.box.length cB) (.slice AP s.pushed.length cP) (.slice AT s.taken.length cT) (xv 16) ∧ Below B0 wr W else if dn 16 = true then Below wr.heap.size wr W ∧ CpRow W wr.heap.size (xv 16) ((s.way.take k) ++ (s.way.drop (k + 1))) else if dn 8 = true then Below wr.heap.size wr W ∧ CpRow W wr.heap.size (xv 8) (s.way.take k) else if dn 1 = true then Below wr.heap.size wr W ∧ CpRow W wr.heap.size (xv 1) [] else Below wr.heap.size wr W) (fun _ _ => True) [fun v _ => v = .pointer (some ⟨g, 0, none⟩), fun v _ => True, fun v _ => v = .pointer (some ⟨g, 0, none⟩), fun v _ => v = .pointer (some ⟨g, 0, none⟩), fun v _ => v = .pointer (some ⟨g, 5, none⟩), fun v _ => v = .slice AW s.way.length cW, fun v _ => v = .int .i64 (k : Int), fun v _ => v = .slice AW k cW, fun v _ => True, fun v _ => v = .pointer (some ⟨g, 0, none⟩), fun v _ => v = .pointer (some ⟨g, 0, none⟩), fun v _ => v = .pointer (some ⟨g, 5, none⟩), fun v _ => v = .slice AW s.way.length cW, fun v _ => v = .int .i64 (k : Int), fun v _ => v = .int .i64 ((k : Int) + 1), fun v _ => v = .slice Ad (s.way.length - (k + 1)) (cW - (k + 1)), fun v _ => True, fun v _ => v = .pointer (some ⟨g, 0, none⟩), fun v _ => v = .pointer (some ⟨g, 5, none⟩), fun v _ => True] (by kernel_rfl) (by kernel_rfl) (by kernel_rfl) (by kernel_rfl) (fun xv => by simpa using (Below.refl _ wr).drew)
      (by exact ⟨fun _ _ _ _ h => h, fun _ _ _ _ h => h, fun _ _ _ _ h => h, fun _ _ _ _ h => h, fun _ _ _ _ h => h, fun _ _ _ _ h => h, fun _ _ _ _ h => h, fun _ _ _ _ h => h, fun _ _ _ _ h => h, fun _ _ _ _ h => h, fun _ _ _ _ h => h, fun _ _ _ _ h => h, fun _ _ _ _ h => h, fun _ _ _ _ h => h, fun _ _ _ _ h => h, fun _ _ _ _ h => h, fun _ _ _ _ h => h, fun _ _ _ _ h => h, fun _ _ _ _ h => h, fun _ _ _ _ h => h, trivial⟩) ?_ ?_
    · refine EachF.cons 1 rfl (fun dn xv W F hF hd hN hX hI H K hK => ?_) ?_
      · have f0 : F.tmps.getD 0 undef = .pointer (some ⟨g, 0, none⟩) := (hF 0).trans (by kernel_rfl)
        clear H hN hd hX hF
        refine on_plain rfl ?_
        go_simp
        exact hK.out _ _ rfl trivial (by simpa [upB, upd] using hI)
      refine EachF.cons 2 rfl (fun dn xv W F hF hd hN hX hI H K hK => ?_) ?_
      · have q8 : dn 8 = false := hN 8 (.edge (by kernel_rfl))
        have q16 : dn 16 = false := hN 16 (.more (j := 8) (by kernel_rfl) (.edge (by kernel_rfl)))
        have q19 : dn 19 = false := hN 19 (.more (j := 16) (by kernel_rfl) (.more (j := 8) (by kernel_rfl) (.edge (by kernel_rfl))))
        have hS : Below wr.heap.size wr W := by simpa [hd, q8, q16, q19] using hI
        clear hI hN hd hX hF H
        refine on_plain rfl ?_
        go_simp
        have hb : Below W.heap.size W (W.alloc (.cells #[] 62)) := (Below.refl _ _).alloc (Nat.le_refl _) _
        have hs : Below wr.heap.size wr (W.alloc (.cells #[] 62)) ∧ CpRow (W.alloc (.cells #[] 62)) wr.heap.size (.slice (some ⟨W.heap.size, 0, none⟩) 0 0) [] := ⟨hS.trans (hb.mono hS.size), row_base (cp_empty W) hS.size⟩
        exact hK.out _ _ trivial trivial (by simpa [upB, upd, q8, q16, q19] using hs)
      refine EachF.cons 3 rfl (fun dn xv W F hF hd hN hX hI H K hK => ?_) ?_
      · have f0 : F.tmps.getD 0 undef = .pointer (some ⟨g, 0, none⟩) := (hF 0).trans (by kernel_rfl)
        clear H hN hd hX hF
        refine on_plain rfl ?_
        go_simp
        exact hK.out _ _ rfl trivial (by simpa [upB, upd] using hI)
      refine EachF.cons 4 rfl (fun dn xv W F hF hd hN hX hI H K hK => ?_) ?_
      · have h2 : xv 2 = .pointer (some ⟨g, 0, none⟩) := (H 2 (.edge (by kernel_rfl))).2
        have f142 : F.tmps.getD 142 undef = .pointer (some ⟨g, 0, none⟩) := (hF 142).trans (Eq.trans (by kernel_rfl) h2)
        clear H hN hd hX hF
        refine on_plain rfl ?_
        go_simp
        exact hK.out _ _ rfl trivial (by simpa [upB, upd] using hI)
      refine EachF.cons 5 rfl (fun dn xv W F hF hd hN hX hI H K hK => ?_) ?_
      · have h3 : xv 3 = .pointer (some ⟨g, 0, none⟩) := (H 3 (.edge (by kernel_rfl))).2
        have f143 : F.tmps.getD 143 undef = .pointer (some ⟨g, 0, none⟩) := (hF 143).trans (Eq.trans (by kernel_rfl) h3)
        clear H hN hd hX hF
        refine on_plain rfl ?_
        go_simp
        exact hK.out _ _ rfl trivial (by simpa [upB, upd] using hI)
      refine EachF.cons 6 rfl (fun dn xv W F hF hd hN hX hI H K hK => ?_) ?_
      · have h4 : xv 4 = .pointer (some ⟨g, 5, none⟩) := (H 4 (.edge (by kernel_rfl))).2
        have f144 : F.tmps.getD 144 undef = .pointer (some ⟨g, 5, none⟩) := (hF 144).trans (Eq.trans (by kernel_rfl) h4)
        have hb0 := hbel dn xv W hI (hN 19 (.more (j := 16) (by kernel_rfl) (.more (j := 8) (by kernel_rfl) (.more (j := 7) (by kernel_rfl) (.edge (by kernel_rfl))))))
        have hc4 := (HS2.out.six.below hb0 HS2.out.lt).c5
        clear H hN hd hX hF
        refine on_plain rfl ?_
        go_simp
        exact hK.out _ _ rfl trivial (by simpa [upB, upd] using hI)
      refine EachF.cons 7 rfl (fun dn xv W F hF hd hN hX hI H K hK => ?_) ?_
      · have f12 : F.tmps.getD 12 undef = .int .i64 (k : Int) := (hF 12).trans (by kernel_rfl)
        clear H hN hd hX hF
        refine on_plain rfl ?_
        go_simp
        exact hK.out _ _ rfl trivial (by simpa [upB, upd] using hI)
      refine EachF.cons 8 rfl (fun dn xv W F hF hd hN hX hI H K hK => ?_) ?_
      · have h5 : xv 5 = .slice AW s.way.length cW := (H 5 (.edge (by kernel_rfl))).2
        have f145 : F.tmps.getD 145 undef = .slice AW s.way.length cW := (hF 145).trans (Eq.trans (by kernel_rfl) h5)
        have h6 : xv 6 = .int .i64 (k : Int) := (H 6 (.edge (by kernel_rfl))).2
        have f146 : F.tmps.getD 146 undef = .int .i64 (k : Int) := (hF 146).trans (Eq.trans (by kernel_rfl) h6)
        have g1 := HG1.out W
        clear H hN hd hX hF
        refine on_plain rfl ?_
        go_simp
        exact hK.out _ _ rfl trivial (by simpa [upB, upd] using hI)
      refine EachF.cons 9 rfl (fun dn xv W F hF hd hN hX hI H K hK => ?_) ?_
      · have h1 := (H 1 (.edge (by kernel_rfl))).2
        simp only [Dl] at h1
        have f141 : F.tmps.getD 141 undef = xv 1 := (hF 141).trans (by kernel_rfl)
        have h7 : xv 7 = .slice AW k cW := (H 7 (.edge (by kernel_rfl))).2
        have f147 : F.tmps.getD 147 undef = .slice AW k cW := (hF 147).trans (Eq.trans (by kernel_rfl) h7)
        have q1 : dn 1 = true := (H 1 (.edge (by kernel_rfl))).1
        have q16 : dn 16 = false := hN 16 (.edge (by kernel_rfl))
        have q19 : dn 19 = false := hN 19 (.more (j := 16) (by kernel_rfl) (.edge (by kernel_rfl)))
        have hS : Below wr.heap.size wr W ∧ CpRow W wr.heap.size (xv 1) [] := by simpa [hd, q16, q19, q1] using hI
        clear hI hN hd hX hF H
        refine on_plain rfl ?_
        have f147x := f147.trans ETK.out
        refine op_appC (base := wr.heap.size) (l := []) (m := (s.way.take k)) (B := wr.heap.size) (s := .tmp 141) (x := .tmp 147) (by rfl) f141 f147x hS.2 (HTK.out.below hS.1) (by simp; omega) hS.1.size ?_
        intro v W' h1 h2 h3
        have hs : Below wr.heap.size wr W' ∧ CpRow W' wr.heap.size v (s.way.take k) := ⟨hS.1.trans ((Below.refl _ _).grown h2 hS.1.size (fun k hk => (row_lt hS.2 hk).1)), h1⟩
        exact hK.out v _ trivial trivial (by simpa [upB, upd, q16, q19] using hs)
      refine EachF.cons 10 rfl (fun dn xv W F hF hd hN hX hI H K hK => ?_) ?_
      · have f0 : F.tmps.getD 0 undef = .pointer (some ⟨g, 0, none⟩) := (hF 0).trans (by kernel_rfl)
        clear H hN hd hX hF
        refine on_plain rfl ?_
        go_simp
        exact hK.out _ _ rfl trivial (by simpa [upB, upd] using hI)
      refine EachF.cons 11 rfl (fun dn xv W F hF hd hN hX hI H K hK => ?_) ?_
      · have h9 : xv 9 = .pointer (some ⟨g, 0, none⟩) := (H 9 (.edge (by kernel_rfl))).2
        have f149 : F.tmps.getD 149 undef = .pointer (some ⟨g, 0, none⟩) := (hF 149).trans (Eq.trans (by kernel_rfl) h9)
        clear H hN hd hX hF
        refine on_plain rfl ?_
        go_simp
        exact hK.out _ _ rfl trivial (by simpa [upB, upd] using hI)
      refine EachF.cons 12 rfl (fun dn xv W F hF hd hN hX hI H K hK => ?_) ?_
      · have h10 : xv 10 = .pointer (some ⟨g, 0, none⟩) := (H 10 (.edge (by kernel_rfl))).2
        have f150 : F.tmps.getD 150 undef = .pointer (some ⟨g, 0, none⟩) := (hF 150).trans (Eq.trans (by kernel_rfl) h10)
        clear H hN hd hX hF
        refine on_plain rfl ?_
        go_simp
        exact hK.out _ _ rfl trivial (by simpa [upB, upd] using hI)
      refine EachF.cons 13 rfl (fun dn xv W F hF hd hN hX hI H K hK => ?_) ?_
      · have h11 : xv 11 = .pointer (some ⟨g, 5, none⟩) := (H 11 (.edge (by kernel_rfl))).2
        have f151 : F.tmps.getD 151 undef = .pointer (some ⟨g, 5, none⟩) := (hF 151).trans (Eq.trans (by kernel_rfl) h11)
        have hb0 := hbel dn xv W hI (hN 19 (.more (j := 16) (by kernel_rfl) (.more (j := 15) (by kernel_rfl) (.edge (by kernel_rfl)))))
        have hc4 := (HS2.out.six.below hb0 HS2.out.lt).c5
        clear H hN hd hX hF
        refine on_plain rfl ?_
        go_simp
        exact hK.out _ _ rfl trivial (by simpa [upB, upd] using hI)
      refine EachF.cons 14 rfl (fun dn xv W F hF hd hN hX hI H K hK => ?_) ?_
      · have f12 : F.tmps.getD 12 undef = .int .i64 (k : Int) := (hF 12).trans (by kernel_rfl)
        clear H hN hd hX hF
        refine on_plain rfl ?_
        go_simp
        exact hK.out _ _ rfl trivial (by simpa [upB, upd] using hI)
      refine EachF.cons 15 rfl (fun dn xv W F hF hd hN hX hI H K hK => ?_) ?_
      · have h13 : xv 13 = .int .i64 (k : Int) := (H 13 (.edge (by kernel_rfl))).2
        have f153 : F.tmps.getD 153 undef = .int .i64 (k : Int) := (hF 153).trans (Eq.trans (by kernel_rfl) h13)
        clear H hN hd hX hF
        refine on_plain rfl ?_
        go_simp
        exact hK.out _ _ rfl trivial (by simpa [upB, upd] using hI)
      refine EachF.cons 16 rfl (fun dn xv W F hF hd hN hX hI H K hK => ?_) ?_
      · have h12 : xv 12 = .slice AW s.way.length cW := (H 12 (.edge (by kernel_rfl))).2
        have f152 : F.tmps.getD 152 undef = .slice AW s.way.length cW := (hF 152).trans (Eq.trans (by kernel_rfl) h12)
        have h14 : xv 14 = .int .i64 ((k : Int) + 1) := (H 14 (.edge (by kernel_rfl))).2
        have f154 : F.tmps.getD 154 undef = .int .i64 ((k : Int) + 1) := (hF 154).trans (Eq.trans (by kernel_rfl) h14)
        have g1 := HG2.out W
        clear H hN hd hX hF
        refine on_plain rfl ?_
        go_simp
        exact hK.out _ _ rfl trivial (by simpa [upB, upd] using hI)
      refine EachF.cons 17 rfl (fun dn xv W F hF hd hN hX hI H K hK => ?_) ?_
      · have h8 := (H 8 (.edge (by kernel_rfl))).2
        simp only [Dl] at h8
        have f148 : F.tmps.getD 148 undef = xv 8 := (hF 148).trans (by kernel_rfl)
        have h15 : xv 15 = .slice Ad (s.way.length - (k + 1)) (cW - (k + 1)) := (H 15 (.edge (by kernel_rfl))).2
        have f155 : F.tmps.getD 155 undef = .slice Ad (s.way.length - (k + 1)) (cW - (k + 1)) := (hF 155).trans (Eq.trans (by kernel_rfl) h15)
        have q8 : dn 8 = true := (H 8 (.edge (by kernel_rfl))).1
        have q19 : dn 19 = false := hN 19 (.edge (by kernel_rfl))
        have hS : Below wr.heap.size wr W ∧ CpRow W wr.heap.size (xv 8) (s.way.take k) := by simpa [hd, q19, q8] using hI
        clear hI hN hd hX hF H
        refine on_plain rfl ?_
        have f155x := f155.trans EDR.out
        refine op_appC (base := wr.heap.size) (l := (s.way.take k)) (m := (s.way.drop (k + 1))) (B := wr.heap.size) (s := .tmp 148) (x := .tmp 155) (by rfl) f148 f155x hS.2 (HDR.out.below hS.1) (by simp; omega) hS.1.size ?_
        intro v W' h1 h2 h3
        have hs : Below wr.heap.size wr W' ∧ CpRow W' wr.heap.size v ((s.way.take k) ++ (s.way.drop (k + 1))) := ⟨hS.1.trans ((Below.refl _ _).grown h2 hS.1.size (fun k hk => (row_lt hS.2 hk).1)), h1⟩
        exact hK.out v _ trivial trivial (by simpa [upB, upd, q19] using hs)
      refine EachF.cons 18 rfl (fun dn xv W F hF hd hN hX hI H K hK => ?_) ?_
      · have h0 : xv 0 = .pointer (some ⟨g, 0, none⟩) := (H 0 (.edge (by kernel_rfl))).2
        have f140 : F.tmps.getD 140 undef = .pointer (some ⟨g, 0, none⟩) := (hF 140).trans (Eq.trans (by kernel_rfl) h0)
        clear H hN hd hX hF
        refine on_plain rfl ?_
        go_simp
        exact hK.out _ _ rfl trivial (by simpa [upB, upd] using hI)
      refine EachF.cons 19 rfl (fun dn xv W F hF hd hN hX hI H K hK => ?_) ?_
      · have h17 : xv 17 = .pointer (some ⟨g, 0, none⟩) := (H 17 (.edge (by kernel_rfl))).2
        have f157 : F.tmps.getD 157 undef = .pointer (some ⟨g, 0, none⟩) := (hF 157).trans (Eq.trans (by kernel_rfl) h17)
        clear H hN hd hX hF
        refine on_plain rfl ?_
        go_simp
        exact hK.out _ _ rfl trivial (by simpa [upB, upd] using hI)
      refine EachF.cons 20 rfl (fun dn xv W F hF hd hN hX hI H K hK => ?_) ?_
      · have h16 := (H 16 (.edge (by kernel_rfl))).2
        simp only [Dl] at h16
        have f156 : F.tmps.getD 156 undef = xv 16 := (hF 156).trans (by kernel_rfl)
        have h18 : xv 18 = .pointer (some ⟨g, 5, none⟩) := (H 18 (.edge (by kernel_rfl))).2
        have f158 : F.tmps.getD 158 undef = .pointer (some ⟨g, 5, none⟩) := (hF 158).trans (Eq.trans (by kernel_rfl) h18)
        have q16 : dn 16 = true := (H 16 (.edge (by kernel_rfl))).1
        have hS : Below wr.heap.size wr W ∧ CpRow W wr.heap.size (xv 16) ((s.way.take k) ++ (s.way.drop (k + 1))) := by simpa [hd, q16] using hI
        clear hI hN hd hX hF H
        refine on_plain rfl ?_
        obtain ⟨s1, s2⟩ := hS
        have hsm := HS2.out.below s1
        have hs0 := hsm.setW (row_base s2 hB0r)
        obtain ⟨A2, c2, e2, _⟩ := row_form s2
        obtain ⟨n1, hn1⟩ : ∃ n, ((s.way.take k) ++ (s.way.drop (k + 1))).length = n := ⟨_, rfl⟩
        rw [hn1] at e2
        clear hn1
        have f156x := f156.trans e2
        have hc3 := hsm.six.c5
        have hf3 := hsm.six.fz 5
        have hs : SideAt B0 (W.setCell ⟨g, 5, none⟩ (xv 16)) g { s with way := (s.way.take k) ++ (s.way.drop (k + 1)) } (.slice AB s.box.length cB) (.slice AP s.pushed.length cP) (.slice AT s.taken.length cT) (xv 16) ∧ Below B0 wr (W.setCell ⟨g, 5, none⟩ (xv 16)) := ⟨hs0, (s1.mono hB0r).setCell hgb _⟩
        clear hs0
        go_simp
        rw [← e2]
        exact hK.out undef _ trivial trivial (by simpa [upB, upd] using hs)
      exact EachF.nil
    · intro dn xv W hI H
      have qe : dn 19 = true := (H 19 (of_decide_eq_true (by kernel_rfl))).1
      have hS : SideAt B0 W g { s with way := (s.way.take k) ++ (s.way.drop (k + 1)) } (.slice AB s.box.length cB) (.slice AP s.pushed.length cP) (.slice AT s.taken.length cT) (xv 16) ∧ Below B0 wr W := by simpa [qe] using hI
      clear H hI qe
      simp only [putAll, Act.put, List.setIfInBounds_toArray, List.set_cons_zero, List.set_cons_succ, Nat.reduceAdd]
      go_wp2_with fail
      go_ret
      obtain ⟨hx, hbb⟩ := hS
      rw [HWR.out] at hbb
      exact ⟨rfl, ⟨_, HI.out.lose k, _, _, _, _, hx⟩, hBW.trans hbb⟩
  · have e0 : decide (0 < s.way.length) = false := decide_eq_false hw0
    go_enter Try.func24, Try.ntmps24
    go_wp2_with fail
    go_ret
    rw [← HW.out]
    exact ⟨rfl, ⟨s, HI.out, _, _, _, _, HS.out⟩, hBW⟩
end Go.Proofs.Ytmjlehofjholaaa
