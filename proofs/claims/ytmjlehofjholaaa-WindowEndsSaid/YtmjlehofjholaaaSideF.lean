/- side.act: how far the receiver is is told; all acts together. -/
import Derived.Test.YtmjlehofjholaaaSideE
namespace Go.Proofs.Ytmjlehofjholaaa
open Go Go.RowKit Go.Shelf
set_option linter.unusedVariables false
set_option maxRecDepth 100000
attribute [local go_sem] Oper.semAt_some

/-- 'x.s, _ = Acked(..)': how far it has come -/
def PA (B0 : Nat) (wr : World) (ba : Nat) (bb : Bool) (La : List (List UInt8)) (Fin : World → Prop) (d14 : Bool) (x14 : Value) (d15 : Bool) (x15 : Value) (d16 : Bool) (x16 : Value) (d20 : Bool) (W : World) : Prop :=
  (d20 = false → Below wr.heap.size wr W) ∧ (d14 = true → ∃ A c, x14 = .tuple #[.agg #[.int .u64 (ba : Int), .slice A La.length c], .bool bb] ∧ (d20 = false → OwnB W B0 (.slice A La.length c) La) ∧ (d15 = true → x15 = x14) ∧ (d16 = true → x16 = .agg #[.int .u64 (ba : Int), .slice A La.length c])) ∧ (d20 = true → Fin W)

set_option maxHeartbeats 2000000 in
theorem act_4 (B0 : Nat) (w : World) (g : Nat) (s : St) (vB vP vT vW : Value) (hs : SideAt B0 w g s vB vP vT vW) (hB : B0 ≤ w.heap.size) (bodies : List (List UInt8)) (Ab : Option Addr) (cb : Nat) (hbd : Bx w B0 Ab bodies) (hI : Inv bodies s) (n : Int) :
    Calls Try.prog 24 #[.pointer (some ⟨g, 0, none⟩), .agg #[.int .i64 4, .int .i64 n], .slice Ab bodies.length cb] w (ActPost B0 w g bodies) := by
  obtain ⟨W0, HW⟩ : ∃ W, Hid (W = w.alloc (.cells #[.int .i64 4, .int .i64 n] 58)) := ⟨_, Lib.hid rfl⟩
  have hbW : Below w.heap.size w W0 := by rw [HW.out]; exact (Below.refl _ w).alloc (Nat.le_refl _) _
  have hs0 := hs.below hbW
  have hgl := hs0.lt
  have hg0 := hs.lt
  have hgb := hs.hg
  have HBD := Lib.hid (hbd.below (hbW.mono hB))
  have hz0 := hbW.size
  have hBW : Below B0 w W0 := hbW.mono hB
  obtain ⟨q, hand, hq⟩ := and_16 n
  have hpl := hI.plen
  have hf3 := hI.fit.1
  have hsum := hI.sum
  have h48 := hI.b48
  have htl := hI.tl
  have hbt := hI.bt
  have hgt := hI.got
  have HGT := Lib.hid hgt
  have hgt := Nat.le_of_eq hgt
  have hwl := hI.wlen
  have HI := Lib.hid hI
  have HS := Lib.hid hs0
  obtain ⟨AB, cB, rfl, b1, b2, hbx⟩ := hs0.box.form hI.fitB.all
  obtain ⟨AP, cP, rfl, p1, p2, hhP⟩ := row_form hs0.ps
  obtain ⟨AT, cT, rfl, t1, t2, hhT⟩ := row_form hs0.ts
  obtain ⟨AW, cW, rfl, w1, w2, hhW⟩ := row_form hs0.ws
  have HBX := Lib.hid hbx
  have HHW := Lib.hid hhW
  have k0 := hs.six.c0
  have k1 := hs.six.c1
  have k3 := hs.six.c3
  have k4 := hs.six.c4
  have k5 := hs.six.c5
  have hp0 : s.pushed.length ≤ 300 := by omega
  clear hs hs0 hI hbd hbx hhP hhT hhW hsum hgt
  obtain ⟨k, hk⟩ : ∃ k, q % (s.taken.length + 1) = k := ⟨_, rfl⟩
  have hkl : k ≤ s.taken.length := by rw [← hk]; have := Nat.mod_lt q (show 0 < s.taken.length + 1 by omega); omega
  have hra : (q : Int).tmod ((s.taken.length : Int) + 1) = (k : Int) := by rw [← hk]; rfl
  have eb : ((s.taken.length : Int) + 1 == 0) = false := beq_eq_false_iff_ne.2 (by omega)
  have en : ¬ ((s.taken.length : Int) + 1 = 0) := by omega
  have x1 : IntKind.i64.wrap ((s.taken.length : Int) + 1) = (s.taken.length : Int) + 1 := IntWalk.i64_in _ (by omega)
  have x2 : IntKind.u64.wrap (k : Int) = (k : Int) := u64_wrap (by omega) (by omega)
  clear hk
  have hB0r : B0 ≤ W0.heap.size := by omega
  obtain ⟨ba, HBA⟩ : ∃ b, Hid (ackV s.base s.box k = b) := ⟨_, Lib.hid rfl⟩
  obtain ⟨La, HLA⟩ : ∃ b, Hid (ackL s.base s.box k = b) := ⟨_, Lib.hid rfl⟩
  obtain ⟨bb, HBB⟩ : ∃ b, Hid (ackB s.base s.box k = b) := ⟨_, Lib.hid rfl⟩
  have HFA : Hid (Fit La) := Lib.hid (by rw [← HLA.out]; exact ackL_fit HI.out.fitB)
  have HNX : Hid (Inv bodies { s with base := ba, box := La }) := Lib.hid (by have := HI.out.ack hkl; simpa [St.ack, HBA.out, HLA.out] using this)
  obtain ⟨wr, HWR⟩ : ∃ wr, Hid (wr = W0) := ⟨_, Lib.hid rfl⟩
  have HS2 := HS
  rw [← HWR.out] at HS2 hB0r
  go_enter Try.func24, Try.ntmps24
  go_wp2_with fail
  rw [← HW.out, ← HWR.out]
  refine wp_region_f (fun dn xv W => PA B0 wr ba bb La (fun W => (∃ vB', SideAt B0 W g { s with base := ba, box := La } vB' (.slice AP s.pushed.length cP) (.slice AT s.taken.length cT) (.slice AW s.way.length cW)) ∧ Below B0 wr W) (dn 14) (xv 14) (dn 15) (xv 15) (dn 16) (xv 16) (dn 20) W) (fun _ _ => True) [fun v _ => v = .pointer (some ⟨g, 0, none⟩), fun v _ => v = .pointer (some ⟨g, 0, none⟩), fun v _ => v = .pointer (some ⟨g, 0, none⟩), fun v _ => v = .pointer (some ⟨g, 0, none⟩), fun v _ => v = .agg #[.int .u64 (s.base : Int), .slice AB s.box.length cB], fun v _ => v = .int .i64 (q : Int), fun v _ => v = .pointer (some ⟨g, 0, none⟩), fun v _ => v = .pointer (some ⟨g, 0, none⟩), fun v _ => v = .pointer (some ⟨g, 4, none⟩), fun v _ => v = .slice AT s.taken.length cT, fun v _ => v = .int .i64 (s.taken.length : Int), fun v _ => v = .int .i64 ((s.taken.length : Int) + 1), fun v _ => v = .int .i64 (k : Int), fun v _ => v = .int .u64 (k : Int), fun v _ => ∃ A c, v = .tuple #[.agg #[.int .u64 (ba : Int), .slice A La.length c], .bool bb], fun v _ => ∃ A c, v = .tuple #[.agg #[.int .u64 (ba : Int), .slice A La.length c], .bool bb], fun v _ => ∃ A c, v = .agg #[.int .u64 (ba : Int), .slice A La.length c], fun v _ => v = .bool bb, fun v _ => v = .pointer (some ⟨g, 0, none⟩), fun v _ => v = .pointer (some ⟨g, 0, none⟩), fun v _ => True] (by kernel_rfl) (by kernel_rfl) (by kernel_rfl) (by kernel_rfl) (fun xv => by simpa using (show PA B0 wr ba bb La (fun W => (∃ vB', SideAt B0 W g { s with base := ba, box := La } vB' (.slice AP s.pushed.length cP) (.slice AT s.taken.length cT) (.slice AW s.way.length cW)) ∧ Below B0 wr W) false (xv 14) false (xv 15) false (xv 16) false wr.drew from ⟨fun _ => (Below.refl _ wr).drew, (fun h => by cases h), (fun h => by cases h)⟩))
    (by exact ⟨fun _ _ _ _ h => h, fun _ _ _ _ h => h, fun _ _ _ _ h => h, fun _ _ _ _ h => h, fun _ _ _ _ h => h, fun _ _ _ _ h => h, fun _ _ _ _ h => h, fun _ _ _ _ h => h, fun _ _ _ _ h => h, fun _ _ _ _ h => h, fun _ _ _ _ h => h, fun _ _ _ _ h => h, fun _ _ _ _ h => h, fun _ _ _ _ h => h, fun _ _ _ _ h => h, fun _ _ _ _ h => h, fun _ _ _ _ h => h, fun _ _ _ _ h => h, fun _ _ _ _ h => h, fun _ _ _ _ h => h, fun _ _ _ _ h => h, trivial⟩) ?_ ?_
  · refine EachF.cons 1 rfl (fun dn xv W F hF hd hN hX hI H K hK => ?_) ?_
    · have f0 : F.tmps.getD 0 undef = .pointer (some ⟨g, 0, none⟩) := (hF 0).trans (by kernel_rfl)
      clear H hN hd hX hF
      refine on_plain rfl ?_
      go_simp
      exact hK.out _ _ rfl trivial (by simpa [upB, upd] using hI)
    refine EachF.cons 2 rfl (fun dn xv W F hF hd hN hX hI H K hK => ?_) ?_
    · have f0 : F.tmps.getD 0 undef = .pointer (some ⟨g, 0, none⟩) := (hF 0).trans (by kernel_rfl)
      clear H hN hd hX hF
      refine on_plain rfl ?_
      go_simp
      exact hK.out _ _ rfl trivial (by simpa [upB, upd] using hI)
    refine EachF.cons 3 rfl (fun dn xv W F hF hd hN hX hI H K hK => ?_) ?_
    · have h1 : xv 1 = .pointer (some ⟨g, 0, none⟩) := (H 1 (.edge (by kernel_rfl))).2
      have f163 : F.tmps.getD 163 undef = .pointer (some ⟨g, 0, none⟩) := (hF 163).trans (Eq.trans (by kernel_rfl) h1)
      clear H hN hd hX hF
      refine on_plain rfl ?_
      go_simp
      exact hK.out _ _ rfl trivial (by simpa [upB, upd] using hI)
    refine EachF.cons 4 rfl (fun dn xv W F hF hd hN hX hI H K hK => ?_) ?_
    · have h2 : xv 2 = .pointer (some ⟨g, 0, none⟩) := (H 2 (.edge (by kernel_rfl))).2
      have f164 : F.tmps.getD 164 undef = .pointer (some ⟨g, 0, none⟩) := (hF 164).trans (Eq.trans (by kernel_rfl) h2)
      clear H hN hd hX hF
      refine on_plain rfl ?_
      go_simp
      exact hK.out _ _ rfl trivial (by simpa [upB, upd] using hI)
    refine EachF.cons 5 rfl (fun dn xv W F hF hd hN hX hI H K hK => ?_) ?_
    · have h3 : xv 3 = .pointer (some ⟨g, 0, none⟩) := (H 3 (.edge (by kernel_rfl))).2
      have f165 : F.tmps.getD 165 undef = .pointer (some ⟨g, 0, none⟩) := (hF 165).trans (Eq.trans (by kernel_rfl) h3)
      have h20 := hN 20 (.more (j := 16) (by kernel_rfl) (.more (j := 15) (by kernel_rfl) (.more (j := 14) (by kernel_rfl) (.edge (by kernel_rfl)))))
      have hb0 : Below wr.heap.size wr W := hI.1 h20
      have hc0 := (HS2.out.six.below hb0 HS2.out.lt).c0
      have hc1 := (HS2.out.six.below hb0 HS2.out.lt).c1
      clear h20
      clear H hN hd hX hF
      refine on_plain rfl ?_
      go_simp
      exact hK.out _ _ rfl trivial (by simpa [upB, upd] using hI)
    refine EachF.cons 6 rfl (fun dn xv W F hF hd hN hX hI H K hK => ?_) ?_
    · have f7 : F.tmps.getD 7 undef = .int .i64 (q : Int) := (hF 7).trans (by kernel_rfl)
      clear H hN hd hX hF
      refine on_plain rfl ?_
      go_simp
      exact hK.out _ _ rfl trivial (by simpa [upB, upd] using hI)
    refine EachF.cons 7 rfl (fun dn xv W F hF hd hN hX hI H K hK => ?_) ?_
    · have f0 : F.tmps.getD 0 undef = .pointer (some ⟨g, 0, none⟩) := (hF 0).trans (by kernel_rfl)
      clear H hN hd hX hF
      refine on_plain rfl ?_
      go_simp
      exact hK.out _ _ rfl trivial (by simpa [upB, upd] using hI)
    refine EachF.cons 8 rfl (fun dn xv W F hF hd hN hX hI H K hK => ?_) ?_
    · have h6 : xv 6 = .pointer (some ⟨g, 0, none⟩) := (H 6 (.edge (by kernel_rfl))).2
      have f168 : F.tmps.getD 168 undef = .pointer (some ⟨g, 0, none⟩) := (hF 168).trans (Eq.trans (by kernel_rfl) h6)
      clear H hN hd hX hF
      refine on_plain rfl ?_
      go_simp
      exact hK.out _ _ rfl trivial (by simpa [upB, upd] using hI)
    refine EachF.cons 9 rfl (fun dn xv W F hF hd hN hX hI H K hK => ?_) ?_
    · have h7 : xv 7 = .pointer (some ⟨g, 0, none⟩) := (H 7 (.edge (by kernel_rfl))).2
      have f169 : F.tmps.getD 169 undef = .pointer (some ⟨g, 0, none⟩) := (hF 169).trans (Eq.trans (by kernel_rfl) h7)
      clear H hN hd hX hF
      refine on_plain rfl ?_
      go_simp
      exact hK.out _ _ rfl trivial (by simpa [upB, upd] using hI)
    refine EachF.cons 10 rfl (fun dn xv W F hF hd hN hX hI H K hK => ?_) ?_
    · have h8 : xv 8 = .pointer (some ⟨g, 4, none⟩) := (H 8 (.edge (by kernel_rfl))).2
      have f170 : F.tmps.getD 170 undef = .pointer (some ⟨g, 4, none⟩) := (hF 170).trans (Eq.trans (by kernel_rfl) h8)
      have h20 := hN 20 (.more (j := 16) (by kernel_rfl) (.more (j := 15) (by kernel_rfl) (.more (j := 14) (by kernel_rfl) (.more (j := 13) (by kernel_rfl) (.more (j := 12) (by kernel_rfl) (.more (j := 11) (by kernel_rfl) (.more (j := 10) (by kernel_rfl) (.edge (by kernel_rfl)))))))))
      have hb0 : Below wr.heap.size wr W := hI.1 h20
      have hc0 := (HS2.out.six.below hb0 HS2.out.lt).c4
      clear h20
      clear H hN hd hX hF
      refine on_plain rfl ?_
      go_simp
      exact hK.out _ _ rfl trivial (by simpa [upB, upd] using hI)
    refine EachF.cons 11 rfl (fun dn xv W F hF hd hN hX hI H K hK => ?_) ?_
    · have h9 : xv 9 = .slice AT s.taken.length cT := (H 9 (.edge (by kernel_rfl))).2
      have f171 : F.tmps.getD 171 undef = .slice AT s.taken.length cT := (hF 171).trans (Eq.trans (by kernel_rfl) h9)
      clear H hN hd hX hF
      refine on_plain rfl ?_
      go_simp
      exact hK.out _ _ rfl trivial (by simpa [upB, upd] using hI)
    refine EachF.cons 12 rfl (fun dn xv W F hF hd hN hX hI H K hK => ?_) ?_
    · have h10 : xv 10 = .int .i64 (s.taken.length : Int) := (H 10 (.edge (by kernel_rfl))).2
      have f172 : F.tmps.getD 172 undef = .int .i64 (s.taken.length : Int) := (hF 172).trans (Eq.trans (by kernel_rfl) h10)
      clear H hN hd hX hF
      refine on_plain rfl ?_
      go_simp
      exact hK.out _ _ rfl trivial (by simpa [upB, upd] using hI)
    refine EachF.cons 13 rfl (fun dn xv W F hF hd hN hX hI H K hK => ?_) ?_
    · have h5 : xv 5 = .int .i64 (q : Int) := (H 5 (.edge (by kernel_rfl))).2
      have f167 : F.tmps.getD 167 undef = .int .i64 (q : Int) := (hF 167).trans (Eq.trans (by kernel_rfl) h5)
      have h11 : xv 11 = .int .i64 ((s.taken.length : Int) + 1) := (H 11 (.edge (by kernel_rfl))).2
      have f173 : F.tmps.getD 173 undef = .int .i64 ((s.taken.length : Int) + 1) := (hF 173).trans (Eq.trans (by kernel_rfl) h11)
      clear H hN hd hX hF
      refine on_plain rfl ?_
      go_simp
      exact hK.out _ _ rfl trivial (by simpa [upB, upd] using hI)
    refine EachF.cons 14 rfl (fun dn xv W F hF hd hN hX hI H K hK => ?_) ?_
    · have h12 : xv 12 = .int .i64 (k : Int) := (H 12 (.edge (by kernel_rfl))).2
      have f174 : F.tmps.getD 174 undef = .int .i64 (k : Int) := (hF 174).trans (Eq.trans (by kernel_rfl) h12)
      clear H hN hd hX hF
      refine on_plain rfl ?_
      go_simp
      exact hK.out _ _ rfl trivial (by simpa [upB, upd] using hI)
    refine EachF.cons 15 rfl (fun dn xv W F hF hd hN hX hI H K hK => ?_) ?_
    · have h4 : xv 4 = .agg #[.int .u64 (s.base : Int), .slice AB s.box.length cB] := (H 4 (.edge (by kernel_rfl))).2
      have f166 : F.tmps.getD 166 undef = .agg #[.int .u64 (s.base : Int), .slice AB s.box.length cB] := (hF 166).trans (Eq.trans (by kernel_rfl) h4)
      have h13 : xv 13 = .int .u64 (k : Int) := (H 13 (.edge (by kernel_rfl))).2
      have f175 : F.tmps.getD 175 undef = .int .u64 (k : Int) := (hF 175).trans (Eq.trans (by kernel_rfl) h13)
      have h20 := hN 20 (.more (j := 16) (by kernel_rfl) (.more (j := 15) (by kernel_rfl) (.edge (by kernel_rfl))))
      have hb0 : Below wr.heap.size wr W := hI.1 h20
      have h15 := hN 15 (.edge (by kernel_rfl))
      have h16 := hN 16 (.more (j := 15) (by kernel_rfl) (.edge (by kernel_rfl)))
      clear H hN hd hX hF
      refine on_plain rfl ?_
      go_simp
      refine (acked_any W s.base k AB cB s.box ((HBX.out.below (by rw [← HWR.out]; exact hb0)).more (by rw [← HWR.out]; exact hb0.size)) (by omega) (by omega) HI.out.fitB b1 b2).mono ?_
      rintro e W' ⟨hb, v, rfl, ho⟩
      rw [HLA.out] at ho
      rw [HBA.out, HBB.out]
      obtain ⟨A2, c2, rfl, _⟩ := ho.form HFA.out.all
      have hs : PA B0 wr ba bb La (fun W => (∃ vB', SideAt B0 W g { s with base := ba, box := La } vB' (.slice AP s.pushed.length cP) (.slice AT s.taken.length cT) (.slice AW s.way.length cW)) ∧ Below B0 wr W) true (.tuple #[.agg #[.int .u64 (ba : Int), .slice A2 La.length c2], .bool bb]) false (xv 15) false (xv 16) false W' := ⟨fun _ => hb0.trans (hb.mono hb0.size), fun _ => ⟨A2, c2, rfl, fun _ => ho.mono (Nat.le_trans hB0r hb0.size), (fun h => by cases h), (fun h => by cases h)⟩, (fun h => by cases h)⟩
      exact hK.out _ _ ⟨A2, c2, rfl⟩ trivial (by simpa [upB, upd, h15, h16, h20] using hs)
    refine EachF.cons 16 rfl (fun dn xv W F hF hd hN hX hI H K hK => ?_) ?_
    · have h14 := (H 14 (.edge (by kernel_rfl))).2
      simp only [Dl] at h14
      have f176 : F.tmps.getD 176 undef = xv 14 := (hF 176).trans (by kernel_rfl)
      have h20 := hN 20 (.more (j := 16) (by kernel_rfl) (.edge (by kernel_rfl)))
      have hb0 : Below wr.heap.size wr W := hI.1 h20
      have h16 := hN 16 (.edge (by kernel_rfl))
      have d14 : dn 14 = true := (H 14 (.edge (by kernel_rfl))).1
      have hI2 := hI
      rw [d14] at hI2
      obtain ⟨A2, c2, e2, ho, _, _⟩ := hI2.2.1 rfl
      have f176x := f176.trans e2
      have g176 := f176x
      rw [Array.getD_eq_getD_getElem?] at g176
      clear f176
      clear H hN hd hX hF
      refine on_plain rfl ?_
      go_simp
      have hs : PA B0 wr ba bb La (fun W => (∃ vB', SideAt B0 W g { s with base := ba, box := La } vB' (.slice AP s.pushed.length cP) (.slice AT s.taken.length cT) (.slice AW s.way.length cW)) ∧ Below B0 wr W) true (xv 14) true (.tuple #[.agg #[.int .u64 (ba : Int), .slice A2 La.length c2], .bool bb]) false (xv 16) false W := ⟨fun _ => hb0, fun _ => ⟨A2, c2, e2, fun _ => ho h20, fun _ => e2.symm, (fun h => by cases h)⟩, (fun h => by cases h)⟩
      exact hK.out _ _ ⟨A2, c2, rfl⟩ trivial (by simpa [upB, upd, h16, h20, d14] using hs)
    refine EachF.cons 17 rfl (fun dn xv W F hF hd hN hX hI H K hK => ?_) ?_
    · have h15 := (H 15 (.edge (by kernel_rfl))).2
      simp only [Dl] at h15
      have f161 : F.tmps.getD 161 undef = xv 15 := (hF 161).trans (by kernel_rfl)
      have h20 := hN 20 (.edge (by kernel_rfl))
      have hb0 : Below wr.heap.size wr W := hI.1 h20
      have d14 : dn 14 = true := (H 14 (.more (j := 15) (by kernel_rfl) (.edge (by kernel_rfl)))).1
      have d15 : dn 15 = true := (H 15 (.edge (by kernel_rfl))).1
      have hI2 := hI
      rw [d14, d15] at hI2
      obtain ⟨A2, c2, e2, ho, e3, _⟩ := hI2.2.1 rfl
      have f161x := f161.trans ((e3 rfl).trans e2)
      have g161 := f161x
      rw [Array.getD_eq_getD_getElem?] at g161
      clear f161
      clear H hN hd hX hF
      refine on_plain rfl ?_
      go_simp
      have hs : PA B0 wr ba bb La (fun W => (∃ vB', SideAt B0 W g { s with base := ba, box := La } vB' (.slice AP s.pushed.length cP) (.slice AT s.taken.length cT) (.slice AW s.way.length cW)) ∧ Below B0 wr W) true (xv 14) true (xv 15) true (.agg #[.int .u64 (ba : Int), .slice A2 La.length c2]) false W := ⟨fun _ => hb0, fun _ => ⟨A2, c2, e2, fun _ => ho h20, e3, fun _ => rfl⟩, (fun h => by cases h)⟩
      exact hK.out _ _ ⟨A2, c2, rfl⟩ trivial (by simpa [upB, upd, h20, d14, d15] using hs)
    refine EachF.cons 18 rfl (fun dn xv W F hF hd hN hX hI H K hK => ?_) ?_
    · have h15 := (H 15 (.edge (by kernel_rfl))).2
      simp only [Dl] at h15
      have f161 : F.tmps.getD 161 undef = xv 15 := (hF 161).trans (by kernel_rfl)
      obtain ⟨A2, c2, e2⟩ := h15
      have f161x := f161.trans e2
      have g161 := f161x
      rw [Array.getD_eq_getD_getElem?] at g161
      clear f161
      clear H hN hd hX hF
      refine on_plain rfl ?_
      go_simp
      exact hK.out _ _ rfl trivial (by simpa [upB, upd] using hI)
    refine EachF.cons 19 rfl (fun dn xv W F hF hd hN hX hI H K hK => ?_) ?_
    · have h0 : xv 0 = .pointer (some ⟨g, 0, none⟩) := (H 0 (.edge (by kernel_rfl))).2
      have f162 : F.tmps.getD 162 undef = .pointer (some ⟨g, 0, none⟩) := (hF 162).trans (Eq.trans (by kernel_rfl) h0)
      clear H hN hd hX hF
      refine on_plain rfl ?_
      go_simp
      exact hK.out _ _ rfl trivial (by simpa [upB, upd] using hI)
    refine EachF.cons 20 rfl (fun dn xv W F hF hd hN hX hI H K hK => ?_) ?_
    · have h18 : xv 18 = .pointer (some ⟨g, 0, none⟩) := (H 18 (.edge (by kernel_rfl))).2
      have f179 : F.tmps.getD 179 undef = .pointer (some ⟨g, 0, none⟩) := (hF 179).trans (Eq.trans (by kernel_rfl) h18)
      clear H hN hd hX hF
      refine on_plain rfl ?_
      go_simp
      exact hK.out _ _ rfl trivial (by simpa [upB, upd] using hI)
    refine EachF.cons 21 rfl (fun dn xv W F hF hd hN hX hI H K hK => ?_) ?_
    · have h16 := (H 16 (.edge (by kernel_rfl))).2
      simp only [Dl] at h16
      have f177 : F.tmps.getD 177 undef = xv 16 := (hF 177).trans (by kernel_rfl)
      have h19 : xv 19 = .pointer (some ⟨g, 0, none⟩) := (H 19 (.edge (by kernel_rfl))).2
      have f180 : F.tmps.getD 180 undef = .pointer (some ⟨g, 0, none⟩) := (hF 180).trans (Eq.trans (by kernel_rfl) h19)
      have d14 : dn 14 = true := (H 14 (.more (j := 16) (by kernel_rfl) (.more (j := 15) (by kernel_rfl) (.edge (by kernel_rfl))))).1
      have d16 : dn 16 = true := (H 16 (.edge (by kernel_rfl))).1
      have hb0 := hI.1 hd
      have hI2 := hI
      rw [d14, d16] at hI2
      obtain ⟨A2, c2, e2, ho, e3, e4⟩ := hI2.2.1 rfl
      have f177x := f177.trans (e4 rfl)
      have hsm := HS2.out.below hb0
      have hs9 := hsm.setS ba (ho hd)
      have hc0 := hsm.six.c0
      have hc1 := hsm.six.c1
      have hf0 := hsm.six.fz 0
      have hf1 := hsm.six.fz 1
      have hb9 : Below B0 wr ((W.setCell ⟨g, 0, none⟩ (.int .u64 (ba : Int))).setCell ⟨g, 1, none⟩ (.slice A2 La.length c2)) := ((hb0.mono hB0r).setCell hgb _).setCell hgb _
      clear hsm f177
      have hd2 := hd
      clear H hN hd hX hF
      refine on_plain rfl ?_
      go_simp
      have hs : PA B0 wr ba bb La (fun W => (∃ vB', SideAt B0 W g { s with base := ba, box := La } vB' (.slice AP s.pushed.length cP) (.slice AT s.taken.length cT) (.slice AW s.way.length cW)) ∧ Below B0 wr W) true (xv 14) (dn 15) (xv 15) true (xv 16) true ((W.setCell ⟨g, 0, none⟩ (.int .u64 (ba : Int))).setCell ⟨g, 1, none⟩ (.slice A2 La.length c2)) := ⟨(fun h => by cases h), fun _ => ⟨A2, c2, e2, (fun h => by cases h), e3, e4⟩, fun _ => ⟨⟨_, hs9⟩, hb9⟩⟩
      exact hK.out undef _ trivial trivial (by simpa [upB, upd, d14, d16] using hs)
    exact EachF.nil
  · intro dn xv W hI H
    have hS := hI.2.2 (H 20 (of_decide_eq_true (by kernel_rfl))).1
    clear H hI
    simp only [putAll, Act.put, List.setIfInBounds_toArray, List.set_cons_zero, List.set_cons_succ, Nat.reduceAdd]
    go_wp2_with fail
    go_ret
    obtain ⟨⟨vB2, hx⟩, hbb⟩ := hS
    rw [HWR.out] at hbb
    exact ⟨rfl, ⟨_, HNX.out, _, _, _, _, hx⟩, hBW.trans hbb⟩

theorem act_any (B0 : Nat) (w : World) (g : Nat) (s : St) (hs : Side B0 w g s) (hB : B0 ≤ w.heap.size) (bodies : List (List UInt8)) (Ab : Option Addr) (cb : Nat) (hbd : Bx w B0 Ab bodies) (hI : Inv bodies s) (d n : Int) :
    Calls Try.prog 24 #[.pointer (some ⟨g, 0, none⟩), .agg #[.int .i64 d, .int .i64 n], .slice Ab bodies.length cb] w (ActPost B0 w g bodies) := by
  obtain ⟨vB, vP, vT, vW, h⟩ := hs
  by_cases d0 : d = 0
  · subst d0; exact act_0 B0 w g s vB vP vT vW h hB bodies Ab cb hbd hI n
  by_cases d1 : d = 1
  · subst d1; exact act_1 B0 w g s vB vP vT vW h hB bodies Ab cb hbd hI n
  by_cases d2 : d = 2
  · subst d2; exact act_2 B0 w g s vB vP vT vW h hB bodies Ab cb hbd hI n
  by_cases d3 : d = 3
  · subst d3; exact act_3 B0 w g s vB vP vT vW h hB bodies Ab cb hbd hI n
  by_cases d4 : d = 4
  · subst d4; exact act_4 B0 w g s vB vP vT vW h hB bodies Ab cb hbd hI n
  exact act_other B0 w g s vB vP vT vW h hB bodies Ab cb hbd hI n d (beq_eq_false_iff_ne.2 d0) (beq_eq_false_iff_ne.2 d1) (beq_eq_false_iff_ne.2 d2) (beq_eq_false_iff_ne.2 d3) (beq_eq_false_iff_ne.2 d4)
end Go.Proofs.Ytmjlehofjholaaa
