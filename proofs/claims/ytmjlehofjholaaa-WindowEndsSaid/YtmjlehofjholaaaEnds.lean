/- WindowEnds: the statement's walk. -/
import Derived.Test.YtmjlehofjholaaaOrder
namespace Go.Proofs.Ytmjlehofjholaaa
open Go Go.RowKit Go.Shelf
set_option linter.unusedVariables false
set_option maxRecDepth 100000
attribute [local go_sem] Oper.semAt_some

def EndAt' (bodies : List (List UInt8)) (n j : Nat) : Prop := n = 0 ∨ n + 8 * j ≤ bodies.length
theorem come_step {bodies : List (List UInt8)} {s : St} (h : Inv bodies s) {i : Nat} {c : Cp} (hc : c.1 = s.base + 1 + i) (hi : s.base + i ≤ s.taken.length) : s.base + (i + 1) ≤ (s.come c).taken.length := by
  have hg := h.got
  have h1 := h.tl
  have h2 := h.plen
  have h3 := h.fit.1
  by_cases ht : takeB s.got c.1 = true
  · simp [St.come, ht]
    omega
  · have e : (s.come c).taken = s.taken := by simp [St.come, ht]
    rw [e]
    by_cases he : s.taken.length = s.base + i
    · exfalso
      apply ht
      simp only [takeB, Bool.and_eq_true, decide_eq_true_eq]
      omega
    · omega
/-- behind the coming of all that is due -/
theorem ends_step {bodies : List (List UInt8)} {s : St} (h : Inv bodies s) {d : Nat} (hd : d = min s.box.length 8) (ht : s.base + d ≤ s.taken.length) (h0 : 0 < d) : (s.ack s.got).box.length = s.box.length - d := by
  have hg := h.got
  have h8 := h.t8
  have hs := h.sum
  have hl := h.tl
  have he : s.got = s.base + d := by omega
  have ha : ackB s.base s.box s.got = true := by
    simp only [ackB, h.may, Bool.true_and, Bool.and_eq_true, decide_eq_true_eq]
    omega
  simp only [St.ack, (ack_yes ha).1, List.length_drop]
  omega
theorem due_items {bodies : List (List UInt8)} {s : St} (h : Inv bodies s) {k : Nat} {c : Cp} (hc : (items s.base (dueL s.base s.box))[k]? = some c) : c.1 = s.base + 1 + k ∧ s.pushed[c.1 - 1]? = some c.2 := by
  refine ⟨?_, (h.dueItem (List.mem_of_getElem? hc)).2.2⟩
  unfold items at hc
  rw [List.getElem?_mapIdx] at hc
  cases he : (dueL s.base s.box)[k]? with
  | none => rw [he] at hc; cases hc
  | some x =>
    rw [he] at hc
    simp at hc
    rw [← hc]
theorem end_next {bodies : List (List UInt8)} {s : St} {j d n : Nat} (h : EndAt' bodies s.box.length j) (hd : d = min s.box.length 8) (hn : n = s.box.length - d) : EndAt' bodies n (j + 1) := by
  unfold EndAt' at *
  omega
def EndAt (bodies : List (List UInt8)) (s : St) (j : Nat) : Prop := EndAt' bodies s.box.length j
theorem come_box (s : St) (c : Cp) : (s.come c).base = s.base ∧ (s.come c).box = s.box ∧ (s.come c).pushed = s.pushed := ⟨rfl, rfl, rfl⟩

set_option maxHeartbeats 4000000 in
theorem windowEnds_walk (w : World) (Ab : Option Addr) (cb : Nat) (bodies : List (List UInt8)) (Al : Option Addr) (cl : Nat) (l : List (Int × Int)) (hbd : Bx w w.heap.size Ab bodies) (hm : bodies.length ≤ 140737488355328) (hl : Has w w.heap.size Al (pairsOf l)) (hm2 : l.length ≤ 140737488355328) :
    Calls Try.prog 8 #[.slice Ab bodies.length cb, .slice Al l.length cl] w fun e w' => e = .returned (.bool true) ∧ Below w.heap.size w w' := by
  have HBD := Lib.hid hbd
  have HL := Lib.hid hl
  clear hl hbd
  go_enter Try.func8, Try.ntmps8
  go_wp2_with fail
  refine (fine_any w w.heap.size Ab cb bodies Al l.length cl HBD.out (by unfold maxLen; omega) (by unfold maxLen; omega)).mono ?_
  rintro e w1 ⟨⟨rfl, f1, f2, f3⟩ | rfl, rfl⟩
  · have HI0 := Lib.hid (Inv.zero f1 f3)
    have HS0 := Lib.hid (side_new w)
    clear f3
    go_wp2_with fail
    go_loopw [6] (fun i wr => ∃ (k : Nat) (s : St), k ≤ l.length ∧ i = .int .i64 (k : Int) ∧ Inv bodies s ∧ Side w.heap.size wr w.heap.size s ∧ Below w.heap.size w wr) (fun i _ => l.length - (intOf i).toNat)
    case atStart => exact ⟨0, _, by omega, rfl, HI0.out, HS0.out, (Below.refl _ w).alloc (Nat.le_refl _) _⟩
    case round =>
      obtain ⟨k, s, hk, rfl, hI, hs, hb⟩ := hrel
      have hz := hb.size
      have HB := Lib.hid hb
      by_cases hlt : k < l.length
      · obtain ⟨b, o, rfl, hbB, hc1, hc2⟩ := acts_cell (HL.out.below hb) hlt
        generalize (l[k]) = ac at hc1 hc2
        go_wp2_with fail
        refine (act_any w.heap.size wr w.heap.size s hs hz bodies Ab cb (HBD.out.below hb) hI ac.1 ac.2).mono ?_
        rintro e w2 ⟨rfl, ⟨s2, hI2, hs2⟩, hb2⟩
        have HS3 := Lib.hid hs2
        have HI2 := Lib.hid hI2
        clear hs2 hI2 hI hs
        go_wp2_with fail
        go_roundw
        case rel => exact ⟨k + 1, s2, by omega, by go_num, HI2.out, HS3.out, HB.out.trans hb2⟩
        case measure => simp [intOf]; omega
      · have HI := Lib.hid hI
        have HS := Lib.hid hs
        obtain ⟨q, hq⟩ : ∃ q, bodies.length / 8 = q := ⟨_, rfl⟩
        have hqi : (bodies.length : Int) / 8 = (q : Int) := by rw [← hq]; rfl
        have hq1 : bodies.length < 8 * (q + 1) := by omega
        have hq2 : q ≤ 300 := by omega
        have HQI := Lib.hid hqi
        clear hI hs hq hqi HI0 HS0
        go_wp2_with fail
        obtain ⟨wo, rfl⟩ : ∃ wo : World, wo = wr := ⟨_, rfl⟩
        clear hlt hk
        go_loopw [7] (fun i wr => ∃ (j : Nat) (s : St), j ≤ q + 2 ∧ i = .int .i64 (j : Int) ∧ Inv bodies s ∧ EndAt bodies s j ∧ Side w.heap.size wr w.heap.size s ∧ Below w.heap.size w wr) (fun i _ => q + 2 - (intOf i).toNat)
        case atStart => exact ⟨0, s, by omega, rfl, HI.out, .inr (by have := HI.out.sum; have := HI.out.plen; omega), HS.out, HB.out⟩
        case round =>
          clear HI HS HB hb hz
          obtain ⟨j, s, hj, rfl, hI, hE, hs, hb⟩ := hrel
          have hz := hb.size
          have HB := Lib.hid hb
          have HI := Lib.hid hI
          have HE := Lib.hid hE
          have hqi := HQI.out
          by_cases hjl : j ≤ q + 1
          · have ej : decide ((j : Int) ≤ (q : Int) + 1) = true := decide_eq_true (by omega)
            obtain ⟨vB, vP, vT, vW, hs⟩ := hs
            obtain ⟨AB, cB, rfl, b1, b2, hbx⟩ := hs.box.form hI.fitB.all
            have HBX := Lib.hid hbx
            have HS := Lib.hid hs
            have h48 := hI.b48
            have hbt := hI.bt
            have htl := hI.tl
            have hpl := hI.plen
            have hf3 := hI.fit.1
            clear hI hE hs hbx hb
            go_wp2_with fail
            refine (sdue_any wr w.heap.size s.base AB cB s.box _ _ _ _ HS.out.six HBX.out (by omega) HI.out.fitB b1 b2).mono ?_
            rintro e w1 ⟨vl, rfl, hrow, hb1⟩
            obtain ⟨dl, Hdl⟩ : ∃ l, Hid (items s.base (dueL s.base s.box) = l) := ⟨_, Lib.hid rfl⟩
            rw [Hdl.out] at hrow
            have hdn : dl.length = min s.box.length 8 := by rw [← Hdl.out, items_len, dueL_len]; exact HI.out.due.2
            have HDN := Lib.hid hdn
            have HDI : Hid (∀ (k : Nat) (c : Cp), dl[k]? = some c → c.1 = s.base + 1 + k ∧ s.pushed[c.1 - 1]? = some c.2) := Lib.hid (by
              rw [← Hdl.out]
              exact fun k c hc => due_items HI.out hc)
            obtain ⟨Ad, cd, rfl, l1, l2, hhl⟩ := row_form hrow
            have HS1 := Lib.hid (HS.out.below hb1)
            have hz1 := hb1.size
            have m1 := HS1.out.six.c1
            have hBr : Below w.heap.size w w1 := HB.out.trans (hb1.mono hz)
            have HROW := Lib.hid hrow
            clear hrow hhl hdn
            by_cases h8 : 8 < s.box.length
            · have hmn : (8 : Int) < (s.box.length : Int) := by omega
              have hdl : dl.length = 8 := by have := HDN.out; omega
              have en : ((dl.length : Int) != 8) = false := by simp; omega
              have HDL := Lib.hid hdl
              have hdle := Nat.le_of_eq hdl
              clear hdl
              go_wp2_with fail
              obtain ⟨wo2, rfl⟩ : ∃ wo2 : World, wo2 = w1 := ⟨_, rfl⟩
              clear hmn en m1 ej hqi
              go_loopw [9] (fun i wr => ∃ (k : Nat) (s' : St), k ≤ dl.length ∧ i = .int .i64 (k : Int) ∧ Inv bodies s' ∧ (s'.base = s.base ∧ s'.box = s.box ∧ s'.pushed = s.pushed) ∧ s.base + k ≤ s'.taken.length ∧ Side w.heap.size wr w.heap.size s' ∧ Below w.heap.size w wr ∧ CpRow wr w.heap.size (.slice Ad dl.length cd) dl) (fun i _ => dl.length - (intOf i).toNat)
              case atStart => exact ⟨0, s, by omega, rfl, HI.out, ⟨rfl, rfl, rfl⟩, by omega, ⟨_, _, _, _, HS1.out⟩, hBr, row_base HROW.out hz⟩
              case round =>
                obtain ⟨k, s2, hk, rfl, hI2, ⟨q1, q2, q3⟩, ht, hs2, hb2, hrow2⟩ := hrel
                have hz2 := hb2.size
                have HQ := Lib.hid (And.intro q1 (And.intro q2 q3))
                have HB2 := Lib.hid hb2
                have HI2 := Lib.hid hI2
                have g1 := hI2.tl
                have g2 := hI2.plen
                have g3 := hI2.bt
                have hg64 : s2.got < 18446744073709551616 := by have := hI2.got; omega
                have hb64 : s2.base < 18446744073709551616 := by omega
                have hbl2 : s.box.length ≤ s2.box.length := by rw [q2]; exact Nat.le_refl _
                have hbl3 : s2.box.length ≤ s.box.length := by rw [q2]; exact Nat.le_refl _
                clear q1 q2 q3 hI2 hb2
                obtain ⟨v1, v2, v3, v4, hs2⟩ := hs2
                by_cases hkl : k < dl.length
                · obtain ⟨Ad', cd', e9, _, _, hh9⟩ := row_form hrow2
                  obtain ⟨rfl, rfl⟩ : Ad = Ad' ∧ cd = cd' := by simpa using e9
                  obtain ⟨bl, ol, rfl, hblr, hc1, hc2⟩ := cp_cells hh9 hkl
                  have hdi := HDI.out k dl[k] (List.getElem?_eq_getElem hkl)
                  generalize dl[k] = cc at hc1 hc2 hdi
                  have hd8 : dl.length ≤ 8 := by have := HDN.out; omega
                  have hcc : 1 ≤ cc.1 ∧ cc.1 ≤ s2.base + 8 ∧ s2.pushed[cc.1 - 1]? = some cc.2 := ⟨by omega, by rw [HQ.out.1]; omega, by rw [HQ.out.2.2]; exact hdi.2⟩
                  have hst := come_step HI2.out (i := k) (c := cc) (by rw [HQ.out.1]; exact hdi.1) (by rw [HQ.out.1]; exact ht)
                  rw [HQ.out.1] at hst
                  have HCC := Lib.hid hcc
                  have HST := Lib.hid hst
                  have hc64 : cc.1 < 18446744073709551616 := by omega
                  have HROW2 := Lib.hid hrow2
                  have HS2 := Lib.hid hs2
                  clear hdi hcc hst hrow2 hh9 e9 hs2
                  go_wp2_with fail
                  refine (come_any w.heap.size wr w.heap.size s2 v1 v2 v3 v4 HS2.out hz2 cc.1 cc.2 hg64 hc64 (by omega)).mono ?_
                  rintro e w3 ⟨rfl, ⟨v5, hs3⟩, hb3, hk3⟩
                  have HS3 := Lib.hid hs3
                  clear hs3
                  go_wp2_with fail
                  go_roundw
                  case rel => exact ⟨k + 1, s2.come cc, by omega, by go_num, HI2.out.come HCC.out, HQ.out, HST.out, ⟨_, _, _, _, HS3.out⟩, HB2.out.trans hb3, HROW2.out.keepC hk3⟩
                  case measure => simp [intOf]; omega
                · obtain rfl : k = dl.length := by omega
                  obtain ⟨AB2, cB2, rfl, b3, b4, hbx2⟩ := hs2.box.form HI2.out.fitB.all
                  have HBX2 := Lib.hid hbx2
                  have HS2 := Lib.hid hs2
                  have m0 := hs2.six.c0
                  have m1 := hs2.six.c1
                  clear hbx2 hs2 hrow2
                  by_cases hd0 : 0 < dl.length
                  · have ed : decide (0 < dl.length) = true := decide_eq_true hd0
                    obtain ⟨ba, HBA⟩ : ∃ b, Hid (ackV s2.base s2.box s2.got = b) := ⟨_, Lib.hid rfl⟩
                    obtain ⟨La, HLA⟩ : ∃ b, Hid (ackL s2.base s2.box s2.got = b) := ⟨_, Lib.hid rfl⟩
                    obtain ⟨bb, HBB⟩ : ∃ b, Hid (ackB s2.base s2.box s2.got = b) := ⟨_, Lib.hid rfl⟩
                    have HFA : Hid (Fit La) := Lib.hid (by rw [← HLA.out]; exact ackL_fit HI2.out.fitB)
                    have HNX : Hid (Inv bodies { s2 with base := ba, box := La }) := Lib.hid (by have := HI2.out.ack (Nat.le_of_eq HI2.out.got); simpa [St.ack, HBA.out, HLA.out] using this)
                    have hst := ends_step HI2.out (d := dl.length) (by rw [HQ.out.2.1]; exact HDN.out) (by rw [HQ.out.1]; exact ht) hd0
                    simp only [St.ack, HLA.out] at hst
                    have hLa1 : La.length ≤ s2.box.length - dl.length := Nat.le_of_eq hst
                    have hLa2 : s2.box.length - dl.length ≤ La.length := Nat.le_of_eq hst.symm
                    clear hst
                    have ex : ((La.length : Int) != (s2.box.length : Int) - (dl.length : Int)) = false := by simp; omega
                    have hgl := HS2.out.lt
                    go_wp2_with fail
                    refine wp_region_f (fun dn xv W => PA w.heap.size wr ba bb La (fun W => (∃ vB', SideAt w.heap.size W w.heap.size { s2 with base := ba, box := La } vB' v2 v3 v4) ∧ Below w.heap.size wr W) (dn 10) (xv 10) (dn 11) (xv 11) (dn 12) (xv 12) (dn 16) W) (fun _ _ => True) [fun v _ => v = .pointer (some ⟨w.heap.size, 0, none⟩), fun v _ => v = .pointer (some ⟨w.heap.size, 0, none⟩), fun v _ => v = .pointer (some ⟨w.heap.size, 0, none⟩), fun v _ => v = .pointer (some ⟨w.heap.size, 0, none⟩), fun v _ => v = .agg #[.int .u64 (s2.base : Int), .slice AB2 s2.box.length cB2], fun v _ => v = .pointer (some ⟨w.heap.size, 0, none⟩), fun v _ => v = .pointer (some ⟨w.heap.size, 0, none⟩), fun v _ => v = .pointer (some ⟨w.heap.size, 2, none⟩), fun v _ => v = .pointer (some ⟨w.heap.size, 2, none⟩), fun v _ => v = .int .u64 (s2.got : Int), fun v _ => ∃ A c, v = .tuple #[.agg #[.int .u64 (ba : Int), .slice A La.length c], .bool bb], fun v _ => ∃ A c, v = .tuple #[.agg #[.int .u64 (ba : Int), .slice A La.length c], .bool bb], fun v _ => ∃ A c, v = .agg #[.int .u64 (ba : Int), .slice A La.length c], fun v _ => v = .bool bb, fun v _ => v = .pointer (some ⟨w.heap.size, 0, none⟩), fun v _ => v = .pointer (some ⟨w.heap.size, 0, none⟩), fun v _ => True] (by kernel_rfl) (by kernel_rfl) (by kernel_rfl) (by kernel_rfl) (fun xv => by simpa using (show PA w.heap.size wr ba bb La (fun W => (∃ vB', SideAt w.heap.size W w.heap.size { s2 with base := ba, box := La } vB' v2 v3 v4) ∧ Below w.heap.size wr W) false (xv 10) false (xv 11) false (xv 12) false wr.drew from ⟨fun _ => (Below.refl _ wr).drew, (fun h => by cases h), (fun h => by cases h)⟩))
                      (by exact ⟨fun _ _ _ _ h => h, fun _ _ _ _ h => h, fun _ _ _ _ h => h, fun _ _ _ _ h => h, fun _ _ _ _ h => h, fun _ _ _ _ h => h, fun _ _ _ _ h => h, fun _ _ _ _ h => h, fun _ _ _ _ h => h, fun _ _ _ _ h => h, fun _ _ _ _ h => h, fun _ _ _ _ h => h, fun _ _ _ _ h => h, fun _ _ _ _ h => h, fun _ _ _ _ h => h, fun _ _ _ _ h => h, fun _ _ _ _ h => h, trivial⟩) ?_ ?_
                    · refine EachF.cons 1 rfl (fun dn xv W F hF hd hN hX hI H K hK => ?_) ?_
                      · have f5 : F.tmps.getD 5 undef = .pointer (some ⟨w.heap.size, 0, none⟩) := (hF 5).trans (by kernel_rfl)
                        clear H hN hd hX hF
                        refine on_plain rfl ?_
                        go_simp
                        exact hK.out _ _ rfl trivial (by simpa [upB, upd] using hI)
                      refine EachF.cons 2 rfl (fun dn xv W F hF hd hN hX hI H K hK => ?_) ?_
                      · have f5 : F.tmps.getD 5 undef = .pointer (some ⟨w.heap.size, 0, none⟩) := (hF 5).trans (by kernel_rfl)
                        clear H hN hd hX hF
                        refine on_plain rfl ?_
                        go_simp
                        exact hK.out _ _ rfl trivial (by simpa [upB, upd] using hI)
                      refine EachF.cons 3 rfl (fun dn xv W F hF hd hN hX hI H K hK => ?_) ?_
                      · have h1 : xv 1 = .pointer (some ⟨w.heap.size, 0, none⟩) := (H 1 (.edge (by kernel_rfl))).2
                        have f78 : F.tmps.getD 78 undef = .pointer (some ⟨w.heap.size, 0, none⟩) := (hF 78).trans (Eq.trans (by kernel_rfl) h1)
                        clear H hN hd hX hF
                        refine on_plain rfl ?_
                        go_simp
                        exact hK.out _ _ rfl trivial (by simpa [upB, upd] using hI)
                      refine EachF.cons 4 rfl (fun dn xv W F hF hd hN hX hI H K hK => ?_) ?_
                      · have h2 : xv 2 = .pointer (some ⟨w.heap.size, 0, none⟩) := (H 2 (.edge (by kernel_rfl))).2
                        have f79 : F.tmps.getD 79 undef = .pointer (some ⟨w.heap.size, 0, none⟩) := (hF 79).trans (Eq.trans (by kernel_rfl) h2)
                        clear H hN hd hX hF
                        refine on_plain rfl ?_
                        go_simp
                        exact hK.out _ _ rfl trivial (by simpa [upB, upd] using hI)
                      refine EachF.cons 5 rfl (fun dn xv W F hF hd hN hX hI H K hK => ?_) ?_
                      · have h3 : xv 3 = .pointer (some ⟨w.heap.size, 0, none⟩) := (H 3 (.edge (by kernel_rfl))).2
                        have f80 : F.tmps.getD 80 undef = .pointer (some ⟨w.heap.size, 0, none⟩) := (hF 80).trans (Eq.trans (by kernel_rfl) h3)
                        have h20 := hN 16 (.more (j := 12) (by kernel_rfl) (.more (j := 11) (by kernel_rfl) (.more (j := 10) (by kernel_rfl) (.edge (by kernel_rfl)))))
                        have hb0 : Below wr.heap.size wr W := hI.1 h20
                        have hc0 := (HS2.out.six.below hb0 HS2.out.lt).c0
                        have hc1 := (HS2.out.six.below hb0 HS2.out.lt).c1
                        clear h20
                        clear H hN hd hX hF
                        refine on_plain rfl ?_
                        go_simp
                        exact hK.out _ _ rfl trivial (by simpa [upB, upd] using hI)
                      refine EachF.cons 6 rfl (fun dn xv W F hF hd hN hX hI H K hK => ?_) ?_
                      · have f5 : F.tmps.getD 5 undef = .pointer (some ⟨w.heap.size, 0, none⟩) := (hF 5).trans (by kernel_rfl)
                        clear H hN hd hX hF
                        refine on_plain rfl ?_
                        go_simp
                        exact hK.out _ _ rfl trivial (by simpa [upB, upd] using hI)
                      refine EachF.cons 7 rfl (fun dn xv W F hF hd hN hX hI H K hK => ?_) ?_
                      · have h5 : xv 5 = .pointer (some ⟨w.heap.size, 0, none⟩) := (H 5 (.edge (by kernel_rfl))).2
                        have f82 : F.tmps.getD 82 undef = .pointer (some ⟨w.heap.size, 0, none⟩) := (hF 82).trans (Eq.trans (by kernel_rfl) h5)
                        clear H hN hd hX hF
                        refine on_plain rfl ?_
                        go_simp
                        exact hK.out _ _ rfl trivial (by simpa [upB, upd] using hI)
                      refine EachF.cons 8 rfl (fun dn xv W F hF hd hN hX hI H K hK => ?_) ?_
                      · have h6 : xv 6 = .pointer (some ⟨w.heap.size, 0, none⟩) := (H 6 (.edge (by kernel_rfl))).2
                        have f83 : F.tmps.getD 83 undef = .pointer (some ⟨w.heap.size, 0, none⟩) := (hF 83).trans (Eq.trans (by kernel_rfl) h6)
                        clear H hN hd hX hF
                        refine on_plain rfl ?_
                        go_simp
                        exact hK.out _ _ rfl trivial (by simpa [upB, upd] using hI)
                      refine EachF.cons 9 rfl (fun dn xv W F hF hd hN hX hI H K hK => ?_) ?_
                      · have h7 : xv 7 = .pointer (some ⟨w.heap.size, 2, none⟩) := (H 7 (.edge (by kernel_rfl))).2
                        have f84 : F.tmps.getD 84 undef = .pointer (some ⟨w.heap.size, 2, none⟩) := (hF 84).trans (Eq.trans (by kernel_rfl) h7)
                        clear H hN hd hX hF
                        refine on_plain rfl ?_
                        go_simp
                        exact hK.out _ _ rfl trivial (by simpa [upB, upd] using hI)
                      refine EachF.cons 10 rfl (fun dn xv W F hF hd hN hX hI H K hK => ?_) ?_
                      · have h8 : xv 8 = .pointer (some ⟨w.heap.size, 2, none⟩) := (H 8 (.edge (by kernel_rfl))).2
                        have f85 : F.tmps.getD 85 undef = .pointer (some ⟨w.heap.size, 2, none⟩) := (hF 85).trans (Eq.trans (by kernel_rfl) h8)
                        have h20 := hN 16 (.more (j := 12) (by kernel_rfl) (.more (j := 11) (by kernel_rfl) (.more (j := 10) (by kernel_rfl) (.edge (by kernel_rfl)))))
                        have hb0 : Below wr.heap.size wr W := hI.1 h20
                        have hc0 := (HS2.out.six.below hb0 HS2.out.lt).c2
                        clear h20
                        clear H hN hd hX hF
                        refine on_plain rfl ?_
                        go_simp
                        exact hK.out _ _ rfl trivial (by simpa [upB, upd] using hI)
                      refine EachF.cons 11 rfl (fun dn xv W F hF hd hN hX hI H K hK => ?_) ?_
                      · have h4 : xv 4 = .agg #[.int .u64 (s2.base : Int), .slice AB2 s2.box.length cB2] := (H 4 (.edge (by kernel_rfl))).2
                        have f81 : F.tmps.getD 81 undef = .agg #[.int .u64 (s2.base : Int), .slice AB2 s2.box.length cB2] := (hF 81).trans (Eq.trans (by kernel_rfl) h4)
                        have h9 : xv 9 = .int .u64 (s2.got : Int) := (H 9 (.edge (by kernel_rfl))).2
                        have f86 : F.tmps.getD 86 undef = .int .u64 (s2.got : Int) := (hF 86).trans (Eq.trans (by kernel_rfl) h9)
                        have h20 := hN 16 (.more (j := 12) (by kernel_rfl) (.more (j := 11) (by kernel_rfl) (.edge (by kernel_rfl))))
                        have hb0 : Below wr.heap.size wr W := hI.1 h20
                        have h15 := hN 11 (.edge (by kernel_rfl))
                        have h16 := hN 12 (.more (j := 11) (by kernel_rfl) (.edge (by kernel_rfl)))
                        clear H hN hd hX hF
                        refine on_plain rfl ?_
                        go_simp
                        refine (acked_any W s2.base s2.got AB2 cB2 s2.box ((HBX2.out.below hb0).more hb0.size) hb64 hg64 HI2.out.fitB b3 b4).mono ?_
                        rintro e W' ⟨hb, v, rfl, ho⟩
                        rw [HLA.out] at ho
                        rw [HBA.out, HBB.out]
                        obtain ⟨A2, c2, rfl, _⟩ := ho.form HFA.out.all
                        have hs : PA w.heap.size wr ba bb La (fun W => (∃ vB', SideAt w.heap.size W w.heap.size { s2 with base := ba, box := La } vB' v2 v3 v4) ∧ Below w.heap.size wr W) true (.tuple #[.agg #[.int .u64 (ba : Int), .slice A2 La.length c2], .bool bb]) false (xv 11) false (xv 12) false W' := ⟨fun _ => hb0.trans (hb.mono hb0.size), fun _ => ⟨A2, c2, rfl, fun _ => ho.mono (Nat.le_trans hz2 hb0.size), (fun h => by cases h), (fun h => by cases h)⟩, (fun h => by cases h)⟩
                        exact hK.out _ _ ⟨A2, c2, rfl⟩ trivial (by simpa [upB, upd, h15, h16, h20] using hs)
                      refine EachF.cons 12 rfl (fun dn xv W F hF hd hN hX hI H K hK => ?_) ?_
                      · have h10 := (H 10 (.edge (by kernel_rfl))).2
                        simp only [Dl] at h10
                        have f87 : F.tmps.getD 87 undef = xv 10 := (hF 87).trans (by kernel_rfl)
                        have h20 := hN 16 (.more (j := 12) (by kernel_rfl) (.edge (by kernel_rfl)))
                        have hb0 : Below wr.heap.size wr W := hI.1 h20
                        have h16 := hN 12 (.edge (by kernel_rfl))
                        have d14 : dn 10 = true := (H 10 (.edge (by kernel_rfl))).1
                        have hI2 := hI
                        rw [d14] at hI2
                        obtain ⟨A2, c2, e2, ho, _, _⟩ := hI2.2.1 rfl
                        have f87x := f87.trans e2
                        have g87 := f87x
                        rw [Array.getD_eq_getD_getElem?] at g87
                        clear f87
                        clear H hN hd hX hF
                        refine on_plain rfl ?_
                        go_simp
                        have hs : PA w.heap.size wr ba bb La (fun W => (∃ vB', SideAt w.heap.size W w.heap.size { s2 with base := ba, box := La } vB' v2 v3 v4) ∧ Below w.heap.size wr W) true (xv 10) true (.tuple #[.agg #[.int .u64 (ba : Int), .slice A2 La.length c2], .bool bb]) false (xv 12) false W := ⟨fun _ => hb0, fun _ => ⟨A2, c2, e2, fun _ => ho h20, fun _ => e2.symm, (fun h => by cases h)⟩, (fun h => by cases h)⟩
                        exact hK.out _ _ ⟨A2, c2, rfl⟩ trivial (by simpa [upB, upd, h16, h20, d14] using hs)
                      refine EachF.cons 13 rfl (fun dn xv W F hF hd hN hX hI H K hK => ?_) ?_
                      · have h11 := (H 11 (.edge (by kernel_rfl))).2
                        simp only [Dl] at h11
                        have f76 : F.tmps.getD 76 undef = xv 11 := (hF 76).trans (by kernel_rfl)
                        have h20 := hN 16 (.edge (by kernel_rfl))
                        have hb0 : Below wr.heap.size wr W := hI.1 h20
                        have d14 : dn 10 = true := (H 10 (.more (j := 11) (by kernel_rfl) (.edge (by kernel_rfl)))).1
                        have d15 : dn 11 = true := (H 11 (.edge (by kernel_rfl))).1
                        have hI2 := hI
                        rw [d14, d15] at hI2
                        obtain ⟨A2, c2, e2, ho, e3, _⟩ := hI2.2.1 rfl
                        have f76x := f76.trans ((e3 rfl).trans e2)
                        have g76 := f76x
                        rw [Array.getD_eq_getD_getElem?] at g76
                        clear f76
                        clear H hN hd hX hF
                        refine on_plain rfl ?_
                        go_simp
                        have hs : PA w.heap.size wr ba bb La (fun W => (∃ vB', SideAt w.heap.size W w.heap.size { s2 with base := ba, box := La } vB' v2 v3 v4) ∧ Below w.heap.size wr W) true (xv 10) true (xv 11) true (.agg #[.int .u64 (ba : Int), .slice A2 La.length c2]) false W := ⟨fun _ => hb0, fun _ => ⟨A2, c2, e2, fun _ => ho h20, e3, fun _ => rfl⟩, (fun h => by cases h)⟩
                        exact hK.out _ _ ⟨A2, c2, rfl⟩ trivial (by simpa [upB, upd, h20, d14, d15] using hs)
                      refine EachF.cons 14 rfl (fun dn xv W F hF hd hN hX hI H K hK => ?_) ?_
                      · have h11 := (H 11 (.edge (by kernel_rfl))).2
                        simp only [Dl] at h11
                        have f76 : F.tmps.getD 76 undef = xv 11 := (hF 76).trans (by kernel_rfl)
                        obtain ⟨A2, c2, e2⟩ := h11
                        have f76x := f76.trans e2
                        have g76 := f76x
                        rw [Array.getD_eq_getD_getElem?] at g76
                        clear f76
                        clear H hN hd hX hF
                        refine on_plain rfl ?_
                        go_simp
                        exact hK.out _ _ rfl trivial (by simpa [upB, upd] using hI)
                      refine EachF.cons 15 rfl (fun dn xv W F hF hd hN hX hI H K hK => ?_) ?_
                      · have h0 : xv 0 = .pointer (some ⟨w.heap.size, 0, none⟩) := (H 0 (.edge (by kernel_rfl))).2
                        have f77 : F.tmps.getD 77 undef = .pointer (some ⟨w.heap.size, 0, none⟩) := (hF 77).trans (Eq.trans (by kernel_rfl) h0)
                        clear H hN hd hX hF
                        refine on_plain rfl ?_
                        go_simp
                        exact hK.out _ _ rfl trivial (by simpa [upB, upd] using hI)
                      refine EachF.cons 16 rfl (fun dn xv W F hF hd hN hX hI H K hK => ?_) ?_
                      · have h14 : xv 14 = .pointer (some ⟨w.heap.size, 0, none⟩) := (H 14 (.edge (by kernel_rfl))).2
                        have f90 : F.tmps.getD 90 undef = .pointer (some ⟨w.heap.size, 0, none⟩) := (hF 90).trans (Eq.trans (by kernel_rfl) h14)
                        clear H hN hd hX hF
                        refine on_plain rfl ?_
                        go_simp
                        exact hK.out _ _ rfl trivial (by simpa [upB, upd] using hI)
                      refine EachF.cons 17 rfl (fun dn xv W F hF hd hN hX hI H K hK => ?_) ?_
                      · have h12 := (H 12 (.edge (by kernel_rfl))).2
                        simp only [Dl] at h12
                        have f88 : F.tmps.getD 88 undef = xv 12 := (hF 88).trans (by kernel_rfl)
                        have h15 : xv 15 = .pointer (some ⟨w.heap.size, 0, none⟩) := (H 15 (.edge (by kernel_rfl))).2
                        have f91 : F.tmps.getD 91 undef = .pointer (some ⟨w.heap.size, 0, none⟩) := (hF 91).trans (Eq.trans (by kernel_rfl) h15)
                        have d14 : dn 10 = true := (H 10 (.more (j := 12) (by kernel_rfl) (.more (j := 11) (by kernel_rfl) (.edge (by kernel_rfl))))).1
                        have d16 : dn 12 = true := (H 12 (.edge (by kernel_rfl))).1
                        have hb0 := hI.1 hd
                        have hI2 := hI
                        rw [d14, d16] at hI2
                        obtain ⟨A2, c2, e2, ho, e3, e4⟩ := hI2.2.1 rfl
                        have f88x := f88.trans (e4 rfl)
                        have hsm := HS2.out.below hb0
                        have hs9 := hsm.setS ba (ho hd)
                        have hc0 := hsm.six.c0
                        have hc1 := hsm.six.c1
                        have hf0 := hsm.six.fz 0
                        have hf1 := hsm.six.fz 1
                        have hb9 : Below w.heap.size wr ((W.setCell ⟨w.heap.size, 0, none⟩ (.int .u64 (ba : Int))).setCell ⟨w.heap.size, 1, none⟩ (.slice A2 La.length c2)) := ((hb0.mono hz2).setCell (Nat.le_refl _) _).setCell (Nat.le_refl _) _
                        clear hsm f88
                        clear H hN hd hX hF
                        refine on_plain rfl ?_
                        go_simp
                        have hs : PA w.heap.size wr ba bb La (fun W => (∃ vB', SideAt w.heap.size W w.heap.size { s2 with base := ba, box := La } vB' v2 v3 v4) ∧ Below w.heap.size wr W) true (xv 10) (dn 11) (xv 11) true (xv 12) true ((W.setCell ⟨w.heap.size, 0, none⟩ (.int .u64 (ba : Int))).setCell ⟨w.heap.size, 1, none⟩ (.slice A2 La.length c2)) := ⟨(fun h => by cases h), fun _ => ⟨A2, c2, e2, (fun h => by cases h), e3, e4⟩, fun _ => ⟨⟨_, hs9⟩, hb9⟩⟩
                        exact hK.out undef _ trivial trivial (by simpa [upB, upd, d14, d16] using hs)
                      exact EachF.nil
                    · intro dn xv W hI H
                      have hS := hI.2.2 (H 16 (of_decide_eq_true (by kernel_rfl))).1
                      clear H hI
                      simp only [putAll, Act.put, List.setIfInBounds_toArray, List.set_cons_zero, List.set_cons_succ, Nat.reduceAdd]
                      obtain ⟨⟨vB3, hx⟩, hbb⟩ := hS
                      obtain ⟨AB3, cB3, rfl, _, _, _⟩ := hx.box.form HFA.out.all
                      have m2 := hx.six.c1
                      have HX3 := Lib.hid hx
                      clear hx m0 m1
                      go_wp2_with fail
                      refine (right_any w.heap.size W w.heap.size { s2 with base := ba, box := La } ⟨_, _, _, _, HX3.out⟩ bodies HNX.out).mono ?_
                      rintro e w5 ⟨rfl, hb5⟩
                      have hzb := hbb.size
                      go_wp2_with fail
                      go_roundw
                      case rel => exact ⟨j + 1, { s2 with base := ba, box := La }, by omega, by go_num, HNX.out, end_next HE.out HDN.out (show La.length = s.box.length - dl.length by omega), ⟨_, _, _, _, HX3.out.below hb5⟩, (HB2.out.trans hbb).trans (hb5.mono (by omega))⟩
                      case measure => simp [intOf]; omega
                  · have ed : decide (0 < dl.length) = false := decide_eq_false hd0
                    have ex : ((s2.box.length : Int) != (s2.box.length : Int) - (dl.length : Int)) = false := by simp; omega
                    go_wp2_with fail
                    refine (right_any w.heap.size wr w.heap.size s2 ⟨_, _, _, _, HS2.out⟩ bodies HI2.out).mono ?_
                    rintro e w5 ⟨rfl, hb5⟩
                    go_wp2_with fail
                    go_roundw
                    case rel => exact ⟨j + 1, s2, by omega, by go_num, HI2.out, end_next HE.out HDN.out (show s2.box.length = s.box.length - dl.length by omega), ⟨_, _, _, _, HS2.out.below hb5⟩, HB2.out.trans (hb5.mono hz2)⟩
                    case measure => simp [intOf]; omega
            · have hmn : (s.box.length : Int) ≤ 8 := by omega
              have hdl : dl.length = s.box.length := by have := HDN.out; omega
              have en : ((dl.length : Int) != (s.box.length : Int)) = false := by simp; omega
              have hdle := Nat.le_of_eq hdl
              clear hdl
              go_wp2_with fail
              obtain ⟨wo2, rfl⟩ : ∃ wo2 : World, wo2 = w1 := ⟨_, rfl⟩
              clear hmn en m1 ej hqi
              go_loopw [9] (fun i wr => ∃ (k : Nat) (s' : St), k ≤ dl.length ∧ i = .int .i64 (k : Int) ∧ Inv bodies s' ∧ (s'.base = s.base ∧ s'.box = s.box ∧ s'.pushed = s.pushed) ∧ s.base + k ≤ s'.taken.length ∧ Side w.heap.size wr w.heap.size s' ∧ Below w.heap.size w wr ∧ CpRow wr w.heap.size (.slice Ad dl.length cd) dl) (fun i _ => dl.length - (intOf i).toNat)
              case atStart => exact ⟨0, s, by omega, rfl, HI.out, ⟨rfl, rfl, rfl⟩, by omega, ⟨_, _, _, _, HS1.out⟩, hBr, row_base HROW.out hz⟩
              case round =>
                obtain ⟨k, s2, hk, rfl, hI2, ⟨q1, q2, q3⟩, ht, hs2, hb2, hrow2⟩ := hrel
                have hz2 := hb2.size
                have HQ := Lib.hid (And.intro q1 (And.intro q2 q3))
                have HB2 := Lib.hid hb2
                have HI2 := Lib.hid hI2
                have g1 := hI2.tl
                have g2 := hI2.plen
                have g3 := hI2.bt
                have hg64 : s2.got < 18446744073709551616 := by have := hI2.got; omega
                have hb64 : s2.base < 18446744073709551616 := by omega
                have hbl2 : s.box.length ≤ s2.box.length := by rw [q2]; exact Nat.le_refl _
                have hbl3 : s2.box.length ≤ s.box.length := by rw [q2]; exact Nat.le_refl _
                clear q1 q2 q3 hI2 hb2
                obtain ⟨v1, v2, v3, v4, hs2⟩ := hs2
                by_cases hkl : k < dl.length
                · obtain ⟨Ad', cd', e9, _, _, hh9⟩ := row_form hrow2
                  obtain ⟨rfl, rfl⟩ : Ad = Ad' ∧ cd = cd' := by simpa using e9
                  obtain ⟨bl, ol, rfl, hblr, hc1, hc2⟩ := cp_cells hh9 hkl
                  have hdi := HDI.out k dl[k] (List.getElem?_eq_getElem hkl)
                  generalize dl[k] = cc at hc1 hc2 hdi
                  have hd8 : dl.length ≤ 8 := by have := HDN.out; omega
                  have hcc : 1 ≤ cc.1 ∧ cc.1 ≤ s2.base + 8 ∧ s2.pushed[cc.1 - 1]? = some cc.2 := ⟨by omega, by rw [HQ.out.1]; omega, by rw [HQ.out.2.2]; exact hdi.2⟩
                  have hst := come_step HI2.out (i := k) (c := cc) (by rw [HQ.out.1]; exact hdi.1) (by rw [HQ.out.1]; exact ht)
                  rw [HQ.out.1] at hst
                  have HCC := Lib.hid hcc
                  have HST := Lib.hid hst
                  have hc64 : cc.1 < 18446744073709551616 := by omega
                  have HROW2 := Lib.hid hrow2
                  have HS2 := Lib.hid hs2
                  clear hdi hcc hst hrow2 hh9 e9 hs2
                  go_wp2_with fail
                  refine (come_any w.heap.size wr w.heap.size s2 v1 v2 v3 v4 HS2.out hz2 cc.1 cc.2 hg64 hc64 (by omega)).mono ?_
                  rintro e w3 ⟨rfl, ⟨v5, hs3⟩, hb3, hk3⟩
                  have HS3 := Lib.hid hs3
                  clear hs3
                  go_wp2_with fail
                  go_roundw
                  case rel => exact ⟨k + 1, s2.come cc, by omega, by go_num, HI2.out.come HCC.out, HQ.out, HST.out, ⟨_, _, _, _, HS3.out⟩, HB2.out.trans hb3, HROW2.out.keepC hk3⟩
                  case measure => simp [intOf]; omega
                · obtain rfl : k = dl.length := by omega
                  obtain ⟨AB2, cB2, rfl, b3, b4, hbx2⟩ := hs2.box.form HI2.out.fitB.all
                  have HBX2 := Lib.hid hbx2
                  have HS2 := Lib.hid hs2
                  have m0 := hs2.six.c0
                  have m1 := hs2.six.c1
                  clear hbx2 hs2 hrow2
                  by_cases hd0 : 0 < dl.length
                  · have ed : decide (0 < dl.length) = true := decide_eq_true hd0
                    obtain ⟨ba, HBA⟩ : ∃ b, Hid (ackV s2.base s2.box s2.got = b) := ⟨_, Lib.hid rfl⟩
                    obtain ⟨La, HLA⟩ : ∃ b, Hid (ackL s2.base s2.box s2.got = b) := ⟨_, Lib.hid rfl⟩
                    obtain ⟨bb, HBB⟩ : ∃ b, Hid (ackB s2.base s2.box s2.got = b) := ⟨_, Lib.hid rfl⟩
                    have HFA : Hid (Fit La) := Lib.hid (by rw [← HLA.out]; exact ackL_fit HI2.out.fitB)
                    have HNX : Hid (Inv bodies { s2 with base := ba, box := La }) := Lib.hid (by have := HI2.out.ack (Nat.le_of_eq HI2.out.got); simpa [St.ack, HBA.out, HLA.out] using this)
                    have hst := ends_step HI2.out (d := dl.length) (by rw [HQ.out.2.1]; exact HDN.out) (by rw [HQ.out.1]; exact ht) hd0
                    simp only [St.ack, HLA.out] at hst
                    have hLa1 : La.length ≤ s2.box.length - dl.length := Nat.le_of_eq hst
                    have hLa2 : s2.box.length - dl.length ≤ La.length := Nat.le_of_eq hst.symm
                    clear hst
                    have ex : ((La.length : Int) != (s2.box.length : Int) - (dl.length : Int)) = false := by simp; omega
                    have hgl := HS2.out.lt
                    go_wp2_with fail
                    refine wp_region_f (fun dn xv W => PA w.heap.size wr ba bb La (fun W => (∃ vB', SideAt w.heap.size W w.heap.size { s2 with base := ba, box := La } vB' v2 v3 v4) ∧ Below w.heap.size wr W) (dn 10) (xv 10) (dn 11) (xv 11) (dn 12) (xv 12) (dn 16) W) (fun _ _ => True) [fun v _ => v = .pointer (some ⟨w.heap.size, 0, none⟩), fun v _ => v = .pointer (some ⟨w.heap.size, 0, none⟩), fun v _ => v = .pointer (some ⟨w.heap.size, 0, none⟩), fun v _ => v = .pointer (some ⟨w.heap.size, 0, none⟩), fun v _ => v = .agg #[.int .u64 (s2.base : Int), .slice AB2 s2.box.length cB2], fun v _ => v = .pointer (some ⟨w.heap.size, 0, none⟩), fun v _ => v = .pointer (some ⟨w.heap.size, 0, none⟩), fun v _ => v = .pointer (some ⟨w.heap.size, 2, none⟩), fun v _ => v = .pointer (some ⟨w.heap.size, 2, none⟩), fun v _ => v = .int .u64 (s2.got : Int), fun v _ => ∃ A c, v = .tuple #[.agg #[.int .u64 (ba : Int), .slice A La.length c], .bool bb], fun v _ => ∃ A c, v = .tuple #[.agg #[.int .u64 (ba : Int), .slice A La.length c], .bool bb], fun v _ => ∃ A c, v = .agg #[.int .u64 (ba : Int), .slice A La.length c], fun v _ => v = .bool bb, fun v _ => v = .pointer (some ⟨w.heap.size, 0, none⟩), fun v _ => v = .pointer (some ⟨w.heap.size, 0, none⟩), fun v _ => True] (by kernel_rfl) (by kernel_rfl) (by kernel_rfl) (by kernel_rfl) (fun xv => by simpa using (show PA w.heap.size wr ba bb La (fun W => (∃ vB', SideAt w.heap.size W w.heap.size { s2 with base := ba, box := La } vB' v2 v3 v4) ∧ Below w.heap.size wr W) false (xv 10) false (xv 11) false (xv 12) false wr.drew from ⟨fun _ => (Below.refl _ wr).drew, (fun h => by cases h), (fun h => by cases h)⟩))
                      (by exact ⟨fun _ _ _ _ h => h, fun _ _ _ _ h => h, fun _ _ _ _ h => h, fun _ _ _ _ h => h, fun _ _ _ _ h => h, fun _ _ _ _ h => h, fun _ _ _ _ h => h, fun _ _ _ _ h => h, fun _ _ _ _ h => h, fun _ _ _ _ h => h, fun _ _ _ _ h => h, fun _ _ _ _ h => h, fun _ _ _ _ h => h, fun _ _ _ _ h => h, fun _ _ _ _ h => h, fun _ _ _ _ h => h, fun _ _ _ _ h => h, trivial⟩) ?_ ?_
                    · refine EachF.cons 1 rfl (fun dn xv W F hF hd hN hX hI H K hK => ?_) ?_
                      · have f5 : F.tmps.getD 5 undef = .pointer (some ⟨w.heap.size, 0, none⟩) := (hF 5).trans (by kernel_rfl)
                        clear H hN hd hX hF
                        refine on_plain rfl ?_
                        go_simp
                        exact hK.out _ _ rfl trivial (by simpa [upB, upd] using hI)
                      refine EachF.cons 2 rfl (fun dn xv W F hF hd hN hX hI H K hK => ?_) ?_
                      · have f5 : F.tmps.getD 5 undef = .pointer (some ⟨w.heap.size, 0, none⟩) := (hF 5).trans (by kernel_rfl)
                        clear H hN hd hX hF
                        refine on_plain rfl ?_
                        go_simp
                        exact hK.out _ _ rfl trivial (by simpa [upB, upd] using hI)
                      refine EachF.cons 3 rfl (fun dn xv W F hF hd hN hX hI H K hK => ?_) ?_
                      · have h1 : xv 1 = .pointer (some ⟨w.heap.size, 0, none⟩) := (H 1 (.edge (by kernel_rfl))).2
                        have f78 : F.tmps.getD 78 undef = .pointer (some ⟨w.heap.size, 0, none⟩) := (hF 78).trans (Eq.trans (by kernel_rfl) h1)
                        clear H hN hd hX hF
                        refine on_plain rfl ?_
                        go_simp
                        exact hK.out _ _ rfl trivial (by simpa [upB, upd] using hI)
                      refine EachF.cons 4 rfl (fun dn xv W F hF hd hN hX hI H K hK => ?_) ?_
                      · have h2 : xv 2 = .pointer (some ⟨w.heap.size, 0, none⟩) := (H 2 (.edge (by kernel_rfl))).2
                        have f79 : F.tmps.getD 79 undef = .pointer (some ⟨w.heap.size, 0, none⟩) := (hF 79).trans (Eq.trans (by kernel_rfl) h2)
                        clear H hN hd hX hF
                        refine on_plain rfl ?_
                        go_simp
                        exact hK.out _ _ rfl trivial (by simpa [upB, upd] using hI)
                      refine EachF.cons 5 rfl (fun dn xv W F hF hd hN hX hI H K hK => ?_) ?_
                      · have h3 : xv 3 = .pointer (some ⟨w.heap.size, 0, none⟩) := (H 3 (.edge (by kernel_rfl))).2
                        have f80 : F.tmps.getD 80 undef = .pointer (some ⟨w.heap.size, 0, none⟩) := (hF 80).trans (Eq.trans (by kernel_rfl) h3)
                        have h20 := hN 16 (.more (j := 12) (by kernel_rfl) (.more (j := 11) (by kernel_rfl) (.more (j := 10) (by kernel_rfl) (.edge (by kernel_rfl)))))
                        have hb0 : Below wr.heap.size wr W := hI.1 h20
                        have hc0 := (HS2.out.six.below hb0 HS2.out.lt).c0
                        have hc1 := (HS2.out.six.below hb0 HS2.out.lt).c1
                        clear h20
                        clear H hN hd hX hF
                        refine on_plain rfl ?_
                        go_simp
                        exact hK.out _ _ rfl trivial (by simpa [upB, upd] using hI)
                      refine EachF.cons 6 rfl (fun dn xv W F hF hd hN hX hI H K hK => ?_) ?_
                      · have f5 : F.tmps.getD 5 undef = .pointer (some ⟨w.heap.size, 0, none⟩) := (hF 5).trans (by kernel_rfl)
                        clear H hN hd hX hF
                        refine on_plain rfl ?_
                        go_simp
                        exact hK.out _ _ rfl trivial (by simpa [upB, upd] using hI)
                      refine EachF.cons 7 rfl (fun dn xv W F hF hd hN hX hI H K hK => ?_) ?_
                      · have h5 : xv 5 = .pointer (some ⟨w.heap.size, 0, none⟩) := (H 5 (.edge (by kernel_rfl))).2
                        have f82 : F.tmps.getD 82 undef = .pointer (some ⟨w.heap.size, 0, none⟩) := (hF 82).trans (Eq.trans (by kernel_rfl) h5)
                        clear H hN hd hX hF
                        refine on_plain rfl ?_
                        go_simp
                        exact hK.out _ _ rfl trivial (by simpa [upB, upd] using hI)
                      refine EachF.cons 8 rfl (fun dn xv W F hF hd hN hX hI H K hK => ?_) ?_
                      · have h6 : xv 6 = .pointer (some ⟨w.heap.size, 0, none⟩) := (H 6 (.edge (by kernel_rfl))).2
                        have f83 : F.tmps.getD 83 undef = .pointer (some ⟨w.heap.size, 0, none⟩) := (hF 83).trans (Eq.trans (by kernel_rfl) h6)
                        clear H hN hd hX hF
                        refine on_plain rfl ?_
                        go_simp
                        exact hK.out _ _ rfl trivial (by simpa [upB, upd] using hI)
                      refine EachF.cons 9 rfl (fun dn xv W F hF hd hN hX hI H K hK => ?_) ?_
                      · have h7 : xv 7 = .pointer (some ⟨w.heap.size, 2, none⟩) := (H 7 (.edge (by kernel_rfl))).2
                        have f84 : F.tmps.getD 84 undef = .pointer (some ⟨w.heap.size, 2, none⟩) := (hF 84).trans (Eq.trans (by kernel_rfl) h7)
                        clear H hN hd hX hF
                        refine on_plain rfl ?_
                        go_simp
                        exact hK.out _ _ rfl trivial (by simpa [upB, upd] using hI)
                      refine EachF.cons 10 rfl (fun dn xv W F hF hd hN hX hI H K hK => ?_) ?_
                      · have h8 : xv 8 = .pointer (some ⟨w.heap.size, 2, none⟩) := (H 8 (.edge (by kernel_rfl))).2
                        have f85 : F.tmps.getD 85 undef = .pointer (some ⟨w.heap.size, 2, none⟩) := (hF 85).trans (Eq.trans (by kernel_rfl) h8)
                        have h20 := hN 16 (.more (j := 12) (by kernel_rfl) (.more (j := 11) (by kernel_rfl) (.more (j := 10) (by kernel_rfl) (.edge (by kernel_rfl)))))
                        have hb0 : Below wr.heap.size wr W := hI.1 h20
                        have hc0 := (HS2.out.six.below hb0 HS2.out.lt).c2
                        clear h20
                        clear H hN hd hX hF
                        refine on_plain rfl ?_
                        go_simp
                        exact hK.out _ _ rfl trivial (by simpa [upB, upd] using hI)
                      refine EachF.cons 11 rfl (fun dn xv W F hF hd hN hX hI H K hK => ?_) ?_
                      · have h4 : xv 4 = .agg #[.int .u64 (s2.base : Int), .slice AB2 s2.box.length cB2] := (H 4 (.edge (by kernel_rfl))).2
                        have f81 : F.tmps.getD 81 undef = .agg #[.int .u64 (s2.base : Int), .slice AB2 s2.box.length cB2] := (hF 81).trans (Eq.trans (by kernel_rfl) h4)
                        have h9 : xv 9 = .int .u64 (s2.got : Int) := (H 9 (.edge (by kernel_rfl))).2
                        have f86 : F.tmps.getD 86 undef = .int .u64 (s2.got : Int) := (hF 86).trans (Eq.trans (by kernel_rfl) h9)
                        have h20 := hN 16 (.more (j := 12) (by kernel_rfl) (.more (j := 11) (by kernel_rfl) (.edge (by kernel_rfl))))
                        have hb0 : Below wr.heap.size wr W := hI.1 h20
                        have h15 := hN 11 (.edge (by kernel_rfl))
                        have h16 := hN 12 (.more (j := 11) (by kernel_rfl) (.edge (by kernel_rfl)))
                        clear H hN hd hX hF
                        refine on_plain rfl ?_
                        go_simp
                        refine (acked_any W s2.base s2.got AB2 cB2 s2.box ((HBX2.out.below hb0).more hb0.size) hb64 hg64 HI2.out.fitB b3 b4).mono ?_
                        rintro e W' ⟨hb, v, rfl, ho⟩
                        rw [HLA.out] at ho
                        rw [HBA.out, HBB.out]
                        obtain ⟨A2, c2, rfl, _⟩ := ho.form HFA.out.all
                        have hs : PA w.heap.size wr ba bb La (fun W => (∃ vB', SideAt w.heap.size W w.heap.size { s2 with base := ba, box := La } vB' v2 v3 v4) ∧ Below w.heap.size wr W) true (.tuple #[.agg #[.int .u64 (ba : Int), .slice A2 La.length c2], .bool bb]) false (xv 11) false (xv 12) false W' := ⟨fun _ => hb0.trans (hb.mono hb0.size), fun _ => ⟨A2, c2, rfl, fun _ => ho.mono (Nat.le_trans hz2 hb0.size), (fun h => by cases h), (fun h => by cases h)⟩, (fun h => by cases h)⟩
                        exact hK.out _ _ ⟨A2, c2, rfl⟩ trivial (by simpa [upB, upd, h15, h16, h20] using hs)
                      refine EachF.cons 12 rfl (fun dn xv W F hF hd hN hX hI H K hK => ?_) ?_
                      · have h10 := (H 10 (.edge (by kernel_rfl))).2
                        simp only [Dl] at h10
                        have f87 : F.tmps.getD 87 undef = xv 10 := (hF 87).trans (by kernel_rfl)
                        have h20 := hN 16 (.more (j := 12) (by kernel_rfl) (.edge (by kernel_rfl)))
                        have hb0 : Below wr.heap.size wr W := hI.1 h20
                        have h16 := hN 12 (.edge (by kernel_rfl))
                        have d14 : dn 10 = true := (H 10 (.edge (by kernel_rfl))).1
                        have hI2 := hI
                        rw [d14] at hI2
                        obtain ⟨A2, c2, e2, ho, _, _⟩ := hI2.2.1 rfl
                        have f87x := f87.trans e2
                        have g87 := f87x
                        rw [Array.getD_eq_getD_getElem?] at g87
                        clear f87
                        clear H hN hd hX hF
                        refine on_plain rfl ?_
                        go_simp
                        have hs : PA w.heap.size wr ba bb La (fun W => (∃ vB', SideAt w.heap.size W w.heap.size { s2 with base := ba, box := La } vB' v2 v3 v4) ∧ Below w.heap.size wr W) true (xv 10) true (.tuple #[.agg #[.int .u64 (ba : Int), .slice A2 La.length c2], .bool bb]) false (xv 12) false W := ⟨fun _ => hb0, fun _ => ⟨A2, c2, e2, fun _ => ho h20, fun _ => e2.symm, (fun h => by cases h)⟩, (fun h => by cases h)⟩
                        exact hK.out _ _ ⟨A2, c2, rfl⟩ trivial (by simpa [upB, upd, h16, h20, d14] using hs)
                      refine EachF.cons 13 rfl (fun dn xv W F hF hd hN hX hI H K hK => ?_) ?_
                      · have h11 := (H 11 (.edge (by kernel_rfl))).2
                        simp only [Dl] at h11
                        have f76 : F.tmps.getD 76 undef = xv 11 := (hF 76).trans (by kernel_rfl)
                        have h20 := hN 16 (.edge (by kernel_rfl))
                        have hb0 : Below wr.heap.size wr W := hI.1 h20
                        have d14 : dn 10 = true := (H 10 (.more (j := 11) (by kernel_rfl) (.edge (by kernel_rfl)))).1
                        have d15 : dn 11 = true := (H 11 (.edge (by kernel_rfl))).1
                        have hI2 := hI
                        rw [d14, d15] at hI2
                        obtain ⟨A2, c2, e2, ho, e3, _⟩ := hI2.2.1 rfl
                        have f76x := f76.trans ((e3 rfl).trans e2)
                        have g76 := f76x
                        rw [Array.getD_eq_getD_getElem?] at g76
                        clear f76
                        clear H hN hd hX hF
                        refine on_plain rfl ?_
                        go_simp
                        have hs : PA w.heap.size wr ba bb La (fun W => (∃ vB', SideAt w.heap.size W w.heap.size { s2 with base := ba, box := La } vB' v2 v3 v4) ∧ Below w.heap.size wr W) true (xv 10) true (xv 11) true (.agg #[.int .u64 (ba : Int), .slice A2 La.length c2]) false W := ⟨fun _ => hb0, fun _ => ⟨A2, c2, e2, fun _ => ho h20, e3, fun _ => rfl⟩, (fun h => by cases h)⟩
                        exact hK.out _ _ ⟨A2, c2, rfl⟩ trivial (by simpa [upB, upd, h20, d14, d15] using hs)
                      refine EachF.cons 14 rfl (fun dn xv W F hF hd hN hX hI H K hK => ?_) ?_
                      · have h11 := (H 11 (.edge (by kernel_rfl))).2
                        simp only [Dl] at h11
                        have f76 : F.tmps.getD 76 undef = xv 11 := (hF 76).trans (by kernel_rfl)
                        obtain ⟨A2, c2, e2⟩ := h11
                        have f76x := f76.trans e2
                        have g76 := f76x
                        rw [Array.getD_eq_getD_getElem?] at g76
                        clear f76
                        clear H hN hd hX hF
                        refine on_plain rfl ?_
                        go_simp
                        exact hK.out _ _ rfl trivial (by simpa [upB, upd] using hI)
                      refine EachF.cons 15 rfl (fun dn xv W F hF hd hN hX hI H K hK => ?_) ?_
                      · have h0 : xv 0 = .pointer (some ⟨w.heap.size, 0, none⟩) := (H 0 (.edge (by kernel_rfl))).2
                        have f77 : F.tmps.getD 77 undef = .pointer (some ⟨w.heap.size, 0, none⟩) := (hF 77).trans (Eq.trans (by kernel_rfl) h0)
                        clear H hN hd hX hF
                        refine on_plain rfl ?_
                        go_simp
                        exact hK.out _ _ rfl trivial (by simpa [upB, upd] using hI)
                      refine EachF.cons 16 rfl (fun dn xv W F hF hd hN hX hI H K hK => ?_) ?_
                      · have h14 : xv 14 = .pointer (some ⟨w.heap.size, 0, none⟩) := (H 14 (.edge (by kernel_rfl))).2
                        have f90 : F.tmps.getD 90 undef = .pointer (some ⟨w.heap.size, 0, none⟩) := (hF 90).trans (Eq.trans (by kernel_rfl) h14)
                        clear H hN hd hX hF
                        refine on_plain rfl ?_
                        go_simp
                        exact hK.out _ _ rfl trivial (by simpa [upB, upd] using hI)
                      refine EachF.cons 17 rfl (fun dn xv W F hF hd hN hX hI H K hK => ?_) ?_
                      · have h12 := (H 12 (.edge (by kernel_rfl))).2
                        simp only [Dl] at h12
                        have f88 : F.tmps.getD 88 undef = xv 12 := (hF 88).trans (by kernel_rfl)
                        have h15 : xv 15 = .pointer (some ⟨w.heap.size, 0, none⟩) := (H 15 (.edge (by kernel_rfl))).2
                        have f91 : F.tmps.getD 91 undef = .pointer (some ⟨w.heap.size, 0, none⟩) := (hF 91).trans (Eq.trans (by kernel_rfl) h15)
                        have d14 : dn 10 = true := (H 10 (.more (j := 12) (by kernel_rfl) (.more (j := 11) (by kernel_rfl) (.edge (by kernel_rfl))))).1
                        have d16 : dn 12 = true := (H 12 (.edge (by kernel_rfl))).1
                        have hb0 := hI.1 hd
                        have hI2 := hI
                        rw [d14, d16] at hI2
                        obtain ⟨A2, c2, e2, ho, e3, e4⟩ := hI2.2.1 rfl
                        have f88x := f88.trans (e4 rfl)
                        have hsm := HS2.out.below hb0
                        have hs9 := hsm.setS ba (ho hd)
                        have hc0 := hsm.six.c0
                        have hc1 := hsm.six.c1
                        have hf0 := hsm.six.fz 0
                        have hf1 := hsm.six.fz 1
                        have hb9 : Below w.heap.size wr ((W.setCell ⟨w.heap.size, 0, none⟩ (.int .u64 (ba : Int))).setCell ⟨w.heap.size, 1, none⟩ (.slice A2 La.length c2)) := ((hb0.mono hz2).setCell (Nat.le_refl _) _).setCell (Nat.le_refl _) _
                        clear hsm f88
                        clear H hN hd hX hF
                        refine on_plain rfl ?_
                        go_simp
                        have hs : PA w.heap.size wr ba bb La (fun W => (∃ vB', SideAt w.heap.size W w.heap.size { s2 with base := ba, box := La } vB' v2 v3 v4) ∧ Below w.heap.size wr W) true (xv 10) (dn 11) (xv 11) true (xv 12) true ((W.setCell ⟨w.heap.size, 0, none⟩ (.int .u64 (ba : Int))).setCell ⟨w.heap.size, 1, none⟩ (.slice A2 La.length c2)) := ⟨(fun h => by cases h), fun _ => ⟨A2, c2, e2, (fun h => by cases h), e3, e4⟩, fun _ => ⟨⟨_, hs9⟩, hb9⟩⟩
                        exact hK.out undef _ trivial trivial (by simpa [upB, upd, d14, d16] using hs)
                      exact EachF.nil
                    · intro dn xv W hI H
                      have hS := hI.2.2 (H 16 (of_decide_eq_true (by kernel_rfl))).1
                      clear H hI
                      simp only [putAll, Act.put, List.setIfInBounds_toArray, List.set_cons_zero, List.set_cons_succ, Nat.reduceAdd]
                      obtain ⟨⟨vB3, hx⟩, hbb⟩ := hS
                      obtain ⟨AB3, cB3, rfl, _, _, _⟩ := hx.box.form HFA.out.all
                      have m2 := hx.six.c1
                      have HX3 := Lib.hid hx
                      clear hx m0 m1
                      go_wp2_with fail
                      refine (right_any w.heap.size W w.heap.size { s2 with base := ba, box := La } ⟨_, _, _, _, HX3.out⟩ bodies HNX.out).mono ?_
                      rintro e w5 ⟨rfl, hb5⟩
                      have hzb := hbb.size
                      go_wp2_with fail
                      go_roundw
                      case rel => exact ⟨j + 1, { s2 with base := ba, box := La }, by omega, by go_num, HNX.out, end_next HE.out HDN.out (show La.length = s.box.length - dl.length by omega), ⟨_, _, _, _, HX3.out.below hb5⟩, (HB2.out.trans hbb).trans (hb5.mono (by omega))⟩
                      case measure => simp [intOf]; omega
                  · have ed : decide (0 < dl.length) = false := decide_eq_false hd0
                    have ex : ((s2.box.length : Int) != (s2.box.length : Int) - (dl.length : Int)) = false := by simp; omega
                    go_wp2_with fail
                    refine (right_any w.heap.size wr w.heap.size s2 ⟨_, _, _, _, HS2.out⟩ bodies HI2.out).mono ?_
                    rintro e w5 ⟨rfl, hb5⟩
                    go_wp2_with fail
                    go_roundw
                    case rel => exact ⟨j + 1, s2, by omega, by go_num, HI2.out, end_next HE.out HDN.out (show s2.box.length = s.box.length - dl.length by omega), ⟨_, _, _, _, HS2.out.below hb5⟩, HB2.out.trans (hb5.mono hz2)⟩
                    case measure => simp [intOf]; omega
          · have ej : decide ((j : Int) ≤ (q : Int) + 1) = false := decide_eq_false (by omega)
            have hb0 : s.box.length = 0 := by
              rcases hE with h | h
              · exact h
              · omega
            obtain ⟨vB, vP, vT, vW, hs⟩ := hs
            obtain ⟨AB, cB, rfl, b1, b2, hbx⟩ := hs.box.form hI.fitB.all
            obtain ⟨AP, cP, rfl, _, _, _⟩ := row_form hs.ps
            obtain ⟨AT, cT, rfl, _, _, _⟩ := row_form hs.ts
            have hgl := hs.lt
            have H6 := Lib.hid hs.six
            have hsum := hI.sum
            have hbt := hI.bt
            have htl := hI.tl
            have hpl := hI.plen
            have e1 : ((s.box.length : Int) == 0) = true := beq_iff_eq.2 (by omega)
            have e2 : ((s.taken.length : Int) == (s.pushed.length : Int)) = true := beq_iff_eq.2 (by omega)
            clear hI hE hs hbx hb0 hsum
            go_wp2_with fail
            refine wp_region_f (fun dn xv W => Below wr.heap.size wr W) (fun _ _ => True) [fun v _ => v = .pointer (some ⟨w.heap.size, 0, none⟩), fun v _ => v = .pointer (some ⟨w.heap.size, 0, none⟩), fun v _ => v = .pointer (some ⟨w.heap.size, 0, none⟩), fun v _ => v = .pointer (some ⟨w.heap.size, 1, none⟩), fun v _ => v = .slice AB s.box.length cB, fun v _ => v = .int .i64 (s.box.length : Int), fun v _ => v = .bool true, fun v _ => v = .bool true, fun v _ => v = .pointer (some ⟨w.heap.size, 0, none⟩), fun v _ => v = .pointer (some ⟨w.heap.size, 0, none⟩), fun v _ => v = .pointer (some ⟨w.heap.size, 4, none⟩), fun v _ => v = .slice AT s.taken.length cT, fun v _ => v = .int .i64 (s.taken.length : Int), fun v _ => v = .pointer (some ⟨w.heap.size, 0, none⟩), fun v _ => v = .pointer (some ⟨w.heap.size, 0, none⟩), fun v _ => v = .pointer (some ⟨w.heap.size, 3, none⟩), fun v _ => v = .slice AP s.pushed.length cP, fun v _ => v = .int .i64 (s.pushed.length : Int), fun v _ => v = .bool true, fun v _ => v = .bool true, fun v _ => v = .bool true, fun v _ => v = .bool true, fun v _ => v = .bool true, fun v _ => v = .bool true] (by kernel_rfl) (by kernel_rfl) (by kernel_rfl) (by kernel_rfl) (fun xv => by simpa using (Below.refl _ wr).drew)
              (by exact ⟨fun _ _ _ _ h => h, fun _ _ _ _ h => h, fun _ _ _ _ h => h, fun _ _ _ _ h => h, fun _ _ _ _ h => h, fun _ _ _ _ h => h, fun _ _ _ _ h => h, fun _ _ _ _ h => h, fun _ _ _ _ h => h, fun _ _ _ _ h => h, fun _ _ _ _ h => h, fun _ _ _ _ h => h, fun _ _ _ _ h => h, fun _ _ _ _ h => h, fun _ _ _ _ h => h, fun _ _ _ _ h => h, fun _ _ _ _ h => h, fun _ _ _ _ h => h, fun _ _ _ _ h => h, fun _ _ _ _ h => h, fun _ _ _ _ h => h, fun _ _ _ _ h => h, fun _ _ _ _ h => h, fun _ _ _ _ h => h, trivial⟩) ?_ ?_
            · refine EachF.cons 1 rfl (fun dn xv W F hF hd hN hX hI H K hK => ?_) ?_
              · have f5 : F.tmps.getD 5 undef = .pointer (some ⟨w.heap.size, 0, none⟩) := (hF 5).trans (by kernel_rfl)
                clear H hN hd hX hF
                refine on_plain rfl ?_
                go_simp
                exact hK.out _ _ rfl trivial (by simpa [upB, upd] using hI)
              refine EachF.cons 2 rfl (fun dn xv W F hF hd hN hX hI H K hK => ?_) ?_
              · have h0 : xv 0 = .pointer (some ⟨w.heap.size, 0, none⟩) := (H 0 (.edge (by kernel_rfl))).2
                have f105 : F.tmps.getD 105 undef = .pointer (some ⟨w.heap.size, 0, none⟩) := (hF 105).trans (Eq.trans (by kernel_rfl) h0)
                clear H hN hd hX hF
                refine on_plain rfl ?_
                go_simp
                exact hK.out _ _ rfl trivial (by simpa [upB, upd] using hI)
              refine EachF.cons 3 rfl (fun dn xv W F hF hd hN hX hI H K hK => ?_) ?_
              · have h1 : xv 1 = .pointer (some ⟨w.heap.size, 0, none⟩) := (H 1 (.edge (by kernel_rfl))).2
                have f106 : F.tmps.getD 106 undef = .pointer (some ⟨w.heap.size, 0, none⟩) := (hF 106).trans (Eq.trans (by kernel_rfl) h1)
                clear H hN hd hX hF
                refine on_plain rfl ?_
                go_simp
                exact hK.out _ _ rfl trivial (by simpa [upB, upd] using hI)
              refine EachF.cons 4 rfl (fun dn xv W F hF hd hN hX hI H K hK => ?_) ?_
              · have h2 : xv 2 = .pointer (some ⟨w.heap.size, 0, none⟩) := (H 2 (.edge (by kernel_rfl))).2
                have f107 : F.tmps.getD 107 undef = .pointer (some ⟨w.heap.size, 0, none⟩) := (hF 107).trans (Eq.trans (by kernel_rfl) h2)
                clear H hN hd hX hF
                refine on_plain rfl ?_
                go_simp
                exact hK.out _ _ rfl trivial (by simpa [upB, upd] using hI)
              refine EachF.cons 5 rfl (fun dn xv W F hF hd hN hX hI H K hK => ?_) ?_
              · have h3 : xv 3 = .pointer (some ⟨w.heap.size, 1, none⟩) := (H 3 (.edge (by kernel_rfl))).2
                have f108 : F.tmps.getD 108 undef = .pointer (some ⟨w.heap.size, 1, none⟩) := (hF 108).trans (Eq.trans (by kernel_rfl) h3)
                have hb0 := hI
                have hc4 := (H6.out.below hb0 hgl).c1
                clear H hN hd hX hF
                refine on_plain rfl ?_
                go_simp
                exact hK.out _ _ rfl trivial (by simpa [upB, upd] using hI)
              refine EachF.cons 6 rfl (fun dn xv W F hF hd hN hX hI H K hK => ?_) ?_
              · have h4 : xv 4 = .slice AB s.box.length cB := (H 4 (.edge (by kernel_rfl))).2
                have f109 : F.tmps.getD 109 undef = .slice AB s.box.length cB := (hF 109).trans (Eq.trans (by kernel_rfl) h4)
                clear H hN hd hX hF
                refine on_plain rfl ?_
                go_simp
                exact hK.out _ _ rfl trivial (by simpa [upB, upd] using hI)
              refine EachF.cons 7 rfl (fun dn xv W F hF hd hN hX hI H K hK => ?_) ?_
              · have h5 : xv 5 = .int .i64 (s.box.length : Int) := (H 5 (.edge (by kernel_rfl))).2
                have f110 : F.tmps.getD 110 undef = .int .i64 (s.box.length : Int) := (hF 110).trans (Eq.trans (by kernel_rfl) h5)
                clear H hN hd hX hF
                refine on_plain rfl ?_
                go_simp
                exact hK.out _ _ rfl trivial (by simpa [upB, upd] using hI)
              refine EachF.cons 8 rfl (fun dn xv W F hF hd hN hX hI H K hK => ?_) ?_
              · have h6 : xv 6 = .bool true := (H 6 (.edge (by kernel_rfl))).2
                have f111 : F.tmps.getD 111 undef = .bool true := (hF 111).trans (Eq.trans (by kernel_rfl) h6)
                clear H hN hd hX hF
                refine on_plain rfl ?_
                go_simp
                exact hK.out _ _ rfl trivial (by simpa [upB, upd] using hI)
              refine EachF.cons 9 rfl (fun dn xv W F hF hd hN hX hI H K hK => ?_) ?_
              · have f5 : F.tmps.getD 5 undef = .pointer (some ⟨w.heap.size, 0, none⟩) := (hF 5).trans (by kernel_rfl)
                have h7 : xv 7 = .bool true := (H 7 (.edge (by kernel_rfl))).2
                have f112 : F.tmps.getD 112 undef = .bool true := (hF 112).trans (Eq.trans (by kernel_rfl) h7)
                clear H hN hd hX hF
                refine on_guard rfl (by kernel_rfl) f112 ?_
                go_simp
                exact hK.out _ _ rfl trivial (by simpa [upB, upd] using hI)
              refine EachF.cons 10 rfl (fun dn xv W F hF hd hN hX hI H K hK => ?_) ?_
              · have h8 : xv 8 = .pointer (some ⟨w.heap.size, 0, none⟩) := (H 8 (.edge (by kernel_rfl))).2
                have f113 : F.tmps.getD 113 undef = .pointer (some ⟨w.heap.size, 0, none⟩) := (hF 113).trans (Eq.trans (by kernel_rfl) h8)
                have h7 : xv 7 = .bool true := (H 7 (.edge (by kernel_rfl))).2
                have f112 : F.tmps.getD 112 undef = .bool true := (hF 112).trans (Eq.trans (by kernel_rfl) h7)
                clear H hN hd hX hF
                refine on_guard rfl (by kernel_rfl) f112 ?_
                go_simp
                exact hK.out _ _ rfl trivial (by simpa [upB, upd] using hI)
              refine EachF.cons 11 rfl (fun dn xv W F hF hd hN hX hI H K hK => ?_) ?_
              · have h9 : xv 9 = .pointer (some ⟨w.heap.size, 0, none⟩) := (H 9 (.edge (by kernel_rfl))).2
                have f114 : F.tmps.getD 114 undef = .pointer (some ⟨w.heap.size, 0, none⟩) := (hF 114).trans (Eq.trans (by kernel_rfl) h9)
                have h7 : xv 7 = .bool true := (H 7 (.edge (by kernel_rfl))).2
                have f112 : F.tmps.getD 112 undef = .bool true := (hF 112).trans (Eq.trans (by kernel_rfl) h7)
                clear H hN hd hX hF
                refine on_guard rfl (by kernel_rfl) f112 ?_
                go_simp
                exact hK.out _ _ rfl trivial (by simpa [upB, upd] using hI)
              refine EachF.cons 12 rfl (fun dn xv W F hF hd hN hX hI H K hK => ?_) ?_
              · have h10 : xv 10 = .pointer (some ⟨w.heap.size, 4, none⟩) := (H 10 (.edge (by kernel_rfl))).2
                have f115 : F.tmps.getD 115 undef = .pointer (some ⟨w.heap.size, 4, none⟩) := (hF 115).trans (Eq.trans (by kernel_rfl) h10)
                have h7 : xv 7 = .bool true := (H 7 (.edge (by kernel_rfl))).2
                have f112 : F.tmps.getD 112 undef = .bool true := (hF 112).trans (Eq.trans (by kernel_rfl) h7)
                have hb0 := hI
                have hc4 := (H6.out.below hb0 hgl).c4
                clear H hN hd hX hF
                refine on_guard rfl (by kernel_rfl) f112 ?_
                go_simp
                exact hK.out _ _ rfl trivial (by simpa [upB, upd] using hI)
              refine EachF.cons 13 rfl (fun dn xv W F hF hd hN hX hI H K hK => ?_) ?_
              · have h11 : xv 11 = .slice AT s.taken.length cT := (H 11 (.edge (by kernel_rfl))).2
                have f116 : F.tmps.getD 116 undef = .slice AT s.taken.length cT := (hF 116).trans (Eq.trans (by kernel_rfl) h11)
                have h7 : xv 7 = .bool true := (H 7 (.edge (by kernel_rfl))).2
                have f112 : F.tmps.getD 112 undef = .bool true := (hF 112).trans (Eq.trans (by kernel_rfl) h7)
                clear H hN hd hX hF
                refine on_guard rfl (by kernel_rfl) f112 ?_
                go_simp
                exact hK.out _ _ rfl trivial (by simpa [upB, upd] using hI)
              refine EachF.cons 14 rfl (fun dn xv W F hF hd hN hX hI H K hK => ?_) ?_
              · have f5 : F.tmps.getD 5 undef = .pointer (some ⟨w.heap.size, 0, none⟩) := (hF 5).trans (by kernel_rfl)
                have h7 : xv 7 = .bool true := (H 7 (.edge (by kernel_rfl))).2
                have f112 : F.tmps.getD 112 undef = .bool true := (hF 112).trans (Eq.trans (by kernel_rfl) h7)
                clear H hN hd hX hF
                refine on_guard rfl (by kernel_rfl) f112 ?_
                go_simp
                exact hK.out _ _ rfl trivial (by simpa [upB, upd] using hI)
              refine EachF.cons 15 rfl (fun dn xv W F hF hd hN hX hI H K hK => ?_) ?_
              · have h13 : xv 13 = .pointer (some ⟨w.heap.size, 0, none⟩) := (H 13 (.edge (by kernel_rfl))).2
                have f118 : F.tmps.getD 118 undef = .pointer (some ⟨w.heap.size, 0, none⟩) := (hF 118).trans (Eq.trans (by kernel_rfl) h13)
                have h7 : xv 7 = .bool true := (H 7 (.edge (by kernel_rfl))).2
                have f112 : F.tmps.getD 112 undef = .bool true := (hF 112).trans (Eq.trans (by kernel_rfl) h7)
                clear H hN hd hX hF
                refine on_guard rfl (by kernel_rfl) f112 ?_
                go_simp
                exact hK.out _ _ rfl trivial (by simpa [upB, upd] using hI)
              refine EachF.cons 16 rfl (fun dn xv W F hF hd hN hX hI H K hK => ?_) ?_
              · have h14 : xv 14 = .pointer (some ⟨w.heap.size, 0, none⟩) := (H 14 (.edge (by kernel_rfl))).2
                have f119 : F.tmps.getD 119 undef = .pointer (some ⟨w.heap.size, 0, none⟩) := (hF 119).trans (Eq.trans (by kernel_rfl) h14)
                have h7 : xv 7 = .bool true := (H 7 (.edge (by kernel_rfl))).2
                have f112 : F.tmps.getD 112 undef = .bool true := (hF 112).trans (Eq.trans (by kernel_rfl) h7)
                clear H hN hd hX hF
                refine on_guard rfl (by kernel_rfl) f112 ?_
                go_simp
                exact hK.out _ _ rfl trivial (by simpa [upB, upd] using hI)
              refine EachF.cons 17 rfl (fun dn xv W F hF hd hN hX hI H K hK => ?_) ?_
              · have h15 : xv 15 = .pointer (some ⟨w.heap.size, 3, none⟩) := (H 15 (.edge (by kernel_rfl))).2
                have f120 : F.tmps.getD 120 undef = .pointer (some ⟨w.heap.size, 3, none⟩) := (hF 120).trans (Eq.trans (by kernel_rfl) h15)
                have h7 : xv 7 = .bool true := (H 7 (.edge (by kernel_rfl))).2
                have f112 : F.tmps.getD 112 undef = .bool true := (hF 112).trans (Eq.trans (by kernel_rfl) h7)
                have hb0 := hI
                have hc4 := (H6.out.below hb0 hgl).c3
                clear H hN hd hX hF
                refine on_guard rfl (by kernel_rfl) f112 ?_
                go_simp
                exact hK.out _ _ rfl trivial (by simpa [upB, upd] using hI)
              refine EachF.cons 18 rfl (fun dn xv W F hF hd hN hX hI H K hK => ?_) ?_
              · have h16 : xv 16 = .slice AP s.pushed.length cP := (H 16 (.edge (by kernel_rfl))).2
                have f121 : F.tmps.getD 121 undef = .slice AP s.pushed.length cP := (hF 121).trans (Eq.trans (by kernel_rfl) h16)
                have h7 : xv 7 = .bool true := (H 7 (.edge (by kernel_rfl))).2
                have f112 : F.tmps.getD 112 undef = .bool true := (hF 112).trans (Eq.trans (by kernel_rfl) h7)
                clear H hN hd hX hF
                refine on_guard rfl (by kernel_rfl) f112 ?_
                go_simp
                exact hK.out _ _ rfl trivial (by simpa [upB, upd] using hI)
              refine EachF.cons 19 rfl (fun dn xv W F hF hd hN hX hI H K hK => ?_) ?_
              · have h12 : xv 12 = .int .i64 (s.taken.length : Int) := (H 12 (.edge (by kernel_rfl))).2
                have f117 : F.tmps.getD 117 undef = .int .i64 (s.taken.length : Int) := (hF 117).trans (Eq.trans (by kernel_rfl) h12)
                have h17 : xv 17 = .int .i64 (s.pushed.length : Int) := (H 17 (.edge (by kernel_rfl))).2
                have f122 : F.tmps.getD 122 undef = .int .i64 (s.pushed.length : Int) := (hF 122).trans (Eq.trans (by kernel_rfl) h17)
                have h7 : xv 7 = .bool true := (H 7 (.edge (by kernel_rfl))).2
                have f112 : F.tmps.getD 112 undef = .bool true := (hF 112).trans (Eq.trans (by kernel_rfl) h7)
                clear H hN hd hX hF
                refine on_guard rfl (by kernel_rfl) f112 ?_
                go_simp
                exact hK.out _ _ rfl trivial (by simpa [upB, upd] using hI)
              refine EachF.cons 20 rfl (fun dn xv W F hF hd hN hX hI H K hK => ?_) ?_
              · have h7 : xv 7 = .bool true := (H 7 (.edge (by kernel_rfl))).2
                have f112 : F.tmps.getD 112 undef = .bool true := (hF 112).trans (Eq.trans (by kernel_rfl) h7)
                have h18 : xv 18 = .bool true := (H 18 (.edge (by kernel_rfl))).2
                have f123 : F.tmps.getD 123 undef = .bool true := (hF 123).trans (Eq.trans (by kernel_rfl) h18)
                clear H hN hd hX hF
                refine on_plain rfl ?_
                go_simp
                exact hK.out _ _ rfl trivial (by simpa [upB, upd] using hI)
              refine EachF.cons 21 rfl (fun dn xv W F hF hd hN hX hI H K hK => ?_) ?_
              · have h19 : xv 19 = .bool true := (H 19 (.edge (by kernel_rfl))).2
                have f124 : F.tmps.getD 124 undef = .bool true := (hF 124).trans (Eq.trans (by kernel_rfl) h19)
                clear H hN hd hX hF
                refine on_plain rfl ?_
                go_simp
                exact hK.out _ _ rfl trivial (by simpa [upB, upd] using hI)
              refine EachF.cons 22 rfl (fun dn xv W F hF hd hN hX hI H K hK => ?_) ?_
              · have h20 : xv 20 = .bool true := (H 20 (.edge (by kernel_rfl))).2
                have f125 : F.tmps.getD 125 undef = .bool true := (hF 125).trans (Eq.trans (by kernel_rfl) h20)
                clear H hN hd hX hF
                refine on_guard rfl (by kernel_rfl) f125 ?_
                go_simp
                refine (awake_any W).mono ?_
                rintro e W' ⟨rfl, hbb⟩
                exact hK.out _ W' rfl trivial (by simpa [upB, upd] using hI.trans (hbb.mono hI.size))
              refine EachF.cons 23 rfl (fun dn xv W F hF hd hN hX hI H K hK => ?_) ?_
              · have h20 : xv 20 = .bool true := (H 20 (.edge (by kernel_rfl))).2
                have f125 : F.tmps.getD 125 undef = .bool true := (hF 125).trans (Eq.trans (by kernel_rfl) h20)
                have h21 : xv 21 = .bool true := (H 21 (.edge (by kernel_rfl))).2
                have f126 : F.tmps.getD 126 undef = .bool true := (hF 126).trans (Eq.trans (by kernel_rfl) h21)
                clear H hN hd hX hF
                refine on_plain rfl ?_
                go_simp
                exact hK.out _ _ rfl trivial (by simpa [upB, upd] using hI)
              refine EachF.cons 24 rfl (fun dn xv W F hF hd hN hX hI H K hK => ?_) ?_
              · have h22 : xv 22 = .bool true := (H 22 (.edge (by kernel_rfl))).2
                have f127 : F.tmps.getD 127 undef = .bool true := (hF 127).trans (Eq.trans (by kernel_rfl) h22)
                clear H hN hd hX hF
                refine on_plain rfl ?_
                go_simp
                exact hK.out _ _ rfl trivial (by simpa [upB, upd] using hI)
              exact EachF.nil
            · intro dn xv W hI H
              have q23 : xv 23 = .bool true := (H 23 (of_decide_eq_true (by kernel_rfl))).2
              have hS : Below wr.heap.size wr W := hI
              clear H hI
              simp only [putAll, Act.put, List.setIfInBounds_toArray, List.set_cons_zero, List.set_cons_succ, Nat.reduceAdd, q23]
              clear q23
              go_wp2_with fail
              go_ret
              exact ⟨rfl, HB.out.trans (hS.mono hz)⟩
  · go_wp2_with fail
    refine (awake_any w).mono ?_
    rintro e w2 ⟨rfl, hb2⟩
    go_wp2_with fail
    go_ret
    exact ⟨rfl, hb2⟩
end Go.Proofs.Ytmjlehofjholaaa
