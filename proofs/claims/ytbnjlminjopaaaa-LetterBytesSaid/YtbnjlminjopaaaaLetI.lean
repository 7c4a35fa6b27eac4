/- The walks of the document's writers of a view's name and of a letter. -/
import Derived.Test.YtbnjlminjopaaaaLetF
import Derived.Test.YtbnjlminjopaaaaRgF
namespace Go.Proofs.Ytbnjlminjopaaaa
open Go Go.RowKit
set_option linter.unusedVariables false
set_option maxRecDepth 100000
set_option linter.unusedSimpArgs false

/-- where a region stands that writes something, then a life behind it -/
def AI (w : World) (L1 L2 : List UInt8) (node inc : Nat) (da : Bool) (va : Value) (db : Bool) (vb : Value) (dc : Bool) (vc : Value) (dd : Bool) (vd : Value) (de : Bool) (ve : Value) (W : World) : Prop :=
  Below w.heap.size w W ∧ (dd = true → Own W w.heap.size vd (L1 ++ L2) ∧ (de = true → ve = vd)) ∧
  (dd = false → (da = true → Own W w.heap.size va L1) ∧
    (db = true → ∃ b, vb = .slice (some ⟨b, 0, none⟩) 1 1 ∧ W.cell? ⟨b, 0, none⟩ = some (.int .i64 (node : Int)) ∧ W.cell? ⟨b, 1, none⟩ = some (.int .u64 (inc : Int))) ∧
    (dc = true → ∃ A c, vc = .slice A L2.length c ∧ Has W W.heap.size A (us L2)))
section
variable {w W W' : World} {L1 L2 : List UInt8} {node inc : Nat} {da db dc de : Bool} {va vb vc vd ve v : Value}
theorem AI.start (w : World) : AI w L1 L2 node inc false va false vb false vc false vd de ve w.drew :=
  ⟨(Below.refl _ w).drew, fun h => (by cases h), fun _ => ⟨fun h => (by cases h), fun h => (by cases h), fun h => (by cases h)⟩⟩
theorem AI.grow (h : AI w L1 L2 node inc da va db vb dc vc false vd de ve W) (hb : Below W.heap.size W W') : AI w L1 L2 node inc da va db vb dc vc false vd de ve W' := by
  obtain ⟨h1, _, h3⟩ := h
  obtain ⟨ha, hbb, hc⟩ := h3 rfl
  refine ⟨h1.trans (hb.mono h1.size), fun h => (by cases h), fun _ => ⟨fun e => own_below (ha e) hb (Nat.le_refl _), fun e => ?_, fun e => ?_⟩⟩
  · obtain ⟨b, e1, e2, e3⟩ := hbb e
    have hlt := World.block_lt_of_cell? W _ e2
    exact ⟨b, e1, (hb.cell (p := ⟨b, 0, none⟩) hlt).trans e2, (hb.cell (p := ⟨b, 1, none⟩) hlt).trans e3⟩
  · obtain ⟨A, c, e1, e2⟩ := hc e
    exact ⟨A, c, e1, (e2.below hb).more hb.size⟩
theorem AI.a (h : AI w L1 L2 node inc da va db vb dc vc false vd de ve W) (ho : Own W w.heap.size v L1) : AI w L1 L2 node inc true v db vb dc vc false vd de ve W :=
  ⟨h.1, h.2.1, fun e => ⟨fun _ => ho, (h.2.2 e).2⟩⟩
theorem AI.b (h : AI w L1 L2 node inc da va db vb dc vc false vd de ve W) (ho : ∃ b, v = .slice (some ⟨b, 0, none⟩) 1 1 ∧ W.cell? ⟨b, 0, none⟩ = some (.int .i64 (node : Int)) ∧ W.cell? ⟨b, 1, none⟩ = some (.int .u64 (inc : Int))) : AI w L1 L2 node inc da va true v dc vc false vd de ve W :=
  ⟨h.1, h.2.1, fun e => ⟨(h.2.2 e).1, fun _ => ho, (h.2.2 e).2.2⟩⟩
theorem AI.c (h : AI w L1 L2 node inc da va db vb dc vc false vd de ve W) (ho : ∃ A c, v = .slice A L2.length c ∧ Has W W.heap.size A (us L2)) : AI w L1 L2 node inc da va db vb true v false vd de ve W :=
  ⟨h.1, h.2.1, fun e => ⟨(h.2.2 e).1, (h.2.2 e).2.1, fun _ => ho⟩⟩
theorem AI.d (h : Below w.heap.size w W) (ho : Own W w.heap.size v (L1 ++ L2)) : AI w L1 L2 node inc da va db vb dc vc true v false ve W :=
  ⟨h, fun _ => ⟨ho, fun h => (by cases h)⟩, fun h => (by cases h)⟩
theorem AI.e (h : AI w L1 L2 node inc da va db vb dc vc true vd de ve W) : AI w L1 L2 node inc da va db vb dc vc true vd true vd W :=
  ⟨h.1, fun e => ⟨(h.2.1 e).1, fun _ => rfl⟩, fun h => (by cases h)⟩
end

set_option maxHeartbeats 1600000 in
theorem id4_any (w : World) (round node inc : Nat) (hr : round < 18446744073709551616) (hn : node < 256) (hx : inc < 18446744073709551616) :
    Calls Try.prog 37 #[.agg #[.int .u64 (round : Int), .int .i64 (node : Int), .int .u64 (inc : Int)]] w fun e w' => ∃ v, e = .returned v ∧ Own w' w.heap.size v (Code.short round ++ UInt8.ofNat node :: Code.short inc) ∧ Below w.heap.size w w' := by
  have HR := Lib.hid hr
  have HN := Lib.hid hn
  have HX := Lib.hid hx
  clear hr hn hx
  have hq1 := (Code.short_length round).2
  have hq2 := (Code.short_length inc).2
  obtain ⟨L1, HL1⟩ : ∃ L, Hid (Code.short round = L) := ⟨_, Lib.hid rfl⟩
  obtain ⟨L2, HL2⟩ : ∃ L, Hid (UInt8.ofNat node :: Code.short inc = L) := ⟨_, Lib.hid rfl⟩
  have HLL : Hid (L1.length + L2.length ≤ 100000000000000) := Lib.hid (by rw [← HL1.out, ← HL2.out, List.length_cons]; omega)
  have HU3 := Lib.hid (u3_any)
  have HB3 := Lib.hid (fun (W : World) (b : Nat) c0 c1 => b3_any W b 0 node inc HN.out HX.out c0 c1)
  have HU4 := Lib.hid (fun (W : World) => HU3.out W round HR.out)
  rw [HL1.out] at HU4 ⊢
  rw [HL2.out] at HB3 ⊢
  clear hq1 hq2
  go_enter Try.func37, Try.ntmps37
  go_wp2_with fail
  obtain ⟨w1, HW1⟩ : ∃ x, Hid (w.alloc (.cells #[.int .u64 (round : Int), .int .i64 (node : Int), .int .u64 (inc : Int)] 26) = x) := ⟨_, Lib.hid rfl⟩
  have HG : Hid (w.heap.size < w1.heap.size) := Lib.hid (by rw [← HW1.out]; simp)
  have HC0 : Hid (w1.cell? ⟨w.heap.size, 0, none⟩ = some (.int .u64 (round : Int))) := Lib.hid (by rw [← HW1.out]; simp [go_sem])
  have HC1 : Hid (w1.cell? ⟨w.heap.size, 1, none⟩ = some (.int .i64 (node : Int))) := Lib.hid (by rw [← HW1.out]; simp [go_sem])
  have HC2 : Hid (w1.cell? ⟨w.heap.size, 2, none⟩ = some (.int .u64 (inc : Int))) := Lib.hid (by rw [← HW1.out]; simp [go_sem])
  have HBW : Hid (Below w.heap.size w w1) := Lib.hid (by rw [← HW1.out]; exact below_box _)
  rw [HW1.out]
  refine wp_region_f (fun dn xv W => AI w1 L1 L2 node inc (dn 2) (xv 2) (dn 5) (xv 5) (dn 6) (xv 6) (dn 7) (xv 7) (dn 8) (xv 8) W) (fun _ _ => True) [fun v _ => v = .pointer (some ⟨w.heap.size, 0, none⟩), fun v _ => v = .int .u64 (round : Int), fun v _ => True, fun v _ => v = .pointer (some ⟨w.heap.size, 1, none⟩), fun v _ => v = .agg #[.int .i64 (node : Int), .int .u64 (inc : Int)], fun v _ => True, fun v _ => True, fun v _ => True, fun v _ => True] (by kernel_rfl) (by kernel_rfl) (by kernel_rfl) (by kernel_rfl) (fun xv => by simpa using (AI.start w1 : AI w1 L1 L2 node inc false _ false _ false _ false _ false _ w1.drew))
    (by exact ⟨fun _ _ _ _ h => h, fun _ _ _ _ h => h, fun _ _ _ _ h => h, fun _ _ _ _ h => h, fun _ _ _ _ h => h, fun _ _ _ _ h => h, fun _ _ _ _ h => h, fun _ _ _ _ h => h, fun _ _ _ _ h => h, trivial⟩) ?_ ?_
  · refine EachF.cons 1 rfl (fun dn xv W F hF hd hN hX hI H K hK => ?_) ?_
    · have f1 : F.tmps.getD 1 undef = .pointer (some ⟨w.heap.size, 0, none⟩) := (hF 1).trans (by kernel_rfl)
      clear H hN hd hX hF
      refine on_plain rfl ?_
      go_simp
      exact hK.out _ _ rfl trivial (by simpa [upB, upd] using hI)
    refine EachF.cons 2 rfl (fun dn xv W F hF hd hN hX hI H K hK => ?_) ?_
    · have h0 : xv 0 = .pointer (some ⟨w.heap.size, 0, none⟩) := (H 0 (.edge (by kernel_rfl))).2
      have f3 : F.tmps.getD 3 undef = .pointer (some ⟨w.heap.size, 0, none⟩) := (hF 3).trans (Eq.trans (by kernel_rfl) h0)
      have k0 := (hI.1.cell (p := ⟨w.heap.size, 0, none⟩) HG.out).trans HC0.out
      clear H hN hd hX hF
      refine on_plain rfl ?_
      go_simp
      exact hK.out _ _ rfl trivial (by simpa [upB, upd] using hI)
    refine EachF.cons 3 rfl (fun dn xv W F hF hd hN hX hI H K hK => ?_) ?_
    · have h1 : xv 1 = .int .u64 (round : Int) := (H 1 (.edge (by kernel_rfl))).2
      have f4 : F.tmps.getD 4 undef = .int .u64 (round : Int) := (hF 4).trans (Eq.trans (by kernel_rfl) h1)
      have qd : dn 7 = false := hN 7 (.edge (by kernel_rfl))
      rw [qd] at hI
      clear H hN hd hX hF
      refine on_plain rfl ?_
      go_simp
      refine (HU4.out W).mono ?_
      rintro e W' ⟨v, rfl, ho, hb⟩
      have hs0 := (hI.grow hb).a (own_mono ho hI.1.size)
      have hs : AI w1 L1 L2 node inc true v (dn 5) (xv 5) (dn 6) (xv 6) false (xv 7) (dn 8) (xv 8) W' := hs0
      exact hK.out _ _ trivial trivial (by simpa [upB, upd, qd] using hs)
    refine EachF.cons 4 rfl (fun dn xv W F hF hd hN hX hI H K hK => ?_) ?_
    · have f1 : F.tmps.getD 1 undef = .pointer (some ⟨w.heap.size, 0, none⟩) := (hF 1).trans (by kernel_rfl)
      clear H hN hd hX hF
      refine on_plain rfl ?_
      go_simp
      exact hK.out _ _ rfl trivial (by simpa [upB, upd] using hI)
    refine EachF.cons 5 rfl (fun dn xv W F hF hd hN hX hI H K hK => ?_) ?_
    · have h3 : xv 3 = .pointer (some ⟨w.heap.size, 1, none⟩) := (H 3 (.edge (by kernel_rfl))).2
      have f6 : F.tmps.getD 6 undef = .pointer (some ⟨w.heap.size, 1, none⟩) := (hF 6).trans (Eq.trans (by kernel_rfl) h3)
      have k1 := (hI.1.cell (p := ⟨w.heap.size, 1, none⟩) HG.out).trans HC1.out
      have k2 := (hI.1.cell (p := ⟨w.heap.size, 2, none⟩) HG.out).trans HC2.out
      clear H hN hd hX hF
      refine on_plain rfl ?_
      go_simp
      exact hK.out _ _ rfl trivial (by simpa [upB, upd] using hI)
    refine EachF.cons 6 rfl (fun dn xv W F hF hd hN hX hI H K hK => ?_) ?_
    · have h4 : xv 4 = .agg #[.int .i64 (node : Int), .int .u64 (inc : Int)] := (H 4 (.edge (by kernel_rfl))).2
      have f7 : F.tmps.getD 7 undef = .agg #[.int .i64 (node : Int), .int .u64 (inc : Int)] := (hF 7).trans (Eq.trans (by kernel_rfl) h4)
      have qd : dn 7 = false := hN 7 (.more (j := 6) (by kernel_rfl) (.edge (by kernel_rfl)))
      rw [qd] at hI
      clear H hN hd hX hF
      refine on_plain rfl ?_
      have g7 : F.tmps[7]?.getD undef = F.tmps.getD 7 undef := by simp [Array.getD_eq_getD_getElem?]
      rw [f7] at g7
      go_simp
      have hb : Below W.heap.size W (W.alloc (.cells #[.int .i64 (node : Int), .int .u64 (inc : Int)] 24)) := (Below.refl _ _).alloc (Nat.le_refl _) _
      have hs : AI w1 L1 L2 node inc (dn 2) (xv 2) true (.slice (some ⟨W.heap.size, 0, none⟩) 1 1) (dn 6) (xv 6) false (xv 7) (dn 8) (xv 8) (W.alloc (.cells #[.int .i64 (node : Int), .int .u64 (inc : Int)] 24)) := (hI.grow hb).b ⟨_, rfl, by simp [go_sem], by simp [go_sem]⟩
      exact hK.out _ _ trivial trivial (by simpa [upB, upd, qd] using hs)
    refine EachF.cons 7 rfl (fun dn xv W F hF hd hN hX hI H K hK => ?_) ?_
    · have h5 := (H 5 (.edge (by kernel_rfl))).2
      simp only [Dl] at h5
      have f8 : F.tmps.getD 8 undef = xv 5 := (hF 8).trans (by kernel_rfl)
      have qd : dn 7 = false := hN 7 (.edge (by kernel_rfl))
      rw [qd] at hI
      have qb : dn 5 = true := (H 5 (.edge (by kernel_rfl))).1
      obtain ⟨b3, e3, cc0, cc1⟩ := (hI.2.2 rfl).2.1 qb
      have f8x : F.tmps.getD 8 undef = .slice (some ⟨b3, 0, none⟩) 1 1 := (hF 8).trans (Eq.trans (by kernel_rfl) e3)
      clear H hN hd hX hF
      refine on_plain rfl ?_
      clear f8 h5
      go_simp
      refine (HB3.out W b3 cc0 cc1).mono ?_
      rintro e W' ⟨v, rfl, ho, hb⟩
      obtain ⟨A9, c9, rfl, _, _, h9⟩ := ho.form
      have hs : AI w1 L1 L2 node inc (dn 2) (xv 2) (dn 5) (xv 5) true (.slice A9 L2.length c9) false (xv 7) (dn 8) (xv 8) W' := (hI.grow hb).c ⟨_, _, rfl, h9⟩
      exact hK.out _ W' trivial trivial (by simpa [upB, upd, qd] using hs)
    refine EachF.cons 8 rfl (fun dn xv W F hF hd hN hX hI H K hK => ?_) ?_
    · have h2 := (H 2 (.edge (by kernel_rfl))).2
      simp only [Dl] at h2
      have f5 : F.tmps.getD 5 undef = xv 2 := (hF 5).trans (by kernel_rfl)
      have h6 := (H 6 (.edge (by kernel_rfl))).2
      simp only [Dl] at h6
      have f9 : F.tmps.getD 9 undef = xv 6 := (hF 9).trans (by kernel_rfl)
      have qe : dn 8 = false := hN 8 (.edge (by kernel_rfl))
      have qa : dn 2 = true := (H 2 (.edge (by kernel_rfl))).1
      have qc : dn 6 = true := (H 6 (.edge (by kernel_rfl))).1
      rw [hd] at hI
      obtain ⟨A9, c9, e9, h9⟩ := (hI.2.2 rfl).2.2 qc
      have ho := (hI.2.2 rfl).1 qa
      have hbl := hI.1
      have f9x : F.tmps.getD 9 undef = .slice A9 L2.length c9 := (hF 9).trans (Eq.trans (by kernel_rfl) e9)
      clear hI
      clear H hN hd hX hF
      refine on_plain rfl ?_
      refine op_app (s := .tmp 5) (x := .tmp 9) (base := w1.heap.size) (l := L1) (m := L2) (by rfl) f5 f9x ho h9 HLL.out hbl.size ?_
      intro v W' ho' hb' _ _
      have hs : AI w1 L1 L2 node inc (dn 2) (xv 2) (dn 5) (xv 5) (dn 6) (xv 6) true v false (xv 8) W' := AI.d (hbl.trans hb') ho'
      exact hK.out v W' trivial trivial (by simpa [upB, upd, qe] using hs)
    refine EachF.cons 9 rfl (fun dn xv W F hF hd hN hX hI H K hK => ?_) ?_
    · have h7 := (H 7 (.edge (by kernel_rfl))).2
      simp only [Dl] at h7
      have f10 : F.tmps.getD 10 undef = xv 7 := (hF 10).trans (by kernel_rfl)
      have qd : dn 7 = true := (H 7 (.edge (by kernel_rfl))).1
      rw [qd] at hI
      have hI2 := hI.e
      clear hI
      clear H hN hd hX hF
      refine on_plain rfl ?_
      go_simp
      have hs : AI w1 L1 L2 node inc (dn 2) (xv 2) (dn 5) (xv 5) (dn 6) (xv 6) true (xv 7) true (xv 7) W := hI2
      exact hK.out _ W trivial trivial (by simpa [upB, upd, qd] using hs)
    exact EachF.nil
  · intro dn xv W hI H
    have q8 := (H 8 (of_decide_eq_true (by kernel_rfl))).2
    simp only [Dl] at q8
    have hS : AI w1 L1 L2 node inc (dn 2) (xv 2) (dn 5) (xv 5) (dn 6) (xv 6) (dn 7) (xv 7) (dn 8) (xv 8) W := hI
    have p7 := (H 7 (of_decide_eq_true (by kernel_rfl))).1
    have p8 := (H 8 (of_decide_eq_true (by kernel_rfl))).1
    have hO : Own W w.heap.size (xv 8) (L1 ++ L2) := by
      have h := (hS.2.1 p7)
      rw [h.2 p8]
      exact own_mono h.1 (Nat.le_of_lt HG.out)
    have hB : Below w.heap.size w W := HBW.out.trans (hS.1.mono (Nat.le_of_lt HG.out))
    clear hS p7 p8
    clear H hI
    simp only [putAll, Act.put, List.setIfInBounds_toArray, List.set_cons_zero, List.set_cons_succ, Nat.reduceAdd]
    go_wp2_with fail
    go_ret
    exact ⟨_, rfl, hO, hB⟩
set_option maxHeartbeats 3200000 in
theorem refB10_core (w : World) (kn node inc round sn sinc n : Nat) (body : List UInt8) (cid : Nat) (cut : List Nat) (want : Bool) (A E : Option Addr) (c d : Nat) (hA : Has w w.heap.size A (us body)) (hE : Has w w.heap.size E (u64s cut)) (hk : kn < 256) (hn : node < 256) (hx : inc < 18446744073709551616) (hr : round < 18446744073709551616) (hsn : sn < 256) (hsx : sinc < 18446744073709551616) (hcid : cid < 18446744073709551616)
    (hkk : (kn = 7 ∧ n < 256 ∧ body.length ≤ 64) ∨ ((kn = 8 ∨ kn = 9) ∧ cut.length ≤ 6 ∧ ∀ y ∈ cut, y < 256)) :
    Calls Try.prog 17 #[.agg #[.int .i64 (kn : Int), .int .i64 (node : Int), .int .u64 (inc : Int), .int .u64 (round : Int), .int .i64 (sn : Int), .int .u64 (sinc : Int), .int .u64 (n : Int), .slice A body.length c, .int .u64 (cid : Int), .slice E cut.length d, .bool want]] w fun e w' => ∃ v, e = .returned v ∧ Own w' w.heap.size v (Lt.mk kn node inc round sn sinc n body cid cut want).plain ∧ Below w.heap.size w w' := by
  have HA := Lib.hid hA
  have HE := Lib.hid hE
  have HKN := Lib.hid hk
  have HN := Lib.hid hn
  have HX := Lib.hid hx
  have HR := Lib.hid hr
  have HSN := Lib.hid hsn
  have HSX := Lib.hid hsx
  have HCI := Lib.hid hcid
  have HKK := Lib.hid hkk
  have HUK : Hid (us [UInt8.ofNat kn] = [.int .u8 (kn : Int)]) := Lib.hid (by rw [us_ofNat]; congr 2; omega)
  clear hA hE hn hx hr hsn hsx hcid hkk hk
  have hq1 := (Code.short_length inc).2
  have hq2 := (Code.short_length round).2
  have hq3 := (Code.short_length sinc).2
  have hq4 := (Code.short_length cid).2
  obtain ⟨L1, HL1⟩ : ∃ L, Hid ([UInt8.ofNat kn] = L) := ⟨_, Lib.hid rfl⟩
  obtain ⟨L2, HL2⟩ : ∃ L, Hid (UInt8.ofNat node :: Code.short inc = L) := ⟨_, Lib.hid rfl⟩
  obtain ⟨L3, HL3⟩ : ∃ L, Hid (Code.short round ++ UInt8.ofNat sn :: Code.short sinc = L) := ⟨_, Lib.hid rfl⟩
  have hl1 : L1.length = 1 := by rw [← HL1.out]; rfl
  have hl2 : L2.length ≤ 12 := by rw [← HL2.out, List.length_cons]; omega
  have hl3 : L3.length ≤ 23 := by rw [← HL3.out, List.length_append, List.length_cons]; omega
  have HLL : Hid (L1.length + L2.length ≤ 100000000000000) := Lib.hid (by omega)
  have HHD : Hid ((Lt.mk kn node inc round sn sinc n body cid cut want).head = L1 ++ L2 ++ L3) := Lib.hid (by
    rw [← HL1.out, ← HL2.out, ← HL3.out]
    simp [Lt.head])
  have HB3 := Lib.hid (fun (W : World) (b : Nat) c0 c1 => b3_any W b 0 node inc HN.out HX.out c0 c1)
  rw [HL2.out] at HB3
  have HI4 := Lib.hid (fun (W : World) => id4_any W round sn sinc HR.out HSN.out HSX.out)
  rw [HL3.out] at HI4
  obtain ⟨PL, HPL⟩ : ∃ L, Hid ((Lt.mk kn node inc round sn sinc n body cid cut want).plain = L) := ⟨_, Lib.hid rfl⟩
  have HSB := Lib.hid (show Sep w (w.alloc (.cells #[.int .i64 (kn : Int), .int .i64 (node : Int), .int .u64 (inc : Int), .int .u64 (round : Int), .int .i64 (sn : Int), .int .u64 (sinc : Int), .int .u64 (n : Int), .slice A body.length c, .int .u64 (cid : Int), .slice E cut.length d, .bool want] 30)) [Ce w.heap.size 30 #[.int .i64 (kn : Int), .int .i64 (node : Int), .int .u64 (inc : Int), .int .u64 (round : Int), .int .i64 (sn : Int), .int .u64 (sinc : Int), .int .u64 (n : Int), .slice A body.length c, .int .u64 (cid : Int), .slice E cut.length d, .bool want]] from sep_ce (Sep.nil w) #[.int .i64 (kn : Int), .int .i64 (node : Int), .int .u64 (inc : Int), .int .u64 (round : Int), .int .i64 (sn : Int), .int .u64 (sinc : Int), .int .u64 (n : Int), .slice A body.length c, .int .u64 (cid : Int), .slice E cut.length d, .bool want] 30)
  go_enter Try.func17, Try.ntmps17
  go_wp2_with fail
  obtain ⟨w1, HW1⟩ : ∃ x, Hid (w.alloc (.cells #[.int .i64 (kn : Int), .int .i64 (node : Int), .int .u64 (inc : Int), .int .u64 (round : Int), .int .i64 (sn : Int), .int .u64 (sinc : Int), .int .u64 (n : Int), .slice A body.length c, .int .u64 (cid : Int), .slice E cut.length d, .bool want] 30) = x) := ⟨_, Lib.hid rfl⟩
  rw [HW1.out] at HSB ⊢
  have HG : Hid (w.heap.size < w1.heap.size) := Lib.hid (sep_ceLt (i := 0) HSB.out rfl)
  have HC0 := Lib.hid (sep_ceAt (i := 0) HSB.out rfl 0 rfl)
  have HC1 := Lib.hid (sep_ceAt (i := 0) HSB.out rfl 1 rfl)
  have HC2 := Lib.hid (sep_ceAt (i := 0) HSB.out rfl 2 rfl)
  refine wp_region_f (fun dn xv W => AI w1 L1 L2 node inc (dn 3) (xv 3) (dn 6) (xv 6) (dn 7) (xv 7) (dn 8) (xv 8) (dn 9) (xv 9) W) (fun _ _ => True) [fun v _ => v = .pointer (some ⟨w.heap.size, 0, none⟩), fun v _ => v = .int .i64 (kn : Int), fun v _ => v = .int .u8 (kn : Int), fun v _ => True, fun v _ => v = .pointer (some ⟨w.heap.size, 1, none⟩), fun v _ => v = .agg #[.int .i64 (node : Int), .int .u64 (inc : Int)], fun v _ => True, fun v _ => True, fun v _ => True, fun v _ => True] (by kernel_rfl) (by kernel_rfl) (by kernel_rfl) (by kernel_rfl) (fun xv => by simpa using (AI.start w1 : AI w1 L1 L2 node inc false _ false _ false _ false _ false _ w1.drew))
    (by exact ⟨fun _ _ _ _ h => h, fun _ _ _ _ h => h, fun _ _ _ _ h => h, fun _ _ _ _ h => h, fun _ _ _ _ h => h, fun _ _ _ _ h => h, fun _ _ _ _ h => h, fun _ _ _ _ h => h, fun _ _ _ _ h => h, fun _ _ _ _ h => h, trivial⟩) ?_ ?_
  · refine EachF.cons 1 rfl (fun dn xv W F hF hd hN hX hI H K hK => ?_) ?_
    · have f1 : F.tmps.getD 1 undef = .pointer (some ⟨w.heap.size, 0, none⟩) := (hF 1).trans (by kernel_rfl)
      clear H hN hd hX hF
      refine on_plain rfl ?_
      go_simp
      exact hK.out _ _ rfl trivial (by simpa [upB, upd] using hI)
    refine EachF.cons 2 rfl (fun dn xv W F hF hd hN hX hI H K hK => ?_) ?_
    · have h0 : xv 0 = .pointer (some ⟨w.heap.size, 0, none⟩) := (H 0 (.edge (by kernel_rfl))).2
      have f5 : F.tmps.getD 5 undef = .pointer (some ⟨w.heap.size, 0, none⟩) := (hF 5).trans (Eq.trans (by kernel_rfl) h0)
      have k0 := (hI.1.cell (p := ⟨w.heap.size, 0, none⟩) HG.out).trans HC0.out
      clear H hN hd hX hF
      refine on_plain rfl ?_
      go_simp
      exact hK.out _ _ rfl trivial (by simpa [upB, upd] using hI)
    refine EachF.cons 3 rfl (fun dn xv W F hF hd hN hX hI H K hK => ?_) ?_
    · have h1 : xv 1 = .int .i64 (kn : Int) := (H 1 (.edge (by kernel_rfl))).2
      have f6 : F.tmps.getD 6 undef = .int .i64 (kn : Int) := (hF 6).trans (Eq.trans (by kernel_rfl) h1)
      clear H hN hd hX hF
      refine on_plain rfl ?_
      go_simp
      rw [show IntKind.u8.wrap ((kn : Nat) : Int) = (kn : Int) by rw [IntKind.wrap_u8]; have := HKN.out; omega]
      exact hK.out _ _ rfl trivial (by simpa [upB, upd] using hI)
    refine EachF.cons 4 rfl (fun dn xv W F hF hd hN hX hI H K hK => ?_) ?_
    · have h2 : xv 2 = .int .u8 (kn : Int) := (H 2 (.edge (by kernel_rfl))).2
      have f7 : F.tmps.getD 7 undef = .int .u8 (kn : Int) := (hF 7).trans (Eq.trans (by kernel_rfl) h2)
      have qd : dn 8 = false := hN 8 (.edge (by kernel_rfl))
      rw [qd] at hI
      clear H hN hd hX hF
      refine on_plain rfl ?_
      have g7 : F.tmps[7]?.getD undef = F.tmps.getD 7 undef := by simp [Array.getD_eq_getD_getElem?]
      rw [f7] at g7
      go_simp
      have hb : Below W.heap.size W (W.alloc (.cells #[.int .u8 (kn : Int)] 5)) := (Below.refl _ _).alloc (Nat.le_refl _) _
      have ho : Own (W.alloc (.cells #[.int .u8 (kn : Int)] 5)) W.heap.size (.slice (some ⟨W.heap.size, 0, none⟩) 1 1) [UInt8.ofNat kn] := by
        have h := own_lit W [UInt8.ofNat kn] (by unfold maxLen; simp)
        rw [HUK.out] at h
        exact h
      rw [HL1.out] at ho
      have hs0 := (hI.grow hb).a (own_mono ho hI.1.size)
      have hs : AI w1 L1 L2 node inc true (.slice (some ⟨W.heap.size, 0, none⟩) 1 1) (dn 6) (xv 6) (dn 7) (xv 7) false (xv 8) (dn 9) (xv 9) (W.alloc (.cells #[.int .u8 (kn : Int)] 5)) := hs0
      exact hK.out _ _ trivial trivial (by simpa [upB, upd, qd] using hs)
    refine EachF.cons 5 rfl (fun dn xv W F hF hd hN hX hI H K hK => ?_) ?_
    · have f1 : F.tmps.getD 1 undef = .pointer (some ⟨w.heap.size, 0, none⟩) := (hF 1).trans (by kernel_rfl)
      clear H hN hd hX hF
      refine on_plain rfl ?_
      go_simp
      exact hK.out _ _ rfl trivial (by simpa [upB, upd] using hI)
    refine EachF.cons 6 rfl (fun dn xv W F hF hd hN hX hI H K hK => ?_) ?_
    · have h4 : xv 4 = .pointer (some ⟨w.heap.size, 1, none⟩) := (H 4 (.edge (by kernel_rfl))).2
      have f9 : F.tmps.getD 9 undef = .pointer (some ⟨w.heap.size, 1, none⟩) := (hF 9).trans (Eq.trans (by kernel_rfl) h4)
      have k1 := (hI.1.cell (p := ⟨w.heap.size, 1, none⟩) HG.out).trans HC1.out
      have k2 := (hI.1.cell (p := ⟨w.heap.size, 2, none⟩) HG.out).trans HC2.out
      clear H hN hd hX hF
      refine on_plain rfl ?_
      go_simp
      exact hK.out _ _ rfl trivial (by simpa [upB, upd] using hI)
    refine EachF.cons 7 rfl (fun dn xv W F hF hd hN hX hI H K hK => ?_) ?_
    · have h5 : xv 5 = .agg #[.int .i64 (node : Int), .int .u64 (inc : Int)] := (H 5 (.edge (by kernel_rfl))).2
      have f10 : F.tmps.getD 10 undef = .agg #[.int .i64 (node : Int), .int .u64 (inc : Int)] := (hF 10).trans (Eq.trans (by kernel_rfl) h5)
      have qd : dn 8 = false := hN 8 (.more (j := 7) (by kernel_rfl) (.edge (by kernel_rfl)))
      rw [qd] at hI
      clear H hN hd hX hF
      refine on_plain rfl ?_
      have g10 : F.tmps[10]?.getD undef = F.tmps.getD 10 undef := by simp [Array.getD_eq_getD_getElem?]
      rw [f10] at g10
      go_simp
      have hb : Below W.heap.size W (W.alloc (.cells #[.int .i64 (node : Int), .int .u64 (inc : Int)] 24)) := (Below.refl _ _).alloc (Nat.le_refl _) _
      have hs : AI w1 L1 L2 node inc (dn 3) (xv 3) true (.slice (some ⟨W.heap.size, 0, none⟩) 1 1) (dn 7) (xv 7) false (xv 8) (dn 9) (xv 9) (W.alloc (.cells #[.int .i64 (node : Int), .int .u64 (inc : Int)] 24)) := (hI.grow hb).b ⟨_, rfl, by simp [go_sem], by simp [go_sem]⟩
      exact hK.out _ _ trivial trivial (by simpa [upB, upd, qd] using hs)
    refine EachF.cons 8 rfl (fun dn xv W F hF hd hN hX hI H K hK => ?_) ?_
    · have h6 := (H 6 (.edge (by kernel_rfl))).2
      simp only [Dl] at h6
      have f11 : F.tmps.getD 11 undef = xv 6 := (hF 11).trans (by kernel_rfl)
      have qd : dn 8 = false := hN 8 (.edge (by kernel_rfl))
      rw [qd] at hI
      have qb : dn 6 = true := (H 6 (.edge (by kernel_rfl))).1
      obtain ⟨b3, e3, cc0, cc1⟩ := (hI.2.2 rfl).2.1 qb
      have f11x : F.tmps.getD 11 undef = .slice (some ⟨b3, 0, none⟩) 1 1 := (hF 11).trans (Eq.trans (by kernel_rfl) e3)
      clear H hN hd hX hF
      refine on_plain rfl ?_
      clear f11 h6
      go_simp
      refine (HB3.out W b3 cc0 cc1).mono ?_
      rintro e W' ⟨v, rfl, ho, hb⟩
      obtain ⟨A9, c9, rfl, _, _, h9⟩ := ho.form
      have hs : AI w1 L1 L2 node inc (dn 3) (xv 3) (dn 6) (xv 6) true (.slice A9 L2.length c9) false (xv 8) (dn 9) (xv 9) W' := (hI.grow hb).c ⟨_, _, rfl, h9⟩
      exact hK.out _ W' trivial trivial (by simpa [upB, upd, qd] using hs)
    refine EachF.cons 9 rfl (fun dn xv W F hF hd hN hX hI H K hK => ?_) ?_
    · have h3 := (H 3 (.edge (by kernel_rfl))).2
      simp only [Dl] at h3
      have f8 : F.tmps.getD 8 undef = xv 3 := (hF 8).trans (by kernel_rfl)
      have h7 := (H 7 (.edge (by kernel_rfl))).2
      simp only [Dl] at h7
      have f12 : F.tmps.getD 12 undef = xv 7 := (hF 12).trans (by kernel_rfl)
      have qe : dn 9 = false := hN 9 (.edge (by kernel_rfl))
      have qa : dn 3 = true := (H 3 (.edge (by kernel_rfl))).1
      have qc : dn 7 = true := (H 7 (.edge (by kernel_rfl))).1
      rw [hd] at hI
      obtain ⟨A9, c9, e9, h9⟩ := (hI.2.2 rfl).2.2 qc
      have ho := (hI.2.2 rfl).1 qa
      have hbl := hI.1
      have f12x : F.tmps.getD 12 undef = .slice A9 L2.length c9 := (hF 12).trans (Eq.trans (by kernel_rfl) e9)
      clear hI
      clear H hN hd hX hF
      refine on_plain rfl ?_
      refine op_app (s := .tmp 8) (x := .tmp 12) (base := w1.heap.size) (l := L1) (m := L2) (by rfl) f8 f12x ho h9 HLL.out hbl.size ?_
      intro v W' ho' hb' _ _
      have hs : AI w1 L1 L2 node inc (dn 3) (xv 3) (dn 6) (xv 6) (dn 7) (xv 7) true v false (xv 9) W' := AI.d (hbl.trans hb') ho'
      exact hK.out v W' trivial trivial (by simpa [upB, upd, qe] using hs)
    refine EachF.cons 10 rfl (fun dn xv W F hF hd hN hX hI H K hK => ?_) ?_
    · have h8 := (H 8 (.edge (by kernel_rfl))).2
      simp only [Dl] at h8
      have f13 : F.tmps.getD 13 undef = xv 8 := (hF 13).trans (by kernel_rfl)
      have qd : dn 8 = true := (H 8 (.edge (by kernel_rfl))).1
      rw [qd] at hI
      have hI2 := hI.e
      clear hI
      clear H hN hd hX hF
      refine on_plain rfl ?_
      go_simp
      have hs : AI w1 L1 L2 node inc (dn 3) (xv 3) (dn 6) (xv 6) (dn 7) (xv 7) true (xv 8) true (xv 8) W := hI2
      exact hK.out _ W trivial trivial (by simpa [upB, upd, qd] using hs)
    exact EachF.nil
  · intro dn xv W hI H
    have q9 := (H 9 (of_decide_eq_true (by kernel_rfl))).2
    simp only [Dl] at q9
    have hS : AI w1 L1 L2 node inc (dn 3) (xv 3) (dn 6) (xv 6) (dn 7) (xv 7) (dn 8) (xv 8) (dn 9) (xv 9) W := hI
    have p8 := (H 8 (of_decide_eq_true (by kernel_rfl))).1
    have p9 := (H 9 (of_decide_eq_true (by kernel_rfl))).1
    have hO : Own W w1.heap.size (xv 9) (L1 ++ L2) := by
      have h := (hS.2.1 p8)
      rw [h.2 p9]
      exact h.1
    have HS1 := Lib.hid (show Sep w W [Ce w.heap.size 30 #[.int .i64 (kn : Int), .int .i64 (node : Int), .int .u64 (inc : Int), .int .u64 (round : Int), .int .i64 (sn : Int), .int .u64 (sinc : Int), .int .u64 (n : Int), .slice A body.length c, .int .u64 (cid : Int), .slice E cut.length d, .bool want], By (xv 9) (L1 ++ L2)] from sep_newBy HSB.out hO hS.1)
    clear hS p8 p9 hO
    clear H hI
    simp only [putAll, Act.put, List.setIfInBounds_toArray, List.set_cons_zero, List.set_cons_succ, Nat.reduceAdd]
    have k3 := sep_ceAt (i := 0) HS1.out rfl 3 rfl
    have k4 := sep_ceAt (i := 0) HS1.out rfl 4 rfl
    have k5 := sep_ceAt (i := 0) HS1.out rfl 5 rfl
    go_wp2_with fail
    clear k3 k4 k5
    refine (HI4.out W).mono ?_
    rintro e w2 ⟨v2, rfl, ho2, hb2⟩
    have HS2 := Lib.hid (show Sep w w2 [Ce w.heap.size 30 #[.int .i64 (kn : Int), .int .i64 (node : Int), .int .u64 (inc : Int), .int .u64 (round : Int), .int .i64 (sn : Int), .int .u64 (sinc : Int), .int .u64 (n : Int), .slice A body.length c, .int .u64 (cid : Int), .slice E cut.length d, .bool want], By (xv 9) (L1 ++ L2), By v2 L3] from sep_newBy HS1.out ho2 hb2)
    clear HS1 ho2 hb2
    obtain ⟨A2, c2, rfl, _, _, h2⟩ := sep_byForm (i := 2) HS2.out rfl
    have H2 := Lib.hid h2
    clear h2 hq1 hq2 hq3
    rcases HKK.out with ⟨q7, qn, qb⟩ | ⟨q89, qc⟩
    · have e7 : (((kn : Nat) : Int) == 7) = true := by simp; omega
      have mn : ((n : Nat) : Int) % 256 = ((n : Nat) : Int) := by omega
      have ml : ((body.length : Nat) : Int) % 256 = ((body.length : Nat) : Int) := by omega
      have HUN := Lib.hid (show us [UInt8.ofNat n, UInt8.ofNat body.length] = [.int .u8 (n : Int), .int .u8 (body.length : Int)] by
        rw [show ([UInt8.ofNat n, UInt8.ofNat body.length] : List UInt8) = [UInt8.ofNat n] ++ [UInt8.ofNat body.length] from rfl, us_append, us_ofNat, us_ofNat, mn, ml]; rfl)
      have HP7 : Hid (PL = (L1 ++ L2 ++ L3) ++ [UInt8.ofNat n, UInt8.ofNat body.length] ++ body) := Lib.hid (by
        rw [← HPL.out]
        unfold Lt.plain
        rw [HHD.out]
        unfold Lt.tail
        rw [if_pos (by simp; omega)]
        simp only [Code.text]
        rw [Code.short_small _ (show body.length < 128 by omega)]
        simp)
      clear q7
      go_wp2_with (at_builtin; first
        | (have ck := HS2; clear ck; go_must (refine sep_appB (i := 1) (c := c2) (A := A2) (m := L3) rfl rfl (by rfl) (by rfl) HS2.out rfl H2.out (by simp only [List.length_append, List.length_cons, List.length_nil]; omega) ?_); intro v3 w3 hs3
           have HS3 : Hid (Sep w w3 [Ce w.heap.size 30 #[.int .i64 (kn : Int), .int .i64 (node : Int), .int .u64 (inc : Int), .int .u64 (round : Int), .int .i64 (sn : Int), .int .u64 (sinc : Int), .int .u64 (n : Int), .slice A body.length c, .int .u64 (cid : Int), .slice E cut.length d, .bool want], By v3 (L1 ++ L2 ++ L3)]) := Lib.hid (Sep.drop (show Sep w w3 [Ce w.heap.size 30 #[.int .i64 (kn : Int), .int .i64 (node : Int), .int .u64 (inc : Int), .int .u64 (round : Int), .int .i64 (sn : Int), .int .u64 (sinc : Int), .int .u64 (n : Int), .slice A body.length c, .int .u64 (cid : Int), .slice E cut.length d, .bool want], By v3 (L1 ++ L2 ++ L3), _] from hs3) 2)
           clear hs3 HS2 
           have k0 := sep_ceAt (i := 0) HS3.out rfl 0 rfl
           have k6 := sep_ceAt (i := 0) HS3.out rfl 6 rfl
           have k7 := sep_ceAt (i := 0) HS3.out rfl 7 rfl
           have k8 := sep_ceAt (i := 0) HS3.out rfl 8 rfl
           have k9 := sep_ceAt (i := 0) HS3.out rfl 9 rfl
           have k10 := sep_ceAt (i := 0) HS3.out rfl 10 rfl)
        | (have ck := HS3; clear ck; go_must (refine sep_appB (i := 1) (c := 2) (A := some ⟨w3.heap.size, 0, none⟩) (m := [UInt8.ofNat n, UInt8.ofNat body.length]) rfl rfl (by rfl) (by rfl) (HS3.out.alloc _) rfl (has_lit HUN.out) (by simp only [List.length_append, List.length_cons, List.length_nil]; omega) ?_); intro v4 w4 hs4
           have HS4 : Hid (Sep w w4 [Ce w.heap.size 30 #[.int .i64 (kn : Int), .int .i64 (node : Int), .int .u64 (inc : Int), .int .u64 (round : Int), .int .i64 (sn : Int), .int .u64 (sinc : Int), .int .u64 (n : Int), .slice A body.length c, .int .u64 (cid : Int), .slice E cut.length d, .bool want], By v4 (L1 ++ L2 ++ L3 ++ [UInt8.ofNat n, UInt8.ofNat body.length])]) := Lib.hid (show Sep w w4 [Ce w.heap.size 30 #[.int .i64 (kn : Int), .int .i64 (node : Int), .int .u64 (inc : Int), .int .u64 (round : Int), .int .i64 (sn : Int), .int .u64 (sinc : Int), .int .u64 (n : Int), .slice A body.length c, .int .u64 (cid : Int), .slice E cut.length d, .bool want], By v4 (L1 ++ L2 ++ L3 ++ [UInt8.ofNat n, UInt8.ofNat body.length])] from hs4)
           clear hs4 HS3 
           have k0 := sep_ceAt (i := 0) HS4.out rfl 0 rfl
           have k6 := sep_ceAt (i := 0) HS4.out rfl 6 rfl
           have k7 := sep_ceAt (i := 0) HS4.out rfl 7 rfl
           have k8 := sep_ceAt (i := 0) HS4.out rfl 8 rfl
           have k9 := sep_ceAt (i := 0) HS4.out rfl 9 rfl
           have k10 := sep_ceAt (i := 0) HS4.out rfl 10 rfl)
        | (have ck := HS4; clear ck; go_must (refine sep_appB (i := 1) (c := c) (A := A) (m := body) rfl rfl (by rfl) (by rfl) HS4.out rfl (HS4.out.has HA.out) (by simp only [List.length_append, List.length_cons, List.length_nil]; omega) ?_); intro v5 w5 hs5
           have HS5 : Hid (Sep w w5 [Ce w.heap.size 30 #[.int .i64 (kn : Int), .int .i64 (node : Int), .int .u64 (inc : Int), .int .u64 (round : Int), .int .i64 (sn : Int), .int .u64 (sinc : Int), .int .u64 (n : Int), .slice A body.length c, .int .u64 (cid : Int), .slice E cut.length d, .bool want], By v5 (L1 ++ L2 ++ L3 ++ [UInt8.ofNat n, UInt8.ofNat body.length] ++ body)]) := Lib.hid (show Sep w w5 [Ce w.heap.size 30 #[.int .i64 (kn : Int), .int .i64 (node : Int), .int .u64 (inc : Int), .int .u64 (round : Int), .int .i64 (sn : Int), .int .u64 (sinc : Int), .int .u64 (n : Int), .slice A body.length c, .int .u64 (cid : Int), .slice E cut.length d, .bool want], By v5 (L1 ++ L2 ++ L3 ++ [UInt8.ofNat n, UInt8.ofNat body.length] ++ body)] from hs5)
           clear hs5 HS4 ))
      go_ret
      exact ⟨_, rfl, by rw [HPL.out, HP7.out]; exact sep_byFrom (i := 1) HS5.out rfl, HS5.out.bel⟩
    · have HXC := Lib.hid qc
      have e7 : (((kn : Nat) : Int) == 7) = false := by simp; omega
      have hcl := qc.1
      have ml : ((cut.length : Nat) : Int) % 256 = ((cut.length : Nat) : Int) := by omega
      have HUN := Lib.hid (show us [UInt8.ofNat cut.length] = [.int .u8 (cut.length : Int)] by rw [us_ofNat, ml])
      clear qc
      by_cases q8 : kn = 8
      · have e8 : (((kn : Nat) : Int) == 8) = true := by simp; omega
        have e9 : (((kn : Nat) : Int) == 9) = false := by simp; omega
        have HPL2 : Hid (PL = ((L1 ++ L2 ++ L3) ++ Code.short cid ++ [UInt8.ofNat cut.length]) ++ cut.map UInt8.ofNat) := Lib.hid (by
          rw [← HPL.out]
          unfold Lt.plain
          rw [HHD.out]
          unfold Lt.tail
          rw [if_neg (by simp; omega), if_pos (by simp; omega)]
          simp [cutB])
        clear q8 q89
        go_wp2_with (at_builtin; first
          | (have ck := HS2; clear ck; go_must (refine sep_appB (i := 1) (c := c2) (A := A2) (m := L3) rfl rfl (by rfl) (by rfl) HS2.out rfl H2.out (by simp only [List.length_append, List.length_cons, List.length_nil]; omega) ?_); intro v3 w3 hs3
             have HS3 : Hid (Sep w w3 [Ce w.heap.size 30 #[.int .i64 (kn : Int), .int .i64 (node : Int), .int .u64 (inc : Int), .int .u64 (round : Int), .int .i64 (sn : Int), .int .u64 (sinc : Int), .int .u64 (n : Int), .slice A body.length c, .int .u64 (cid : Int), .slice E cut.length d, .bool want], By v3 (L1 ++ L2 ++ L3)]) := Lib.hid (Sep.drop (show Sep w w3 [Ce w.heap.size 30 #[.int .i64 (kn : Int), .int .i64 (node : Int), .int .u64 (inc : Int), .int .u64 (round : Int), .int .i64 (sn : Int), .int .u64 (sinc : Int), .int .u64 (n : Int), .slice A body.length c, .int .u64 (cid : Int), .slice E cut.length d, .bool want], By v3 (L1 ++ L2 ++ L3), _] from hs3) 2)
             clear hs3 HS2 
             have k0 := sep_ceAt (i := 0) HS3.out rfl 0 rfl
             have k6 := sep_ceAt (i := 0) HS3.out rfl 6 rfl
             have k7 := sep_ceAt (i := 0) HS3.out rfl 7 rfl
             have k8 := sep_ceAt (i := 0) HS3.out rfl 8 rfl
             have k9 := sep_ceAt (i := 0) HS3.out rfl 9 rfl
             have k10 := sep_ceAt (i := 0) HS3.out rfl 10 rfl))
        clear k0 k6 k7 k8 k9 k10
        refine (u3_any w3 cid HCI.out).mono ?_
        rintro e w4 ⟨v4, rfl, ho4, hb4⟩
        have HS4 := Lib.hid (show Sep w w4 [Ce w.heap.size 30 #[.int .i64 (kn : Int), .int .i64 (node : Int), .int .u64 (inc : Int), .int .u64 (round : Int), .int .i64 (sn : Int), .int .u64 (sinc : Int), .int .u64 (n : Int), .slice A body.length c, .int .u64 (cid : Int), .slice E cut.length d, .bool want], By v3 (L1 ++ L2 ++ L3), By v4 (Code.short cid)] from sep_newBy HS3.out ho4 hb4)
        clear HS3 ho4 hb4
        obtain ⟨A4, c4, rfl, _, _, h4⟩ := sep_byForm (i := 2) HS4.out rfl
        have H4 := Lib.hid h4
        clear h4
        go_wp2_with (at_builtin; first
          | (have ck := HS4; clear ck; go_must (refine sep_appB (i := 1) (c := c4) (A := A4) (m := Code.short cid) rfl rfl (by rfl) (by rfl) HS4.out rfl H4.out (by simp only [List.length_append, List.length_cons, List.length_nil]; omega) ?_); intro v5 w5 hs5
             have HS5 : Hid (Sep w w5 [Ce w.heap.size 30 #[.int .i64 (kn : Int), .int .i64 (node : Int), .int .u64 (inc : Int), .int .u64 (round : Int), .int .i64 (sn : Int), .int .u64 (sinc : Int), .int .u64 (n : Int), .slice A body.length c, .int .u64 (cid : Int), .slice E cut.length d, .bool want], By v5 (L1 ++ L2 ++ L3 ++ Code.short cid)]) := Lib.hid (Sep.drop (show Sep w w5 [Ce w.heap.size 30 #[.int .i64 (kn : Int), .int .i64 (node : Int), .int .u64 (inc : Int), .int .u64 (round : Int), .int .i64 (sn : Int), .int .u64 (sinc : Int), .int .u64 (n : Int), .slice A body.length c, .int .u64 (cid : Int), .slice E cut.length d, .bool want], By v5 (L1 ++ L2 ++ L3 ++ Code.short cid), _] from hs5) 2)
             clear hs5 HS4 
             have k0 := sep_ceAt (i := 0) HS5.out rfl 0 rfl
             have k6 := sep_ceAt (i := 0) HS5.out rfl 6 rfl
             have k7 := sep_ceAt (i := 0) HS5.out rfl 7 rfl
             have k8 := sep_ceAt (i := 0) HS5.out rfl 8 rfl
             have k9 := sep_ceAt (i := 0) HS5.out rfl 9 rfl
             have k10 := sep_ceAt (i := 0) HS5.out rfl 10 rfl)
          | (have ck := HS5; clear ck; go_must (refine sep_appB (i := 1) (c := 1) (A := some ⟨w5.heap.size, 0, none⟩) (m := [UInt8.ofNat cut.length]) rfl rfl (by rfl) (by rfl) (HS5.out.alloc _) rfl (has_lit HUN.out) (by simp only [List.length_append, List.length_cons, List.length_nil]; omega) ?_); intro v6 w6 hs6
             have HS6 : Hid (Sep w w6 [Ce w.heap.size 30 #[.int .i64 (kn : Int), .int .i64 (node : Int), .int .u64 (inc : Int), .int .u64 (round : Int), .int .i64 (sn : Int), .int .u64 (sinc : Int), .int .u64 (n : Int), .slice A body.length c, .int .u64 (cid : Int), .slice E cut.length d, .bool want], By v6 (L1 ++ L2 ++ L3 ++ Code.short cid ++ [UInt8.ofNat cut.length])]) := Lib.hid (show Sep w w6 [Ce w.heap.size 30 #[.int .i64 (kn : Int), .int .i64 (node : Int), .int .u64 (inc : Int), .int .u64 (round : Int), .int .i64 (sn : Int), .int .u64 (sinc : Int), .int .u64 (n : Int), .slice A body.length c, .int .u64 (cid : Int), .slice E cut.length d, .bool want], By v6 (L1 ++ L2 ++ L3 ++ Code.short cid ++ [UInt8.ofNat cut.length])] from hs6)
             clear hs6 HS5 
             have k0 := sep_ceAt (i := 0) HS6.out rfl 0 rfl
             have k6 := sep_ceAt (i := 0) HS6.out rfl 6 rfl
             have k7 := sep_ceAt (i := 0) HS6.out rfl 7 rfl
             have k8 := sep_ceAt (i := 0) HS6.out rfl 8 rfl
             have k9 := sep_ceAt (i := 0) HS6.out rfl 9 rfl
             have k10 := sep_ceAt (i := 0) HS6.out rfl 10 rfl))
        obtain ⟨L0, HL00⟩ : ∃ L, Hid ((L1 ++ L2 ++ L3) ++ Code.short cid ++ [UInt8.ofNat cut.length] = L) := ⟨_, Lib.hid rfl⟩
        have HL0 : Hid (L0.length ≤ 1000) := Lib.hid (by rw [← HL00.out]; simp only [List.length_append, List.length_cons, List.length_nil]; omega)
        rw [HL00.out] at HS6 HPL2
        have HPL : Hid ((Lt.mk kn node inc round sn sinc n body cid cut want).plain = L0 ++ cut.map UInt8.ofNat) := Lib.hid (by rw [HPL.out, HPL2.out])
        have HS0 : Hid (Sep w w6 [Ce w.heap.size 30 #[.int .i64 (kn : Int), .int .i64 (node : Int), .int .u64 (inc : Int), .int .u64 (round : Int), .int .i64 (sn : Int), .int .u64 (sinc : Int), .int .u64 (n : Int), .slice A body.length c, .int .u64 (cid : Int), .slice E cut.length d, .bool want], By v6 (L0 ++ (cut.take 0).map UInt8.ofNat)]) := Lib.hid (by simpa using HS6.out)
        clear HS6 HPL2 k0 k6 k7 k8 k9 k10 ml hq4 hl1 hl2 hl3
        go_loopw [3, 4] (fun v iv wr => ∃ k : Nat, k ≤ cut.length ∧ iv = .int .i64 (k : Int) ∧ Hid (Sep w wr [Ce w.heap.size 30 #[.int .i64 (kn : Int), .int .i64 (node : Int), .int .u64 (inc : Int), .int .u64 (round : Int), .int .i64 (sn : Int), .int .u64 (sinc : Int), .int .u64 (n : Int), .slice A body.length c, .int .u64 (cid : Int), .slice E cut.length d, .bool want], By v (L0 ++ (cut.take k).map UInt8.ofNat)])) (fun _ iv _ => cut.length - (intOf iv).toNat)
        case atStart => exact ⟨0, Nat.zero_le _, rfl, HS0⟩
        case round =>
          obtain ⟨k, hk, rfl, HS⟩ := hrel
          have k0 := sep_ceAt (i := 0) HS.out rfl 0 rfl
          have k9 := sep_ceAt (i := 0) HS.out rfl 9 rfl
          have k10 := sep_ceAt (i := 0) HS.out rfl 10 rfl
          by_cases hkt : k < cut.length
          · obtain ⟨b, o, rfl, _⟩ := has_u64_form HE.out (by omega)
            have ck := has_u64 (HS.out.has HE.out) hkt
            have HT := Lib.hid (List.take_succ_eq_append_getElem hkt)
            have hxx := HXC.out.2 cut[k] (List.getElem_mem hkt)
            obtain ⟨x, Hx⟩ : ∃ x, Hid (cut[k] = x) := ⟨_, Lib.hid rfl⟩
            rw [Hx.out] at ck HT hxx
            have m1 : ((x : Nat) : Int) % 256 = ((x : Nat) : Int) := by omega
            have HUX := Lib.hid (show us [UInt8.ofNat x] = [.int .u8 (x : Int)] by rw [us_ofNat]; rw [m1])
            obtain ⟨LL, HLL2⟩ : ∃ L, Hid (L0 ++ (cut.take k).map UInt8.ofNat = L) := ⟨_, Lib.hid rfl⟩
            have hLl : LL.length ≤ 10000300 := by
              rw [← HLL2.out, List.length_append, List.length_map, List.length_take]
              have := HXC.out.1
              have := HL0.out
              omega
            rw [HLL2.out] at HS
            go_wp2_with (at_builtin; go_must (refine sep_appB (i := 1) (c := 1) (A := some ⟨wr.heap.size, 0, none⟩) (m := [UInt8.ofNat x]) rfl rfl (by rfl) (by rfl) (HS.out.alloc _) rfl (has_lit HUX.out) (by simp; omega) ?_); intro v9 w9 hs9
                         have HS9 : Hid (Sep w w9 [Ce w.heap.size 30 #[.int .i64 (kn : Int), .int .i64 (node : Int), .int .u64 (inc : Int), .int .u64 (round : Int), .int .i64 (sn : Int), .int .u64 (sinc : Int), .int .u64 (n : Int), .slice A body.length c, .int .u64 (cid : Int), .slice (some ⟨b, o, none⟩) cut.length d, .bool want], By v9 (L0 ++ (cut.take (k + 1)).map UInt8.ofNat)]) := Lib.hid (by
                           rw [HT.out, List.map_append, ← List.append_assoc, HLL2.out]
                           exact hs9)
                         clear hs9 HS ck m1)
            go_roundw
            case rel => exact ⟨k + 1, by omega, by go_num, HS9⟩
            case measure => simp [intOf]; omega
          · have HK := Lib.hid (show cut.take k = cut by rw [List.take_of_length_le]; omega)
            rw [HK.out] at HS
            clear hk
            go_wp2_with fail
            go_ret
            exact ⟨_, rfl, by rw [HPL.out]; exact sep_byFrom (i := 1) HS.out rfl, HS.out.bel⟩
      · have e8 : (((kn : Nat) : Int) == 8) = false := by simp; omega
        have e9 : (((kn : Nat) : Int) == 9) = true := by simp; omega
        have HPL2 : Hid (PL = ((L1 ++ L2 ++ L3) ++ [UInt8.ofNat cut.length]) ++ cut.map UInt8.ofNat ++ [if want then 1 else 0]) := Lib.hid (by
          rw [← HPL.out]
          unfold Lt.plain
          rw [HHD.out]
          unfold Lt.tail
          rw [if_neg (by simp; omega), if_neg (by simp; omega)]
          simp [cutB])
        clear q8 q89
        go_wp2_with (at_builtin; first
          | (have ck := HS2; clear ck; go_must (refine sep_appB (i := 1) (c := c2) (A := A2) (m := L3) rfl rfl (by rfl) (by rfl) HS2.out rfl H2.out (by simp only [List.length_append, List.length_cons, List.length_nil]; omega) ?_); intro v3 w3 hs3
             have HS3 : Hid (Sep w w3 [Ce w.heap.size 30 #[.int .i64 (kn : Int), .int .i64 (node : Int), .int .u64 (inc : Int), .int .u64 (round : Int), .int .i64 (sn : Int), .int .u64 (sinc : Int), .int .u64 (n : Int), .slice A body.length c, .int .u64 (cid : Int), .slice E cut.length d, .bool want], By v3 (L1 ++ L2 ++ L3)]) := Lib.hid (Sep.drop (show Sep w w3 [Ce w.heap.size 30 #[.int .i64 (kn : Int), .int .i64 (node : Int), .int .u64 (inc : Int), .int .u64 (round : Int), .int .i64 (sn : Int), .int .u64 (sinc : Int), .int .u64 (n : Int), .slice A body.length c, .int .u64 (cid : Int), .slice E cut.length d, .bool want], By v3 (L1 ++ L2 ++ L3), _] from hs3) 2)
             clear hs3 HS2 
             have k0 := sep_ceAt (i := 0) HS3.out rfl 0 rfl
             have k6 := sep_ceAt (i := 0) HS3.out rfl 6 rfl
             have k7 := sep_ceAt (i := 0) HS3.out rfl 7 rfl
             have k8 := sep_ceAt (i := 0) HS3.out rfl 8 rfl
             have k9 := sep_ceAt (i := 0) HS3.out rfl 9 rfl
             have k10 := sep_ceAt (i := 0) HS3.out rfl 10 rfl)
          | (have ck := HS3; clear ck; go_must (refine sep_appB (i := 1) (c := 1) (A := some ⟨w3.heap.size, 0, none⟩) (m := [UInt8.ofNat cut.length]) rfl rfl (by rfl) (by rfl) (HS3.out.alloc _) rfl (has_lit HUN.out) (by simp only [List.length_append, List.length_cons, List.length_nil]; omega) ?_); intro v6 w6 hs6
             have HS6 : Hid (Sep w w6 [Ce w.heap.size 30 #[.int .i64 (kn : Int), .int .i64 (node : Int), .int .u64 (inc : Int), .int .u64 (round : Int), .int .i64 (sn : Int), .int .u64 (sinc : Int), .int .u64 (n : Int), .slice A body.length c, .int .u64 (cid : Int), .slice E cut.length d, .bool want], By v6 (L1 ++ L2 ++ L3 ++ [UInt8.ofNat cut.length])]) := Lib.hid (show Sep w w6 [Ce w.heap.size 30 #[.int .i64 (kn : Int), .int .i64 (node : Int), .int .u64 (inc : Int), .int .u64 (round : Int), .int .i64 (sn : Int), .int .u64 (sinc : Int), .int .u64 (n : Int), .slice A body.length c, .int .u64 (cid : Int), .slice E cut.length d, .bool want], By v6 (L1 ++ L2 ++ L3 ++ [UInt8.ofNat cut.length])] from hs6)
             clear hs6 HS3 
             have k0 := sep_ceAt (i := 0) HS6.out rfl 0 rfl
             have k6 := sep_ceAt (i := 0) HS6.out rfl 6 rfl
             have k7 := sep_ceAt (i := 0) HS6.out rfl 7 rfl
             have k8 := sep_ceAt (i := 0) HS6.out rfl 8 rfl
             have k9 := sep_ceAt (i := 0) HS6.out rfl 9 rfl
             have k10 := sep_ceAt (i := 0) HS6.out rfl 10 rfl))
        obtain ⟨L0, HL00⟩ : ∃ L, Hid ((L1 ++ L2 ++ L3) ++ [UInt8.ofNat cut.length] = L) := ⟨_, Lib.hid rfl⟩
        have HL0 : Hid (L0.length ≤ 1000) := Lib.hid (by rw [← HL00.out]; simp only [List.length_append, List.length_cons, List.length_nil]; omega)
        rw [HL00.out] at HS6 HPL2
        have HPL : Hid ((Lt.mk kn node inc round sn sinc n body cid cut want).plain = (L0 ++ cut.map UInt8.ofNat) ++ [if want then 1 else 0]) := Lib.hid (by rw [HPL.out, HPL2.out])
        have HS0 : Hid (Sep w w6 [Ce w.heap.size 30 #[.int .i64 (kn : Int), .int .i64 (node : Int), .int .u64 (inc : Int), .int .u64 (round : Int), .int .i64 (sn : Int), .int .u64 (sinc : Int), .int .u64 (n : Int), .slice A body.length c, .int .u64 (cid : Int), .slice E cut.length d, .bool want], By v6 (L0 ++ (cut.take 0).map UInt8.ofNat)]) := Lib.hid (by simpa using HS6.out)
        clear HS6 HPL2 k0 k6 k7 k8 k9 k10 ml hq4 hl1 hl2 hl3
        go_loopw [3, 4] (fun v iv wr => ∃ k : Nat, k ≤ cut.length ∧ iv = .int .i64 (k : Int) ∧ Hid (Sep w wr [Ce w.heap.size 30 #[.int .i64 (kn : Int), .int .i64 (node : Int), .int .u64 (inc : Int), .int .u64 (round : Int), .int .i64 (sn : Int), .int .u64 (sinc : Int), .int .u64 (n : Int), .slice A body.length c, .int .u64 (cid : Int), .slice E cut.length d, .bool want], By v (L0 ++ (cut.take k).map UInt8.ofNat)])) (fun _ iv _ => cut.length - (intOf iv).toNat)
        case atStart => exact ⟨0, Nat.zero_le _, rfl, HS0⟩
        case round =>
          obtain ⟨k, hk, rfl, HS⟩ := hrel
          have k0 := sep_ceAt (i := 0) HS.out rfl 0 rfl
          have k9 := sep_ceAt (i := 0) HS.out rfl 9 rfl
          have k10 := sep_ceAt (i := 0) HS.out rfl 10 rfl
          by_cases hkt : k < cut.length
          · obtain ⟨b, o, rfl, _⟩ := has_u64_form HE.out (by omega)
            have ck := has_u64 (HS.out.has HE.out) hkt
            have HT := Lib.hid (List.take_succ_eq_append_getElem hkt)
            have hxx := HXC.out.2 cut[k] (List.getElem_mem hkt)
            obtain ⟨x, Hx⟩ : ∃ x, Hid (cut[k] = x) := ⟨_, Lib.hid rfl⟩
            rw [Hx.out] at ck HT hxx
            have m1 : ((x : Nat) : Int) % 256 = ((x : Nat) : Int) := by omega
            have HUX := Lib.hid (show us [UInt8.ofNat x] = [.int .u8 (x : Int)] by rw [us_ofNat]; rw [m1])
            obtain ⟨LL, HLL2⟩ : ∃ L, Hid (L0 ++ (cut.take k).map UInt8.ofNat = L) := ⟨_, Lib.hid rfl⟩
            have hLl : LL.length ≤ 10000300 := by
              rw [← HLL2.out, List.length_append, List.length_map, List.length_take]
              have := HXC.out.1
              have := HL0.out
              omega
            rw [HLL2.out] at HS
            go_wp2_with (at_builtin; go_must (refine sep_appB (i := 1) (c := 1) (A := some ⟨wr.heap.size, 0, none⟩) (m := [UInt8.ofNat x]) rfl rfl (by rfl) (by rfl) (HS.out.alloc _) rfl (has_lit HUX.out) (by simp; omega) ?_); intro v9 w9 hs9
                         have HS9 : Hid (Sep w w9 [Ce w.heap.size 30 #[.int .i64 (kn : Int), .int .i64 (node : Int), .int .u64 (inc : Int), .int .u64 (round : Int), .int .i64 (sn : Int), .int .u64 (sinc : Int), .int .u64 (n : Int), .slice A body.length c, .int .u64 (cid : Int), .slice (some ⟨b, o, none⟩) cut.length d, .bool want], By v9 (L0 ++ (cut.take (k + 1)).map UInt8.ofNat)]) := Lib.hid (by
                           rw [HT.out, List.map_append, ← List.append_assoc, HLL2.out]
                           exact hs9)
                         clear hs9 HS ck m1)
            go_roundw
            case rel => exact ⟨k + 1, by omega, by go_num, HS9⟩
            case measure => simp [intOf]; omega
          · have HK := Lib.hid (show cut.take k = cut by rw [List.take_of_length_le]; omega)
            rw [HK.out] at HS
            clear hk
            cases want
            · go_wp2_with (at_builtin; go_must (refine sep_appB (i := 1) (c := 1) (A := some ⟨wr.heap.size, 0, none⟩) (m := [0]) rfl rfl (by rfl) (by rfl) (HS.out.alloc _) rfl (has_lit (m := [0]) rfl) (by simp only [List.length_append, List.length_map, List.length_cons, List.length_nil]; have := HXC.out.1; have := HL0.out; omega) ?_); intro v9 w9 hs9
                           have HS9 : Hid (Sep w w9 [Ce w.heap.size 30 #[.int .i64 (kn : Int), .int .i64 (node : Int), .int .u64 (inc : Int), .int .u64 (round : Int), .int .i64 (sn : Int), .int .u64 (sinc : Int), .int .u64 (n : Int), .slice A body.length c, .int .u64 (cid : Int), .slice E cut.length d, .bool false], By v9 ((L0 ++ cut.map UInt8.ofNat) ++ [0])]) := Lib.hid hs9
                           clear hs9 HS)
              go_ret
              exact ⟨_, rfl, by rw [HPL.out]; exact sep_byFrom (i := 1) HS9.out rfl, HS9.out.bel⟩
            · go_wp2_with (at_builtin; go_must (refine sep_appB (i := 1) (c := 1) (A := some ⟨wr.heap.size, 0, none⟩) (m := [1]) rfl rfl (by rfl) (by rfl) (HS.out.alloc _) rfl (has_lit (m := [1]) rfl) (by simp only [List.length_append, List.length_map, List.length_cons, List.length_nil]; have := HXC.out.1; have := HL0.out; omega) ?_); intro v9 w9 hs9
                           have HS9 : Hid (Sep w w9 [Ce w.heap.size 30 #[.int .i64 (kn : Int), .int .i64 (node : Int), .int .u64 (inc : Int), .int .u64 (round : Int), .int .i64 (sn : Int), .int .u64 (sinc : Int), .int .u64 (n : Int), .slice A body.length c, .int .u64 (cid : Int), .slice E cut.length d, .bool true], By v9 ((L0 ++ cut.map UInt8.ofNat) ++ [1])]) := Lib.hid hs9
                           clear hs9 HS)
              go_ret
              exact ⟨_, rfl, by rw [HPL.out]; exact sep_byFrom (i := 1) HS9.out rfl, HS9.out.bel⟩
end Go.Proofs.Ytbnjlminjopaaaa
