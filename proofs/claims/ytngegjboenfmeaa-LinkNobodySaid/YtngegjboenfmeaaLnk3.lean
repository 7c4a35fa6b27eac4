/- Few steps; the law LinkNobody. -/
import Derived.Test.YtngegjboenfmeaaLnk
namespace Go.Proofs.Ytngegjboenfmeaa
open Go Go.RowKit
set_option linter.unusedVariables false
set_option maxRecDepth 100000
set_option linter.unusedSimpArgs false

theorem i64_small {x : Nat} (h : x < 4611686018427387904) : IntKind.i64.wrap (x : Int) = (x : Int) := by rw [IntKind.wrap_i64]; omega
set_option maxHeartbeats 800000 in
theorem few1_any (w : World) (b : Nat) (nb nf c c2 : Nat) (A A2 : Option Addr) (h11 : w.cell? ⟨b, 11, none⟩ = some (.slice A nf c)) (h12 : w.cell? ⟨b, 12, none⟩ = some (.slice A2 nb c2)) (h1 : nb ≤ 140737488355328) (h2 : nf ≤ 140737488355328) :
    Calls Try.prog 16 #[.slice (some ⟨b, 0, none⟩) 1 1] w fun e w' => ∃ fb, e = .returned (.bool fb) ∧ Below w.heap.size w w' := by
  have HLT := Lib.hid (World.block_lt_of_cell? w _ h11)
  have HC11 := Lib.hid h11
  have HC12 := Lib.hid h12
  obtain ⟨s, hs⟩ : ∃ s, nb + nf = s := ⟨_, rfl⟩
  obtain ⟨q, hq⟩ : ∃ q, s / 512 = q := ⟨_, rfl⟩
  obtain ⟨q1, hq1⟩ : ∃ x, 1 + q = x := ⟨_, rfl⟩
  have HQ : Hid (nb + nf = s ∧ s / 512 = q ∧ 1 + q = q1) := Lib.hid ⟨hs, hq, hq1⟩
  clear h11 h12 hs hq hq1
  go_enter Try.func16, Try.ntmps16
  go_wp2_with fail
  go_loopw [3, 4] (fun nv iv wr => ∃ k : Nat, k ≤ 1 ∧ iv = .int .i64 (k : Int) ∧ Hid (Sep w wr []) ∧ ((k = 0 ∧ nv = .int .i64 0) ∨ k = 1)) (fun _ iv _ => 1 - (intOf iv).toNat)
  case atStart => exact ⟨0, by omega, rfl, Lib.hid (Sep.nil w), .inl ⟨rfl, rfl⟩⟩
  case round =>
    obtain ⟨k, hk, rfl, HB, ⟨hk0, rfl⟩ | hk1⟩ := hrel
    · subst hk0
      go_wp2_with fail
      refine wp_region_f (fun dn xv W => Sep w W []) (fun _ _ => True) [fun v _ => v = .int .i64 0, fun v _ => v = .slice (some ⟨b, 0, none⟩) 1 1, fun v _ => v = .int .i64 0, fun v _ => v = .pointer (some ⟨b, 0, none⟩), fun v _ => v = .pointer (some ⟨b, 12, none⟩), fun v _ => v = .slice A2 nb c2, fun v _ => v = .int .i64 (nb : Int), fun v _ => v = .slice (some ⟨b, 0, none⟩) 1 1, fun v _ => v = .int .i64 0, fun v _ => v = .pointer (some ⟨b, 0, none⟩), fun v _ => v = .pointer (some ⟨b, 2, none⟩), fun v _ => v = .pointer (some ⟨b, 11, none⟩), fun v _ => v = .slice A nf c, fun v _ => v = .int .i64 (nf : Int), fun v _ => v = .int .i64 (s : Int), fun v _ => v = .int .i64 (q : Int), fun v _ => v = .int .i64 (q1 : Int), fun v _ => v = .int .i64 (q1 : Int), fun v _ => v = .int .i64 (q1 : Int)] (by kernel_rfl) (by kernel_rfl) (by kernel_rfl) (by kernel_rfl) (fun xv => by simpa using HB.out.drew)
        (by exact ⟨fun _ _ _ _ h => h, fun _ _ _ _ h => h, fun _ _ _ _ h => h, fun _ _ _ _ h => h, fun _ _ _ _ h => h, fun _ _ _ _ h => h, fun _ _ _ _ h => h, fun _ _ _ _ h => h, fun _ _ _ _ h => h, fun _ _ _ _ h => h, fun _ _ _ _ h => h, fun _ _ _ _ h => h, fun _ _ _ _ h => h, fun _ _ _ _ h => h, fun _ _ _ _ h => h, fun _ _ _ _ h => h, fun _ _ _ _ h => h, fun _ _ _ _ h => h, fun _ _ _ _ h => h, trivial⟩) ?_ ?_
      · refine EachF.cons 1 rfl (fun dn xv W F hF hd hN hX hI H K hK => ?_) ?_
        · have h18 : xv 18 = .int .i64 0 := hX 18 (hN 18 (.more (j := 17) (by kernel_rfl) (.edge (by kernel_rfl))))
          have f3 : F.tmps.getD 3 undef = .int .i64 0 := (hF 3).trans (Eq.trans (by kernel_rfl) h18)
          clear H hN hd hX hF
          refine on_plain rfl ?_
          go_simp
          exact hK.out _ _ rfl trivial (by simpa [upB, upd] using hI)
        refine EachF.cons 2 rfl (fun dn xv W F hF hd hN hX hI H K hK => ?_) ?_
        · have f0 : F.tmps.getD 0 undef = .slice (some ⟨b, 0, none⟩) 1 1 := (hF 0).trans (by kernel_rfl)
          clear H hN hd hX hF
          refine on_plain rfl ?_
          go_simp
          exact hK.out _ _ rfl trivial (by simpa [upB, upd] using hI)
        refine EachF.cons 3 rfl (fun dn xv W F hF hd hN hX hI H K hK => ?_) ?_
        · have f4 : F.tmps.getD 4 undef = .int .i64 0 := (hF 4).trans (by kernel_rfl)
          clear H hN hd hX hF
          refine on_plain rfl ?_
          go_simp
          exact hK.out _ _ rfl trivial (by simpa [upB, upd] using hI)
        refine EachF.cons 4 rfl (fun dn xv W F hF hd hN hX hI H K hK => ?_) ?_
        · have h1 : xv 1 = .slice (some ⟨b, 0, none⟩) 1 1 := (H 1 (.edge (by kernel_rfl))).2
          have f12 : F.tmps.getD 12 undef = .slice (some ⟨b, 0, none⟩) 1 1 := (hF 12).trans (Eq.trans (by kernel_rfl) h1)
          have h2 : xv 2 = .int .i64 0 := (H 2 (.edge (by kernel_rfl))).2
          have f13 : F.tmps.getD 13 undef = .int .i64 0 := (hF 13).trans (Eq.trans (by kernel_rfl) h2)
          clear H hN hd hX hF
          refine on_plain rfl ?_
          go_simp
          exact hK.out _ _ rfl trivial (by simpa [upB, upd] using hI)
        refine EachF.cons 5 rfl (fun dn xv W F hF hd hN hX hI H K hK => ?_) ?_
        · have h3 : xv 3 = .pointer (some ⟨b, 0, none⟩) := (H 3 (.edge (by kernel_rfl))).2
          have f14 : F.tmps.getD 14 undef = .pointer (some ⟨b, 0, none⟩) := (hF 14).trans (Eq.trans (by kernel_rfl) h3)
          clear H hN hd hX hF
          refine on_plain rfl ?_
          go_simp
          exact hK.out _ _ rfl trivial (by simpa [upB, upd] using hI)
        refine EachF.cons 6 rfl (fun dn xv W F hF hd hN hX hI H K hK => ?_) ?_
        · have h4 : xv 4 = .pointer (some ⟨b, 12, none⟩) := (H 4 (.edge (by kernel_rfl))).2
          have f15 : F.tmps.getD 15 undef = .pointer (some ⟨b, 12, none⟩) := (hF 15).trans (Eq.trans (by kernel_rfl) h4)
          have k12 := (hI.bel.cell (p := ⟨b, 12, none⟩) HLT.out).trans HC12.out
          clear H hN hd hX hF
          refine on_plain rfl ?_
          go_simp
          exact hK.out _ _ rfl trivial (by simpa [upB, upd] using hI)
        refine EachF.cons 7 rfl (fun dn xv W F hF hd hN hX hI H K hK => ?_) ?_
        · have h5 : xv 5 = .slice A2 nb c2 := (H 5 (.edge (by kernel_rfl))).2
          have f16 : F.tmps.getD 16 undef = .slice A2 nb c2 := (hF 16).trans (Eq.trans (by kernel_rfl) h5)
          clear H hN hd hX hF
          refine on_plain rfl ?_
          go_simp
          exact hK.out _ _ rfl trivial (by simpa [upB, upd] using hI)
        refine EachF.cons 8 rfl (fun dn xv W F hF hd hN hX hI H K hK => ?_) ?_
        · have f0 : F.tmps.getD 0 undef = .slice (some ⟨b, 0, none⟩) 1 1 := (hF 0).trans (by kernel_rfl)
          clear H hN hd hX hF
          refine on_plain rfl ?_
          go_simp
          exact hK.out _ _ rfl trivial (by simpa [upB, upd] using hI)
        refine EachF.cons 9 rfl (fun dn xv W F hF hd hN hX hI H K hK => ?_) ?_
        · have f4 : F.tmps.getD 4 undef = .int .i64 0 := (hF 4).trans (by kernel_rfl)
          clear H hN hd hX hF
          refine on_plain rfl ?_
          go_simp
          exact hK.out _ _ rfl trivial (by simpa [upB, upd] using hI)
        refine EachF.cons 10 rfl (fun dn xv W F hF hd hN hX hI H K hK => ?_) ?_
        · have h7 : xv 7 = .slice (some ⟨b, 0, none⟩) 1 1 := (H 7 (.edge (by kernel_rfl))).2
          have f18 : F.tmps.getD 18 undef = .slice (some ⟨b, 0, none⟩) 1 1 := (hF 18).trans (Eq.trans (by kernel_rfl) h7)
          have h8 : xv 8 = .int .i64 0 := (H 8 (.edge (by kernel_rfl))).2
          have f19 : F.tmps.getD 19 undef = .int .i64 0 := (hF 19).trans (Eq.trans (by kernel_rfl) h8)
          clear H hN hd hX hF
          refine on_plain rfl ?_
          go_simp
          exact hK.out _ _ rfl trivial (by simpa [upB, upd] using hI)
        refine EachF.cons 11 rfl (fun dn xv W F hF hd hN hX hI H K hK => ?_) ?_
        · have h9 : xv 9 = .pointer (some ⟨b, 0, none⟩) := (H 9 (.edge (by kernel_rfl))).2
          have f20 : F.tmps.getD 20 undef = .pointer (some ⟨b, 0, none⟩) := (hF 20).trans (Eq.trans (by kernel_rfl) h9)
          clear H hN hd hX hF
          refine on_plain rfl ?_
          go_simp
          exact hK.out _ _ rfl trivial (by simpa [upB, upd] using hI)
        refine EachF.cons 12 rfl (fun dn xv W F hF hd hN hX hI H K hK => ?_) ?_
        · have h10 : xv 10 = .pointer (some ⟨b, 2, none⟩) := (H 10 (.edge (by kernel_rfl))).2
          have f21 : F.tmps.getD 21 undef = .pointer (some ⟨b, 2, none⟩) := (hF 21).trans (Eq.trans (by kernel_rfl) h10)
          clear H hN hd hX hF
          refine on_plain rfl ?_
          go_simp
          exact hK.out _ _ rfl trivial (by simpa [upB, upd] using hI)
        refine EachF.cons 13 rfl (fun dn xv W F hF hd hN hX hI H K hK => ?_) ?_
        · have h11 : xv 11 = .pointer (some ⟨b, 11, none⟩) := (H 11 (.edge (by kernel_rfl))).2
          have f22 : F.tmps.getD 22 undef = .pointer (some ⟨b, 11, none⟩) := (hF 22).trans (Eq.trans (by kernel_rfl) h11)
          have k11 := (hI.bel.cell (p := ⟨b, 11, none⟩) HLT.out).trans HC11.out
          clear H hN hd hX hF
          refine on_plain rfl ?_
          go_simp
          exact hK.out _ _ rfl trivial (by simpa [upB, upd] using hI)
        refine EachF.cons 14 rfl (fun dn xv W F hF hd hN hX hI H K hK => ?_) ?_
        · have h12 : xv 12 = .slice A nf c := (H 12 (.edge (by kernel_rfl))).2
          have f23 : F.tmps.getD 23 undef = .slice A nf c := (hF 23).trans (Eq.trans (by kernel_rfl) h12)
          clear H hN hd hX hF
          refine on_plain rfl ?_
          go_simp
          exact hK.out _ _ rfl trivial (by simpa [upB, upd] using hI)
        refine EachF.cons 15 rfl (fun dn xv W F hF hd hN hX hI H K hK => ?_) ?_
        · have h6 : xv 6 = .int .i64 (nb : Int) := (H 6 (.edge (by kernel_rfl))).2
          have f17 : F.tmps.getD 17 undef = .int .i64 (nb : Int) := (hF 17).trans (Eq.trans (by kernel_rfl) h6)
          have h13 : xv 13 = .int .i64 (nf : Int) := (H 13 (.edge (by kernel_rfl))).2
          have f24 : F.tmps.getD 24 undef = .int .i64 (nf : Int) := (hF 24).trans (Eq.trans (by kernel_rfl) h13)
          clear H hN hd hX hF
          refine on_plain rfl ?_
          go_simp
          rw [show IntKind.i64.wrap ((nb : Int) + (nf : Int)) = (s : Int) by rw [IntKind.wrap_i64]; have := HQ.out.1; omega]
          exact hK.out _ _ rfl trivial (by simpa [upB, upd] using hI)
        refine EachF.cons 16 rfl (fun dn xv W F hF hd hN hX hI H K hK => ?_) ?_
        · have h14 : xv 14 = .int .i64 (s : Int) := (H 14 (.edge (by kernel_rfl))).2
          have f25 : F.tmps.getD 25 undef = .int .i64 (s : Int) := (hF 25).trans (Eq.trans (by kernel_rfl) h14)
          clear H hN hd hX hF
          refine on_plain rfl ?_
          go_simp
          rw [show IntKind.i64.wrap ((s : Int) / 512) = (q : Int) by rw [IntKind.wrap_i64]; have := HQ.out; omega]
          exact hK.out _ _ rfl trivial (by simpa [upB, upd] using hI)
        refine EachF.cons 17 rfl (fun dn xv W F hF hd hN hX hI H K hK => ?_) ?_
        · have h15 : xv 15 = .int .i64 (q : Int) := (H 15 (.edge (by kernel_rfl))).2
          have f26 : F.tmps.getD 26 undef = .int .i64 (q : Int) := (hF 26).trans (Eq.trans (by kernel_rfl) h15)
          clear H hN hd hX hF
          refine on_plain rfl ?_
          go_simp
          rw [show IntKind.i64.wrap (1 + (q : Int)) = (q1 : Int) by rw [IntKind.wrap_i64]; have := HQ.out; omega]
          exact hK.out _ _ rfl trivial (by simpa [upB, upd] using hI)
        refine EachF.cons 18 rfl (fun dn xv W F hF hd hN hX hI H K hK => ?_) ?_
        · have h0 : xv 0 = .int .i64 0 := (H 0 (.edge (by kernel_rfl))).2
          have f11 : F.tmps.getD 11 undef = .int .i64 0 := (hF 11).trans (Eq.trans (by kernel_rfl) h0)
          have h16 : xv 16 = .int .i64 (q1 : Int) := (H 16 (.edge (by kernel_rfl))).2
          have f27 : F.tmps.getD 27 undef = .int .i64 (q1 : Int) := (hF 27).trans (Eq.trans (by kernel_rfl) h16)
          clear H hN hd hX hF
          refine on_plain rfl ?_
          go_simp
          rw [show IntKind.i64.wrap (q1 : Int) = (q1 : Int) by rw [IntKind.wrap_i64]; have := HQ.out; omega]
          exact hK.out _ _ rfl trivial (by simpa [upB, upd] using hI)
        refine EachF.cons 19 rfl (fun dn xv W F hF hd hN hX hI H K hK => ?_) ?_
        · have h17 : xv 17 = .int .i64 (q1 : Int) := (H 17 (.edge (by kernel_rfl))).2
          have f28 : F.tmps.getD 28 undef = .int .i64 (q1 : Int) := (hF 28).trans (Eq.trans (by kernel_rfl) h17)
          clear H hN hd hX hF
          refine on_plain rfl ?_
          go_simp
          exact hK.out _ _ rfl trivial (by simpa [upB, upd] using hI)
        exact EachF.nil
      · intro dn xv W hI H
        have q18 : xv 18 = .int .i64 (q1 : Int) := (H 18 (of_decide_eq_true (by kernel_rfl))).2
        have hS : Sep w W [] := hI
        clear H hI
        simp only [putAll, Act.put, List.setIfInBounds_toArray, List.set_cons_zero, List.set_cons_succ, Nat.reduceAdd, q18]
        clear q18
        have HS := Lib.hid hS
        clear hS
        by_cases hq4 : 400 < q1
        · go_wp2_with fail
          go_ret
          exact ⟨_, rfl, HS.out.bel⟩
        · go_wp2_with fail
          go_roundw
          case rel => exact ⟨1, by omega, rfl, HS, .inr rfl⟩
          case measure => simp [intOf]
    · subst hk1
      go_wp2_with fail
      go_ret
      exact ⟨_, rfl, HB.out.bel⟩
end Go.Proofs.Ytngegjboenfmeaa
