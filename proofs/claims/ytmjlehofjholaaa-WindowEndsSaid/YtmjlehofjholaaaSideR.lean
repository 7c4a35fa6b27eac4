/- side.right; fine; WindowOrder. -/
import Derived.Test.YtmjlehofjholaaaSideF
namespace Go.Proofs.Ytmjlehofjholaaa
open Go Go.RowKit Go.Shelf
set_option linter.unusedVariables false
set_option maxRecDepth 100000
attribute [local go_sem] Oper.semAt_some

theorem strs_cell {w : World} {B : Nat} {A : Option Addr} {l : List (List UInt8)} (h : Has w B A (strs l)) {k : Nat} (hk : k < l.length) : ∃ b o, A = some ⟨b, o, none⟩ ∧ b < B ∧ w.cell? ⟨b, o + k, none⟩ = some (.string ⟨l[k].toArray⟩) := by
  obtain ⟨b, o, e, hb, h1⟩ := h _ _ (strs_at hk)
  exact ⟨b, o, e, hb, h1⟩

set_option maxHeartbeats 2000000 in
theorem right_any (B0 : Nat) (w : World) (g : Nat) (s : St) (hs : Side B0 w g s) (bodies : List (List UInt8)) (hI : Inv bodies s) :
    Calls Try.prog 25 #[.pointer (some ⟨g, 0, none⟩)] w fun e w' => e = .returned (.bool true) ∧ Below w.heap.size w w' := by
  obtain ⟨vB, vP, vT, vW, hs⟩ := hs
  have hpl := hI.plen
  have hf3 := hI.fit.1
  have hsum := hI.sum
  have h48 := hI.b48
  have htl := hI.tl
  have hbt := hI.bt
  have hgt := hI.got
  have HTK := Lib.hid hI.tk
  obtain ⟨AB, cB, rfl, b1, b2, _⟩ := hs.box.form hI.fitB.all
  obtain ⟨AP, cP, rfl, p1, p2, hhP⟩ := row_form hs.ps
  obtain ⟨AT, cT, rfl, t1, t2, hhT⟩ := row_form hs.ts
  have hgl := hs.lt
  have H6 := Lib.hid hs.six
  have HHP := Lib.hid hhP
  have HHT := Lib.hid hhT
  have e1 : decide (s.pushed.length < s.taken.length) = false := decide_eq_false (by omega)
  have e2 : decide (s.taken.length < s.base) = false := decide_eq_false (by omega)
  have e3 : ((s.base : Int) + (s.box.length : Int) != (s.pushed.length : Int)) = false := by simp; omega
  have e4 : ((s.got : Int) != (s.taken.length : Int)) = false := by simp; omega
  have x1 : IntKind.u64.wrap (s.taken.length : Int) = (s.taken.length : Int) := u64_wrap (by omega) (by omega)
  have x2 : IntKind.u64.wrap (s.box.length : Int) = (s.box.length : Int) := u64_wrap (by omega) (by omega)
  have x3 : IntKind.u64.wrap (s.pushed.length : Int) = (s.pushed.length : Int) := u64_wrap (by omega) (by omega)
  have x4 : IntKind.u64.wrap ((s.base : Int) + (s.box.length : Int)) = (s.base : Int) + (s.box.length : Int) := u64_wrap (by omega) (by omega)
  have k4 := hs.six.c4
  have ht3 : s.taken.length ≤ 300 := by omega
  clear hs hI hhP hhT hsum hgt
  go_enter Try.func25, Try.ntmps25
  go_wp2_with fail
  refine wp_region_f (fun dn xv W => Below w.heap.size w W) (fun _ _ => True) [fun v _ => v = .pointer (some ⟨g, 0, none⟩), fun v _ => v = .pointer (some ⟨g, 0, none⟩), fun v _ => v = .pointer (some ⟨g, 4, none⟩), fun v _ => v = .slice AT s.taken.length cT, fun v _ => v = .int .i64 (s.taken.length : Int), fun v _ => v = .pointer (some ⟨g, 0, none⟩), fun v _ => v = .pointer (some ⟨g, 0, none⟩), fun v _ => v = .pointer (some ⟨g, 3, none⟩), fun v _ => v = .slice AP s.pushed.length cP, fun v _ => v = .int .i64 (s.pushed.length : Int), fun v _ => v = .bool false, fun v _ => v = .bool false, fun v _ => v = .pointer (some ⟨g, 0, none⟩), fun v _ => v = .pointer (some ⟨g, 0, none⟩), fun v _ => v = .pointer (some ⟨g, 0, none⟩), fun v _ => v = .pointer (some ⟨g, 0, none⟩), fun v _ => v = .int .u64 (s.base : Int), fun v _ => v = .pointer (some ⟨g, 0, none⟩), fun v _ => v = .pointer (some ⟨g, 0, none⟩), fun v _ => v = .pointer (some ⟨g, 4, none⟩), fun v _ => v = .slice AT s.taken.length cT, fun v _ => v = .int .i64 (s.taken.length : Int), fun v _ => v = .int .u64 (s.taken.length : Int), fun v _ => v = .bool false, fun v _ => v = .bool false, fun v _ => v = .bool false, fun v _ => v = .pointer (some ⟨g, 0, none⟩), fun v _ => v = .pointer (some ⟨g, 0, none⟩), fun v _ => v = .pointer (some ⟨g, 0, none⟩), fun v _ => v = .pointer (some ⟨g, 0, none⟩), fun v _ => v = .int .u64 (s.base : Int), fun v _ => v = .pointer (some ⟨g, 0, none⟩), fun v _ => v = .pointer (some ⟨g, 0, none⟩), fun v _ => v = .pointer (some ⟨g, 0, none⟩), fun v _ => v = .pointer (some ⟨g, 1, none⟩), fun v _ => v = .slice AB s.box.length cB, fun v _ => v = .int .i64 (s.box.length : Int), fun v _ => v = .int .u64 (s.box.length : Int), fun v _ => v = .int .u64 ((s.base : Int) + (s.box.length : Int)), fun v _ => v = .pointer (some ⟨g, 0, none⟩), fun v _ => v = .pointer (some ⟨g, 0, none⟩), fun v _ => v = .pointer (some ⟨g, 3, none⟩), fun v _ => v = .slice AP s.pushed.length cP, fun v _ => v = .int .i64 (s.pushed.length : Int), fun v _ => v = .int .u64 (s.pushed.length : Int), fun v _ => v = .bool false, fun v _ => v = .bool false, fun v _ => v = .bool false, fun v _ => v = .pointer (some ⟨g, 0, none⟩), fun v _ => v = .pointer (some ⟨g, 0, none⟩), fun v _ => v = .pointer (some ⟨g, 2, none⟩), fun v _ => v = .pointer (some ⟨g, 2, none⟩), fun v _ => v = .int .u64 (s.got : Int), fun v _ => v = .pointer (some ⟨g, 0, none⟩), fun v _ => v = .pointer (some ⟨g, 0, none⟩), fun v _ => v = .pointer (some ⟨g, 4, none⟩), fun v _ => v = .slice AT s.taken.length cT, fun v _ => v = .int .i64 (s.taken.length : Int), fun v _ => v = .int .u64 (s.taken.length : Int), fun v _ => v = .bool false, fun v _ => v = .bool false] (by kernel_rfl) (by kernel_rfl) (by kernel_rfl) (by kernel_rfl) (fun xv => by simpa using (Below.refl _ w).drew)
    (by exact ⟨fun _ _ _ _ h => h, fun _ _ _ _ h => h, fun _ _ _ _ h => h, fun _ _ _ _ h => h, fun _ _ _ _ h => h, fun _ _ _ _ h => h, fun _ _ _ _ h => h, fun _ _ _ _ h => h, fun _ _ _ _ h => h, fun _ _ _ _ h => h, fun _ _ _ _ h => h, fun _ _ _ _ h => h, fun _ _ _ _ h => h, fun _ _ _ _ h => h, fun _ _ _ _ h => h, fun _ _ _ _ h => h, fun _ _ _ _ h => h, fun _ _ _ _ h => h, fun _ _ _ _ h => h, fun _ _ _ _ h => h, fun _ _ _ _ h => h, fun _ _ _ _ h => h, fun _ _ _ _ h => h, fun _ _ _ _ h => h, fun _ _ _ _ h => h, fun _ _ _ _ h => h, fun _ _ _ _ h => h, fun _ _ _ _ h => h, fun _ _ _ _ h => h, fun _ _ _ _ h => h, fun _ _ _ _ h => h, fun _ _ _ _ h => h, fun _ _ _ _ h => h, fun _ _ _ _ h => h, fun _ _ _ _ h => h, fun _ _ _ _ h => h, fun _ _ _ _ h => h, fun _ _ _ _ h => h, fun _ _ _ _ h => h, fun _ _ _ _ h => h, fun _ _ _ _ h => h, fun _ _ _ _ h => h, fun _ _ _ _ h => h, fun _ _ _ _ h => h, fun _ _ _ _ h => h, fun _ _ _ _ h => h, fun _ _ _ _ h => h, fun _ _ _ _ h => h, fun _ _ _ _ h => h, fun _ _ _ _ h => h, fun _ _ _ _ h => h, fun _ _ _ _ h => h, fun _ _ _ _ h => h, fun _ _ _ _ h => h, fun _ _ _ _ h => h, fun _ _ _ _ h => h, fun _ _ _ _ h => h, fun _ _ _ _ h => h, fun _ _ _ _ h => h, fun _ _ _ _ h => h, fun _ _ _ _ h => h, trivial⟩) ?_ ?_
  · refine EachF.cons 1 rfl (fun dn xv W F hF hd hN hX hI H K hK => ?_) ?_
    · have f0 : F.tmps.getD 0 undef = .pointer (some ⟨g, 0, none⟩) := (hF 0).trans (by kernel_rfl)
      clear H hN hd hX hF
      refine on_plain rfl ?_
      go_simp
      exact hK.out _ _ rfl trivial (by simpa [upB, upd] using hI)
    refine EachF.cons 2 rfl (fun dn xv W F hF hd hN hX hI H K hK => ?_) ?_
    · have h0 : xv 0 = .pointer (some ⟨g, 0, none⟩) := (H 0 (.edge (by kernel_rfl))).2
      have f4 : F.tmps.getD 4 undef = .pointer (some ⟨g, 0, none⟩) := (hF 4).trans (Eq.trans (by kernel_rfl) h0)
      clear H hN hd hX hF
      refine on_plain rfl ?_
      go_simp
      exact hK.out _ _ rfl trivial (by simpa [upB, upd] using hI)
    refine EachF.cons 3 rfl (fun dn xv W F hF hd hN hX hI H K hK => ?_) ?_
    · have h1 : xv 1 = .pointer (some ⟨g, 0, none⟩) := (H 1 (.edge (by kernel_rfl))).2
      have f5 : F.tmps.getD 5 undef = .pointer (some ⟨g, 0, none⟩) := (hF 5).trans (Eq.trans (by kernel_rfl) h1)
      clear H hN hd hX hF
      refine on_plain rfl ?_
      go_simp
      exact hK.out _ _ rfl trivial (by simpa [upB, upd] using hI)
    refine EachF.cons 4 rfl (fun dn xv W F hF hd hN hX hI H K hK => ?_) ?_
    · have h2 : xv 2 = .pointer (some ⟨g, 4, none⟩) := (H 2 (.edge (by kernel_rfl))).2
      have f6 : F.tmps.getD 6 undef = .pointer (some ⟨g, 4, none⟩) := (hF 6).trans (Eq.trans (by kernel_rfl) h2)
      have hc4 := (H6.out.below hI hgl).c4
      clear H hN hd hX hF
      refine on_plain rfl ?_
      go_simp
      exact hK.out _ _ rfl trivial (by simpa [upB, upd] using hI)
    refine EachF.cons 5 rfl (fun dn xv W F hF hd hN hX hI H K hK => ?_) ?_
    · have h3 : xv 3 = .slice AT s.taken.length cT := (H 3 (.edge (by kernel_rfl))).2
      have f7 : F.tmps.getD 7 undef = .slice AT s.taken.length cT := (hF 7).trans (Eq.trans (by kernel_rfl) h3)
      clear H hN hd hX hF
      refine on_plain rfl ?_
      go_simp
      exact hK.out _ _ rfl trivial (by simpa [upB, upd] using hI)
    refine EachF.cons 6 rfl (fun dn xv W F hF hd hN hX hI H K hK => ?_) ?_
    · have f0 : F.tmps.getD 0 undef = .pointer (some ⟨g, 0, none⟩) := (hF 0).trans (by kernel_rfl)
      clear H hN hd hX hF
      refine on_plain rfl ?_
      go_simp
      exact hK.out _ _ rfl trivial (by simpa [upB, upd] using hI)
    refine EachF.cons 7 rfl (fun dn xv W F hF hd hN hX hI H K hK => ?_) ?_
    · have h5 : xv 5 = .pointer (some ⟨g, 0, none⟩) := (H 5 (.edge (by kernel_rfl))).2
      have f9 : F.tmps.getD 9 undef = .pointer (some ⟨g, 0, none⟩) := (hF 9).trans (Eq.trans (by kernel_rfl) h5)
      clear H hN hd hX hF
      refine on_plain rfl ?_
      go_simp
      exact hK.out _ _ rfl trivial (by simpa [upB, upd] using hI)
    refine EachF.cons 8 rfl (fun dn xv W F hF hd hN hX hI H K hK => ?_) ?_
    · have h6 : xv 6 = .pointer (some ⟨g, 0, none⟩) := (H 6 (.edge (by kernel_rfl))).2
      have f10 : F.tmps.getD 10 undef = .pointer (some ⟨g, 0, none⟩) := (hF 10).trans (Eq.trans (by kernel_rfl) h6)
      clear H hN hd hX hF
      refine on_plain rfl ?_
      go_simp
      exact hK.out _ _ rfl trivial (by simpa [upB, upd] using hI)
    refine EachF.cons 9 rfl (fun dn xv W F hF hd hN hX hI H K hK => ?_) ?_
    · have h7 : xv 7 = .pointer (some ⟨g, 3, none⟩) := (H 7 (.edge (by kernel_rfl))).2
      have f11 : F.tmps.getD 11 undef = .pointer (some ⟨g, 3, none⟩) := (hF 11).trans (Eq.trans (by kernel_rfl) h7)
      have hc4 := (H6.out.below hI hgl).c3
      clear H hN hd hX hF
      refine on_plain rfl ?_
      go_simp
      exact hK.out _ _ rfl trivial (by simpa [upB, upd] using hI)
    refine EachF.cons 10 rfl (fun dn xv W F hF hd hN hX hI H K hK => ?_) ?_
    · have h8 : xv 8 = .slice AP s.pushed.length cP := (H 8 (.edge (by kernel_rfl))).2
      have f12 : F.tmps.getD 12 undef = .slice AP s.pushed.length cP := (hF 12).trans (Eq.trans (by kernel_rfl) h8)
      clear H hN hd hX hF
      refine on_plain rfl ?_
      go_simp
      exact hK.out _ _ rfl trivial (by simpa [upB, upd] using hI)
    refine EachF.cons 11 rfl (fun dn xv W F hF hd hN hX hI H K hK => ?_) ?_
    · have h4 : xv 4 = .int .i64 (s.taken.length : Int) := (H 4 (.edge (by kernel_rfl))).2
      have f8 : F.tmps.getD 8 undef = .int .i64 (s.taken.length : Int) := (hF 8).trans (Eq.trans (by kernel_rfl) h4)
      have h9 : xv 9 = .int .i64 (s.pushed.length : Int) := (H 9 (.edge (by kernel_rfl))).2
      have f13 : F.tmps.getD 13 undef = .int .i64 (s.pushed.length : Int) := (hF 13).trans (Eq.trans (by kernel_rfl) h9)
      clear H hN hd hX hF
      refine on_plain rfl ?_
      go_simp
      exact hK.out _ _ rfl trivial (by simpa [upB, upd] using hI)
    refine EachF.cons 12 rfl (fun dn xv W F hF hd hN hX hI H K hK => ?_) ?_
    · have h10 : xv 10 = .bool false := (H 10 (.edge (by kernel_rfl))).2
      have f14 : F.tmps.getD 14 undef = .bool false := (hF 14).trans (Eq.trans (by kernel_rfl) h10)
      clear H hN hd hX hF
      refine on_plain rfl ?_
      go_simp
      exact hK.out _ _ rfl trivial (by simpa [upB, upd] using hI)
    refine EachF.cons 13 rfl (fun dn xv W F hF hd hN hX hI H K hK => ?_) ?_
    · have f0 : F.tmps.getD 0 undef = .pointer (some ⟨g, 0, none⟩) := (hF 0).trans (by kernel_rfl)
      have h11 : xv 11 = .bool false := (H 11 (.edge (by kernel_rfl))).2
      have f15 : F.tmps.getD 15 undef = .bool false := (hF 15).trans (Eq.trans (by kernel_rfl) h11)
      clear H hN hd hX hF
      refine on_guard rfl (by kernel_rfl) f15 ?_
      go_simp
      exact hK.out _ _ rfl trivial (by simpa [upB, upd] using hI)
    refine EachF.cons 14 rfl (fun dn xv W F hF hd hN hX hI H K hK => ?_) ?_
    · have h12 : xv 12 = .pointer (some ⟨g, 0, none⟩) := (H 12 (.edge (by kernel_rfl))).2
      have f16 : F.tmps.getD 16 undef = .pointer (some ⟨g, 0, none⟩) := (hF 16).trans (Eq.trans (by kernel_rfl) h12)
      have h11 : xv 11 = .bool false := (H 11 (.edge (by kernel_rfl))).2
      have f15 : F.tmps.getD 15 undef = .bool false := (hF 15).trans (Eq.trans (by kernel_rfl) h11)
      clear H hN hd hX hF
      refine on_guard rfl (by kernel_rfl) f15 ?_
      go_simp
      exact hK.out _ _ rfl trivial (by simpa [upB, upd] using hI)
    refine EachF.cons 15 rfl (fun dn xv W F hF hd hN hX hI H K hK => ?_) ?_
    · have h13 : xv 13 = .pointer (some ⟨g, 0, none⟩) := (H 13 (.edge (by kernel_rfl))).2
      have f17 : F.tmps.getD 17 undef = .pointer (some ⟨g, 0, none⟩) := (hF 17).trans (Eq.trans (by kernel_rfl) h13)
      have h11 : xv 11 = .bool false := (H 11 (.edge (by kernel_rfl))).2
      have f15 : F.tmps.getD 15 undef = .bool false := (hF 15).trans (Eq.trans (by kernel_rfl) h11)
      clear H hN hd hX hF
      refine on_guard rfl (by kernel_rfl) f15 ?_
      go_simp
      exact hK.out _ _ rfl trivial (by simpa [upB, upd] using hI)
    refine EachF.cons 16 rfl (fun dn xv W F hF hd hN hX hI H K hK => ?_) ?_
    · have h14 : xv 14 = .pointer (some ⟨g, 0, none⟩) := (H 14 (.edge (by kernel_rfl))).2
      have f18 : F.tmps.getD 18 undef = .pointer (some ⟨g, 0, none⟩) := (hF 18).trans (Eq.trans (by kernel_rfl) h14)
      have h11 : xv 11 = .bool false := (H 11 (.edge (by kernel_rfl))).2
      have f15 : F.tmps.getD 15 undef = .bool false := (hF 15).trans (Eq.trans (by kernel_rfl) h11)
      clear H hN hd hX hF
      refine on_guard rfl (by kernel_rfl) f15 ?_
      go_simp
      exact hK.out _ _ rfl trivial (by simpa [upB, upd] using hI)
    refine EachF.cons 17 rfl (fun dn xv W F hF hd hN hX hI H K hK => ?_) ?_
    · have h15 : xv 15 = .pointer (some ⟨g, 0, none⟩) := (H 15 (.edge (by kernel_rfl))).2
      have f19 : F.tmps.getD 19 undef = .pointer (some ⟨g, 0, none⟩) := (hF 19).trans (Eq.trans (by kernel_rfl) h15)
      have h11 : xv 11 = .bool false := (H 11 (.edge (by kernel_rfl))).2
      have f15 : F.tmps.getD 15 undef = .bool false := (hF 15).trans (Eq.trans (by kernel_rfl) h11)
      have hc4 := (H6.out.below hI hgl).c0
      clear H hN hd hX hF
      refine on_guard rfl (by kernel_rfl) f15 ?_
      go_simp
      exact hK.out _ _ rfl trivial (by simpa [upB, upd] using hI)
    refine EachF.cons 18 rfl (fun dn xv W F hF hd hN hX hI H K hK => ?_) ?_
    · have f0 : F.tmps.getD 0 undef = .pointer (some ⟨g, 0, none⟩) := (hF 0).trans (by kernel_rfl)
      have h11 : xv 11 = .bool false := (H 11 (.edge (by kernel_rfl))).2
      have f15 : F.tmps.getD 15 undef = .bool false := (hF 15).trans (Eq.trans (by kernel_rfl) h11)
      clear H hN hd hX hF
      refine on_guard rfl (by kernel_rfl) f15 ?_
      go_simp
      exact hK.out _ _ rfl trivial (by simpa [upB, upd] using hI)
    refine EachF.cons 19 rfl (fun dn xv W F hF hd hN hX hI H K hK => ?_) ?_
    · have h17 : xv 17 = .pointer (some ⟨g, 0, none⟩) := (H 17 (.edge (by kernel_rfl))).2
      have f21 : F.tmps.getD 21 undef = .pointer (some ⟨g, 0, none⟩) := (hF 21).trans (Eq.trans (by kernel_rfl) h17)
      have h11 : xv 11 = .bool false := (H 11 (.edge (by kernel_rfl))).2
      have f15 : F.tmps.getD 15 undef = .bool false := (hF 15).trans (Eq.trans (by kernel_rfl) h11)
      clear H hN hd hX hF
      refine on_guard rfl (by kernel_rfl) f15 ?_
      go_simp
      exact hK.out _ _ rfl trivial (by simpa [upB, upd] using hI)
    refine EachF.cons 20 rfl (fun dn xv W F hF hd hN hX hI H K hK => ?_) ?_
    · have h18 : xv 18 = .pointer (some ⟨g, 0, none⟩) := (H 18 (.edge (by kernel_rfl))).2
      have f22 : F.tmps.getD 22 undef = .pointer (some ⟨g, 0, none⟩) := (hF 22).trans (Eq.trans (by kernel_rfl) h18)
      have h11 : xv 11 = .bool false := (H 11 (.edge (by kernel_rfl))).2
      have f15 : F.tmps.getD 15 undef = .bool false := (hF 15).trans (Eq.trans (by kernel_rfl) h11)
      clear H hN hd hX hF
      refine on_guard rfl (by kernel_rfl) f15 ?_
      go_simp
      exact hK.out _ _ rfl trivial (by simpa [upB, upd] using hI)
    refine EachF.cons 21 rfl (fun dn xv W F hF hd hN hX hI H K hK => ?_) ?_
    · have h19 : xv 19 = .pointer (some ⟨g, 4, none⟩) := (H 19 (.edge (by kernel_rfl))).2
      have f23 : F.tmps.getD 23 undef = .pointer (some ⟨g, 4, none⟩) := (hF 23).trans (Eq.trans (by kernel_rfl) h19)
      have h11 : xv 11 = .bool false := (H 11 (.edge (by kernel_rfl))).2
      have f15 : F.tmps.getD 15 undef = .bool false := (hF 15).trans (Eq.trans (by kernel_rfl) h11)
      have hc4 := (H6.out.below hI hgl).c4
      clear H hN hd hX hF
      refine on_guard rfl (by kernel_rfl) f15 ?_
      go_simp
      exact hK.out _ _ rfl trivial (by simpa [upB, upd] using hI)
    refine EachF.cons 22 rfl (fun dn xv W F hF hd hN hX hI H K hK => ?_) ?_
    · have h20 : xv 20 = .slice AT s.taken.length cT := (H 20 (.edge (by kernel_rfl))).2
      have f24 : F.tmps.getD 24 undef = .slice AT s.taken.length cT := (hF 24).trans (Eq.trans (by kernel_rfl) h20)
      have h11 : xv 11 = .bool false := (H 11 (.edge (by kernel_rfl))).2
      have f15 : F.tmps.getD 15 undef = .bool false := (hF 15).trans (Eq.trans (by kernel_rfl) h11)
      clear H hN hd hX hF
      refine on_guard rfl (by kernel_rfl) f15 ?_
      go_simp
      exact hK.out _ _ rfl trivial (by simpa [upB, upd] using hI)
    refine EachF.cons 23 rfl (fun dn xv W F hF hd hN hX hI H K hK => ?_) ?_
    · have h21 : xv 21 = .int .i64 (s.taken.length : Int) := (H 21 (.edge (by kernel_rfl))).2
      have f25 : F.tmps.getD 25 undef = .int .i64 (s.taken.length : Int) := (hF 25).trans (Eq.trans (by kernel_rfl) h21)
      have h11 : xv 11 = .bool false := (H 11 (.edge (by kernel_rfl))).2
      have f15 : F.tmps.getD 15 undef = .bool false := (hF 15).trans (Eq.trans (by kernel_rfl) h11)
      clear H hN hd hX hF
      refine on_guard rfl (by kernel_rfl) f15 ?_
      go_simp
      exact hK.out _ _ rfl trivial (by simpa [upB, upd] using hI)
    refine EachF.cons 24 rfl (fun dn xv W F hF hd hN hX hI H K hK => ?_) ?_
    · have h16 : xv 16 = .int .u64 (s.base : Int) := (H 16 (.edge (by kernel_rfl))).2
      have f20 : F.tmps.getD 20 undef = .int .u64 (s.base : Int) := (hF 20).trans (Eq.trans (by kernel_rfl) h16)
      have h22 : xv 22 = .int .u64 (s.taken.length : Int) := (H 22 (.edge (by kernel_rfl))).2
      have f26 : F.tmps.getD 26 undef = .int .u64 (s.taken.length : Int) := (hF 26).trans (Eq.trans (by kernel_rfl) h22)
      have h11 : xv 11 = .bool false := (H 11 (.edge (by kernel_rfl))).2
      have f15 : F.tmps.getD 15 undef = .bool false := (hF 15).trans (Eq.trans (by kernel_rfl) h11)
      clear H hN hd hX hF
      refine on_guard rfl (by kernel_rfl) f15 ?_
      go_simp
      exact hK.out _ _ rfl trivial (by simpa [upB, upd] using hI)
    refine EachF.cons 25 rfl (fun dn xv W F hF hd hN hX hI H K hK => ?_) ?_
    · have h11 : xv 11 = .bool false := (H 11 (.edge (by kernel_rfl))).2
      have f15 : F.tmps.getD 15 undef = .bool false := (hF 15).trans (Eq.trans (by kernel_rfl) h11)
      have h23 : xv 23 = .bool false := (H 23 (.edge (by kernel_rfl))).2
      have f27 : F.tmps.getD 27 undef = .bool false := (hF 27).trans (Eq.trans (by kernel_rfl) h23)
      clear H hN hd hX hF
      refine on_plain rfl ?_
      go_simp
      exact hK.out _ _ rfl trivial (by simpa [upB, upd] using hI)
    refine EachF.cons 26 rfl (fun dn xv W F hF hd hN hX hI H K hK => ?_) ?_
    · have h24 : xv 24 = .bool false := (H 24 (.edge (by kernel_rfl))).2
      have f28 : F.tmps.getD 28 undef = .bool false := (hF 28).trans (Eq.trans (by kernel_rfl) h24)
      clear H hN hd hX hF
      refine on_plain rfl ?_
      go_simp
      exact hK.out _ _ rfl trivial (by simpa [upB, upd] using hI)
    refine EachF.cons 27 rfl (fun dn xv W F hF hd hN hX hI H K hK => ?_) ?_
    · have f0 : F.tmps.getD 0 undef = .pointer (some ⟨g, 0, none⟩) := (hF 0).trans (by kernel_rfl)
      have h25 : xv 25 = .bool false := (H 25 (.edge (by kernel_rfl))).2
      have f29 : F.tmps.getD 29 undef = .bool false := (hF 29).trans (Eq.trans (by kernel_rfl) h25)
      clear H hN hd hX hF
      refine on_guard rfl (by kernel_rfl) f29 ?_
      go_simp
      exact hK.out _ _ rfl trivial (by simpa [upB, upd] using hI)
    refine EachF.cons 28 rfl (fun dn xv W F hF hd hN hX hI H K hK => ?_) ?_
    · have h26 : xv 26 = .pointer (some ⟨g, 0, none⟩) := (H 26 (.edge (by kernel_rfl))).2
      have f30 : F.tmps.getD 30 undef = .pointer (some ⟨g, 0, none⟩) := (hF 30).trans (Eq.trans (by kernel_rfl) h26)
      have h25 : xv 25 = .bool false := (H 25 (.edge (by kernel_rfl))).2
      have f29 : F.tmps.getD 29 undef = .bool false := (hF 29).trans (Eq.trans (by kernel_rfl) h25)
      clear H hN hd hX hF
      refine on_guard rfl (by kernel_rfl) f29 ?_
      go_simp
      exact hK.out _ _ rfl trivial (by simpa [upB, upd] using hI)
    refine EachF.cons 29 rfl (fun dn xv W F hF hd hN hX hI H K hK => ?_) ?_
    · have h27 : xv 27 = .pointer (some ⟨g, 0, none⟩) := (H 27 (.edge (by kernel_rfl))).2
      have f31 : F.tmps.getD 31 undef = .pointer (some ⟨g, 0, none⟩) := (hF 31).trans (Eq.trans (by kernel_rfl) h27)
      have h25 : xv 25 = .bool false := (H 25 (.edge (by kernel_rfl))).2
      have f29 : F.tmps.getD 29 undef = .bool false := (hF 29).trans (Eq.trans (by kernel_rfl) h25)
      clear H hN hd hX hF
      refine on_guard rfl (by kernel_rfl) f29 ?_
      go_simp
      exact hK.out _ _ rfl trivial (by simpa [upB, upd] using hI)
    refine EachF.cons 30 rfl (fun dn xv W F hF hd hN hX hI H K hK => ?_) ?_
    · have h28 : xv 28 = .pointer (some ⟨g, 0, none⟩) := (H 28 (.edge (by kernel_rfl))).2
      have f32 : F.tmps.getD 32 undef = .pointer (some ⟨g, 0, none⟩) := (hF 32).trans (Eq.trans (by kernel_rfl) h28)
      have h25 : xv 25 = .bool false := (H 25 (.edge (by kernel_rfl))).2
      have f29 : F.tmps.getD 29 undef = .bool false := (hF 29).trans (Eq.trans (by kernel_rfl) h25)
      clear H hN hd hX hF
      refine on_guard rfl (by kernel_rfl) f29 ?_
      go_simp
      exact hK.out _ _ rfl trivial (by simpa [upB, upd] using hI)
    refine EachF.cons 31 rfl (fun dn xv W F hF hd hN hX hI H K hK => ?_) ?_
    · have h29 : xv 29 = .pointer (some ⟨g, 0, none⟩) := (H 29 (.edge (by kernel_rfl))).2
      have f33 : F.tmps.getD 33 undef = .pointer (some ⟨g, 0, none⟩) := (hF 33).trans (Eq.trans (by kernel_rfl) h29)
      have h25 : xv 25 = .bool false := (H 25 (.edge (by kernel_rfl))).2
      have f29 : F.tmps.getD 29 undef = .bool false := (hF 29).trans (Eq.trans (by kernel_rfl) h25)
      have hc4 := (H6.out.below hI hgl).c0
      clear H hN hd hX hF
      refine on_guard rfl (by kernel_rfl) f29 ?_
      go_simp
      exact hK.out _ _ rfl trivial (by simpa [upB, upd] using hI)
    refine EachF.cons 32 rfl (fun dn xv W F hF hd hN hX hI H K hK => ?_) ?_
    · have f0 : F.tmps.getD 0 undef = .pointer (some ⟨g, 0, none⟩) := (hF 0).trans (by kernel_rfl)
      have h25 : xv 25 = .bool false := (H 25 (.edge (by kernel_rfl))).2
      have f29 : F.tmps.getD 29 undef = .bool false := (hF 29).trans (Eq.trans (by kernel_rfl) h25)
      clear H hN hd hX hF
      refine on_guard rfl (by kernel_rfl) f29 ?_
      go_simp
      exact hK.out _ _ rfl trivial (by simpa [upB, upd] using hI)
    refine EachF.cons 33 rfl (fun dn xv W F hF hd hN hX hI H K hK => ?_) ?_
    · have h31 : xv 31 = .pointer (some ⟨g, 0, none⟩) := (H 31 (.edge (by kernel_rfl))).2
      have f35 : F.tmps.getD 35 undef = .pointer (some ⟨g, 0, none⟩) := (hF 35).trans (Eq.trans (by kernel_rfl) h31)
      have h25 : xv 25 = .bool false := (H 25 (.edge (by kernel_rfl))).2
      have f29 : F.tmps.getD 29 undef = .bool false := (hF 29).trans (Eq.trans (by kernel_rfl) h25)
      clear H hN hd hX hF
      refine on_guard rfl (by kernel_rfl) f29 ?_
      go_simp
      exact hK.out _ _ rfl trivial (by simpa [upB, upd] using hI)
    refine EachF.cons 34 rfl (fun dn xv W F hF hd hN hX hI H K hK => ?_) ?_
    · have h32 : xv 32 = .pointer (some ⟨g, 0, none⟩) := (H 32 (.edge (by kernel_rfl))).2
      have f36 : F.tmps.getD 36 undef = .pointer (some ⟨g, 0, none⟩) := (hF 36).trans (Eq.trans (by kernel_rfl) h32)
      have h25 : xv 25 = .bool false := (H 25 (.edge (by kernel_rfl))).2
      have f29 : F.tmps.getD 29 undef = .bool false := (hF 29).trans (Eq.trans (by kernel_rfl) h25)
      clear H hN hd hX hF
      refine on_guard rfl (by kernel_rfl) f29 ?_
      go_simp
      exact hK.out _ _ rfl trivial (by simpa [upB, upd] using hI)
    refine EachF.cons 35 rfl (fun dn xv W F hF hd hN hX hI H K hK => ?_) ?_
    · have h33 : xv 33 = .pointer (some ⟨g, 0, none⟩) := (H 33 (.edge (by kernel_rfl))).2
      have f37 : F.tmps.getD 37 undef = .pointer (some ⟨g, 0, none⟩) := (hF 37).trans (Eq.trans (by kernel_rfl) h33)
      have h25 : xv 25 = .bool false := (H 25 (.edge (by kernel_rfl))).2
      have f29 : F.tmps.getD 29 undef = .bool false := (hF 29).trans (Eq.trans (by kernel_rfl) h25)
      clear H hN hd hX hF
      refine on_guard rfl (by kernel_rfl) f29 ?_
      go_simp
      exact hK.out _ _ rfl trivial (by simpa [upB, upd] using hI)
    refine EachF.cons 36 rfl (fun dn xv W F hF hd hN hX hI H K hK => ?_) ?_
    · have h34 : xv 34 = .pointer (some ⟨g, 1, none⟩) := (H 34 (.edge (by kernel_rfl))).2
      have f38 : F.tmps.getD 38 undef = .pointer (some ⟨g, 1, none⟩) := (hF 38).trans (Eq.trans (by kernel_rfl) h34)
      have h25 : xv 25 = .bool false := (H 25 (.edge (by kernel_rfl))).2
      have f29 : F.tmps.getD 29 undef = .bool false := (hF 29).trans (Eq.trans (by kernel_rfl) h25)
      have hc4 := (H6.out.below hI hgl).c1
      clear H hN hd hX hF
      refine on_guard rfl (by kernel_rfl) f29 ?_
      go_simp
      exact hK.out _ _ rfl trivial (by simpa [upB, upd] using hI)
    refine EachF.cons 37 rfl (fun dn xv W F hF hd hN hX hI H K hK => ?_) ?_
    · have h35 : xv 35 = .slice AB s.box.length cB := (H 35 (.edge (by kernel_rfl))).2
      have f39 : F.tmps.getD 39 undef = .slice AB s.box.length cB := (hF 39).trans (Eq.trans (by kernel_rfl) h35)
      have h25 : xv 25 = .bool false := (H 25 (.edge (by kernel_rfl))).2
      have f29 : F.tmps.getD 29 undef = .bool false := (hF 29).trans (Eq.trans (by kernel_rfl) h25)
      clear H hN hd hX hF
      refine on_guard rfl (by kernel_rfl) f29 ?_
      go_simp
      exact hK.out _ _ rfl trivial (by simpa [upB, upd] using hI)
    refine EachF.cons 38 rfl (fun dn xv W F hF hd hN hX hI H K hK => ?_) ?_
    · have h36 : xv 36 = .int .i64 (s.box.length : Int) := (H 36 (.edge (by kernel_rfl))).2
      have f40 : F.tmps.getD 40 undef = .int .i64 (s.box.length : Int) := (hF 40).trans (Eq.trans (by kernel_rfl) h36)
      have h25 : xv 25 = .bool false := (H 25 (.edge (by kernel_rfl))).2
      have f29 : F.tmps.getD 29 undef = .bool false := (hF 29).trans (Eq.trans (by kernel_rfl) h25)
      clear H hN hd hX hF
      refine on_guard rfl (by kernel_rfl) f29 ?_
      go_simp
      exact hK.out _ _ rfl trivial (by simpa [upB, upd] using hI)
    refine EachF.cons 39 rfl (fun dn xv W F hF hd hN hX hI H K hK => ?_) ?_
    · have h30 : xv 30 = .int .u64 (s.base : Int) := (H 30 (.edge (by kernel_rfl))).2
      have f34 : F.tmps.getD 34 undef = .int .u64 (s.base : Int) := (hF 34).trans (Eq.trans (by kernel_rfl) h30)
      have h37 : xv 37 = .int .u64 (s.box.length : Int) := (H 37 (.edge (by kernel_rfl))).2
      have f41 : F.tmps.getD 41 undef = .int .u64 (s.box.length : Int) := (hF 41).trans (Eq.trans (by kernel_rfl) h37)
      have h25 : xv 25 = .bool false := (H 25 (.edge (by kernel_rfl))).2
      have f29 : F.tmps.getD 29 undef = .bool false := (hF 29).trans (Eq.trans (by kernel_rfl) h25)
      clear H hN hd hX hF
      refine on_guard rfl (by kernel_rfl) f29 ?_
      go_simp
      exact hK.out _ _ rfl trivial (by simpa [upB, upd] using hI)
    refine EachF.cons 40 rfl (fun dn xv W F hF hd hN hX hI H K hK => ?_) ?_
    · have f0 : F.tmps.getD 0 undef = .pointer (some ⟨g, 0, none⟩) := (hF 0).trans (by kernel_rfl)
      have h25 : xv 25 = .bool false := (H 25 (.edge (by kernel_rfl))).2
      have f29 : F.tmps.getD 29 undef = .bool false := (hF 29).trans (Eq.trans (by kernel_rfl) h25)
      clear H hN hd hX hF
      refine on_guard rfl (by kernel_rfl) f29 ?_
      go_simp
      exact hK.out _ _ rfl trivial (by simpa [upB, upd] using hI)
    refine EachF.cons 41 rfl (fun dn xv W F hF hd hN hX hI H K hK => ?_) ?_
    · have h39 : xv 39 = .pointer (some ⟨g, 0, none⟩) := (H 39 (.edge (by kernel_rfl))).2
      have f43 : F.tmps.getD 43 undef = .pointer (some ⟨g, 0, none⟩) := (hF 43).trans (Eq.trans (by kernel_rfl) h39)
      have h25 : xv 25 = .bool false := (H 25 (.edge (by kernel_rfl))).2
      have f29 : F.tmps.getD 29 undef = .bool false := (hF 29).trans (Eq.trans (by kernel_rfl) h25)
      clear H hN hd hX hF
      refine on_guard rfl (by kernel_rfl) f29 ?_
      go_simp
      exact hK.out _ _ rfl trivial (by simpa [upB, upd] using hI)
    refine EachF.cons 42 rfl (fun dn xv W F hF hd hN hX hI H K hK => ?_) ?_
    · have h40 : xv 40 = .pointer (some ⟨g, 0, none⟩) := (H 40 (.edge (by kernel_rfl))).2
      have f44 : F.tmps.getD 44 undef = .pointer (some ⟨g, 0, none⟩) := (hF 44).trans (Eq.trans (by kernel_rfl) h40)
      have h25 : xv 25 = .bool false := (H 25 (.edge (by kernel_rfl))).2
      have f29 : F.tmps.getD 29 undef = .bool false := (hF 29).trans (Eq.trans (by kernel_rfl) h25)
      clear H hN hd hX hF
      refine on_guard rfl (by kernel_rfl) f29 ?_
      go_simp
      exact hK.out _ _ rfl trivial (by simpa [upB, upd] using hI)
    refine EachF.cons 43 rfl (fun dn xv W F hF hd hN hX hI H K hK => ?_) ?_
    · have h41 : xv 41 = .pointer (some ⟨g, 3, none⟩) := (H 41 (.edge (by kernel_rfl))).2
      have f45 : F.tmps.getD 45 undef = .pointer (some ⟨g, 3, none⟩) := (hF 45).trans (Eq.trans (by kernel_rfl) h41)
      have h25 : xv 25 = .bool false := (H 25 (.edge (by kernel_rfl))).2
      have f29 : F.tmps.getD 29 undef = .bool false := (hF 29).trans (Eq.trans (by kernel_rfl) h25)
      have hc4 := (H6.out.below hI hgl).c3
      clear H hN hd hX hF
      refine on_guard rfl (by kernel_rfl) f29 ?_
      go_simp
      exact hK.out _ _ rfl trivial (by simpa [upB, upd] using hI)
    refine EachF.cons 44 rfl (fun dn xv W F hF hd hN hX hI H K hK => ?_) ?_
    · have h42 : xv 42 = .slice AP s.pushed.length cP := (H 42 (.edge (by kernel_rfl))).2
      have f46 : F.tmps.getD 46 undef = .slice AP s.pushed.length cP := (hF 46).trans (Eq.trans (by kernel_rfl) h42)
      have h25 : xv 25 = .bool false := (H 25 (.edge (by kernel_rfl))).2
      have f29 : F.tmps.getD 29 undef = .bool false := (hF 29).trans (Eq.trans (by kernel_rfl) h25)
      clear H hN hd hX hF
      refine on_guard rfl (by kernel_rfl) f29 ?_
      go_simp
      exact hK.out _ _ rfl trivial (by simpa [upB, upd] using hI)
    refine EachF.cons 45 rfl (fun dn xv W F hF hd hN hX hI H K hK => ?_) ?_
    · have h43 : xv 43 = .int .i64 (s.pushed.length : Int) := (H 43 (.edge (by kernel_rfl))).2
      have f47 : F.tmps.getD 47 undef = .int .i64 (s.pushed.length : Int) := (hF 47).trans (Eq.trans (by kernel_rfl) h43)
      have h25 : xv 25 = .bool false := (H 25 (.edge (by kernel_rfl))).2
      have f29 : F.tmps.getD 29 undef = .bool false := (hF 29).trans (Eq.trans (by kernel_rfl) h25)
      clear H hN hd hX hF
      refine on_guard rfl (by kernel_rfl) f29 ?_
      go_simp
      exact hK.out _ _ rfl trivial (by simpa [upB, upd] using hI)
    refine EachF.cons 46 rfl (fun dn xv W F hF hd hN hX hI H K hK => ?_) ?_
    · have h38 : xv 38 = .int .u64 ((s.base : Int) + (s.box.length : Int)) := (H 38 (.edge (by kernel_rfl))).2
      have f42 : F.tmps.getD 42 undef = .int .u64 ((s.base : Int) + (s.box.length : Int)) := (hF 42).trans (Eq.trans (by kernel_rfl) h38)
      have h44 : xv 44 = .int .u64 (s.pushed.length : Int) := (H 44 (.edge (by kernel_rfl))).2
      have f48 : F.tmps.getD 48 undef = .int .u64 (s.pushed.length : Int) := (hF 48).trans (Eq.trans (by kernel_rfl) h44)
      have h25 : xv 25 = .bool false := (H 25 (.edge (by kernel_rfl))).2
      have f29 : F.tmps.getD 29 undef = .bool false := (hF 29).trans (Eq.trans (by kernel_rfl) h25)
      clear H hN hd hX hF
      refine on_guard rfl (by kernel_rfl) f29 ?_
      go_simp
      exact hK.out _ _ rfl trivial (by simpa [upB, upd] using hI)
    refine EachF.cons 47 rfl (fun dn xv W F hF hd hN hX hI H K hK => ?_) ?_
    · have h25 : xv 25 = .bool false := (H 25 (.edge (by kernel_rfl))).2
      have f29 : F.tmps.getD 29 undef = .bool false := (hF 29).trans (Eq.trans (by kernel_rfl) h25)
      have h45 : xv 45 = .bool false := (H 45 (.edge (by kernel_rfl))).2
      have f49 : F.tmps.getD 49 undef = .bool false := (hF 49).trans (Eq.trans (by kernel_rfl) h45)
      clear H hN hd hX hF
      refine on_plain rfl ?_
      go_simp
      exact hK.out _ _ rfl trivial (by simpa [upB, upd] using hI)
    refine EachF.cons 48 rfl (fun dn xv W F hF hd hN hX hI H K hK => ?_) ?_
    · have h46 : xv 46 = .bool false := (H 46 (.edge (by kernel_rfl))).2
      have f50 : F.tmps.getD 50 undef = .bool false := (hF 50).trans (Eq.trans (by kernel_rfl) h46)
      clear H hN hd hX hF
      refine on_plain rfl ?_
      go_simp
      exact hK.out _ _ rfl trivial (by simpa [upB, upd] using hI)
    refine EachF.cons 49 rfl (fun dn xv W F hF hd hN hX hI H K hK => ?_) ?_
    · have f0 : F.tmps.getD 0 undef = .pointer (some ⟨g, 0, none⟩) := (hF 0).trans (by kernel_rfl)
      have h47 : xv 47 = .bool false := (H 47 (.edge (by kernel_rfl))).2
      have f51 : F.tmps.getD 51 undef = .bool false := (hF 51).trans (Eq.trans (by kernel_rfl) h47)
      clear H hN hd hX hF
      refine on_guard rfl (by kernel_rfl) f51 ?_
      go_simp
      exact hK.out _ _ rfl trivial (by simpa [upB, upd] using hI)
    refine EachF.cons 50 rfl (fun dn xv W F hF hd hN hX hI H K hK => ?_) ?_
    · have h48 : xv 48 = .pointer (some ⟨g, 0, none⟩) := (H 48 (.edge (by kernel_rfl))).2
      have f52 : F.tmps.getD 52 undef = .pointer (some ⟨g, 0, none⟩) := (hF 52).trans (Eq.trans (by kernel_rfl) h48)
      have h47 : xv 47 = .bool false := (H 47 (.edge (by kernel_rfl))).2
      have f51 : F.tmps.getD 51 undef = .bool false := (hF 51).trans (Eq.trans (by kernel_rfl) h47)
      clear H hN hd hX hF
      refine on_guard rfl (by kernel_rfl) f51 ?_
      go_simp
      exact hK.out _ _ rfl trivial (by simpa [upB, upd] using hI)
    refine EachF.cons 51 rfl (fun dn xv W F hF hd hN hX hI H K hK => ?_) ?_
    · have h49 : xv 49 = .pointer (some ⟨g, 0, none⟩) := (H 49 (.edge (by kernel_rfl))).2
      have f53 : F.tmps.getD 53 undef = .pointer (some ⟨g, 0, none⟩) := (hF 53).trans (Eq.trans (by kernel_rfl) h49)
      have h47 : xv 47 = .bool false := (H 47 (.edge (by kernel_rfl))).2
      have f51 : F.tmps.getD 51 undef = .bool false := (hF 51).trans (Eq.trans (by kernel_rfl) h47)
      clear H hN hd hX hF
      refine on_guard rfl (by kernel_rfl) f51 ?_
      go_simp
      exact hK.out _ _ rfl trivial (by simpa [upB, upd] using hI)
    refine EachF.cons 52 rfl (fun dn xv W F hF hd hN hX hI H K hK => ?_) ?_
    · have h50 : xv 50 = .pointer (some ⟨g, 2, none⟩) := (H 50 (.edge (by kernel_rfl))).2
      have f54 : F.tmps.getD 54 undef = .pointer (some ⟨g, 2, none⟩) := (hF 54).trans (Eq.trans (by kernel_rfl) h50)
      have h47 : xv 47 = .bool false := (H 47 (.edge (by kernel_rfl))).2
      have f51 : F.tmps.getD 51 undef = .bool false := (hF 51).trans (Eq.trans (by kernel_rfl) h47)
      clear H hN hd hX hF
      refine on_guard rfl (by kernel_rfl) f51 ?_
      go_simp
      exact hK.out _ _ rfl trivial (by simpa [upB, upd] using hI)
    refine EachF.cons 53 rfl (fun dn xv W F hF hd hN hX hI H K hK => ?_) ?_
    · have h51 : xv 51 = .pointer (some ⟨g, 2, none⟩) := (H 51 (.edge (by kernel_rfl))).2
      have f55 : F.tmps.getD 55 undef = .pointer (some ⟨g, 2, none⟩) := (hF 55).trans (Eq.trans (by kernel_rfl) h51)
      have h47 : xv 47 = .bool false := (H 47 (.edge (by kernel_rfl))).2
      have f51 : F.tmps.getD 51 undef = .bool false := (hF 51).trans (Eq.trans (by kernel_rfl) h47)
      have hc4 := (H6.out.below hI hgl).c2
      clear H hN hd hX hF
      refine on_guard rfl (by kernel_rfl) f51 ?_
      go_simp
      exact hK.out _ _ rfl trivial (by simpa [upB, upd] using hI)
    refine EachF.cons 54 rfl (fun dn xv W F hF hd hN hX hI H K hK => ?_) ?_
    · have f0 : F.tmps.getD 0 undef = .pointer (some ⟨g, 0, none⟩) := (hF 0).trans (by kernel_rfl)
      have h47 : xv 47 = .bool false := (H 47 (.edge (by kernel_rfl))).2
      have f51 : F.tmps.getD 51 undef = .bool false := (hF 51).trans (Eq.trans (by kernel_rfl) h47)
      clear H hN hd hX hF
      refine on_guard rfl (by kernel_rfl) f51 ?_
      go_simp
      exact hK.out _ _ rfl trivial (by simpa [upB, upd] using hI)
    refine EachF.cons 55 rfl (fun dn xv W F hF hd hN hX hI H K hK => ?_) ?_
    · have h53 : xv 53 = .pointer (some ⟨g, 0, none⟩) := (H 53 (.edge (by kernel_rfl))).2
      have f57 : F.tmps.getD 57 undef = .pointer (some ⟨g, 0, none⟩) := (hF 57).trans (Eq.trans (by kernel_rfl) h53)
      have h47 : xv 47 = .bool false := (H 47 (.edge (by kernel_rfl))).2
      have f51 : F.tmps.getD 51 undef = .bool false := (hF 51).trans (Eq.trans (by kernel_rfl) h47)
      clear H hN hd hX hF
      refine on_guard rfl (by kernel_rfl) f51 ?_
      go_simp
      exact hK.out _ _ rfl trivial (by simpa [upB, upd] using hI)
    refine EachF.cons 56 rfl (fun dn xv W F hF hd hN hX hI H K hK => ?_) ?_
    · have h54 : xv 54 = .pointer (some ⟨g, 0, none⟩) := (H 54 (.edge (by kernel_rfl))).2
      have f58 : F.tmps.getD 58 undef = .pointer (some ⟨g, 0, none⟩) := (hF 58).trans (Eq.trans (by kernel_rfl) h54)
      have h47 : xv 47 = .bool false := (H 47 (.edge (by kernel_rfl))).2
      have f51 : F.tmps.getD 51 undef = .bool false := (hF 51).trans (Eq.trans (by kernel_rfl) h47)
      clear H hN hd hX hF
      refine on_guard rfl (by kernel_rfl) f51 ?_
      go_simp
      exact hK.out _ _ rfl trivial (by simpa [upB, upd] using hI)
    refine EachF.cons 57 rfl (fun dn xv W F hF hd hN hX hI H K hK => ?_) ?_
    · have h55 : xv 55 = .pointer (some ⟨g, 4, none⟩) := (H 55 (.edge (by kernel_rfl))).2
      have f59 : F.tmps.getD 59 undef = .pointer (some ⟨g, 4, none⟩) := (hF 59).trans (Eq.trans (by kernel_rfl) h55)
      have h47 : xv 47 = .bool false := (H 47 (.edge (by kernel_rfl))).2
      have f51 : F.tmps.getD 51 undef = .bool false := (hF 51).trans (Eq.trans (by kernel_rfl) h47)
      have hc4 := (H6.out.below hI hgl).c4
      clear H hN hd hX hF
      refine on_guard rfl (by kernel_rfl) f51 ?_
      go_simp
      exact hK.out _ _ rfl trivial (by simpa [upB, upd] using hI)
    refine EachF.cons 58 rfl (fun dn xv W F hF hd hN hX hI H K hK => ?_) ?_
    · have h56 : xv 56 = .slice AT s.taken.length cT := (H 56 (.edge (by kernel_rfl))).2
      have f60 : F.tmps.getD 60 undef = .slice AT s.taken.length cT := (hF 60).trans (Eq.trans (by kernel_rfl) h56)
      have h47 : xv 47 = .bool false := (H 47 (.edge (by kernel_rfl))).2
      have f51 : F.tmps.getD 51 undef = .bool false := (hF 51).trans (Eq.trans (by kernel_rfl) h47)
      clear H hN hd hX hF
      refine on_guard rfl (by kernel_rfl) f51 ?_
      go_simp
      exact hK.out _ _ rfl trivial (by simpa [upB, upd] using hI)
    refine EachF.cons 59 rfl (fun dn xv W F hF hd hN hX hI H K hK => ?_) ?_
    · have h57 : xv 57 = .int .i64 (s.taken.length : Int) := (H 57 (.edge (by kernel_rfl))).2
      have f61 : F.tmps.getD 61 undef = .int .i64 (s.taken.length : Int) := (hF 61).trans (Eq.trans (by kernel_rfl) h57)
      have h47 : xv 47 = .bool false := (H 47 (.edge (by kernel_rfl))).2
      have f51 : F.tmps.getD 51 undef = .bool false := (hF 51).trans (Eq.trans (by kernel_rfl) h47)
      clear H hN hd hX hF
      refine on_guard rfl (by kernel_rfl) f51 ?_
      go_simp
      exact hK.out _ _ rfl trivial (by simpa [upB, upd] using hI)
    refine EachF.cons 60 rfl (fun dn xv W F hF hd hN hX hI H K hK => ?_) ?_
    · have h52 : xv 52 = .int .u64 (s.got : Int) := (H 52 (.edge (by kernel_rfl))).2
      have f56 : F.tmps.getD 56 undef = .int .u64 (s.got : Int) := (hF 56).trans (Eq.trans (by kernel_rfl) h52)
      have h58 : xv 58 = .int .u64 (s.taken.length : Int) := (H 58 (.edge (by kernel_rfl))).2
      have f62 : F.tmps.getD 62 undef = .int .u64 (s.taken.length : Int) := (hF 62).trans (Eq.trans (by kernel_rfl) h58)
      have h47 : xv 47 = .bool false := (H 47 (.edge (by kernel_rfl))).2
      have f51 : F.tmps.getD 51 undef = .bool false := (hF 51).trans (Eq.trans (by kernel_rfl) h47)
      clear H hN hd hX hF
      refine on_guard rfl (by kernel_rfl) f51 ?_
      go_simp
      exact hK.out _ _ rfl trivial (by simpa [upB, upd] using hI)
    refine EachF.cons 61 rfl (fun dn xv W F hF hd hN hX hI H K hK => ?_) ?_
    · have h47 : xv 47 = .bool false := (H 47 (.edge (by kernel_rfl))).2
      have f51 : F.tmps.getD 51 undef = .bool false := (hF 51).trans (Eq.trans (by kernel_rfl) h47)
      have h59 : xv 59 = .bool false := (H 59 (.edge (by kernel_rfl))).2
      have f63 : F.tmps.getD 63 undef = .bool false := (hF 63).trans (Eq.trans (by kernel_rfl) h59)
      clear H hN hd hX hF
      refine on_plain rfl ?_
      go_simp
      exact hK.out _ _ rfl trivial (by simpa [upB, upd] using hI)
    exact EachF.nil
  · intro dn xv W hI H
    have q60 : xv 60 = .bool false := (H 60 (of_decide_eq_true (by kernel_rfl))).2
    have hS : Below w.heap.size w W := hI
    clear H hI
    simp only [putAll, Act.put, List.setIfInBounds_toArray, List.set_cons_zero, List.set_cons_succ, Nat.reduceAdd, q60]
    clear q60
    clear e1 e2 e3 e4 x1 x2 x3 x4
    have HB1 := Lib.hid hS
    clear hS k4
    go_wp2_with fail
    go_loopw [3] (fun i wr => ∃ k : Nat, k ≤ s.taken.length ∧ i = .int .i64 (k : Int) ∧ Below w.heap.size w wr) (fun i _ => s.taken.length - (intOf i).toNat)
    case atStart => exact ⟨0, by omega, rfl, HB1.out⟩
    case round =>
      obtain ⟨k, hk, rfl, hb⟩ := hrel
      have k4 := (H6.out.below hb hgl).c4
      by_cases hlt : k < s.taken.length
      · have hltp : k < s.pushed.length := by omega
        obtain ⟨bt, ot, rfl, hbt2, ct⟩ := strs_cell HHT.out hlt
        obtain ⟨bp, op, rfl, hbp2, cp⟩ := strs_cell HHP.out hltp
        have exy : s.taken[k] = s.pushed[k] := by
          have h := HTK.out
          have h2 := congrArg (fun l => l[k]?) h
          simp only [List.getElem?_eq_getElem hlt, List.getElem?_take, if_pos hlt, List.getElem?_eq_getElem hltp, Option.some.injEq] at h2
          exact h2
        rw [exy] at ct
        generalize s.pushed[k] = bd at ct cp
        have i0 : (0 : Int) ≤ (k : Int) := by omega
        have i1 : (k : Int) < (s.taken.length : Int) := by omega
        have i2 : (k : Int) < (s.pushed.length : Int) := by omega
        have HB := Lib.hid hb
        clear exy
        go_wp2_with fail
        refine wp_region_f (fun dn xv W => Below w.heap.size w W) (fun _ _ => True) [fun v _ => v = .pointer (some ⟨g, 0, none⟩), fun v _ => v = .pointer (some ⟨g, 0, none⟩), fun v _ => v = .pointer (some ⟨g, 4, none⟩), fun v _ => v = .slice (some ⟨bt, ot, none⟩) s.taken.length cT, fun v _ => v = .int .i64 (k : Int), fun v _ => v = .pointer (some ⟨bt, ot + k, none⟩), fun v _ => v = .string ⟨bd.toArray⟩, fun v _ => v = .pointer (some ⟨g, 0, none⟩), fun v _ => v = .pointer (some ⟨g, 0, none⟩), fun v _ => v = .pointer (some ⟨g, 3, none⟩), fun v _ => v = .slice (some ⟨bp, op, none⟩) s.pushed.length cP, fun v _ => v = .int .i64 (k : Int), fun v _ => v = .pointer (some ⟨bp, op + k, none⟩), fun v _ => v = .string ⟨bd.toArray⟩, fun v _ => v = .bool false] (by kernel_rfl) (by kernel_rfl) (by kernel_rfl) (by kernel_rfl) (fun xv => by simpa using HB.out.drew)
          (by exact ⟨fun _ _ _ _ h => h, fun _ _ _ _ h => h, fun _ _ _ _ h => h, fun _ _ _ _ h => h, fun _ _ _ _ h => h, fun _ _ _ _ h => h, fun _ _ _ _ h => h, fun _ _ _ _ h => h, fun _ _ _ _ h => h, fun _ _ _ _ h => h, fun _ _ _ _ h => h, fun _ _ _ _ h => h, fun _ _ _ _ h => h, fun _ _ _ _ h => h, fun _ _ _ _ h => h, trivial⟩) ?_ ?_
        · refine EachF.cons 1 rfl (fun dn xv W F hF hd hN hX hI H K hK => ?_) ?_
          · have f0 : F.tmps.getD 0 undef = .pointer (some ⟨g, 0, none⟩) := (hF 0).trans (by kernel_rfl)
            clear H hN hd hX hF
            refine on_plain rfl ?_
            go_simp
            exact hK.out _ _ rfl trivial (by simpa [upB, upd] using hI)
          refine EachF.cons 2 rfl (fun dn xv W F hF hd hN hX hI H K hK => ?_) ?_
          · have h0 : xv 0 = .pointer (some ⟨g, 0, none⟩) := (H 0 (.edge (by kernel_rfl))).2
            have f74 : F.tmps.getD 74 undef = .pointer (some ⟨g, 0, none⟩) := (hF 74).trans (Eq.trans (by kernel_rfl) h0)
            clear H hN hd hX hF
            refine on_plain rfl ?_
            go_simp
            exact hK.out _ _ rfl trivial (by simpa [upB, upd] using hI)
          refine EachF.cons 3 rfl (fun dn xv W F hF hd hN hX hI H K hK => ?_) ?_
          · have h1 : xv 1 = .pointer (some ⟨g, 0, none⟩) := (H 1 (.edge (by kernel_rfl))).2
            have f75 : F.tmps.getD 75 undef = .pointer (some ⟨g, 0, none⟩) := (hF 75).trans (Eq.trans (by kernel_rfl) h1)
            clear H hN hd hX hF
            refine on_plain rfl ?_
            go_simp
            exact hK.out _ _ rfl trivial (by simpa [upB, upd] using hI)
          refine EachF.cons 4 rfl (fun dn xv W F hF hd hN hX hI H K hK => ?_) ?_
          · have h2 : xv 2 = .pointer (some ⟨g, 4, none⟩) := (H 2 (.edge (by kernel_rfl))).2
            have f76 : F.tmps.getD 76 undef = .pointer (some ⟨g, 4, none⟩) := (hF 76).trans (Eq.trans (by kernel_rfl) h2)
            have hc4 := (H6.out.below hI hgl).c4
            clear H hN hd hX hF
            refine on_plain rfl ?_
            go_simp
            exact hK.out _ _ rfl trivial (by simpa [upB, upd] using hI)
          refine EachF.cons 5 rfl (fun dn xv W F hF hd hN hX hI H K hK => ?_) ?_
          · have f3 : F.tmps.getD 3 undef = .int .i64 (k : Int) := (hF 3).trans (by kernel_rfl)
            clear H hN hd hX hF
            refine on_plain rfl ?_
            go_simp
            exact hK.out _ _ rfl trivial (by simpa [upB, upd] using hI)
          refine EachF.cons 6 rfl (fun dn xv W F hF hd hN hX hI H K hK => ?_) ?_
          · have h3 : xv 3 = .slice (some ⟨bt, ot, none⟩) s.taken.length cT := (H 3 (.edge (by kernel_rfl))).2
            have f77 : F.tmps.getD 77 undef = .slice (some ⟨bt, ot, none⟩) s.taken.length cT := (hF 77).trans (Eq.trans (by kernel_rfl) h3)
            have h4 : xv 4 = .int .i64 (k : Int) := (H 4 (.edge (by kernel_rfl))).2
            have f78 : F.tmps.getD 78 undef = .int .i64 (k : Int) := (hF 78).trans (Eq.trans (by kernel_rfl) h4)
            clear H hN hd hX hF
            refine on_plain rfl ?_
            go_simp
            exact hK.out _ _ rfl trivial (by simpa [upB, upd] using hI)
          refine EachF.cons 7 rfl (fun dn xv W F hF hd hN hX hI H K hK => ?_) ?_
          · have h5 : xv 5 = .pointer (some ⟨bt, ot + k, none⟩) := (H 5 (.edge (by kernel_rfl))).2
            have f79 : F.tmps.getD 79 undef = .pointer (some ⟨bt, ot + k, none⟩) := (hF 79).trans (Eq.trans (by kernel_rfl) h5)
            have hc5 := (hI.cell (p := ⟨bt, ot + k, none⟩) hbt2).trans ct
            clear H hN hd hX hF
            refine on_plain rfl ?_
            go_simp
            exact hK.out _ _ rfl trivial (by simpa [upB, upd] using hI)
          refine EachF.cons 8 rfl (fun dn xv W F hF hd hN hX hI H K hK => ?_) ?_
          · have f0 : F.tmps.getD 0 undef = .pointer (some ⟨g, 0, none⟩) := (hF 0).trans (by kernel_rfl)
            clear H hN hd hX hF
            refine on_plain rfl ?_
            go_simp
            exact hK.out _ _ rfl trivial (by simpa [upB, upd] using hI)
          refine EachF.cons 9 rfl (fun dn xv W F hF hd hN hX hI H K hK => ?_) ?_
          · have h7 : xv 7 = .pointer (some ⟨g, 0, none⟩) := (H 7 (.edge (by kernel_rfl))).2
            have f81 : F.tmps.getD 81 undef = .pointer (some ⟨g, 0, none⟩) := (hF 81).trans (Eq.trans (by kernel_rfl) h7)
            clear H hN hd hX hF
            refine on_plain rfl ?_
            go_simp
            exact hK.out _ _ rfl trivial (by simpa [upB, upd] using hI)
          refine EachF.cons 10 rfl (fun dn xv W F hF hd hN hX hI H K hK => ?_) ?_
          · have h8 : xv 8 = .pointer (some ⟨g, 0, none⟩) := (H 8 (.edge (by kernel_rfl))).2
            have f82 : F.tmps.getD 82 undef = .pointer (some ⟨g, 0, none⟩) := (hF 82).trans (Eq.trans (by kernel_rfl) h8)
            clear H hN hd hX hF
            refine on_plain rfl ?_
            go_simp
            exact hK.out _ _ rfl trivial (by simpa [upB, upd] using hI)
          refine EachF.cons 11 rfl (fun dn xv W F hF hd hN hX hI H K hK => ?_) ?_
          · have h9 : xv 9 = .pointer (some ⟨g, 3, none⟩) := (H 9 (.edge (by kernel_rfl))).2
            have f83 : F.tmps.getD 83 undef = .pointer (some ⟨g, 3, none⟩) := (hF 83).trans (Eq.trans (by kernel_rfl) h9)
            have hc4 := (H6.out.below hI hgl).c3
            clear H hN hd hX hF
            refine on_plain rfl ?_
            go_simp
            exact hK.out _ _ rfl trivial (by simpa [upB, upd] using hI)
          refine EachF.cons 12 rfl (fun dn xv W F hF hd hN hX hI H K hK => ?_) ?_
          · have f3 : F.tmps.getD 3 undef = .int .i64 (k : Int) := (hF 3).trans (by kernel_rfl)
            clear H hN hd hX hF
            refine on_plain rfl ?_
            go_simp
            exact hK.out _ _ rfl trivial (by simpa [upB, upd] using hI)
          refine EachF.cons 13 rfl (fun dn xv W F hF hd hN hX hI H K hK => ?_) ?_
          · have h10 : xv 10 = .slice (some ⟨bp, op, none⟩) s.pushed.length cP := (H 10 (.edge (by kernel_rfl))).2
            have f84 : F.tmps.getD 84 undef = .slice (some ⟨bp, op, none⟩) s.pushed.length cP := (hF 84).trans (Eq.trans (by kernel_rfl) h10)
            have h11 : xv 11 = .int .i64 (k : Int) := (H 11 (.edge (by kernel_rfl))).2
            have f85 : F.tmps.getD 85 undef = .int .i64 (k : Int) := (hF 85).trans (Eq.trans (by kernel_rfl) h11)
            clear H hN hd hX hF
            refine on_plain rfl ?_
            go_simp
            exact hK.out _ _ rfl trivial (by simpa [upB, upd] using hI)
          refine EachF.cons 14 rfl (fun dn xv W F hF hd hN hX hI H K hK => ?_) ?_
          · have h12 : xv 12 = .pointer (some ⟨bp, op + k, none⟩) := (H 12 (.edge (by kernel_rfl))).2
            have f86 : F.tmps.getD 86 undef = .pointer (some ⟨bp, op + k, none⟩) := (hF 86).trans (Eq.trans (by kernel_rfl) h12)
            have hc5 := (hI.cell (p := ⟨bp, op + k, none⟩) hbp2).trans cp
            clear H hN hd hX hF
            refine on_plain rfl ?_
            go_simp
            exact hK.out _ _ rfl trivial (by simpa [upB, upd] using hI)
          refine EachF.cons 15 rfl (fun dn xv W F hF hd hN hX hI H K hK => ?_) ?_
          · have h6 : xv 6 = .string ⟨bd.toArray⟩ := (H 6 (.edge (by kernel_rfl))).2
            have f80 : F.tmps.getD 80 undef = .string ⟨bd.toArray⟩ := (hF 80).trans (Eq.trans (by kernel_rfl) h6)
            have h13 : xv 13 = .string ⟨bd.toArray⟩ := (H 13 (.edge (by kernel_rfl))).2
            have f87 : F.tmps.getD 87 undef = .string ⟨bd.toArray⟩ := (hF 87).trans (Eq.trans (by kernel_rfl) h13)
            clear H hN hd hX hF
            refine on_plain rfl ?_
            go_simp
            exact hK.out _ _ rfl trivial (by simpa [upB, upd] using hI)
          exact EachF.nil
        · intro dn xv W hI H
          have q14 : xv 14 = .bool false := (H 14 (of_decide_eq_true (by kernel_rfl))).2
          have hS : Below w.heap.size w W := hI
          clear H hI
          simp only [putAll, Act.put, List.setIfInBounds_toArray, List.set_cons_zero, List.set_cons_succ, Nat.reduceAdd, q14]
          clear q14
          clear k4
          go_wp2_with fail
          go_roundw
          case rel => exact ⟨k + 1, by omega, by go_num, hS⟩
          case measure => simp [intOf]; omega
      · go_wp2_with fail
        go_ret
        exact ⟨rfl, hb⟩

set_option maxHeartbeats 800000 in
theorem fine_any (w : World) (B : Nat) (A : Option Addr) (c : Nat) (L : List (List UInt8)) (A2 : Option Addr) (n2 c2 : Nat) (h : Bx w B A L) (hm : L.length ≤ maxLen) (hn2 : n2 ≤ maxLen) :
    Calls Try.prog 23 #[.slice A L.length c, .slice A2 n2 c2] w fun e w' => ((e = .returned (.bool true) ∧ L.length ≤ 300 ∧ n2 ≤ 2000 ∧ ∀ b ∈ L, bodyB b = true) ∨ e = .returned (.bool false)) ∧ w = w' := by
  unfold maxLen at hm hn2
  have H := Lib.hid h
  clear h
  by_cases h3 : 300 < L.length
  · have e1 : decide ((300 : Int) < (L.length : Int)) = true := decide_eq_true (by omega)
    go_enter Try.func23, Try.ntmps23
    go_wp2
    go_ret
    exact ⟨.inr rfl, rfl⟩
  have e1 : decide ((300 : Int) < (L.length : Int)) = false := decide_eq_false (by omega)
  by_cases h2 : 2000 < n2
  · have e2 : decide ((2000 : Int) < (n2 : Int)) = true := decide_eq_true (by omega)
    go_enter Try.func23, Try.ntmps23
    go_wp2
    go_ret
    exact ⟨.inr rfl, rfl⟩
  have e2 : decide ((2000 : Int) < (n2 : Int)) = false := decide_eq_false (by omega)
  go_enter Try.func23, Try.ntmps23
  go_wp2
  clear e1 e2
  go_loop [5] (fun i => ∃ k : Nat, k ≤ L.length ∧ i = .int .i64 (k : Int) ∧ okTo L k) (fun i => L.length - (intOf i).toNat)
  case atStart => exact ⟨0, by omega, rfl, okTo_zero L⟩
  case round =>
    obtain ⟨k, hk, rfl, ho⟩ := hrel
    by_cases hlt : k < L.length
    · obtain ⟨b, o, A1, c1, rfl, hbB, hc, q1, q2, q3, hh⟩ := H.out.at_ hlt
      have HS := Lib.hid (@okTo_succ L k ho hlt)
      clear hh ho
      generalize L[k] = l at hc q1 q3 HS
      unfold maxLen at q2
      by_cases g3 : l.length < 1
      · have g3' : decide ((l.length : Int) < 1) = true := decide_eq_true (by omega)
        go_wp2
        go_ret
        exact ⟨.inr rfl, rfl⟩
      · have g3' : decide ((l.length : Int) < 1) = false := decide_eq_false (by omega)
        by_cases g4 : 448 < l.length
        · have g4' : decide ((448 : Int) < (l.length : Int)) = true := decide_eq_true (by omega)
          go_wp2
          go_ret
          exact ⟨.inr rfl, rfl⟩
        · have g4' : decide ((448 : Int) < (l.length : Int)) = false := decide_eq_false (by omega)
          go_wp2
          go_round
          case rel => exact ⟨k + 1, by omega, by go_num, HS.out (body_yes (by omega) (by omega))⟩
          case measure => simp [intOf]; omega
    · go_wp2
      go_ret
      have := all_end ho (by omega)
      exact ⟨.inl ⟨rfl, by omega, by omega, fun b hb => List.all_eq_true.1 this b hb⟩, rfl⟩
end Go.Proofs.Ytmjlehofjholaaa
