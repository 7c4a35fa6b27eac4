/- The walk of the law FrameMay. -/
import Derived.Test.YtcjafbpgjlcdpaaDoorFrmW
import Derived.Test.YtcjafbpgjlcdpaaDoorRgF
namespace Go.Proofs.YtcjafbpgjlcdpaaDoor
open Go Go.RowKit
set_option linter.unusedVariables false
set_option maxRecDepth 100000
set_option linter.unusedSimpArgs false

theorem mayRb {w : World} {f : Fr} {A : Option Addr} {c : Nat} {b : Bool} (hb : f.may = b) (hl : f.body.length ≤ maxLen) : Calls Tryd.prog 11 #[.agg (f.cells A c)] w fun e w' => e = .returned (.bool b) ∧ Below w.heap.size w w' := by
  have h := mayR (w := w) (A := A) (c := c) hl
  rw [hb] at h
  exact h
set_option maxHeartbeats 1600000 in
theorem frameMay_walk (w : World) (hT : Table w) (kind fr to : Int) (inc conn pinc pconn ack seq : Nat) (A : Option Addr) (c : Nat) (body : List UInt8) (hl : body.length ≤ maxLen) :
    Calls Tryd.prog 3 #[.agg ((Fr.mk kind fr to inc conn pinc pconn ack seq body).cells A c)] w fun e w' => e = .returned (.bool true) ∧ Below w.heap.size w w' := by
  have HT := Lib.hid hT
  have HL := Lib.hid hl
  clear hT hl
  obtain ⟨mb, HM⟩ : ∃ b, Hid ((Fr.mk kind fr to inc conn pinc pconn ack seq body).may = b) := ⟨_, Lib.hid rfl⟩
  have HS0 := Lib.hid (show Sep w (w.alloc (.cells #[.int .i64 kind, .int .i64 fr, .int .i64 to, .int .u64 (inc : Int), .int .u64 (conn : Int), .int .u64 (pinc : Int), .int .u64 (pconn : Int), .int .u64 (ack : Int), .int .u64 (seq : Int), .slice A body.length c] 25)) [Ce w.heap.size 25 #[.int .i64 kind, .int .i64 fr, .int .i64 to, .int .u64 (inc : Int), .int .u64 (conn : Int), .int .u64 (pinc : Int), .int .u64 (pconn : Int), .int .u64 (ack : Int), .int .u64 (seq : Int), .slice A body.length c]] from sep_ce (Sep.nil w) #[.int .i64 kind, .int .i64 fr, .int .i64 to, .int .u64 (inc : Int), .int .u64 (conn : Int), .int .u64 (pinc : Int), .int .u64 (pconn : Int), .int .u64 (ack : Int), .int .u64 (seq : Int), .slice A body.length c] 25)
  simp only [Fr.cells]
  go_enter Tryd.func3, Tryd.ntmps3
  go_wp2_with fail
  refine wp_region_f (fun dn xv W => Sep w W [Ce w.heap.size 25 #[.int .i64 kind, .int .i64 fr, .int .i64 to, .int .u64 (inc : Int), .int .u64 (conn : Int), .int .u64 (pinc : Int), .int .u64 (pconn : Int), .int .u64 (ack : Int), .int .u64 (seq : Int), .slice A body.length c]]) (fun _ _ => True) [fun v _ => v = .agg #[.int .i64 kind, .int .i64 fr, .int .i64 to, .int .u64 (inc : Int), .int .u64 (conn : Int), .int .u64 (pinc : Int), .int .u64 (pconn : Int), .int .u64 (ack : Int), .int .u64 (seq : Int), .slice A body.length c], fun v _ => v = .bool mb, fun v _ => v = .agg #[.int .i64 kind, .int .i64 fr, .int .i64 to, .int .u64 (inc : Int), .int .u64 (conn : Int), .int .u64 (pinc : Int), .int .u64 (pconn : Int), .int .u64 (ack : Int), .int .u64 (seq : Int), .slice A body.length c], fun v _ => v = .bool mb, fun v _ => v = .bool true, fun v _ => v = .bool true, fun v _ => v = .bool true, fun v _ => v = .bool true, fun v _ => v = .bool true] (by kernel_rfl) (by kernel_rfl) (by kernel_rfl) (by kernel_rfl) (fun xv => by simpa using HS0.out.drew)
    (by exact ⟨fun _ _ _ _ h => h, fun _ _ _ _ h => h, fun _ _ _ _ h => h, fun _ _ _ _ h => h, fun _ _ _ _ h => h, fun _ _ _ _ h => h, fun _ _ _ _ h => h, fun _ _ _ _ h => h, fun _ _ _ _ h => h, trivial⟩) ?_ ?_
  · refine EachF.cons 1 rfl (fun dn xv W F hF hd hN hX hI H K hK => ?_) ?_
    · have f1 : F.tmps.getD 1 undef = .pointer (some ⟨w.heap.size, 0, none⟩) := (hF 1).trans (by kernel_rfl)
      have k0 := sep_ceAt (i := 0) hI rfl 0 rfl
      have k1 := sep_ceAt (i := 0) hI rfl 1 rfl
      have k2 := sep_ceAt (i := 0) hI rfl 2 rfl
      have k3 := sep_ceAt (i := 0) hI rfl 3 rfl
      have k4 := sep_ceAt (i := 0) hI rfl 4 rfl
      have k5 := sep_ceAt (i := 0) hI rfl 5 rfl
      have k6 := sep_ceAt (i := 0) hI rfl 6 rfl
      have k7 := sep_ceAt (i := 0) hI rfl 7 rfl
      have k8 := sep_ceAt (i := 0) hI rfl 8 rfl
      have k9 := sep_ceAt (i := 0) hI rfl 9 rfl
      clear H hN hd hX hF
      refine on_plain rfl ?_
      go_simp
      exact hK.out _ _ rfl trivial (by simpa [upB, upd] using hI)
    refine EachF.cons 2 rfl (fun dn xv W F hF hd hN hX hI H K hK => ?_) ?_
    · have h0 : xv 0 = .agg #[.int .i64 kind, .int .i64 fr, .int .i64 to, .int .u64 (inc : Int), .int .u64 (conn : Int), .int .u64 (pinc : Int), .int .u64 (pconn : Int), .int .u64 (ack : Int), .int .u64 (seq : Int), .slice A body.length c] := (H 0 (.edge (by kernel_rfl))).2
      have f3 : F.tmps.getD 3 undef = .agg #[.int .i64 kind, .int .i64 fr, .int .i64 to, .int .u64 (inc : Int), .int .u64 (conn : Int), .int .u64 (pinc : Int), .int .u64 (pconn : Int), .int .u64 (ack : Int), .int .u64 (seq : Int), .slice A body.length c] := (hF 3).trans (Eq.trans (by kernel_rfl) h0)
      clear H hN hd hX hF
      refine on_plain rfl ?_
      go_simp
      refine (mayFb (w := W) (f := (Fr.mk kind fr to inc conn pinc pconn ack seq body)) (A := A) (c := c) HM.out HL.out).mono ?_
      rintro e W' ⟨rfl, hb⟩
      exact hK.out _ W' rfl trivial (by simpa [upB, upd] using hI.grow hb)
    refine EachF.cons 3 rfl (fun dn xv W F hF hd hN hX hI H K hK => ?_) ?_
    · have f1 : F.tmps.getD 1 undef = .pointer (some ⟨w.heap.size, 0, none⟩) := (hF 1).trans (by kernel_rfl)
      have k0 := sep_ceAt (i := 0) hI rfl 0 rfl
      have k1 := sep_ceAt (i := 0) hI rfl 1 rfl
      have k2 := sep_ceAt (i := 0) hI rfl 2 rfl
      have k3 := sep_ceAt (i := 0) hI rfl 3 rfl
      have k4 := sep_ceAt (i := 0) hI rfl 4 rfl
      have k5 := sep_ceAt (i := 0) hI rfl 5 rfl
      have k6 := sep_ceAt (i := 0) hI rfl 6 rfl
      have k7 := sep_ceAt (i := 0) hI rfl 7 rfl
      have k8 := sep_ceAt (i := 0) hI rfl 8 rfl
      have k9 := sep_ceAt (i := 0) hI rfl 9 rfl
      clear H hN hd hX hF
      refine on_plain rfl ?_
      go_simp
      exact hK.out _ _ rfl trivial (by simpa [upB, upd] using hI)
    refine EachF.cons 4 rfl (fun dn xv W F hF hd hN hX hI H K hK => ?_) ?_
    · have h2 : xv 2 = .agg #[.int .i64 kind, .int .i64 fr, .int .i64 to, .int .u64 (inc : Int), .int .u64 (conn : Int), .int .u64 (pinc : Int), .int .u64 (pconn : Int), .int .u64 (ack : Int), .int .u64 (seq : Int), .slice A body.length c] := (H 2 (.edge (by kernel_rfl))).2
      have f5 : F.tmps.getD 5 undef = .agg #[.int .i64 kind, .int .i64 fr, .int .i64 to, .int .u64 (inc : Int), .int .u64 (conn : Int), .int .u64 (pinc : Int), .int .u64 (pconn : Int), .int .u64 (ack : Int), .int .u64 (seq : Int), .slice A body.length c] := (hF 5).trans (Eq.trans (by kernel_rfl) h2)
      clear H hN hd hX hF
      refine on_plain rfl ?_
      go_simp
      refine (mayRb (w := W) (f := (Fr.mk kind fr to inc conn pinc pconn ack seq body)) (A := A) (c := c) HM.out HL.out).mono ?_
      rintro e W' ⟨rfl, hb⟩
      exact hK.out _ W' rfl trivial (by simpa [upB, upd] using hI.grow hb)
    refine EachF.cons 5 rfl (fun dn xv W F hF hd hN hX hI H K hK => ?_) ?_
    · have h1 : xv 1 = .bool mb := (H 1 (.edge (by kernel_rfl))).2
      have f4 : F.tmps.getD 4 undef = .bool mb := (hF 4).trans (Eq.trans (by kernel_rfl) h1)
      have h3 : xv 3 = .bool mb := (H 3 (.edge (by kernel_rfl))).2
      have f6 : F.tmps.getD 6 undef = .bool mb := (hF 6).trans (Eq.trans (by kernel_rfl) h3)
      clear H hN hd hX hF
      refine on_plain rfl ?_
      go_simp
      exact hK.out _ _ rfl trivial (by simpa [upB, upd] using hI)
    refine EachF.cons 6 rfl (fun dn xv W F hF hd hN hX hI H K hK => ?_) ?_
    · have h4 : xv 4 = .bool true := (H 4 (.edge (by kernel_rfl))).2
      have f7 : F.tmps.getD 7 undef = .bool true := (hF 7).trans (Eq.trans (by kernel_rfl) h4)
      clear H hN hd hX hF
      refine on_plain rfl ?_
      go_simp
      exact hK.out _ _ rfl trivial (by simpa [upB, upd] using hI)
    refine EachF.cons 7 rfl (fun dn xv W F hF hd hN hX hI H K hK => ?_) ?_
    · have h5 : xv 5 = .bool true := (H 5 (.edge (by kernel_rfl))).2
      have f8 : F.tmps.getD 8 undef = .bool true := (hF 8).trans (Eq.trans (by kernel_rfl) h5)
      clear H hN hd hX hF
      refine on_guard rfl (by kernel_rfl) f8 ?_
      go_simp
      refine (awake5 W (HT.out.below hI.bel HT.out.lt)).mono ?_
      rintro e W' ⟨rfl, hb⟩
      exact hK.out _ W' rfl trivial (by simpa [upB, upd] using hI.grow hb)
    refine EachF.cons 8 rfl (fun dn xv W F hF hd hN hX hI H K hK => ?_) ?_
    · have h5 : xv 5 = .bool true := (H 5 (.edge (by kernel_rfl))).2
      have f8 : F.tmps.getD 8 undef = .bool true := (hF 8).trans (Eq.trans (by kernel_rfl) h5)
      have h6 : xv 6 = .bool true := (H 6 (.edge (by kernel_rfl))).2
      have f9 : F.tmps.getD 9 undef = .bool true := (hF 9).trans (Eq.trans (by kernel_rfl) h6)
      clear H hN hd hX hF
      refine on_plain rfl ?_
      go_simp
      exact hK.out _ _ rfl trivial (by simpa [upB, upd] using hI)
    refine EachF.cons 9 rfl (fun dn xv W F hF hd hN hX hI H K hK => ?_) ?_
    · have h7 : xv 7 = .bool true := (H 7 (.edge (by kernel_rfl))).2
      have f10 : F.tmps.getD 10 undef = .bool true := (hF 10).trans (Eq.trans (by kernel_rfl) h7)
      clear H hN hd hX hF
      refine on_plain rfl ?_
      go_simp
      exact hK.out _ _ rfl trivial (by simpa [upB, upd] using hI)
    exact EachF.nil
  · intro dn xv W hI H
    have q8 : xv 8 = .bool true := (H 8 (of_decide_eq_true (by kernel_rfl))).2
    have hS : Sep w W [Ce w.heap.size 25 #[.int .i64 kind, .int .i64 fr, .int .i64 to, .int .u64 (inc : Int), .int .u64 (conn : Int), .int .u64 (pinc : Int), .int .u64 (pconn : Int), .int .u64 (ack : Int), .int .u64 (seq : Int), .slice A body.length c]] := hI
    clear H hI
    simp only [putAll, Act.put, List.setIfInBounds_toArray, List.set_cons_zero, List.set_cons_succ, Nat.reduceAdd, q8]
    clear q8
    go_wp2_with fail
    go_ret
    exact ⟨rfl, hS.bel⟩
end Go.Proofs.YtcjafbpgjlcdpaaDoor
