/- Part 4 of the texts of a claim: RkE Sm Spl Kno LnkVa LnkVb -/
import Derived.Test.YtngegjboenfmeaaPd1
import Derived.Test.YtngegjboenfmeaaPd2
import Derived.Test.YtngegjboenfmeaaPd3
namespace Go.Proofs.Ytngegjboenfmeaa
open Go Go.RowKit
set_option linter.unusedVariables false
set_option maxRecDepth 100000
set_option linter.unusedSimpArgs false

theorem up_self {t : LS} (h : t.up = true) : ({ t with up := true } : LS) = t := by
 cases t
 simp only at h; subst h; rfl
theorem fresh_same {t : LS} (hs : t.Num) : t.fresh t.last = [] := by
 rw [← freshN_all hs]; have hd : ∀ k, k ≤ min t.box.length 8 → freshN t t.last k = [] := by
  intro k
  induction k with
  | zero => intro _; exact freshN_zero _ _
  | succ k ih =>
   intro h1; obtain ⟨l, _, hl⟩ := fresh_at hs (k := k) (by omega); rw [freshN_no hl (by simp only [LS.last]; omega)]; exact ih (by omega)
 exact hd _ (Nat.le_refl _)
theorem fresh_old {t : LS} (hs : t.Num) (f : Fr) (h : ((t.take3 f).take4 f).base ≤ t.base) : ((t.take3 f).take4 f).fresh t.last = [] := by
 have e4 : ∀ v : LS, (v.take4 f).base = v.base ∧ ∀ n, (v.take4 f).fresh n = v.fresh n := fun v => by
  unfold LS.take4; split <;> exact ⟨rfl, fun n => rfl⟩
 rw [(e4 _).1] at h; rw [(e4 _).2]; cases ha : ackB t.base t.box f.ack with
 | false =>
  obtain ⟨e1, e2⟩ := ack_no ha; have := fresh_same hs; simp only [LS.fresh, LS.due, LS.take3, e1, e2] at this ⊢; exact this
 | true =>
  exfalso; obtain ⟨e1, e2⟩ := ack_yes ha; simp only [LS.take3, e2] at h; simp only [ackB, Bool.and_eq_true, decide_eq_true_eq] at ha; omega
theorem take5_all {t : LS} (hs : t.Num) (now : Nat) (f : Fr) : t.take5 now f = (if ((t.take3 f).take4 f).fresh t.last = [] then (t.take3 f).take4 f else { (t.take3 f).take4 f with sent := now }) ∧
  t.take5F f = (((t.take3 f).take4 f).fresh t.last).map ((t.take3 f).take4 f).data ++ if t.helloBack f then [((t.take3 f).take4 f).hello] else [] := by
 by_cases hb : ((t.take3 f).take4 f).base ≤ t.base
 ·have h0 := fresh_old hs f hb; unfold LS.take5 LS.take5F; simp only [h0, hb, if_true, true_or, List.map_nil]; exact ⟨trivial, trivial⟩
 ·unfold LS.take5 LS.take5F; simp only [hb, or_false, if_false]; exact ⟨trivial, trivial⟩
/-- Acked's answer, ahead of the store -/
def AckS (v : Value) (w0 W : World) (b : Nat) (ok : Bool) (L : List (List UInt8)) (Ps : List SP) : Prop :=
 ∃ A c, v = .tuple #[.agg #[.int .u64 (b : Int), .slice A L.length c], .bool ok] ∧ Sep w0 W (BoxR (.slice A L.length c) L :: Ps)
def AckS2 (v : Value) (w0 W : World) (b : Nat) (L : List (List UInt8)) (Ps : List SP) : Prop :=
 ∃ A c, v = .agg #[.int .u64 (b : Int), .slice A L.length c] ∧ Sep w0 W (BoxR (.slice A L.length c) L :: Ps)
theorem sep_dlBox {w0 w : World} {q n : Nat} {Qs : List SP} {s : LS} {bx v vF vE : Value} {LP : List (Fr × Value)} {LE : List (Ev × Value)} {M : List (List UInt8)} (h : Sep w0 w (BoxR v M :: DL q Qs s bx vF vE LP LE)) :
  Sep w0 ((w.setCell ⟨q, 7, none⟩ (.int .u64 (n : Int))).setCell ⟨q, 8, none⟩ v) (DL q Qs { s with base := n, box := M } v vF vE LP LE) :=
 ((cS (i := 1) (cS (i := 1) h rfl 7 (.int .u64 (n : Int))) rfl 8 v).drop 2).tF 1 rfl
theorem DLS.rot {w0 w : World} {q : Nat} {Qs : List SP} {s : LS} {F : List Fr} {E : List Ev} {P P' X : SP} (h : DLS w0 w q (P :: P' :: X :: Qs) s F E) : DLS w0 w q (X :: P :: P' :: Qs) s F E := by
 obtain ⟨_, _, _, _, _, e1, e2, h⟩ := h; exact ⟨_, _, _, _, _, e1, e2, ((((((h.tF 8 rfl).tF 6 rfl).tF 6 rfl).tF 6 rfl).tF 6 rfl).tF 6 rfl).tF 6 rfl⟩
theorem DLS.unrot {w0 w : World} {q : Nat} {Qs : List SP} {s : LS} {F : List Fr} {E : List Ev} {P P' X : SP} (h : DLS w0 w q (X :: P :: P' :: Qs) s F E) : DLS w0 w q (P :: P' :: X :: Qs) s F E := by
 obtain ⟨_, _, _, _, _, e1, e2, h⟩ := h; exact ⟨_, _, _, _, _, e1, e2, (((((((h.tF 8 rfl).tF 8 rfl).tF 7 rfl).tF 7 rfl).tF 7 rfl).tF 7 rfl).tF 7 rfl).tF 7 rfl⟩
set_option maxHeartbeats 6400000 in
theorem rk_take {w0 w : World} {q now : Nat} {X : SP} {Qs : List SP} {s : LS} {f : Fr} {CA : Option Addr} {cc : Nat} (h : DL0 w0 w q (X :: Qs) s) (hX : Reads X CA f.body) (hs : s.Num) (hbl : f.body.length ≤ 1000000) (hack : f.ack < 18446744073709551616) (hseq : f.seq < 18446744073709551616) (hnow : now < 18446744073709551616) :
  Calls Try.prog 50 #[.pointer (some ⟨q, 0, none⟩), .int .u64 (now : Int), .agg (f.cells CA cc)] w fun e w' => ∃ v, e = .returned v ∧ DAns w0 w' q (X :: Qs) (s.take now f) (s.takeF now f) (s.takeE now f) v := by
 have HS0 := Lib.hid ((h.ce (f.cells CA cc) 51).ce #[.slice none 0 0, .slice none 0 0] 43); have HOK := Lib.hid hs; have HX := Lib.hid hX; obtain ⟨g, Hg⟩ : ∃ x, Hid (w.heap.size = x) := ⟨_, Lib.hid rfl⟩; obtain ⟨r, Hr⟩ : ∃ x, Hid ((w.alloc (.cells (f.cells CA cc) 51)).heap.size = x) := ⟨_, Lib.hid rfl⟩; have Hrg : Hid (w.heap.size + 1 = r) := Lib.hid (by rw [← Hr.out]; simp); rw [Hr.out, Hg.out] at HS0; rw [Hg.out] at Hrg; have HMAY : Hid (∀ W : World, Calls Try.prog 62 #[.agg #[.int .i64 f.kind, .int .i64 f.fr, .int .i64 f.to, .int .u64 (f.inc : Int), .int .u64 (f.conn : Int), .int .u64 (f.pinc : Int), .int .u64 (f.pconn : Int), .int .u64 (f.ack : Int), .int .u64 (f.seq : Int), .slice CA f.body.length cc]] W fun e w' => e = .returned (.bool (mayB f.kind f.fr f.to f.inc f.conn f.pinc f.pconn f.ack f.seq f.body.length)) ∧ Below W.heap.size W w') := Lib.hid fun W => refMay_any W f.kind f.fr f.to f.inc f.conn f.pinc f.pconn f.ack f.seq f.body.length cc CA (by unfold maxLen; omega)
 obtain ⟨m, Hm⟩ : ∃ x, Hid (mayB f.kind f.fr f.to f.inc f.conn f.pinc f.pconn f.ack f.seq f.body.length = x) := ⟨_, Lib.hid rfl⟩; rw [Hm.out] at HMAY; obtain ⟨n1, En1⟩ : ∃ x, Hid ((f.fr != s.peer) = x) := ⟨_, Lib.hid rfl⟩; obtain ⟨n2, En2⟩ : ∃ x, Hid ((f.to != s.sn) = x) := ⟨_, Lib.hid rfl⟩; obtain ⟨l1, El1⟩ : ∃ x, Hid (decide (f.inc < s.inc) = x) := ⟨_, Lib.hid rfl⟩; obtain ⟨l2, El2⟩ : ∃ x, Hid (decide (f.conn < s.known) = x) := ⟨_, Lib.hid rfl⟩; obtain ⟨q1, Eq1⟩ : ∃ x, Hid (((f.inc : Int) == (s.inc : Int)) = x) := ⟨_, Lib.hid rfl⟩; obtain ⟨b14, Hb14⟩ : ∃ x, Hid (x = !m) := ⟨_, Lib.hid rfl⟩; obtain ⟨b23, Hb23⟩ : ∃ x, Hid (x = (b14 || n1)) := ⟨_, Lib.hid rfl⟩
 obtain ⟨b33, Hb33⟩ : ∃ x, Hid (x = (b23 || n2)) := ⟨_, Lib.hid rfl⟩
 obtain ⟨b42, Hb42⟩ : ∃ x, Hid (x = (b33 || l1)) := ⟨_, Lib.hid rfl⟩
 obtain ⟨p58, Hp58⟩ : ∃ x, Hid (x = (q1 && l2)) := ⟨_, Lib.hid rfl⟩; obtain ⟨z, Hz⟩ : ∃ x, Hid (x = (b42 || p58)) := ⟨_, Lib.hid rfl⟩
 have HL : Hid (s.looks f = !z) := Lib.hid (by
  rw [Hz.out, Hb42.out, Hb33.out, Hb23.out, Hb14.out, Hp58.out, LS.looks, Hm.out, El1.out, El2.out, ← En1.out, ← En2.out, ← Eq1.out]
  by_cases h1 : f.fr = s.peer <;> by_cases h2 : f.to = s.sn <;> by_cases h3 : f.inc = s.inc <;> cases m <;> cases l1 <;> cases l2 <;> simp [h1, h2, h3] <;> omega)
 clear h hX hs; go_enter Try.func50, Try.ntmps50
 go_upto_region 1 with fail
 rw [Hg.out, Hrg.out]; obtain ⟨wa, Hwa⟩ : ∃ x, Hid ((w.alloc (.cells (f.cells CA cc) 51)).alloc (.cells #[.slice none 0 0, .slice none 0 0] 43) = x) := ⟨_, Lib.hid rfl⟩; rw [Hwa.out] at HS0; rw [Hwa.out]
 go_cut [59] from 9 to 186 (fun t wx => t = .bool z ∧ DL0 w0 wx q (Ce r 43 #[.slice none 0 0, .slice none 0 0] :: Ce g 51 (f.cells CA cc) :: X :: Qs) s)
 case first =>
  as_aux_lemma =>
   obtain ⟨bx, h3⟩ := HS0.out; obtain ⟨vF, HvF⟩ : ∃ x, Hid (Value.slice none 0 0 = x) := ⟨_, Lib.hid rfl⟩; obtain ⟨vE, HvE⟩ : ∃ x, Hid (Value.slice none 0 0 = x) := ⟨_, Lib.hid rfl⟩; obtain ⟨LP, HLP⟩ : ∃ x : List (Fr × Value), Hid ([] = x) := ⟨_, Lib.hid rfl⟩; obtain ⟨LE, HLE⟩ : ∃ x : List (Ev × Value), Hid ([] = x) := ⟨_, Lib.hid rfl⟩; have HSR : Hid (Sep w0 wa (DL q (Ce r 43 #[.slice none 0 0, .slice none 0 0] :: Ce g 51 (f.cells CA cc) :: X :: Qs) s bx vF vE LP LE)) := Lib.hid (by rw [← HvF.out, ← HvE.out, ← HLP.out, ← HLE.out]; exact h3); clear h3 HS0
   go_wp2_with fail
   refine wRG (fun dn xv W => Sep w0 W (DL q (Ce r 43 #[.slice none 0 0, .slice none 0 0] :: Ce g 51 (f.cells CA cc) :: X :: Qs) s bx vF vE LP LE)) (fun _ _ => True) [xV_ (.agg #[.int .i64 f.kind, .int .i64 f.fr, .int .i64 f.to, .int .u64 (f.inc : Int), .int .u64 (f.conn : Int), .int .u64 (f.pinc : Int), .int .u64 (f.pconn : Int), .int .u64 (f.ack : Int), .int .u64 (f.seq : Int), .slice CA f.body.length cc]), xV_ (.bool m), xV_ (.bool b14), xV_ (.bool b14), xV_ (bif b14 then undef else .pointer (some ⟨g, 1, none⟩)), xV_ (bif b14 then undef else .int .i64 f.fr), xV_ (bif b14 then undef else .pointer (some ⟨q, 0, none⟩)), xV_ (bif b14 then undef else .pointer (some ⟨q, 0, none⟩)), xV_ (bif b14 then undef else .pointer (some ⟨q, 2, none⟩)), xV_ (bif b14 then undef else .int .i64 s.peer), xV_ (bif b14 then undef else .bool n1), xV_ (.bool b23), xV_ (.bool b23), xV_ (bif b23 then undef else .pointer (some ⟨g, 2, none⟩)), xV_ (bif b23 then undef else .int .i64 f.to), xV_ (bif b23 then undef else .pointer (some ⟨q, 0, none⟩)), xV_ (bif b23 then undef else .pointer (some ⟨q, 0, none⟩)), xV_ (bif b23 then undef else .pointer (some ⟨q, 0, none⟩)), xV_ (bif b23 then undef else .pointer (some ⟨q, 0, none⟩)), xV_ (bif b23 then undef else .int .i64 s.sn), xV_ (bif b23 then undef else .bool n2), xV_ (.bool b33), xV_ (.bool b33), xV_ (bif b33 then undef else .pointer (some ⟨g, 3, none⟩)), xV_ (bif b33 then undef else .int .u64 (f.inc : Int)), xV_ (bif b33 then undef else .pointer (some ⟨q, 0, none⟩)), xV_ (bif b33 then undef else .pointer (some ⟨q, 0, none⟩)), xV_ (bif b33 then undef else .pointer (some ⟨q, 4, none⟩)), xV_ (bif b33 then undef else .int .u64 (s.inc : Int)), xV_ (bif b33 then undef else .bool l1), xV_ (.bool b42), xV_ (.bool b42), xV_ (bif b42 then undef else .pointer (some ⟨g, 3, none⟩)), xV_ (bif b42 then undef else .int .u64 (f.inc : Int)), xV_ (bif b42 then undef else .pointer (some ⟨q, 0, none⟩)), xV_ (bif b42 then undef else .pointer (some ⟨q, 0, none⟩)), xV_ (bif b42 then undef else .pointer (some ⟨q, 4, none⟩)), xV_ (bif b42 then undef else .int .u64 (s.inc : Int)), xV_ (bif b42 then undef else .bool q1), xV_ (bif b42 then undef else .bool q1), xV_ (bif b42 then undef else (bif q1 then .pointer (some ⟨g, 4, none⟩) else undef)), xV_ (bif b42 then undef else (bif q1 then .int .u64 (f.conn : Int) else undef)), xV_ (bif b42 then undef else (bif q1 then .pointer (some ⟨q, 0, none⟩) else undef)), xV_ (bif b42 then undef else (bif q1 then .pointer (some ⟨q, 0, none⟩) else undef)), xV_ (bif b42 then undef else (bif q1 then .pointer (some ⟨q, 5, none⟩) else undef)), xV_ (bif b42 then undef else (bif q1 then .int .u64 (s.known : Int) else undef)), xV_ (bif b42 then undef else (bif q1 then .bool l2 else undef)), xV_ (bif b42 then undef else .bool p58), xV_ (.bool z)] (fun xv => by simpa using HSR.out.drew) ?_ ?_
   ·refine EC 1 rfl (fun j k W F a b c d e H K h => ?_) ?_
    ·have f5 : F.tmps.getD 5 undef = .pointer (some ⟨g, 0, none⟩) := (a 5).trans (by kernel_rfl); have kg0 : W.cell? ⟨g, 0, none⟩ = some (.int .i64 f.kind) := cA (i := 7) e rfl 0 rfl; have kg1 : W.cell? ⟨g, 1, none⟩ = some (.int .i64 f.fr) := cA (i := 7) e rfl 1 rfl; have kg2 : W.cell? ⟨g, 2, none⟩ = some (.int .i64 f.to) := cA (i := 7) e rfl 2 rfl; have kg3 : W.cell? ⟨g, 3, none⟩ = some (.int .u64 (f.inc : Int)) := cA (i := 7) e rfl 3 rfl; have kg4 : W.cell? ⟨g, 4, none⟩ = some (.int .u64 (f.conn : Int)) := cA (i := 7) e rfl 4 rfl; have kg5 : W.cell? ⟨g, 5, none⟩ = some (.int .u64 (f.pinc : Int)) := cA (i := 7) e rfl 5 rfl; have kg6 : W.cell? ⟨g, 6, none⟩ = some (.int .u64 (f.pconn : Int)) := cA (i := 7) e rfl 6 rfl; have kg7 : W.cell? ⟨g, 7, none⟩ = some (.int .u64 (f.ack : Int)) := cA (i := 7) e rfl 7 rfl; have kg8 : W.cell? ⟨g, 8, none⟩ = some (.int .u64 (f.seq : Int)) := cA (i := 7) e rfl 8 rfl; have kg9 : W.cell? ⟨g, 9, none⟩ = some (.slice CA f.body.length cc) := cA (i := 7) e rfl 9 rfl; clear H c b d a; refine oP rfl ?_; go_simp; exact h.out _ _ rfl trivial e
    refine EC 2 rfl (fun h i W F a b c d f H K g => ?_) ?_
    ·have f11 := gE (a 11) (by kernel_rfl) (H 0) (by kernel_rfl); clear H c b d a; refine oP rfl ?_; go_simp; refine (HMAY.out W).mono ?_; rintro e W' ⟨rfl, hb⟩; have f := f.grow hb; exact g.out _ W' rfl trivial (by simpa [upB, upd] using f)
    refine EC 3 rfl (fun g h W F a b c d e H K f => ?_) ?_
    ·have f12 := gE (a 12) (by kernel_rfl) (H 1) (by kernel_rfl); clear H c b d a; refine oP rfl ?_; obtain rfl : b14 = !m := Hb14.out; go_simp; exact f.out _ _ rfl trivial e
    refine Ee 4 13 2 ?_
    refine EC 5 rfl (fun h i W F a b c d e H K f => ?_) ?_
    ·cases b14 with
     | true =>
      have f14 := gE (a 14) (by kernel_rfl) (H 3) (by kernel_rfl); clear H c b d a; refine off_guard rfl (by kernel_rfl) f14 (by decide) ?_; exact f.out _ _ rfl trivial e
     | false =>
      have f5 : F.tmps.getD 5 undef = .pointer (some ⟨g, 0, none⟩) := (a 5).trans (by kernel_rfl); have f14 := gE (a 14) (by kernel_rfl) (H 3) (by kernel_rfl); clear H c b d a; refine oG rfl (by kernel_rfl) f14 ?_; go_simp; exact f.out _ _ rfl trivial e
    refine EC 6 rfl (fun j k W F a b c d e H K h => ?_) ?_
    ·cases b14 with
     | true =>
      have f14 := gE (a 14) (by kernel_rfl) (H 3) (by kernel_rfl); clear H c b d a; refine off_guard rfl (by kernel_rfl) f14 (by decide) ?_; exact h.out _ _ rfl trivial e
     | false =>
      have f15 := gE (a 15) (by kernel_rfl) (H 4) (by kernel_rfl); have f14 := gE (a 14) (by kernel_rfl) (H 3) (by kernel_rfl); have kg1 : W.cell? ⟨g, 1, none⟩ = some (.int .i64 f.fr) := cA (i := 7) e rfl 1 rfl; clear H c b d a; refine oG rfl (by kernel_rfl) f14 ?_; go_simp; exact h.out _ _ rfl trivial e
    refine EC 7 rfl (fun g h W F a b c d e H K f => ?_) ?_
    ·cases b14 with
     | true =>
      have f14 := gE (a 14) (by kernel_rfl) (H 3) (by kernel_rfl); clear H c b d a; refine off_guard rfl (by kernel_rfl) f14 (by decide) ?_; exact f.out _ _ rfl trivial e
     | false =>
      have f0 : F.tmps.getD 0 undef = .pointer (some ⟨q, 0, none⟩) := (a 0).trans (by kernel_rfl); have f14 := gE (a 14) (by kernel_rfl) (H 3) (by kernel_rfl); clear H c b d a; refine oG rfl (by kernel_rfl) f14 ?_; go_simp; exact f.out _ _ rfl trivial e
    refine EC 8 rfl (fun g h W F a b c d e H K f => ?_) ?_
    ·cases b14 with
     | true =>
      have f14 := gE (a 14) (by kernel_rfl) (H 3) (by kernel_rfl); clear H c b d a; refine off_guard rfl (by kernel_rfl) f14 (by decide) ?_; exact f.out _ _ rfl trivial e
     | false =>
      have f17 := gE (a 17) (by kernel_rfl) (H 6) (by kernel_rfl); have f14 := gE (a 14) (by kernel_rfl) (H 3) (by kernel_rfl); clear H c b d a; refine oG rfl (by kernel_rfl) f14 ?_; go_simp; exact f.out _ _ rfl trivial e
    refine EC 9 rfl (fun g h W F a b c d e H K f => ?_) ?_
    ·cases b14 with
     | true =>
      have f14 := gE (a 14) (by kernel_rfl) (H 3) (by kernel_rfl); clear H c b d a; refine off_guard rfl (by kernel_rfl) f14 (by decide) ?_; exact f.out _ _ rfl trivial e
     | false =>
      have f18 := gE (a 18) (by kernel_rfl) (H 7) (by kernel_rfl); have f14 := gE (a 14) (by kernel_rfl) (H 3) (by kernel_rfl); clear H c b d a; refine oG rfl (by kernel_rfl) f14 ?_; go_simp; exact f.out _ _ rfl trivial e
    refine EC 10 rfl (fun g h W F a b c d e H K f => ?_) ?_
    ·cases b14 with
     | true =>
      have f14 := gE (a 14) (by kernel_rfl) (H 3) (by kernel_rfl); clear H c b d a; refine off_guard rfl (by kernel_rfl) f14 (by decide) ?_; exact f.out _ _ rfl trivial e
     | false =>
      have f19 := gE (a 19) (by kernel_rfl) (H 8) (by kernel_rfl); have f14 := gE (a 14) (by kernel_rfl) (H 3) (by kernel_rfl); have kq2 : W.cell? ⟨q, 2, none⟩ = some (.int .i64 s.peer) := cA (i := 0) e rfl 2 rfl; clear H c b d a; refine oG rfl (by kernel_rfl) f14 ?_; go_simp; exact f.out _ _ rfl trivial e
    refine EC 11 rfl (fun g h W F a b c d e H K f => ?_) ?_
    ·cases b14 with
     | true =>
      have f14 := gE (a 14) (by kernel_rfl) (H 3) (by kernel_rfl); clear H c b d a; refine off_guard rfl (by kernel_rfl) f14 (by decide) ?_; exact f.out _ _ rfl trivial e
     | false =>
      have f16 := gE (a 16) (by kernel_rfl) (H 5) (by kernel_rfl); have f20 := gE (a 20) (by kernel_rfl) (H 9) (by kernel_rfl); have f14 := gE (a 14) (by kernel_rfl) (H 3) (by kernel_rfl); clear H c b d a; refine oG rfl (by kernel_rfl) f14 ?_; have e1 := En1.out; go_simp; exact f.out _ _ rfl trivial e
    refine EC 12 rfl (fun g h W F a b c d e H K f => ?_) ?_
    ·cases b14 with
     | true =>
      have f14 := gE (a 14) (by kernel_rfl) (H 3) (by kernel_rfl); have f21 := gE (a 21) (by kernel_rfl) (H 10) (by kernel_rfl); clear H c b d a; refine oP rfl ?_; obtain rfl : b23 = true := Hb23.out; go_simp; exact f.out _ _ rfl trivial e
     | false =>
      have f14 := gE (a 14) (by kernel_rfl) (H 3) (by kernel_rfl); have f21 := gE (a 21) (by kernel_rfl) (H 10) (by kernel_rfl); clear H c b d a; refine oP rfl ?_; obtain rfl : b23 = n1 := Hb23.out; go_simp; exact f.out _ _ rfl trivial e
    refine Ee 13 22 11 ?_
    refine EC 14 rfl (fun h i W F a b c d e H K f => ?_) ?_
    ·cases b23 with
     | true =>
      have f23 := gE (a 23) (by kernel_rfl) (H 12) (by kernel_rfl); clear H c b d a; refine off_guard rfl (by kernel_rfl) f23 (by decide) ?_; exact f.out _ _ rfl trivial e
     | false =>
      have f5 : F.tmps.getD 5 undef = .pointer (some ⟨g, 0, none⟩) := (a 5).trans (by kernel_rfl); have f23 := gE (a 23) (by kernel_rfl) (H 12) (by kernel_rfl); clear H c b d a; refine oG rfl (by kernel_rfl) f23 ?_; go_simp; exact f.out _ _ rfl trivial e
    refine EC 15 rfl (fun j k W F a b c d e H K h => ?_) ?_
    ·cases b23 with
     | true =>
      have f23 := gE (a 23) (by kernel_rfl) (H 12) (by kernel_rfl); clear H c b d a; refine off_guard rfl (by kernel_rfl) f23 (by decide) ?_; exact h.out _ _ rfl trivial e
     | false =>
      have f24 := gE (a 24) (by kernel_rfl) (H 13) (by kernel_rfl); have f23 := gE (a 23) (by kernel_rfl) (H 12) (by kernel_rfl); have kg2 : W.cell? ⟨g, 2, none⟩ = some (.int .i64 f.to) := cA (i := 7) e rfl 2 rfl; clear H c b d a; refine oG rfl (by kernel_rfl) f23 ?_; go_simp; exact h.out _ _ rfl trivial e
    refine EC 16 rfl (fun g h W F a b c d e H K f => ?_) ?_
    ·cases b23 with
     | true =>
      have f23 := gE (a 23) (by kernel_rfl) (H 12) (by kernel_rfl); clear H c b d a; refine off_guard rfl (by kernel_rfl) f23 (by decide) ?_; exact f.out _ _ rfl trivial e
     | false =>
      have f0 : F.tmps.getD 0 undef = .pointer (some ⟨q, 0, none⟩) := (a 0).trans (by kernel_rfl); have f23 := gE (a 23) (by kernel_rfl) (H 12) (by kernel_rfl); clear H c b d a; refine oG rfl (by kernel_rfl) f23 ?_; go_simp; exact f.out _ _ rfl trivial e
    refine EC 17 rfl (fun g h W F a b c d e H K f => ?_) ?_
    ·cases b23 with
     | true =>
      have f23 := gE (a 23) (by kernel_rfl) (H 12) (by kernel_rfl); clear H c b d a; refine off_guard rfl (by kernel_rfl) f23 (by decide) ?_; exact f.out _ _ rfl trivial e
     | false =>
      have f26 := gE (a 26) (by kernel_rfl) (H 15) (by kernel_rfl); have f23 := gE (a 23) (by kernel_rfl) (H 12) (by kernel_rfl); clear H c b d a; refine oG rfl (by kernel_rfl) f23 ?_; go_simp; exact f.out _ _ rfl trivial e
    refine EC 18 rfl (fun g h W F a b c d e H K f => ?_) ?_
    ·cases b23 with
     | true =>
      have f23 := gE (a 23) (by kernel_rfl) (H 12) (by kernel_rfl); clear H c b d a; refine off_guard rfl (by kernel_rfl) f23 (by decide) ?_; exact f.out _ _ rfl trivial e
     | false =>
      have f27 := gE (a 27) (by kernel_rfl) (H 16) (by kernel_rfl); have f23 := gE (a 23) (by kernel_rfl) (H 12) (by kernel_rfl); clear H c b d a; refine oG rfl (by kernel_rfl) f23 ?_; go_simp; exact f.out _ _ rfl trivial e
    refine EC 19 rfl (fun g h W F a b c d e H K f => ?_) ?_
    ·cases b23 with
     | true =>
      have f23 := gE (a 23) (by kernel_rfl) (H 12) (by kernel_rfl); clear H c b d a; refine off_guard rfl (by kernel_rfl) f23 (by decide) ?_; exact f.out _ _ rfl trivial e
     | false =>
      have f28 := gE (a 28) (by kernel_rfl) (H 17) (by kernel_rfl); have f23 := gE (a 23) (by kernel_rfl) (H 12) (by kernel_rfl); clear H c b d a; refine oG rfl (by kernel_rfl) f23 ?_; go_simp; exact f.out _ _ rfl trivial e
    refine EC 20 rfl (fun g h W F a b c d e H K f => ?_) ?_
    ·cases b23 with
     | true =>
      have f23 := gE (a 23) (by kernel_rfl) (H 12) (by kernel_rfl); clear H c b d a; refine off_guard rfl (by kernel_rfl) f23 (by decide) ?_; exact f.out _ _ rfl trivial e
     | false =>
      have f29 := gE (a 29) (by kernel_rfl) (H 18) (by kernel_rfl); have f23 := gE (a 23) (by kernel_rfl) (H 12) (by kernel_rfl); have kq0 : W.cell? ⟨q, 0, none⟩ = some (.int .i64 s.sn) := cA (i := 0) e rfl 0 rfl; clear H c b d a; refine oG rfl (by kernel_rfl) f23 ?_; go_simp; exact f.out _ _ rfl trivial e
    refine EC 21 rfl (fun g h W F a b c d e H K f => ?_) ?_
    ·cases b23 with
     | true =>
      have f23 := gE (a 23) (by kernel_rfl) (H 12) (by kernel_rfl); clear H c b d a; refine off_guard rfl (by kernel_rfl) f23 (by decide) ?_; exact f.out _ _ rfl trivial e
     | false =>
      have f25 := gE (a 25) (by kernel_rfl) (H 14) (by kernel_rfl); have f30 := gE (a 30) (by kernel_rfl) (H 19) (by kernel_rfl); have f23 := gE (a 23) (by kernel_rfl) (H 12) (by kernel_rfl); clear H c b d a; refine oG rfl (by kernel_rfl) f23 ?_; have e1 := En2.out; go_simp; exact f.out _ _ rfl trivial e
    refine EC 22 rfl (fun g h W F a b c d e H K f => ?_) ?_
    ·cases b23 with
     | true =>
      have f23 := gE (a 23) (by kernel_rfl) (H 12) (by kernel_rfl); have f31 := gE (a 31) (by kernel_rfl) (H 20) (by kernel_rfl); clear H c b d a; refine oP rfl ?_; obtain rfl : b33 = true := Hb33.out; go_simp; exact f.out _ _ rfl trivial e
     | false =>
      have f23 := gE (a 23) (by kernel_rfl) (H 12) (by kernel_rfl); have f31 := gE (a 31) (by kernel_rfl) (H 20) (by kernel_rfl); clear H c b d a; refine oP rfl ?_; obtain rfl : b33 = n2 := Hb33.out; go_simp; exact f.out _ _ rfl trivial e
    refine Ee 23 32 21 ?_
    refine EC 24 rfl (fun h i W F a b c d e H K f => ?_) ?_
    ·cases b33 with
     | true =>
      have f33 := gE (a 33) (by kernel_rfl) (H 22) (by kernel_rfl); clear H c b d a; refine off_guard rfl (by kernel_rfl) f33 (by decide) ?_; exact f.out _ _ rfl trivial e
     | false =>
      have f5 : F.tmps.getD 5 undef = .pointer (some ⟨g, 0, none⟩) := (a 5).trans (by kernel_rfl); have f33 := gE (a 33) (by kernel_rfl) (H 22) (by kernel_rfl); clear H c b d a; refine oG rfl (by kernel_rfl) f33 ?_; go_simp; exact f.out _ _ rfl trivial e
    refine EC 25 rfl (fun j k W F a b c d e H K h => ?_) ?_
    ·cases b33 with
     | true =>
      have f33 := gE (a 33) (by kernel_rfl) (H 22) (by kernel_rfl); clear H c b d a; refine off_guard rfl (by kernel_rfl) f33 (by decide) ?_; exact h.out _ _ rfl trivial e
     | false =>
      have f34 := gE (a 34) (by kernel_rfl) (H 23) (by kernel_rfl); have f33 := gE (a 33) (by kernel_rfl) (H 22) (by kernel_rfl); have kg3 : W.cell? ⟨g, 3, none⟩ = some (.int .u64 (f.inc : Int)) := cA (i := 7) e rfl 3 rfl; clear H c b d a; refine oG rfl (by kernel_rfl) f33 ?_; go_simp; exact h.out _ _ rfl trivial e
    refine EC 26 rfl (fun g h W F a b c d e H K f => ?_) ?_
    ·cases b33 with
     | true =>
      have f33 := gE (a 33) (by kernel_rfl) (H 22) (by kernel_rfl); clear H c b d a; refine off_guard rfl (by kernel_rfl) f33 (by decide) ?_; exact f.out _ _ rfl trivial e
     | false =>
      have f0 : F.tmps.getD 0 undef = .pointer (some ⟨q, 0, none⟩) := (a 0).trans (by kernel_rfl); have f33 := gE (a 33) (by kernel_rfl) (H 22) (by kernel_rfl); clear H c b d a; refine oG rfl (by kernel_rfl) f33 ?_; go_simp; exact f.out _ _ rfl trivial e
    refine EC 27 rfl (fun g h W F a b c d e H K f => ?_) ?_
    ·cases b33 with
     | true =>
      have f33 := gE (a 33) (by kernel_rfl) (H 22) (by kernel_rfl); clear H c b d a; refine off_guard rfl (by kernel_rfl) f33 (by decide) ?_; exact f.out _ _ rfl trivial e
     | false =>
      have f36 := gE (a 36) (by kernel_rfl) (H 25) (by kernel_rfl); have f33 := gE (a 33) (by kernel_rfl) (H 22) (by kernel_rfl); clear H c b d a; refine oG rfl (by kernel_rfl) f33 ?_; go_simp; exact f.out _ _ rfl trivial e
    refine EC 28 rfl (fun g h W F a b c d e H K f => ?_) ?_
    ·cases b33 with
     | true =>
      have f33 := gE (a 33) (by kernel_rfl) (H 22) (by kernel_rfl); clear H c b d a; refine off_guard rfl (by kernel_rfl) f33 (by decide) ?_; exact f.out _ _ rfl trivial e
     | false =>
      have f37 := gE (a 37) (by kernel_rfl) (H 26) (by kernel_rfl); have f33 := gE (a 33) (by kernel_rfl) (H 22) (by kernel_rfl); clear H c b d a; refine oG rfl (by kernel_rfl) f33 ?_; go_simp; exact f.out _ _ rfl trivial e
    refine EC 29 rfl (fun g h W F a b c d e H K f => ?_) ?_
    ·cases b33 with
     | true =>
      have f33 := gE (a 33) (by kernel_rfl) (H 22) (by kernel_rfl); clear H c b d a; refine off_guard rfl (by kernel_rfl) f33 (by decide) ?_; exact f.out _ _ rfl trivial e
     | false =>
      have f38 := gE (a 38) (by kernel_rfl) (H 27) (by kernel_rfl); have f33 := gE (a 33) (by kernel_rfl) (H 22) (by kernel_rfl); have kq4 : W.cell? ⟨q, 4, none⟩ = some (.int .u64 (s.inc : Int)) := cA (i := 0) e rfl 4 rfl; clear H c b d a; refine oG rfl (by kernel_rfl) f33 ?_; go_simp; exact f.out _ _ rfl trivial e
    refine EC 30 rfl (fun g h W F a b c d e H K f => ?_) ?_
    ·cases b33 with
     | true =>
      have f33 := gE (a 33) (by kernel_rfl) (H 22) (by kernel_rfl); clear H c b d a; refine off_guard rfl (by kernel_rfl) f33 (by decide) ?_; exact f.out _ _ rfl trivial e
     | false =>
      have f35 := gE (a 35) (by kernel_rfl) (H 24) (by kernel_rfl); have f39 := gE (a 39) (by kernel_rfl) (H 28) (by kernel_rfl); have f33 := gE (a 33) (by kernel_rfl) (H 22) (by kernel_rfl); clear H c b d a; refine oG rfl (by kernel_rfl) f33 ?_; have e1 := El1.out; go_simp; exact f.out _ _ rfl trivial e
    refine EC 31 rfl (fun g h W F a b c d e H K f => ?_) ?_
    ·cases b33 with
     | true =>
      have f33 := gE (a 33) (by kernel_rfl) (H 22) (by kernel_rfl); have f40 := gE (a 40) (by kernel_rfl) (H 29) (by kernel_rfl); clear H c b d a; refine oP rfl ?_; obtain rfl : b42 = true := Hb42.out; go_simp; exact f.out _ _ rfl trivial e
     | false =>
      have f33 := gE (a 33) (by kernel_rfl) (H 22) (by kernel_rfl); have f40 := gE (a 40) (by kernel_rfl) (H 29) (by kernel_rfl); clear H c b d a; refine oP rfl ?_; obtain rfl : b42 = l1 := Hb42.out; go_simp; exact f.out _ _ rfl trivial e
    refine Ee 32 41 30 ?_
    refine EC 33 rfl (fun h i W F a b c d e H K f => ?_) ?_
    ·cases b42 with
     | true =>
      have f42 := gE (a 42) (by kernel_rfl) (H 31) (by kernel_rfl); clear H c b d a; refine off_guard rfl (by kernel_rfl) f42 (by decide) ?_; exact f.out _ _ rfl trivial e
     | false =>
      have f5 : F.tmps.getD 5 undef = .pointer (some ⟨g, 0, none⟩) := (a 5).trans (by kernel_rfl); have f42 := gE (a 42) (by kernel_rfl) (H 31) (by kernel_rfl); clear H c b d a; refine oG rfl (by kernel_rfl) f42 ?_; go_simp; exact f.out _ _ rfl trivial e
    refine EC 34 rfl (fun j k W F a b c d e H K h => ?_) ?_
    ·cases b42 with
     | true =>
      have f42 := gE (a 42) (by kernel_rfl) (H 31) (by kernel_rfl); clear H c b d a; refine off_guard rfl (by kernel_rfl) f42 (by decide) ?_; exact h.out _ _ rfl trivial e
     | false =>
      have f43 := gE (a 43) (by kernel_rfl) (H 32) (by kernel_rfl); have f42 := gE (a 42) (by kernel_rfl) (H 31) (by kernel_rfl); have kg3 : W.cell? ⟨g, 3, none⟩ = some (.int .u64 (f.inc : Int)) := cA (i := 7) e rfl 3 rfl; clear H c b d a; refine oG rfl (by kernel_rfl) f42 ?_; go_simp; exact h.out _ _ rfl trivial e
    refine EC 35 rfl (fun g h W F a b c d e H K f => ?_) ?_
    ·cases b42 with
     | true =>
      have f42 := gE (a 42) (by kernel_rfl) (H 31) (by kernel_rfl); clear H c b d a; refine off_guard rfl (by kernel_rfl) f42 (by decide) ?_; exact f.out _ _ rfl trivial e
     | false =>
      have f0 : F.tmps.getD 0 undef = .pointer (some ⟨q, 0, none⟩) := (a 0).trans (by kernel_rfl); have f42 := gE (a 42) (by kernel_rfl) (H 31) (by kernel_rfl); clear H c b d a; refine oG rfl (by kernel_rfl) f42 ?_; go_simp; exact f.out _ _ rfl trivial e
    refine EC 36 rfl (fun g h W F a b c d e H K f => ?_) ?_
    ·cases b42 with
     | true =>
      have f42 := gE (a 42) (by kernel_rfl) (H 31) (by kernel_rfl); clear H c b d a; refine off_guard rfl (by kernel_rfl) f42 (by decide) ?_; exact f.out _ _ rfl trivial e
     | false =>
      have f45 := gE (a 45) (by kernel_rfl) (H 34) (by kernel_rfl); have f42 := gE (a 42) (by kernel_rfl) (H 31) (by kernel_rfl); clear H c b d a; refine oG rfl (by kernel_rfl) f42 ?_; go_simp; exact f.out _ _ rfl trivial e
    refine EC 37 rfl (fun g h W F a b c d e H K f => ?_) ?_
    ·cases b42 with
     | true =>
      have f42 := gE (a 42) (by kernel_rfl) (H 31) (by kernel_rfl); clear H c b d a; refine off_guard rfl (by kernel_rfl) f42 (by decide) ?_; exact f.out _ _ rfl trivial e
     | false =>
      have f46 := gE (a 46) (by kernel_rfl) (H 35) (by kernel_rfl); have f42 := gE (a 42) (by kernel_rfl) (H 31) (by kernel_rfl); clear H c b d a; refine oG rfl (by kernel_rfl) f42 ?_; go_simp; exact f.out _ _ rfl trivial e
    refine EC 38 rfl (fun g h W F a b c d e H K f => ?_) ?_
    ·cases b42 with
     | true =>
      have f42 := gE (a 42) (by kernel_rfl) (H 31) (by kernel_rfl); clear H c b d a; refine off_guard rfl (by kernel_rfl) f42 (by decide) ?_; exact f.out _ _ rfl trivial e
     | false =>
      have f47 := gE (a 47) (by kernel_rfl) (H 36) (by kernel_rfl); have f42 := gE (a 42) (by kernel_rfl) (H 31) (by kernel_rfl); have kq4 : W.cell? ⟨q, 4, none⟩ = some (.int .u64 (s.inc : Int)) := cA (i := 0) e rfl 4 rfl; clear H c b d a; refine oG rfl (by kernel_rfl) f42 ?_; go_simp; exact f.out _ _ rfl trivial e
    refine EC 39 rfl (fun g h W F a b c d e H K f => ?_) ?_
    ·cases b42 with
     | true =>
      have f42 := gE (a 42) (by kernel_rfl) (H 31) (by kernel_rfl); clear H c b d a; refine off_guard rfl (by kernel_rfl) f42 (by decide) ?_; exact f.out _ _ rfl trivial e
     | false =>
      have f44 := gE (a 44) (by kernel_rfl) (H 33) (by kernel_rfl); have f48 := gE (a 48) (by kernel_rfl) (H 37) (by kernel_rfl); have f42 := gE (a 42) (by kernel_rfl) (H 31) (by kernel_rfl); clear H c b d a; refine oG rfl (by kernel_rfl) f42 ?_; have e1 := Eq1.out; go_simp; exact f.out _ _ rfl trivial e
    refine EC 40 rfl (fun g h W F a b c d e H K f => ?_) ?_
    ·cases b42 with
     | true =>
      have f42 := gE (a 42) (by kernel_rfl) (H 31) (by kernel_rfl); clear H c b d a; refine off_guard rfl (by kernel_rfl) f42 (by decide) ?_; exact f.out _ _ rfl trivial e
     | false =>
      have f49 := gE (a 49) (by kernel_rfl) (H 38) (by kernel_rfl); have f42 := gE (a 42) (by kernel_rfl) (H 31) (by kernel_rfl); clear H c b d a; refine oG rfl (by kernel_rfl) f42 ?_; go_simp; exact f.out _ _ rfl trivial e
    refine EC 41 rfl (fun h i W F a b c d e H K f => ?_) ?_
    ·cases b42 with
     | true =>
      have f50 := gE (a 50) (by kernel_rfl) (H 39) (by kernel_rfl); clear H c b d a; refine off_undef rfl (by kernel_rfl) f50 ?_; exact f.out _ _ rfl trivial e
     | false =>
      cases q1 with
      | true =>
       have f5 : F.tmps.getD 5 undef = .pointer (some ⟨g, 0, none⟩) := (a 5).trans (by kernel_rfl); have f50 := gE (a 50) (by kernel_rfl) (H 39) (by kernel_rfl); clear H c b d a; refine oG rfl (by kernel_rfl) f50 ?_; go_simp; exact f.out _ _ rfl trivial e
      | false =>
       have f50 := gE (a 50) (by kernel_rfl) (H 39) (by kernel_rfl); clear H c b d a; refine off_guard rfl (by kernel_rfl) f50 (by decide) ?_; exact f.out _ _ rfl trivial e
    refine EC 42 rfl (fun j k W F a b c d e H K h => ?_) ?_
    ·cases b42 with
     | true =>
      have f50 := gE (a 50) (by kernel_rfl) (H 39) (by kernel_rfl); clear H c b d a; refine off_undef rfl (by kernel_rfl) f50 ?_; exact h.out _ _ rfl trivial e
     | false =>
      cases q1 with
      | true =>
       have f51 := gE (a 51) (by kernel_rfl) (H 40) (by kernel_rfl); have f50 := gE (a 50) (by kernel_rfl) (H 39) (by kernel_rfl); have kg4 : W.cell? ⟨g, 4, none⟩ = some (.int .u64 (f.conn : Int)) := cA (i := 7) e rfl 4 rfl; clear H c b d a; refine oG rfl (by kernel_rfl) f50 ?_; go_simp; exact h.out _ _ rfl trivial e
      | false =>
       have f50 := gE (a 50) (by kernel_rfl) (H 39) (by kernel_rfl); clear H c b d a; refine off_guard rfl (by kernel_rfl) f50 (by decide) ?_; exact h.out _ _ rfl trivial e
    refine EC 43 rfl (fun g h W F a b c d e H K f => ?_) ?_
    ·cases b42 with
     | true =>
      have f50 := gE (a 50) (by kernel_rfl) (H 39) (by kernel_rfl); clear H c b d a; refine off_undef rfl (by kernel_rfl) f50 ?_; exact f.out _ _ rfl trivial e
     | false =>
      cases q1 with
      | true =>
       have f0 : F.tmps.getD 0 undef = .pointer (some ⟨q, 0, none⟩) := (a 0).trans (by kernel_rfl); have f50 := gE (a 50) (by kernel_rfl) (H 39) (by kernel_rfl); clear H c b d a; refine oG rfl (by kernel_rfl) f50 ?_; go_simp; exact f.out _ _ rfl trivial e
      | false =>
       have f50 := gE (a 50) (by kernel_rfl) (H 39) (by kernel_rfl); clear H c b d a; refine off_guard rfl (by kernel_rfl) f50 (by decide) ?_; exact f.out _ _ rfl trivial e
    refine EC 44 rfl (fun g h W F a b c d e H K f => ?_) ?_
    ·cases b42 with
     | true =>
      have f50 := gE (a 50) (by kernel_rfl) (H 39) (by kernel_rfl); clear H c b d a; refine off_undef rfl (by kernel_rfl) f50 ?_; exact f.out _ _ rfl trivial e
     | false =>
      cases q1 with
      | true =>
       have f53 := gE (a 53) (by kernel_rfl) (H 42) (by kernel_rfl); have f50 := gE (a 50) (by kernel_rfl) (H 39) (by kernel_rfl); clear H c b d a; refine oG rfl (by kernel_rfl) f50 ?_; go_simp; exact f.out _ _ rfl trivial e
      | false =>
       have f50 := gE (a 50) (by kernel_rfl) (H 39) (by kernel_rfl); clear H c b d a; refine off_guard rfl (by kernel_rfl) f50 (by decide) ?_; exact f.out _ _ rfl trivial e
    refine EC 45 rfl (fun g h W F a b c d e H K f => ?_) ?_
    ·cases b42 with
     | true =>
      have f50 := gE (a 50) (by kernel_rfl) (H 39) (by kernel_rfl); clear H c b d a; refine off_undef rfl (by kernel_rfl) f50 ?_; exact f.out _ _ rfl trivial e
     | false =>
      cases q1 with
      | true =>
       have f54 := gE (a 54) (by kernel_rfl) (H 43) (by kernel_rfl); have f50 := gE (a 50) (by kernel_rfl) (H 39) (by kernel_rfl); clear H c b d a; refine oG rfl (by kernel_rfl) f50 ?_; go_simp; exact f.out _ _ rfl trivial e
      | false =>
       have f50 := gE (a 50) (by kernel_rfl) (H 39) (by kernel_rfl); clear H c b d a; refine off_guard rfl (by kernel_rfl) f50 (by decide) ?_; exact f.out _ _ rfl trivial e
    refine EC 46 rfl (fun g h W F a b c d e H K f => ?_) ?_
    ·cases b42 with
     | true =>
      have f50 := gE (a 50) (by kernel_rfl) (H 39) (by kernel_rfl); clear H c b d a; refine off_undef rfl (by kernel_rfl) f50 ?_; exact f.out _ _ rfl trivial e
     | false =>
      cases q1 with
      | true =>
       have f55 := gE (a 55) (by kernel_rfl) (H 44) (by kernel_rfl); have f50 := gE (a 50) (by kernel_rfl) (H 39) (by kernel_rfl); have kq5 : W.cell? ⟨q, 5, none⟩ = some (.int .u64 (s.known : Int)) := cA (i := 0) e rfl 5 rfl; clear H c b d a; refine oG rfl (by kernel_rfl) f50 ?_; go_simp; exact f.out _ _ rfl trivial e
      | false =>
       have f50 := gE (a 50) (by kernel_rfl) (H 39) (by kernel_rfl); clear H c b d a; refine off_guard rfl (by kernel_rfl) f50 (by decide) ?_; exact f.out _ _ rfl trivial e
    refine EC 47 rfl (fun g h W F a b c d e H K f => ?_) ?_
    ·cases b42 with
     | true =>
      have f50 := gE (a 50) (by kernel_rfl) (H 39) (by kernel_rfl); clear H c b d a; refine off_undef rfl (by kernel_rfl) f50 ?_; exact f.out _ _ rfl trivial e
     | false =>
      cases q1 with
      | true =>
       have f52 := gE (a 52) (by kernel_rfl) (H 41) (by kernel_rfl); have f56 := gE (a 56) (by kernel_rfl) (H 45) (by kernel_rfl); have f50 := gE (a 50) (by kernel_rfl) (H 39) (by kernel_rfl); clear H c b d a; refine oG rfl (by kernel_rfl) f50 ?_; have e1 := El2.out; go_simp; exact f.out _ _ rfl trivial e
      | false =>
       have f50 := gE (a 50) (by kernel_rfl) (H 39) (by kernel_rfl); clear H c b d a; refine off_guard rfl (by kernel_rfl) f50 (by decide) ?_; exact f.out _ _ rfl trivial e
    refine EC 48 rfl (fun g h W F a b c d e H K f => ?_) ?_
    ·cases b42 with
     | true =>
      have f42 := gE (a 42) (by kernel_rfl) (H 31) (by kernel_rfl); clear H c b d a; refine off_guard rfl (by kernel_rfl) f42 (by decide) ?_; exact f.out _ _ rfl trivial e
     | false =>
      cases q1 with
      | true =>
       have f50 := gE (a 50) (by kernel_rfl) (H 39) (by kernel_rfl); have f57 := gE (a 57) (by kernel_rfl) (H 46) (by kernel_rfl); have f42 := gE (a 42) (by kernel_rfl) (H 31) (by kernel_rfl); clear H c b d a; refine oG rfl (by kernel_rfl) f42 ?_; obtain rfl : p58 = l2 := Hp58.out; go_simp; exact f.out _ _ rfl trivial e
      | false =>
       have f50 := gE (a 50) (by kernel_rfl) (H 39) (by kernel_rfl); have f57 := gE (a 57) (by kernel_rfl) (H 46) (by kernel_rfl); have f42 := gE (a 42) (by kernel_rfl) (H 31) (by kernel_rfl); clear H c b d a; refine oG rfl (by kernel_rfl) f42 ?_; obtain rfl : p58 = false := Hp58.out; go_simp; exact f.out _ _ rfl trivial e
    refine EC 49 rfl (fun g h W F a b c d e H K f => ?_) ?_
    ·cases b42 with
     | true =>
      have f42 := gE (a 42) (by kernel_rfl) (H 31) (by kernel_rfl); have f58 := gE (a 58) (by kernel_rfl) (H 47) (by kernel_rfl); clear H c b d a; refine oP rfl ?_; obtain rfl : z = true := Hz.out; go_simp; exact f.out _ _ rfl trivial e
     | false =>
      have f42 := gE (a 42) (by kernel_rfl) (H 31) (by kernel_rfl); have f58 := gE (a 58) (by kernel_rfl) (H 47) (by kernel_rfl); clear H c b d a; refine oP rfl ?_; obtain rfl : z = p58 := Hz.out; go_simp; exact f.out _ _ rfl trivial e
    exact EN
   ·intro dn xv W hI H; have q48 : xv 48 = .bool z := (H 48 (of_decide_eq_true (by kernel_rfl))).2; have hS : Sep w0 W (DL q (Ce r 43 #[.slice none 0 0, .slice none 0 0] :: Ce g 51 (f.cells CA cc) :: X :: Qs) s bx vF vE LP LE) := hI; clear H hI; simp only [putAll, Act.put, List.setIfInBounds_toArray, List.set_cons_zero, List.set_cons_succ, Nat.reduceAdd, q48]; clear q48
    go_wp2_with fail
    go_meet
    case rel =>
     refine ⟨rfl, bx, ?_⟩; rw [← HvF.out, ← HvE.out, ← HLP.out, ← HLE.out] at hS; exact hS
 case rest =>
  obtain ⟨rfl, hS⟩ := hcut; clear HS0; have HS1 := Lib.hid hS; clear hS; cases z with
  | true =>
   obtain ⟨FA, fn, fc, EA, en, ec, e0, k0, k1, f0, f1, j0, j1, h9⟩ := HS1.out.none.res; simp only [Value.agg.injEq, Array.mk.injEq, List.cons.injEq, Value.slice.injEq, and_true] at e0; obtain ⟨⟨rfl, rfl, rfl⟩, rfl, rfl, rfl⟩ := e0; have HS9 := Lib.hid h9.popQ; clear h9 HS1
   go_wp2_with fail
   refine bodyPost_ret (v := .agg #[.slice none 0 0, .slice none 0 0]) (by simp [results, Try.results50, go_sem, j0, j1]) rfl ?_; refine ⟨_, rfl, ?_⟩; have hl := HL.out; rw [show s.take now f = s by simp [LS.take, hl], show s.takeF now f = [] by simp [LS.takeF, hl], show s.takeE now f = [] by simp [LS.takeE, hl]]; exact HS9.out
  | false =>
   have HLK : Hid (s.looks f = true) := Lib.hid (by rw [HL.out]; rfl); clear HL Hz Hb14 Hb23 Hb33 Hb42 Hp58 En1 En2 El1 El2 Eq1 Hm HMAY; obtain ⟨c1, Ec1⟩ : ∃ x, Hid (((f.inc : Int) != (s.inc : Int)) = x) := ⟨_, Lib.hid rfl⟩; obtain ⟨c2, Ec2⟩ : ∃ x, Hid (((f.conn : Int) != (s.known : Int)) = x) := ⟨_, Lib.hid rfl⟩; obtain ⟨y, Hy⟩ : ∃ x, Hid (x = (c1 || c2)) := ⟨_, Lib.hid rfl⟩
   have HOT : Hid (s.other f = y) := Lib.hid (by
    rw [Hy.out, ← Ec1.out, ← Ec2.out, LS.other]
    by_cases h1 : f.inc = s.inc <;> by_cases h2 : f.conn = s.known <;> simp [h1, h2] <;> omega)
   go_upto_region 3 with fail
   go_cut [76] from 9 to 186 (fun t wx => t = .bool y ∧ DLS w0 wx q (Ce r 43 #[.slice none 0 0, .slice none 0 0] :: Ce g 51 (f.cells CA cc) :: X :: Qs) s [] [])
   case first =>
    as_aux_lemma =>
     obtain ⟨bx, vF, vE, LP, LE, e1, e2, h3⟩ := HS1.out.dls; have HSR := Lib.hid h3; have HE1 := Lib.hid e1; have HE2 := Lib.hid e2; clear h3 e1 e2; clear HS1
     go_wp2_with fail
     refine wRG (fun dn xv W => Sep w0 W (DL q (Ce r 43 #[.slice none 0 0, .slice none 0 0] :: Ce g 51 (f.cells CA cc) :: X :: Qs) s bx vF vE LP LE)) (fun _ _ => True) [xP_ g 3, xV_ (.int .u64 (f.inc : Int)), xP_ q 0, xP_ q 0, xP_ q 4, xV_ (.int .u64 (s.inc : Int)), xV_ (.bool c1), xV_ (.bool c1), xV_ (bif c1 then undef else .pointer (some ⟨g, 4, none⟩)), xV_ (bif c1 then undef else .int .u64 (f.conn : Int)), xV_ (bif c1 then undef else .pointer (some ⟨q, 0, none⟩)), xV_ (bif c1 then undef else .pointer (some ⟨q, 0, none⟩)), xV_ (bif c1 then undef else .pointer (some ⟨q, 5, none⟩)), xV_ (bif c1 then undef else .int .u64 (s.known : Int)), xV_ (bif c1 then undef else .bool c2), xV_ (.bool y)] (fun xv => by simpa using HSR.out.drew) ?_ ?_
     ·refine Ep 1 5 g 0 ?_
      refine EC 2 rfl (fun j k W F a b c d e H K h => ?_) ?_
      ·have f61 := gE (a 61) (by kernel_rfl) (H 0) (by kernel_rfl); have kg3 : W.cell? ⟨g, 3, none⟩ = some (.int .u64 (f.inc : Int)) := cA (i := 7) e rfl 3 rfl; clear H c b d a; refine oP rfl ?_; go_simp; exact h.out _ _ rfl trivial e
      refine Ep 3 0 q 0 ?_
      refine Ee 4 63 2 ?_
      refine Ee 5 64 3 ?_
      refine EC 6 rfl (fun g h W F a b c d e H K f => ?_) ?_
      ·have f65 := gE (a 65) (by kernel_rfl) (H 4) (by kernel_rfl); have kq4 : W.cell? ⟨q, 4, none⟩ = some (.int .u64 (s.inc : Int)) := cA (i := 0) e rfl 4 rfl; clear H c b d a; refine oP rfl ?_; go_simp; exact f.out _ _ rfl trivial e
      refine EC 7 rfl (fun g h W F a b c d e H K f => ?_) ?_
      ·have f62 := gE (a 62) (by kernel_rfl) (H 1) (by kernel_rfl); have f66 := gE (a 66) (by kernel_rfl) (H 5) (by kernel_rfl); clear H c b d a; refine oP rfl ?_; have e1 := Ec1.out; go_simp; exact f.out _ _ rfl trivial e
      refine Ee 8 67 6 ?_
      refine EC 9 rfl (fun h i W F a b c d e H K f => ?_) ?_
      ·cases c1 with
       | true =>
        have f68 := gE (a 68) (by kernel_rfl) (H 7) (by kernel_rfl); clear H c b d a; refine off_guard rfl (by kernel_rfl) f68 (by decide) ?_; exact f.out _ _ rfl trivial e
       | false =>
        have f5 : F.tmps.getD 5 undef = .pointer (some ⟨g, 0, none⟩) := (a 5).trans (by kernel_rfl); have f68 := gE (a 68) (by kernel_rfl) (H 7) (by kernel_rfl); clear H c b d a; refine oG rfl (by kernel_rfl) f68 ?_; go_simp; exact f.out _ _ rfl trivial e
      refine EC 10 rfl (fun j k W F a b c d e H K h => ?_) ?_
      ·cases c1 with
       | true =>
        have f68 := gE (a 68) (by kernel_rfl) (H 7) (by kernel_rfl); clear H c b d a; refine off_guard rfl (by kernel_rfl) f68 (by decide) ?_; exact h.out _ _ rfl trivial e
       | false =>
        have f69 := gE (a 69) (by kernel_rfl) (H 8) (by kernel_rfl); have f68 := gE (a 68) (by kernel_rfl) (H 7) (by kernel_rfl); have kg4 : W.cell? ⟨g, 4, none⟩ = some (.int .u64 (f.conn : Int)) := cA (i := 7) e rfl 4 rfl; clear H c b d a; refine oG rfl (by kernel_rfl) f68 ?_; go_simp; exact h.out _ _ rfl trivial e
      refine EC 11 rfl (fun g h W F a b c d e H K f => ?_) ?_
      ·cases c1 with
       | true =>
        have f68 := gE (a 68) (by kernel_rfl) (H 7) (by kernel_rfl); clear H c b d a; refine off_guard rfl (by kernel_rfl) f68 (by decide) ?_; exact f.out _ _ rfl trivial e
       | false =>
        have f0 : F.tmps.getD 0 undef = .pointer (some ⟨q, 0, none⟩) := (a 0).trans (by kernel_rfl); have f68 := gE (a 68) (by kernel_rfl) (H 7) (by kernel_rfl); clear H c b d a; refine oG rfl (by kernel_rfl) f68 ?_; go_simp; exact f.out _ _ rfl trivial e
      refine EC 12 rfl (fun g h W F a b c d e H K f => ?_) ?_
      ·cases c1 with
       | true =>
        have f68 := gE (a 68) (by kernel_rfl) (H 7) (by kernel_rfl); clear H c b d a; refine off_guard rfl (by kernel_rfl) f68 (by decide) ?_; exact f.out _ _ rfl trivial e
       | false =>
        have f71 := gE (a 71) (by kernel_rfl) (H 10) (by kernel_rfl); have f68 := gE (a 68) (by kernel_rfl) (H 7) (by kernel_rfl); clear H c b d a; refine oG rfl (by kernel_rfl) f68 ?_; go_simp; exact f.out _ _ rfl trivial e
      refine EC 13 rfl (fun g h W F a b c d e H K f => ?_) ?_
      ·cases c1 with
       | true =>
        have f68 := gE (a 68) (by kernel_rfl) (H 7) (by kernel_rfl); clear H c b d a; refine off_guard rfl (by kernel_rfl) f68 (by decide) ?_; exact f.out _ _ rfl trivial e
       | false =>
        have f72 := gE (a 72) (by kernel_rfl) (H 11) (by kernel_rfl); have f68 := gE (a 68) (by kernel_rfl) (H 7) (by kernel_rfl); clear H c b d a; refine oG rfl (by kernel_rfl) f68 ?_; go_simp; exact f.out _ _ rfl trivial e
      refine EC 14 rfl (fun g h W F a b c d e H K f => ?_) ?_
      ·cases c1 with
       | true =>
        have f68 := gE (a 68) (by kernel_rfl) (H 7) (by kernel_rfl); clear H c b d a; refine off_guard rfl (by kernel_rfl) f68 (by decide) ?_; exact f.out _ _ rfl trivial e
       | false =>
        have f73 := gE (a 73) (by kernel_rfl) (H 12) (by kernel_rfl); have f68 := gE (a 68) (by kernel_rfl) (H 7) (by kernel_rfl); have kq5 : W.cell? ⟨q, 5, none⟩ = some (.int .u64 (s.known : Int)) := cA (i := 0) e rfl 5 rfl; clear H c b d a; refine oG rfl (by kernel_rfl) f68 ?_; go_simp; exact f.out _ _ rfl trivial e
      refine EC 15 rfl (fun g h W F a b c d e H K f => ?_) ?_
      ·cases c1 with
       | true =>
        have f68 := gE (a 68) (by kernel_rfl) (H 7) (by kernel_rfl); clear H c b d a; refine off_guard rfl (by kernel_rfl) f68 (by decide) ?_; exact f.out _ _ rfl trivial e
       | false =>
        have f70 := gE (a 70) (by kernel_rfl) (H 9) (by kernel_rfl); have f74 := gE (a 74) (by kernel_rfl) (H 13) (by kernel_rfl); have f68 := gE (a 68) (by kernel_rfl) (H 7) (by kernel_rfl); clear H c b d a; refine oG rfl (by kernel_rfl) f68 ?_; have e1 := Ec2.out; go_simp; exact f.out _ _ rfl trivial e
      refine EC 16 rfl (fun g h W F a b c d e H K f => ?_) ?_
      ·cases c1 with
       | true =>
        have f68 := gE (a 68) (by kernel_rfl) (H 7) (by kernel_rfl); have f75 := gE (a 75) (by kernel_rfl) (H 14) (by kernel_rfl); clear H c b d a; refine oP rfl ?_; obtain rfl : y = true := Hy.out; go_simp; exact f.out _ _ rfl trivial e
       | false =>
        have f68 := gE (a 68) (by kernel_rfl) (H 7) (by kernel_rfl); have f75 := gE (a 75) (by kernel_rfl) (H 14) (by kernel_rfl); clear H c b d a; refine oP rfl ?_; obtain rfl : y = c2 := Hy.out; go_simp; exact f.out _ _ rfl trivial e
      exact EN
     ·intro dn xv W hI H; have q15 : xv 15 = .bool y := (H 15 (of_decide_eq_true (by kernel_rfl))).2; have hS : Sep w0 W (DL q (Ce r 43 #[.slice none 0 0, .slice none 0 0] :: Ce g 51 (f.cells CA cc) :: X :: Qs) s bx vF vE LP LE) := hI; clear H hI; simp only [putAll, Act.put, List.setIfInBounds_toArray, List.set_cons_zero, List.set_cons_succ, Nat.reduceAdd, q15]; clear q15
      go_wp2_with fail
      go_meet
      case rel => exact ⟨rfl, _, _, _, _, _, HE1.out, HE2.out, hS⟩
   case rest =>
    obtain ⟨rfl, hS⟩ := hcut; clear HS1; have HS2 := Lib.hid hS; clear hS
    go_upto_if 76 with fail
    go_cut [] from 9 to 186 (fun wx => DLS w0 wx q (Ce r 43 #[.slice none 0 0, .slice none 0 0] :: Ce g 51 (f.cells CA cc) :: X :: Qs) (s.turn f) [] (s.take1E f))
    case first =>
     cases y with
     | false =>
      go_wp2_with fail
      go_meet
      case rel =>
       rw [show s.turn f = s by simp [LS.turn, HOT.out], show s.take1E f = [] by simp [LS.take1E, HOT.out]]; exact HS2.out
     | true =>
      go_wp2_with fail
      refine (rk_down HS2.out (by simp)).mono ?_; rintro e w3 ⟨rfl, h3⟩; have HS3 := Lib.hid h3; have k4 := h3.c4; have f4 := h3.fz 4; obtain ⟨Ps, hq, hp⟩ := h3.q1; have g3 : w3.cell? ⟨g, 3, none⟩ = some (.int .u64 (f.inc : Int)) := cA hq hp 3 rfl; clear h3 hq hp HS2
      go_upto_region 6 with fail
      have h4 := HS3.out.s4 f.inc; obtain ⟨w4, Hw4⟩ : ∃ x, Hid (w3.setCell ⟨q, 4, none⟩ (.int .u64 (f.inc : Int)) = x) := ⟨_, Lib.hid rfl⟩; rw [Hw4.out] at h4 ⊢; have HS4 := Lib.hid h4; have k5 := h4.c5; have f5 := h4.fz 5; obtain ⟨Ps, hq, hp⟩ := h4.q1; have g4 : w4.cell? ⟨g, 4, none⟩ = some (.int .u64 (f.conn : Int)) := cA hq hp 4 rfl; clear h4 hq hp HS3 g3 k4 f4
      go_wp2_with fail
      go_meet
      case rel =>
       rw [show s.turn f = { s.down with inc := f.inc, known := f.conn } by simp [LS.turn, HOT.out], show s.take1E f = [] ++ (if s.up then [s.ev 2 []] else []) by cases hu : s.up <;> simp [LS.take1E, HOT.out, hu]]
       exact HS4.out.s5 f.conn
    case rest =>
     clear HS2; have HS3 := Lib.hid hcut; have k10 := hcut.c10; have f10 := hcut.fz 10; clear hcut
     go_upto_region 8 with fail
     have h4 := HS3.out.s10 now; obtain ⟨t, Ht⟩ : ∃ t, Hid (s.take1 now f = t) := ⟨_, Lib.hid rfl⟩; rw [show ({ s.turn f with heard := now } : LS) = t from Ht.out] at h4; obtain ⟨w4, Hw4⟩ : ∃ x, Hid (wc.setCell ⟨q, 10, none⟩ (.int .u64 (now : Int)) = x) := ⟨_, Lib.hid rfl⟩; rw [Hw4.out] at h4 ⊢; have HS4 := Lib.hid h4; have HOKT : Hid t.Num := Lib.hid (by rw [← Ht.out]; exact HOK.out.take1 hnow f); obtain ⟨E1, HE1x⟩ : ∃ x, Hid (s.take1E f = x) := ⟨_, Lib.hid rfl⟩; have hE1l : E1.length ≤ 1 := by rw [← HE1x.out, LS.take1E]; split <;> simp
     rw [HE1x.out] at HS4; clear h4 HS3 k10 f10; obtain ⟨d1, Ed1⟩ : ∃ x, Hid (((f.pinc : Int) != (t.si : Int)) = x) := ⟨_, Lib.hid rfl⟩; obtain ⟨d2, Ed2⟩ : ∃ x, Hid (((f.pconn : Int) != (t.conn : Int)) = x) := ⟨_, Lib.hid rfl⟩; obtain ⟨x, Hx⟩ : ∃ x, Hid (x = (d1 || d2)) := ⟨_, Lib.hid rfl⟩
     have HKN : Hid (t.knows f = !x) := Lib.hid (by
      rw [Hx.out, ← Ed1.out, ← Ed2.out, LS.knows]
      by_cases h1 : f.pinc = t.si <;> by_cases h2 : f.pconn = t.conn <;> simp [h1, h2] <;> omega)
     go_cut [109] from 9 to 186 (fun v wx => v = .bool x ∧ DLS w0 wx q (Ce r 43 #[.slice none 0 0, .slice none 0 0] :: Ce g 51 (f.cells CA cc) :: X :: Qs) t [] E1)
     case first =>
      as_aux_lemma =>
       obtain ⟨bx, vF, vE, LP, LE, e1, e2, h3⟩ := HS4.out; have HSR := Lib.hid h3; have HE1 := Lib.hid e1; have HE2 := Lib.hid e2; clear h3 e1 e2; clear HS4
       go_wp2_with fail
       refine wRG (fun dn xv W => Sep w0 W (DL q (Ce r 43 #[.slice none 0 0, .slice none 0 0] :: Ce g 51 (f.cells CA cc) :: X :: Qs) t bx vF vE LP LE)) (fun _ _ => True) [xP_ g 5, xV_ (.int .u64 (f.pinc : Int)), xP_ q 0, xP_ q 0, xP_ q 0, xP_ q 1, xV_ (.int .u64 (t.si : Int)), xV_ (.bool d1), xV_ (.bool d1), xV_ (bif d1 then undef else .pointer (some ⟨g, 6, none⟩)), xV_ (bif d1 then undef else .int .u64 (f.pconn : Int)), xV_ (bif d1 then undef else .pointer (some ⟨q, 0, none⟩)), xV_ (bif d1 then undef else .pointer (some ⟨q, 0, none⟩)), xV_ (bif d1 then undef else .pointer (some ⟨q, 3, none⟩)), xV_ (bif d1 then undef else .int .u64 (t.conn : Int)), xV_ (bif d1 then undef else .bool d2), xV_ (.bool x)] (fun xv => by simpa using HSR.out.drew) ?_ ?_
       ·refine Ep 1 5 g 0 ?_
        refine EC 2 rfl (fun j k W F a b c d e H K h => ?_) ?_
        ·have f93 := gE (a 93) (by kernel_rfl) (H 0) (by kernel_rfl); have kg5 : W.cell? ⟨g, 5, none⟩ = some (.int .u64 (f.pinc : Int)) := cA (i := 7) e rfl 5 rfl; clear H c b d a; refine oP rfl ?_; go_simp; exact h.out _ _ rfl trivial e
        refine Ep 3 0 q 0 ?_
        refine Ee 4 95 2 ?_
        refine Ee 5 96 3 ?_
        refine Ee 6 97 4 ?_
        refine EC 7 rfl (fun g h W F a b c d e H K f => ?_) ?_
        ·have f98 := gE (a 98) (by kernel_rfl) (H 5) (by kernel_rfl); have kq1 : W.cell? ⟨q, 1, none⟩ = some (.int .u64 (t.si : Int)) := cA (i := 0) e rfl 1 rfl; clear H c b d a; refine oP rfl ?_; go_simp; exact f.out _ _ rfl trivial e
        refine EC 8 rfl (fun g h W F a b c d e H K f => ?_) ?_
        ·have f94 := gE (a 94) (by kernel_rfl) (H 1) (by kernel_rfl); have f99 := gE (a 99) (by kernel_rfl) (H 6) (by kernel_rfl); clear H c b d a; refine oP rfl ?_; have e1 := Ed1.out; go_simp; exact f.out _ _ rfl trivial e
        refine Ee 9 100 7 ?_
        refine EC 10 rfl (fun h i W F a b c d e H K f => ?_) ?_
        ·cases d1 with
         | true =>
          have f101 := gE (a 101) (by kernel_rfl) (H 8) (by kernel_rfl); clear H c b d a; refine off_guard rfl (by kernel_rfl) f101 (by decide) ?_; exact f.out _ _ rfl trivial e
         | false =>
          have f5 : F.tmps.getD 5 undef = .pointer (some ⟨g, 0, none⟩) := (a 5).trans (by kernel_rfl); have f101 := gE (a 101) (by kernel_rfl) (H 8) (by kernel_rfl); clear H c b d a; refine oG rfl (by kernel_rfl) f101 ?_; go_simp; exact f.out _ _ rfl trivial e
        refine EC 11 rfl (fun j k W F a b c d e H K h => ?_) ?_
        ·cases d1 with
         | true =>
          have f101 := gE (a 101) (by kernel_rfl) (H 8) (by kernel_rfl); clear H c b d a; refine off_guard rfl (by kernel_rfl) f101 (by decide) ?_; exact h.out _ _ rfl trivial e
         | false =>
          have f102 := gE (a 102) (by kernel_rfl) (H 9) (by kernel_rfl); have f101 := gE (a 101) (by kernel_rfl) (H 8) (by kernel_rfl); have kg6 : W.cell? ⟨g, 6, none⟩ = some (.int .u64 (f.pconn : Int)) := cA (i := 7) e rfl 6 rfl; clear H c b d a; refine oG rfl (by kernel_rfl) f101 ?_; go_simp; exact h.out _ _ rfl trivial e
        refine EC 12 rfl (fun g h W F a b c d e H K f => ?_) ?_
        ·cases d1 with
         | true =>
          have f101 := gE (a 101) (by kernel_rfl) (H 8) (by kernel_rfl); clear H c b d a; refine off_guard rfl (by kernel_rfl) f101 (by decide) ?_; exact f.out _ _ rfl trivial e
         | false =>
          have f0 : F.tmps.getD 0 undef = .pointer (some ⟨q, 0, none⟩) := (a 0).trans (by kernel_rfl); have f101 := gE (a 101) (by kernel_rfl) (H 8) (by kernel_rfl); clear H c b d a; refine oG rfl (by kernel_rfl) f101 ?_; go_simp; exact f.out _ _ rfl trivial e
        refine EC 13 rfl (fun g h W F a b c d e H K f => ?_) ?_
        ·cases d1 with
         | true =>
          have f101 := gE (a 101) (by kernel_rfl) (H 8) (by kernel_rfl); clear H c b d a; refine off_guard rfl (by kernel_rfl) f101 (by decide) ?_; exact f.out _ _ rfl trivial e
         | false =>
          have f104 := gE (a 104) (by kernel_rfl) (H 11) (by kernel_rfl); have f101 := gE (a 101) (by kernel_rfl) (H 8) (by kernel_rfl); clear H c b d a; refine oG rfl (by kernel_rfl) f101 ?_; go_simp; exact f.out _ _ rfl trivial e
        refine EC 14 rfl (fun g h W F a b c d e H K f => ?_) ?_
        ·cases d1 with
         | true =>
          have f101 := gE (a 101) (by kernel_rfl) (H 8) (by kernel_rfl); clear H c b d a; refine off_guard rfl (by kernel_rfl) f101 (by decide) ?_; exact f.out _ _ rfl trivial e
         | false =>
          have f105 := gE (a 105) (by kernel_rfl) (H 12) (by kernel_rfl); have f101 := gE (a 101) (by kernel_rfl) (H 8) (by kernel_rfl); clear H c b d a; refine oG rfl (by kernel_rfl) f101 ?_; go_simp; exact f.out _ _ rfl trivial e
        refine EC 15 rfl (fun g h W F a b c d e H K f => ?_) ?_
        ·cases d1 with
         | true =>
          have f101 := gE (a 101) (by kernel_rfl) (H 8) (by kernel_rfl); clear H c b d a; refine off_guard rfl (by kernel_rfl) f101 (by decide) ?_; exact f.out _ _ rfl trivial e
         | false =>
          have f106 := gE (a 106) (by kernel_rfl) (H 13) (by kernel_rfl); have f101 := gE (a 101) (by kernel_rfl) (H 8) (by kernel_rfl); have kq3 : W.cell? ⟨q, 3, none⟩ = some (.int .u64 (t.conn : Int)) := cA (i := 0) e rfl 3 rfl; clear H c b d a; refine oG rfl (by kernel_rfl) f101 ?_; go_simp; exact f.out _ _ rfl trivial e
        refine EC 16 rfl (fun g h W F a b c d e H K f => ?_) ?_
        ·cases d1 with
         | true =>
          have f101 := gE (a 101) (by kernel_rfl) (H 8) (by kernel_rfl); clear H c b d a; refine off_guard rfl (by kernel_rfl) f101 (by decide) ?_; exact f.out _ _ rfl trivial e
         | false =>
          have f103 := gE (a 103) (by kernel_rfl) (H 10) (by kernel_rfl); have f107 := gE (a 107) (by kernel_rfl) (H 14) (by kernel_rfl); have f101 := gE (a 101) (by kernel_rfl) (H 8) (by kernel_rfl); clear H c b d a; refine oG rfl (by kernel_rfl) f101 ?_; have e1 := Ed2.out; go_simp; exact f.out _ _ rfl trivial e
        refine EC 17 rfl (fun g h W F a b c d e H K f => ?_) ?_
        ·cases d1 with
         | true =>
          have f101 := gE (a 101) (by kernel_rfl) (H 8) (by kernel_rfl); have f108 := gE (a 108) (by kernel_rfl) (H 15) (by kernel_rfl); clear H c b d a; refine oP rfl ?_; obtain rfl : x = true := Hx.out; go_simp; exact f.out _ _ rfl trivial e
         | false =>
          have f101 := gE (a 101) (by kernel_rfl) (H 8) (by kernel_rfl); have f108 := gE (a 108) (by kernel_rfl) (H 15) (by kernel_rfl); clear H c b d a; refine oP rfl ?_; obtain rfl : x = d2 := Hx.out; go_simp; exact f.out _ _ rfl trivial e
        exact EN
       ·intro dn xv W hI H; have q16 : xv 16 = .bool x := (H 16 (of_decide_eq_true (by kernel_rfl))).2; have hS : Sep w0 W (DL q (Ce r 43 #[.slice none 0 0, .slice none 0 0] :: Ce g 51 (f.cells CA cc) :: X :: Qs) t bx vF vE LP LE) := hI; clear H hI; simp only [putAll, Act.put, List.setIfInBounds_toArray, List.set_cons_zero, List.set_cons_succ, Nat.reduceAdd, q16]; clear q16
        go_wp2_with fail
        go_meet
        case rel => exact ⟨rfl, _, _, _, _, _, HE1.out, HE2.out, hS⟩
     case rest =>
      obtain ⟨rfl, hS⟩ := hcut; clear HS4; have HS5 := Lib.hid hS; clear hS; cases x with
      | true =>
       go_wp2_with fail
       refine (rk_hello HS5.out).mono ?_; rintro e w6 ⟨rfl, h6⟩; have HS6 := Lib.hid h6; clear h6 HS5
       go_wp2_with fail
       refine (rk_send0 (f := t.hello) rfl HS6.out (by simp)).mono ?_; rintro e w7 ⟨rfl, h7⟩; have HS7 := Lib.hid h7; clear h7 HS6
       go_wp2_with fail
       refine (rk_answered HS7.out).mono ?_; rintro e w8 ⟨v, rfl, h8⟩; obtain ⟨FA, fn, fc, EA, en, ec, rfl, k0, k1, f0, f1, j0, j1, h9⟩ := h8.res; have HS9 := Lib.hid h9.popQ; clear h8 h9 HS7
       go_wp2_with fail
       refine bodyPost_ret (v := .agg #[.slice FA fn fc, .slice EA en ec]) (by simp [results, Try.results50, go_sem, j0, j1]) rfl ?_; refine ⟨_, rfl, ?_⟩; rw [show s.take now f = t by simp [LS.take, HLK.out, Ht.out, HKN.out], show s.takeF now f = [] ++ [t.hello] by simp [LS.takeF, HLK.out, Ht.out, HKN.out], show s.takeE now f = E1 by simp [LS.takeE, HLK.out, Ht.out, HKN.out, HE1x.out]]; exact HS9.out
      | false =>
       have HTK5 := Lib.hid (take5_all HOKT.out now f); obtain ⟨hb, Hhb⟩ : ∃ x, Hid (t.helloBack f = x) := ⟨_, Lib.hid rfl⟩; obtain ⟨u, Hu⟩ : ∃ x, Hid (({ t with up := true } : LS) = x) := ⟨_, Lib.hid rfl⟩; have HOKU : Hid u.Num := Lib.hid (by rw [← Hu.out]; exact ⟨HOKT.out.sn, HOKT.out.base, HOKT.out.box, HOKT.out.bodies, HOKT.out.got, HOKT.out.heard, HOKT.out.sent⟩); have k6 := HS5.out.c6; have f6 := HS5.out.fz 6
       go_upto_if 120 with fail
       go_cut [7] from 9 to 186 (fun v wx => v = .bool (!t.up) ∧ DLS w0 wx q (Ce r 43 #[.slice none 0 0, .slice none 0 0] :: Ce g 51 (f.cells CA cc) :: X :: Qs) u [] (E1 ++ t.take2E))
       case first =>
        cases hu : t.up with
        | true =>
         rw [hu] at k6; have HUT : Hid (u = t ∧ t.take2E = []) := Lib.hid ⟨by rw [← Hu.out]; exact up_self hu, by simp [LS.take2E, hu]⟩; have Hup := Lib.hid hu; clear hu
         go_wp2_with fail
         go_meet
         case rel =>
          refine ⟨by rw [Hup.out]; rfl, ?_⟩; rw [HUT.out.1, HUT.out.2, List.append_nil]; exact HS5.out
        | false =>
         rw [hu] at k6; have HUT : Hid (t.take2E = [u.ev 1 []]) := Lib.hid (by rw [← Hu.out]; simp [LS.take2E, hu]; rfl); have h6 := HS5.out.s6 true; rw [Hu.out] at h6; have HS6 := Lib.hid h6; have Hup := Lib.hid hu; clear hu h6
         go_wp2_with fail
         refine (rk_tell0 1 HS6.out (by omega)).mono ?_; rintro e w7 ⟨rfl, h7⟩; have HS7 := Lib.hid h7; clear h7 HS6 HS5
         go_wp2_with fail
         go_meet
         case rel =>
          refine ⟨by rw [Hup.out]; rfl, ?_⟩; rw [HUT.out]; exact HS7.out
       case rest =>
        obtain ⟨rfl, hS⟩ := hcut; clear HS5 k6 f6; obtain ⟨E2, HE2x⟩ : ∃ x, Hid (E1 ++ t.take2E = x) := ⟨_, Lib.hid rfl⟩; have hE2l : E2.length ≤ 2 := by rw [← HE2x.out, List.length_append, LS.take2E]; split <;> simp <;> omega
        rw [HE2x.out] at hS; have HS6 := Lib.hid hS; clear hS; obtain ⟨bx, vF, vE, LP, LE, e1, e2, h3⟩ := HS6.out; have HSR := Lib.hid h3; have HE1 := Lib.hid e1; have HE2 := Lib.hid e2; clear h3 e1 e2; clear HS6; obtain ⟨BA, bc, hbxe, hcc, hcm, _⟩ := sep_boxRForm (i := 1) HSR.out rfl; subst hbxe; obtain ⟨d, HD⟩ : ∃ d, Hid (min u.box.length 8 = d) := ⟨_, Lib.hid rfl⟩; have hd8 : d ≤ 8 := by have := HD.out; omega
        obtain ⟨lst, HLST⟩ : ∃ x, Hid (u.base + d = x) := ⟨_, Lib.hid rfl⟩; have hll : lst ≤ 34359738400 := by have := HLST.out; have := HOKU.out.base; have := HOKU.out.box; omega
        have ew : IntKind.u64.wrap (d : Int) = (d : Int) := u64_wrapG (by omega) (by omega); have ev : IntKind.u64.wrap ((u.base : Int) + (d : Int)) = ((lst : Nat) : Int) := by
         have := HLST.out
         rw [← this, Int.natCast_add]; exact u64_wrapG (by omega) (by omega)
        have HDU : Hid (∀ W : World, Bx W W.heap.size BA u.box → Calls Try.prog 68 #[.agg #[.int .u64 (u.base : Int), .slice BA u.box.length bc]] W fun e w' => e = .returned (.int .i64 (d : Int)) ∧ Below W.heap.size W w') := Lib.hid fun W hW => by
         have h := dueR_any W W.heap.size u.base BA bc u.box hW (Nat.le_refl _) (by have := HOKU.out.base; omega) (by have := HOKU.out.box; unfold maxLen; omega)
         rwa [dueN, if_pos HOKU.out.may, HD.out] at h
        go_wp2_with fail
        refine wRG (fun dn xv W => Sep w0 W (DL q (Ce r 43 #[.slice none 0 0, .slice none 0 0] :: Ce g 51 (f.cells CA cc) :: X :: Qs) u (.slice BA u.box.length bc) vF vE LP LE)) (fun _ _ => True) [xP_ q 0, xP_ q 0, xP_ q 7, xP_ q 7, xV_ (.int .u64 (u.base : Int)), xP_ q 0, xP_ q 0, xP_ q 7, xV_ (.agg #[.int .u64 (u.base : Int), .slice BA u.box.length bc]), xV_ (.int .i64 (d : Int)), xV_ (.int .u64 (d : Int)), xV_ (.int .u64 (lst : Int)), xV_ (.int .u64 (lst : Int))] (fun xv => by simpa using HSR.out.drew) ?_ ?_
        ·refine Ep 1 0 q 0 ?_
         refine Ee 2 126 0 ?_
         refine Ee 3 127 1 ?_
         refine Ee 4 128 2 ?_
         refine EC 5 rfl (fun g h W F a b c d e H K f => ?_) ?_
         ·have f129 := gE (a 129) (by kernel_rfl) (H 3) (by kernel_rfl); have k7 : W.cell? ⟨q, 7, none⟩ = some (.int .u64 (u.base : Int)) := cA (i := 0) e rfl 7 rfl; clear H c b d a; refine oP rfl ?_; go_simp; exact f.out _ _ rfl trivial e
         refine Ep 6 0 q 0 ?_
         refine Ee 7 131 5 ?_
         refine Ee 8 132 6 ?_
         refine EC 9 rfl (fun g h W F a b c d e H K f => ?_) ?_
         ·have f133 := gE (a 133) (by kernel_rfl) (H 7) (by kernel_rfl); have k7 : W.cell? ⟨q, 7, none⟩ = some (.int .u64 (u.base : Int)) := cA (i := 0) e rfl 7 rfl; have k8 : W.cell? ⟨q, 8, none⟩ = some (.slice BA u.box.length bc) := cA (i := 0) e rfl 8 rfl; clear H c b d a; refine oP rfl ?_; go_simp; exact f.out _ _ rfl trivial e
         refine EC 10 rfl (fun h j W F a b c d f H K g => ?_) ?_
         ·have f134 := gE (a 134) (by kernel_rfl) (H 8) (by kernel_rfl); clear H c b d a; refine oP rfl ?_; go_simp; refine (HDU.out W (sep_boxRAt (i := 1) f rfl)).mono ?_; rintro e W' ⟨rfl, hb⟩; have f := f.grow hb; exact g.out _ W' rfl trivial (by simpa [upB, upd] using f)
         refine Ee 11 135 9 ?_
         refine Eee 12 130 4 136 10 ?_
         refine Ee 13 137 11 ?_
         exact EN
        ·intro dn xv W hI H; have q12 : xv 12 = .int .u64 (lst : Int) := (H 12 (of_decide_eq_true (by kernel_rfl))).2; have hS : Sep w0 W (DL q (Ce r 43 #[.slice none 0 0, .slice none 0 0] :: Ce g 51 (f.cells CA cc) :: X :: Qs) u (.slice BA u.box.length bc) vF vE LP LE) := hI; clear H hI; simp only [putAll, Act.put, List.setIfInBounds_toArray, List.set_cons_zero, List.set_cons_succ, Nat.reduceAdd, q12]; clear q12; have HSR : Hid (Sep w0 W (DL q (Ce r 43 #[.slice none 0 0, .slice none 0 0] :: Ce g 51 (f.cells CA cc) :: X :: Qs) u (.slice BA u.box.length bc) vF vE LP LE)) := Lib.hid hS; clear hS
         go_wp2_with fail
         obtain ⟨base2, Hb2⟩ : ∃ x, Hid (ackV u.base u.box f.ack = x) := ⟨_, Lib.hid rfl⟩; obtain ⟨box2, Hx2⟩ : ∃ x, Hid (ackL u.base u.box f.ack = x) := ⟨_, Lib.hid rfl⟩; obtain ⟨okA, Hok⟩ : ∃ x, Hid (ackB u.base u.box f.ack = x) := ⟨_, Lib.hid rfl⟩; have HACK : Hid (∀ W : World, Bx W W.heap.size BA u.box → Calls Try.prog 69 #[.agg #[.int .u64 (u.base : Int), .slice BA u.box.length bc], .int .u64 (f.ack : Int)] W fun e w' => Below W.heap.size W w' ∧ ∃ A c, e = .returned (.tuple #[.agg #[.int .u64 (base2 : Int), .slice A box2.length c], .bool okA]) ∧ BoxR (.slice A box2.length c) box2 w' (fun k => W.heap.size ≤ k ∧ k < w'.heap.size)) := Lib.hid fun W hW => by
          have h := ackedR2_any W u.base f.ack BA bc u.box hW (by have := HOKU.out.base; omega) hack HOKU.out.fit hcc hcm; unfold RAckPost2 at h
          rwa [Hb2.out, Hx2.out, Hok.out] at h
         have HV3 : Hid (({ u with base := base2, box := box2 } : LS) = u.take3 f) := Lib.hid (by rw [← Hb2.out, ← Hx2.out, ← Hu.out]; rfl); have HP17 : ∀ (dn : Nat → Bool) (xv : Nat → Value) (W : World), (if dn 13 = true then DLS w0 W q (Ce r 43 #[.slice none 0 0, .slice none 0 0] :: Ce g 51 (f.cells CA cc) :: X :: Qs) { u with base := base2, box := box2 } [] E2 else if dn 9 = true then AckS2 (xv 9) w0 W base2 box2 (DL q (Ce r 43 #[.slice none 0 0, .slice none 0 0] :: Ce g 51 (f.cells CA cc) :: X :: Qs) u (.slice BA u.box.length bc) vF vE LP LE) else if dn 8 = true then AckS (xv 8) w0 W base2 okA box2 (DL q (Ce r 43 #[.slice none 0 0, .slice none 0 0] :: Ce g 51 (f.cells CA cc) :: X :: Qs) u (.slice BA u.box.length bc) vF vE LP LE) else if dn 7 = true then AckS (xv 7) w0 W base2 okA box2 (DL q (Ce r 43 #[.slice none 0 0, .slice none 0 0] :: Ce g 51 (f.cells CA cc) :: X :: Qs) u (.slice BA u.box.length bc) vF vE LP LE) else Sep w0 W (DL q (Ce r 43 #[.slice none 0 0, .slice none 0 0] :: Ce g 51 (f.cells CA cc) :: X :: Qs) u (.slice BA u.box.length bc) vF vE LP LE)) → W.cell? ⟨g, 7, none⟩ = some (.int .u64 (f.ack : Int)) := fun dn xv W h => by
          split at h
          ·obtain ⟨_, hq, hp⟩ := h.q1; exact cA hq hp 7 rfl
          split at h
          ·obtain ⟨_, _, _, h⟩ := h; exact cA (i := 8) h rfl 7 rfl
          split at h
          ·obtain ⟨_, _, _, h⟩ := h; exact cA (i := 8) h rfl 7 rfl
          split at h
          ·obtain ⟨_, _, _, h⟩ := h; exact cA (i := 8) h rfl 7 rfl
          exact cA (i := 7) h rfl 7 rfl
         refine wRG (fun dn xv W => if dn 13 = true then DLS w0 W q (Ce r 43 #[.slice none 0 0, .slice none 0 0] :: Ce g 51 (f.cells CA cc) :: X :: Qs) { u with base := base2, box := box2 } [] E2 else if dn 9 = true then AckS2 (xv 9) w0 W base2 box2 (DL q (Ce r 43 #[.slice none 0 0, .slice none 0 0] :: Ce g 51 (f.cells CA cc) :: X :: Qs) u (.slice BA u.box.length bc) vF vE LP LE) else if dn 8 = true then AckS (xv 8) w0 W base2 okA box2 (DL q (Ce r 43 #[.slice none 0 0, .slice none 0 0] :: Ce g 51 (f.cells CA cc) :: X :: Qs) u (.slice BA u.box.length bc) vF vE LP LE) else if dn 7 = true then AckS (xv 7) w0 W base2 okA box2 (DL q (Ce r 43 #[.slice none 0 0, .slice none 0 0] :: Ce g 51 (f.cells CA cc) :: X :: Qs) u (.slice BA u.box.length bc) vF vE LP LE) else Sep w0 W (DL q (Ce r 43 #[.slice none 0 0, .slice none 0 0] :: Ce g 51 (f.cells CA cc) :: X :: Qs) u (.slice BA u.box.length bc) vF vE LP LE)) (fun _ _ => True) [xP_ q 0, xP_ q 0, xP_ q 0, xP_ q 7, xV_ (.agg #[.int .u64 (u.base : Int), .slice BA u.box.length bc]), xP_ g 7, xV_ (.int .u64 (f.ack : Int)), fun v _ => ∃ A c, v = .tuple #[.agg #[.int .u64 (base2 : Int), .slice A box2.length c], .bool okA], fun v _ => ∃ A c, v = .tuple #[.agg #[.int .u64 (base2 : Int), .slice A box2.length c], .bool okA], fun v _ => True, xV_ (.bool okA), xP_ q 0, xP_ q 7, fun v _ => True] (fun xv => by simpa using HSR.out.drew) ?_ ?_
         ·refine Ep 1 0 q 0 ?_
          refine Ep 2 0 q 0 ?_
          refine Ee 3 140 1 ?_
          refine Ee 4 141 2 ?_
          refine EC 5 rfl (fun k l W F a b c d e H K h => ?_) ?_
          ·have f142 := gE (a 142) (by kernel_rfl) (H 3) (by kernel_rfl); have q7 := c 7 uE; have q8 := c 8 (uM 7 uE); have q9 := c 9 (uM 8 (uM 7 uE)); have q13 := c 13 (uM 9 (uM 8 (uM 7 uE))); have hI0 : Sep w0 W (DL q (Ce r 43 #[.slice none 0 0, .slice none 0 0] :: Ce g 51 (f.cells CA cc) :: X :: Qs) u (.slice BA u.box.length bc) vF vE LP LE) := by simpa [q7, q8, q9, q13] using e
           have kg0 : W.cell? ⟨q, 7, none⟩ = some (.int .u64 (u.base : Int)) := cA (i := 0) hI0 rfl 7 rfl; have kg1 : W.cell? ⟨q, 8, none⟩ = some (.slice BA u.box.length bc) := cA (i := 0) hI0 rfl 8 rfl; clear hI0; clear H c b d a; refine oP rfl ?_; go_simp; exact h.out _ _ rfl trivial e
          refine Ep 6 5 g 0 ?_
          refine Eek 7 144 5 (fun g h W e => HP17 g h W e) ?_
          refine EC 8 rfl (fun n o W F a b d h l H K m => ?_) ?_
          ·have f143 := gE (a 143) (by kernel_rfl) (H 4) (by kernel_rfl); have f145 := gE (a 145) (by kernel_rfl) (H 6) (by kernel_rfl); have q8 := d 8 uE; have q9 := d 9 (uM 8 uE); have q13 := d 13 (uM 9 (uM 8 uE)); rw [if_neg (by simp [q13]), if_neg (by simp [q9]), if_neg (by simp [q8]), if_neg (by simp [b])] at l; have hS := l; clear l d b h a H; refine oP rfl ?_; go_simp; refine (HACK.out W (sep_boxRAt (i := 1) hS rfl)).mono ?_; rintro e W' ⟨hb, A, c, rfl, ho⟩; have hs : AckS (.tuple #[.agg #[.int .u64 (base2 : Int), .slice A box2.length c], .bool okA]) w0 W' base2 okA box2 (DL q (Ce r 43 #[.slice none 0 0, .slice none 0 0] :: Ce g 51 (f.cells CA cc) :: X :: Qs) u (.slice BA u.box.length bc) vF vE LP LE) := ⟨A, c, rfl, (hS.add hb ho (BoxR.loc _ _) fun k hk => hk.1).lastFront⟩; exact m.out _ W' ⟨A, c, rfl⟩ trivial (by simpa [upB, upd, q8, q9, q13] using hs)
          refine EC 9 rfl (fun g h W F a b c d e H K f => ?_) ?_
          ·have h7 := (H 7 uE).2; simp only [Dl] at h7; have f146 : F.tmps.getD 146 undef = h 7 := (a 146).trans (by kernel_rfl); have q7 := (H 7 uE).1; have q9 := c 9 uE; have q13 := c 13 (uM 9 uE); rw [if_neg (by simp [q13]), if_neg (by simp [q9]), if_neg (by simp [b]), if_pos q7] at e; have hS := e; clear e c b d a H; refine oP rfl ?_; go_simp; have hs := hS; exact f.out _ W h7 trivial (by simpa [upB, upd, q9, q13] using hs)
          refine EC 10 rfl (fun j k W F a b d e h H K i => ?_) ?_
          ·have f138 : F.tmps.getD 138 undef = k 8 := (a 138).trans (by kernel_rfl); have q8 := (H 8 uE).1; have q13 := d 13 uE; rw [if_neg (by simp [q13]), if_neg (by simp [b]), if_pos q8] at h; have hS := h; clear h d b e a H; refine oP rfl ?_; obtain ⟨A, c, e2, hS⟩ := hS; rw [e2] at f138; go_simp; have hs : AckS2 (.agg #[.int .u64 (base2 : Int), .slice A box2.length c]) w0 W base2 box2 (DL q (Ce r 43 #[.slice none 0 0, .slice none 0 0] :: Ce g 51 (f.cells CA cc) :: X :: Qs) u (.slice BA u.box.length bc) vF vE LP LE) := ⟨A, c, rfl, hS⟩; exact i.out _ W trivial trivial (by simpa [upB, upd, q13] using hs)
          refine EC 11 rfl (fun h i W F a b d e f H K g => ?_) ?_
          ·have h8 := (H 8 uE).2; simp only [Dl] at h8; have f138 : F.tmps.getD 138 undef = i 8 := (a 138).trans (by kernel_rfl); obtain ⟨A, c, ev⟩ := h8; rw [ev] at f138; clear H d b e a; refine oP rfl ?_; go_simp; exact g.out _ _ rfl trivial f
          refine Ee 12 139 0 ?_
          refine Ee 13 149 11 ?_
          refine EC 14 rfl (fun k l W F a b d e h H K j => ?_) ?_
          ·have f147 : F.tmps.getD 147 undef = l 9 := (a 147).trans (by kernel_rfl); have f150 := gE (a 150) (by kernel_rfl) (H 12) (by kernel_rfl); have q9 := (H 9 uE).1; rw [if_neg (by simp [b]), if_pos q9] at h; have hS := h; clear h d b e a H; refine oP rfl ?_; obtain ⟨A, c, e2, hS⟩ := hS; rw [e2] at f147; have hc0 : W.cell? ⟨q, 7, none⟩ = some (.int .u64 (u.base : Int)) := cA (i := 1) hS rfl 7 rfl; have hc1 : W.cell? ⟨q, 8, none⟩ = some (.slice BA u.box.length bc) := cA (i := 1) hS rfl 8 rfl; have hf0 := cFz (i := 1) hS rfl 7; have hf1 := cFz (i := 1) hS rfl 8; have hs : DLS w0 ((W.setCell ⟨q, 7, none⟩ (.int .u64 (base2 : Int))).setCell ⟨q, 8, none⟩ (.slice A box2.length c)) q (Ce r 43 #[.slice none 0 0, .slice none 0 0] :: Ce g 51 (f.cells CA cc) :: X :: Qs) { u with base := base2, box := box2 } [] E2 := ⟨_, _, _, _, _, HE1.out, HE2.out, sep_dlBox hS⟩; go_simp; exact j.out undef _ trivial trivial (by simpa [upB, upd] using hs)
          exact EN
         ·intro dn xv W hI H; have qe : dn 13 = true := (H 13 (of_decide_eq_true (by kernel_rfl))).1; rw [if_pos qe] at hI; have hS := hI; clear H hI qe; simp only [putAll, Act.put, List.setIfInBounds_toArray, List.set_cons_zero, List.set_cons_succ, Nat.reduceAdd]; obtain ⟨v3, Hv3⟩ : ∃ x, Hid (u.take3 f = x) := ⟨_, Lib.hid rfl⟩; rw [HV3.out, Hv3.out] at hS; have HS7 := Lib.hid hS; clear hS HACK HP17; have HOK3 : Hid v3.Num := Lib.hid (by rw [← Hv3.out]; exact HOKU.out.take3 f); have g0 : W.cell? ⟨g, 0, none⟩ = some (.int .i64 f.kind) := by
           obtain ⟨_, hq, hp⟩ := HS7.out.q1; exact cA hq hp 0 rfl
          go_upto_if 153 with fail
          go_cut [7] from 9 to 186 (fun v wx => v = .bool hb ∧ DLS w0 wx q (Ce r 43 #[.slice none 0 0, .slice none 0 0] :: Ce g 51 (f.cells CA cc) :: X :: Qs) (v3.take4 f) [] (E2 ++ v3.take4E f))
          case first =>
           by_cases hk : f.kind = 2
           ·have ek : (f.kind == 2) = true := by simp [hk]
            have Hhb1 : Hid (hb = true) := Lib.hid (by rw [← Hhb.out, LS.helloBack, decide_eq_true hk]; rfl); obtain ⟨tv, Htv⟩ : ∃ x, Hid (takeV v3.got f.seq = x) := ⟨_, Lib.hid rfl⟩; obtain ⟨tb, Htb⟩ : ∃ x, Hid (takeB v3.got f.seq = x) := ⟨_, Lib.hid rfl⟩; have HTB : Hid (v3.taken f = tb) := Lib.hid (by rw [LS.taken, decide_eq_true hk, Htb.out]; rfl); have HTK : Hid (∀ W : World, Calls Try.prog 70 #[.agg #[.int .u64 (v3.got : Int)], .int .u64 (f.seq : Int)] W fun e w' => e = .returned (.tuple #[.agg #[.int .u64 (tv : Int)], .bool tb]) ∧ Below W.heap.size W w') := Lib.hid fun W => by
             have h := rtake_any W v3.got f.seq (by have := HOK3.out.got; omega) hseq
             rwa [TakeRes, Htv.out, Htb.out] at h
            clear hk; obtain ⟨bx, vF, vE, LP, LE, e1, e2, h3⟩ := HS7.out; have HSR := Lib.hid h3; have HE1 := Lib.hid e1; have HE2 := Lib.hid e2; clear h3 e1 e2; clear HS7 g0; obtain ⟨W7, HW7⟩ : ∃ x, Hid (W = x) := ⟨_, Lib.hid rfl⟩; rw [HW7.out] at HSR ⊢
            go_wp2_with fail
            refine wRG (fun dn xv W => CellSt 70 (dn 10) (dn 11) (xv 10) w0 W (DL q (Ce r 43 #[.slice none 0 0, .slice none 0 0] :: Ce g 51 (f.cells CA cc) :: X :: Qs) v3 bx vF vE LP LE) (.int .u64 (tv : Int))) (fun _ _ => True) [xP_ q 0, xP_ q 0, xP_ q 9, xV_ (.agg #[.int .u64 (v3.got : Int)]), xP_ g 8, xV_ (.int .u64 (f.seq : Int)), xV_ (.tuple #[.agg #[.int .u64 (tv : Int)], .bool tb]), xV_ (.tuple #[.agg #[.int .u64 (tv : Int)], .bool tb]), xV_ (.agg #[.int .u64 (tv : Int)]), xV_ (.bool tb), fun v _ => True, fun v _ => True, xV_ (.bool tb)] (fun xv => by simpa [CellSt] using HSR.out.drew) ?_ ?_
            ·refine Ep 1 0 q 0 ?_
             refine Ee 2 155 0 ?_
             refine Ee 3 156 1 ?_
             refine EC 4 rfl (fun g h W F a b c d e H K f => ?_) ?_
             ·have f157 := gE (a 157) (by kernel_rfl) (H 2) (by kernel_rfl); have kq9 : W.cell? ⟨q, 9, none⟩ = some (.int .u64 (v3.got : Int)) := cA (i := 0) e.sep rfl 9 rfl; clear H c b d a; refine oP rfl ?_; go_simp; exact f.out _ _ rfl trivial e
             refine Ep 5 5 g 0 ?_
             refine EC 6 rfl (fun j k W F a b c d e H K h => ?_) ?_
             ·have f159 := gE (a 159) (by kernel_rfl) (H 4) (by kernel_rfl); have kg8 : W.cell? ⟨g, 8, none⟩ = some (.int .u64 (f.seq : Int)) := cA (i := 7) e.sep rfl 8 rfl; clear H c b d a; refine oP rfl ?_; go_simp; exact h.out _ _ rfl trivial e
             refine EC 7 rfl (fun h i W F a b c d f H K g => ?_) ?_
             ·have f158 := gE (a 158) (by kernel_rfl) (H 3) (by kernel_rfl); have f160 := gE (a 160) (by kernel_rfl) (H 5) (by kernel_rfl); clear H c b d a; refine oP rfl ?_; go_simp; refine (HTK.out W).mono ?_; rintro e W' ⟨rfl, hb⟩; exact g.out _ W' rfl trivial (by simpa [upB, upd] using f.grow hb)
             refine Ee 8 161 6 ?_
             refine Ee 9 154 7 ?_
             refine Ee 10 154 7 ?_
             refine EC 11 rfl (fun g h W F a b c d e H K f => ?_) ?_
             ·have q11 := c 11 uE; rw [b, q11] at e; clear H c b d a; refine oP rfl ?_; go_simp; exact f.out _ _ trivial trivial (by simpa [upB, upd, q11] using e.made)
             refine EC 12 rfl (fun g h W F a b c d e H K f => ?_) ?_
             ·have f9 : F.tmps.getD 9 undef = h 10 := (a 9).trans (by kernel_rfl); have f162 := gE (a 162) (by kernel_rfl) (H 8) (by kernel_rfl); have q10 := (H 10 uE).1; rw [q10, b] at e; obtain ⟨ra, era, hs9⟩ := e.have1; rw [era] at f9; clear H c b d a; refine oP rfl ?_; have k0 := cA (i := 0) hs9 rfl 0 rfl; have y0 := cFz (i := 0) hs9 rfl 0; go_simp; exact f.out undef _ trivial trivial (by simpa [upB, upd, q10, era] using (CellSt.put (d1 := true) (x := .int .u64 (tv : Int)) hs9))
             refine Ee 13 163 9 ?_
             exact EN
            ·intro dn xv W hI H; have q12 : xv 12 = .bool tb := (H 12 (of_decide_eq_true (by kernel_rfl))).2; have hS : CellSt 70 (dn 10) (dn 11) (xv 10) w0 W (DL q (Ce r 43 #[.slice none 0 0, .slice none 0 0] :: Ce g 51 (f.cells CA cc) :: X :: Qs) v3 bx vF vE LP LE) (.int .u64 (tv : Int)) := hI; have qd : dn 11 = true := (H 11 (of_decide_eq_true (by kernel_rfl))).1; clear H hI; simp only [putAll, Act.put, List.setIfInBounds_toArray, List.set_cons_zero, List.set_cons_succ, Nat.reduceAdd, q12]; clear q12; rw [qd] at hS; obtain ⟨ra, era, hS9⟩ := hS.have2; rw [era]; have a0 : W.cell? ⟨ra, 0, none⟩ = some (.int .u64 (tv : Int)) := cA (i := 0) hS9 rfl 0 rfl; have HS8 : Hid (DLS w0 W q (Ce r 43 #[.slice none 0 0, .slice none 0 0] :: Ce g 51 (f.cells CA cc) :: X :: Qs) v3 [] E2) := Lib.hid ⟨_, _, _, _, _, HE1.out, HE2.out, hS9.popF⟩; have k9 := HS8.out.c9; have f9 := HS8.out.fz 9; have HS9 := Lib.hid (HS8.out.s9 tv); clear hS hS9 era qd HS8 HSR
             go_upto_if 168 with fail
             obtain ⟨W9, HW9⟩ : ∃ x, Hid (W.setCell ⟨q, 9, none⟩ (.int .u64 (tv : Int)) = x) := ⟨_, Lib.hid rfl⟩; rw [HW9.out] at HS9 ⊢; clear k9 f9 a0; cases tb with
             | false =>
              go_wp2_with fail
              go_meet
              case rel =>
               have e3 : tv = v3.got := by
                have h1 := Htb.out; rw [← Htv.out, takeV, if_neg (by rw [h1]; decide)]
               refine ⟨by rw [Hhb1.out], ?_⟩; rw [show v3.take4 f = v3 by simp [LS.take4, HTB.out], show v3.take4E f = [] by simp [LS.take4E, HTB.out], List.append_nil]; have := HS9.out; rw [e3] at this; exact this
             | true =>
              have g9 : W9.cell? ⟨g, 9, none⟩ = some (.slice CA f.body.length cc) := by
               obtain ⟨_, hq, hp⟩ := HS9.out.q1; exact cA hq hp 9 rfl
              go_wp2_with fail
              refine (rk_tellX (bc := cc) 3 HS9.out.rot HX.out hbl (by omega)).mono ?_; rintro e w10 ⟨rfl, h10⟩; have HS10 := Lib.hid h10.unrot; clear h10 HS9 g9
              go_wp2_with fail
              go_meet
              case rel =>
               have e3 : tv = f.seq := by
                have h1 := Htb.out; rw [← Htv.out, takeV, if_pos h1]
               refine ⟨by rw [Hhb1.out], ?_⟩; rw [show v3.take4 f = { v3 with got := f.seq } by simp [LS.take4, HTB.out], show v3.take4E f = [v3.ev 3 f.body] by simp [LS.take4E, HTB.out]]; have := HS10.out; rw [e3] at this; exact this
           ·have ek : (f.kind == 2) = false := by simp [hk]
            have Hhb1 : Hid (hb = !t.up) := Lib.hid (by rw [← Hhb.out, LS.helloBack, decide_eq_false hk]; rfl); have HTB : Hid (v3.taken f = false) := Lib.hid (by rw [LS.taken, decide_eq_false hk]; rfl); clear hk
            go_wp2_with fail
            go_meet
            case rel =>
             refine ⟨by rw [Hhb1.out], ?_⟩; rw [show v3.take4 f = v3 by simp [LS.take4, HTB.out], show v3.take4E f = [] by simp [LS.take4E, HTB.out], List.append_nil]; exact HS7.out
          case rest =>
           obtain ⟨rfl, hS⟩ := hcut; clear HS7 g0 HSR HE1 HE2; obtain ⟨v4, Hv4⟩ : ∃ x, Hid (v3.take4 f = x) := ⟨_, Lib.hid rfl⟩; obtain ⟨E3, HE3x⟩ : ∃ x, Hid (E2 ++ v3.take4E f = x) := ⟨_, Lib.hid rfl⟩; rw [Hv4.out, HE3x.out] at hS; have HS8 := Lib.hid hS; have HOK4 : Hid v4.Num := Lib.hid (by rw [← Hv4.out]; exact HOK3.out.take4 f); have HT4 : Hid ((t.take3 f).take4 f = v4) := Lib.hid (by rw [← Hv4.out, ← Hv3.out, ← Hu.out]; rfl); have HLT : Hid (t.last = lst) := Lib.hid (by rw [← HLST.out, ← HD.out, ← Hu.out]; rfl); clear hS
           go_wp2_with fail
           refine (rk_all (above := lst) HS8.out HOK4.out (by simp) (by omega)).mono ?_; rintro e w11 ⟨rfl, h11⟩; obtain ⟨bq, Hbq⟩ : ∃ x, Hid (decide (v4.fresh lst ≠ []) = x) := ⟨_, Lib.hid rfl⟩; obtain ⟨F3, HF3x⟩ : ∃ x, Hid ([] ++ (v4.fresh lst).map v4.data = x) := ⟨_, Lib.hid rfl⟩; have hF3l : F3.length ≤ 8 := by
            rw [← HF3x.out, List.nil_append, List.length_map, ← freshN_all HOK4.out]; have := freshN_len v4 lst (min v4.box.length 8); omega
           rw [Hbq.out]; rw [HF3x.out] at h11; have HS11 := Lib.hid h11; clear h11 HS8
           go_upto_if 175 with fail
           go_cut [] from 9 to 186 (fun wx => DLS w0 wx q (Ce r 43 #[.slice none 0 0, .slice none 0 0] :: Ce g 51 (f.cells CA cc) :: X :: Qs) (if bq then { v4 with sent := now } else v4) F3 E3)
           case first =>
            cases bq with
            | false =>
             go_wp2_with fail
             go_meet
             case rel => exact HS11.out
            | true =>
             have k11 := HS11.out.c11; have f11 := HS11.out.fz 11
             go_wp2_with fail
             go_meet
             case rel => exact HS11.out.s11 now
           case rest =>
            clear HS11; obtain ⟨v5, Hv5⟩ : ∃ x, Hid ((if bq then { v4 with sent := now } else v4) = x) := ⟨_, Lib.hid rfl⟩; rw [Hv5.out] at hcut; have HS12 := Lib.hid hcut; clear hcut; have HHE : Hid (v5.hello = v4.hello) := Lib.hid (by rw [← Hv5.out]; cases bq <;> rfl)
            have HFIN : Hid (s.take now f = v5 ∧ s.takeF now f = F3 ++ (if hb then [v5.hello] else []) ∧ s.takeE now f = E3) := Lib.hid (by
             have h5 := HTK5.out; rw [HT4.out, HLT.out, Hhb.out] at h5; have hbq := Hbq.out; refine ⟨?_, ?_, ?_⟩
             ·simp only [LS.take, HLK.out, if_true, Ht.out, HKN.out, Bool.not_false]; rw [h5.1, ← Hv5.out, ← hbq]
              by_cases hz : v4.fresh lst = [] <;> simp [hz]
             ·simp only [LS.takeF, HLK.out, if_true, Ht.out, HKN.out, Bool.not_false]; rw [h5.2, ← HF3x.out, HHE.out, List.nil_append]
             ·simp only [LS.takeE, HLK.out, if_true, Ht.out, HKN.out, Bool.not_false]; rw [HE1x.out, ← HE3x.out, ← HE2x.out, ← Hv3.out, ← Hu.out, List.append_assoc]; rfl)
            go_upto_if 180 with fail
            cases hb with
            | true =>
             go_wp2_with fail
             refine (rk_hello HS12.out).mono ?_; rintro e w13 ⟨rfl, h13⟩; have HS13 := Lib.hid h13; clear h13 HS12
             go_wp2_with fail
             refine (rk_send0 (f := v5.hello) rfl HS13.out (by omega)).mono ?_; rintro e w14 ⟨rfl, h14⟩; have HS14 := Lib.hid h14; clear h14 HS13
             go_wp2_with fail
             refine (rk_answered HS14.out).mono ?_; rintro e w8 ⟨v, rfl, h8⟩; obtain ⟨FA, fn, fc, EA, en, ec, rfl, k0, k1, f0, f1, j0, j1, h9⟩ := h8.res; have HS9 := Lib.hid h9.popQ; clear h8 h9 HS14
             go_wp2_with fail
             refine bodyPost_ret (v := .agg #[.slice FA fn fc, .slice EA en ec]) (by simp [results, Try.results50, go_sem, j0, j1]) rfl ?_; refine ⟨_, rfl, ?_⟩; rw [HFIN.out.1, HFIN.out.2.1, HFIN.out.2.2]; exact HS9.out
            | false =>
             go_wp2_with fail
             refine (rk_answered HS12.out).mono ?_; rintro e w8 ⟨v, rfl, h8⟩; obtain ⟨FA, fn, fc, EA, en, ec, rfl, k0, k1, f0, f1, j0, j1, h9⟩ := h8.res; have HS9 := Lib.hid h9.popQ; clear h8 h9 HS12
             go_wp2_with fail
             refine bodyPost_ret (v := .agg #[.slice FA fn fc, .slice EA en ec]) (by simp [results, Try.results50, go_sem, j0, j1]) rfl ?_; refine ⟨_, rfl, ?_⟩; rw [HFIN.out.1, HFIN.out.2.1, HFIN.out.2.2]; have := HS9.out; simpa using this
end Go.Proofs.Ytngegjboenfmeaa
/- Two answers that are the same. -/
namespace Go.Proofs.Ytngegjboenfmeaa
open Go Go.RowKit
set_option linter.unusedVariables false
set_option maxRecDepth 100000
set_option linter.unusedSimpArgs false

set_option maxHeartbeats 1600000 in
theorem same5_yes (w : World) (B : Nat) (f : Fr) (A A' : Option Addr) (c c' : Nat) (hA : Has w B A (us f.body)) (hA' : Has w B A' (us f.body)) (hB : B ≤ w.heap.size) (hl : f.body.length ≤ maxLen) :
  Calls Try.prog 51 #[.agg (f.cells A c), .agg (f.cells A' c')] w fun e w' => e = .returned (.bool true) ∧ Below w.heap.size w w' := by
 unfold maxLen at hl; have HA := Lib.hid hA; have HA' := Lib.hid hA'; clear hA hA'; have fin0 : ∀ (o o' : Obj), Below w.heap.size w ((w.alloc o).alloc o') := fun o o' => ((Below.refl _ _).alloc (Nat.le_refl _) _).alloc (by simp) _
 obtain ⟨kind, fr, tt, inc, conn, pinc, pconn, ack, seq, body⟩ := f; simp only [Fr.cells] at *; have t1 := fun o o' => run_str (c := c) (HA.out.below ((Below.refl B w).trans (((Below.refl B w).alloc hB o).alloc (by simp; omega) o')))
 have t2 := fun o o' => run_str (c := c') (HA'.out.below ((Below.refl B w).trans (((Below.refl B w).alloc hB o).alloc (by simp; omega) o')))
 go_enter Try.func51, Try.ntmps51
 go_wp2
 go_ret
 exact ⟨by simp, fin0 _ _⟩
theorem hK4 {w : World} {B b o j : Nat} {xs : List Value} {u : Value} (h : Has w B (some ⟨b, o, none⟩) xs) (hj : xs[j]? = some u) : w.cell? ⟨b, o + j, none⟩ = some u := by
 obtain ⟨b', o', e, _, hc⟩ := h j u hj; simp only [Option.some.injEq, Addr.mk.injEq, and_true] at e; obtain ⟨rfl, rfl⟩ := e; exact hc
theorem flat_at {α : Type} {n : Nat} {g : α → List Value} (hg : ∀ x, (g x).length = n) : ∀ {L : List α} {k r : Nat} {p : α} {v : Value}, L[k]? = some p → r < n → (g p)[r]? = some v → (L.flatMap g)[k * n + r]? = some v
 | [], k, r, p, v, h, _, _ => by simp at h
 | x :: L, 0, r, p, v, h, hr, hv => by
  simp only [List.getElem?_cons_zero, Option.some.injEq] at h; subst h; rw [Nat.zero_mul, Nat.zero_add, List.flatMap_cons, List.getElem?_append_left (by rw [hg]; exact hr)]; exact hv
 | x :: L, k + 1, r, p, v, h, hr, hv => by
  rw [List.getElem?_cons_succ] at h; have := flat_at hg h hr hv; rw [List.flatMap_cons, List.getElem?_append_right (by rw [hg, Nat.add_mul]; omega), hg, show (k + 1) * n + r - n = k * n + r by rw [Nat.add_mul]; omega]; exact this
theorem frRow_at {L : List (Fr × Value)} {k : Nat} {p : Fr × Value} {r : Nat} {v : Value} (h : L[k]? = some p) (hr : r < 10) (hv : (p.1.cellsV p.2).toList[r]? = some v := by rfl) : (fR_ L)[k * 10 + r]? = some v := flat_at (g := fun p : Fr × Value => (p.1.cellsV p.2).toList) (fun _ => rfl) h hr hv
theorem evRow_at {L : List (Ev × Value)} {k : Nat} {p : Ev × Value} {r : Nat} {v : Value} (h : L[k]? = some p) (hr : r < 4) (hv : (p.1.cellsV p.2).toList[r]? = some v := by rfl) : (eR_ L)[k * 4 + r]? = some v := flat_at (g := fun p : Ev × Value => (p.1.cellsV p.2).toList) (fun _ => rfl) h hr hv
/-- frames, events that can be read -/
def FrAt (w : World) (B : Nat) (A : Option Addr) (LP : List (Fr × Value)) : Prop := Has w B A (fR_ LP) ∧ ∀ p ∈ LP, ∃ A' c', p.2 = .slice A' p.1.body.length c' ∧ p.1.body.length ≤ 1000000 ∧ Has w B A' (us p.1.body)
def EvAt (w : World) (B : Nat) (A : Option Addr) (LE : List (Ev × Value)) : Prop := Has w B A (eR_ LE) ∧ ∀ p ∈ LE, ∃ A' c', p.2 = .slice A' p.1.body.length c' ∧ p.1.body.length ≤ 1000000 ∧ Has w B A' (us p.1.body)
theorem FrAt.below {w w' : World} {B : Nat} {A : Option Addr} {LP : List (Fr × Value)} (h : FrAt w B A LP) (hb : Below B w w') : FrAt w' B A LP := ⟨h.1.below hb, fun p hp => by
 obtain ⟨A', c', e, hl, hh⟩ := h.2 p hp; exact ⟨A', c', e, hl, hh.below hb⟩⟩
theorem EvAt.below {w w' : World} {B : Nat} {A : Option Addr} {LP : List (Ev × Value)} (h : EvAt w B A LP) (hb : Below B w w') : EvAt w' B A LP := ⟨h.1.below hb, fun p hp => by
 obtain ⟨A', c', e, hl, hh⟩ := h.2 p hp; exact ⟨A', c', e, hl, hh.below hb⟩⟩
theorem pair_at {α : Type} {L L' : List (α × Value)} (h : L.map Prod.fst = L'.map Prod.fst) {k : Nat} (hk : k < L.length) : ∃ f u u', L[k]? = some (f, u) ∧ L'[k]? = some (f, u') := by
 have hl := congrArg List.length h; simp only [List.length_map] at hl; have h1 := congrArg (fun l => l[k]?) h; simp only [List.getElem?_map, List.getElem?_eq_getElem hk, List.getElem?_eq_getElem (show k < L'.length by omega), Option.map_some, Option.some.injEq] at h1; refine ⟨(L[k]).1, (L[k]).2, (L'[k]).2, List.getElem?_eq_getElem hk, ?_⟩; rw [List.getElem?_eq_getElem (show k < L'.length by omega), h1]
/-- a block behind a pointer -/
def CeX (v : Value) (t : TypeId) (vs : Array Value) : SP := fun W F => ∃ a, v = .pointer (some ⟨a, 0, none⟩) ∧ Ce a t vs W F
theorem CeX.loc (v : Value) (t : TypeId) (vs : Array Value) : Loc (CeX v t vs) where
 keep := by
  rintro w w' F ⟨a, e, h⟩ hk; exact ⟨a, e, (Ce.loc _ _ _).keep h hk⟩
 lt := by
  rintro w F ⟨a, e, h⟩; exact (Ce.loc _ _ _).lt h
theorem sep_ceX {w0 W : World} {Ps : List SP} {i : Nat} {v : Value} {t : TypeId} {vs : Array Value} (h : Sep w0 W Ps) (hi : Ps[i]? = some (CeX v t vs)) : ∃ a, v = .pointer (some ⟨a, 0, none⟩) ∧ Sep w0 W (Ps.set i (Ce a t vs)) := by
 obtain ⟨_, a, e, _⟩ := h.get hi; exact ⟨a, e, h.turn hi (fun F ⟨a', e', h'⟩ => by
  rw [e] at e'; simp only [Value.pointer.injEq, Option.some.injEq, Addr.mk.injEq, and_true] at e'; rw [e']; exact h') (Ce.loc _ _ _)⟩
theorem sep_xCe {w0 W : World} {Ps : List SP} {i a : Nat} {t : TypeId} {vs : Array Value} (h : Sep w0 W Ps) (hi : Ps[i]? = some (Ce a t vs)) : Sep w0 W (Ps.set i (CeX (.pointer (some ⟨a, 0, none⟩)) t vs)) :=
 h.turn hi (fun F h' => ⟨a, rfl, h'⟩) (CeX.loc _ _ _)
/-- two blocks that a drawn region makes, then writes -/
def EvSt (x y : Array Value) (t : TypeId) (d1 e1 d2 e2 : Bool) (v1 v2 : Value) (w0 W : World) (Ps : List SP) : Prop :=
 Sep w0 W ((if d1 then [CeX v1 t (if e1 then x else #[.int .i64 0, .int .i64 0, .int .u64 0, .slice none 0 0])] else []) ++ ((if d2 then [CeX v2 t (if e2 then y else #[.int .i64 0, .int .i64 0, .int .u64 0, .slice none 0 0])] else []) ++ Ps))
section
variable {x y : Array Value} {t : TypeId} {d1 e1 d2 e2 : Bool} {v1 v2 : Value} {w0 W W' : World} {Ps : List SP}
theorem EvSt.start (h : Sep w0 W Ps) : EvSt x y t false false false false v1 v2 w0 W Ps := h
theorem EvSt.grow (h : EvSt x y t d1 e1 d2 e2 v1 v2 w0 W Ps) (hb : Below W.heap.size W W') : EvSt x y t d1 e1 d2 e2 v1 v2 w0 W' Ps := Sep.grow h hb
theorem EvSt.sep (h : EvSt x y t d1 e1 d2 e2 v1 v2 w0 W Ps) : Sep w0 W Ps := by
 unfold EvSt at h; cases d1 <;> cases d2
 ·exact h
 ·exact h.popF
 ·exact h.popF
 ·exact h.popF.popF
theorem EvSt.made1 (h : EvSt x y t false false d2 e2 v1 v2 w0 W Ps) : EvSt x y t true false d2 e2 (.pointer (some ⟨W.heap.size, 0, none⟩)) v2 w0 (W.alloc (.cells #[.int .i64 0, .int .i64 0, .int .u64 0, .slice none 0 0] t)) Ps :=
 sep_xCe (i := 0) (sep_ceF h #[.int .i64 0, .int .i64 0, .int .u64 0, .slice none 0 0] t) rfl
theorem EvSt.made2 (h : EvSt x y t d1 e1 false false v1 v2 w0 W Ps) : EvSt x y t d1 e1 true false v1 (.pointer (some ⟨W.heap.size, 0, none⟩)) w0 (W.alloc (.cells #[.int .i64 0, .int .i64 0, .int .u64 0, .slice none 0 0] t)) Ps := by
 have h1 := sep_xCe (i := 0) (sep_ceF h #[.int .i64 0, .int .i64 0, .int .u64 0, .slice none 0 0] t) rfl; unfold EvSt; cases d1
 ·exact h1
 ·exact h1.tF 1 rfl
theorem EvSt.put1 {x0 x1 x2 x3 : Value} (h : EvSt #[x0, x1, x2, x3] y t true false d2 e2 v1 v2 w0 W Ps) : ∃ a, v1 = .pointer (some ⟨a, 0, none⟩) ∧ (W.cell? ⟨a, 0, none⟩ = some (.int .i64 0) ∧ W.cell? ⟨a, 1, none⟩ = some (.int .i64 0) ∧ W.cell? ⟨a, 2, none⟩ = some (.int .u64 0) ∧ W.cell? ⟨a, 3, none⟩ = some (.slice none 0 0)) ∧ (∀ j, W.frozen? ⟨a, j, none⟩ = false) ∧ EvSt #[x0, x1, x2, x3] y t true true d2 e2 (.pointer (some ⟨a, 0, none⟩)) v2 w0 ((((W.setCell ⟨a, 0, none⟩ x0).setCell ⟨a, 1, none⟩ x1).setCell ⟨a, 2, none⟩ x2).setCell ⟨a, 3, none⟩ x3) Ps := by
 obtain ⟨a, rfl, h1⟩ := sep_ceX (i := 0) h rfl; exact ⟨a, rfl, ⟨cA (i := 0) h1 rfl 0 rfl, cA (i := 0) h1 rfl 1 rfl, cA (i := 0) h1 rfl 2 rfl, cA (i := 0) h1 rfl 3 rfl⟩, cFz (i := 0) h1 rfl, sep_xCe (i := 0) (cS (i := 0) (cS (i := 0) (cS (i := 0) (cS (i := 0) h1 rfl 0 x0) rfl 1 x1) rfl 2 x2) rfl 3 x3) rfl⟩
theorem EvSt.put2 {x0 x1 x2 x3 : Value} (h : EvSt x #[x0, x1, x2, x3] t d1 e1 true false v1 v2 w0 W Ps) : ∃ a, v2 = .pointer (some ⟨a, 0, none⟩) ∧ (W.cell? ⟨a, 0, none⟩ = some (.int .i64 0) ∧ W.cell? ⟨a, 1, none⟩ = some (.int .i64 0) ∧ W.cell? ⟨a, 2, none⟩ = some (.int .u64 0) ∧ W.cell? ⟨a, 3, none⟩ = some (.slice none 0 0)) ∧ (∀ j, W.frozen? ⟨a, j, none⟩ = false) ∧ EvSt x #[x0, x1, x2, x3] t d1 e1 true true v1 (.pointer (some ⟨a, 0, none⟩)) w0 ((((W.setCell ⟨a, 0, none⟩ x0).setCell ⟨a, 1, none⟩ x1).setCell ⟨a, 2, none⟩ x2).setCell ⟨a, 3, none⟩ x3) Ps := by
 cases d1
 ·obtain ⟨a, rfl, h1⟩ := sep_ceX (i := 0) h rfl; exact ⟨a, rfl, ⟨cA (i := 0) h1 rfl 0 rfl, cA (i := 0) h1 rfl 1 rfl, cA (i := 0) h1 rfl 2 rfl, cA (i := 0) h1 rfl 3 rfl⟩, cFz (i := 0) h1 rfl, sep_xCe (i := 0) (cS (i := 0) (cS (i := 0) (cS (i := 0) (cS (i := 0) h1 rfl 0 x0) rfl 1 x1) rfl 2 x2) rfl 3 x3) rfl⟩
 ·obtain ⟨a, rfl, h1⟩ := sep_ceX (i := 1) h rfl; exact ⟨a, rfl, ⟨cA (i := 1) h1 rfl 0 rfl, cA (i := 1) h1 rfl 1 rfl, cA (i := 1) h1 rfl 2 rfl, cA (i := 1) h1 rfl 3 rfl⟩, cFz (i := 1) h1 rfl, sep_xCe (i := 1) (cS (i := 1) (cS (i := 1) (cS (i := 1) (cS (i := 1) h1 rfl 0 x0) rfl 1 x1) rfl 2 x2) rfl 3 x3) rfl⟩
theorem EvSt.fin (h : EvSt x y t true true true true v1 v2 w0 W Ps) : ∃ a b, v1 = .pointer (some ⟨a, 0, none⟩) ∧ v2 = .pointer (some ⟨b, 0, none⟩) ∧ Sep w0 W (Ce a t x :: Ce b t y :: Ps) := by
 obtain ⟨a, e1, h1⟩ := sep_ceX (i := 0) h rfl; obtain ⟨b, e2, h2⟩ := sep_ceX (i := 1) h1 rfl; exact ⟨a, b, e1, e2, h2⟩
end
set_option maxHeartbeats 6400000 in
theorem same12_yes (w : World) (FA1 FA2 EA1 EA2 : Option Addr) (fc1 fc2 ec1 ec2 : Nat) (LP LQ : List (Fr × Value)) (LE LG : List (Ev × Value)) (hF : LP.map Prod.fst = LQ.map Prod.fst) (hE : LE.map Prod.fst = LG.map Prod.fst) (h1 : FrAt w w.heap.size FA1 LP) (h2 : FrAt w w.heap.size FA2 LQ) (h3 : EvAt w w.heap.size EA1 LE) (h4 : EvAt w w.heap.size EA2 LG) (hn : LP.length ≤ 1000000) (hm : LE.length ≤ 1000000) :
  Calls Try.prog 22 #[.agg #[.slice FA1 LP.length fc1, .slice EA1 LE.length ec1], .agg #[.slice FA2 LQ.length fc2, .slice EA2 LG.length ec2]] w fun e w' => e = .returned (.bool true) ∧ Below w.heap.size w w' := by
 have hlF := congrArg List.length hF; have hlE := congrArg List.length hE; simp only [List.length_map] at hlF hlE; obtain ⟨n, Hn⟩ : ∃ x, Hid (LP.length = x) := ⟨_, Lib.hid rfl⟩; obtain ⟨m, Hm⟩ : ∃ x, Hid (LE.length = x) := ⟨_, Lib.hid rfl⟩; rw [← hlF, ← hlE, Hn.out, Hm.out]; rw [Hn.out] at hn; rw [Hm.out] at hm; have HFF := Lib.hid hF; have HEE := Lib.hid hE; have H1 := Lib.hid h1; have H2 := Lib.hid h2; have H3 := Lib.hid h3; have H4 := Lib.hid h4; obtain ⟨g2, Hg2⟩ : ∃ x, Hid (w.heap.size = x) := ⟨_, Lib.hid rfl⟩; obtain ⟨g3, Hg3⟩ : ∃ x, Hid (g2 + 1 = x) := ⟨_, Lib.hid rfl⟩; have HS0 : Hid (Sep w ((w.alloc (.cells #[.slice FA1 n fc1, .slice EA1 m ec1] 43)).alloc (.cells #[.slice FA2 n fc2, .slice EA2 m ec2] 43)) [Ce g3 43 #[.slice FA2 n fc2, .slice EA2 m ec2], Ce g2 43 #[.slice FA1 n fc1, .slice EA1 m ec1]]) := Lib.hid (by
  have h := sep_ceF (sep_ceF (Sep.nil w) #[.slice FA1 n fc1, .slice EA1 m ec1] 43) #[.slice FA2 n fc2, .slice EA2 m ec2] 43; simp only [World.size_alloc] at h; rw [Hg2.out, Hg3.out] at h; exact h)
 clear hF hE h1 h2 h3 h4 hlF hlE; go_enter Try.func22, Try.ntmps22
 go_upto_region 1 with fail
 rw [Hg2.out]; rw [Hg3.out]; obtain ⟨W0, HW0⟩ : ∃ x, Hid ((w.alloc (.cells #[.slice FA1 n fc1, .slice EA1 m ec1] 43)).alloc (.cells #[.slice FA2 n fc2, .slice EA2 m ec2] 43) = x) := ⟨_, Lib.hid rfl⟩; rw [HW0.out] at HS0; rw [HW0.out]; have ka0 : W0.cell? ⟨g2, 0, none⟩ = some (.slice FA1 n fc1) := cA (i := 1) HS0.out rfl 0 rfl; have ka1 : W0.cell? ⟨g2, 1, none⟩ = some (.slice EA1 m ec1) := cA (i := 1) HS0.out rfl 1 rfl; have kb0 : W0.cell? ⟨g3, 0, none⟩ = some (.slice FA2 n fc2) := cA (i := 0) HS0.out rfl 0 rfl; have kb1 : W0.cell? ⟨g3, 1, none⟩ = some (.slice EA2 m ec2) := cA (i := 0) HS0.out rfl 1 rfl
 go_wp2_with fail
 clear ka0 ka1 kb0 kb1
 go_loopw [5] (fun i wr => ∃ k : Nat, k ≤ n ∧ i = .int .i64 (k : Int) ∧ Sep w wr [Ce g3 43 #[.slice FA2 n fc2, .slice EA2 m ec2], Ce g2 43 #[.slice FA1 n fc1, .slice EA1 m ec1]]) (fun i _ => n - (intOf i).toNat)
 case atStart => exact ⟨0, by omega, rfl, HS0.out⟩
 case round =>
  obtain ⟨k, hk, rfl, hs⟩ := hrel; have HS := Lib.hid hs; have ka0 : wr.cell? ⟨g2, 0, none⟩ = some (.slice FA1 n fc1) := cA (i := 1) hs rfl 0 rfl; clear HS0 hs
  by_cases hlt : k < n
  ·obtain ⟨f, u, u', hp, hp'⟩ := pair_at HFF.out (k := k) (by rw [Hn.out]; exact hlt); obtain ⟨A1, c1, e1, hl1, hh1⟩ := H1.out.2 _ (List.mem_of_getElem? hp); obtain ⟨A2, c2, e2, _, hh2⟩ := H2.out.2 _ (List.mem_of_getElem? hp'); simp only at e1 e2 hl1 hh1 hh2; subst e1; subst e2; obtain ⟨b1, o1, rfl, _, _⟩ := H1.out.1 _ _ (frRow_at (r := 0) hp (by omega)); obtain ⟨b2, o2, rfl, _, _⟩ := H2.out.1 _ _ (frRow_at (r := 0) hp' (by omega)); have HF1 := Lib.hid H1.out.1; have HF2 := Lib.hid H2.out.1; have HP1 := Lib.hid hp; have HP2 := Lib.hid hp'; have HSM : Hid (∀ W : World, Below w.heap.size w W → Calls Try.prog 51 #[.agg #[.int .i64 f.kind, .int .i64 f.fr, .int .i64 f.to, .int .u64 (f.inc : Int), .int .u64 (f.conn : Int), .int .u64 (f.pinc : Int), .int .u64 (f.pconn : Int), .int .u64 (f.ack : Int), .int .u64 (f.seq : Int), .slice A1 f.body.length c1], .agg #[.int .i64 f.kind, .int .i64 f.fr, .int .i64 f.to, .int .u64 (f.inc : Int), .int .u64 (f.conn : Int), .int .u64 (f.pinc : Int), .int .u64 (f.pconn : Int), .int .u64 (f.ack : Int), .int .u64 (f.seq : Int), .slice A2 f.body.length c2]] W fun e w' => e = .returned (.bool true) ∧ Below W.heap.size W w') := Lib.hid fun W hb => same5_yes W w.heap.size f A1 A2 c1 c2 (hh1.below hb) (hh2.below hb) hb.size (by unfold maxLen; omega)
   clear hp hp' hh1 hh2
   go_wp2_with fail
   refine wRG (fun dn xv W => Sep w W [Ce g3 43 #[.slice (some ⟨b2, o2, none⟩) n fc2, .slice EA2 m ec2], Ce g2 43 #[.slice (some ⟨b1, o1, none⟩) n fc1, .slice EA1 m ec1]]) (fun _ _ => True) [xP_ g2 0, xV_ (.slice (some ⟨b1, o1, none⟩) n fc1), xV_ (.int .i64 (k : Int)), xP_ b1 (o1 + k * 10), xV_ (.agg #[.int .i64 f.kind, .int .i64 f.fr, .int .i64 f.to, .int .u64 (f.inc : Int), .int .u64 (f.conn : Int), .int .u64 (f.pinc : Int), .int .u64 (f.pconn : Int), .int .u64 (f.ack : Int), .int .u64 (f.seq : Int), .slice A1 f.body.length c1]), xP_ g3 0, xV_ (.slice (some ⟨b2, o2, none⟩) n fc2), xV_ (.int .i64 (k : Int)), xP_ b2 (o2 + k * 10), xV_ (.agg #[.int .i64 f.kind, .int .i64 f.fr, .int .i64 f.to, .int .u64 (f.inc : Int), .int .u64 (f.conn : Int), .int .u64 (f.pinc : Int), .int .u64 (f.pconn : Int), .int .u64 (f.ack : Int), .int .u64 (f.seq : Int), .slice A2 f.body.length c2]), xV_ (.bool true), xV_ (.bool false)] (fun xv => by simpa using HS.out.drew) ?_ ?_
   ·refine Ep 1 2 g2 0 ?_
    refine EC 2 rfl (fun g h W F a b c d e H K f => ?_) ?_
    ·have f32 := gE (a 32) (by kernel_rfl) (H 0) (by kernel_rfl); have ka0 : W.cell? ⟨g2, 0, none⟩ = some (.slice (some ⟨b1, o1, none⟩) n fc1) := cA (i := 1) e rfl 0 rfl; clear H c b d a; refine oP rfl ?_; go_simp; exact f.out _ _ rfl trivial e
    refine Ei 3 5 (.int .i64 (k : Int)) ?_
    refine Eee 4 33 1 34 2 ?_
    refine EC 5 rfl (fun h i W F a b c d e H K g => ?_) ?_
    ·have f35 := gE (a 35) (by kernel_rfl) (H 3) (by kernel_rfl); have hrx := (HF1.out).below e.bel; have kx0 := hK4 hrx (frRow_at (r := 0) (v := .int .i64 f.kind) HP1.out (by omega)); rw [Nat.add_zero] at kx0; have kx1 := hK4 hrx (frRow_at (r := 1) (v := .int .i64 f.fr) HP1.out (by omega)); rw [← Nat.add_assoc] at kx1; have kx2 := hK4 hrx (frRow_at (r := 2) (v := .int .i64 f.to) HP1.out (by omega)); rw [← Nat.add_assoc] at kx2; have kx3 := hK4 hrx (frRow_at (r := 3) (v := .int .u64 (f.inc : Int)) HP1.out (by omega)); rw [← Nat.add_assoc] at kx3; have kx4 := hK4 hrx (frRow_at (r := 4) (v := .int .u64 (f.conn : Int)) HP1.out (by omega)); rw [← Nat.add_assoc] at kx4; have kx5 := hK4 hrx (frRow_at (r := 5) (v := .int .u64 (f.pinc : Int)) HP1.out (by omega)); rw [← Nat.add_assoc] at kx5; have kx6 := hK4 hrx (frRow_at (r := 6) (v := .int .u64 (f.pconn : Int)) HP1.out (by omega)); rw [← Nat.add_assoc] at kx6; have kx7 := hK4 hrx (frRow_at (r := 7) (v := .int .u64 (f.ack : Int)) HP1.out (by omega)); rw [← Nat.add_assoc] at kx7; have kx8 := hK4 hrx (frRow_at (r := 8) (v := .int .u64 (f.seq : Int)) HP1.out (by omega)); rw [← Nat.add_assoc] at kx8; have kx9 := hK4 hrx (frRow_at (r := 9) (v := .slice A1 f.body.length c1) HP1.out (by omega)); rw [← Nat.add_assoc] at kx9; clear hrx; clear H c b d a; refine oP rfl ?_; go_simp; exact g.out _ _ rfl trivial e
    refine Ep 6 3 g3 0 ?_
    refine EC 7 rfl (fun g h W F a b c d e H K f => ?_) ?_
    ·have f37 := gE (a 37) (by kernel_rfl) (H 5) (by kernel_rfl); have kb0 : W.cell? ⟨g3, 0, none⟩ = some (.slice (some ⟨b2, o2, none⟩) n fc2) := cA (i := 0) e rfl 0 rfl; clear H c b d a; refine oP rfl ?_; go_simp; exact f.out _ _ rfl trivial e
    refine Ei 8 5 (.int .i64 (k : Int)) ?_
    refine Eee 9 38 6 39 7 ?_
    refine EC 10 rfl (fun h i W F a b c d e H K g => ?_) ?_
    ·have f40 := gE (a 40) (by kernel_rfl) (H 8) (by kernel_rfl); have hry := (HF2.out).below e.bel; have ky0 := hK4 hry (frRow_at (r := 0) (v := .int .i64 f.kind) HP2.out (by omega)); rw [Nat.add_zero] at ky0; have ky1 := hK4 hry (frRow_at (r := 1) (v := .int .i64 f.fr) HP2.out (by omega)); rw [← Nat.add_assoc] at ky1; have ky2 := hK4 hry (frRow_at (r := 2) (v := .int .i64 f.to) HP2.out (by omega)); rw [← Nat.add_assoc] at ky2; have ky3 := hK4 hry (frRow_at (r := 3) (v := .int .u64 (f.inc : Int)) HP2.out (by omega)); rw [← Nat.add_assoc] at ky3; have ky4 := hK4 hry (frRow_at (r := 4) (v := .int .u64 (f.conn : Int)) HP2.out (by omega)); rw [← Nat.add_assoc] at ky4; have ky5 := hK4 hry (frRow_at (r := 5) (v := .int .u64 (f.pinc : Int)) HP2.out (by omega)); rw [← Nat.add_assoc] at ky5; have ky6 := hK4 hry (frRow_at (r := 6) (v := .int .u64 (f.pconn : Int)) HP2.out (by omega)); rw [← Nat.add_assoc] at ky6; have ky7 := hK4 hry (frRow_at (r := 7) (v := .int .u64 (f.ack : Int)) HP2.out (by omega)); rw [← Nat.add_assoc] at ky7; have ky8 := hK4 hry (frRow_at (r := 8) (v := .int .u64 (f.seq : Int)) HP2.out (by omega)); rw [← Nat.add_assoc] at ky8; have ky9 := hK4 hry (frRow_at (r := 9) (v := .slice A2 f.body.length c2) HP2.out (by omega)); rw [← Nat.add_assoc] at ky9; clear hry; clear H c b d a; refine oP rfl ?_; go_simp; exact g.out _ _ rfl trivial e
    refine EC 11 rfl (fun h i W F a b c d f H K g => ?_) ?_
    ·have f36 := gE (a 36) (by kernel_rfl) (H 4) (by kernel_rfl); have f41 := gE (a 41) (by kernel_rfl) (H 9) (by kernel_rfl); clear H c b d a; refine oP rfl ?_; go_simp; refine (HSM.out W f.bel).mono ?_; rintro e W' ⟨rfl, hb⟩; have f := f.grow hb; exact g.out _ W' rfl trivial (by simpa [upB, upd] using f)
    refine Ee 12 42 10 ?_
    exact EN
   ·intro dn xv W hI H; have q11 : xv 11 = .bool false := (H 11 (of_decide_eq_true (by kernel_rfl))).2; have hS : Sep w W [Ce g3 43 #[.slice (some ⟨b2, o2, none⟩) n fc2, .slice EA2 m ec2], Ce g2 43 #[.slice (some ⟨b1, o1, none⟩) n fc1, .slice EA1 m ec1]] := hI; clear H hI; simp only [putAll, Act.put, List.setIfInBounds_toArray, List.set_cons_zero, List.set_cons_succ, Nat.reduceAdd, q11]; clear q11; have HS6 := Lib.hid hS; clear hS HS ka0
    go_wp2_with fail
    go_roundw
    case rel => exact ⟨k + 1, by omega, by go_num, HS6.out⟩
    case measure => simp [intOf]; omega
  ·go_wp2_with fail
   clear ka0
   go_loopw [6] (fun i wr => ∃ k : Nat, k ≤ m ∧ i = .int .i64 (k : Int) ∧ Sep w wr [Ce g3 43 #[.slice FA2 n fc2, .slice EA2 m ec2], Ce g2 43 #[.slice FA1 n fc1, .slice EA1 m ec1]]) (fun i _ => m - (intOf i).toNat)
   case atStart => exact ⟨0, by omega, rfl, HS.out⟩
   case round =>
    obtain ⟨k, hk, rfl, hs⟩ := hrel; clear HS; have HS := Lib.hid hs; have ka1 : wr.cell? ⟨g2, 1, none⟩ = some (.slice EA1 m ec1) := cA (i := 1) hs rfl 1 rfl; clear hs
    by_cases hlt : k < m
    ·obtain ⟨e, u, u', hp, hp'⟩ := pair_at HEE.out (k := k) (by rw [Hm.out]; exact hlt); obtain ⟨A1, c1, e1, hl1, hh1⟩ := H3.out.2 _ (List.mem_of_getElem? hp); obtain ⟨A2, c2, e2, _, hh2⟩ := H4.out.2 _ (List.mem_of_getElem? hp'); simp only at e1 e2 hl1 hh1 hh2; subst e1; subst e2; obtain ⟨b1, o1, rfl, _, _⟩ := H3.out.1 _ _ (evRow_at (r := 0) hp (by omega)); obtain ⟨b2, o2, rfl, _, _⟩ := H4.out.1 _ _ (evRow_at (r := 0) hp' (by omega)); have HE1 := Lib.hid H3.out.1; have HE2 := Lib.hid H4.out.1; have HP1 := Lib.hid hp; have HP2 := Lib.hid hp'; have HH1 := Lib.hid hh1; have HH2 := Lib.hid hh2; clear hp hp' hh1 hh2
     go_wp2_with fail
     refine wRG (fun dn xv W => EvSt #[.int .i64 e.kind, .int .i64 e.pn, .int .u64 (e.pi : Int), .slice A1 e.body.length c1] #[.int .i64 e.kind, .int .i64 e.pn, .int .u64 (e.pi : Int), .slice A2 e.body.length c2] 49 (dn 10) (dn 12) (dn 11) (dn 13) (xv 10) (xv 11) w W [Ce g3 43 #[.slice FA2 n fc2, .slice (some ⟨b2, o2, none⟩) m ec2], Ce g2 43 #[.slice FA1 n fc1, .slice (some ⟨b1, o1, none⟩) m ec1]]) (fun _ _ => True) [xP_ g2 1, xV_ (.slice (some ⟨b1, o1, none⟩) m ec1), xV_ (.int .i64 (k : Int)), xP_ b1 (o1 + k * 4), xV_ (.agg #[.int .i64 e.kind, .int .i64 e.pn, .int .u64 (e.pi : Int), .slice A1 e.body.length c1]), xP_ g3 1, xV_ (.slice (some ⟨b2, o2, none⟩) m ec2), xV_ (.int .i64 (k : Int)), xP_ b2 (o2 + k * 4), xV_ (.agg #[.int .i64 e.kind, .int .i64 e.pn, .int .u64 (e.pi : Int), .slice A2 e.body.length c2]), fun v _ => True, fun v _ => True, fun v _ => True, fun v _ => True] (fun xv => EvSt.start HS.out.drew) ?_ ?_
     ·refine Ep 1 2 g2 0 ?_
      refine EC 2 rfl (fun g h W F a b c d e H K f => ?_) ?_
      ·have f51 := gE (a 51) (by kernel_rfl) (H 0) (by kernel_rfl); have ka1 : W.cell? ⟨g2, 1, none⟩ = some (.slice (some ⟨b1, o1, none⟩) m ec1) := cA (i := 1) e.sep rfl 1 rfl; clear H c b d a; refine oP rfl ?_; go_simp; exact f.out _ _ rfl trivial e
      refine Ei 3 6 (.int .i64 (k : Int)) ?_
      refine Eee 4 52 1 53 2 ?_
      refine EC 5 rfl (fun h i W F a b c d f H K g => ?_) ?_
      ·have f54 := gE (a 54) (by kernel_rfl) (H 3) (by kernel_rfl); have hrx := (HE1.out).below f.sep.bel; have kx0 := hK4 hrx (evRow_at (r := 0) (v := .int .i64 e.kind) HP1.out (by omega)); rw [Nat.add_zero] at kx0; have kx1 := hK4 hrx (evRow_at (r := 1) (v := .int .i64 e.pn) HP1.out (by omega)); rw [← Nat.add_assoc] at kx1; have kx2 := hK4 hrx (evRow_at (r := 2) (v := .int .u64 (e.pi : Int)) HP1.out (by omega)); rw [← Nat.add_assoc] at kx2; have kx3 := hK4 hrx (evRow_at (r := 3) (v := .slice A1 e.body.length c1) HP1.out (by omega)); rw [← Nat.add_assoc] at kx3; clear hrx; clear H c b d a; refine oP rfl ?_; go_simp; exact g.out _ _ rfl trivial f
      refine Ep 6 3 g3 0 ?_
      refine EC 7 rfl (fun g h W F a b c d e H K f => ?_) ?_
      ·have f56 := gE (a 56) (by kernel_rfl) (H 5) (by kernel_rfl); have kb1 : W.cell? ⟨g3, 1, none⟩ = some (.slice (some ⟨b2, o2, none⟩) m ec2) := cA (i := 0) e.sep rfl 1 rfl; clear H c b d a; refine oP rfl ?_; go_simp; exact f.out _ _ rfl trivial e
      refine Ei 8 6 (.int .i64 (k : Int)) ?_
      refine Eee 9 57 6 58 7 ?_
      refine EC 10 rfl (fun h i W F a b c d f H K g => ?_) ?_
      ·have f59 := gE (a 59) (by kernel_rfl) (H 8) (by kernel_rfl); have hry := (HE2.out).below f.sep.bel; have ky0 := hK4 hry (evRow_at (r := 0) (v := .int .i64 e.kind) HP2.out (by omega)); rw [Nat.add_zero] at ky0; have ky1 := hK4 hry (evRow_at (r := 1) (v := .int .i64 e.pn) HP2.out (by omega)); rw [← Nat.add_assoc] at ky1; have ky2 := hK4 hry (evRow_at (r := 2) (v := .int .u64 (e.pi : Int)) HP2.out (by omega)); rw [← Nat.add_assoc] at ky2; have ky3 := hK4 hry (evRow_at (r := 3) (v := .slice A2 e.body.length c2) HP2.out (by omega)); rw [← Nat.add_assoc] at ky3; clear hry; clear H c b d a; refine oP rfl ?_; go_simp; exact g.out _ _ rfl trivial f
      refine EC 11 rfl (fun g h W F a b c d e H K f => ?_) ?_
      ·have q12 := c 12 uE; rw [b, q12] at e; clear H c b d a; refine oP rfl ?_; go_simp; exact f.out _ _ trivial trivial (by simpa [upB, upd, q12] using e.made1)
      refine EC 12 rfl (fun g h W F a b c d e H K f => ?_) ?_
      ·have q13 := c 13 uE; rw [b, q13] at e; clear H c b d a; refine oP rfl ?_; go_simp; exact f.out _ _ trivial trivial (by simpa [upB, upd, q13] using e.made2)
      refine EC 13 rfl (fun h i W F b c d e f H K g => ?_) ?_
      ·have f7 : F.tmps.getD 7 undef = i 10 := (b 7).trans (by kernel_rfl); have f55 := gE (b 55) (by kernel_rfl) (H 4) (by kernel_rfl); have q10 := (H 10 uE).1; rw [q10, c] at f; obtain ⟨a, ea, ⟨k0, k1, k2, k3⟩, hz, hI2⟩ := f.put1; have y0 := hz 0; have y1 := hz 1; have y2 := hz 2; have y3 := hz 3; rw [ea] at f7; clear H d c e b; refine oP rfl ?_; go_simp; exact g.out undef _ trivial trivial (by simpa [upB, upd, q10, ea] using hI2)
      refine EC 14 rfl (fun h i W F b c d e f H K g => ?_) ?_
      ·have f8 : F.tmps.getD 8 undef = i 11 := (b 8).trans (by kernel_rfl); have f60 := gE (b 60) (by kernel_rfl) (H 9) (by kernel_rfl); have q11 := (H 11 uE).1; rw [q11, c] at f; obtain ⟨a, ea, ⟨k0, k1, k2, k3⟩, hz, hI2⟩ := f.put2; have y0 := hz 0; have y1 := hz 1; have y2 := hz 2; have y3 := hz 3; rw [ea] at f8; clear H d c e b; refine oP rfl ?_; go_simp; exact g.out undef _ trivial trivial (by simpa [upB, upd, q11, ea] using hI2)
      exact EN
     ·intro dn xv W hI H; have hS : EvSt #[.int .i64 e.kind, .int .i64 e.pn, .int .u64 (e.pi : Int), .slice A1 e.body.length c1] #[.int .i64 e.kind, .int .i64 e.pn, .int .u64 (e.pi : Int), .slice A2 e.body.length c2] 49 (dn 10) (dn 12) (dn 11) (dn 13) (xv 10) (xv 11) w W [Ce g3 43 #[.slice FA2 n fc2, .slice (some ⟨b2, o2, none⟩) m ec2], Ce g2 43 #[.slice FA1 n fc1, .slice (some ⟨b1, o1, none⟩) m ec1]] := hI; have p10 : dn 10 = true := (H 10 (of_decide_eq_true (by kernel_rfl))).1; have p11 : dn 11 = true := (H 11 (of_decide_eq_true (by kernel_rfl))).1; have p12 : dn 12 = true := (H 12 (of_decide_eq_true (by kernel_rfl))).1; have p13 : dn 13 = true := (H 13 (of_decide_eq_true (by kernel_rfl))).1; clear H hI; simp only [putAll, Act.put, List.setIfInBounds_toArray, List.set_cons_zero, List.set_cons_succ, Nat.reduceAdd]; rw [p10, p11, p12, p13] at hS; obtain ⟨a, b, ea, eb, h5⟩ := hS.fin; rw [ea, eb]; have HS6 := Lib.hid (h5.popF).popF; have x0 : W.cell? ⟨a, 0, none⟩ = some (.int .i64 e.kind) := cA (i := 0) h5 rfl 0 rfl; have x1 : W.cell? ⟨a, 1, none⟩ = some (.int .i64 e.pn) := cA (i := 0) h5 rfl 1 rfl; have x2 : W.cell? ⟨a, 2, none⟩ = some (.int .u64 (e.pi : Int)) := cA (i := 0) h5 rfl 2 rfl; have x3 : W.cell? ⟨a, 3, none⟩ = some (.slice A1 e.body.length c1) := cA (i := 0) h5 rfl 3 rfl; have y0 : W.cell? ⟨b, 0, none⟩ = some (.int .i64 e.kind) := cA (i := 1) h5 rfl 0 rfl; have y1 : W.cell? ⟨b, 1, none⟩ = some (.int .i64 e.pn) := cA (i := 1) h5 rfl 1 rfl; have y2 : W.cell? ⟨b, 2, none⟩ = some (.int .u64 (e.pi : Int)) := cA (i := 1) h5 rfl 2 rfl; have y3 : W.cell? ⟨b, 3, none⟩ = some (.slice A2 e.body.length c2) := cA (i := 1) h5 rfl 3 rfl; have t1 := run_str (c := c1) (HH1.out.below h5.bel); have t2 := run_str (c := c2) (HH2.out.below h5.bel); clear hS h5 ea eb p10 p11 p12 p13 HS ka1
      go_wp2_with fail
      go_roundw
      case rel => exact ⟨k + 1, by omega, by go_num, HS6.out⟩
      case measure => simp [intOf]; omega
    ·go_wp2_with fail
     refine bodyPost_ret (v := .bool true) (by simp [results, Try.results22, go_sem]) rfl ?_; exact ⟨rfl, HS.out.bel⟩
end Go.Proofs.Ytngegjboenfmeaa
/- An answer's bytes are written over. -/
namespace Go.Proofs.Ytngegjboenfmeaa
open Go Go.RowKit Go.Shelf
set_option linter.unusedVariables false
set_option maxRecDepth 100000
set_option linter.unusedSimpArgs false

theorem sep_rwHas' {w0 w : World} {Ps : List SP} {i : Nat} {e : TypeId} {size n c : Nat} {A : Option Addr} {xs : List Value} (h : Sep w0 w Ps) (hi : Ps[i]? = some (Rw e size (.slice A n c) n xs)) : Has w w.heap.size A xs := by
 obtain ⟨A', c', e, _, _, hh⟩ := sep_rwForm h hi; simp only [Value.slice.injEq] at e; rw [e.1]; exact hh
set_option maxHeartbeats 3200000 in
theorem spoil12 {w0 w : World} {Qs : List SP} {FA EA : Option Addr} {fc ec : Nat} {LP : List (Fr × Value)} {LE : List (Ev × Value)} (h : Sep w0 w (Rw 51 10 (.slice FA LP.length fc) LP.length (fR_ LP) :: Bods (fB_ LP) :: Rw 49 4 (.slice EA LE.length ec) LE.length (eR_ LE) :: Bods (eB_ LE) :: Qs)) (hn : LP.length ≤ 1000000) (hm : LE.length ≤ 1000000) (hF : ∀ p ∈ LP, p.1.body.length ≤ 1000000) (hE : ∀ p ∈ LE, p.1.body.length ≤ 1000000) :
  Calls Try.prog 52 #[.agg #[.slice FA LP.length fc, .slice EA LE.length ec]] w fun e w' => e = .returned (.tuple #[]) ∧ Sep w0 w' Qs := by
 have h1 := sep_bsOf (i := 3) (sep_bsOf (i := 1) h rfl) rfl; obtain ⟨LV, HLVn⟩ : ∃ x, Hid ((fB_ LP).map (fun x => (x.1, x.2.length)) = x) := ⟨_, Lib.hid rfl⟩; obtain ⟨LW, HLVm⟩ : ∃ x, Hid ((eB_ LE).map (fun x => (x.1, x.2.length)) = x) := ⟨_, Lib.hid rfl⟩; rw [HLVn.out, HLVm.out] at h1; obtain ⟨n, Hn⟩ : ∃ x, Hid (LP.length = x) := ⟨_, Lib.hid rfl⟩; obtain ⟨m, Hm⟩ : ∃ x, Hid (LE.length = x) := ⟨_, Lib.hid rfl⟩; have h2 : Sep w0 w (Rw 51 10 (.slice FA LP.length fc) LP.length (fR_ LP) :: Bs LV :: Rw 49 4 (.slice EA LE.length ec) LE.length (eR_ LE) :: Bs LW :: Qs) := h1; rw [Hn.out, Hm.out] at h2; rw [Hn.out, Hm.out]; rw [Hn.out] at hn; rw [Hm.out] at hm; have HSZn := Lib.hid hF; have HSZm := Lib.hid hE; have h3 := sep_ceF h2 #[.slice FA n fc, .slice EA m ec] 43; obtain ⟨g, Hg⟩ : ∃ x, Hid (w.heap.size = x) := ⟨_, Lib.hid rfl⟩; rw [Hg.out] at h3; have HS0 := Lib.hid h3; clear h h1 h2 h3 hF hE; go_enter Try.func52, Try.ntmps52
 go_wp2_with fail
 rw [Hg.out]
 go_loopw [2] (fun i wr => ∃ k : Nat, k ≤ n ∧ i = .int .i64 (k : Int) ∧ Sep w0 wr (Ce g 43 #[.slice FA n fc, .slice EA m ec] :: Rw 51 10 (.slice FA n fc) n (fR_ LP) :: Bs LV :: Rw 49 4 (.slice EA m ec) m (eR_ LE) :: Bs LW :: Qs)) (fun i _ => n - (intOf i).toNat)
 case atStart => exact ⟨0, by omega, rfl, HS0.out⟩
 case round =>
  obtain ⟨i, hi, rfl, hs⟩ := hrel; clear HS0; have HS := Lib.hid hs; have kg : wr.cell? ⟨g, 0, none⟩ = some (.slice FA n fc) := cA (i := 0) hs rfl 0 rfl; clear hs
  by_cases hlt : i < n
  ·obtain ⟨f, u, hp⟩ : ∃ f u, LP[i]? = some (f, u) := ⟨_, _, List.getElem?_eq_getElem (by rw [Hn.out]; exact hlt)⟩; have hmem : (u, f.body.length) ∈ LV := by rw [← HLVn.out]; exact List.mem_map.2 ⟨(u, f.body), List.mem_map.2 ⟨(f, u), List.mem_of_getElem? hp, rfl⟩, rfl⟩
   obtain ⟨A1, c1, rfl⟩ := sep_bsForm (i := 2) HS.out rfl hmem; have hml : f.body.length ≤ 1000000 := HSZn.out (f, .slice A1 f.body.length c1) (List.mem_of_getElem? hp); obtain ⟨q, Hq⟩ : ∃ q, Hid (f.body.length = q) := ⟨_, Lib.hid rfl⟩; rw [Hq.out] at hmem hml hp; have HM := Lib.hid hmem; have HP := Lib.hid hp; have hr0 := sep_rwHas' (i := 1) HS.out rfl; obtain ⟨b, o, hFA, _, _⟩ := hr0 _ _ (frRow_at (r := 9) hp (by omega)); subst hFA; have kf := hK4 (sep_rwHas' (i := 1) HS.out rfl) (frRow_at (r := 9) HP.out (by omega)); rw [← Nat.add_assoc] at kf; clear hmem hp hr0
   go_wp2_with fail
   obtain ⟨wo, rfl⟩ : ∃ wo : World, wo = wr := ⟨_, rfl⟩; clear kg kf
   go_loopw [3] (fun j wr => ∃ k : Nat, k ≤ q ∧ j = .int .i64 (k : Int) ∧ Sep w0 wr (Ce g 43 #[.slice (some ⟨b, o, none⟩) n fc, .slice EA m ec] :: Rw 51 10 (.slice (some ⟨b, o, none⟩) n fc) n (fR_ LP) :: Bs LV :: Rw 49 4 (.slice EA m ec) m (eR_ LE) :: Bs LW :: Qs)) (fun j _ => q - (intOf j).toNat)
   case atStart => exact ⟨0, by omega, rfl, HS.out⟩
   case round =>
    obtain ⟨k, hk, rfl, hs⟩ := hrel; clear HS; have HS := Lib.hid hs; have kg : wr.cell? ⟨g, 0, none⟩ = some (.slice (some ⟨b, o, none⟩) n fc) := cA (i := 0) hs rfl 0 rfl; have kf := hK4 (sep_rwHas' (i := 1) HS.out rfl) (frRow_at (r := 9) HP.out (by omega)); rw [← Nat.add_assoc] at kf; have kf' : wr.cell? ⟨b, o + i * 10 + 9, none⟩ = some (.slice A1 q c1) := kf; clear hs kf
    by_cases hkl : k < q
    ·obtain ⟨gg, c', x, e0, e1, e2, e3⟩ := sep_bsCell (i := 2) HS.out rfl HM.out hkl; simp only [Value.slice.injEq, true_and] at e0; obtain ⟨rfl, rfl⟩ := e0; have HE := Lib.hid e3; clear e3
     go_wp2_with fail
     go_roundw
     case rel => exact ⟨k + 1, by omega, by go_num, by rw [byte_inc' x]; exact HE.out _⟩
     case measure => simp [intOf]; omega
    ·go_wp2_with fail
     go_roundw
     case rel => exact ⟨i + 1, by omega, by go_num, HS.out⟩
     case measure => simp [intOf]; omega
  ·go_wp2_with fail
   clear kg
   go_loopw [4] (fun i wr => ∃ k : Nat, k ≤ m ∧ i = .int .i64 (k : Int) ∧ Sep w0 wr (Ce g 43 #[.slice FA n fc, .slice EA m ec] :: Rw 51 10 (.slice FA n fc) n (fR_ LP) :: Bs LV :: Rw 49 4 (.slice EA m ec) m (eR_ LE) :: Bs LW :: Qs)) (fun i _ => m - (intOf i).toNat)
   case atStart => exact ⟨0, by omega, rfl, HS.out⟩
   case round =>
    obtain ⟨i, hi, rfl, hs⟩ := hrel; clear HS; have HS := Lib.hid hs; have kg : wr.cell? ⟨g, 1, none⟩ = some (.slice EA m ec) := cA (i := 0) hs rfl 1 rfl; clear hs
    by_cases hlt : i < m
    ·obtain ⟨f, u, hp⟩ : ∃ f u, LE[i]? = some (f, u) := ⟨_, _, List.getElem?_eq_getElem (by rw [Hm.out]; exact hlt)⟩; have hmem : (u, f.body.length) ∈ LW := by rw [← HLVm.out]; exact List.mem_map.2 ⟨(u, f.body), List.mem_map.2 ⟨(f, u), List.mem_of_getElem? hp, rfl⟩, rfl⟩
     obtain ⟨A1, c1, rfl⟩ := sep_bsForm (i := 4) HS.out rfl hmem; have hml : f.body.length ≤ 1000000 := HSZm.out (f, .slice A1 f.body.length c1) (List.mem_of_getElem? hp); obtain ⟨q, Hq⟩ : ∃ q, Hid (f.body.length = q) := ⟨_, Lib.hid rfl⟩; rw [Hq.out] at hmem hml hp; have HM := Lib.hid hmem; have HP := Lib.hid hp; have hr0 := sep_rwHas' (i := 3) HS.out rfl; obtain ⟨b, o, hFA, _, _⟩ := hr0 _ _ (evRow_at (r := 3) hp (by omega)); subst hFA; have kf := hK4 (sep_rwHas' (i := 3) HS.out rfl) (evRow_at (r := 3) HP.out (by omega)); rw [← Nat.add_assoc] at kf; clear hmem hp hr0
     go_wp2_with fail
     obtain ⟨wo, rfl⟩ : ∃ wo : World, wo = wr := ⟨_, rfl⟩; clear kg kf
     go_loopw [5] (fun j wr => ∃ k : Nat, k ≤ q ∧ j = .int .i64 (k : Int) ∧ Sep w0 wr (Ce g 43 #[.slice FA n fc, .slice (some ⟨b, o, none⟩) m ec] :: Rw 51 10 (.slice FA n fc) n (fR_ LP) :: Bs LV :: Rw 49 4 (.slice (some ⟨b, o, none⟩) m ec) m (eR_ LE) :: Bs LW :: Qs)) (fun j _ => q - (intOf j).toNat)
     case atStart => exact ⟨0, by omega, rfl, HS.out⟩
     case round =>
      obtain ⟨k, hk, rfl, hs⟩ := hrel; clear HS; have HS := Lib.hid hs; have kg : wr.cell? ⟨g, 1, none⟩ = some (.slice (some ⟨b, o, none⟩) m ec) := cA (i := 0) hs rfl 1 rfl; have kf := hK4 (sep_rwHas' (i := 3) HS.out rfl) (evRow_at (r := 3) HP.out (by omega)); rw [← Nat.add_assoc] at kf; have kf' : wr.cell? ⟨b, o + i * 4 + 3, none⟩ = some (.slice A1 q c1) := kf; clear hs kf
      by_cases hkl : k < q
      ·obtain ⟨gg, c', x, e0, e1, e2, e3⟩ := sep_bsCell (i := 4) HS.out rfl HM.out hkl; simp only [Value.slice.injEq, true_and] at e0; obtain ⟨rfl, rfl⟩ := e0; have HE := Lib.hid e3; clear e3
       go_wp2_with fail
       go_roundw
       case rel => exact ⟨k + 1, by omega, by go_num, by rw [byte_inc' x]; exact HE.out _⟩
       case measure => simp [intOf]; omega
      ·go_wp2_with fail
       go_roundw
       case rel => exact ⟨i + 1, by omega, by go_num, HS.out⟩
       case measure => simp [intOf]; omega
    ·go_wp2_with fail
     go_end0
     exact ⟨rfl, ((((HS.out.popF).popF).popF).popF).popF⟩
end Go.Proofs.Ytngegjboenfmeaa
/- A frame as of one that knows the link. -/
namespace Go.Proofs.Ytngegjboenfmeaa
open Go Go.RowKit
set_option linter.unusedVariables false
set_option maxRecDepth 100000
set_option linter.unusedSimpArgs false

def LS.kn (s : LS) (f : Fr) : Fr := ⟨f.kind, s.peer, s.sn, if 0 < s.inc then s.inc else f.inc, if 0 < s.inc then s.known else f.conn, s.si, s.conn, f.ack, f.seq, f.body⟩
set_option maxHeartbeats 3200000 in
theorem known_any {w0 w : World} {q : Nat} {Qs : List SP} {s : LS} {F : List Fr} {E : List Ev} {f : Fr} {CA : Option Addr} {cc : Nat} (h : DLS w0 w q Qs s F E) :
  Calls Try.prog 49 #[.pointer (some ⟨q, 0, none⟩), .agg (f.cells CA cc)] w fun e w' => e = .returned (.agg ((s.kn f).cells CA cc)) ∧ Below w.heap.size w w' := by
 obtain ⟨bx, vF, vE, LP, LE, e1, e2, h1⟩ := h; obtain ⟨g, Hg⟩ : ∃ x, Hid (w.heap.size = x) := ⟨_, Lib.hid rfl⟩; obtain ⟨r, Hr⟩ : ∃ x, Hid (g + 1 = x) := ⟨_, Lib.hid rfl⟩; obtain ⟨wa, Hwa⟩ : ∃ x, Hid ((w.alloc (.cells (f.cells CA cc) 51)).alloc (.cells #[.int .i64 0, .int .i64 0, .int .i64 0, .int .u64 0, .int .u64 0, .int .u64 0, .int .u64 0, .int .u64 0, .int .u64 0, .slice none 0 0] 51) = x) := ⟨_, Lib.hid rfl⟩; have HS0 : Hid (Sep w wa [Ce r 51 #[.int .i64 0, .int .i64 0, .int .i64 0, .int .u64 0, .int .u64 0, .int .u64 0, .int .u64 0, .int .u64 0, .int .u64 0, .slice none 0 0], Ce g 51 #[.int .i64 f.kind, .int .i64 f.fr, .int .i64 f.to, .int .u64 (f.inc : Int), .int .u64 (f.conn : Int), .int .u64 (f.pinc : Int), .int .u64 (f.pconn : Int), .int .u64 (f.ack : Int), .int .u64 (f.seq : Int), .slice CA f.body.length cc]]) := Lib.hid (by
  have h2 := sep_ceF (sep_ceF (Sep.nil w) (f.cells CA cc) 51) #[.int .i64 0, .int .i64 0, .int .i64 0, .int .u64 0, .int .u64 0, .int .u64 0, .int .u64 0, .int .u64 0, .int .u64 0, .slice none 0 0] 51; simp only [World.size_alloc] at h2; rw [Hg.out, Hr.out, Hwa.out] at h2; exact h2)
 have HB : Hid (∀ W, Sep w W [Ce r 51 #[.int .i64 0, .int .i64 0, .int .i64 0, .int .u64 0, .int .u64 0, .int .u64 0, .int .u64 0, .int .u64 0, .int .u64 0, .slice none 0 0], Ce g 51 #[.int .i64 f.kind, .int .i64 f.fr, .int .i64 f.to, .int .u64 (f.inc : Int), .int .u64 (f.conn : Int), .int .u64 (f.pinc : Int), .int .u64 (f.pconn : Int), .int .u64 (f.ack : Int), .int .u64 (f.seq : Int), .slice CA f.body.length cc]] → True) := Lib.hid fun _ _ => trivial
 have hqs := (sep_ceF (sep_ceF h1 (f.cells CA cc) 51) #[.int .i64 0, .int .i64 0, .int .i64 0, .int .u64 0, .int .u64 0, .int .u64 0, .int .u64 0, .int .u64 0, .int .u64 0, .slice none 0 0] 51); simp only [World.size_alloc] at hqs; rw [Hg.out, Hr.out, Hwa.out] at hqs; have HQ := Lib.hid hqs; clear h1 hqs e1 e2 HB; have q0 : wa.cell? ⟨q, 0, none⟩ = some (.int .i64 s.sn) := cA (i := 2) HQ.out rfl 0 rfl; have q1 : wa.cell? ⟨q, 1, none⟩ = some (.int .u64 (s.si : Int)) := cA (i := 2) HQ.out rfl 1 rfl; have q2 : wa.cell? ⟨q, 2, none⟩ = some (.int .i64 s.peer) := cA (i := 2) HQ.out rfl 2 rfl; have q3 : wa.cell? ⟨q, 3, none⟩ = some (.int .u64 (s.conn : Int)) := cA (i := 2) HQ.out rfl 3 rfl; have q4 : wa.cell? ⟨q, 4, none⟩ = some (.int .u64 (s.inc : Int)) := cA (i := 2) HQ.out rfl 4 rfl; have q5 : wa.cell? ⟨q, 5, none⟩ = some (.int .u64 (s.known : Int)) := cA (i := 2) HQ.out rfl 5 rfl; have fq0 := cFz (i := 2) HQ.out rfl 0; have fq1 := cFz (i := 2) HQ.out rfl 1; have fq2 := cFz (i := 2) HQ.out rfl 2; have fq3 := cFz (i := 2) HQ.out rfl 3; have fq4 := cFz (i := 2) HQ.out rfl 4; have fq5 := cFz (i := 2) HQ.out rfl 5; have z0 : wa.cell? ⟨g, 0, none⟩ = some (.int .i64 f.kind) := cA (i := 1) HS0.out rfl 0 rfl; have z1 : wa.cell? ⟨g, 1, none⟩ = some (.int .i64 f.fr) := cA (i := 1) HS0.out rfl 1 rfl; have z2 : wa.cell? ⟨g, 2, none⟩ = some (.int .i64 f.to) := cA (i := 1) HS0.out rfl 2 rfl; have z3 : wa.cell? ⟨g, 3, none⟩ = some (.int .u64 (f.inc : Int)) := cA (i := 1) HS0.out rfl 3 rfl; have z4 : wa.cell? ⟨g, 4, none⟩ = some (.int .u64 (f.conn : Int)) := cA (i := 1) HS0.out rfl 4 rfl; have z5 : wa.cell? ⟨g, 5, none⟩ = some (.int .u64 (f.pinc : Int)) := cA (i := 1) HS0.out rfl 5 rfl; have z6 : wa.cell? ⟨g, 6, none⟩ = some (.int .u64 (f.pconn : Int)) := cA (i := 1) HS0.out rfl 6 rfl; have z7 : wa.cell? ⟨g, 7, none⟩ = some (.int .u64 (f.ack : Int)) := cA (i := 1) HS0.out rfl 7 rfl; have z8 : wa.cell? ⟨g, 8, none⟩ = some (.int .u64 (f.seq : Int)) := cA (i := 1) HS0.out rfl 8 rfl; have z9 : wa.cell? ⟨g, 9, none⟩ = some (.slice CA f.body.length cc) := cA (i := 1) HS0.out rfl 9 rfl; have fz0 := cFz (i := 1) HS0.out rfl 0; have fz1 := cFz (i := 1) HS0.out rfl 1; have fz2 := cFz (i := 1) HS0.out rfl 2; have fz3 := cFz (i := 1) HS0.out rfl 3; have fz4 := cFz (i := 1) HS0.out rfl 4; have fz5 := cFz (i := 1) HS0.out rfl 5; have fz6 := cFz (i := 1) HS0.out rfl 6; have fz7 := cFz (i := 1) HS0.out rfl 7; have fz8 := cFz (i := 1) HS0.out rfl 8; have fz9 := cFz (i := 1) HS0.out rfl 9; have hqg : q ≠ g := by
  have := HQ.out
  obtain ⟨_, Fs, hl, h1, h2⟩ := this; rintro rfl
  match Fs, hl with
  | F0 :: F1 :: F2 :: Fr, _ =>
   have a := (h1 1 _ F1 rfl rfl).1.2 q; have b := (h1 2 _ F2 rfl rfl).1.2 q; exact h2 1 2 F1 F2 (by decide) rfl rfl q (a.2 rfl) (b.2 rfl)
 go_enter Try.func49, Try.ntmps49
 go_upto_region 1 with fail
 rw [Hg.out]; rw [Hr.out]; rw [show (w.alloc (.cells (f.cells CA cc) 51)).alloc (.cells #[.int .i64 0, .int .i64 0, .int .i64 0, .int .u64 0, .int .u64 0, .int .u64 0, .int .u64 0, .int .u64 0, .int .u64 0, .slice none 0 0] 51) = wa from Hwa.out]
 go_region
 go_upto_region 2 with fail
 go_region
 by_cases hi : 0 < s.inc
 ·have g1 : decide (0 < (s.inc : Int)) = true := decide_eq_true (by omega); have HI := Lib.hid hi
  go_upto_region 4 with fail
  go_region
  go_upto_region 5 with fail
  obtain ⟨W6, HW6⟩ : ∃ y, Hid (((((((wa.setCell ⟨g, 1, none⟩ (.int .i64 s.peer)).setCell ⟨g, 2, none⟩ (.int .i64 s.sn)).setCell ⟨g, 5, none⟩ (.int .u64 (s.si : Int))).setCell ⟨g, 6, none⟩ (.int .u64 (s.conn : Int))).setCell ⟨g, 3, none⟩ (.int .u64 (s.inc : Int))).setCell ⟨g, 4, none⟩ (.int .u64 (s.known : Int))).drew.drew.drew = y) := ⟨_, Lib.hid rfl⟩; have HS6 : Hid (Sep w W6 [Ce r 51 #[.int .i64 0, .int .i64 0, .int .i64 0, .int .u64 0, .int .u64 0, .int .u64 0, .int .u64 0, .int .u64 0, .int .u64 0, .slice none 0 0], Ce g 51 #[.int .i64 f.kind, .int .i64 s.peer, .int .i64 s.sn, .int .u64 (s.inc : Int), .int .u64 (s.known : Int), .int .u64 (s.si : Int), .int .u64 (s.conn : Int), .int .u64 (f.ack : Int), .int .u64 (f.seq : Int), .slice CA f.body.length cc]]) := Lib.hid (by
   rw [← HW6.out]; exact (cS (i := 1) (cS (i := 1) (cS (i := 1) (cS (i := 1) (cS (i := 1) (cS (i := 1) HS0.out rfl 1 (.int .i64 s.peer)) rfl 2 (.int .i64 s.sn)) rfl 5 (.int .u64 (s.si : Int))) rfl 6 (.int .u64 (s.conn : Int))) rfl 3 (.int .u64 (s.inc : Int))) rfl 4 (.int .u64 (s.known : Int))).drew.drew.drew)
  rw [HW6.out]; clear q0 q1 q2 q3 q4 q5 fq0 fq1 fq2 fq3 fq4 fq5 z0 z1 z2 z3 z4 z5 z6 z7 z8 z9 fz0 fz1 fz2 fz3 fz4 fz5 fz6 fz7 fz8 fz9 HQ hqg; have z0 : W6.cell? ⟨g, 0, none⟩ = some (.int .i64 f.kind) := cA (i := 1) HS6.out rfl 0 rfl; have k0 := cA (i := 0) HS6.out rfl 0 rfl; have x0 := cFz (i := 0) HS6.out rfl 0; have z1 : W6.cell? ⟨g, 1, none⟩ = some (.int .i64 s.peer) := cA (i := 1) HS6.out rfl 1 rfl; have k1 := cA (i := 0) HS6.out rfl 1 rfl; have x1 := cFz (i := 0) HS6.out rfl 1; have z2 : W6.cell? ⟨g, 2, none⟩ = some (.int .i64 s.sn) := cA (i := 1) HS6.out rfl 2 rfl; have k2 := cA (i := 0) HS6.out rfl 2 rfl; have x2 := cFz (i := 0) HS6.out rfl 2; have z3 : W6.cell? ⟨g, 3, none⟩ = some (.int .u64 (s.inc : Int)) := cA (i := 1) HS6.out rfl 3 rfl; have k3 := cA (i := 0) HS6.out rfl 3 rfl; have x3 := cFz (i := 0) HS6.out rfl 3; have z4 : W6.cell? ⟨g, 4, none⟩ = some (.int .u64 (s.known : Int)) := cA (i := 1) HS6.out rfl 4 rfl; have k4 := cA (i := 0) HS6.out rfl 4 rfl; have x4 := cFz (i := 0) HS6.out rfl 4; have z5 : W6.cell? ⟨g, 5, none⟩ = some (.int .u64 (s.si : Int)) := cA (i := 1) HS6.out rfl 5 rfl; have k5 := cA (i := 0) HS6.out rfl 5 rfl; have x5 := cFz (i := 0) HS6.out rfl 5; have z6 : W6.cell? ⟨g, 6, none⟩ = some (.int .u64 (s.conn : Int)) := cA (i := 1) HS6.out rfl 6 rfl; have k6 := cA (i := 0) HS6.out rfl 6 rfl; have x6 := cFz (i := 0) HS6.out rfl 6; have z7 : W6.cell? ⟨g, 7, none⟩ = some (.int .u64 (f.ack : Int)) := cA (i := 1) HS6.out rfl 7 rfl; have k7 := cA (i := 0) HS6.out rfl 7 rfl; have x7 := cFz (i := 0) HS6.out rfl 7; have z8 : W6.cell? ⟨g, 8, none⟩ = some (.int .u64 (f.seq : Int)) := cA (i := 1) HS6.out rfl 8 rfl; have k8 := cA (i := 0) HS6.out rfl 8 rfl; have x8 := cFz (i := 0) HS6.out rfl 8; have z9 : W6.cell? ⟨g, 9, none⟩ = some (.slice CA f.body.length cc) := cA (i := 1) HS6.out rfl 9 rfl; have k9 := cA (i := 0) HS6.out rfl 9 rfl; have x9 := cFz (i := 0) HS6.out rfl 9
  go_wp2_with fail
  obtain ⟨_, hs2⟩ := sep_put10 (i := 0) HS6.out rfl (.int .i64 f.kind) (.int .i64 s.peer) (.int .i64 s.sn) (.int .u64 (s.inc : Int)) (.int .u64 (s.known : Int)) (.int .u64 (s.si : Int)) (.int .u64 (s.conn : Int)) (.int .u64 (f.ack : Int)) (.int .u64 (f.seq : Int)) (.slice CA f.body.length cc); have HS7 : Hid (Sep w _ [_, _]) := Lib.hid hs2; clear hs2; refine bodyPost_ret (v := .agg #[.int .i64 f.kind, .int .i64 s.peer, .int .i64 s.sn, .int .u64 (s.inc : Int), .int .u64 (s.known : Int), .int .u64 (s.si : Int), .int .u64 (s.conn : Int), .int .u64 (f.ack : Int), .int .u64 (f.seq : Int), .slice CA f.body.length cc]) (by simp [results, Try.results49, go_sem, k0, k1, k2, k3, k4, k5, k6, k7, k8, k9]) rfl ?_; exact ⟨by rw [LS.kn, if_pos HI.out, if_pos HI.out]; rfl, HS7.out.bel⟩
 ·have g1 : decide (0 < (s.inc : Int)) = false := decide_eq_false (by omega); have HI := Lib.hid hi
  go_upto_region 5 with fail
  obtain ⟨W6, HW6⟩ : ∃ y, Hid (((((wa.setCell ⟨g, 1, none⟩ (.int .i64 s.peer)).setCell ⟨g, 2, none⟩ (.int .i64 s.sn)).setCell ⟨g, 5, none⟩ (.int .u64 (s.si : Int))).setCell ⟨g, 6, none⟩ (.int .u64 (s.conn : Int))).drew.drew = y) := ⟨_, Lib.hid rfl⟩; have HS6 : Hid (Sep w W6 [Ce r 51 #[.int .i64 0, .int .i64 0, .int .i64 0, .int .u64 0, .int .u64 0, .int .u64 0, .int .u64 0, .int .u64 0, .int .u64 0, .slice none 0 0], Ce g 51 #[.int .i64 f.kind, .int .i64 s.peer, .int .i64 s.sn, .int .u64 (f.inc : Int), .int .u64 (f.conn : Int), .int .u64 (s.si : Int), .int .u64 (s.conn : Int), .int .u64 (f.ack : Int), .int .u64 (f.seq : Int), .slice CA f.body.length cc]]) := Lib.hid (by
   rw [← HW6.out]; exact (cS (i := 1) (cS (i := 1) (cS (i := 1) (cS (i := 1) HS0.out rfl 1 (.int .i64 s.peer)) rfl 2 (.int .i64 s.sn)) rfl 5 (.int .u64 (s.si : Int))) rfl 6 (.int .u64 (s.conn : Int))).drew.drew)
  rw [HW6.out]; clear q0 q1 q2 q3 q4 q5 fq0 fq1 fq2 fq3 fq4 fq5 z0 z1 z2 z3 z4 z5 z6 z7 z8 z9 fz0 fz1 fz2 fz3 fz4 fz5 fz6 fz7 fz8 fz9 HQ hqg; have z0 : W6.cell? ⟨g, 0, none⟩ = some (.int .i64 f.kind) := cA (i := 1) HS6.out rfl 0 rfl; have k0 := cA (i := 0) HS6.out rfl 0 rfl; have x0 := cFz (i := 0) HS6.out rfl 0; have z1 : W6.cell? ⟨g, 1, none⟩ = some (.int .i64 s.peer) := cA (i := 1) HS6.out rfl 1 rfl; have k1 := cA (i := 0) HS6.out rfl 1 rfl; have x1 := cFz (i := 0) HS6.out rfl 1; have z2 : W6.cell? ⟨g, 2, none⟩ = some (.int .i64 s.sn) := cA (i := 1) HS6.out rfl 2 rfl; have k2 := cA (i := 0) HS6.out rfl 2 rfl; have x2 := cFz (i := 0) HS6.out rfl 2; have z3 : W6.cell? ⟨g, 3, none⟩ = some (.int .u64 (f.inc : Int)) := cA (i := 1) HS6.out rfl 3 rfl; have k3 := cA (i := 0) HS6.out rfl 3 rfl; have x3 := cFz (i := 0) HS6.out rfl 3; have z4 : W6.cell? ⟨g, 4, none⟩ = some (.int .u64 (f.conn : Int)) := cA (i := 1) HS6.out rfl 4 rfl; have k4 := cA (i := 0) HS6.out rfl 4 rfl; have x4 := cFz (i := 0) HS6.out rfl 4; have z5 : W6.cell? ⟨g, 5, none⟩ = some (.int .u64 (s.si : Int)) := cA (i := 1) HS6.out rfl 5 rfl; have k5 := cA (i := 0) HS6.out rfl 5 rfl; have x5 := cFz (i := 0) HS6.out rfl 5; have z6 : W6.cell? ⟨g, 6, none⟩ = some (.int .u64 (s.conn : Int)) := cA (i := 1) HS6.out rfl 6 rfl; have k6 := cA (i := 0) HS6.out rfl 6 rfl; have x6 := cFz (i := 0) HS6.out rfl 6; have z7 : W6.cell? ⟨g, 7, none⟩ = some (.int .u64 (f.ack : Int)) := cA (i := 1) HS6.out rfl 7 rfl; have k7 := cA (i := 0) HS6.out rfl 7 rfl; have x7 := cFz (i := 0) HS6.out rfl 7; have z8 : W6.cell? ⟨g, 8, none⟩ = some (.int .u64 (f.seq : Int)) := cA (i := 1) HS6.out rfl 8 rfl; have k8 := cA (i := 0) HS6.out rfl 8 rfl; have x8 := cFz (i := 0) HS6.out rfl 8; have z9 : W6.cell? ⟨g, 9, none⟩ = some (.slice CA f.body.length cc) := cA (i := 1) HS6.out rfl 9 rfl; have k9 := cA (i := 0) HS6.out rfl 9 rfl; have x9 := cFz (i := 0) HS6.out rfl 9
  go_wp2_with fail
  obtain ⟨_, hs2⟩ := sep_put10 (i := 0) HS6.out rfl (.int .i64 f.kind) (.int .i64 s.peer) (.int .i64 s.sn) (.int .u64 (f.inc : Int)) (.int .u64 (f.conn : Int)) (.int .u64 (s.si : Int)) (.int .u64 (s.conn : Int)) (.int .u64 (f.ack : Int)) (.int .u64 (f.seq : Int)) (.slice CA f.body.length cc); have HS7 : Hid (Sep w _ [_, _]) := Lib.hid hs2; clear hs2; refine bodyPost_ret (v := .agg #[.int .i64 f.kind, .int .i64 s.peer, .int .i64 s.sn, .int .u64 (f.inc : Int), .int .u64 (f.conn : Int), .int .u64 (s.si : Int), .int .u64 (s.conn : Int), .int .u64 (f.ack : Int), .int .u64 (f.seq : Int), .slice CA f.body.length cc]) (by simp [results, Try.results49, go_sem, k0, k1, k2, k3, k4, k5, k6, k7, k8, k9]) rfl ?_; exact ⟨by rw [LS.kn, if_neg HI.out, if_neg HI.out]; rfl, HS7.out.bel⟩
end Go.Proofs.Ytngegjboenfmeaa
/- Take of any link. -/
namespace Go.Proofs.Ytngegjboenfmeaa
open Go Go.RowKit Go.Shelf
set_option linter.unusedVariables false
set_option maxRecDepth 100000
set_option linter.unusedSimpArgs false
attribute [local go_sem] Oper.semAt_some

set_option maxHeartbeats 51200000 in
theorem takeNo {w0 w : World} {Qs : List SP} {X : SP} {g now : Nat} {s : LS} {f : Fr} {bx : Value} {A : Option Addr} {c : Nat} (h : Sep w0 w (Ce g 72 (s.cells bx) :: BoxT bx s.box :: X :: Qs)) (hX : Reads X A f.body) (hs : s.Num) (hbl : f.body.length ≤ maxLen) (hack : f.ack < 18446744073709551616) (hseq : f.seq < 18446744073709551616) (hnow : now < 18446744073709551616) (hlk : s.looks f = false) :
  Calls Try.prog 15 #[.pointer (some ⟨g, 0, none⟩), .int .u64 (now : Int), .agg (f.cells A c)] w (Ans w0 g (X :: Qs) (s.takeF now f) (s.takeE now f) (s.take now f)) := by
 obtain ⟨BA, bc, rfl, hcc, hcm, hbx⟩ := sep_boxForm (i := 1) h rfl hs.small; have HOK := Lib.hid hs; obtain ⟨sS, HSS⟩ : ∃ x, Hid (s = x) := ⟨_, Lib.hid rfl⟩; obtain ⟨fF, HFF⟩ : ∃ x, Hid (f = x) := ⟨_, Lib.hid rfl⟩; have HOS : Hid (sS.Num) := Lib.hid (by rw [← HSS.out]; exact HOK.out)
 suffices hgoal : Calls Try.prog 15 #[.pointer (some ⟨g, 0, none⟩), .int .u64 (now : Int), .agg (f.cells A c)] w (Ans w0 g (X :: Qs) (sS.takeF now fF) (sS.takeE now fF) (sS.take now fF)) by
  rw [HSS.out, HFF.out]; rw [HFF.out] at hgoal; exact hgoal
 obtain ⟨base, box, got, sn, si, peer, conn, inc, known, up, heard, sent⟩ := s; obtain ⟨kk, ffr, fto, finc, fconn, pinc, pconn, ack, seq, body⟩ := f; have hsn : sn ≠ 0 := hs.sn; have HSN := Lib.hid hsn; have HBL : Hid (body.length ≤ maxLen) := Lib.hid hbl; have hack : ack < 18446744073709551616 := hack; have hseq : seq < 18446744073709551616 := hseq; have HX : Hid (Reads X A body) := Lib.hid hX; obtain ⟨p1, Hp1⟩ : ∃ q, Hid ((!(mayB kk ffr fto finc fconn pinc pconn ack seq body.length && decide (ffr = peer) && decide (fto = sn))) = q) := ⟨_, Lib.hid rfl⟩; obtain ⟨p2, Hp2⟩ : ∃ q, Hid ((decide (finc < inc) || (decide (finc = inc) && decide (fconn < known))) = q) := ⟨_, Lib.hid rfl⟩
 obtain ⟨p3, Hp3⟩ : ∃ q, Hid ((decide (finc ≠ inc) || decide (fconn ≠ known)) = q) := ⟨_, Lib.hid rfl⟩
 have HLOOK : Hid (sS.looks fF = (!p1 && !p2)) := Lib.hid (by rw [← HSS.out, ← HFF.out, ← Hp1.out, ← Hp2.out]; simp [LS.looks]); have HOTH : Hid (sS.other fF = p3) := Lib.hid (by rw [← HSS.out, ← HFF.out]; exact Hp3.out); show Calls Try.prog 15 #[.pointer (some ⟨g, 0, none⟩), .int .u64 (now : Int), .agg #[.int .i64 kk, .int .i64 ffr, .int .i64 fto, .int .u64 (finc : Int), .int .u64 (fconn : Int), .int .u64 (pinc : Int), .int .u64 (pconn : Int), .int .u64 (ack : Int), .int .u64 (seq : Int), .slice A body.length c]] w _; have HS0 := Lib.hid (show Sep w0 (((((w.alloc (.cells #[.pointer (some ⟨g, 0, none⟩)] 26)).alloc (.cells #[.int .u64 (now : Int)] 28)).alloc (.cells #[.int .i64 kk, .int .i64 ffr, .int .i64 fto, .int .u64 (finc : Int), .int .u64 (fconn : Int), .int .u64 (pinc : Int), .int .u64 (pconn : Int), .int .u64 (ack : Int), .int .u64 (seq : Int), .slice A body.length c] 51)).alloc (.cells #[.slice none 0 0, .slice none 0 0] 43)).alloc (.cells #[.slice none 0 0, .slice none 0 0] 43)) (TKaF w now g X Qs kk ffr fto finc fconn pinc pconn ack seq A body.length c (Rw 51 10 (.slice none 0 0) 0 []) (Bods []) (Rw 49 4 (.slice none 0 0) 0 []) (Bods []) (#[.slice none 0 0, .slice none 0 0]) (#[.int .u64 (base : Int), .slice BA box.length bc, .int .u64 (got : Int), .int .i64 sn, .int .u64 (si : Int), .int .i64 peer, .int .u64 (conn : Int), .int .u64 (inc : Int), .int .u64 (known : Int), .bool up, .int .u64 (heard : Int), .int .u64 (sent : Int)]) (BoxT (.slice BA box.length bc) box)) by
  have := sep_ceF (sep_ceF (sep_ceF (sep_ceF (sep_ceF h #[.pointer (some ⟨g, 0, none⟩)] 26) #[.int .u64 (now : Int)] 28) #[.int .i64 kk, .int .i64 ffr, .int .i64 fto, .int .u64 (finc : Int), .int .u64 (fconn : Int), .int .u64 (pinc : Int), .int .u64 (pconn : Int), .int .u64 (ack : Int), .int .u64 (seq : Int), .slice A body.length c] 51) #[.slice none 0 0, .slice none 0 0] 43) #[.slice none 0 0, .slice none 0 0] 43
  simp only [World.size_alloc] at this; have := sep_bodsNil (sep_rwNil (sep_bodsNil (sep_rwNil this 51 10).lastFront) 49 4).lastFront; exact (((((((((((this).tF 7 rfl).tF 7 rfl).tF 10 rfl).tF 10 rfl).tF 10 rfl).tF 10 rfl).tF 10 rfl).tF 7 rfl).tF 8 rfl).tF 9 rfl).tF 10 rfl)
 clear h hs hsn hbx hbl hX; refine calls_marks 6 Try.func15 rfl ?_; have HLOOK2 : Hid (sS.looks fF = false) := Lib.hid (by rw [← HSS.out, ← HFF.out]; exact hlk); clear hlk; simp only [Try.ntmps15, List.size_toArray, List.length_cons, List.length_nil, Nat.reduceAdd, Nat.reduceSub, Array.replicate_succ, Array.replicate_zero, List.push_toArray, List.append_toArray, List.nil_append, List.cons_append]
 go_upto_region 2 with fail
 go_cut [42] from 16 to 42 (fun t wx => t = .bool p1 ∧ Sep w0 wx (TKaF w now g X Qs kk ffr fto finc fconn pinc pconn ack seq A body.length c (Rw 51 10 (.slice none 0 0) 0 []) (Bods []) (Rw 49 4 (.slice none 0 0) 0 []) (Bods []) (#[.slice none 0 0, .slice none 0 0]) (#[.int .u64 (base : Int), .slice BA box.length bc, .int .u64 (got : Int), .int .i64 sn, .int .u64 (si : Int), .int .i64 peer, .int .u64 (conn : Int), .int .u64 (inc : Int), .int .u64 (known : Int), .bool up, .int .u64 (heard : Int), .int .u64 (sent : Int)]) (BoxT (.slice BA box.length bc) box)))
 case first =>
  by_cases hm : mayB kk ffr fto finc fconn pinc pconn ack seq body.length = true
  ·have HM := Lib.hid hm; clear hm
   by_cases hf : ffr = peer
   ·have e1 : (ffr != peer) = false := by simp [hf]
    have Hf := Lib.hid hf; clear hf
    by_cases ht : fto = sn
    ·have e2 : (fto != sn) = false := by simp [ht]
     have Ht := Lib.hid ht; clear ht
     go_wp2_with fail
     refine wRG (fun dn xv W => Sep w0 W (TKaF w now g X Qs kk ffr fto finc fconn pinc pconn ack seq A body.length c (Rw 51 10 (.slice none 0 0) 0 []) (Bods []) (Rw 49 4 (.slice none 0 0) 0 []) (Bods []) (#[.slice none 0 0, .slice none 0 0]) (#[.int .u64 (base : Int), .slice BA box.length bc, .int .u64 (got : Int), .int .i64 sn, .int .u64 (si : Int), .int .i64 peer, .int .u64 (conn : Int), .int .u64 (inc : Int), .int .u64 (known : Int), .bool up, .int .u64 (heard : Int), .int .u64 (sent : Int)]) (BoxT (.slice BA box.length bc) box))) (fun _ _ => True) [xP_ g 0, xV_ (.bool true), xV_ (.bool false), xV_ (.bool false), xV_ (.agg #[.int .i64 kk, .int .i64 ffr, .int .i64 fto, .int .u64 (finc : Int), .int .u64 (fconn : Int), .int .u64 (pinc : Int), .int .u64 (pconn : Int), .int .u64 (ack : Int), .int .u64 (seq : Int), .slice A body.length c]), xV_ (.bool true), xV_ (.bool false), xV_ (.bool false), xV_ (.bool false), xP_ (w.heap.size + 1 + 1) 1, xV_ (.int .i64 ffr), xP_ g 0, xP_ g 0, xP_ g 5, xV_ (.int .i64 peer), xV_ (.bool false), xV_ (.bool false), xV_ (.bool false), xP_ (w.heap.size + 1 + 1) 2, xV_ (.int .i64 fto), xP_ g 0, xP_ g 0, xP_ g 3, xP_ g 3, xV_ (.int .i64 sn), xV_ (.bool false), xV_ (.bool false)] (fun xv => by simpa using HS0.out.drew) ?_ ?_
     ·refine Epk 1 3 w.heap.size 0 (fun _ _ _ e => cA (i := 6) e rfl 0 rfl) ?_
      refine EC 2 rfl (fun j k W F a b c d f H K h => ?_) ?_
      ·have f16 := gE (a 16) (by kernel_rfl) (H 0) (by kernel_rfl); clear H c b d a; refine oP rfl ?_; go_simp; refine (made_yes W g sn HSN.out (cA (i := 7) f rfl 3 rfl)).mono ?_; rintro e W' ⟨rfl, hb⟩; exact h.out _ W' rfl trivial (by simpa [upB, upd] using f.grow hb)
      refine Ee 3 17 1 ?_
      refine Ee 4 18 2 ?_
      refine EC 5 rfl (fun g h W F a b c d e H K f => ?_) ?_
      ·have f5 : F.tmps.getD 5 undef = .pointer (some ⟨w.heap.size + 1 + 1, 0, none⟩) := (a 5).trans (by kernel_rfl); have f19 := gE (a 19) (by kernel_rfl) (H 3) (by kernel_rfl); have k9_0 := cA (i := 9) e rfl 0 rfl; have k9_1 := cA (i := 9) e rfl 1 rfl; have k9_2 := cA (i := 9) e rfl 2 rfl; have k9_3 := cA (i := 9) e rfl 3 rfl; have k9_4 := cA (i := 9) e rfl 4 rfl; have k9_5 := cA (i := 9) e rfl 5 rfl; have k9_6 := cA (i := 9) e rfl 6 rfl; have k9_7 := cA (i := 9) e rfl 7 rfl; have k9_8 := cA (i := 9) e rfl 8 rfl; have k9_9 := cA (i := 9) e rfl 9 rfl; clear H c b d a; refine oG rfl (by kernel_rfl) f19 ?_; go_simp; exact f.out _ _ rfl trivial e
      refine EC 6 rfl (fun i j W F a b d f g H K h => ?_) ?_
      ·have f20 := gE (a 20) (by kernel_rfl) (H 4) (by kernel_rfl); have f19 := gE (a 19) (by kernel_rfl) (H 3) (by kernel_rfl); clear H d b f a; refine oG rfl (by kernel_rfl) f19 ?_; go_simp; refine (mayFk (w := W) (c := c) (A := A) HM.out HBL.out).mono ?_; rintro e W' ⟨rfl, hb⟩; exact h.out _ W' rfl trivial (by simpa [upB, upd] using g.grow hb)
      refine Eeeg 7 21 5 19 3 ?_
      refine Eee 8 19 3 22 6 ?_
      refine Ee 9 23 7 ?_
      refine Epeg 10 5 (w.heap.size + 1 + 1) 0 24 8 ?_
      refine Eeegk 11 25 9 24 8 (fun _ _ _ e => cA (i := 9) e rfl 1 rfl) ?_
      refine Epegk 12 3 w.heap.size 0 24 8 (fun _ _ _ e => cA (i := 6) e rfl 0 rfl) ?_
      refine Eeeg 13 27 11 24 8 ?_
      refine Eeeg 14 28 12 24 8 ?_
      refine Eeegk 15 29 13 24 8 (fun _ _ _ e => cA (i := 7) e rfl 5 rfl) ?_
      refine Eeeeg 16 26 10 30 14 24 8 ?_
      refine Eee 17 24 8 31 15 ?_
      refine Ee 18 32 16 ?_
      refine Epeg 19 5 (w.heap.size + 1 + 1) 0 33 17 ?_
      refine Eeegk 20 34 18 33 17 (fun _ _ _ e => cA (i := 9) e rfl 2 rfl) ?_
      refine Epegk 21 3 w.heap.size 0 33 17 (fun _ _ _ e => cA (i := 6) e rfl 0 rfl) ?_
      refine Eeeg 22 36 20 33 17 ?_
      refine Eeeg 23 37 21 33 17 ?_
      refine Eeeg 24 38 22 33 17 ?_
      refine Eeegk 25 39 23 33 17 (fun _ _ _ e => cA (i := 7) e rfl 3 rfl) ?_
      refine Eeeeg 26 35 19 40 24 33 17 ?_
      refine Eee 27 33 17 41 25 ?_
      exact EN
     ·intro dn xv W hI H; have q26 : xv 26 = .bool false := (H 26 (of_decide_eq_true (by kernel_rfl))).2; have hS : Sep w0 W (TKaF w now g X Qs kk ffr fto finc fconn pinc pconn ack seq A body.length c (Rw 51 10 (.slice none 0 0) 0 []) (Bods []) (Rw 49 4 (.slice none 0 0) 0 []) (Bods []) (#[.slice none 0 0, .slice none 0 0]) (#[.int .u64 (base : Int), .slice BA box.length bc, .int .u64 (got : Int), .int .i64 sn, .int .u64 (si : Int), .int .i64 peer, .int .u64 (conn : Int), .int .u64 (inc : Int), .int .u64 (known : Int), .bool up, .int .u64 (heard : Int), .int .u64 (sent : Int)]) (BoxT (.slice BA box.length bc) box)) := hI; clear H hI; simp only [putAll, Act.put, List.setIfInBounds_toArray, List.set_cons_zero, List.set_cons_succ, Nat.reduceAdd, q26]; clear q26
      go_wp2_with fail
      go_meet
      case rel => exact ⟨by rw [← Hp1.out, HM.out, decide_eq_true Hf.out, decide_eq_true Ht.out]; rfl, hS⟩
    ·have e2 : (fto != sn) = true := by simp [ht]
     have Ht := Lib.hid ht; clear ht
     go_wp2_with fail
     refine wRG (fun dn xv W => Sep w0 W (TKaF w now g X Qs kk ffr fto finc fconn pinc pconn ack seq A body.length c (Rw 51 10 (.slice none 0 0) 0 []) (Bods []) (Rw 49 4 (.slice none 0 0) 0 []) (Bods []) (#[.slice none 0 0, .slice none 0 0]) (#[.int .u64 (base : Int), .slice BA box.length bc, .int .u64 (got : Int), .int .i64 sn, .int .u64 (si : Int), .int .i64 peer, .int .u64 (conn : Int), .int .u64 (inc : Int), .int .u64 (known : Int), .bool up, .int .u64 (heard : Int), .int .u64 (sent : Int)]) (BoxT (.slice BA box.length bc) box))) (fun _ _ => True) [xP_ g 0, xV_ (.bool true), xV_ (.bool false), xV_ (.bool false), xV_ (.agg #[.int .i64 kk, .int .i64 ffr, .int .i64 fto, .int .u64 (finc : Int), .int .u64 (fconn : Int), .int .u64 (pinc : Int), .int .u64 (pconn : Int), .int .u64 (ack : Int), .int .u64 (seq : Int), .slice A body.length c]), xV_ (.bool true), xV_ (.bool false), xV_ (.bool false), xV_ (.bool false), xP_ (w.heap.size + 1 + 1) 1, xV_ (.int .i64 ffr), xP_ g 0, xP_ g 0, xP_ g 5, xV_ (.int .i64 peer), xV_ (.bool false), xV_ (.bool false), xV_ (.bool false), xP_ (w.heap.size + 1 + 1) 2, xV_ (.int .i64 fto), xP_ g 0, xP_ g 0, xP_ g 3, xP_ g 3, xV_ (.int .i64 sn), xV_ (.bool true), xV_ (.bool true)] (fun xv => by simpa using HS0.out.drew) ?_ ?_
     ·refine Epk 1 3 w.heap.size 0 (fun _ _ _ e => cA (i := 6) e rfl 0 rfl) ?_
      refine EC 2 rfl (fun j k W F a b c d f H K h => ?_) ?_
      ·have f16 := gE (a 16) (by kernel_rfl) (H 0) (by kernel_rfl); clear H c b d a; refine oP rfl ?_; go_simp; refine (made_yes W g sn HSN.out (cA (i := 7) f rfl 3 rfl)).mono ?_; rintro e W' ⟨rfl, hb⟩; exact h.out _ W' rfl trivial (by simpa [upB, upd] using f.grow hb)
      refine Ee 3 17 1 ?_
      refine Ee 4 18 2 ?_
      refine EC 5 rfl (fun g h W F a b c d e H K f => ?_) ?_
      ·have f5 : F.tmps.getD 5 undef = .pointer (some ⟨w.heap.size + 1 + 1, 0, none⟩) := (a 5).trans (by kernel_rfl); have f19 := gE (a 19) (by kernel_rfl) (H 3) (by kernel_rfl); have k9_0 := cA (i := 9) e rfl 0 rfl; have k9_1 := cA (i := 9) e rfl 1 rfl; have k9_2 := cA (i := 9) e rfl 2 rfl; have k9_3 := cA (i := 9) e rfl 3 rfl; have k9_4 := cA (i := 9) e rfl 4 rfl; have k9_5 := cA (i := 9) e rfl 5 rfl; have k9_6 := cA (i := 9) e rfl 6 rfl; have k9_7 := cA (i := 9) e rfl 7 rfl; have k9_8 := cA (i := 9) e rfl 8 rfl; have k9_9 := cA (i := 9) e rfl 9 rfl; clear H c b d a; refine oG rfl (by kernel_rfl) f19 ?_; go_simp; exact f.out _ _ rfl trivial e
      refine EC 6 rfl (fun i j W F a b d f g H K h => ?_) ?_
      ·have f20 := gE (a 20) (by kernel_rfl) (H 4) (by kernel_rfl); have f19 := gE (a 19) (by kernel_rfl) (H 3) (by kernel_rfl); clear H d b f a; refine oG rfl (by kernel_rfl) f19 ?_; go_simp; refine (mayFk (w := W) (c := c) (A := A) HM.out HBL.out).mono ?_; rintro e W' ⟨rfl, hb⟩; exact h.out _ W' rfl trivial (by simpa [upB, upd] using g.grow hb)
      refine Eeeg 7 21 5 19 3 ?_
      refine Eee 8 19 3 22 6 ?_
      refine Ee 9 23 7 ?_
      refine Epeg 10 5 (w.heap.size + 1 + 1) 0 24 8 ?_
      refine Eeegk 11 25 9 24 8 (fun _ _ _ e => cA (i := 9) e rfl 1 rfl) ?_
      refine Epegk 12 3 w.heap.size 0 24 8 (fun _ _ _ e => cA (i := 6) e rfl 0 rfl) ?_
      refine Eeeg 13 27 11 24 8 ?_
      refine Eeeg 14 28 12 24 8 ?_
      refine Eeegk 15 29 13 24 8 (fun _ _ _ e => cA (i := 7) e rfl 5 rfl) ?_
      refine Eeeeg 16 26 10 30 14 24 8 ?_
      refine Eee 17 24 8 31 15 ?_
      refine Ee 18 32 16 ?_
      refine Epeg 19 5 (w.heap.size + 1 + 1) 0 33 17 ?_
      refine Eeegk 20 34 18 33 17 (fun _ _ _ e => cA (i := 9) e rfl 2 rfl) ?_
      refine Epegk 21 3 w.heap.size 0 33 17 (fun _ _ _ e => cA (i := 6) e rfl 0 rfl) ?_
      refine Eeeg 22 36 20 33 17 ?_
      refine Eeeg 23 37 21 33 17 ?_
      refine Eeeg 24 38 22 33 17 ?_
      refine Eeegk 25 39 23 33 17 (fun _ _ _ e => cA (i := 7) e rfl 3 rfl) ?_
      refine Eeeeg 26 35 19 40 24 33 17 ?_
      refine Eee 27 33 17 41 25 ?_
      exact EN
     ·intro dn xv W hI H; have q26 : xv 26 = .bool true := (H 26 (of_decide_eq_true (by kernel_rfl))).2; have hS : Sep w0 W (TKaF w now g X Qs kk ffr fto finc fconn pinc pconn ack seq A body.length c (Rw 51 10 (.slice none 0 0) 0 []) (Bods []) (Rw 49 4 (.slice none 0 0) 0 []) (Bods []) (#[.slice none 0 0, .slice none 0 0]) (#[.int .u64 (base : Int), .slice BA box.length bc, .int .u64 (got : Int), .int .i64 sn, .int .u64 (si : Int), .int .i64 peer, .int .u64 (conn : Int), .int .u64 (inc : Int), .int .u64 (known : Int), .bool up, .int .u64 (heard : Int), .int .u64 (sent : Int)]) (BoxT (.slice BA box.length bc) box)) := hI; clear H hI; simp only [putAll, Act.put, List.setIfInBounds_toArray, List.set_cons_zero, List.set_cons_succ, Nat.reduceAdd, q26]; clear q26
      go_wp2_with fail
      go_meet
      case rel => exact ⟨by rw [← Hp1.out, HM.out, decide_eq_true Hf.out, decide_eq_false Ht.out]; rfl, hS⟩
   ·have e1 : (ffr != peer) = true := by simp [hf]
    have Hf := Lib.hid hf; clear hf
    go_wp2_with fail
    refine wRG (fun dn xv W => Sep w0 W (TKaF w now g X Qs kk ffr fto finc fconn pinc pconn ack seq A body.length c (Rw 51 10 (.slice none 0 0) 0 []) (Bods []) (Rw 49 4 (.slice none 0 0) 0 []) (Bods []) (#[.slice none 0 0, .slice none 0 0]) (#[.int .u64 (base : Int), .slice BA box.length bc, .int .u64 (got : Int), .int .i64 sn, .int .u64 (si : Int), .int .i64 peer, .int .u64 (conn : Int), .int .u64 (inc : Int), .int .u64 (known : Int), .bool up, .int .u64 (heard : Int), .int .u64 (sent : Int)]) (BoxT (.slice BA box.length bc) box))) (fun _ _ => True) [xP_ g 0, xV_ (.bool true), xV_ (.bool false), xV_ (.bool false), xV_ (.agg #[.int .i64 kk, .int .i64 ffr, .int .i64 fto, .int .u64 (finc : Int), .int .u64 (fconn : Int), .int .u64 (pinc : Int), .int .u64 (pconn : Int), .int .u64 (ack : Int), .int .u64 (seq : Int), .slice A body.length c]), xV_ (.bool true), xV_ (.bool false), xV_ (.bool false), xV_ (.bool false), xP_ (w.heap.size + 1 + 1) 1, xV_ (.int .i64 ffr), xP_ g 0, xP_ g 0, xP_ g 5, xV_ (.int .i64 peer), xV_ (.bool true), xV_ (.bool true), xV_ (.bool true), xV_ undef, xV_ undef, xV_ undef, xV_ undef, xV_ undef, xV_ undef, xV_ undef, xV_ undef, xV_ (.bool true)] (fun xv => by simpa using HS0.out.drew) ?_ ?_
    ·refine Epk 1 3 w.heap.size 0 (fun _ _ _ e => cA (i := 6) e rfl 0 rfl) ?_
     refine EC 2 rfl (fun j k W F a b c d f H K h => ?_) ?_
     ·have f16 := gE (a 16) (by kernel_rfl) (H 0) (by kernel_rfl); clear H c b d a; refine oP rfl ?_; go_simp; refine (made_yes W g sn HSN.out (cA (i := 7) f rfl 3 rfl)).mono ?_; rintro e W' ⟨rfl, hb⟩; exact h.out _ W' rfl trivial (by simpa [upB, upd] using f.grow hb)
     refine Ee 3 17 1 ?_
     refine Ee 4 18 2 ?_
     refine EC 5 rfl (fun g h W F a b c d e H K f => ?_) ?_
     ·have f5 : F.tmps.getD 5 undef = .pointer (some ⟨w.heap.size + 1 + 1, 0, none⟩) := (a 5).trans (by kernel_rfl); have f19 := gE (a 19) (by kernel_rfl) (H 3) (by kernel_rfl); have k9_0 := cA (i := 9) e rfl 0 rfl; have k9_1 := cA (i := 9) e rfl 1 rfl; have k9_2 := cA (i := 9) e rfl 2 rfl; have k9_3 := cA (i := 9) e rfl 3 rfl; have k9_4 := cA (i := 9) e rfl 4 rfl; have k9_5 := cA (i := 9) e rfl 5 rfl; have k9_6 := cA (i := 9) e rfl 6 rfl; have k9_7 := cA (i := 9) e rfl 7 rfl; have k9_8 := cA (i := 9) e rfl 8 rfl; have k9_9 := cA (i := 9) e rfl 9 rfl; clear H c b d a; refine oG rfl (by kernel_rfl) f19 ?_; go_simp; exact f.out _ _ rfl trivial e
     refine EC 6 rfl (fun i j W F a b d f g H K h => ?_) ?_
     ·have f20 := gE (a 20) (by kernel_rfl) (H 4) (by kernel_rfl); have f19 := gE (a 19) (by kernel_rfl) (H 3) (by kernel_rfl); clear H d b f a; refine oG rfl (by kernel_rfl) f19 ?_; go_simp; refine (mayFk (w := W) (c := c) (A := A) HM.out HBL.out).mono ?_; rintro e W' ⟨rfl, hb⟩; exact h.out _ W' rfl trivial (by simpa [upB, upd] using g.grow hb)
     refine Eeeg 7 21 5 19 3 ?_
     refine Eee 8 19 3 22 6 ?_
     refine Ee 9 23 7 ?_
     refine Epeg 10 5 (w.heap.size + 1 + 1) 0 24 8 ?_
     refine Eeegk 11 25 9 24 8 (fun _ _ _ e => cA (i := 9) e rfl 1 rfl) ?_
     refine Epegk 12 3 w.heap.size 0 24 8 (fun _ _ _ e => cA (i := 6) e rfl 0 rfl) ?_
     refine Eeeg 13 27 11 24 8 ?_
     refine Eeeg 14 28 12 24 8 ?_
     refine Eeegk 15 29 13 24 8 (fun _ _ _ e => cA (i := 7) e rfl 5 rfl) ?_
     refine Eeeeg 16 26 10 30 14 24 8 ?_
     refine Eee 17 24 8 31 15 ?_
     refine Ee 18 32 16 ?_
     refine Eo 19 33 17 ?_
     refine EC 20 rfl (fun g h W F a b c d e H K f => ?_) ?_
     ·have f33 := gE (a 33) (by kernel_rfl) (H 17) (by kernel_rfl); have k9_2 := cA (i := 9) e rfl 2 rfl; clear H c b d a; refine off_guard rfl (by kernel_rfl) f33 (by decide) ?_; exact f.out _ _ rfl trivial e
     refine EC 21 rfl (fun g h W F a b c d e H K f => ?_) ?_
     ·have f33 := gE (a 33) (by kernel_rfl) (H 17) (by kernel_rfl); have k6_0 := cA (i := 6) e rfl 0 rfl; clear H c b d a; refine off_guard rfl (by kernel_rfl) f33 (by decide) ?_; exact f.out _ _ rfl trivial e
     refine Eo 22 33 17 ?_
     refine Eo 23 33 17 ?_
     refine Eo 24 33 17 ?_
     refine EC 25 rfl (fun g h W F a b c d e H K f => ?_) ?_
     ·have f33 := gE (a 33) (by kernel_rfl) (H 17) (by kernel_rfl); have k7_3 := cA (i := 7) e rfl 3 rfl; clear H c b d a; refine off_guard rfl (by kernel_rfl) f33 (by decide) ?_; exact f.out _ _ rfl trivial e
     refine Eo 26 33 17 ?_
     refine Eee 27 33 17 41 25 ?_
     exact EN
    ·intro dn xv W hI H; have q26 : xv 26 = .bool true := (H 26 (of_decide_eq_true (by kernel_rfl))).2; have hS : Sep w0 W (TKaF w now g X Qs kk ffr fto finc fconn pinc pconn ack seq A body.length c (Rw 51 10 (.slice none 0 0) 0 []) (Bods []) (Rw 49 4 (.slice none 0 0) 0 []) (Bods []) (#[.slice none 0 0, .slice none 0 0]) (#[.int .u64 (base : Int), .slice BA box.length bc, .int .u64 (got : Int), .int .i64 sn, .int .u64 (si : Int), .int .i64 peer, .int .u64 (conn : Int), .int .u64 (inc : Int), .int .u64 (known : Int), .bool up, .int .u64 (heard : Int), .int .u64 (sent : Int)]) (BoxT (.slice BA box.length bc) box)) := hI; clear H hI; simp only [putAll, Act.put, List.setIfInBounds_toArray, List.set_cons_zero, List.set_cons_succ, Nat.reduceAdd, q26]; clear q26
     go_wp2_with fail
     go_meet
     case rel => exact ⟨by rw [← Hp1.out, HM.out, decide_eq_false Hf.out]; rfl, hS⟩
  ·simp only [Bool.not_eq_true] at hm; have HM := Lib.hid hm; clear hm
   go_wp2_with fail
   refine wRG (fun dn xv W => Sep w0 W (TKaF w now g X Qs kk ffr fto finc fconn pinc pconn ack seq A body.length c (Rw 51 10 (.slice none 0 0) 0 []) (Bods []) (Rw 49 4 (.slice none 0 0) 0 []) (Bods []) (#[.slice none 0 0, .slice none 0 0]) (#[.int .u64 (base : Int), .slice BA box.length bc, .int .u64 (got : Int), .int .i64 sn, .int .u64 (si : Int), .int .i64 peer, .int .u64 (conn : Int), .int .u64 (inc : Int), .int .u64 (known : Int), .bool up, .int .u64 (heard : Int), .int .u64 (sent : Int)]) (BoxT (.slice BA box.length bc) box))) (fun _ _ => True) [xP_ g 0, xV_ (.bool true), xV_ (.bool false), xV_ (.bool false), xV_ (.agg #[.int .i64 kk, .int .i64 ffr, .int .i64 fto, .int .u64 (finc : Int), .int .u64 (fconn : Int), .int .u64 (pinc : Int), .int .u64 (pconn : Int), .int .u64 (ack : Int), .int .u64 (seq : Int), .slice A body.length c]), xV_ (.bool false), xV_ (.bool true), xV_ (.bool true), xV_ (.bool true), xV_ undef, xV_ undef, xV_ undef, xV_ undef, xV_ undef, xV_ undef, xV_ undef, xV_ (.bool true), xV_ (.bool true), xV_ undef, xV_ undef, xV_ undef, xV_ undef, xV_ undef, xV_ undef, xV_ undef, xV_ undef, xV_ (.bool true)] (fun xv => by simpa using HS0.out.drew) ?_ ?_
   ·refine Epk 1 3 w.heap.size 0 (fun _ _ _ e => cA (i := 6) e rfl 0 rfl) ?_
    refine EC 2 rfl (fun j k W F a b c d f H K h => ?_) ?_
    ·have f16 := gE (a 16) (by kernel_rfl) (H 0) (by kernel_rfl); clear H c b d a; refine oP rfl ?_; go_simp; refine (made_yes W g sn HSN.out (cA (i := 7) f rfl 3 rfl)).mono ?_; rintro e W' ⟨rfl, hb⟩; exact h.out _ W' rfl trivial (by simpa [upB, upd] using f.grow hb)
    refine Ee 3 17 1 ?_
    refine Ee 4 18 2 ?_
    refine EC 5 rfl (fun g h W F a b c d e H K f => ?_) ?_
    ·have f5 : F.tmps.getD 5 undef = .pointer (some ⟨w.heap.size + 1 + 1, 0, none⟩) := (a 5).trans (by kernel_rfl); have f19 := gE (a 19) (by kernel_rfl) (H 3) (by kernel_rfl); have k9_0 := cA (i := 9) e rfl 0 rfl; have k9_1 := cA (i := 9) e rfl 1 rfl; have k9_2 := cA (i := 9) e rfl 2 rfl; have k9_3 := cA (i := 9) e rfl 3 rfl; have k9_4 := cA (i := 9) e rfl 4 rfl; have k9_5 := cA (i := 9) e rfl 5 rfl; have k9_6 := cA (i := 9) e rfl 6 rfl; have k9_7 := cA (i := 9) e rfl 7 rfl; have k9_8 := cA (i := 9) e rfl 8 rfl; have k9_9 := cA (i := 9) e rfl 9 rfl; clear H c b d a; refine oG rfl (by kernel_rfl) f19 ?_; go_simp; exact f.out _ _ rfl trivial e
    refine EC 6 rfl (fun i j W F a b d f g H K h => ?_) ?_
    ·have f20 := gE (a 20) (by kernel_rfl) (H 4) (by kernel_rfl); have f19 := gE (a 19) (by kernel_rfl) (H 3) (by kernel_rfl); clear H d b f a; refine oG rfl (by kernel_rfl) f19 ?_; go_simp; refine (mayFk (w := W) (c := c) (A := A) HM.out HBL.out).mono ?_; rintro e W' ⟨rfl, hb⟩; exact h.out _ W' rfl trivial (by simpa [upB, upd] using g.grow hb)
    refine Eeeg 7 21 5 19 3 ?_
    refine Eee 8 19 3 22 6 ?_
    refine Ee 9 23 7 ?_
    refine Eo 10 24 8 ?_
    refine EC 11 rfl (fun g h W F a b c d e H K f => ?_) ?_
    ·have f24 := gE (a 24) (by kernel_rfl) (H 8) (by kernel_rfl); have k9_1 := cA (i := 9) e rfl 1 rfl; clear H c b d a; refine off_guard rfl (by kernel_rfl) f24 (by decide) ?_; exact f.out _ _ rfl trivial e
    refine EC 12 rfl (fun g h W F a b c d e H K f => ?_) ?_
    ·have f24 := gE (a 24) (by kernel_rfl) (H 8) (by kernel_rfl); have k6_0 := cA (i := 6) e rfl 0 rfl; clear H c b d a; refine off_guard rfl (by kernel_rfl) f24 (by decide) ?_; exact f.out _ _ rfl trivial e
    refine Eo 13 24 8 ?_
    refine Eo 14 24 8 ?_
    refine EC 15 rfl (fun g h W F a b c d e H K f => ?_) ?_
    ·have f24 := gE (a 24) (by kernel_rfl) (H 8) (by kernel_rfl); have k7_5 := cA (i := 7) e rfl 5 rfl; clear H c b d a; refine off_guard rfl (by kernel_rfl) f24 (by decide) ?_; exact f.out _ _ rfl trivial e
    refine Eo 16 24 8 ?_
    refine Eee 17 24 8 31 15 ?_
    refine Ee 18 32 16 ?_
    refine Eo 19 33 17 ?_
    refine EC 20 rfl (fun g h W F a b c d e H K f => ?_) ?_
    ·have f33 := gE (a 33) (by kernel_rfl) (H 17) (by kernel_rfl); have k9_2 := cA (i := 9) e rfl 2 rfl; clear H c b d a; refine off_guard rfl (by kernel_rfl) f33 (by decide) ?_; exact f.out _ _ rfl trivial e
    refine EC 21 rfl (fun g h W F a b c d e H K f => ?_) ?_
    ·have f33 := gE (a 33) (by kernel_rfl) (H 17) (by kernel_rfl); have k6_0 := cA (i := 6) e rfl 0 rfl; clear H c b d a; refine off_guard rfl (by kernel_rfl) f33 (by decide) ?_; exact f.out _ _ rfl trivial e
    refine Eo 22 33 17 ?_
    refine Eo 23 33 17 ?_
    refine Eo 24 33 17 ?_
    refine EC 25 rfl (fun g h W F a b c d e H K f => ?_) ?_
    ·have f33 := gE (a 33) (by kernel_rfl) (H 17) (by kernel_rfl); have k7_3 := cA (i := 7) e rfl 3 rfl; clear H c b d a; refine off_guard rfl (by kernel_rfl) f33 (by decide) ?_; exact f.out _ _ rfl trivial e
    refine Eo 26 33 17 ?_
    refine Eee 27 33 17 41 25 ?_
    exact EN
   ·intro dn xv W hI H; have q26 : xv 26 = .bool true := (H 26 (of_decide_eq_true (by kernel_rfl))).2; have hS : Sep w0 W (TKaF w now g X Qs kk ffr fto finc fconn pinc pconn ack seq A body.length c (Rw 51 10 (.slice none 0 0) 0 []) (Bods []) (Rw 49 4 (.slice none 0 0) 0 []) (Bods []) (#[.slice none 0 0, .slice none 0 0]) (#[.int .u64 (base : Int), .slice BA box.length bc, .int .u64 (got : Int), .int .i64 sn, .int .u64 (si : Int), .int .i64 peer, .int .u64 (conn : Int), .int .u64 (inc : Int), .int .u64 (known : Int), .bool up, .int .u64 (heard : Int), .int .u64 (sent : Int)]) (BoxT (.slice BA box.length bc) box)) := hI; clear H hI; simp only [putAll, Act.put, List.setIfInBounds_toArray, List.set_cons_zero, List.set_cons_succ, Nat.reduceAdd, q26]; clear q26
    go_wp2_with fail
    go_meet
    case rel => exact ⟨by rw [← Hp1.out, HM.out]; rfl, hS⟩
 case rest =>
  obtain ⟨rfl, hS⟩ := hcut; clear HS0; have HS2 := Lib.hid hS; clear hS; cases p1 with
  | true =>
   have HLK : Hid (sS.looks fF = false) := Lib.hid (by rw [HLOOK.out]; rfl); have k0 := cA (i := 4) HS2.out rfl 0 rfl; have k1 := cA (i := 4) HS2.out rfl 1 rfl; have y0 := cFz (i := 5) HS2.out rfl 0; have y1 := cFz (i := 5) HS2.out rfl 1; have z0 := cA (i := 5) HS2.out rfl 0 rfl; have z1 := cA (i := 5) HS2.out rfl 1 rfl; have HSZ := Lib.hid (cS (i := 5) (cS (i := 5) HS2.out rfl 0 (.slice none 0 0)) rfl 1 (.slice none 0 0))
   go_wp2_with fail
   have k0 := cA (i := 5) HSZ.out rfl 0 rfl; have k1 := cA (i := 5) HSZ.out rfl 1 rfl; refine ⟨.agg #[.slice none 0 0, .slice none 0 0], by simp [results, Try.results15, go_sem, k0, k1], ?_⟩; refine ⟨_, _, .slice BA box.length bc, [], [], rfl, ?_, ?_, ?_⟩
   ·rw [LS.takeF, if_neg (by rw [HLK.out]; simp)]; rfl
   ·rw [LS.takeE, if_neg (by rw [HLK.out]; simp)]; rfl
   ·have hx := ((((HSZ.out.drop 4).drop 4).drop 4).drop 6).drop 6; rw [LS.take, if_neg (by rw [HLK.out]; simp), ← HSS.out]; exact hx
  | false =>
   have hm2 : mayB kk ffr fto finc fconn pinc pconn ack seq body.length = true ∧ ffr = peer ∧ fto = sn := by
    have h := Hp1.out; simp only [Bool.not_eq_false', Bool.and_eq_true, decide_eq_true_eq] at h; exact ⟨h.1.1, h.1.2, h.2⟩
   have hb448 : body.length ≤ 448 := mayB_len hm2.1; clear hm2
   go_upto_region 4 with fail
   go_cut [68] from 44 to 68 (fun t wx => t = .bool p2 ∧ Sep w0 wx (TKaF w now g X Qs kk ffr fto finc fconn pinc pconn ack seq A body.length c (Rw 51 10 (.slice none 0 0) 0 []) (Bods []) (Rw 49 4 (.slice none 0 0) 0 []) (Bods []) (#[.slice none 0 0, .slice none 0 0]) (#[.int .u64 (base : Int), .slice BA box.length bc, .int .u64 (got : Int), .int .i64 sn, .int .u64 (si : Int), .int .i64 peer, .int .u64 (conn : Int), .int .u64 (inc : Int), .int .u64 (known : Int), .bool up, .int .u64 (heard : Int), .int .u64 (sent : Int)]) (BoxT (.slice BA box.length bc) box)))
   case first =>
    by_cases h1 : finc < inc
    ·have e1 : decide (finc < inc) = true := decide_eq_true h1; have H1 := Lib.hid h1; clear h1
     go_wp2_with fail
     refine wRG (fun dn xv W => Sep w0 W (TKaF w now g X Qs kk ffr fto finc fconn pinc pconn ack seq A body.length c (Rw 51 10 (.slice none 0 0) 0 []) (Bods []) (Rw 49 4 (.slice none 0 0) 0 []) (Bods []) (#[.slice none 0 0, .slice none 0 0]) (#[.int .u64 (base : Int), .slice BA box.length bc, .int .u64 (got : Int), .int .i64 sn, .int .u64 (si : Int), .int .i64 peer, .int .u64 (conn : Int), .int .u64 (inc : Int), .int .u64 (known : Int), .bool up, .int .u64 (heard : Int), .int .u64 (sent : Int)]) (BoxT (.slice BA box.length bc) box))) (fun _ _ => True) [xP_ (w.heap.size + 1 + 1) 3, xV_ (.int .u64 (finc : Int)), xP_ g 0, xP_ g 0, xP_ g 7, xV_ (.int .u64 (inc : Int)), xV_ (.bool true), xV_ (.bool true), xV_ undef, xV_ undef, xV_ undef, xV_ undef, xV_ undef, xV_ undef, xV_ undef, xV_ undef, xV_ undef, xV_ undef, xV_ undef, xV_ undef, xV_ undef, xV_ undef, xV_ undef, xV_ undef, xV_ (.bool true)] (fun xv => by simpa using HS2.out.drew) ?_ ?_
     ·refine Ep 1 5 (w.heap.size + 1 + 1) 0 ?_
      refine Eek 2 44 0 (fun _ _ _ e => cA (i := 9) e rfl 3 rfl) ?_
      refine Epk 3 3 w.heap.size 0 (fun _ _ _ e => cA (i := 6) e rfl 0 rfl) ?_
      refine Ee 4 46 2 ?_
      refine Ee 5 47 3 ?_
      refine Eek 6 48 4 (fun _ _ _ e => cA (i := 7) e rfl 7 rfl) ?_
      refine Eee 7 45 1 49 5 ?_
      refine Ee 8 50 6 ?_
      refine Eo 9 51 7 ?_
      refine EC 10 rfl (fun g h W F a b c d e H K f => ?_) ?_
      ·have f51 := gE (a 51) (by kernel_rfl) (H 7) (by kernel_rfl); have k9_3 := cA (i := 9) e rfl 3 rfl; clear H c b d a; refine off_guard rfl (by kernel_rfl) f51 (by decide) ?_; exact f.out _ _ rfl trivial e
      refine EC 11 rfl (fun g h W F a b c d e H K f => ?_) ?_
      ·have f51 := gE (a 51) (by kernel_rfl) (H 7) (by kernel_rfl); have k6_0 := cA (i := 6) e rfl 0 rfl; clear H c b d a; refine off_guard rfl (by kernel_rfl) f51 (by decide) ?_; exact f.out _ _ rfl trivial e
      refine Eo 12 51 7 ?_
      refine Eo 13 51 7 ?_
      refine EC 14 rfl (fun g h W F a b c d e H K f => ?_) ?_
      ·have f51 := gE (a 51) (by kernel_rfl) (H 7) (by kernel_rfl); have k7_7 := cA (i := 7) e rfl 7 rfl; clear H c b d a; refine off_guard rfl (by kernel_rfl) f51 (by decide) ?_; exact f.out _ _ rfl trivial e
      refine Eo 15 51 7 ?_
      refine Eo 16 51 7 ?_
      refine EC 17 rfl (fun g h W F a b c d e H K f => ?_) ?_
      ·have f59 := gE (a 59) (by kernel_rfl) (H 15) (by kernel_rfl); clear H c b d a; refine off_undef rfl (by kernel_rfl) f59 ?_; exact f.out _ _ rfl trivial e
      refine EC 18 rfl (fun g h W F a b c d e H K f => ?_) ?_
      ·have f59 := gE (a 59) (by kernel_rfl) (H 15) (by kernel_rfl); have k9_4 := cA (i := 9) e rfl 4 rfl; clear H c b d a; refine off_undef rfl (by kernel_rfl) f59 ?_; exact f.out _ _ rfl trivial e
      refine EC 19 rfl (fun g h W F a b c d e H K f => ?_) ?_
      ·have f59 := gE (a 59) (by kernel_rfl) (H 15) (by kernel_rfl); have k6_0 := cA (i := 6) e rfl 0 rfl; clear H c b d a; refine off_undef rfl (by kernel_rfl) f59 ?_; exact f.out _ _ rfl trivial e
      refine EC 20 rfl (fun g h W F a b c d e H K f => ?_) ?_
      ·have f59 := gE (a 59) (by kernel_rfl) (H 15) (by kernel_rfl); clear H c b d a; refine off_undef rfl (by kernel_rfl) f59 ?_; exact f.out _ _ rfl trivial e
      refine EC 21 rfl (fun g h W F a b c d e H K f => ?_) ?_
      ·have f59 := gE (a 59) (by kernel_rfl) (H 15) (by kernel_rfl); clear H c b d a; refine off_undef rfl (by kernel_rfl) f59 ?_; exact f.out _ _ rfl trivial e
      refine EC 22 rfl (fun g h W F a b c d e H K f => ?_) ?_
      ·have f59 := gE (a 59) (by kernel_rfl) (H 15) (by kernel_rfl); have k7_8 := cA (i := 7) e rfl 8 rfl; clear H c b d a; refine off_undef rfl (by kernel_rfl) f59 ?_; exact f.out _ _ rfl trivial e
      refine EC 23 rfl (fun g h W F a b c d e H K f => ?_) ?_
      ·have f59 := gE (a 59) (by kernel_rfl) (H 15) (by kernel_rfl); clear H c b d a; refine off_undef rfl (by kernel_rfl) f59 ?_; exact f.out _ _ rfl trivial e
      refine Eo 24 51 7 ?_
      refine Eee 25 51 7 67 23 ?_
      exact EN
     ·intro dn xv W hI H; have q24 : xv 24 = .bool true := (H 24 (of_decide_eq_true (by kernel_rfl))).2; have hS : Sep w0 W (TKaF w now g X Qs kk ffr fto finc fconn pinc pconn ack seq A body.length c (Rw 51 10 (.slice none 0 0) 0 []) (Bods []) (Rw 49 4 (.slice none 0 0) 0 []) (Bods []) (#[.slice none 0 0, .slice none 0 0]) (#[.int .u64 (base : Int), .slice BA box.length bc, .int .u64 (got : Int), .int .i64 sn, .int .u64 (si : Int), .int .i64 peer, .int .u64 (conn : Int), .int .u64 (inc : Int), .int .u64 (known : Int), .bool up, .int .u64 (heard : Int), .int .u64 (sent : Int)]) (BoxT (.slice BA box.length bc) box)) := hI; clear H hI; simp only [putAll, Act.put, List.setIfInBounds_toArray, List.set_cons_zero, List.set_cons_succ, Nat.reduceAdd, q24]; clear q24
      go_wp2_with fail
      go_meet
      case rel => exact ⟨by rw [← Hp2.out, decide_eq_true H1.out]; rfl, hS⟩
    ·have e1 : decide (finc < inc) = false := decide_eq_false h1; have H1 := Lib.hid h1
     by_cases h2 : finc = inc
     ·have e2 : ((finc : Int) == (inc : Int)) = true := by simp [h2]
      have H2 := Lib.hid h2; clear h1 h2
      by_cases h3 : fconn < known
      ·have e3 : decide (fconn < known) = true := decide_eq_true h3; have H3 := Lib.hid h3; clear h3
       go_wp2_with fail
       refine wRG (fun dn xv W => Sep w0 W (TKaF w now g X Qs kk ffr fto finc fconn pinc pconn ack seq A body.length c (Rw 51 10 (.slice none 0 0) 0 []) (Bods []) (Rw 49 4 (.slice none 0 0) 0 []) (Bods []) (#[.slice none 0 0, .slice none 0 0]) (#[.int .u64 (base : Int), .slice BA box.length bc, .int .u64 (got : Int), .int .i64 sn, .int .u64 (si : Int), .int .i64 peer, .int .u64 (conn : Int), .int .u64 (inc : Int), .int .u64 (known : Int), .bool up, .int .u64 (heard : Int), .int .u64 (sent : Int)]) (BoxT (.slice BA box.length bc) box))) (fun _ _ => True) [xP_ (w.heap.size + 1 + 1) 3, xV_ (.int .u64 (finc : Int)), xP_ g 0, xP_ g 0, xP_ g 7, xV_ (.int .u64 (inc : Int)), xV_ (.bool false), xV_ (.bool false), xP_ (w.heap.size + 1 + 1) 3, xV_ (.int .u64 (finc : Int)), xP_ g 0, xP_ g 0, xP_ g 7, xV_ (.int .u64 (inc : Int)), xV_ (.bool true), xV_ (.bool true), xP_ (w.heap.size + 1 + 1) 4, xV_ (.int .u64 (fconn : Int)), xP_ g 0, xP_ g 0, xP_ g 8, xV_ (.int .u64 (known : Int)), xV_ (.bool true), xV_ (.bool true), xV_ (.bool true)] (fun xv => by simpa using HS2.out.drew) ?_ ?_
       ·refine Ep 1 5 (w.heap.size + 1 + 1) 0 ?_
        refine Eek 2 44 0 (fun _ _ _ e => cA (i := 9) e rfl 3 rfl) ?_
        refine Epk 3 3 w.heap.size 0 (fun _ _ _ e => cA (i := 6) e rfl 0 rfl) ?_
        refine Ee 4 46 2 ?_
        refine Ee 5 47 3 ?_
        refine Eek 6 48 4 (fun _ _ _ e => cA (i := 7) e rfl 7 rfl) ?_
        refine Eee 7 45 1 49 5 ?_
        refine Ee 8 50 6 ?_
        refine Epeg 9 5 (w.heap.size + 1 + 1) 0 51 7 ?_
        refine Eeegk 10 52 8 51 7 (fun _ _ _ e => cA (i := 9) e rfl 3 rfl) ?_
        refine Epegk 11 3 w.heap.size 0 51 7 (fun _ _ _ e => cA (i := 6) e rfl 0 rfl) ?_
        refine Eeeg 12 54 10 51 7 ?_
        refine Eeeg 13 55 11 51 7 ?_
        refine Eeegk 14 56 12 51 7 (fun _ _ _ e => cA (i := 7) e rfl 7 rfl) ?_
        refine Eeeeg 15 53 9 57 13 51 7 ?_
        refine Eeeg 16 58 14 51 7 ?_
        refine Epeg 17 5 (w.heap.size + 1 + 1) 0 59 15 ?_
        refine Eeegk 18 60 16 59 15 (fun _ _ _ e => cA (i := 9) e rfl 4 rfl) ?_
        refine Epegk 19 3 w.heap.size 0 59 15 (fun _ _ _ e => cA (i := 6) e rfl 0 rfl) ?_
        refine Eeeg 20 62 18 59 15 ?_
        refine Eeeg 21 63 19 59 15 ?_
        refine Eeegk 22 64 20 59 15 (fun _ _ _ e => cA (i := 7) e rfl 8 rfl) ?_
        refine Eeeeg 23 61 17 65 21 59 15 ?_
        refine Eeeeg 24 59 15 66 22 51 7 ?_
        refine Eee 25 51 7 67 23 ?_
        exact EN
       ·intro dn xv W hI H; have q24 : xv 24 = .bool true := (H 24 (of_decide_eq_true (by kernel_rfl))).2; have hS : Sep w0 W (TKaF w now g X Qs kk ffr fto finc fconn pinc pconn ack seq A body.length c (Rw 51 10 (.slice none 0 0) 0 []) (Bods []) (Rw 49 4 (.slice none 0 0) 0 []) (Bods []) (#[.slice none 0 0, .slice none 0 0]) (#[.int .u64 (base : Int), .slice BA box.length bc, .int .u64 (got : Int), .int .i64 sn, .int .u64 (si : Int), .int .i64 peer, .int .u64 (conn : Int), .int .u64 (inc : Int), .int .u64 (known : Int), .bool up, .int .u64 (heard : Int), .int .u64 (sent : Int)]) (BoxT (.slice BA box.length bc) box)) := hI; clear H hI; simp only [putAll, Act.put, List.setIfInBounds_toArray, List.set_cons_zero, List.set_cons_succ, Nat.reduceAdd, q24]; clear q24
        go_wp2_with fail
        go_meet
        case rel => exact ⟨by rw [← Hp2.out, decide_eq_true H3.out, decide_eq_true H2.out]; simp, hS⟩
      ·have e3 : decide (fconn < known) = false := decide_eq_false h3; have H3 := Lib.hid h3; clear h3
       go_wp2_with fail
       refine wRG (fun dn xv W => Sep w0 W (TKaF w now g X Qs kk ffr fto finc fconn pinc pconn ack seq A body.length c (Rw 51 10 (.slice none 0 0) 0 []) (Bods []) (Rw 49 4 (.slice none 0 0) 0 []) (Bods []) (#[.slice none 0 0, .slice none 0 0]) (#[.int .u64 (base : Int), .slice BA box.length bc, .int .u64 (got : Int), .int .i64 sn, .int .u64 (si : Int), .int .i64 peer, .int .u64 (conn : Int), .int .u64 (inc : Int), .int .u64 (known : Int), .bool up, .int .u64 (heard : Int), .int .u64 (sent : Int)]) (BoxT (.slice BA box.length bc) box))) (fun _ _ => True) [xP_ (w.heap.size + 1 + 1) 3, xV_ (.int .u64 (finc : Int)), xP_ g 0, xP_ g 0, xP_ g 7, xV_ (.int .u64 (inc : Int)), xV_ (.bool false), xV_ (.bool false), xP_ (w.heap.size + 1 + 1) 3, xV_ (.int .u64 (finc : Int)), xP_ g 0, xP_ g 0, xP_ g 7, xV_ (.int .u64 (inc : Int)), xV_ (.bool true), xV_ (.bool true), xP_ (w.heap.size + 1 + 1) 4, xV_ (.int .u64 (fconn : Int)), xP_ g 0, xP_ g 0, xP_ g 8, xV_ (.int .u64 (known : Int)), xV_ (.bool false), xV_ (.bool false), xV_ (.bool false)] (fun xv => by simpa using HS2.out.drew) ?_ ?_
       ·refine Ep 1 5 (w.heap.size + 1 + 1) 0 ?_
        refine Eek 2 44 0 (fun _ _ _ e => cA (i := 9) e rfl 3 rfl) ?_
        refine Epk 3 3 w.heap.size 0 (fun _ _ _ e => cA (i := 6) e rfl 0 rfl) ?_
        refine Ee 4 46 2 ?_
        refine Ee 5 47 3 ?_
        refine Eek 6 48 4 (fun _ _ _ e => cA (i := 7) e rfl 7 rfl) ?_
        refine Eee 7 45 1 49 5 ?_
        refine Ee 8 50 6 ?_
        refine Epeg 9 5 (w.heap.size + 1 + 1) 0 51 7 ?_
        refine Eeegk 10 52 8 51 7 (fun _ _ _ e => cA (i := 9) e rfl 3 rfl) ?_
        refine Epegk 11 3 w.heap.size 0 51 7 (fun _ _ _ e => cA (i := 6) e rfl 0 rfl) ?_
        refine Eeeg 12 54 10 51 7 ?_
        refine Eeeg 13 55 11 51 7 ?_
        refine Eeegk 14 56 12 51 7 (fun _ _ _ e => cA (i := 7) e rfl 7 rfl) ?_
        refine Eeeeg 15 53 9 57 13 51 7 ?_
        refine Eeeg 16 58 14 51 7 ?_
        refine Epeg 17 5 (w.heap.size + 1 + 1) 0 59 15 ?_
        refine Eeegk 18 60 16 59 15 (fun _ _ _ e => cA (i := 9) e rfl 4 rfl) ?_
        refine Epegk 19 3 w.heap.size 0 59 15 (fun _ _ _ e => cA (i := 6) e rfl 0 rfl) ?_
        refine Eeeg 20 62 18 59 15 ?_
        refine Eeeg 21 63 19 59 15 ?_
        refine Eeegk 22 64 20 59 15 (fun _ _ _ e => cA (i := 7) e rfl 8 rfl) ?_
        refine Eeeeg 23 61 17 65 21 59 15 ?_
        refine Eeeeg 24 59 15 66 22 51 7 ?_
        refine Eee 25 51 7 67 23 ?_
        exact EN
       ·intro dn xv W hI H; have q24 : xv 24 = .bool false := (H 24 (of_decide_eq_true (by kernel_rfl))).2; have hS : Sep w0 W (TKaF w now g X Qs kk ffr fto finc fconn pinc pconn ack seq A body.length c (Rw 51 10 (.slice none 0 0) 0 []) (Bods []) (Rw 49 4 (.slice none 0 0) 0 []) (Bods []) (#[.slice none 0 0, .slice none 0 0]) (#[.int .u64 (base : Int), .slice BA box.length bc, .int .u64 (got : Int), .int .i64 sn, .int .u64 (si : Int), .int .i64 peer, .int .u64 (conn : Int), .int .u64 (inc : Int), .int .u64 (known : Int), .bool up, .int .u64 (heard : Int), .int .u64 (sent : Int)]) (BoxT (.slice BA box.length bc) box)) := hI; clear H hI; simp only [putAll, Act.put, List.setIfInBounds_toArray, List.set_cons_zero, List.set_cons_succ, Nat.reduceAdd, q24]; clear q24
        go_wp2_with fail
        go_meet
        case rel => exact ⟨by rw [← Hp2.out, decide_eq_false H3.out, decide_eq_false H1.out]; simp, hS⟩
     ·have e2 : ((finc : Int) == (inc : Int)) = false := beq_eq_false_iff_ne.2 (by omega); have H2 := Lib.hid h2; clear h1 h2
      go_wp2_with fail
      refine wRG (fun dn xv W => Sep w0 W (TKaF w now g X Qs kk ffr fto finc fconn pinc pconn ack seq A body.length c (Rw 51 10 (.slice none 0 0) 0 []) (Bods []) (Rw 49 4 (.slice none 0 0) 0 []) (Bods []) (#[.slice none 0 0, .slice none 0 0]) (#[.int .u64 (base : Int), .slice BA box.length bc, .int .u64 (got : Int), .int .i64 sn, .int .u64 (si : Int), .int .i64 peer, .int .u64 (conn : Int), .int .u64 (inc : Int), .int .u64 (known : Int), .bool up, .int .u64 (heard : Int), .int .u64 (sent : Int)]) (BoxT (.slice BA box.length bc) box))) (fun _ _ => True) [xP_ (w.heap.size + 1 + 1) 3, xV_ (.int .u64 (finc : Int)), xP_ g 0, xP_ g 0, xP_ g 7, xV_ (.int .u64 (inc : Int)), xV_ (.bool false), xV_ (.bool false), xP_ (w.heap.size + 1 + 1) 3, xV_ (.int .u64 (finc : Int)), xP_ g 0, xP_ g 0, xP_ g 7, xV_ (.int .u64 (inc : Int)), xV_ (.bool false), xV_ (.bool false), xV_ undef, xV_ undef, xV_ undef, xV_ undef, xV_ undef, xV_ undef, xV_ undef, xV_ (.bool false), xV_ (.bool false)] (fun xv => by simpa using HS2.out.drew) ?_ ?_
      ·refine Ep 1 5 (w.heap.size + 1 + 1) 0 ?_
       refine Eek 2 44 0 (fun _ _ _ e => cA (i := 9) e rfl 3 rfl) ?_
       refine Epk 3 3 w.heap.size 0 (fun _ _ _ e => cA (i := 6) e rfl 0 rfl) ?_
       refine Ee 4 46 2 ?_
       refine Ee 5 47 3 ?_
       refine Eek 6 48 4 (fun _ _ _ e => cA (i := 7) e rfl 7 rfl) ?_
       refine Eee 7 45 1 49 5 ?_
       refine Ee 8 50 6 ?_
       refine Epeg 9 5 (w.heap.size + 1 + 1) 0 51 7 ?_
       refine Eeegk 10 52 8 51 7 (fun _ _ _ e => cA (i := 9) e rfl 3 rfl) ?_
       refine Epegk 11 3 w.heap.size 0 51 7 (fun _ _ _ e => cA (i := 6) e rfl 0 rfl) ?_
       refine Eeeg 12 54 10 51 7 ?_
       refine Eeeg 13 55 11 51 7 ?_
       refine Eeegk 14 56 12 51 7 (fun _ _ _ e => cA (i := 7) e rfl 7 rfl) ?_
       refine Eeeeg 15 53 9 57 13 51 7 ?_
       refine Eeeg 16 58 14 51 7 ?_
       refine Eo 17 59 15 ?_
       refine EC 18 rfl (fun g h W F a b c d e H K f => ?_) ?_
       ·have f59 := gE (a 59) (by kernel_rfl) (H 15) (by kernel_rfl); have k9_4 := cA (i := 9) e rfl 4 rfl; clear H c b d a; refine off_guard rfl (by kernel_rfl) f59 (by decide) ?_; exact f.out _ _ rfl trivial e
       refine EC 19 rfl (fun g h W F a b c d e H K f => ?_) ?_
       ·have f59 := gE (a 59) (by kernel_rfl) (H 15) (by kernel_rfl); have k6_0 := cA (i := 6) e rfl 0 rfl; clear H c b d a; refine off_guard rfl (by kernel_rfl) f59 (by decide) ?_; exact f.out _ _ rfl trivial e
       refine Eo 20 59 15 ?_
       refine Eo 21 59 15 ?_
       refine EC 22 rfl (fun g h W F a b c d e H K f => ?_) ?_
       ·have f59 := gE (a 59) (by kernel_rfl) (H 15) (by kernel_rfl); have k7_8 := cA (i := 7) e rfl 8 rfl; clear H c b d a; refine off_guard rfl (by kernel_rfl) f59 (by decide) ?_; exact f.out _ _ rfl trivial e
       refine Eo 23 59 15 ?_
       refine Eeeeg 24 59 15 66 22 51 7 ?_
       refine Eee 25 51 7 67 23 ?_
       exact EN
      ·intro dn xv W hI H; have q24 : xv 24 = .bool false := (H 24 (of_decide_eq_true (by kernel_rfl))).2; have hS : Sep w0 W (TKaF w now g X Qs kk ffr fto finc fconn pinc pconn ack seq A body.length c (Rw 51 10 (.slice none 0 0) 0 []) (Bods []) (Rw 49 4 (.slice none 0 0) 0 []) (Bods []) (#[.slice none 0 0, .slice none 0 0]) (#[.int .u64 (base : Int), .slice BA box.length bc, .int .u64 (got : Int), .int .i64 sn, .int .u64 (si : Int), .int .i64 peer, .int .u64 (conn : Int), .int .u64 (inc : Int), .int .u64 (known : Int), .bool up, .int .u64 (heard : Int), .int .u64 (sent : Int)]) (BoxT (.slice BA box.length bc) box)) := hI; clear H hI; simp only [putAll, Act.put, List.setIfInBounds_toArray, List.set_cons_zero, List.set_cons_succ, Nat.reduceAdd, q24]; clear q24
       go_wp2_with fail
       go_meet
       case rel => exact ⟨by rw [← Hp2.out, decide_eq_false H2.out, decide_eq_false H1.out]; rfl, hS⟩
   case rest =>
    obtain ⟨rfl, hS⟩ := hcut; clear HS2; have HS4 := Lib.hid hS; clear hS; cases p2 with
    | true =>
     have HLK : Hid (sS.looks fF = false) := Lib.hid (by rw [HLOOK.out]; rfl); have k0 := cA (i := 4) HS4.out rfl 0 rfl; have k1 := cA (i := 4) HS4.out rfl 1 rfl; have y0 := cFz (i := 5) HS4.out rfl 0; have y1 := cFz (i := 5) HS4.out rfl 1; have z0 := cA (i := 5) HS4.out rfl 0 rfl; have z1 := cA (i := 5) HS4.out rfl 1 rfl; have HSZ := Lib.hid (cS (i := 5) (cS (i := 5) HS4.out rfl 0 (.slice none 0 0)) rfl 1 (.slice none 0 0))
     go_wp2_with fail
     have k0 := cA (i := 5) HSZ.out rfl 0 rfl; have k1 := cA (i := 5) HSZ.out rfl 1 rfl; refine ⟨.agg #[.slice none 0 0, .slice none 0 0], by simp [results, Try.results15, go_sem, k0, k1], ?_⟩; refine ⟨_, _, .slice BA box.length bc, [], [], rfl, ?_, ?_, ?_⟩
     ·rw [LS.takeF, if_neg (by rw [HLK.out]; simp)]; rfl
     ·rw [LS.takeE, if_neg (by rw [HLK.out]; simp)]; rfl
     ·have hx := ((((HSZ.out.drop 4).drop 4).drop 4).drop 6).drop 6; rw [LS.take, if_neg (by rw [HLK.out]; simp), ← HSS.out]; exact hx
    | false =>
     have HLK : Hid (sS.looks fF = true) := Lib.hid (by rw [HLOOK.out]; rfl); exact absurd HLK.out (by rw [HLOOK2.out]; simp)
end Go.Proofs.Ytngegjboenfmeaa
/- Take of any link. -/
namespace Go.Proofs.Ytngegjboenfmeaa
open Go Go.RowKit Go.Shelf
set_option linter.unusedVariables false
set_option maxRecDepth 100000
set_option linter.unusedSimpArgs false
attribute [local go_sem] Oper.semAt_some

set_option maxHeartbeats 51200000 in
theorem takeBack {w0 w : World} {Qs : List SP} {X : SP} {g now : Nat} {s : LS} {f : Fr} {bx : Value} {A : Option Addr} {c : Nat} (h : Sep w0 w (Ce g 72 (s.cells bx) :: BoxT bx s.box :: X :: Qs)) (hX : Reads X A f.body) (hs : s.Num) (hbl : f.body.length ≤ maxLen) (hack : f.ack < 18446744073709551616) (hseq : f.seq < 18446744073709551616) (hnow : now < 18446744073709551616) (hlk : s.looks f = true) (hkn : (s.take1 now f).knows f = false) :
  Calls Try.prog 15 #[.pointer (some ⟨g, 0, none⟩), .int .u64 (now : Int), .agg (f.cells A c)] w (Ans w0 g (X :: Qs) (s.takeF now f) (s.takeE now f) (s.take now f)) := by
 obtain ⟨BA, bc, rfl, hcc, hcm, hbx⟩ := sep_boxForm (i := 1) h rfl hs.small; have HOK := Lib.hid hs; obtain ⟨sS, HSS⟩ : ∃ x, Hid (s = x) := ⟨_, Lib.hid rfl⟩; obtain ⟨fF, HFF⟩ : ∃ x, Hid (f = x) := ⟨_, Lib.hid rfl⟩; have HOS : Hid (sS.Num) := Lib.hid (by rw [← HSS.out]; exact HOK.out)
 suffices hgoal : Calls Try.prog 15 #[.pointer (some ⟨g, 0, none⟩), .int .u64 (now : Int), .agg (f.cells A c)] w (Ans w0 g (X :: Qs) (sS.takeF now fF) (sS.takeE now fF) (sS.take now fF)) by
  rw [HSS.out, HFF.out]; rw [HFF.out] at hgoal; exact hgoal
 obtain ⟨base, box, got, sn, si, peer, conn, inc, known, up, heard, sent⟩ := s; obtain ⟨kk, ffr, fto, finc, fconn, pinc, pconn, ack, seq, body⟩ := f; have hsn : sn ≠ 0 := hs.sn; have HSN := Lib.hid hsn; have HBL : Hid (body.length ≤ maxLen) := Lib.hid hbl; have hack : ack < 18446744073709551616 := hack; have hseq : seq < 18446744073709551616 := hseq; have HX : Hid (Reads X A body) := Lib.hid hX; obtain ⟨p1, Hp1⟩ : ∃ q, Hid ((!(mayB kk ffr fto finc fconn pinc pconn ack seq body.length && decide (ffr = peer) && decide (fto = sn))) = q) := ⟨_, Lib.hid rfl⟩; obtain ⟨p2, Hp2⟩ : ∃ q, Hid ((decide (finc < inc) || (decide (finc = inc) && decide (fconn < known))) = q) := ⟨_, Lib.hid rfl⟩
 obtain ⟨p3, Hp3⟩ : ∃ q, Hid ((decide (finc ≠ inc) || decide (fconn ≠ known)) = q) := ⟨_, Lib.hid rfl⟩
 have HLOOK : Hid (sS.looks fF = (!p1 && !p2)) := Lib.hid (by rw [← HSS.out, ← HFF.out, ← Hp1.out, ← Hp2.out]; simp [LS.looks]); have HOTH : Hid (sS.other fF = p3) := Lib.hid (by rw [← HSS.out, ← HFF.out]; exact Hp3.out); show Calls Try.prog 15 #[.pointer (some ⟨g, 0, none⟩), .int .u64 (now : Int), .agg #[.int .i64 kk, .int .i64 ffr, .int .i64 fto, .int .u64 (finc : Int), .int .u64 (fconn : Int), .int .u64 (pinc : Int), .int .u64 (pconn : Int), .int .u64 (ack : Int), .int .u64 (seq : Int), .slice A body.length c]] w _; have HS0 := Lib.hid (show Sep w0 (((((w.alloc (.cells #[.pointer (some ⟨g, 0, none⟩)] 26)).alloc (.cells #[.int .u64 (now : Int)] 28)).alloc (.cells #[.int .i64 kk, .int .i64 ffr, .int .i64 fto, .int .u64 (finc : Int), .int .u64 (fconn : Int), .int .u64 (pinc : Int), .int .u64 (pconn : Int), .int .u64 (ack : Int), .int .u64 (seq : Int), .slice A body.length c] 51)).alloc (.cells #[.slice none 0 0, .slice none 0 0] 43)).alloc (.cells #[.slice none 0 0, .slice none 0 0] 43)) (TKaF w now g X Qs kk ffr fto finc fconn pinc pconn ack seq A body.length c (Rw 51 10 (.slice none 0 0) 0 []) (Bods []) (Rw 49 4 (.slice none 0 0) 0 []) (Bods []) (#[.slice none 0 0, .slice none 0 0]) (#[.int .u64 (base : Int), .slice BA box.length bc, .int .u64 (got : Int), .int .i64 sn, .int .u64 (si : Int), .int .i64 peer, .int .u64 (conn : Int), .int .u64 (inc : Int), .int .u64 (known : Int), .bool up, .int .u64 (heard : Int), .int .u64 (sent : Int)]) (BoxT (.slice BA box.length bc) box)) by
  have := sep_ceF (sep_ceF (sep_ceF (sep_ceF (sep_ceF h #[.pointer (some ⟨g, 0, none⟩)] 26) #[.int .u64 (now : Int)] 28) #[.int .i64 kk, .int .i64 ffr, .int .i64 fto, .int .u64 (finc : Int), .int .u64 (fconn : Int), .int .u64 (pinc : Int), .int .u64 (pconn : Int), .int .u64 (ack : Int), .int .u64 (seq : Int), .slice A body.length c] 51) #[.slice none 0 0, .slice none 0 0] 43) #[.slice none 0 0, .slice none 0 0] 43
  simp only [World.size_alloc] at this; have := sep_bodsNil (sep_rwNil (sep_bodsNil (sep_rwNil this 51 10).lastFront) 49 4).lastFront; exact (((((((((((this).tF 7 rfl).tF 7 rfl).tF 10 rfl).tF 10 rfl).tF 10 rfl).tF 10 rfl).tF 10 rfl).tF 7 rfl).tF 8 rfl).tF 9 rfl).tF 10 rfl)
 have HKN0 : Hid ((sS.take1 now fF).knows fF = false) := Lib.hid (by rw [← HSS.out, ← HFF.out]; exact hkn); clear hkn; clear h hs hsn hbx hbl hX; refine calls_marks 6 Try.func15 rfl ?_; have HLOOK2 : Hid (sS.looks fF = true) := Lib.hid (by rw [← HSS.out, ← HFF.out]; exact hlk); clear hlk; simp only [Try.ntmps15, List.size_toArray, List.length_cons, List.length_nil, Nat.reduceAdd, Nat.reduceSub, Array.replicate_succ, Array.replicate_zero, List.push_toArray, List.append_toArray, List.nil_append, List.cons_append]; have hm2 : mayB kk ffr fto finc fconn pinc pconn ack seq body.length = true ∧ ffr = peer ∧ fto = sn ∧ (decide (finc < inc) || (decide (finc = inc) && decide (fconn < known))) = false := by
  have h := HLOOK2.out; rw [← HSS.out, ← HFF.out] at h; simp only [LS.looks, Bool.and_eq_true, Bool.not_eq_true', decide_eq_true_eq] at h; exact ⟨h.1.1.1, h.1.1.2, h.1.2, h.2⟩
 have HLK : Hid (sS.looks fF = true) := HLOOK2; have hb448 : body.length ≤ 448 := mayB_len hm2.1; have HM := Lib.hid hm2.1; have e1 : (ffr != peer) = false := by simp [hm2.2.1]
 have e2 : (fto != sn) = false := by simp [hm2.2.2.1]
 have HN4 := Lib.hid hm2.2.2.2; clear hm2
 go_wp2_with fail
 refine wRG (fun dn xv W => Sep w0 W (TKaF w now g X Qs kk ffr fto finc fconn pinc pconn ack seq A body.length c (Rw 51 10 (.slice none 0 0) 0 []) (Bods []) (Rw 49 4 (.slice none 0 0) 0 []) (Bods []) (#[.slice none 0 0, .slice none 0 0]) (#[.int .u64 (base : Int), .slice BA box.length bc, .int .u64 (got : Int), .int .i64 sn, .int .u64 (si : Int), .int .i64 peer, .int .u64 (conn : Int), .int .u64 (inc : Int), .int .u64 (known : Int), .bool up, .int .u64 (heard : Int), .int .u64 (sent : Int)]) (BoxT (.slice BA box.length bc) box))) (fun _ _ => True) [xP_ g 0, xV_ (.bool true), xV_ (.bool false), xV_ (.bool false), xV_ (.agg #[.int .i64 kk, .int .i64 ffr, .int .i64 fto, .int .u64 (finc : Int), .int .u64 (fconn : Int), .int .u64 (pinc : Int), .int .u64 (pconn : Int), .int .u64 (ack : Int), .int .u64 (seq : Int), .slice A body.length c]), xV_ (.bool true), xV_ (.bool false), xV_ (.bool false), xV_ (.bool false), xP_ (w.heap.size + 1 + 1) 1, xV_ (.int .i64 ffr), xP_ g 0, xP_ g 0, xP_ g 5, xV_ (.int .i64 peer), xV_ (.bool false), xV_ (.bool false), xV_ (.bool false), xP_ (w.heap.size + 1 + 1) 2, xV_ (.int .i64 fto), xP_ g 0, xP_ g 0, xP_ g 3, xP_ g 3, xV_ (.int .i64 sn), xV_ (.bool false), xV_ (.bool false)] (fun xv => by simpa using HS0.out.drew) ?_ ?_
 ·refine Epk 1 3 w.heap.size 0 (fun _ _ _ e => cA (i := 6) e rfl 0 rfl) ?_
  refine EC 2 rfl (fun j k W F a b c d f H K h => ?_) ?_
  ·have f16 := gE (a 16) (by kernel_rfl) (H 0) (by kernel_rfl); clear H c b d a; refine oP rfl ?_; go_simp; refine (made_yes W g sn HSN.out (cA (i := 7) f rfl 3 rfl)).mono ?_; rintro e W' ⟨rfl, hb⟩; exact h.out _ W' rfl trivial (by simpa [upB, upd] using f.grow hb)
  refine Ee 3 17 1 ?_
  refine Ee 4 18 2 ?_
  refine EC 5 rfl (fun g h W F a b c d e H K f => ?_) ?_
  ·have f5 : F.tmps.getD 5 undef = .pointer (some ⟨w.heap.size + 1 + 1, 0, none⟩) := (a 5).trans (by kernel_rfl); have f19 := gE (a 19) (by kernel_rfl) (H 3) (by kernel_rfl); have k9_0 := cA (i := 9) e rfl 0 rfl; have k9_1 := cA (i := 9) e rfl 1 rfl; have k9_2 := cA (i := 9) e rfl 2 rfl; have k9_3 := cA (i := 9) e rfl 3 rfl; have k9_4 := cA (i := 9) e rfl 4 rfl; have k9_5 := cA (i := 9) e rfl 5 rfl; have k9_6 := cA (i := 9) e rfl 6 rfl; have k9_7 := cA (i := 9) e rfl 7 rfl; have k9_8 := cA (i := 9) e rfl 8 rfl; have k9_9 := cA (i := 9) e rfl 9 rfl; clear H c b d a; refine oG rfl (by kernel_rfl) f19 ?_; go_simp; exact f.out _ _ rfl trivial e
  refine EC 6 rfl (fun i j W F a b d f g H K h => ?_) ?_
  ·have f20 := gE (a 20) (by kernel_rfl) (H 4) (by kernel_rfl); have f19 := gE (a 19) (by kernel_rfl) (H 3) (by kernel_rfl); clear H d b f a; refine oG rfl (by kernel_rfl) f19 ?_; go_simp; refine (mayFk (w := W) (c := c) (A := A) HM.out HBL.out).mono ?_; rintro e W' ⟨rfl, hb⟩; exact h.out _ W' rfl trivial (by simpa [upB, upd] using g.grow hb)
  refine Eeeg 7 21 5 19 3 ?_
  refine Eee 8 19 3 22 6 ?_
  refine Ee 9 23 7 ?_
  refine Epeg 10 5 (w.heap.size + 1 + 1) 0 24 8 ?_
  refine Eeegk 11 25 9 24 8 (fun _ _ _ e => cA (i := 9) e rfl 1 rfl) ?_
  refine Epegk 12 3 w.heap.size 0 24 8 (fun _ _ _ e => cA (i := 6) e rfl 0 rfl) ?_
  refine Eeeg 13 27 11 24 8 ?_
  refine Eeeg 14 28 12 24 8 ?_
  refine Eeegk 15 29 13 24 8 (fun _ _ _ e => cA (i := 7) e rfl 5 rfl) ?_
  refine Eeeeg 16 26 10 30 14 24 8 ?_
  refine Eee 17 24 8 31 15 ?_
  refine Ee 18 32 16 ?_
  refine Epeg 19 5 (w.heap.size + 1 + 1) 0 33 17 ?_
  refine Eeegk 20 34 18 33 17 (fun _ _ _ e => cA (i := 9) e rfl 2 rfl) ?_
  refine Epegk 21 3 w.heap.size 0 33 17 (fun _ _ _ e => cA (i := 6) e rfl 0 rfl) ?_
  refine Eeeg 22 36 20 33 17 ?_
  refine Eeeg 23 37 21 33 17 ?_
  refine Eeeg 24 38 22 33 17 ?_
  refine Eeegk 25 39 23 33 17 (fun _ _ _ e => cA (i := 7) e rfl 3 rfl) ?_
  refine Eeeeg 26 35 19 40 24 33 17 ?_
  refine Eee 27 33 17 41 25 ?_
  exact EN
 ·intro dn xv W hI H; have q26 : xv 26 = .bool false := (H 26 (of_decide_eq_true (by kernel_rfl))).2; have hS : Sep w0 W (TKaF w now g X Qs kk ffr fto finc fconn pinc pconn ack seq A body.length c (Rw 51 10 (.slice none 0 0) 0 []) (Bods []) (Rw 49 4 (.slice none 0 0) 0 []) (Bods []) (#[.slice none 0 0, .slice none 0 0]) (#[.int .u64 (base : Int), .slice BA box.length bc, .int .u64 (got : Int), .int .i64 sn, .int .u64 (si : Int), .int .i64 peer, .int .u64 (conn : Int), .int .u64 (inc : Int), .int .u64 (known : Int), .bool up, .int .u64 (heard : Int), .int .u64 (sent : Int)]) (BoxT (.slice BA box.length bc) box)) := hI; clear H hI; simp only [putAll, Act.put, List.setIfInBounds_toArray, List.set_cons_zero, List.set_cons_succ, Nat.reduceAdd, q26]; clear q26; have HS2 := Lib.hid hS; clear hS e1 e2 HS0; obtain ⟨W2, HW2⟩ : ∃ x, Hid (W = x) := ⟨_, Lib.hid rfl⟩; rw [HW2.out] at HS2 ⊢
  go_upto_region 4 with fail
  go_cut [68] from 44 to 68 (fun t wx => t = .bool false ∧ Sep w0 wx (TKaF w now g X Qs kk ffr fto finc fconn pinc pconn ack seq A body.length c (Rw 51 10 (.slice none 0 0) 0 []) (Bods []) (Rw 49 4 (.slice none 0 0) 0 []) (Bods []) (#[.slice none 0 0, .slice none 0 0]) (#[.int .u64 (base : Int), .slice BA box.length bc, .int .u64 (got : Int), .int .i64 sn, .int .u64 (si : Int), .int .i64 peer, .int .u64 (conn : Int), .int .u64 (inc : Int), .int .u64 (known : Int), .bool up, .int .u64 (heard : Int), .int .u64 (sent : Int)]) (BoxT (.slice BA box.length bc) box)))
  case first =>
   have h1 : ¬ finc < inc := by
    intro h; have h2 := HN4.out; rw [decide_eq_true h] at h2; simp at h2
   have e1 : decide (finc < inc) = false := decide_eq_false h1
   by_cases h2 : finc = inc
   ·have e2 : ((finc : Int) == (inc : Int)) = true := by simp [h2]
    have h3 : ¬ fconn < known := by
     intro h; have h4 := HN4.out; rw [decide_eq_true h, decide_eq_true h2] at h4; simp at h4
    have e3 : decide (fconn < known) = false := decide_eq_false h3; clear h1 h2 h3
    go_wp2_with fail
    refine wRG (fun dn xv W => Sep w0 W (TKaF w now g X Qs kk ffr fto finc fconn pinc pconn ack seq A body.length c (Rw 51 10 (.slice none 0 0) 0 []) (Bods []) (Rw 49 4 (.slice none 0 0) 0 []) (Bods []) (#[.slice none 0 0, .slice none 0 0]) (#[.int .u64 (base : Int), .slice BA box.length bc, .int .u64 (got : Int), .int .i64 sn, .int .u64 (si : Int), .int .i64 peer, .int .u64 (conn : Int), .int .u64 (inc : Int), .int .u64 (known : Int), .bool up, .int .u64 (heard : Int), .int .u64 (sent : Int)]) (BoxT (.slice BA box.length bc) box))) (fun _ _ => True) [xP_ (w.heap.size + 1 + 1) 3, xV_ (.int .u64 (finc : Int)), xP_ g 0, xP_ g 0, xP_ g 7, xV_ (.int .u64 (inc : Int)), xV_ (.bool false), xV_ (.bool false), xP_ (w.heap.size + 1 + 1) 3, xV_ (.int .u64 (finc : Int)), xP_ g 0, xP_ g 0, xP_ g 7, xV_ (.int .u64 (inc : Int)), xV_ (.bool true), xV_ (.bool true), xP_ (w.heap.size + 1 + 1) 4, xV_ (.int .u64 (fconn : Int)), xP_ g 0, xP_ g 0, xP_ g 8, xV_ (.int .u64 (known : Int)), xV_ (.bool false), xV_ (.bool false), xV_ (.bool false)] (fun xv => by simpa using HS2.out.drew) ?_ ?_
    ·refine Ep 1 5 (w.heap.size + 1 + 1) 0 ?_
     refine Eek 2 44 0 (fun _ _ _ e => cA (i := 9) e rfl 3 rfl) ?_
     refine Epk 3 3 w.heap.size 0 (fun _ _ _ e => cA (i := 6) e rfl 0 rfl) ?_
     refine Ee 4 46 2 ?_
     refine Ee 5 47 3 ?_
     refine Eek 6 48 4 (fun _ _ _ e => cA (i := 7) e rfl 7 rfl) ?_
     refine Eee 7 45 1 49 5 ?_
     refine Ee 8 50 6 ?_
     refine Epeg 9 5 (w.heap.size + 1 + 1) 0 51 7 ?_
     refine Eeegk 10 52 8 51 7 (fun _ _ _ e => cA (i := 9) e rfl 3 rfl) ?_
     refine Epegk 11 3 w.heap.size 0 51 7 (fun _ _ _ e => cA (i := 6) e rfl 0 rfl) ?_
     refine Eeeg 12 54 10 51 7 ?_
     refine Eeeg 13 55 11 51 7 ?_
     refine Eeegk 14 56 12 51 7 (fun _ _ _ e => cA (i := 7) e rfl 7 rfl) ?_
     refine Eeeeg 15 53 9 57 13 51 7 ?_
     refine Eeeg 16 58 14 51 7 ?_
     refine Epeg 17 5 (w.heap.size + 1 + 1) 0 59 15 ?_
     refine Eeegk 18 60 16 59 15 (fun _ _ _ e => cA (i := 9) e rfl 4 rfl) ?_
     refine Epegk 19 3 w.heap.size 0 59 15 (fun _ _ _ e => cA (i := 6) e rfl 0 rfl) ?_
     refine Eeeg 20 62 18 59 15 ?_
     refine Eeeg 21 63 19 59 15 ?_
     refine Eeegk 22 64 20 59 15 (fun _ _ _ e => cA (i := 7) e rfl 8 rfl) ?_
     refine Eeeeg 23 61 17 65 21 59 15 ?_
     refine Eeeeg 24 59 15 66 22 51 7 ?_
     refine Eee 25 51 7 67 23 ?_
     exact EN
    ·intro dn xv W hI H; have q24 : xv 24 = .bool false := (H 24 (of_decide_eq_true (by kernel_rfl))).2; have hS : Sep w0 W (TKaF w now g X Qs kk ffr fto finc fconn pinc pconn ack seq A body.length c (Rw 51 10 (.slice none 0 0) 0 []) (Bods []) (Rw 49 4 (.slice none 0 0) 0 []) (Bods []) (#[.slice none 0 0, .slice none 0 0]) (#[.int .u64 (base : Int), .slice BA box.length bc, .int .u64 (got : Int), .int .i64 sn, .int .u64 (si : Int), .int .i64 peer, .int .u64 (conn : Int), .int .u64 (inc : Int), .int .u64 (known : Int), .bool up, .int .u64 (heard : Int), .int .u64 (sent : Int)]) (BoxT (.slice BA box.length bc) box)) := hI; clear H hI; simp only [putAll, Act.put, List.setIfInBounds_toArray, List.set_cons_zero, List.set_cons_succ, Nat.reduceAdd, q24]; clear q24
     go_wp2_with fail
     go_meet
     case rel => exact ⟨rfl, hS⟩
   ·have e2 : ((finc : Int) == (inc : Int)) = false := beq_eq_false_iff_ne.2 (by omega); clear h1 h2
    go_wp2_with fail
    refine wRG (fun dn xv W => Sep w0 W (TKaF w now g X Qs kk ffr fto finc fconn pinc pconn ack seq A body.length c (Rw 51 10 (.slice none 0 0) 0 []) (Bods []) (Rw 49 4 (.slice none 0 0) 0 []) (Bods []) (#[.slice none 0 0, .slice none 0 0]) (#[.int .u64 (base : Int), .slice BA box.length bc, .int .u64 (got : Int), .int .i64 sn, .int .u64 (si : Int), .int .i64 peer, .int .u64 (conn : Int), .int .u64 (inc : Int), .int .u64 (known : Int), .bool up, .int .u64 (heard : Int), .int .u64 (sent : Int)]) (BoxT (.slice BA box.length bc) box))) (fun _ _ => True) [xP_ (w.heap.size + 1 + 1) 3, xV_ (.int .u64 (finc : Int)), xP_ g 0, xP_ g 0, xP_ g 7, xV_ (.int .u64 (inc : Int)), xV_ (.bool false), xV_ (.bool false), xP_ (w.heap.size + 1 + 1) 3, xV_ (.int .u64 (finc : Int)), xP_ g 0, xP_ g 0, xP_ g 7, xV_ (.int .u64 (inc : Int)), xV_ (.bool false), xV_ (.bool false), xV_ undef, xV_ undef, xV_ undef, xV_ undef, xV_ undef, xV_ undef, xV_ undef, xV_ (.bool false), xV_ (.bool false)] (fun xv => by simpa using HS2.out.drew) ?_ ?_
    ·refine Ep 1 5 (w.heap.size + 1 + 1) 0 ?_
     refine Eek 2 44 0 (fun _ _ _ e => cA (i := 9) e rfl 3 rfl) ?_
     refine Epk 3 3 w.heap.size 0 (fun _ _ _ e => cA (i := 6) e rfl 0 rfl) ?_
     refine Ee 4 46 2 ?_
     refine Ee 5 47 3 ?_
     refine Eek 6 48 4 (fun _ _ _ e => cA (i := 7) e rfl 7 rfl) ?_
     refine Eee 7 45 1 49 5 ?_
     refine Ee 8 50 6 ?_
     refine Epeg 9 5 (w.heap.size + 1 + 1) 0 51 7 ?_
     refine Eeegk 10 52 8 51 7 (fun _ _ _ e => cA (i := 9) e rfl 3 rfl) ?_
     refine Epegk 11 3 w.heap.size 0 51 7 (fun _ _ _ e => cA (i := 6) e rfl 0 rfl) ?_
     refine Eeeg 12 54 10 51 7 ?_
     refine Eeeg 13 55 11 51 7 ?_
     refine Eeegk 14 56 12 51 7 (fun _ _ _ e => cA (i := 7) e rfl 7 rfl) ?_
     refine Eeeeg 15 53 9 57 13 51 7 ?_
     refine Eeeg 16 58 14 51 7 ?_
     refine Eo 17 59 15 ?_
     refine EC 18 rfl (fun g h W F a b c d e H K f => ?_) ?_
     ·have f59 := gE (a 59) (by kernel_rfl) (H 15) (by kernel_rfl); have k9_4 := cA (i := 9) e rfl 4 rfl; clear H c b d a; refine off_guard rfl (by kernel_rfl) f59 (by decide) ?_; exact f.out _ _ rfl trivial e
     refine EC 19 rfl (fun g h W F a b c d e H K f => ?_) ?_
     ·have f59 := gE (a 59) (by kernel_rfl) (H 15) (by kernel_rfl); have k6_0 := cA (i := 6) e rfl 0 rfl; clear H c b d a; refine off_guard rfl (by kernel_rfl) f59 (by decide) ?_; exact f.out _ _ rfl trivial e
     refine Eo 20 59 15 ?_
     refine Eo 21 59 15 ?_
     refine EC 22 rfl (fun g h W F a b c d e H K f => ?_) ?_
     ·have f59 := gE (a 59) (by kernel_rfl) (H 15) (by kernel_rfl); have k7_8 := cA (i := 7) e rfl 8 rfl; clear H c b d a; refine off_guard rfl (by kernel_rfl) f59 (by decide) ?_; exact f.out _ _ rfl trivial e
     refine Eo 23 59 15 ?_
     refine Eeeeg 24 59 15 66 22 51 7 ?_
     refine Eee 25 51 7 67 23 ?_
     exact EN
    ·intro dn xv W hI H; have q24 : xv 24 = .bool false := (H 24 (of_decide_eq_true (by kernel_rfl))).2; have hS : Sep w0 W (TKaF w now g X Qs kk ffr fto finc fconn pinc pconn ack seq A body.length c (Rw 51 10 (.slice none 0 0) 0 []) (Bods []) (Rw 49 4 (.slice none 0 0) 0 []) (Bods []) (#[.slice none 0 0, .slice none 0 0]) (#[.int .u64 (base : Int), .slice BA box.length bc, .int .u64 (got : Int), .int .i64 sn, .int .u64 (si : Int), .int .i64 peer, .int .u64 (conn : Int), .int .u64 (inc : Int), .int .u64 (known : Int), .bool up, .int .u64 (heard : Int), .int .u64 (sent : Int)]) (BoxT (.slice BA box.length bc) box)) := hI; clear H hI; simp only [putAll, Act.put, List.setIfInBounds_toArray, List.set_cons_zero, List.set_cons_succ, Nat.reduceAdd, q24]; clear q24
     go_wp2_with fail
     go_meet
     case rel => exact ⟨rfl, hS⟩
  case rest =>
   obtain ⟨rfl, hS⟩ := hcut; clear HS2; have HS4 := Lib.hid hS; clear hS; have kl := cA (i := 6) HS4.out rfl 0 rfl
   go_wp2_with fail
   refine (sep_teller HS4.out g (w.heap.size + 1 + 1 + 1 + 1)).mono ?_; rintro e w6 ⟨q1, q0, rfl, h6⟩; have HS6 : Hid (Sep w0 w6 (TKqF w now g q1 q0 X Qs kk ffr fto finc fconn pinc pconn ack seq A body.length c (Rw 51 10 (.slice none 0 0) 0 []) (Bods []) (Rw 49 4 (.slice none 0 0) 0 []) (Bods []) (#[.slice none 0 0, .slice none 0 0]) (#[.int .u64 (base : Int), .slice BA box.length bc, .int .u64 (got : Int), .int .i64 sn, .int .u64 (si : Int), .int .i64 peer, .int .u64 (conn : Int), .int .u64 (inc : Int), .int .u64 (known : Int), .bool up, .int .u64 (heard : Int), .int .u64 (sent : Int)]) (BoxT (.slice BA box.length bc) box))) := Lib.hid ((((((((((((h6).tF 1 rfl).tF 1 rfl).tF 10 rfl).tF 10 rfl).tF 10 rfl).tF 10 rfl).tF 10 rfl).tF 10 rfl).tF 10 rfl).tF 10 rfl).tF 10 rfl); clear h6 HS4 kl
   go_upto_region 7 with fail
   go_cut [87] from 72 to 87 (fun t wx => t = .bool p3 ∧ Sep w0 wx (TKqF w now g q1 q0 X Qs kk ffr fto finc fconn pinc pconn ack seq A body.length c (Rw 51 10 (.slice none 0 0) 0 []) (Bods []) (Rw 49 4 (.slice none 0 0) 0 []) (Bods []) (#[.slice none 0 0, .slice none 0 0]) (#[.int .u64 (base : Int), .slice BA box.length bc, .int .u64 (got : Int), .int .i64 sn, .int .u64 (si : Int), .int .i64 peer, .int .u64 (conn : Int), .int .u64 (inc : Int), .int .u64 (known : Int), .bool up, .int .u64 (heard : Int), .int .u64 (sent : Int)]) (BoxT (.slice BA box.length bc) box)))
   case first =>
      by_cases h1 : finc = inc
      ·have e1 : ((finc : Int) != (inc : Int)) = false := by simp [h1]
       have H1 := Lib.hid h1; clear h1
       by_cases h2 : fconn = known
       ·have e2 : ((fconn : Int) != (known : Int)) = false := by simp [h2]
        have H2 := Lib.hid h2; clear h2
        go_wp2_with fail
        refine wRG (fun dn xv W => Sep w0 W (TKqF w now g q1 q0 X Qs kk ffr fto finc fconn pinc pconn ack seq A body.length c (Rw 51 10 (.slice none 0 0) 0 []) (Bods []) (Rw 49 4 (.slice none 0 0) 0 []) (Bods []) (#[.slice none 0 0, .slice none 0 0]) (#[.int .u64 (base : Int), .slice BA box.length bc, .int .u64 (got : Int), .int .i64 sn, .int .u64 (si : Int), .int .i64 peer, .int .u64 (conn : Int), .int .u64 (inc : Int), .int .u64 (known : Int), .bool up, .int .u64 (heard : Int), .int .u64 (sent : Int)]) (BoxT (.slice BA box.length bc) box))) (fun _ _ => True) [xP_ (w.heap.size + 1 + 1) 3, xV_ (.int .u64 (finc : Int)), xP_ g 0, xP_ g 0, xP_ g 7, xV_ (.int .u64 (inc : Int)), xV_ (.bool false), xV_ (.bool false), xP_ (w.heap.size + 1 + 1) 4, xV_ (.int .u64 (fconn : Int)), xP_ g 0, xP_ g 0, xP_ g 8, xV_ (.int .u64 (known : Int)), xV_ (.bool false), xV_ (.bool false)] (fun xv => by simpa using HS6.out.drew) ?_ ?_
        ·refine Ep 1 5 (w.heap.size + 1 + 1) 0 ?_
         refine Eek 2 72 0 (fun _ _ _ e => cA (i := 11) e rfl 3 rfl) ?_
         refine Epk 3 3 w.heap.size 0 (fun _ _ _ e => cA (i := 6) e rfl 0 rfl) ?_
         refine Ee 4 74 2 ?_
         refine Ee 5 75 3 ?_
         refine Eek 6 76 4 (fun _ _ _ e => cA (i := 7) e rfl 7 rfl) ?_
         refine Eee 7 73 1 77 5 ?_
         refine Ee 8 78 6 ?_
         refine Epeg 9 5 (w.heap.size + 1 + 1) 0 79 7 ?_
         refine Eeegk 10 80 8 79 7 (fun _ _ _ e => cA (i := 11) e rfl 4 rfl) ?_
         refine Epegk 11 3 w.heap.size 0 79 7 (fun _ _ _ e => cA (i := 6) e rfl 0 rfl) ?_
         refine Eeeg 12 82 10 79 7 ?_
         refine Eeeg 13 83 11 79 7 ?_
         refine Eeegk 14 84 12 79 7 (fun _ _ _ e => cA (i := 7) e rfl 8 rfl) ?_
         refine Eeeeg 15 81 9 85 13 79 7 ?_
         refine Eee 16 79 7 86 14 ?_
         exact EN
        ·intro dn xv W hI H; have q15 : xv 15 = .bool false := (H 15 (of_decide_eq_true (by kernel_rfl))).2; have hS : Sep w0 W (TKqF w now g q1 q0 X Qs kk ffr fto finc fconn pinc pconn ack seq A body.length c (Rw 51 10 (.slice none 0 0) 0 []) (Bods []) (Rw 49 4 (.slice none 0 0) 0 []) (Bods []) (#[.slice none 0 0, .slice none 0 0]) (#[.int .u64 (base : Int), .slice BA box.length bc, .int .u64 (got : Int), .int .i64 sn, .int .u64 (si : Int), .int .i64 peer, .int .u64 (conn : Int), .int .u64 (inc : Int), .int .u64 (known : Int), .bool up, .int .u64 (heard : Int), .int .u64 (sent : Int)]) (BoxT (.slice BA box.length bc) box)) := hI; clear H hI; simp only [putAll, Act.put, List.setIfInBounds_toArray, List.set_cons_zero, List.set_cons_succ, Nat.reduceAdd, q15]; clear q15
         go_wp2_with fail
         go_meet
         case rel => exact ⟨by rw [← Hp3.out]; simp [H1.out, H2.out], hS⟩
       ·have e2 : ((fconn : Int) != (known : Int)) = true := by simp; omega
        have H2 := Lib.hid h2; clear h2
        go_wp2_with fail
        refine wRG (fun dn xv W => Sep w0 W (TKqF w now g q1 q0 X Qs kk ffr fto finc fconn pinc pconn ack seq A body.length c (Rw 51 10 (.slice none 0 0) 0 []) (Bods []) (Rw 49 4 (.slice none 0 0) 0 []) (Bods []) (#[.slice none 0 0, .slice none 0 0]) (#[.int .u64 (base : Int), .slice BA box.length bc, .int .u64 (got : Int), .int .i64 sn, .int .u64 (si : Int), .int .i64 peer, .int .u64 (conn : Int), .int .u64 (inc : Int), .int .u64 (known : Int), .bool up, .int .u64 (heard : Int), .int .u64 (sent : Int)]) (BoxT (.slice BA box.length bc) box))) (fun _ _ => True) [xP_ (w.heap.size + 1 + 1) 3, xV_ (.int .u64 (finc : Int)), xP_ g 0, xP_ g 0, xP_ g 7, xV_ (.int .u64 (inc : Int)), xV_ (.bool false), xV_ (.bool false), xP_ (w.heap.size + 1 + 1) 4, xV_ (.int .u64 (fconn : Int)), xP_ g 0, xP_ g 0, xP_ g 8, xV_ (.int .u64 (known : Int)), xV_ (.bool true), xV_ (.bool true)] (fun xv => by simpa using HS6.out.drew) ?_ ?_
        ·refine Ep 1 5 (w.heap.size + 1 + 1) 0 ?_
         refine Eek 2 72 0 (fun _ _ _ e => cA (i := 11) e rfl 3 rfl) ?_
         refine Epk 3 3 w.heap.size 0 (fun _ _ _ e => cA (i := 6) e rfl 0 rfl) ?_
         refine Ee 4 74 2 ?_
         refine Ee 5 75 3 ?_
         refine Eek 6 76 4 (fun _ _ _ e => cA (i := 7) e rfl 7 rfl) ?_
         refine Eee 7 73 1 77 5 ?_
         refine Ee 8 78 6 ?_
         refine Epeg 9 5 (w.heap.size + 1 + 1) 0 79 7 ?_
         refine Eeegk 10 80 8 79 7 (fun _ _ _ e => cA (i := 11) e rfl 4 rfl) ?_
         refine Epegk 11 3 w.heap.size 0 79 7 (fun _ _ _ e => cA (i := 6) e rfl 0 rfl) ?_
         refine Eeeg 12 82 10 79 7 ?_
         refine Eeeg 13 83 11 79 7 ?_
         refine Eeegk 14 84 12 79 7 (fun _ _ _ e => cA (i := 7) e rfl 8 rfl) ?_
         refine Eeeeg 15 81 9 85 13 79 7 ?_
         refine Eee 16 79 7 86 14 ?_
         exact EN
        ·intro dn xv W hI H; have q15 : xv 15 = .bool true := (H 15 (of_decide_eq_true (by kernel_rfl))).2; have hS : Sep w0 W (TKqF w now g q1 q0 X Qs kk ffr fto finc fconn pinc pconn ack seq A body.length c (Rw 51 10 (.slice none 0 0) 0 []) (Bods []) (Rw 49 4 (.slice none 0 0) 0 []) (Bods []) (#[.slice none 0 0, .slice none 0 0]) (#[.int .u64 (base : Int), .slice BA box.length bc, .int .u64 (got : Int), .int .i64 sn, .int .u64 (si : Int), .int .i64 peer, .int .u64 (conn : Int), .int .u64 (inc : Int), .int .u64 (known : Int), .bool up, .int .u64 (heard : Int), .int .u64 (sent : Int)]) (BoxT (.slice BA box.length bc) box)) := hI; clear H hI; simp only [putAll, Act.put, List.setIfInBounds_toArray, List.set_cons_zero, List.set_cons_succ, Nat.reduceAdd, q15]; clear q15
         go_wp2_with fail
         go_meet
         case rel => exact ⟨by rw [← Hp3.out]; simp [H2.out], hS⟩
      ·have e1 : ((finc : Int) != (inc : Int)) = true := by simp; omega
       have H1 := Lib.hid h1; clear h1
       go_wp2_with fail
       refine wRG (fun dn xv W => Sep w0 W (TKqF w now g q1 q0 X Qs kk ffr fto finc fconn pinc pconn ack seq A body.length c (Rw 51 10 (.slice none 0 0) 0 []) (Bods []) (Rw 49 4 (.slice none 0 0) 0 []) (Bods []) (#[.slice none 0 0, .slice none 0 0]) (#[.int .u64 (base : Int), .slice BA box.length bc, .int .u64 (got : Int), .int .i64 sn, .int .u64 (si : Int), .int .i64 peer, .int .u64 (conn : Int), .int .u64 (inc : Int), .int .u64 (known : Int), .bool up, .int .u64 (heard : Int), .int .u64 (sent : Int)]) (BoxT (.slice BA box.length bc) box))) (fun _ _ => True) [xP_ (w.heap.size + 1 + 1) 3, xV_ (.int .u64 (finc : Int)), xP_ g 0, xP_ g 0, xP_ g 7, xV_ (.int .u64 (inc : Int)), xV_ (.bool true), xV_ (.bool true), xV_ undef, xV_ undef, xV_ undef, xV_ undef, xV_ undef, xV_ undef, xV_ undef, xV_ (.bool true)] (fun xv => by simpa using HS6.out.drew) ?_ ?_
       ·refine Ep 1 5 (w.heap.size + 1 + 1) 0 ?_
        refine Eek 2 72 0 (fun _ _ _ e => cA (i := 11) e rfl 3 rfl) ?_
        refine Epk 3 3 w.heap.size 0 (fun _ _ _ e => cA (i := 6) e rfl 0 rfl) ?_
        refine Ee 4 74 2 ?_
        refine Ee 5 75 3 ?_
        refine Eek 6 76 4 (fun _ _ _ e => cA (i := 7) e rfl 7 rfl) ?_
        refine Eee 7 73 1 77 5 ?_
        refine Ee 8 78 6 ?_
        refine Eo 9 79 7 ?_
        refine EC 10 rfl (fun g h W F a b c d e H K f => ?_) ?_
        ·have f79 := gE (a 79) (by kernel_rfl) (H 7) (by kernel_rfl); have k11_4 := cA (i := 11) e rfl 4 rfl; clear H c b d a; refine off_guard rfl (by kernel_rfl) f79 (by decide) ?_; exact f.out _ _ rfl trivial e
        refine EC 11 rfl (fun g h W F a b c d e H K f => ?_) ?_
        ·have f79 := gE (a 79) (by kernel_rfl) (H 7) (by kernel_rfl); have k6_0 := cA (i := 6) e rfl 0 rfl; clear H c b d a; refine off_guard rfl (by kernel_rfl) f79 (by decide) ?_; exact f.out _ _ rfl trivial e
        refine Eo 12 79 7 ?_
        refine Eo 13 79 7 ?_
        refine EC 14 rfl (fun g h W F a b c d e H K f => ?_) ?_
        ·have f79 := gE (a 79) (by kernel_rfl) (H 7) (by kernel_rfl); have k7_8 := cA (i := 7) e rfl 8 rfl; clear H c b d a; refine off_guard rfl (by kernel_rfl) f79 (by decide) ?_; exact f.out _ _ rfl trivial e
        refine Eo 15 79 7 ?_
        refine Eee 16 79 7 86 14 ?_
        exact EN
       ·intro dn xv W hI H; have q15 : xv 15 = .bool true := (H 15 (of_decide_eq_true (by kernel_rfl))).2; have hS : Sep w0 W (TKqF w now g q1 q0 X Qs kk ffr fto finc fconn pinc pconn ack seq A body.length c (Rw 51 10 (.slice none 0 0) 0 []) (Bods []) (Rw 49 4 (.slice none 0 0) 0 []) (Bods []) (#[.slice none 0 0, .slice none 0 0]) (#[.int .u64 (base : Int), .slice BA box.length bc, .int .u64 (got : Int), .int .i64 sn, .int .u64 (si : Int), .int .i64 peer, .int .u64 (conn : Int), .int .u64 (inc : Int), .int .u64 (known : Int), .bool up, .int .u64 (heard : Int), .int .u64 (sent : Int)]) (BoxT (.slice BA box.length bc) box)) := hI; clear H hI; simp only [putAll, Act.put, List.setIfInBounds_toArray, List.set_cons_zero, List.set_cons_succ, Nat.reduceAdd, q15]; clear q15
        go_wp2_with fail
        go_meet
        case rel => exact ⟨by rw [← Hp3.out]; simp [H1.out], hS⟩
   case rest =>
    obtain ⟨rfl, hS⟩ := hcut; clear HS6; have HS7 := Lib.hid hS; clear hS
    go_upto_if 87 with fail
    go_cut [] from 88 to 100 (fun wx => ∃ vF vE bx2 LE, Hid (vF = .slice none 0 0) ∧ LE.map Prod.fst = sS.take1E fF ∧ Sep w0 wx (TKqF w now g q1 q0 X Qs kk ffr fto finc fconn pinc pconn ack seq A body.length c (Rw 51 10 vF 0 []) (Bods []) (Rw 49 4 vE LE.length (eR_ LE)) (Bods (eB_ LE)) (#[vF, vE]) ((sS.turn fF).cells bx2) (BoxT bx2 (sS.turn fF).box)))
    case first =>
       cases p3 with
       | false =>
        go_wp2_with fail
        go_meet
        case rel =>
         refine ⟨.slice none 0 0, .slice none 0 0, .slice BA box.length bc, [], Lib.hid rfl, by rw [LS.take1E, HOTH.out]; rfl, ?_⟩; rw [LS.turn, if_neg (by rw [HOTH.out]; simp), ← HSS.out]; exact HS7.out
       | true =>
        have kl := cA (i := 6) HS7.out rfl 0 rfl
        go_wp2_with fail
        refine (downAny (s := ⟨base, box, got, sn, si, peer, conn, inc, known, up, heard, sent⟩) HS7.out HSN.out).mono ?_; rintro e w8 ⟨rfl, vE, LE, hLE, h8⟩; have HLE := Lib.hid hLE; obtain ⟨mE, HmE⟩ : ∃ x, Hid (LE.length = x) := ⟨_, Lib.hid rfl⟩; obtain ⟨yE, HyE⟩ : ∃ x, Hid (eR_ LE = x) := ⟨_, Lib.hid rfl⟩; obtain ⟨LBE, HLB⟩ : ∃ x, Hid (eB_ LE = x) := ⟨_, Lib.hid rfl⟩; rw [HmE.out, HyE.out, HLB.out] at h8; have HS8 := Lib.hid (show Sep w0 w8 (TKqF w now g q1 q0 X Qs kk ffr fto finc fconn pinc pconn ack seq A body.length c (Rw 51 10 (.slice none 0 0) 0 []) (Bods []) (Rw 49 4 vE mE yE) (Bods LBE) (#[.slice none 0 0, vE]) (#[.int .u64 0, .slice none 0 0, .int .u64 0, .int .i64 sn, .int .u64 (si : Int), .int .i64 peer, .int .u64 (conn : Int), .int .u64 (inc : Int), .int .u64 (known : Int), .bool false, .int .u64 (heard : Int), .int .u64 (sent : Int)]) (BoxT (.slice none 0 0) [])) from h8); clear h8 hLE kl; have HP9 : ∀ (dn : Nat → Bool) (W : World), (if dn 11 = true then Sep w0 W (TKqF w now g q1 q0 X Qs kk ffr fto finc fconn pinc pconn ack seq A body.length c (Rw 51 10 (.slice none 0 0) 0 []) (Bods []) (Rw 49 4 vE mE yE) (Bods LBE) (#[.slice none 0 0, vE]) (#[.int .u64 0, .slice none 0 0, .int .u64 0, .int .i64 sn, .int .u64 (si : Int), .int .i64 peer, .int .u64 (conn : Int), .int .u64 (finc : Int), .int .u64 (fconn : Int), .bool false, .int .u64 (heard : Int), .int .u64 (sent : Int)]) (BoxT (.slice none 0 0) [])) else if dn 8 = true then Sep w0 W (TKqF w now g q1 q0 X Qs kk ffr fto finc fconn pinc pconn ack seq A body.length c (Rw 51 10 (.slice none 0 0) 0 []) (Bods []) (Rw 49 4 vE mE yE) (Bods LBE) (#[.slice none 0 0, vE]) (#[.int .u64 0, .slice none 0 0, .int .u64 0, .int .i64 sn, .int .u64 (si : Int), .int .i64 peer, .int .u64 (conn : Int), .int .u64 (finc : Int), .int .u64 (known : Int), .bool false, .int .u64 (heard : Int), .int .u64 (sent : Int)]) (BoxT (.slice none 0 0) [])) else Sep w0 W (TKqF w now g q1 q0 X Qs kk ffr fto finc fconn pinc pconn ack seq A body.length c (Rw 51 10 (.slice none 0 0) 0 []) (Bods []) (Rw 49 4 vE mE yE) (Bods LBE) (#[.slice none 0 0, vE]) (#[.int .u64 0, .slice none 0 0, .int .u64 0, .int .i64 sn, .int .u64 (si : Int), .int .i64 peer, .int .u64 (conn : Int), .int .u64 (inc : Int), .int .u64 (known : Int), .bool false, .int .u64 (heard : Int), .int .u64 (sent : Int)]) (BoxT (.slice none 0 0) []))) → ∃ cs, Sep w0 W (TKqF w now g q1 q0 X Qs kk ffr fto finc fconn pinc pconn ack seq A body.length c (Rw 51 10 (.slice none 0 0) 0 []) (Bods []) (Rw 49 4 vE mE yE) (Bods LBE) (#[.slice none 0 0, vE]) (cs) (BoxT (.slice none 0 0) [])) := fun dn W h => by
         split at h
         ·exact ⟨_, h⟩
         split at h
         ·exact ⟨_, h⟩
         exact ⟨_, h⟩
        go_wp2_with fail
        refine wRG (fun dn xv W => if dn 11 = true then Sep w0 W (TKqF w now g q1 q0 X Qs kk ffr fto finc fconn pinc pconn ack seq A body.length c (Rw 51 10 (.slice none 0 0) 0 []) (Bods []) (Rw 49 4 vE mE yE) (Bods LBE) (#[.slice none 0 0, vE]) (#[.int .u64 0, .slice none 0 0, .int .u64 0, .int .i64 sn, .int .u64 (si : Int), .int .i64 peer, .int .u64 (conn : Int), .int .u64 (finc : Int), .int .u64 (fconn : Int), .bool false, .int .u64 (heard : Int), .int .u64 (sent : Int)]) (BoxT (.slice none 0 0) [])) else if dn 8 = true then Sep w0 W (TKqF w now g q1 q0 X Qs kk ffr fto finc fconn pinc pconn ack seq A body.length c (Rw 51 10 (.slice none 0 0) 0 []) (Bods []) (Rw 49 4 vE mE yE) (Bods LBE) (#[.slice none 0 0, vE]) (#[.int .u64 0, .slice none 0 0, .int .u64 0, .int .i64 sn, .int .u64 (si : Int), .int .i64 peer, .int .u64 (conn : Int), .int .u64 (finc : Int), .int .u64 (known : Int), .bool false, .int .u64 (heard : Int), .int .u64 (sent : Int)]) (BoxT (.slice none 0 0) [])) else Sep w0 W (TKqF w now g q1 q0 X Qs kk ffr fto finc fconn pinc pconn ack seq A body.length c (Rw 51 10 (.slice none 0 0) 0 []) (Bods []) (Rw 49 4 vE mE yE) (Bods LBE) (#[.slice none 0 0, vE]) (#[.int .u64 0, .slice none 0 0, .int .u64 0, .int .i64 sn, .int .u64 (si : Int), .int .i64 peer, .int .u64 (conn : Int), .int .u64 (inc : Int), .int .u64 (known : Int), .bool false, .int .u64 (heard : Int), .int .u64 (sent : Int)]) (BoxT (.slice none 0 0) []))) (fun _ _ => True) [xP_ g 0, xP_ g 0, xP_ (w.heap.size + 1 + 1) 3, xV_ (.int .u64 (finc : Int)), xP_ (w.heap.size + 1 + 1) 4, xV_ (.int .u64 (fconn : Int)), xP_ g 0, xP_ g 7, fun v _ => True, xP_ g 0, xP_ g 8, fun v _ => True] (fun xv => by simpa using HS8.out.drew) ?_ ?_
        ·refine EC 1 rfl (fun g h W F a b c d e H K f => ?_) ?_
         ·have f3 : F.tmps.getD 3 undef = .pointer (some ⟨w.heap.size, 0, none⟩) := (a 3).trans (by kernel_rfl); obtain ⟨_, hp⟩ := HP9 g W e; have k6_0 := cA (i := 6) hp rfl 0 rfl; clear H c b d a; refine oP rfl ?_; go_simp; exact f.out _ _ rfl trivial e
         refine EC 2 rfl (fun g h W F a b c d e H K f => ?_) ?_
         ·have f3 : F.tmps.getD 3 undef = .pointer (some ⟨w.heap.size, 0, none⟩) := (a 3).trans (by kernel_rfl); obtain ⟨_, hp⟩ := HP9 g W e; have k6_0 := cA (i := 6) hp rfl 0 rfl; clear H c b d a; refine oP rfl ?_; go_simp; exact f.out _ _ rfl trivial e
         refine Ep 3 5 (w.heap.size + 1 + 1) 0 ?_
         refine EC 4 rfl (fun g h W F a b c d e H K f => ?_) ?_
         ·have f93 := gE (a 93) (by kernel_rfl) (H 2) (by kernel_rfl); obtain ⟨_, hp⟩ := HP9 g W e; have k11_3 := cA (i := 11) hp rfl 3 rfl; clear H c b d a; refine oP rfl ?_; go_simp; exact f.out _ _ rfl trivial e
         refine Ep 5 5 (w.heap.size + 1 + 1) 0 ?_
         refine EC 6 rfl (fun g h W F a b c d e H K f => ?_) ?_
         ·have f95 := gE (a 95) (by kernel_rfl) (H 4) (by kernel_rfl); obtain ⟨_, hp⟩ := HP9 g W e; have k11_4 := cA (i := 11) hp rfl 4 rfl; clear H c b d a; refine oP rfl ?_; go_simp; exact f.out _ _ rfl trivial e
         refine Ee 7 91 0 ?_
         refine Ee 8 97 6 ?_
         refine EC 9 rfl (fun j k W F a b d e f H K h => ?_) ?_
         ·have f94 := gE (a 94) (by kernel_rfl) (H 3) (by kernel_rfl); have f98 := gE (a 98) (by kernel_rfl) (H 7) (by kernel_rfl); have q11 := d 11 uE; rw [if_neg (by simp [q11]), if_neg (by simp [b])] at f; have hS := f; clear f d b e a H; refine oP rfl ?_; have kk7 := cA (i := 7) hS rfl 7 rfl; have yy7 := cFz (i := 7) hS rfl 7; have hs : Sep w0 (W.setCell ⟨g, 7, none⟩ (.int .u64 (finc : Int))) (TKqF w now g q1 q0 X Qs kk ffr fto finc fconn pinc pconn ack seq A body.length c (Rw 51 10 (.slice none 0 0) 0 []) (Bods []) (Rw 49 4 vE mE yE) (Bods LBE) (#[.slice none 0 0, vE]) (#[.int .u64 0, .slice none 0 0, .int .u64 0, .int .i64 sn, .int .u64 (si : Int), .int .i64 peer, .int .u64 (conn : Int), .int .u64 (finc : Int), .int .u64 (known : Int), .bool false, .int .u64 (heard : Int), .int .u64 (sent : Int)]) (BoxT (.slice none 0 0) [])) := cS (i := 7) hS rfl 7 (.int .u64 (finc : Int)); go_simp; exact h.out undef _ trivial trivial (by simpa [upB, upd, q11] using hs)
         refine Ee 10 92 1 ?_
         refine Ee 11 99 9 ?_
         refine EC 12 rfl (fun j k W F a b d e f H K h => ?_) ?_
         ·have f96 := gE (a 96) (by kernel_rfl) (H 5) (by kernel_rfl); have f100 := gE (a 100) (by kernel_rfl) (H 10) (by kernel_rfl); have q8 := (H 8 uE).1; rw [if_neg (by simp [b]), if_pos q8] at f; have hS := f; clear f d b e a H; refine oP rfl ?_; have kk8 := cA (i := 7) hS rfl 8 rfl; have yy8 := cFz (i := 7) hS rfl 8; have hs : Sep w0 (W.setCell ⟨g, 8, none⟩ (.int .u64 (fconn : Int))) (TKqF w now g q1 q0 X Qs kk ffr fto finc fconn pinc pconn ack seq A body.length c (Rw 51 10 (.slice none 0 0) 0 []) (Bods []) (Rw 49 4 vE mE yE) (Bods LBE) (#[.slice none 0 0, vE]) (#[.int .u64 0, .slice none 0 0, .int .u64 0, .int .i64 sn, .int .u64 (si : Int), .int .i64 peer, .int .u64 (conn : Int), .int .u64 (finc : Int), .int .u64 (fconn : Int), .bool false, .int .u64 (heard : Int), .int .u64 (sent : Int)]) (BoxT (.slice none 0 0) [])) := cS (i := 7) hS rfl 8 (.int .u64 (fconn : Int)); go_simp; exact h.out undef _ trivial trivial (by simpa [upB, upd] using hs)
         exact EN
        ·intro dn xv W hI H; have qe : dn 11 = true := (H 11 (of_decide_eq_true (by kernel_rfl))).1; rw [if_pos qe] at hI; have hS := hI; clear H hI qe; simp only [putAll, Act.put, List.setIfInBounds_toArray, List.set_cons_zero, List.set_cons_succ, Nat.reduceAdd]; have HS9 := Lib.hid hS; clear hS
         go_wp2_with fail
         go_meet
         case rel =>
          refine ⟨.slice none 0 0, vE, .slice none 0 0, LE, Lib.hid rfl, ?_, ?_⟩
          ·rw [LS.take1E, HOTH.out, HLE.out, ← HSS.out]; simp
          ·rw [LS.turn, if_pos (by rw [HOTH.out]), ← HSS.out, ← HFF.out, HmE.out, HyE.out, HLB.out]; exact HS9.out
    case rest =>
       obtain ⟨vF, vE, bx2, LE, HVF, hLE, hS⟩ := hcut; have HLE := Lib.hid hLE; have hnt : (sS.turn fF).Num := HOS.out.turn fF; clear HS7 HOK Hp1 Hp2 Hp3 HOTH HLOOK HN4 hLE hcc hcm HSN HSS; clear base box got sn si peer conn inc known up heard sent BA bc; obtain ⟨t, Ht⟩ : ∃ t, Hid (sS.turn fF = t) := ⟨_, Lib.hid rfl⟩; rw [Ht.out] at hS hnt; obtain ⟨BA, bc, rfl, hcc, hcm, hbx⟩ := sep_boxForm (i := 8) hS rfl hnt.small; have HOT := Lib.hid hnt; obtain ⟨tT, HTT⟩ : ∃ x, Hid (t = x) := ⟨_, Lib.hid rfl⟩; have HOTT : Hid (tT.Num) := Lib.hid (by rw [← HTT.out]; exact hnt); rw [HTT.out] at Ht; obtain ⟨base, box, got, sn, si, peer, conn, inc, known, up, heard, sent⟩ := t; have hsn : sn ≠ 0 := hnt.sn; have HSN := Lib.hid hsn; have hbb : base + box.length ≤ 34359738367 := hnt.base; have hb48 : box.length ≤ 48 := hnt.box; have hgot : got ≤ 34359738367 := hnt.got; have HFIT : Hid (Fit box) := Lib.hid hnt.fit; obtain ⟨p4, Hp4⟩ : ∃ q, Hid ((!(decide (pinc = si) && decide (pconn = conn))) = q) := ⟨_, Lib.hid rfl⟩; have HKN : Hid ((sS.take1 now fF).knows fF = !p4) := Lib.hid (by
        rw [← Hp4.out, Bool.not_not, LS.take1, Ht.out, ← HTT.out, ← HFF.out]; rfl)
       obtain ⟨mE, HmE⟩ : ∃ x, Hid (LE.length = x) := ⟨_, Lib.hid rfl⟩; obtain ⟨yE, HyE⟩ : ∃ x, Hid (eR_ LE = x) := ⟨_, Lib.hid rfl⟩; obtain ⟨LBE, HLB⟩ : ∃ x, Hid (eB_ LE = x) := ⟨_, Lib.hid rfl⟩; have hmE : mE ≤ 1 := by
        have h1 := congrArg List.length HLE.out; rw [List.length_map, HmE.out] at h1; rw [h1, LS.take1E]; split <;> simp
       rw [HmE.out, HyE.out, HLB.out] at hS; have HS9 := Lib.hid (show Sep w0 wc (TKqF w now g q1 q0 X Qs kk ffr fto finc fconn pinc pconn ack seq A body.length c (Rw 51 10 vF 0 []) (Bods []) (Rw 49 4 vE mE yE) (Bods LBE) (#[vF, vE]) (#[.int .u64 (base : Int), .slice BA box.length bc, .int .u64 (got : Int), .int .i64 sn, .int .u64 (si : Int), .int .i64 peer, .int .u64 (conn : Int), .int .u64 (inc : Int), .int .u64 (known : Int), .bool up, .int .u64 (heard : Int), .int .u64 (sent : Int)]) (BoxT (.slice BA box.length bc) box)) from hS); clear hS hnt hsn hbx; have kl := cA (i := 6) HS9.out rfl 0 rfl; have kn := cA (i := 12) HS9.out rfl 0 rfl; have kh := cA (i := 7) HS9.out rfl 10 rfl; have yh := cFz (i := 7) HS9.out rfl 10; have HS10 := Lib.hid (show Sep w0 (wc.setCell ⟨g, 10, none⟩ (.int .u64 (now : Int))) (TKqF w now g q1 q0 X Qs kk ffr fto finc fconn pinc pconn ack seq A body.length c (Rw 51 10 vF 0 []) (Bods []) (Rw 49 4 vE mE yE) (Bods LBE) (#[vF, vE]) (#[.int .u64 (base : Int), .slice BA box.length bc, .int .u64 (got : Int), .int .i64 sn, .int .u64 (si : Int), .int .i64 peer, .int .u64 (conn : Int), .int .u64 (inc : Int), .int .u64 (known : Int), .bool up, .int .u64 (now : Int), .int .u64 (sent : Int)]) (BoxT (.slice BA box.length bc) box)) from cS (i := 7) HS9.out rfl 10 (.int .u64 (now : Int)))
       go_upto_region 11 with fail
       clear kl kn kh yh; have hp4 : p4 = true := by
        have h := HKN.out; rw [HKN0.out] at h; simpa using h
       subst hp4
       go_cut [121] from 105 to 121 (fun t wx => t = .bool true ∧ Sep w0 wx (TKqF w now g q1 q0 X Qs kk ffr fto finc fconn pinc pconn ack seq A body.length c (Rw 51 10 vF 0 []) (Bods []) (Rw 49 4 vE mE yE) (Bods LBE) (#[vF, vE]) (#[.int .u64 (base : Int), .slice BA box.length bc, .int .u64 (got : Int), .int .i64 sn, .int .u64 (si : Int), .int .i64 peer, .int .u64 (conn : Int), .int .u64 (inc : Int), .int .u64 (known : Int), .bool up, .int .u64 (now : Int), .int .u64 (sent : Int)]) (BoxT (.slice BA box.length bc) box)))
       case first =>
         by_cases h1 : pinc = si
         ·have e1 : ((pinc : Int) != (si : Int)) = false := by simp [h1]
          have H1 := Lib.hid h1; clear h1
          by_cases h2 : pconn = conn
          ·have e2 : ((pconn : Int) != (conn : Int)) = false := by simp [h2]
           have h9 := Hp4.out; rw [decide_eq_true H1.out, decide_eq_true h2] at h9; simp at h9
          ·have e2 : ((pconn : Int) != (conn : Int)) = true := by simp; omega
           have H2 := Lib.hid h2; clear h2
           go_wp2_with fail
           refine wRG (fun dn xv W => Sep w0 W (TKqF w now g q1 q0 X Qs kk ffr fto finc fconn pinc pconn ack seq A body.length c (Rw 51 10 vF 0 []) (Bods []) (Rw 49 4 vE mE yE) (Bods LBE) (#[vF, vE]) (#[.int .u64 (base : Int), .slice BA box.length bc, .int .u64 (got : Int), .int .i64 sn, .int .u64 (si : Int), .int .i64 peer, .int .u64 (conn : Int), .int .u64 (inc : Int), .int .u64 (known : Int), .bool up, .int .u64 (now : Int), .int .u64 (sent : Int)]) (BoxT (.slice BA box.length bc) box))) (fun _ _ => True) [xP_ (w.heap.size + 1 + 1) 5, xV_ (.int .u64 (pinc : Int)), xP_ g 0, xP_ g 0, xP_ g 3, xP_ g 4, xV_ (.int .u64 (si : Int)), xV_ (.bool false), xV_ (.bool false), xP_ (w.heap.size + 1 + 1) 6, xV_ (.int .u64 (pconn : Int)), xP_ g 0, xP_ g 0, xP_ g 6, xV_ (.int .u64 (conn : Int)), xV_ (.bool true), xV_ (.bool true)] (fun xv => by simpa using HS10.out.drew) ?_ ?_
           ·refine Ep 1 5 (w.heap.size + 1 + 1) 0 ?_
            refine Eek 2 105 0 (fun _ _ _ e => cA (i := 11) e rfl 5 rfl) ?_
            refine Epk 3 3 w.heap.size 0 (fun _ _ _ e => cA (i := 6) e rfl 0 rfl) ?_
            refine Ee 4 107 2 ?_
            refine Ee 5 108 3 ?_
            refine Ee 6 109 4 ?_
            refine Eek 7 110 5 (fun _ _ _ e => cA (i := 7) e rfl 4 rfl) ?_
            refine Eee 8 106 1 111 6 ?_
            refine Ee 9 112 7 ?_
            refine Epeg 10 5 (w.heap.size + 1 + 1) 0 113 8 ?_
            refine Eeegk 11 114 9 113 8 (fun _ _ _ e => cA (i := 11) e rfl 6 rfl) ?_
            refine Epegk 12 3 w.heap.size 0 113 8 (fun _ _ _ e => cA (i := 6) e rfl 0 rfl) ?_
            refine Eeeg 13 116 11 113 8 ?_
            refine Eeeg 14 117 12 113 8 ?_
            refine Eeegk 15 118 13 113 8 (fun _ _ _ e => cA (i := 7) e rfl 6 rfl) ?_
            refine Eeeeg 16 115 10 119 14 113 8 ?_
            refine Eee 17 113 8 120 15 ?_
            exact EN
           ·intro dn xv W hI H; have q16 : xv 16 = .bool true := (H 16 (of_decide_eq_true (by kernel_rfl))).2; have hS : Sep w0 W (TKqF w now g q1 q0 X Qs kk ffr fto finc fconn pinc pconn ack seq A body.length c (Rw 51 10 vF 0 []) (Bods []) (Rw 49 4 vE mE yE) (Bods LBE) (#[vF, vE]) (#[.int .u64 (base : Int), .slice BA box.length bc, .int .u64 (got : Int), .int .i64 sn, .int .u64 (si : Int), .int .i64 peer, .int .u64 (conn : Int), .int .u64 (inc : Int), .int .u64 (known : Int), .bool up, .int .u64 (now : Int), .int .u64 (sent : Int)]) (BoxT (.slice BA box.length bc) box)) := hI; clear H hI; simp only [putAll, Act.put, List.setIfInBounds_toArray, List.set_cons_zero, List.set_cons_succ, Nat.reduceAdd, q16]; clear q16
            go_wp2_with fail
            go_meet
            case rel => exact ⟨rfl, hS⟩
         ·have e1 : ((pinc : Int) != (si : Int)) = true := by simp; omega
          have H1 := Lib.hid h1; clear h1
          go_wp2_with fail
          refine wRG (fun dn xv W => Sep w0 W (TKqF w now g q1 q0 X Qs kk ffr fto finc fconn pinc pconn ack seq A body.length c (Rw 51 10 vF 0 []) (Bods []) (Rw 49 4 vE mE yE) (Bods LBE) (#[vF, vE]) (#[.int .u64 (base : Int), .slice BA box.length bc, .int .u64 (got : Int), .int .i64 sn, .int .u64 (si : Int), .int .i64 peer, .int .u64 (conn : Int), .int .u64 (inc : Int), .int .u64 (known : Int), .bool up, .int .u64 (now : Int), .int .u64 (sent : Int)]) (BoxT (.slice BA box.length bc) box))) (fun _ _ => True) [xP_ (w.heap.size + 1 + 1) 5, xV_ (.int .u64 (pinc : Int)), xP_ g 0, xP_ g 0, xP_ g 3, xP_ g 4, xV_ (.int .u64 (si : Int)), xV_ (.bool true), xV_ (.bool true), xV_ undef, xV_ undef, xV_ undef, xV_ undef, xV_ undef, xV_ undef, xV_ undef, xV_ (.bool true)] (fun xv => by simpa using HS10.out.drew) ?_ ?_
          ·refine Ep 1 5 (w.heap.size + 1 + 1) 0 ?_
           refine Eek 2 105 0 (fun _ _ _ e => cA (i := 11) e rfl 5 rfl) ?_
           refine Epk 3 3 w.heap.size 0 (fun _ _ _ e => cA (i := 6) e rfl 0 rfl) ?_
           refine Ee 4 107 2 ?_
           refine Ee 5 108 3 ?_
           refine Ee 6 109 4 ?_
           refine Eek 7 110 5 (fun _ _ _ e => cA (i := 7) e rfl 4 rfl) ?_
           refine Eee 8 106 1 111 6 ?_
           refine Ee 9 112 7 ?_
           refine Eo 10 113 8 ?_
           refine EC 11 rfl (fun g h W F a b c d e H K f => ?_) ?_
           ·have f113 := gE (a 113) (by kernel_rfl) (H 8) (by kernel_rfl); have k11_6 := cA (i := 11) e rfl 6 rfl; clear H c b d a; refine off_guard rfl (by kernel_rfl) f113 (by decide) ?_; exact f.out _ _ rfl trivial e
           refine EC 12 rfl (fun g h W F a b c d e H K f => ?_) ?_
           ·have f113 := gE (a 113) (by kernel_rfl) (H 8) (by kernel_rfl); have k6_0 := cA (i := 6) e rfl 0 rfl; clear H c b d a; refine off_guard rfl (by kernel_rfl) f113 (by decide) ?_; exact f.out _ _ rfl trivial e
           refine Eo 13 113 8 ?_
           refine Eo 14 113 8 ?_
           refine EC 15 rfl (fun g h W F a b c d e H K f => ?_) ?_
           ·have f113 := gE (a 113) (by kernel_rfl) (H 8) (by kernel_rfl); have k7_6 := cA (i := 7) e rfl 6 rfl; clear H c b d a; refine off_guard rfl (by kernel_rfl) f113 (by decide) ?_; exact f.out _ _ rfl trivial e
           refine Eo 16 113 8 ?_
           refine Eee 17 113 8 120 15 ?_
           exact EN
          ·intro dn xv W hI H; have q16 : xv 16 = .bool true := (H 16 (of_decide_eq_true (by kernel_rfl))).2; have hS : Sep w0 W (TKqF w now g q1 q0 X Qs kk ffr fto finc fconn pinc pconn ack seq A body.length c (Rw 51 10 vF 0 []) (Bods []) (Rw 49 4 vE mE yE) (Bods LBE) (#[vF, vE]) (#[.int .u64 (base : Int), .slice BA box.length bc, .int .u64 (got : Int), .int .i64 sn, .int .u64 (si : Int), .int .i64 peer, .int .u64 (conn : Int), .int .u64 (inc : Int), .int .u64 (known : Int), .bool up, .int .u64 (now : Int), .int .u64 (sent : Int)]) (BoxT (.slice BA box.length bc) box)) := hI; clear H hI; simp only [putAll, Act.put, List.setIfInBounds_toArray, List.set_cons_zero, List.set_cons_succ, Nat.reduceAdd, q16]; clear q16
           go_wp2_with fail
           go_meet
           case rel => exact ⟨rfl, hS⟩
       case rest =>
          obtain ⟨rfl, hS⟩ := hcut; clear HS9 HS10; have HHE := Lib.hid (fun (W : World) hh => hello_any W g base (.slice BA box.length bc) got sn si peer conn inc known up now sent hh); obtain ⟨hx, HXS⟩ : ∃ l, Hid ((heCells got sn si peer conn inc known).toList = l) := ⟨_, Lib.hid rfl⟩; have HX1 : Hid (∀ u ∈ hx, u.oneCell' = true) := Lib.hid (by
           rw [← HXS.out]; intro u hu; simp only [heCells, List.mem_cons, List.not_mem_nil, or_false] at hu
           rcases hu with rfl | rfl | rfl | rfl | rfl | rfl | rfl | rfl | rfl | rfl <;> rfl)
          obtain ⟨n, xs, Hnx⟩ : ∃ (n : Nat) (l : List Value), Hid (0 = n ∧ [] = l) := ⟨_, _, Lib.hid ⟨rfl, rfl⟩⟩; have hnb : n ≤ 1000000 := by have := Hnx.out.1; omega
          have HS11 : Hid (Sep w0 wc (TKqF w now g q1 q0 X Qs kk ffr fto finc fconn pinc pconn ack seq A body.length c (Rw 51 10 vF n xs) (Bods []) (Rw 49 4 vE mE yE) (Bods LBE) (#[vF, vE]) (#[.int .u64 (base : Int), .slice BA box.length bc, .int .u64 (got : Int), .int .i64 sn, .int .u64 (si : Int), .int .i64 peer, .int .u64 (conn : Int), .int .u64 (inc : Int), .int .u64 (known : Int), .bool up, .int .u64 (now : Int), .int .u64 (sent : Int)]) (BoxT (.slice BA box.length bc) box))) := Lib.hid (by rw [← Hnx.out.1, ← Hnx.out.2]; exact hS); clear hS; have HKO : ∀ (dn : Nat → Bool) (xv : Nat → Value) (W : World), (if dn 7 = true then ∃ vF, Sep w0 W (TKqF w now g q1 q0 X Qs kk ffr fto finc fconn pinc pconn ack seq A body.length c (Rw 51 10 vF (n + 1) (xs ++ hx)) (Bods []) (Rw 49 4 vE mE yE) (Bods LBE) (#[vF, vE]) (#[.int .u64 (base : Int), .slice BA box.length bc, .int .u64 (got : Int), .int .i64 sn, .int .u64 (si : Int), .int .i64 peer, .int .u64 (conn : Int), .int .u64 (inc : Int), .int .u64 (known : Int), .bool up, .int .u64 (now : Int), .int .u64 (sent : Int)]) (BoxT (.slice BA box.length bc) box)) else if dn 5 = true then Sep w0 W (TKqF w now g q1 q0 X Qs kk ffr fto finc fconn pinc pconn ack seq A body.length c (Rw 51 10 (xv 5) (n + 1) (xs ++ hx)) (Bods []) (Rw 49 4 vE mE yE) (Bods LBE) (#[vF, vE]) (#[.int .u64 (base : Int), .slice BA box.length bc, .int .u64 (got : Int), .int .i64 sn, .int .u64 (si : Int), .int .i64 peer, .int .u64 (conn : Int), .int .u64 (inc : Int), .int .u64 (known : Int), .bool up, .int .u64 (now : Int), .int .u64 (sent : Int)]) (BoxT (.slice BA box.length bc) box)) else if dn 4 = true then Sep w0 W (TKqF w now g q1 q0 X Qs kk ffr fto finc fconn pinc pconn ack seq A body.length c (Rw 51 10 vF n xs) (Bods []) (Rw 49 4 vE mE yE) (Bods LBE) (#[vF, vE]) (#[.int .u64 (base : Int), .slice BA box.length bc, .int .u64 (got : Int), .int .i64 sn, .int .u64 (si : Int), .int .i64 peer, .int .u64 (conn : Int), .int .u64 (inc : Int), .int .u64 (known : Int), .bool up, .int .u64 (now : Int), .int .u64 (sent : Int)]) (BoxT (.slice BA box.length bc) box)) ∧ OneF hx (xv 4) W else if dn 3 = true then Sep w0 W (TKqF w now g q1 q0 X Qs kk ffr fto finc fconn pinc pconn ack seq A body.length c (Rw 51 10 vF n xs) (Bods []) (Rw 49 4 vE mE yE) (Bods LBE) (#[vF, vE]) (#[.int .u64 (base : Int), .slice BA box.length bc, .int .u64 (got : Int), .int .i64 sn, .int .u64 (si : Int), .int .i64 peer, .int .u64 (conn : Int), .int .u64 (inc : Int), .int .u64 (known : Int), .bool up, .int .u64 (now : Int), .int .u64 (sent : Int)]) (BoxT (.slice BA box.length bc) box)) else Sep w0 W (TKqF w now g q1 q0 X Qs kk ffr fto finc fconn pinc pconn ack seq A body.length c (Rw 51 10 vF n xs) (Bods []) (Rw 49 4 vE mE yE) (Bods LBE) (#[vF, vE]) (#[.int .u64 (base : Int), .slice BA box.length bc, .int .u64 (got : Int), .int .i64 sn, .int .u64 (si : Int), .int .i64 peer, .int .u64 (conn : Int), .int .u64 (inc : Int), .int .u64 (known : Int), .bool up, .int .u64 (now : Int), .int .u64 (sent : Int)]) (BoxT (.slice BA box.length bc) box))) → dn 7 = false → W.cell? ⟨w.heap.size + 1 + 1 + 1 + 1, 0, none⟩ = some vF := fun dn xv W h h0 => by
           rw [if_neg (by simp [h0])] at h; split at h
           ·exact cA (i := 4) h rfl 0 rfl
           split at h
           ·have h := h.1; exact cA (i := 4) h rfl 0 rfl
           split at h
           ·exact cA (i := 4) h rfl 0 rfl
           exact cA (i := 4) h rfl 0 rfl
          have HKL : ∀ (dn : Nat → Bool) (xv : Nat → Value) (W : World), (if dn 7 = true then ∃ vF, Sep w0 W (TKqF w now g q1 q0 X Qs kk ffr fto finc fconn pinc pconn ack seq A body.length c (Rw 51 10 vF (n + 1) (xs ++ hx)) (Bods []) (Rw 49 4 vE mE yE) (Bods LBE) (#[vF, vE]) (#[.int .u64 (base : Int), .slice BA box.length bc, .int .u64 (got : Int), .int .i64 sn, .int .u64 (si : Int), .int .i64 peer, .int .u64 (conn : Int), .int .u64 (inc : Int), .int .u64 (known : Int), .bool up, .int .u64 (now : Int), .int .u64 (sent : Int)]) (BoxT (.slice BA box.length bc) box)) else if dn 5 = true then Sep w0 W (TKqF w now g q1 q0 X Qs kk ffr fto finc fconn pinc pconn ack seq A body.length c (Rw 51 10 (xv 5) (n + 1) (xs ++ hx)) (Bods []) (Rw 49 4 vE mE yE) (Bods LBE) (#[vF, vE]) (#[.int .u64 (base : Int), .slice BA box.length bc, .int .u64 (got : Int), .int .i64 sn, .int .u64 (si : Int), .int .i64 peer, .int .u64 (conn : Int), .int .u64 (inc : Int), .int .u64 (known : Int), .bool up, .int .u64 (now : Int), .int .u64 (sent : Int)]) (BoxT (.slice BA box.length bc) box)) else if dn 4 = true then Sep w0 W (TKqF w now g q1 q0 X Qs kk ffr fto finc fconn pinc pconn ack seq A body.length c (Rw 51 10 vF n xs) (Bods []) (Rw 49 4 vE mE yE) (Bods LBE) (#[vF, vE]) (#[.int .u64 (base : Int), .slice BA box.length bc, .int .u64 (got : Int), .int .i64 sn, .int .u64 (si : Int), .int .i64 peer, .int .u64 (conn : Int), .int .u64 (inc : Int), .int .u64 (known : Int), .bool up, .int .u64 (now : Int), .int .u64 (sent : Int)]) (BoxT (.slice BA box.length bc) box)) ∧ OneF hx (xv 4) W else if dn 3 = true then Sep w0 W (TKqF w now g q1 q0 X Qs kk ffr fto finc fconn pinc pconn ack seq A body.length c (Rw 51 10 vF n xs) (Bods []) (Rw 49 4 vE mE yE) (Bods LBE) (#[vF, vE]) (#[.int .u64 (base : Int), .slice BA box.length bc, .int .u64 (got : Int), .int .i64 sn, .int .u64 (si : Int), .int .i64 peer, .int .u64 (conn : Int), .int .u64 (inc : Int), .int .u64 (known : Int), .bool up, .int .u64 (now : Int), .int .u64 (sent : Int)]) (BoxT (.slice BA box.length bc) box)) else Sep w0 W (TKqF w now g q1 q0 X Qs kk ffr fto finc fconn pinc pconn ack seq A body.length c (Rw 51 10 vF n xs) (Bods []) (Rw 49 4 vE mE yE) (Bods LBE) (#[vF, vE]) (#[.int .u64 (base : Int), .slice BA box.length bc, .int .u64 (got : Int), .int .i64 sn, .int .u64 (si : Int), .int .i64 peer, .int .u64 (conn : Int), .int .u64 (inc : Int), .int .u64 (known : Int), .bool up, .int .u64 (now : Int), .int .u64 (sent : Int)]) (BoxT (.slice BA box.length bc) box))) → W.cell? ⟨w.heap.size, 0, none⟩ = some (.pointer (some ⟨g, 0, none⟩)) := fun dn xv W h => by
           split at h
           ·obtain ⟨_, h⟩ := h; exact cA (i := 6) h rfl 0 rfl
           split at h
           ·exact cA (i := 6) h rfl 0 rfl
           split at h
           ·have h := h.1; exact cA (i := 6) h rfl 0 rfl
           split at h
           ·exact cA (i := 6) h rfl 0 rfl
           exact cA (i := 6) h rfl 0 rfl
          go_wp2_with fail
          refine wRG (fun dn xv W => if dn 7 = true then ∃ vF, Sep w0 W (TKqF w now g q1 q0 X Qs kk ffr fto finc fconn pinc pconn ack seq A body.length c (Rw 51 10 vF (n + 1) (xs ++ hx)) (Bods []) (Rw 49 4 vE mE yE) (Bods LBE) (#[vF, vE]) (#[.int .u64 (base : Int), .slice BA box.length bc, .int .u64 (got : Int), .int .i64 sn, .int .u64 (si : Int), .int .i64 peer, .int .u64 (conn : Int), .int .u64 (inc : Int), .int .u64 (known : Int), .bool up, .int .u64 (now : Int), .int .u64 (sent : Int)]) (BoxT (.slice BA box.length bc) box)) else if dn 5 = true then Sep w0 W (TKqF w now g q1 q0 X Qs kk ffr fto finc fconn pinc pconn ack seq A body.length c (Rw 51 10 (xv 5) (n + 1) (xs ++ hx)) (Bods []) (Rw 49 4 vE mE yE) (Bods LBE) (#[vF, vE]) (#[.int .u64 (base : Int), .slice BA box.length bc, .int .u64 (got : Int), .int .i64 sn, .int .u64 (si : Int), .int .i64 peer, .int .u64 (conn : Int), .int .u64 (inc : Int), .int .u64 (known : Int), .bool up, .int .u64 (now : Int), .int .u64 (sent : Int)]) (BoxT (.slice BA box.length bc) box)) else if dn 4 = true then Sep w0 W (TKqF w now g q1 q0 X Qs kk ffr fto finc fconn pinc pconn ack seq A body.length c (Rw 51 10 vF n xs) (Bods []) (Rw 49 4 vE mE yE) (Bods LBE) (#[vF, vE]) (#[.int .u64 (base : Int), .slice BA box.length bc, .int .u64 (got : Int), .int .i64 sn, .int .u64 (si : Int), .int .i64 peer, .int .u64 (conn : Int), .int .u64 (inc : Int), .int .u64 (known : Int), .bool up, .int .u64 (now : Int), .int .u64 (sent : Int)]) (BoxT (.slice BA box.length bc) box)) ∧ OneF hx (xv 4) W else if dn 3 = true then Sep w0 W (TKqF w now g q1 q0 X Qs kk ffr fto finc fconn pinc pconn ack seq A body.length c (Rw 51 10 vF n xs) (Bods []) (Rw 49 4 vE mE yE) (Bods LBE) (#[vF, vE]) (#[.int .u64 (base : Int), .slice BA box.length bc, .int .u64 (got : Int), .int .i64 sn, .int .u64 (si : Int), .int .i64 peer, .int .u64 (conn : Int), .int .u64 (inc : Int), .int .u64 (known : Int), .bool up, .int .u64 (now : Int), .int .u64 (sent : Int)]) (BoxT (.slice BA box.length bc) box)) else Sep w0 W (TKqF w now g q1 q0 X Qs kk ffr fto finc fconn pinc pconn ack seq A body.length c (Rw 51 10 vF n xs) (Bods []) (Rw 49 4 vE mE yE) (Bods LBE) (#[vF, vE]) (#[.int .u64 (base : Int), .slice BA box.length bc, .int .u64 (got : Int), .int .i64 sn, .int .u64 (si : Int), .int .i64 peer, .int .u64 (conn : Int), .int .u64 (inc : Int), .int .u64 (known : Int), .bool up, .int .u64 (now : Int), .int .u64 (sent : Int)]) (BoxT (.slice BA box.length bc) box))) (fun _ _ => True) [xP_ (w.heap.size + 1 + 1 + 1 + 1) 0, xV_ vF, xP_ g 0, xV_ (.agg #[.int .i64 1, .int .i64 sn, .int .i64 peer, .int .u64 (si : Int), .int .u64 (conn : Int), .int .u64 (inc : Int), .int .u64 (known : Int), .int .u64 (got : Int), .int .u64 0, .slice none 0 0]), fun v _ => True, fun v _ => True, xP_ (w.heap.size + 1 + 1 + 1 + 1) 0, fun v _ => True] (fun xv => by simpa using HS11.out.drew) ?_ ?_
          ·refine Ep 1 7 (w.heap.size + 1 + 1 + 1 + 1) 0 ?_
           refine EC 2 rfl (fun g h W F a b c d e H K f => ?_) ?_
           ·have f122 := gE (a 122) (by kernel_rfl) (H 0) (by kernel_rfl); have kk := HKO g h W e (c 7 (uM 5 uE)); clear H c b d a; refine oP rfl ?_; go_simp; exact f.out _ _ rfl trivial e
           refine Epk 3 3 w.heap.size 0 (fun g h W e => HKL g h W e) ?_
           refine EC 4 rfl (fun l m W F a b d f h H K k => ?_) ?_
           ·have f124 := gE (a 124) (by kernel_rfl) (H 2) (by kernel_rfl); have q4 := d 4 uE; have q5 := d 5 (uM 4 uE); have q7 := d 7 (uM 5 (uM 4 uE)); rw [if_neg (by simp [q7]), if_neg (by simp [q5]), if_neg (by simp [q4]), if_neg (by simp [b])] at h; have hS := h; clear h d b f a H; refine oP rfl ?_; go_simp; refine (HHE.out W (cH (i := 7) hS rfl)).mono ?_; rintro e W' ⟨rfl, hb⟩; have hs : Sep w0 W' (TKqF w now g q1 q0 X Qs kk ffr fto finc fconn pinc pconn ack seq A body.length c (Rw 51 10 vF n xs) (Bods []) (Rw 49 4 vE mE yE) (Bods LBE) (#[vF, vE]) (#[.int .u64 (base : Int), .slice BA box.length bc, .int .u64 (got : Int), .int .i64 sn, .int .u64 (si : Int), .int .i64 peer, .int .u64 (conn : Int), .int .u64 (inc : Int), .int .u64 (known : Int), .bool up, .int .u64 (now : Int), .int .u64 (sent : Int)]) (BoxT (.slice BA box.length bc) box)) := hS.grow hb; exact k.out _ W' rfl trivial (by simpa [upB, upd, q4, q5, q7] using hs)
           refine EC 5 rfl (fun i k W F a b d e f H K h => ?_) ?_
           ·have f125 := gE (a 125) (by kernel_rfl) (H 3) (by kernel_rfl); have q3 := (H 3 uE).1; have q5 := d 5 uE; have q7 := d 7 (uM 5 uE); rw [if_neg (by simp [q7]), if_neg (by simp [q5]), if_neg (by simp [b]), if_pos q3] at f; have hS := f; clear f d b e a H; refine oP rfl ?_; have g125 := f125; rw [Array.getD_eq_getD_getElem?] at g125; go_simp; have hb : Below W.heap.size W (W.alloc (.cells #[.int .i64 1, .int .i64 sn, .int .i64 peer, .int .u64 (si : Int), .int .u64 (conn : Int), .int .u64 (inc : Int), .int .u64 (known : Int), .int .u64 (got : Int), .int .u64 0, .slice none 0 0] 51)) := (Below.refl _ _).alloc (Nat.le_refl _) _; have hs : Sep w0 (W.alloc (.cells #[.int .i64 1, .int .i64 sn, .int .i64 peer, .int .u64 (si : Int), .int .u64 (conn : Int), .int .u64 (inc : Int), .int .u64 (known : Int), .int .u64 (got : Int), .int .u64 0, .slice none 0 0] 51)) (TKqF w now g q1 q0 X Qs kk ffr fto finc fconn pinc pconn ack seq A body.length c (Rw 51 10 vF n xs) (Bods []) (Rw 49 4 vE mE yE) (Bods LBE) (#[vF, vE]) (#[.int .u64 (base : Int), .slice BA box.length bc, .int .u64 (got : Int), .int .i64 sn, .int .u64 (si : Int), .int .i64 peer, .int .u64 (conn : Int), .int .u64 (inc : Int), .int .u64 (known : Int), .bool up, .int .u64 (now : Int), .int .u64 (sent : Int)]) (BoxT (.slice BA box.length bc) box)) ∧ OneF hx (.slice (some ⟨W.heap.size, 0, none⟩) 1 1) (W.alloc (.cells #[.int .i64 1, .int .i64 sn, .int .i64 peer, .int .u64 (si : Int), .int .u64 (conn : Int), .int .u64 (inc : Int), .int .u64 (known : Int), .int .u64 (got : Int), .int .u64 0, .slice none 0 0] 51)) := ⟨hS.grow hb, HXS.out ▸ OneF.new W _⟩; exact h.out _ _ trivial trivial (by simpa [upB, upd, q5, q7] using hs)
           refine EC 6 rfl (fun j k W F a b d e f H K h => ?_) ?_
           ·have f123 := gE (a 123) (by kernel_rfl) (H 1) (by kernel_rfl); have f126 : F.tmps.getD 126 undef = k 4 := (a 126).trans (by kernel_rfl); have q4 := (H 4 uE).1; have q7 := d 7 uE; rw [if_neg (by simp [q7]), if_neg (by simp [b]), if_pos q4] at f; have hS := f; clear f d b e a H; refine oP rfl ?_; obtain ⟨s1, A3, c3, e3, hl3, hh3⟩ := hS; have fex := f126.trans e3; refine sep_opAppW rowFrames (i := 0) (s := .tmp 123) (x := .tmp 126) (m := 1) (news := hx) (by rfl) f123 fex s1 rfl (by rw [hl3]) hh3 HX1.out (by unfold maxLen; omega) (by omega) ?_; intro v W' hs0; have hs : Sep w0 W' (TKqF w now g q1 q0 X Qs kk ffr fto finc fconn pinc pconn ack seq A body.length c (Rw 51 10 v (n + 1) (xs ++ hx)) (Bods []) (Rw 49 4 vE mE yE) (Bods LBE) (#[vF, vE]) (#[.int .u64 (base : Int), .slice BA box.length bc, .int .u64 (got : Int), .int .i64 sn, .int .u64 (si : Int), .int .i64 peer, .int .u64 (conn : Int), .int .u64 (inc : Int), .int .u64 (known : Int), .bool up, .int .u64 (now : Int), .int .u64 (sent : Int)]) (BoxT (.slice BA box.length bc) box)) := hs0; exact h.out v W' trivial trivial (by simpa [upB, upd, q7] using hs)
           refine Ep 7 7 (w.heap.size + 1 + 1 + 1 + 1) 0 ?_
           refine EC 8 rfl (fun j k W F a b d e f H K h => ?_) ?_
           ·have f127 : F.tmps.getD 127 undef = k 5 := (a 127).trans (by kernel_rfl); have f128 := gE (a 128) (by kernel_rfl) (H 6) (by kernel_rfl); have q5 := (H 5 uE).1; rw [if_neg (by simp [b]), if_pos q5] at f; have hS := f; clear f d b e a H; refine oP rfl ?_; obtain ⟨A2, c2, e2, _⟩ := sep_rwForm (i := 0) hS rfl; have hc3 := cA (i := 4) hS rfl 0 rfl; have hf3 := cFz (i := 4) hS rfl 0; rw [e2] at hS; have hs0 := cS (i := 4) hS rfl 0 (.slice A2 (n + 1) c2); have hs : ∃ vF, Sep w0 (W.setCell ⟨w.heap.size + 1 + 1 + 1 + 1, 0, none⟩ (.slice A2 (n + 1) c2)) (TKqF w now g q1 q0 X Qs kk ffr fto finc fconn pinc pconn ack seq A body.length c (Rw 51 10 vF (n + 1) (xs ++ hx)) (Bods []) (Rw 49 4 vE mE yE) (Bods LBE) (#[vF, vE]) (#[.int .u64 (base : Int), .slice BA box.length bc, .int .u64 (got : Int), .int .i64 sn, .int .u64 (si : Int), .int .i64 peer, .int .u64 (conn : Int), .int .u64 (inc : Int), .int .u64 (known : Int), .bool up, .int .u64 (now : Int), .int .u64 (sent : Int)]) (BoxT (.slice BA box.length bc) box)) := ⟨_, hs0⟩; clear hs0; go_simp; exact h.out undef _ trivial trivial (by simpa [upB, upd] using hs)
           exact EN
          ·intro dn xv W hI H; have qe : dn 7 = true := (H 7 (of_decide_eq_true (by kernel_rfl))).1; rw [if_pos qe] at hI; have hS := hI; clear H hI qe; simp only [putAll, Act.put, List.setIfInBounds_toArray, List.set_cons_zero, List.set_cons_succ, Nat.reduceAdd]; obtain ⟨vF, hS⟩ := hS; obtain ⟨A2, c2, rfl, _⟩ := sep_rwForm (i := 0) hS rfl; obtain ⟨AE, cE, rfl, _⟩ := sep_rwForm (i := 2) hS rfl; have HS12 := Lib.hid hS; clear hS; have k0 := cA (i := 4) HS12.out rfl 0 rfl; have k1 := cA (i := 4) HS12.out rfl 1 rfl; have y0 := cFz (i := 5) HS12.out rfl 0; have y1 := cFz (i := 5) HS12.out rfl 1; have z0 := cA (i := 5) HS12.out rfl 0 rfl; have z1 := cA (i := 5) HS12.out rfl 1 rfl; have HSZ := Lib.hid (cS (i := 5) (cS (i := 5) HS12.out rfl 0 (.slice A2 (n + 1) c2)) rfl 1 (.slice AE mE cE))
           go_wp2_with fail
           have k0 := cA (i := 5) HSZ.out rfl 0 rfl; have k1 := cA (i := 5) HSZ.out rfl 1 rfl; refine ⟨.agg #[.slice A2 (n + 1) c2, .slice AE mE cE], by simp [results, Try.results15, go_sem, k0, k1], ?_⟩; refine ⟨_, _, .slice BA box.length bc, [((sS.take1 now fF).hello, .slice none 0 0)], LE, rfl, ?_, ?_, ?_⟩
           ·rw [LS.takeF, if_pos HLK.out]; simp only; rw [if_neg (by rw [HKN.out]; simp)]; rfl
           ·rw [LS.takeE, if_pos HLK.out]; simp only; rw [if_neg (by rw [HKN.out]; simp), HLE.out, List.append_nil]
           ·rw [LS.take, if_pos HLK.out]; simp only; rw [if_neg (by rw [HKN.out]; simp), LS.take1, Ht.out, ← HTT.out, HmE.out, HyE.out, HLB.out]; have hx := sep_bodsNone (i := 1) (((((((HSZ.out.drop 4).drop 4).drop 4).drop 6).drop 6).drop 6).drop 6) rfl; rw [← HXS.out] at hx; obtain ⟨e1, e2⟩ := Hnx.out; subst e1 e2; exact hx
end Go.Proofs.Ytngegjboenfmeaa
