/- The walk of the document's Read of a frame. -/
import Derived.Test.YtcjafbpgjlcdpaaDoorFrmD
import Derived.Test.YtcjafbpgjlcdpaaDoorFrmB
import Derived.Test.YtcjafbpgjlcdpaaDoorAsk
import Derived.Test.YtcjafbpgjlcdpaaDoorRgF
import Derived.Test.YtcjafbpgjlcdpaaDoorRgB
import Derived.BigRegion
import Derived.OpenShut
import Derived.Deep.RegionHeld3
namespace Go.Proofs.YtcjafbpgjlcdpaaDoor
open Go Go.RowKit
set_option linter.unusedVariables false
set_option maxRecDepth 100000
set_option linter.unusedSimpArgs false

theorem own_row_in5 {w : World} {v : Value} {l : List UInt8} (h : Own w 0 v l) : ∃ rb A c, v = .slice A l.length c ∧ l.length ≤ c ∧ c ≤ maxLen ∧ HasIn w rb A (us l) ∧ (0 < l.length → v.ownBlock = some rb) := by
  rcases h.2 with ⟨rfl, hn⟩ | ⟨g, cap, cur, rfl, hg, hh, hnc, hm, hs, ht⟩
  · refine ⟨0, none, 0, by rw [hn], by omega, by unfold maxLen; omega, ?_, fun h0 => by omega⟩
    rw [List.eq_nil_of_length_eq_zero hn]; exact HasIn.nil
  · refine ⟨g, some ⟨g, 0, none⟩, cap, rfl, hnc, hm, fun j u hu => ⟨0, rfl, ?_⟩, fun _ => rfl⟩
    have h0 := h
    rw [Nat.zero_add, cell_of_row w g j cur _ (0, 0) hh]
    rw [← ht, List.getElem?_take] at hu
    split at hu
    · simpa using hu
    · cases hu
/-- the document's Reader of bytes of one's own, cut at their front -/
theorem sep_mkRfD {w0 w : World} {Ps : List SP} {i n c : Nat} {A : Option Addr} {l : List UInt8} (h : Sep w0 w Ps) (hi : Ps[i]? = some (By (.slice A n c) l)) (k : Nat) (hk : k ≤ l.length) :
    Sep w0 (w.alloc (.cells #[.slice (if c = k then A else A.map (·.add k)) (l.length - k) (c - k), .bool false] 67)) (Ps.set i (Rf w.heap.size (l.drop k) false)) := by
  obtain ⟨F, ⟨ho, hF⟩, hL, hlt, hkk⟩ := h.upd hi
  obtain ⟨rb, A', c', e, h1, h2, h3, h4⟩ := own_row_in5 ho
  injection e with e1 e2 e3
  subst e1 e3
  have hl : (l.drop k).length = l.length - k := by simp
  refine hkk _ _ (fun j => j = w.heap.size ∨ (j = rb ∧ 0 < (l.drop k).length)) ⟨rfl, rfl, rfl, by simp, fun k hk _ => Below.heap_alloc w _ k hk, fun j hj => ?_⟩ ⟨rb, ⟨_, _, by rw [hl]; exact heap_alloc_new w _, by rw [hl]; omega, by omega, ?_⟩, fun k => Iff.rfl⟩ (Rf.loc _ _ _)
  · rcases hj with rfl | ⟨rfl, e⟩
    · exact .inr (Nat.le_refl _)
    · exact .inl ((hF _).2 (h4 (by rw [hl] at e; omega)))
  · rw [us_drop]
    refine (h3.drop k c (by rw [us_length]; exact h1)).keep fun hj => Below.heap_alloc w _ rb ?_
    rw [← us_drop, us_length, hl] at hj
    exact (ho.lt rb (h4 (by omega))).2
theorem elem_size (W : World) : (sizeOf (Tryd.prog.elem 23)).run Tryd.prog W = .ok 1 W := by kernel_rfl
theorem run_from3 (W : World) (A : Option Addr) (n c : Nat) (h : 3 ≤ n) : (Instr.slice 23 (.slice A n c) (some (.int .i64 3)) none none).run Tryd.prog W = .ok (.slice (if c = 3 then A else A.map (·.add 3)) (n - 3) (c - 3)) W := by
  rw [run_slice_l W 23 A n c (by kernel_rfl) .i64 3 (by omega) (by omega), elem_size W]
  rfl
theorem has_cell5 {w : World} {B b o j : Nat} {xs : List Value} {u : Value} (h : Has w B (some ⟨b, o, none⟩) xs) (hj : xs[j]? = some u) : w.cell? ⟨b, o + j, none⟩ = some u := by
  obtain ⟨b', o', e, _, hc⟩ := h j u hj
  injection e with e
  injection e with e1 e2
  rw [e1, e2]
  exact hc
section
variable {w0 w : World} {Ps : List SP} {i g : Nat}
theorem sep_hU {s : Rs} (h : Sep w0 w Ps) (hi : Ps[i]? = some (Rf g s.1 s.2)) (hl : s.1.length ≤ 1000000000) :
    Calls Tryd.prog 38 #[.pointer (some ⟨g, 0, none⟩)] w fun e w' => e = .returned (.int .u64 ((gU s).1 : Int)) ∧ Sep w0 w' (Ps.set i (Rf g (gU s).2.1 (gU s).2.2)) :=
  sep_readsF h hi (gU_len s) fun rb hr => refUintR_any w g rb s.1 s.2 hr hl
theorem sep_hT {s : Rs} (h : Sep w0 w Ps) (hi : Ps[i]? = some (Rf g s.1 s.2)) (hl : s.1.length ≤ 1000000000) :
    Calls Tryd.prog 39 #[.pointer (some ⟨g, 0, none⟩), .int .i64 448] w fun e w' => e = .returned (.string ⟨(gT s).1.toArray⟩) ∧ Sep w0 w' (Ps.set i (Rf g (gT s).2.1 (gT s).2.2)) :=
  sep_readsF h hi (gT_len s) fun rb hr => refTextR_any w g rb s.1 s.2 448 hr hl (by omega) (by omega)
theorem sep_rfCells {l : List UInt8} {bad : Bool} (h : Sep w0 w Ps) (hi : Ps[i]? = some (Rf g l bad)) : ∃ A c, w.cell? ⟨g, 0, none⟩ = some (.slice A l.length c) ∧ w.cell? ⟨g, 1, none⟩ = some (.bool bad) := by
  obtain ⟨F, rb, hr, _⟩ := h.get hi
  obtain ⟨A, c, h0, h1, _⟩ := hr.parts
  exact ⟨A, c, h0, h1⟩
end
theorem sep_bodyHas {w0 w : World} {Ps : List SP} {i n c g : Nat} {l : List UInt8} (h : Sep w0 w Ps) (hi : Ps[i]? = some (Cv (.slice (some ⟨g, 0, none⟩) n c) l)) : Has w w.heap.size (some ⟨g, 0, none⟩) (us l) := by
  obtain ⟨A9, c9, e9, h9⟩ := sep_cvHas h hi
  injection e9 with e9 _ _
  rw [e9]
  exact h9
theorem mayRb5 {w : World} {f : Fr} {A : Option Addr} {c : Nat} {b : Bool} (hb : f.may = b) (hl : f.body.length ≤ maxLen) : Calls Tryd.prog 11 #[.agg (f.cells A c)] w fun e w' => e = .returned (.bool b) ∧ Below w.heap.size w w' := by
  have h := mayR (w := w) (A := A) (c := c) hl
  rw [hb] at h
  exact h
def sr (m : List UInt8) : Nat → Rs
  | 0 => (m.drop 3, false)
  | k + 1 => (gU (sr m k)).2
theorem sr_len (m : List UInt8) (k : Nat) : (sr m k).1.length ≤ m.length := by
  induction k with
  | zero => simp [sr]
  | succ k ih => exact Nat.le_trans (gU_len _) ih

set_option maxHeartbeats 6400000 in
theorem refRead_any (w : World) (B : Nat) (A : Option Addr) (c : Nat) (b : List UInt8) (hA : Has w B A (us b)) (hB : B ≤ w.heap.size) (hc : b.length ≤ c) (hl : b.length ≤ 1000000000) :
    Calls Tryd.prog 18 #[.slice A b.length c] w (Decs (.bool true) (.bool false) w b) := by
  have HA := Lib.hid (hA.more hB)
  clear hA hB
  have HS0 := Lib.hid (show Sep w (w.alloc (.cells #[.int .i64 0, .int .i64 0, .int .i64 0, .int .u64 0, .int .u64 0, .int .u64 0, .int .u64 0, .int .u64 0, .int .u64 0, .slice none 0 0] 25)) [Ce w.heap.size 25 #[.int .i64 0, .int .i64 0, .int .i64 0, .int .u64 0, .int .u64 0, .int .u64 0, .int .u64 0, .int .u64 0, .int .u64 0, .slice none 0 0]] from sep_ce (Sep.nil w) #[.int .i64 0, .int .i64 0, .int .i64 0, .int .u64 0, .int .u64 0, .int .u64 0, .int .u64 0, .int .u64 0, .int .u64 0, .slice none 0 0] 25)
  have ho := refOpen_any (w.alloc (.cells #[.int .i64 0, .int .i64 0, .int .i64 0, .int .u64 0, .int .u64 0, .int .u64 0, .int .u64 0, .int .u64 0, .int .u64 0, .slice none 0 0] 25)) w.heap.size A c b (HA.out.alloc (Nat.le_refl _) _) (le_alloc (Nat.le_refl _) _) hc hl
  go_enter Tryd.func18, Tryd.ntmps18
  go_wp2_with fail
  refine ho.mono ?_
  clear ho
  rintro e w1 (⟨m, v, hop, rfl, ho1, hb1⟩ | ⟨hop, rfl, hb1⟩)
  · obtain ⟨A1, c1, rfl, h11, h12, h13⟩ := ho1.form
    have hml : m.length ≤ 1000000000 := by
      have := congrArg List.length (opened_some hop)
      rw [sealed_len] at this
      omega
    have HS1 := Lib.hid (show Sep w w1 [Ce w.heap.size 25 #[.int .i64 0, .int .i64 0, .int .i64 0, .int .u64 0, .int .u64 0, .int .u64 0, .int .u64 0, .int .u64 0, .int .u64 0, .slice none 0 0], By (.slice A1 m.length c1) m] from sep_new5 HS0.out ho1 hb1)
    have H13 := Lib.hid h13
    have HOP := Lib.hid hop
    clear HS0 hb1 ho1 h13 hop
    by_cases h3 : m.length < 3
    · have k0 := sep_ceAt (i := 0) HS1.out rfl 0 rfl
      have k1 := sep_ceAt (i := 0) HS1.out rfl 1 rfl
      have k2 := sep_ceAt (i := 0) HS1.out rfl 2 rfl
      have k3 := sep_ceAt (i := 0) HS1.out rfl 3 rfl
      have k4 := sep_ceAt (i := 0) HS1.out rfl 4 rfl
      have k5 := sep_ceAt (i := 0) HS1.out rfl 5 rfl
      have k6 := sep_ceAt (i := 0) HS1.out rfl 6 rfl
      have k7 := sep_ceAt (i := 0) HS1.out rfl 7 rfl
      have k8 := sep_ceAt (i := 0) HS1.out rfl 8 rfl
      have k9 := sep_ceAt (i := 0) HS1.out rfl 9 rfl
      have y0 := sep_ceFrozen (i := 0) HS1.out rfl 0
      have y1 := sep_ceFrozen (i := 0) HS1.out rfl 1
      have y2 := sep_ceFrozen (i := 0) HS1.out rfl 2
      have y3 := sep_ceFrozen (i := 0) HS1.out rfl 3
      have y4 := sep_ceFrozen (i := 0) HS1.out rfl 4
      have y5 := sep_ceFrozen (i := 0) HS1.out rfl 5
      have y6 := sep_ceFrozen (i := 0) HS1.out rfl 6
      have y7 := sep_ceFrozen (i := 0) HS1.out rfl 7
      have y8 := sep_ceFrozen (i := 0) HS1.out rfl 8
      have y9 := sep_ceFrozen (i := 0) HS1.out rfl 9
      go_wp2_with fail
      obtain ⟨_, hs2⟩ := sep_put10 (i := 0) HS1.out rfl (.int .i64 0) (.int .i64 0) (.int .i64 0) (.int .u64 0) (.int .u64 0) (.int .u64 0) (.int .u64 0) (.int .u64 0) (.int .u64 0) (.slice none 0 0)
      refine bodyPost_ret (v := .tuple #[.agg #[.int .i64 0, .int .i64 0, .int .i64 0, .int .u64 0, .int .u64 0, .int .u64 0, .int .u64 0, .int .u64 0, .int .u64 0, .slice none 0 0], .bool false]) (by simp [results, Tryd.results18, go_sem, k0, k1, k2, k3, k4, k5, k6, k7, k8, k9]) rfl ?_
      exact .inr ⟨fun f hf => (by have h := ((isFr_rf HOP.out f).1 hf).1; omega), rfl, hs2.bel⟩
    · have HS2 := Lib.hid (show Sep w (w1.alloc (.cells #[.slice (if c1 = 3 then A1 else A1.map (·.add 3)) (m.length - 3) (c1 - 3), .bool false] 67)) [Ce w.heap.size 25 #[.int .i64 0, .int .i64 0, .int .i64 0, .int .u64 0, .int .u64 0, .int .u64 0, .int .u64 0, .int .u64 0, .int .u64 0, .slice none 0 0], Rf w1.heap.size (sr m 0).1 (sr m 0).2] from sep_mkRfD (i := 1) HS1.out rfl 3 (by omega))
      clear HS1
      obtain ⟨a0, a1, a2, mr, HMR⟩ : ∃ a0 a1 a2 mr, Hid (m = a0 :: a1 :: a2 :: mr) := by
        rcases m with _ | ⟨a0, _ | ⟨a1, _ | ⟨a2, mr⟩⟩⟩
        · simp at h3
        · simp at h3
        · simp at h3
        · exact ⟨a0, a1, a2, mr, Lib.hid rfl⟩
      have rs := fun W => run_from3 W A1 m.length c1 (by omega)
      obtain ⟨SA, HSA⟩ : ∃ v, Hid ((if c1 = 3 then A1 else A1.map (·.add 3)) = v) := ⟨_, Lib.hid rfl⟩
      obtain ⟨sn, Hsn⟩ : ∃ v, Hid (m.length - 3 = v) := ⟨_, Lib.hid rfl⟩
      obtain ⟨sc, Hsc⟩ : ∃ v, Hid (c1 - 3 = v) := ⟨_, Lib.hid rfl⟩
      rw [HSA.out, Hsn.out, Hsc.out] at HS2 rs
      clear HSA Hsn Hsc
      go_wp2_with fail
      clear rs
      obtain ⟨gm, om, rfl, hgm, hc0⟩ := H13.out.at_ (show 0 < (us m).length by rw [us_length]; omega)
      have hc0 := H13.out
      have q0 : (us m)[0]? = some (.int .u8 (a0.toNat : Int)) := by rw [HMR.out]; rfl
      have q1 : (us m)[1]? = some (.int .u8 (a1.toNat : Int)) := by rw [HMR.out]; rfl
      have q2 : (us m)[2]? = some (.int .u8 (a2.toNat : Int)) := by rw [HMR.out]; rfl
      have k0 := has_cell5 H13.out q0
      have k1 := has_cell5 H13.out q1
      have k2 := has_cell5 H13.out q2
      rw [Nat.add_zero] at k0
      clear hc0 q0 q1 q2
      obtain ⟨n, HN⟩ : ∃ n, Hid (m.length = n) := ⟨_, Lib.hid rfl⟩
      rw [HN.out] at hml h3 h11 ⊢
      have hgm1 : gm ≠ w1.heap.size := by omega
      have b0 := a0.toNat_lt
      have b1 := a1.toNat_lt
      have b2 := a2.toNat_lt
      go_wp2_with fail
      go_region
      clear k0 k1 k2 hc0 hgm1
      obtain ⟨x0, Hx0⟩ : ∃ x : Nat, Hid (a0.toNat = x) := ⟨_, Lib.hid rfl⟩
      obtain ⟨x1, Hx1⟩ : ∃ x : Nat, Hid (a1.toNat = x) := ⟨_, Lib.hid rfl⟩
      obtain ⟨x2, Hx2⟩ : ∃ x : Nat, Hid (a2.toNat = x) := ⟨_, Lib.hid rfl⟩
      rw [Hx0.out, Hx1.out, Hx2.out]
      clear b0 b1 b2 h3
      have HS3 := Lib.hid (show Sep w _ [Ce w.heap.size 25 #[.int .i64 0, .int .i64 0, .int .i64 0, .int .u64 0, .int .u64 0, .int .u64 0, .int .u64 0, .int .u64 0, .int .u64 0, .slice none 0 0], Rf w1.heap.size (sr m 0).1 (sr m 0).2, Ce (w1.heap.size + 1) 25 #[.int .i64 (x0 : Int), .int .i64 (x1 : Int), .int .i64 (x2 : Int), .int .u64 (0 : Int), .int .u64 (0 : Int), .int .u64 (0 : Int), .int .u64 (0 : Int), .int .u64 (0 : Int), .int .u64 (0 : Int), .slice none 0 0]] from (show Sep w _ [Ce w.heap.size 25 #[.int .i64 0, .int .i64 0, .int .i64 0, .int .u64 0, .int .u64 0, .int .u64 0, .int .u64 0, .int .u64 0, .int .u64 0, .slice none 0 0], Rf w1.heap.size (sr m 0).1 (sr m 0).2, Ce (w1.heap.size + 1) 25 #[.int .i64 (x0 : Int), .int .i64 (x1 : Int), .int .i64 (x2 : Int), .int .u64 (0 : Int), .int .u64 (0 : Int), .int .u64 (0 : Int), .int .u64 (0 : Int), .int .u64 (0 : Int), .int .u64 (0 : Int), .slice none 0 0]] by
        have h := sep_ce HS2.out #[.int .i64 (x0 : Int), .int .i64 (x1 : Int), .int .i64 (x2 : Int), .int .u64 (0 : Int), .int .u64 (0 : Int), .int .u64 (0 : Int), .int .u64 (0 : Int), .int .u64 (0 : Int), .int .u64 (0 : Int), .slice none 0 0] 25
        simp only [World.size_alloc] at h
        exact h).drew)
      clear HS2
      obtain ⟨g2, HG2⟩ : ∃ g, Hid (w1.heap.size = g) := ⟨_, Lib.hid rfl⟩
      rw [HG2.out] at HS3 ⊢
      go_wp2_with fail
      have hlen0 := sr_len m 0
      refine (sep_hU (i := 1) (s := sr m 0) HS3.out rfl (by have := HN.out; omega)).mono ?_
      rintro e w0a ⟨rfl, hs0⟩
      obtain ⟨u0, Hu0⟩ : ∃ x, Hid ((gU (sr m 0)).1 = x) := ⟨_, Lib.hid rfl⟩
      rw [Hu0.out]
      have HSa0 := Lib.hid (show Sep w w0a [Ce w.heap.size 25 #[.int .i64 0, .int .i64 0, .int .i64 0, .int .u64 0, .int .u64 0, .int .u64 0, .int .u64 0, .int .u64 0, .int .u64 0, .slice none 0 0], Rf g2 (sr m 1).1 (sr m 1).2, Ce (g2 + 1) 25 #[.int .i64 (x0 : Int), .int .i64 (x1 : Int), .int .i64 (x2 : Int), .int .u64 (0 : Int), .int .u64 (0 : Int), .int .u64 (0 : Int), .int .u64 (0 : Int), .int .u64 (0 : Int), .int .u64 (0 : Int), .slice none 0 0]] from hs0)
      clear hs0 HS3 hlen0
      have k3 := sep_ceAt (i := 2) HSa0.out rfl 3 rfl
      have y3 := sep_ceFrozen (i := 2) HSa0.out rfl 3
      have HSb0 := Lib.hid (show Sep w (w0a.setCell ⟨g2 + 1, 3, none⟩ (.int .u64 (u0 : Int))) [Ce w.heap.size 25 #[.int .i64 0, .int .i64 0, .int .i64 0, .int .u64 0, .int .u64 0, .int .u64 0, .int .u64 0, .int .u64 0, .int .u64 0, .slice none 0 0], Rf g2 (sr m 1).1 (sr m 1).2, Ce (g2 + 1) 25 #[.int .i64 (x0 : Int), .int .i64 (x1 : Int), .int .i64 (x2 : Int), .int .u64 (u0 : Int), .int .u64 (0 : Int), .int .u64 (0 : Int), .int .u64 (0 : Int), .int .u64 (0 : Int), .int .u64 (0 : Int), .slice none 0 0]] from sep_ceSet (i := 2) HSa0.out rfl 3 _)
      go_wp2_with fail
      clear k3 y3 HSa0
      have hlen1 := sr_len m 1
      refine (sep_hU (i := 1) (s := sr m 1) HSb0.out rfl (by have := HN.out; omega)).mono ?_
      rintro e w1a ⟨rfl, hs1⟩
      obtain ⟨u1, Hu1⟩ : ∃ x, Hid ((gU (sr m 1)).1 = x) := ⟨_, Lib.hid rfl⟩
      rw [Hu1.out]
      have HSa1 := Lib.hid (show Sep w w1a [Ce w.heap.size 25 #[.int .i64 0, .int .i64 0, .int .i64 0, .int .u64 0, .int .u64 0, .int .u64 0, .int .u64 0, .int .u64 0, .int .u64 0, .slice none 0 0], Rf g2 (sr m 2).1 (sr m 2).2, Ce (g2 + 1) 25 #[.int .i64 (x0 : Int), .int .i64 (x1 : Int), .int .i64 (x2 : Int), .int .u64 (u0 : Int), .int .u64 (0 : Int), .int .u64 (0 : Int), .int .u64 (0 : Int), .int .u64 (0 : Int), .int .u64 (0 : Int), .slice none 0 0]] from hs1)
      clear hs1 HSb0 hlen1
      have k4 := sep_ceAt (i := 2) HSa1.out rfl 4 rfl
      have y4 := sep_ceFrozen (i := 2) HSa1.out rfl 4
      have HSb1 := Lib.hid (show Sep w (w1a.setCell ⟨g2 + 1, 4, none⟩ (.int .u64 (u1 : Int))) [Ce w.heap.size 25 #[.int .i64 0, .int .i64 0, .int .i64 0, .int .u64 0, .int .u64 0, .int .u64 0, .int .u64 0, .int .u64 0, .int .u64 0, .slice none 0 0], Rf g2 (sr m 2).1 (sr m 2).2, Ce (g2 + 1) 25 #[.int .i64 (x0 : Int), .int .i64 (x1 : Int), .int .i64 (x2 : Int), .int .u64 (u0 : Int), .int .u64 (u1 : Int), .int .u64 (0 : Int), .int .u64 (0 : Int), .int .u64 (0 : Int), .int .u64 (0 : Int), .slice none 0 0]] from sep_ceSet (i := 2) HSa1.out rfl 4 _)
      go_wp2_with fail
      clear k4 y4 HSa1
      have hlen2 := sr_len m 2
      refine (sep_hU (i := 1) (s := sr m 2) HSb1.out rfl (by have := HN.out; omega)).mono ?_
      rintro e w2a ⟨rfl, hs2⟩
      obtain ⟨u2, Hu2⟩ : ∃ x, Hid ((gU (sr m 2)).1 = x) := ⟨_, Lib.hid rfl⟩
      rw [Hu2.out]
      have HSa2 := Lib.hid (show Sep w w2a [Ce w.heap.size 25 #[.int .i64 0, .int .i64 0, .int .i64 0, .int .u64 0, .int .u64 0, .int .u64 0, .int .u64 0, .int .u64 0, .int .u64 0, .slice none 0 0], Rf g2 (sr m 3).1 (sr m 3).2, Ce (g2 + 1) 25 #[.int .i64 (x0 : Int), .int .i64 (x1 : Int), .int .i64 (x2 : Int), .int .u64 (u0 : Int), .int .u64 (u1 : Int), .int .u64 (0 : Int), .int .u64 (0 : Int), .int .u64 (0 : Int), .int .u64 (0 : Int), .slice none 0 0]] from hs2)
      clear hs2 HSb1 hlen2
      have k5 := sep_ceAt (i := 2) HSa2.out rfl 5 rfl
      have y5 := sep_ceFrozen (i := 2) HSa2.out rfl 5
      have HSb2 := Lib.hid (show Sep w (w2a.setCell ⟨g2 + 1, 5, none⟩ (.int .u64 (u2 : Int))) [Ce w.heap.size 25 #[.int .i64 0, .int .i64 0, .int .i64 0, .int .u64 0, .int .u64 0, .int .u64 0, .int .u64 0, .int .u64 0, .int .u64 0, .slice none 0 0], Rf g2 (sr m 3).1 (sr m 3).2, Ce (g2 + 1) 25 #[.int .i64 (x0 : Int), .int .i64 (x1 : Int), .int .i64 (x2 : Int), .int .u64 (u0 : Int), .int .u64 (u1 : Int), .int .u64 (u2 : Int), .int .u64 (0 : Int), .int .u64 (0 : Int), .int .u64 (0 : Int), .slice none 0 0]] from sep_ceSet (i := 2) HSa2.out rfl 5 _)
      go_wp2_with fail
      clear k5 y5 HSa2
      have hlen3 := sr_len m 3
      refine (sep_hU (i := 1) (s := sr m 3) HSb2.out rfl (by have := HN.out; omega)).mono ?_
      rintro e w3a ⟨rfl, hs3⟩
      obtain ⟨u3, Hu3⟩ : ∃ x, Hid ((gU (sr m 3)).1 = x) := ⟨_, Lib.hid rfl⟩
      rw [Hu3.out]
      have HSa3 := Lib.hid (show Sep w w3a [Ce w.heap.size 25 #[.int .i64 0, .int .i64 0, .int .i64 0, .int .u64 0, .int .u64 0, .int .u64 0, .int .u64 0, .int .u64 0, .int .u64 0, .slice none 0 0], Rf g2 (sr m 4).1 (sr m 4).2, Ce (g2 + 1) 25 #[.int .i64 (x0 : Int), .int .i64 (x1 : Int), .int .i64 (x2 : Int), .int .u64 (u0 : Int), .int .u64 (u1 : Int), .int .u64 (u2 : Int), .int .u64 (0 : Int), .int .u64 (0 : Int), .int .u64 (0 : Int), .slice none 0 0]] from hs3)
      clear hs3 HSb2 hlen3
      have k6 := sep_ceAt (i := 2) HSa3.out rfl 6 rfl
      have y6 := sep_ceFrozen (i := 2) HSa3.out rfl 6
      have HSb3 := Lib.hid (show Sep w (w3a.setCell ⟨g2 + 1, 6, none⟩ (.int .u64 (u3 : Int))) [Ce w.heap.size 25 #[.int .i64 0, .int .i64 0, .int .i64 0, .int .u64 0, .int .u64 0, .int .u64 0, .int .u64 0, .int .u64 0, .int .u64 0, .slice none 0 0], Rf g2 (sr m 4).1 (sr m 4).2, Ce (g2 + 1) 25 #[.int .i64 (x0 : Int), .int .i64 (x1 : Int), .int .i64 (x2 : Int), .int .u64 (u0 : Int), .int .u64 (u1 : Int), .int .u64 (u2 : Int), .int .u64 (u3 : Int), .int .u64 (0 : Int), .int .u64 (0 : Int), .slice none 0 0]] from sep_ceSet (i := 2) HSa3.out rfl 6 _)
      go_wp2_with fail
      clear k6 y6 HSa3
      have hlen4 := sr_len m 4
      refine (sep_hU (i := 1) (s := sr m 4) HSb3.out rfl (by have := HN.out; omega)).mono ?_
      rintro e w4a ⟨rfl, hs4⟩
      obtain ⟨u4, Hu4⟩ : ∃ x, Hid ((gU (sr m 4)).1 = x) := ⟨_, Lib.hid rfl⟩
      rw [Hu4.out]
      have HSa4 := Lib.hid (show Sep w w4a [Ce w.heap.size 25 #[.int .i64 0, .int .i64 0, .int .i64 0, .int .u64 0, .int .u64 0, .int .u64 0, .int .u64 0, .int .u64 0, .int .u64 0, .slice none 0 0], Rf g2 (sr m 5).1 (sr m 5).2, Ce (g2 + 1) 25 #[.int .i64 (x0 : Int), .int .i64 (x1 : Int), .int .i64 (x2 : Int), .int .u64 (u0 : Int), .int .u64 (u1 : Int), .int .u64 (u2 : Int), .int .u64 (u3 : Int), .int .u64 (0 : Int), .int .u64 (0 : Int), .slice none 0 0]] from hs4)
      clear hs4 HSb3 hlen4
      have k7 := sep_ceAt (i := 2) HSa4.out rfl 7 rfl
      have y7 := sep_ceFrozen (i := 2) HSa4.out rfl 7
      have HSb4 := Lib.hid (show Sep w (w4a.setCell ⟨g2 + 1, 7, none⟩ (.int .u64 (u4 : Int))) [Ce w.heap.size 25 #[.int .i64 0, .int .i64 0, .int .i64 0, .int .u64 0, .int .u64 0, .int .u64 0, .int .u64 0, .int .u64 0, .int .u64 0, .slice none 0 0], Rf g2 (sr m 5).1 (sr m 5).2, Ce (g2 + 1) 25 #[.int .i64 (x0 : Int), .int .i64 (x1 : Int), .int .i64 (x2 : Int), .int .u64 (u0 : Int), .int .u64 (u1 : Int), .int .u64 (u2 : Int), .int .u64 (u3 : Int), .int .u64 (u4 : Int), .int .u64 (0 : Int), .slice none 0 0]] from sep_ceSet (i := 2) HSa4.out rfl 7 _)
      go_wp2_with fail
      clear k7 y7 HSa4
      have hlen5 := sr_len m 5
      refine (sep_hU (i := 1) (s := sr m 5) HSb4.out rfl (by have := HN.out; omega)).mono ?_
      rintro e w5a ⟨rfl, hs5⟩
      obtain ⟨u5, Hu5⟩ : ∃ x, Hid ((gU (sr m 5)).1 = x) := ⟨_, Lib.hid rfl⟩
      rw [Hu5.out]
      have HSa5 := Lib.hid (show Sep w w5a [Ce w.heap.size 25 #[.int .i64 0, .int .i64 0, .int .i64 0, .int .u64 0, .int .u64 0, .int .u64 0, .int .u64 0, .int .u64 0, .int .u64 0, .slice none 0 0], Rf g2 (sr m 6).1 (sr m 6).2, Ce (g2 + 1) 25 #[.int .i64 (x0 : Int), .int .i64 (x1 : Int), .int .i64 (x2 : Int), .int .u64 (u0 : Int), .int .u64 (u1 : Int), .int .u64 (u2 : Int), .int .u64 (u3 : Int), .int .u64 (u4 : Int), .int .u64 (0 : Int), .slice none 0 0]] from hs5)
      clear hs5 HSb4 hlen5
      have k8 := sep_ceAt (i := 2) HSa5.out rfl 8 rfl
      have y8 := sep_ceFrozen (i := 2) HSa5.out rfl 8
      obtain ⟨s6, Hs6⟩ : ∃ x, Hid (sr m 6 = x) := ⟨_, Lib.hid rfl⟩
      have hs6l : s6.1.length ≤ m.length := by rw [← Hs6.out]; exact sr_len m 6
      have HSb5 := Lib.hid (show Sep w (w5a.setCell ⟨g2 + 1, 8, none⟩ (.int .u64 (u5 : Int))) [Ce w.heap.size 25 #[.int .i64 0, .int .i64 0, .int .i64 0, .int .u64 0, .int .u64 0, .int .u64 0, .int .u64 0, .int .u64 0, .int .u64 0, .slice none 0 0], Rf g2 s6.1 s6.2, Ce (g2 + 1) 25 #[.int .i64 (x0 : Int), .int .i64 (x1 : Int), .int .i64 (x2 : Int), .int .u64 (u0 : Int), .int .u64 (u1 : Int), .int .u64 (u2 : Int), .int .u64 (u3 : Int), .int .u64 (u4 : Int), .int .u64 (u5 : Int), .slice none 0 0]] from Hs6.out ▸ sep_ceSet (i := 2) HSa5.out rfl 8 _)
      obtain ⟨Ar, cr, q0, q1⟩ := sep_rfCells (i := 1) HSb5.out rfl
      obtain ⟨nr, Hnr⟩ : ∃ n, Hid (s6.1.length = n) := ⟨_, Lib.hid rfl⟩
      have hnr : nr ≤ 1000000000 := by rw [← Hnr.out]; have := HN.out; omega
      rw [Hnr.out] at q0
      by_cases hpos : 0 < nr
      · have HPOS := Lib.hid hpos
        go_wp2_with fail
        clear q0 q1 k8 y8 HSa5 hpos
        refine (sep_hT (i := 1) (s := s6) HSb5.out rfl (by have := Hnr.out; omega)).mono ?_
        rintro e w6 ⟨rfl, hs6⟩
        obtain ⟨t, Ht⟩ : ∃ t, Hid ((gT s6).1 = t) := ⟨_, Lib.hid rfl⟩
        obtain ⟨s7, Hs7⟩ : ∃ t, Hid ((gT s6).2 = t) := ⟨_, Lib.hid rfl⟩
        have HB : Hid (rfB m = (t, s7)) := Lib.hid (by
          unfold rfB
          rw [show (rf6 m).s = s6 from Hs6.out, if_pos (by rw [Hnr.out]; exact HPOS.out), ← Ht.out, ← Hs7.out])
        have htl : t.length ≤ 1000000000 := by
          rw [← Ht.out]
          refine Nat.le_trans (gT_body_len s6) ?_
          have := HN.out
          omega
        have HS7 := Lib.hid (show Sep w w6 [Ce w.heap.size 25 #[.int .i64 0, .int .i64 0, .int .i64 0, .int .u64 0, .int .u64 0, .int .u64 0, .int .u64 0, .int .u64 0, .int .u64 0, .slice none 0 0], Rf g2 s7.1 s7.2, Ce (g2 + 1) 25 #[.int .i64 (x0 : Int), .int .i64 (x1 : Int), .int .i64 (x2 : Int), .int .u64 (u0 : Int), .int .u64 (u1 : Int), .int .u64 (u2 : Int), .int .u64 (u3 : Int), .int .u64 (u4 : Int), .int .u64 (u5 : Int), .slice none 0 0]] by rw [← Hs7.out]; exact hs6)
        clear hs6 HSb5
        rw [Ht.out]
        obtain ⟨w7, c7, hcv, hs7⟩ := sep_conv HS7.out t
        have HSc := Lib.hid (show Sep w w7 [Ce w.heap.size 25 #[.int .i64 0, .int .i64 0, .int .i64 0, .int .u64 0, .int .u64 0, .int .u64 0, .int .u64 0, .int .u64 0, .int .u64 0, .slice none 0 0], Rf g2 s7.1 s7.2, Ce (g2 + 1) 25 #[.int .i64 (x0 : Int), .int .i64 (x1 : Int), .int .i64 (x2 : Int), .int .u64 (u0 : Int), .int .u64 (u1 : Int), .int .u64 (u2 : Int), .int .u64 (u3 : Int), .int .u64 (u4 : Int), .int .u64 (u5 : Int), .slice none 0 0], Cv (.slice (some ⟨w6.heap.size, 0, none⟩) t.length c7) t] from hs7)
        clear hs7 HS7
        have k9 := sep_ceAt (i := 2) HSc.out rfl 9 rfl
        have y9 := sep_ceFrozen (i := 2) HSc.out rfl 9
        go_wp2_with fail
        clear hcv k9 y9
        obtain ⟨g6, HG6⟩ : ∃ g, Hid (w6.heap.size = g) := ⟨_, Lib.hid rfl⟩
        rw [HG6.out] at HSc ⊢
        have HSd := Lib.hid (show Sep w (w7.setCell ⟨g2 + 1, 9, none⟩ (.slice (some ⟨g6, 0, none⟩) t.length c7)) [Ce w.heap.size 25 #[.int .i64 0, .int .i64 0, .int .i64 0, .int .u64 0, .int .u64 0, .int .u64 0, .int .u64 0, .int .u64 0, .int .u64 0, .slice none 0 0], Rf g2 s7.1 s7.2, Ce (g2 + 1) 25 #[.int .i64 (x0 : Int), .int .i64 (x1 : Int), .int .i64 (x2 : Int), .int .u64 (u0 : Int), .int .u64 (u1 : Int), .int .u64 (u2 : Int), .int .u64 (u3 : Int), .int .u64 (u4 : Int), .int .u64 (u5 : Int), .slice (some ⟨g6, 0, none⟩) t.length c7], Cv (.slice (some ⟨g6, 0, none⟩) t.length c7) t] from sep_ceSet (i := 2) HSc.out rfl 9 _)
        clear HSc
        by_cases hbd : s7.2 = true
        · have HBD := Lib.hid hbd
          clear hbd
          refine wp_region_f (fun dn xv W => Sep w W [Ce w.heap.size 25 #[.int .i64 0, .int .i64 0, .int .i64 0, .int .u64 0, .int .u64 0, .int .u64 0, .int .u64 0, .int .u64 0, .int .u64 0, .slice none 0 0], Rf g2 s7.1 s7.2, Ce (g2 + 1) 25 #[.int .i64 (x0 : Int), .int .i64 (x1 : Int), .int .i64 (x2 : Int), .int .u64 (u0 : Int), .int .u64 (u1 : Int), .int .u64 (u2 : Int), .int .u64 (u3 : Int), .int .u64 (u4 : Int), .int .u64 (u5 : Int), .slice (some ⟨g6, 0, none⟩) t.length c7], Cv (.slice (some ⟨g6, 0, none⟩) t.length c7) t]) (fun W W' => Below W.heap.size W W') [fun v _ => v = .pointer (some ⟨g2, 0, none⟩), fun v _ => v = .pointer (some ⟨g2, 0, none⟩), fun v _ => v = .pointer (some ⟨g2, 1, none⟩), fun v _ => v = .bool true, fun v _ => v = .bool true, fun v _ => v = undef, fun v _ => v = undef, fun v _ => v = undef, fun v _ => v = .bool true, fun v _ => v = .bool true, fun v _ => v = undef, fun v _ => v = undef, fun v _ => v = undef, fun v _ => v = undef, fun v _ => v = undef, fun v _ => v = undef, fun v _ => v = .bool true] (by kernel_rfl) (by kernel_rfl) (by kernel_rfl) (by kernel_rfl) (fun xv => by simpa using HSd.out.drew)
            (by exact ⟨fun _ _ _ _ h => h, fun _ _ _ _ h => h, fun _ _ _ _ h => h, fun _ _ _ _ h => h, fun _ _ _ _ h => h, fun _ _ _ _ h => h, fun _ _ _ _ h => h, fun _ _ _ _ h => h, fun _ _ _ _ h => h, fun _ _ _ _ h => h, fun _ _ _ _ h => h, fun _ _ _ _ h => h, fun _ _ _ _ h => h, fun _ _ _ _ h => h, fun _ _ _ _ h => h, fun _ _ _ _ h => h, fun _ _ _ _ h => h, trivial⟩) ?_ ?_
          · refine EachF.cons 1 rfl (fun dn xv W F hF hd hN hX hI H K hK => ?_) ?_
            · have f6 : F.tmps.getD 6 undef = .pointer (some ⟨g2, 0, none⟩) := (hF 6).trans (by kernel_rfl)
              clear H hN hd hX hF
              refine on_plain rfl ?_
              go_simp
              exact hK.out _ _ rfl (Below.refl _ _) (by simpa [upB, upd] using hI)
            refine EachF.cons 2 rfl (fun dn xv W F hF hd hN hX hI H K hK => ?_) ?_
            · have h0 : xv 0 = .pointer (some ⟨g2, 0, none⟩) := (H 0 (.edge (by kernel_rfl))).2
              have f66 : F.tmps.getD 66 undef = .pointer (some ⟨g2, 0, none⟩) := (hF 66).trans (Eq.trans (by kernel_rfl) h0)
              clear H hN hd hX hF
              refine on_plain rfl ?_
              go_simp
              exact hK.out _ _ rfl (Below.refl _ _) (by simpa [upB, upd] using hI)
            refine EachF.cons 3 rfl (fun dn xv W F hF hd hN hX hI H K hK => ?_) ?_
            · have h1 : xv 1 = .pointer (some ⟨g2, 0, none⟩) := (H 1 (.edge (by kernel_rfl))).2
              have f67 : F.tmps.getD 67 undef = .pointer (some ⟨g2, 0, none⟩) := (hF 67).trans (Eq.trans (by kernel_rfl) h1)
              clear H hN hd hX hF
              refine on_plain rfl ?_
              go_simp
              exact hK.out _ _ rfl (Below.refl _ _) (by simpa [upB, upd] using hI)
            refine EachF.cons 4 rfl (fun dn xv W F hF hd hN hX hI H K hK => ?_) ?_
            · have h2 : xv 2 = .pointer (some ⟨g2, 1, none⟩) := (H 2 (.edge (by kernel_rfl))).2
              have f68 : F.tmps.getD 68 undef = .pointer (some ⟨g2, 1, none⟩) := (hF 68).trans (Eq.trans (by kernel_rfl) h2)
              obtain ⟨_, _, _, q1⟩ := sep_rfCells (i := 1) hI rfl
              rw [HBD.out] at q1
              clear H hN hd hX hF
              refine on_plain rfl ?_
              go_simp
              exact hK.out _ _ rfl (Below.refl _ _) (by simpa [upB, upd] using hI)
            refine EachF.cons 5 rfl (fun dn xv W F hF hd hN hX hI H K hK => ?_) ?_
            · have h3 : xv 3 = .bool true := (H 3 (.edge (by kernel_rfl))).2
              have f69 : F.tmps.getD 69 undef = .bool true := (hF 69).trans (Eq.trans (by kernel_rfl) h3)
              clear H hN hd hX hF
              refine on_plain rfl ?_
              go_simp
              exact hK.out _ _ rfl (Below.refl _ _) (by simpa [upB, upd] using hI)
            refine EachF.cons 6 rfl (fun dn xv W F hF hd hN hX hI H K hK => ?_) ?_
            · have h4 : xv 4 = .bool true := (H 4 (.edge (by kernel_rfl))).2
              have f70 : F.tmps.getD 70 undef = .bool true := (hF 70).trans (Eq.trans (by kernel_rfl) h4)
              clear H hN hd hX hF
              refine off_guard rfl (by kernel_rfl) f70 (by decide) ?_
              exact hK.out _ _ rfl (Below.refl _ _) (by simpa [upB, upd] using hI)
            refine EachF.cons 7 rfl (fun dn xv W F hF hd hN hX hI H K hK => ?_) ?_
            · have h4 : xv 4 = .bool true := (H 4 (.edge (by kernel_rfl))).2
              have f70 : F.tmps.getD 70 undef = .bool true := (hF 70).trans (Eq.trans (by kernel_rfl) h4)
              clear H hN hd hX hF
              refine off_guard rfl (by kernel_rfl) f70 (by decide) ?_
              exact hK.out _ _ rfl (Below.refl _ _) (by simpa [upB, upd] using hI)
            refine EachF.cons 8 rfl (fun dn xv W F hF hd hN hX hI H K hK => ?_) ?_
            · have h4 : xv 4 = .bool true := (H 4 (.edge (by kernel_rfl))).2
              have f70 : F.tmps.getD 70 undef = .bool true := (hF 70).trans (Eq.trans (by kernel_rfl) h4)
              clear H hN hd hX hF
              refine off_guard rfl (by kernel_rfl) f70 (by decide) ?_
              exact hK.out _ _ rfl (Below.refl _ _) (by simpa [upB, upd] using hI)
            refine EachF.cons 9 rfl (fun dn xv W F hF hd hN hX hI H K hK => ?_) ?_
            · have h4 : xv 4 = .bool true := (H 4 (.edge (by kernel_rfl))).2
              have f70 : F.tmps.getD 70 undef = .bool true := (hF 70).trans (Eq.trans (by kernel_rfl) h4)
              have h7 : xv 7 = undef := (H 7 (.edge (by kernel_rfl))).2
              have f73 : F.tmps.getD 73 undef = undef := (hF 73).trans (Eq.trans (by kernel_rfl) h7)
              clear H hN hd hX hF
              refine on_plain rfl ?_
              go_simp
              exact hK.out _ _ rfl (Below.refl _ _) (by simpa [upB, upd] using hI)
            refine EachF.cons 10 rfl (fun dn xv W F hF hd hN hX hI H K hK => ?_) ?_
            · have h8 : xv 8 = .bool true := (H 8 (.edge (by kernel_rfl))).2
              have f74 : F.tmps.getD 74 undef = .bool true := (hF 74).trans (Eq.trans (by kernel_rfl) h8)
              clear H hN hd hX hF
              refine on_plain rfl ?_
              go_simp
              exact hK.out _ _ rfl (Below.refl _ _) (by simpa [upB, upd] using hI)
            refine EachF.cons 11 rfl (fun dn xv W F hF hd hN hX hI H K hK => ?_) ?_
            · have h9 : xv 9 = .bool true := (H 9 (.edge (by kernel_rfl))).2
              have f75 : F.tmps.getD 75 undef = .bool true := (hF 75).trans (Eq.trans (by kernel_rfl) h9)
              clear H hN hd hX hF
              refine off_guard rfl (by kernel_rfl) f75 (by decide) ?_
              exact hK.out _ _ rfl (Below.refl _ _) (by simpa [upB, upd] using hI)
            refine EachF.cons 12 rfl (fun dn xv W F hF hd hN hX hI H K hK => ?_) ?_
            · have h9 : xv 9 = .bool true := (H 9 (.edge (by kernel_rfl))).2
              have f75 : F.tmps.getD 75 undef = .bool true := (hF 75).trans (Eq.trans (by kernel_rfl) h9)
              clear H hN hd hX hF
              refine off_guard rfl (by kernel_rfl) f75 (by decide) ?_
              exact hK.out _ _ rfl (Below.refl _ _) (by simpa [upB, upd] using hI)
            refine EachF.cons 13 rfl (fun dn xv W F hF hd hN hX hI H K hK => ?_) ?_
            · have h9 : xv 9 = .bool true := (H 9 (.edge (by kernel_rfl))).2
              have f75 : F.tmps.getD 75 undef = .bool true := (hF 75).trans (Eq.trans (by kernel_rfl) h9)
              clear H hN hd hX hF
              refine off_guard rfl (by kernel_rfl) f75 (by decide) ?_
              exact hK.out _ _ rfl (Below.refl _ _) (by simpa [upB, upd] using hI)
            refine EachF.cons 14 rfl (fun dn xv W F hF hd hN hX hI H K hK => ?_) ?_
            · have h9 : xv 9 = .bool true := (H 9 (.edge (by kernel_rfl))).2
              have f75 : F.tmps.getD 75 undef = .bool true := (hF 75).trans (Eq.trans (by kernel_rfl) h9)
              clear H hN hd hX hF
              refine off_guard rfl (by kernel_rfl) f75 (by decide) ?_
              exact hK.out _ _ rfl (Below.refl _ _) (by simpa [upB, upd] using hI)
            refine EachF.cons 15 rfl (fun dn xv W F hF hd hN hX hI H K hK => ?_) ?_
            · have h9 : xv 9 = .bool true := (H 9 (.edge (by kernel_rfl))).2
              have f75 : F.tmps.getD 75 undef = .bool true := (hF 75).trans (Eq.trans (by kernel_rfl) h9)
              clear H hN hd hX hF
              refine off_guard rfl (by kernel_rfl) f75 (by decide) ?_
              exact hK.out _ _ rfl (Below.refl _ _) (by simpa [upB, upd] using hI)
            refine EachF.cons 16 rfl (fun dn xv W F hF hd hN hX hI H K hK => ?_) ?_
            · have h9 : xv 9 = .bool true := (H 9 (.edge (by kernel_rfl))).2
              have f75 : F.tmps.getD 75 undef = .bool true := (hF 75).trans (Eq.trans (by kernel_rfl) h9)
              clear H hN hd hX hF
              refine off_guard rfl (by kernel_rfl) f75 (by decide) ?_
              exact hK.out _ _ rfl (Below.refl _ _) (by simpa [upB, upd] using hI)
            refine EachF.cons 17 rfl (fun dn xv W F hF hd hN hX hI H K hK => ?_) ?_
            · have h9 : xv 9 = .bool true := (H 9 (.edge (by kernel_rfl))).2
              have f75 : F.tmps.getD 75 undef = .bool true := (hF 75).trans (Eq.trans (by kernel_rfl) h9)
              have h15 : xv 15 = undef := (H 15 (.edge (by kernel_rfl))).2
              have f81 : F.tmps.getD 81 undef = undef := (hF 81).trans (Eq.trans (by kernel_rfl) h15)
              clear H hN hd hX hF
              refine on_plain rfl ?_
              go_simp
              exact hK.out _ _ rfl (Below.refl _ _) (by simpa [upB, upd] using hI)
            exact EachF.nil
          · intro dn xv W hI H
            have q16 : xv 16 = .bool true := (H 16 (of_decide_eq_true (by kernel_rfl))).2
            have hS : Sep w W [Ce w.heap.size 25 #[.int .i64 0, .int .i64 0, .int .i64 0, .int .u64 0, .int .u64 0, .int .u64 0, .int .u64 0, .int .u64 0, .int .u64 0, .slice none 0 0], Rf g2 s7.1 s7.2, Ce (g2 + 1) 25 #[.int .i64 (x0 : Int), .int .i64 (x1 : Int), .int .i64 (x2 : Int), .int .u64 (u0 : Int), .int .u64 (u1 : Int), .int .u64 (u2 : Int), .int .u64 (u3 : Int), .int .u64 (u4 : Int), .int .u64 (u5 : Int), .slice (some ⟨g6, 0, none⟩) t.length c7], Cv (.slice (some ⟨g6, 0, none⟩) t.length c7) t] := hI
            clear H hI
            simp only [putAll, Act.put, List.setIfInBounds_toArray, List.set_cons_zero, List.set_cons_succ, Nat.reduceAdd, q16]
            clear q16
            have HS9 := Lib.hid hS
            clear hS
            have k0 := sep_ceAt (i := 0) HS9.out rfl 0 rfl
            have k1 := sep_ceAt (i := 0) HS9.out rfl 1 rfl
            have k2 := sep_ceAt (i := 0) HS9.out rfl 2 rfl
            have k3 := sep_ceAt (i := 0) HS9.out rfl 3 rfl
            have k4 := sep_ceAt (i := 0) HS9.out rfl 4 rfl
            have k5 := sep_ceAt (i := 0) HS9.out rfl 5 rfl
            have k6 := sep_ceAt (i := 0) HS9.out rfl 6 rfl
            have k7 := sep_ceAt (i := 0) HS9.out rfl 7 rfl
            have k8 := sep_ceAt (i := 0) HS9.out rfl 8 rfl
            have k9 := sep_ceAt (i := 0) HS9.out rfl 9 rfl
            have y0 := sep_ceFrozen (i := 0) HS9.out rfl 0
            have y1 := sep_ceFrozen (i := 0) HS9.out rfl 1
            have y2 := sep_ceFrozen (i := 0) HS9.out rfl 2
            have y3 := sep_ceFrozen (i := 0) HS9.out rfl 3
            have y4 := sep_ceFrozen (i := 0) HS9.out rfl 4
            have y5 := sep_ceFrozen (i := 0) HS9.out rfl 5
            have y6 := sep_ceFrozen (i := 0) HS9.out rfl 6
            have y7 := sep_ceFrozen (i := 0) HS9.out rfl 7
            have y8 := sep_ceFrozen (i := 0) HS9.out rfl 8
            have y9 := sep_ceFrozen (i := 0) HS9.out rfl 9
            go_wp2_with fail
            obtain ⟨_, hs2⟩ := sep_put10 (i := 0) HS9.out rfl (.int .i64 0) (.int .i64 0) (.int .i64 0) (.int .u64 0) (.int .u64 0) (.int .u64 0) (.int .u64 0) (.int .u64 0) (.int .u64 0) (.slice none 0 0)
            refine bodyPost_ret (v := .tuple #[.agg #[.int .i64 0, .int .i64 0, .int .i64 0, .int .u64 0, .int .u64 0, .int .u64 0, .int .u64 0, .int .u64 0, .int .u64 0, .slice none 0 0], .bool false]) (by simp [results, Tryd.results18, go_sem, k0, k1, k2, k3, k4, k5, k6, k7, k8, k9]) rfl ?_
            exact .inr ⟨fun f hf => (by have h := ((isFr_rf HOP.out f).1 hf).2.1; rw [HB.out, HBD.out] at h; cases h), rfl, hs2.bel⟩
        · have HBD : Hid (s7.2 = false) := Lib.hid (by simpa using hbd)
          clear hbd
          have hF0 : rfFr m = (Fr.mk x0 x1 x2 u0 u1 u2 u3 u4 u5 t) := by
            unfold rfFr
            rw [HB.out, show rf6 m = ⟨(gU (sr m 0)).1, (gU (sr m 1)).1, (gU (sr m 2)).1, (gU (sr m 3)).1, (gU (sr m 4)).1, (gU (sr m 5)).1, sr m 6⟩ from rfl, HMR.out]
            rw [HMR.out] at Hu0 Hu1 Hu2 Hu3 Hu4 Hu5
            simp only [Hu0.out, Hu1.out, Hu2.out, Hu3.out, Hu4.out, Hu5.out, Hx0.out, Hx1.out, Hx2.out, List.getD_cons_zero, List.getD_cons_succ]
          have HF := Lib.hid hF0
          clear hF0
          by_cases hmy : (Fr.mk x0 x1 x2 u0 u1 u2 u3 u4 u5 t).may = true
          · have HMY := Lib.hid hmy
            clear hmy
            obtain ⟨Lp, HLp⟩ : ∃ L, Hid (Crc.sealed (Fr.mk x0 x1 x2 u0 u1 u2 u3 u4 u5 t).plain = L) := ⟨_, Lib.hid rfl⟩
            by_cases heq : Lp = b
            · subst heq
              refine wp_region_f (fun dn xv W => Sep w W [Ce w.heap.size 25 #[.int .i64 0, .int .i64 0, .int .i64 0, .int .u64 0, .int .u64 0, .int .u64 0, .int .u64 0, .int .u64 0, .int .u64 0, .slice none 0 0], Rf g2 s7.1 s7.2, Ce (g2 + 1) 25 #[.int .i64 (x0 : Int), .int .i64 (x1 : Int), .int .i64 (x2 : Int), .int .u64 (u0 : Int), .int .u64 (u1 : Int), .int .u64 (u2 : Int), .int .u64 (u3 : Int), .int .u64 (u4 : Int), .int .u64 (u5 : Int), .slice (some ⟨g6, 0, none⟩) t.length c7], Cv (.slice (some ⟨g6, 0, none⟩) t.length c7) t]) (fun W W' => Below W.heap.size W W') [fun v _ => v = .pointer (some ⟨g2, 0, none⟩), fun v _ => v = .pointer (some ⟨g2, 0, none⟩), fun v _ => v = .pointer (some ⟨g2, 1, none⟩), fun v _ => v = .bool false, fun v _ => v = .bool false, fun v _ => v = .agg #[.int .i64 (x0 : Int), .int .i64 (x1 : Int), .int .i64 (x2 : Int), .int .u64 (u0 : Int), .int .u64 (u1 : Int), .int .u64 (u2 : Int), .int .u64 (u3 : Int), .int .u64 (u4 : Int), .int .u64 (u5 : Int), .slice (some ⟨g6, 0, none⟩) t.length c7], fun v _ => v = .bool true, fun v _ => v = .bool false, fun v _ => v = .bool false, fun v _ => v = .bool false, fun v _ => v = .agg #[.int .i64 (x0 : Int), .int .i64 (x1 : Int), .int .i64 (x2 : Int), .int .u64 (u0 : Int), .int .u64 (u1 : Int), .int .u64 (u2 : Int), .int .u64 (u3 : Int), .int .u64 (u4 : Int), .int .u64 (u5 : Int), .slice (some ⟨g6, 0, none⟩) t.length c7], IsB Lp, fun v _ => v = .string ⟨Lp.toArray⟩, fun v _ => v = .slice A Lp.length c, fun v _ => v = .string ⟨Lp.toArray⟩, fun v _ => v = .bool false, fun v _ => v = .bool false] (by kernel_rfl) (by kernel_rfl) (by kernel_rfl) (by kernel_rfl) (fun xv => by simpa using HSd.out.drew)
                (by exact ⟨fun _ _ _ _ h => h, fun _ _ _ _ h => h, fun _ _ _ _ h => h, fun _ _ _ _ h => h, fun _ _ _ _ h => h, fun _ _ _ _ h => h, fun _ _ _ _ h => h, fun _ _ _ _ h => h, fun _ _ _ _ h => h, fun _ _ _ _ h => h, fun _ _ _ _ h => h, fun _ _ _ hR h => h.keep hR, fun _ _ _ _ h => h, fun _ _ _ _ h => h, fun _ _ _ _ h => h, fun _ _ _ _ h => h, fun _ _ _ _ h => h, trivial⟩) ?_ ?_
              · refine EachF.cons 1 rfl (fun dn xv W F hF hd hN hX hI H K hK => ?_) ?_
                · have f6 : F.tmps.getD 6 undef = .pointer (some ⟨g2, 0, none⟩) := (hF 6).trans (by kernel_rfl)
                  clear H hN hd hX hF
                  refine on_plain rfl ?_
                  go_simp
                  exact hK.out _ _ rfl (Below.refl _ _) (by simpa [upB, upd] using hI)
                refine EachF.cons 2 rfl (fun dn xv W F hF hd hN hX hI H K hK => ?_) ?_
                · have h0 : xv 0 = .pointer (some ⟨g2, 0, none⟩) := (H 0 (.edge (by kernel_rfl))).2
                  have f66 : F.tmps.getD 66 undef = .pointer (some ⟨g2, 0, none⟩) := (hF 66).trans (Eq.trans (by kernel_rfl) h0)
                  clear H hN hd hX hF
                  refine on_plain rfl ?_
                  go_simp
                  exact hK.out _ _ rfl (Below.refl _ _) (by simpa [upB, upd] using hI)
                refine EachF.cons 3 rfl (fun dn xv W F hF hd hN hX hI H K hK => ?_) ?_
                · have h1 : xv 1 = .pointer (some ⟨g2, 0, none⟩) := (H 1 (.edge (by kernel_rfl))).2
                  have f67 : F.tmps.getD 67 undef = .pointer (some ⟨g2, 0, none⟩) := (hF 67).trans (Eq.trans (by kernel_rfl) h1)
                  clear H hN hd hX hF
                  refine on_plain rfl ?_
                  go_simp
                  exact hK.out _ _ rfl (Below.refl _ _) (by simpa [upB, upd] using hI)
                refine EachF.cons 4 rfl (fun dn xv W F hF hd hN hX hI H K hK => ?_) ?_
                · have h2 : xv 2 = .pointer (some ⟨g2, 1, none⟩) := (H 2 (.edge (by kernel_rfl))).2
                  have f68 : F.tmps.getD 68 undef = .pointer (some ⟨g2, 1, none⟩) := (hF 68).trans (Eq.trans (by kernel_rfl) h2)
                  obtain ⟨_, _, _, q1⟩ := sep_rfCells (i := 1) hI rfl
                  rw [HBD.out] at q1
                  clear H hN hd hX hF
                  refine on_plain rfl ?_
                  go_simp
                  exact hK.out _ _ rfl (Below.refl _ _) (by simpa [upB, upd] using hI)
                refine EachF.cons 5 rfl (fun dn xv W F hF hd hN hX hI H K hK => ?_) ?_
                · have h3 : xv 3 = .bool false := (H 3 (.edge (by kernel_rfl))).2
                  have f69 : F.tmps.getD 69 undef = .bool false := (hF 69).trans (Eq.trans (by kernel_rfl) h3)
                  clear H hN hd hX hF
                  refine on_plain rfl ?_
                  go_simp
                  exact hK.out _ _ rfl (Below.refl _ _) (by simpa [upB, upd] using hI)
                refine EachF.cons 6 rfl (fun dn xv W F hF hd hN hX hI H K hK => ?_) ?_
                · have f7 : F.tmps.getD 7 undef = .pointer (some ⟨g2 + 1, 0, none⟩) := (hF 7).trans (by kernel_rfl)
                  have h4 : xv 4 = .bool false := (H 4 (.edge (by kernel_rfl))).2
                  have f70 : F.tmps.getD 70 undef = .bool false := (hF 70).trans (Eq.trans (by kernel_rfl) h4)
                  have k0 := sep_ceAt (i := 2) hI rfl 0 rfl
                  have k1 := sep_ceAt (i := 2) hI rfl 1 rfl
                  have k2 := sep_ceAt (i := 2) hI rfl 2 rfl
                  have k3 := sep_ceAt (i := 2) hI rfl 3 rfl
                  have k4 := sep_ceAt (i := 2) hI rfl 4 rfl
                  have k5 := sep_ceAt (i := 2) hI rfl 5 rfl
                  have k6 := sep_ceAt (i := 2) hI rfl 6 rfl
                  have k7 := sep_ceAt (i := 2) hI rfl 7 rfl
                  have k8 := sep_ceAt (i := 2) hI rfl 8 rfl
                  have k9 := sep_ceAt (i := 2) hI rfl 9 rfl
                  clear H hN hd hX hF
                  refine on_guard rfl (by kernel_rfl) f70 ?_
                  go_simp
                  exact hK.out _ _ rfl (Below.refl _ _) (by simpa [upB, upd] using hI)
                refine EachF.cons 7 rfl (fun dn xv W F hF hd hN hX hI H K hK => ?_) ?_
                · have h5 : xv 5 = .agg #[.int .i64 (x0 : Int), .int .i64 (x1 : Int), .int .i64 (x2 : Int), .int .u64 (u0 : Int), .int .u64 (u1 : Int), .int .u64 (u2 : Int), .int .u64 (u3 : Int), .int .u64 (u4 : Int), .int .u64 (u5 : Int), .slice (some ⟨g6, 0, none⟩) t.length c7] := (H 5 (.edge (by kernel_rfl))).2
                  have f71 : F.tmps.getD 71 undef = .agg #[.int .i64 (x0 : Int), .int .i64 (x1 : Int), .int .i64 (x2 : Int), .int .u64 (u0 : Int), .int .u64 (u1 : Int), .int .u64 (u2 : Int), .int .u64 (u3 : Int), .int .u64 (u4 : Int), .int .u64 (u5 : Int), .slice (some ⟨g6, 0, none⟩) t.length c7] := (hF 71).trans (Eq.trans (by kernel_rfl) h5)
                  have h4 : xv 4 = .bool false := (H 4 (.edge (by kernel_rfl))).2
                  have f70 : F.tmps.getD 70 undef = .bool false := (hF 70).trans (Eq.trans (by kernel_rfl) h4)
                  clear H hN hd hX hF
                  refine on_guard rfl (by kernel_rfl) f70 ?_
                  go_simp
                  refine (mayRb5 (w := W) (f := (Fr.mk x0 x1 x2 u0 u1 u2 u3 u4 u5 t)) (A := (some ⟨g6, 0, none⟩)) (c := c7) HMY.out (by unfold maxLen; simp <;> omega)).mono ?_
                  rintro e W' ⟨rfl, hb⟩
                  exact hK.out _ W' rfl hb (by simpa [upB, upd] using hI.grow hb)
                refine EachF.cons 8 rfl (fun dn xv W F hF hd hN hX hI H K hK => ?_) ?_
                · have h6 : xv 6 = .bool true := (H 6 (.edge (by kernel_rfl))).2
                  have f72 : F.tmps.getD 72 undef = .bool true := (hF 72).trans (Eq.trans (by kernel_rfl) h6)
                  have h4 : xv 4 = .bool false := (H 4 (.edge (by kernel_rfl))).2
                  have f70 : F.tmps.getD 70 undef = .bool false := (hF 70).trans (Eq.trans (by kernel_rfl) h4)
                  clear H hN hd hX hF
                  refine on_guard rfl (by kernel_rfl) f70 ?_
                  go_simp
                  exact hK.out _ _ rfl (Below.refl _ _) (by simpa [upB, upd] using hI)
                refine EachF.cons 9 rfl (fun dn xv W F hF hd hN hX hI H K hK => ?_) ?_
                · have h4 : xv 4 = .bool false := (H 4 (.edge (by kernel_rfl))).2
                  have f70 : F.tmps.getD 70 undef = .bool false := (hF 70).trans (Eq.trans (by kernel_rfl) h4)
                  have h7 : xv 7 = .bool false := (H 7 (.edge (by kernel_rfl))).2
                  have f73 : F.tmps.getD 73 undef = .bool false := (hF 73).trans (Eq.trans (by kernel_rfl) h7)
                  clear H hN hd hX hF
                  refine on_plain rfl ?_
                  go_simp
                  exact hK.out _ _ rfl (Below.refl _ _) (by simpa [upB, upd] using hI)
                refine EachF.cons 10 rfl (fun dn xv W F hF hd hN hX hI H K hK => ?_) ?_
                · have h8 : xv 8 = .bool false := (H 8 (.edge (by kernel_rfl))).2
                  have f74 : F.tmps.getD 74 undef = .bool false := (hF 74).trans (Eq.trans (by kernel_rfl) h8)
                  clear H hN hd hX hF
                  refine on_plain rfl ?_
                  go_simp
                  exact hK.out _ _ rfl (Below.refl _ _) (by simpa [upB, upd] using hI)
                refine EachF.cons 11 rfl (fun dn xv W F hF hd hN hX hI H K hK => ?_) ?_
                · have f7 : F.tmps.getD 7 undef = .pointer (some ⟨g2 + 1, 0, none⟩) := (hF 7).trans (by kernel_rfl)
                  have h9 : xv 9 = .bool false := (H 9 (.edge (by kernel_rfl))).2
                  have f75 : F.tmps.getD 75 undef = .bool false := (hF 75).trans (Eq.trans (by kernel_rfl) h9)
                  have k0 := sep_ceAt (i := 2) hI rfl 0 rfl
                  have k1 := sep_ceAt (i := 2) hI rfl 1 rfl
                  have k2 := sep_ceAt (i := 2) hI rfl 2 rfl
                  have k3 := sep_ceAt (i := 2) hI rfl 3 rfl
                  have k4 := sep_ceAt (i := 2) hI rfl 4 rfl
                  have k5 := sep_ceAt (i := 2) hI rfl 5 rfl
                  have k6 := sep_ceAt (i := 2) hI rfl 6 rfl
                  have k7 := sep_ceAt (i := 2) hI rfl 7 rfl
                  have k8 := sep_ceAt (i := 2) hI rfl 8 rfl
                  have k9 := sep_ceAt (i := 2) hI rfl 9 rfl
                  clear H hN hd hX hF
                  refine on_guard rfl (by kernel_rfl) f75 ?_
                  go_simp
                  exact hK.out _ _ rfl (Below.refl _ _) (by simpa [upB, upd] using hI)
                refine EachF.cons 12 rfl (fun dn xv W F hF hd hN hX hI H K hK => ?_) ?_
                · have h10 : xv 10 = .agg #[.int .i64 (x0 : Int), .int .i64 (x1 : Int), .int .i64 (x2 : Int), .int .u64 (u0 : Int), .int .u64 (u1 : Int), .int .u64 (u2 : Int), .int .u64 (u3 : Int), .int .u64 (u4 : Int), .int .u64 (u5 : Int), .slice (some ⟨g6, 0, none⟩) t.length c7] := (H 10 (.edge (by kernel_rfl))).2
                  have f76 : F.tmps.getD 76 undef = .agg #[.int .i64 (x0 : Int), .int .i64 (x1 : Int), .int .i64 (x2 : Int), .int .u64 (u0 : Int), .int .u64 (u1 : Int), .int .u64 (u2 : Int), .int .u64 (u3 : Int), .int .u64 (u4 : Int), .int .u64 (u5 : Int), .slice (some ⟨g6, 0, none⟩) t.length c7] := (hF 76).trans (Eq.trans (by kernel_rfl) h10)
                  have h9 : xv 9 = .bool false := (H 9 (.edge (by kernel_rfl))).2
                  have f75 : F.tmps.getD 75 undef = .bool false := (hF 75).trans (Eq.trans (by kernel_rfl) h9)
                  clear H hN hd hX hF
                  refine on_guard rfl (by kernel_rfl) f75 ?_
                  go_simp
                  refine (refBytes_yes W W.heap.size (Fr.mk x0 x1 x2 u0 u1 u2 u3 u4 u5 t) (some ⟨g6, 0, none⟩) c7 (sep_bodyHas (i := 3) hI rfl) (Nat.le_refl _) HMY.out).mono ?_
                  rintro e W' ⟨v, rfl, ho, hb⟩
                  rw [HLp.out] at ho
                  exact hK.out v W' (IsB.of_own ho) hb (by simpa [upB, upd] using hI.grow hb)
                refine EachF.cons 13 rfl (fun dn xv W F hF hd hN hX hI H K hK => ?_) ?_
                · have h11 := (H 11 (.edge (by kernel_rfl))).2
                  simp only [Dl] at h11
                  have f77 : F.tmps.getD 77 undef = xv 11 := (hF 77).trans (by kernel_rfl)
                  have h9 : xv 9 = .bool false := (H 9 (.edge (by kernel_rfl))).2
                  have f75 : F.tmps.getD 75 undef = .bool false := (hF 75).trans (Eq.trans (by kernel_rfl) h9)
                  clear H hN hd hX hF
                  refine on_guard rfl (by kernel_rfl) f75 ?_
                  obtain ⟨A9, c9, e9, h9⟩ := h11
                  rw [e9] at f77
                  have g77 := f77
                  rw [Array.getD_eq_getD_getElem?] at g77
                  have t9 := run_str (c := c9) h9
                  clear h9
                  go_simp
                  exact hK.out _ W rfl (Below.refl _ _) (by simpa [upB, upd] using hI)
                refine EachF.cons 14 rfl (fun dn xv W F hF hd hN hX hI H K hK => ?_) ?_
                · have f0 : F.tmps.getD 0 undef = .slice A Lp.length c := (hF 0).trans (by kernel_rfl)
                  have h9 : xv 9 = .bool false := (H 9 (.edge (by kernel_rfl))).2
                  have f75 : F.tmps.getD 75 undef = .bool false := (hF 75).trans (Eq.trans (by kernel_rfl) h9)
                  clear H hN hd hX hF
                  refine on_guard rfl (by kernel_rfl) f75 ?_
                  go_simp
                  exact hK.out _ _ rfl (Below.refl _ _) (by simpa [upB, upd] using hI)
                refine EachF.cons 15 rfl (fun dn xv W F hF hd hN hX hI H K hK => ?_) ?_
                · have h13 : xv 13 = .slice A Lp.length c := (H 13 (.edge (by kernel_rfl))).2
                  have f79 : F.tmps.getD 79 undef = .slice A Lp.length c := (hF 79).trans (Eq.trans (by kernel_rfl) h13)
                  have h9 : xv 9 = .bool false := (H 9 (.edge (by kernel_rfl))).2
                  have f75 : F.tmps.getD 75 undef = .bool false := (hF 75).trans (Eq.trans (by kernel_rfl) h9)
                  have t9 := run_str (c := c) (hI.has HA.out)
                  clear H hN hd hX hF
                  refine on_guard rfl (by kernel_rfl) f75 ?_
                  go_simp
                  exact hK.out _ _ rfl (Below.refl _ _) (by simpa [upB, upd] using hI)
                refine EachF.cons 16 rfl (fun dn xv W F hF hd hN hX hI H K hK => ?_) ?_
                · have h12 : xv 12 = .string ⟨Lp.toArray⟩ := (H 12 (.edge (by kernel_rfl))).2
                  have f78 : F.tmps.getD 78 undef = .string ⟨Lp.toArray⟩ := (hF 78).trans (Eq.trans (by kernel_rfl) h12)
                  have h14 : xv 14 = .string ⟨Lp.toArray⟩ := (H 14 (.edge (by kernel_rfl))).2
                  have f80 : F.tmps.getD 80 undef = .string ⟨Lp.toArray⟩ := (hF 80).trans (Eq.trans (by kernel_rfl) h14)
                  have h9 : xv 9 = .bool false := (H 9 (.edge (by kernel_rfl))).2
                  have f75 : F.tmps.getD 75 undef = .bool false := (hF 75).trans (Eq.trans (by kernel_rfl) h9)
                  clear H hN hd hX hF
                  refine on_guard rfl (by kernel_rfl) f75 ?_
                  go_simp
                  exact hK.out _ _ rfl (Below.refl _ _) (by simpa [upB, upd] using hI)
                refine EachF.cons 17 rfl (fun dn xv W F hF hd hN hX hI H K hK => ?_) ?_
                · have h9 : xv 9 = .bool false := (H 9 (.edge (by kernel_rfl))).2
                  have f75 : F.tmps.getD 75 undef = .bool false := (hF 75).trans (Eq.trans (by kernel_rfl) h9)
                  have h15 : xv 15 = .bool false := (H 15 (.edge (by kernel_rfl))).2
                  have f81 : F.tmps.getD 81 undef = .bool false := (hF 81).trans (Eq.trans (by kernel_rfl) h15)
                  clear H hN hd hX hF
                  refine on_plain rfl ?_
                  go_simp
                  exact hK.out _ _ rfl (Below.refl _ _) (by simpa [upB, upd] using hI)
                exact EachF.nil
              · intro dn xv W hI H
                have q16 : xv 16 = .bool false := (H 16 (of_decide_eq_true (by kernel_rfl))).2
                have hS : Sep w W [Ce w.heap.size 25 #[.int .i64 0, .int .i64 0, .int .i64 0, .int .u64 0, .int .u64 0, .int .u64 0, .int .u64 0, .int .u64 0, .int .u64 0, .slice none 0 0], Rf g2 s7.1 s7.2, Ce (g2 + 1) 25 #[.int .i64 (x0 : Int), .int .i64 (x1 : Int), .int .i64 (x2 : Int), .int .u64 (u0 : Int), .int .u64 (u1 : Int), .int .u64 (u2 : Int), .int .u64 (u3 : Int), .int .u64 (u4 : Int), .int .u64 (u5 : Int), .slice (some ⟨g6, 0, none⟩) t.length c7], Cv (.slice (some ⟨g6, 0, none⟩) t.length c7) t] := hI
                clear H hI
                simp only [putAll, Act.put, List.setIfInBounds_toArray, List.set_cons_zero, List.set_cons_succ, Nat.reduceAdd, q16]
                clear q16
                have HS9 := Lib.hid hS
                clear hS
                have z0 := sep_ceAt (i := 2) HS9.out rfl 0 rfl
                have z1 := sep_ceAt (i := 2) HS9.out rfl 1 rfl
                have z2 := sep_ceAt (i := 2) HS9.out rfl 2 rfl
                have z3 := sep_ceAt (i := 2) HS9.out rfl 3 rfl
                have z4 := sep_ceAt (i := 2) HS9.out rfl 4 rfl
                have z5 := sep_ceAt (i := 2) HS9.out rfl 5 rfl
                have z6 := sep_ceAt (i := 2) HS9.out rfl 6 rfl
                have z7 := sep_ceAt (i := 2) HS9.out rfl 7 rfl
                have z8 := sep_ceAt (i := 2) HS9.out rfl 8 rfl
                have z9 := sep_ceAt (i := 2) HS9.out rfl 9 rfl
                have k0 := sep_ceAt (i := 0) HS9.out rfl 0 rfl
                have k1 := sep_ceAt (i := 0) HS9.out rfl 1 rfl
                have k2 := sep_ceAt (i := 0) HS9.out rfl 2 rfl
                have k3 := sep_ceAt (i := 0) HS9.out rfl 3 rfl
                have k4 := sep_ceAt (i := 0) HS9.out rfl 4 rfl
                have k5 := sep_ceAt (i := 0) HS9.out rfl 5 rfl
                have k6 := sep_ceAt (i := 0) HS9.out rfl 6 rfl
                have k7 := sep_ceAt (i := 0) HS9.out rfl 7 rfl
                have k8 := sep_ceAt (i := 0) HS9.out rfl 8 rfl
                have k9 := sep_ceAt (i := 0) HS9.out rfl 9 rfl
                have y0 := sep_ceFrozen (i := 0) HS9.out rfl 0
                have y1 := sep_ceFrozen (i := 0) HS9.out rfl 1
                have y2 := sep_ceFrozen (i := 0) HS9.out rfl 2
                have y3 := sep_ceFrozen (i := 0) HS9.out rfl 3
                have y4 := sep_ceFrozen (i := 0) HS9.out rfl 4
                have y5 := sep_ceFrozen (i := 0) HS9.out rfl 5
                have y6 := sep_ceFrozen (i := 0) HS9.out rfl 6
                have y7 := sep_ceFrozen (i := 0) HS9.out rfl 7
                have y8 := sep_ceFrozen (i := 0) HS9.out rfl 8
                have y9 := sep_ceFrozen (i := 0) HS9.out rfl 9
                go_wp2_with fail
                obtain ⟨_, hs2⟩ := sep_put10 (i := 0) HS9.out rfl (.int .i64 (x0 : Int)) (.int .i64 (x1 : Int)) (.int .i64 (x2 : Int)) (.int .u64 (u0 : Int)) (.int .u64 (u1 : Int)) (.int .u64 (u2 : Int)) (.int .u64 (u3 : Int)) (.int .u64 (u4 : Int)) (.int .u64 (u5 : Int)) (.slice (some ⟨g6, 0, none⟩) t.length c7)
                refine bodyPost_ret (v := .tuple #[.agg #[.int .i64 (x0 : Int), .int .i64 (x1 : Int), .int .i64 (x2 : Int), .int .u64 (u0 : Int), .int .u64 (u1 : Int), .int .u64 (u2 : Int), .int .u64 (u3 : Int), .int .u64 (u4 : Int), .int .u64 (u5 : Int), .slice (some ⟨g6, 0, none⟩) t.length c7], .bool true]) (by simp [results, Tryd.results18, go_sem, k0, k1, k2, k3, k4, k5, k6, k7, k8, k9]) rfl ?_
                exact .inl ⟨(Fr.mk x0 x1 x2 u0 u1 u2 u3 u4 u5 t), (some ⟨g6, 0, none⟩), c7, ⟨HMY.out, HLp.out.symm⟩, rfl, sep_bodyAt (i := 3) hs2 rfl, hs2.bel⟩
            · have e9 : (!Lp == b) = true := by simpa using heq
              have HEQ := Lib.hid heq
              clear heq
              refine wp_region_f (fun dn xv W => Sep w W [Ce w.heap.size 25 #[.int .i64 0, .int .i64 0, .int .i64 0, .int .u64 0, .int .u64 0, .int .u64 0, .int .u64 0, .int .u64 0, .int .u64 0, .slice none 0 0], Rf g2 s7.1 s7.2, Ce (g2 + 1) 25 #[.int .i64 (x0 : Int), .int .i64 (x1 : Int), .int .i64 (x2 : Int), .int .u64 (u0 : Int), .int .u64 (u1 : Int), .int .u64 (u2 : Int), .int .u64 (u3 : Int), .int .u64 (u4 : Int), .int .u64 (u5 : Int), .slice (some ⟨g6, 0, none⟩) t.length c7], Cv (.slice (some ⟨g6, 0, none⟩) t.length c7) t]) (fun W W' => Below W.heap.size W W') [fun v _ => v = .pointer (some ⟨g2, 0, none⟩), fun v _ => v = .pointer (some ⟨g2, 0, none⟩), fun v _ => v = .pointer (some ⟨g2, 1, none⟩), fun v _ => v = .bool false, fun v _ => v = .bool false, fun v _ => v = .agg #[.int .i64 (x0 : Int), .int .i64 (x1 : Int), .int .i64 (x2 : Int), .int .u64 (u0 : Int), .int .u64 (u1 : Int), .int .u64 (u2 : Int), .int .u64 (u3 : Int), .int .u64 (u4 : Int), .int .u64 (u5 : Int), .slice (some ⟨g6, 0, none⟩) t.length c7], fun v _ => v = .bool true, fun v _ => v = .bool false, fun v _ => v = .bool false, fun v _ => v = .bool false, fun v _ => v = .agg #[.int .i64 (x0 : Int), .int .i64 (x1 : Int), .int .i64 (x2 : Int), .int .u64 (u0 : Int), .int .u64 (u1 : Int), .int .u64 (u2 : Int), .int .u64 (u3 : Int), .int .u64 (u4 : Int), .int .u64 (u5 : Int), .slice (some ⟨g6, 0, none⟩) t.length c7], IsB Lp, fun v _ => v = .string ⟨Lp.toArray⟩, fun v _ => v = .slice A b.length c, fun v _ => v = .string ⟨b.toArray⟩, fun v _ => v = .bool true, fun v _ => v = .bool true] (by kernel_rfl) (by kernel_rfl) (by kernel_rfl) (by kernel_rfl) (fun xv => by simpa using HSd.out.drew)
                (by exact ⟨fun _ _ _ _ h => h, fun _ _ _ _ h => h, fun _ _ _ _ h => h, fun _ _ _ _ h => h, fun _ _ _ _ h => h, fun _ _ _ _ h => h, fun _ _ _ _ h => h, fun _ _ _ _ h => h, fun _ _ _ _ h => h, fun _ _ _ _ h => h, fun _ _ _ _ h => h, fun _ _ _ hR h => h.keep hR, fun _ _ _ _ h => h, fun _ _ _ _ h => h, fun _ _ _ _ h => h, fun _ _ _ _ h => h, fun _ _ _ _ h => h, trivial⟩) ?_ ?_
              · refine EachF.cons 1 rfl (fun dn xv W F hF hd hN hX hI H K hK => ?_) ?_
                · have f6 : F.tmps.getD 6 undef = .pointer (some ⟨g2, 0, none⟩) := (hF 6).trans (by kernel_rfl)
                  clear H hN hd hX hF
                  refine on_plain rfl ?_
                  go_simp
                  exact hK.out _ _ rfl (Below.refl _ _) (by simpa [upB, upd] using hI)
                refine EachF.cons 2 rfl (fun dn xv W F hF hd hN hX hI H K hK => ?_) ?_
                · have h0 : xv 0 = .pointer (some ⟨g2, 0, none⟩) := (H 0 (.edge (by kernel_rfl))).2
                  have f66 : F.tmps.getD 66 undef = .pointer (some ⟨g2, 0, none⟩) := (hF 66).trans (Eq.trans (by kernel_rfl) h0)
                  clear H hN hd hX hF
                  refine on_plain rfl ?_
                  go_simp
                  exact hK.out _ _ rfl (Below.refl _ _) (by simpa [upB, upd] using hI)
                refine EachF.cons 3 rfl (fun dn xv W F hF hd hN hX hI H K hK => ?_) ?_
                · have h1 : xv 1 = .pointer (some ⟨g2, 0, none⟩) := (H 1 (.edge (by kernel_rfl))).2
                  have f67 : F.tmps.getD 67 undef = .pointer (some ⟨g2, 0, none⟩) := (hF 67).trans (Eq.trans (by kernel_rfl) h1)
                  clear H hN hd hX hF
                  refine on_plain rfl ?_
                  go_simp
                  exact hK.out _ _ rfl (Below.refl _ _) (by simpa [upB, upd] using hI)
                refine EachF.cons 4 rfl (fun dn xv W F hF hd hN hX hI H K hK => ?_) ?_
                · have h2 : xv 2 = .pointer (some ⟨g2, 1, none⟩) := (H 2 (.edge (by kernel_rfl))).2
                  have f68 : F.tmps.getD 68 undef = .pointer (some ⟨g2, 1, none⟩) := (hF 68).trans (Eq.trans (by kernel_rfl) h2)
                  obtain ⟨_, _, _, q1⟩ := sep_rfCells (i := 1) hI rfl
                  rw [HBD.out] at q1
                  clear H hN hd hX hF
                  refine on_plain rfl ?_
                  go_simp
                  exact hK.out _ _ rfl (Below.refl _ _) (by simpa [upB, upd] using hI)
                refine EachF.cons 5 rfl (fun dn xv W F hF hd hN hX hI H K hK => ?_) ?_
                · have h3 : xv 3 = .bool false := (H 3 (.edge (by kernel_rfl))).2
                  have f69 : F.tmps.getD 69 undef = .bool false := (hF 69).trans (Eq.trans (by kernel_rfl) h3)
                  clear H hN hd hX hF
                  refine on_plain rfl ?_
                  go_simp
                  exact hK.out _ _ rfl (Below.refl _ _) (by simpa [upB, upd] using hI)
                refine EachF.cons 6 rfl (fun dn xv W F hF hd hN hX hI H K hK => ?_) ?_
                · have f7 : F.tmps.getD 7 undef = .pointer (some ⟨g2 + 1, 0, none⟩) := (hF 7).trans (by kernel_rfl)
                  have h4 : xv 4 = .bool false := (H 4 (.edge (by kernel_rfl))).2
                  have f70 : F.tmps.getD 70 undef = .bool false := (hF 70).trans (Eq.trans (by kernel_rfl) h4)
                  have k0 := sep_ceAt (i := 2) hI rfl 0 rfl
                  have k1 := sep_ceAt (i := 2) hI rfl 1 rfl
                  have k2 := sep_ceAt (i := 2) hI rfl 2 rfl
                  have k3 := sep_ceAt (i := 2) hI rfl 3 rfl
                  have k4 := sep_ceAt (i := 2) hI rfl 4 rfl
                  have k5 := sep_ceAt (i := 2) hI rfl 5 rfl
                  have k6 := sep_ceAt (i := 2) hI rfl 6 rfl
                  have k7 := sep_ceAt (i := 2) hI rfl 7 rfl
                  have k8 := sep_ceAt (i := 2) hI rfl 8 rfl
                  have k9 := sep_ceAt (i := 2) hI rfl 9 rfl
                  clear H hN hd hX hF
                  refine on_guard rfl (by kernel_rfl) f70 ?_
                  go_simp
                  exact hK.out _ _ rfl (Below.refl _ _) (by simpa [upB, upd] using hI)
                refine EachF.cons 7 rfl (fun dn xv W F hF hd hN hX hI H K hK => ?_) ?_
                · have h5 : xv 5 = .agg #[.int .i64 (x0 : Int), .int .i64 (x1 : Int), .int .i64 (x2 : Int), .int .u64 (u0 : Int), .int .u64 (u1 : Int), .int .u64 (u2 : Int), .int .u64 (u3 : Int), .int .u64 (u4 : Int), .int .u64 (u5 : Int), .slice (some ⟨g6, 0, none⟩) t.length c7] := (H 5 (.edge (by kernel_rfl))).2
                  have f71 : F.tmps.getD 71 undef = .agg #[.int .i64 (x0 : Int), .int .i64 (x1 : Int), .int .i64 (x2 : Int), .int .u64 (u0 : Int), .int .u64 (u1 : Int), .int .u64 (u2 : Int), .int .u64 (u3 : Int), .int .u64 (u4 : Int), .int .u64 (u5 : Int), .slice (some ⟨g6, 0, none⟩) t.length c7] := (hF 71).trans (Eq.trans (by kernel_rfl) h5)
                  have h4 : xv 4 = .bool false := (H 4 (.edge (by kernel_rfl))).2
                  have f70 : F.tmps.getD 70 undef = .bool false := (hF 70).trans (Eq.trans (by kernel_rfl) h4)
                  clear H hN hd hX hF
                  refine on_guard rfl (by kernel_rfl) f70 ?_
                  go_simp
                  refine (mayRb5 (w := W) (f := (Fr.mk x0 x1 x2 u0 u1 u2 u3 u4 u5 t)) (A := (some ⟨g6, 0, none⟩)) (c := c7) HMY.out (by unfold maxLen; simp <;> omega)).mono ?_
                  rintro e W' ⟨rfl, hb⟩
                  exact hK.out _ W' rfl hb (by simpa [upB, upd] using hI.grow hb)
                refine EachF.cons 8 rfl (fun dn xv W F hF hd hN hX hI H K hK => ?_) ?_
                · have h6 : xv 6 = .bool true := (H 6 (.edge (by kernel_rfl))).2
                  have f72 : F.tmps.getD 72 undef = .bool true := (hF 72).trans (Eq.trans (by kernel_rfl) h6)
                  have h4 : xv 4 = .bool false := (H 4 (.edge (by kernel_rfl))).2
                  have f70 : F.tmps.getD 70 undef = .bool false := (hF 70).trans (Eq.trans (by kernel_rfl) h4)
                  clear H hN hd hX hF
                  refine on_guard rfl (by kernel_rfl) f70 ?_
                  go_simp
                  exact hK.out _ _ rfl (Below.refl _ _) (by simpa [upB, upd] using hI)
                refine EachF.cons 9 rfl (fun dn xv W F hF hd hN hX hI H K hK => ?_) ?_
                · have h4 : xv 4 = .bool false := (H 4 (.edge (by kernel_rfl))).2
                  have f70 : F.tmps.getD 70 undef = .bool false := (hF 70).trans (Eq.trans (by kernel_rfl) h4)
                  have h7 : xv 7 = .bool false := (H 7 (.edge (by kernel_rfl))).2
                  have f73 : F.tmps.getD 73 undef = .bool false := (hF 73).trans (Eq.trans (by kernel_rfl) h7)
                  clear H hN hd hX hF
                  refine on_plain rfl ?_
                  go_simp
                  exact hK.out _ _ rfl (Below.refl _ _) (by simpa [upB, upd] using hI)
                refine EachF.cons 10 rfl (fun dn xv W F hF hd hN hX hI H K hK => ?_) ?_
                · have h8 : xv 8 = .bool false := (H 8 (.edge (by kernel_rfl))).2
                  have f74 : F.tmps.getD 74 undef = .bool false := (hF 74).trans (Eq.trans (by kernel_rfl) h8)
                  clear H hN hd hX hF
                  refine on_plain rfl ?_
                  go_simp
                  exact hK.out _ _ rfl (Below.refl _ _) (by simpa [upB, upd] using hI)
                refine EachF.cons 11 rfl (fun dn xv W F hF hd hN hX hI H K hK => ?_) ?_
                · have f7 : F.tmps.getD 7 undef = .pointer (some ⟨g2 + 1, 0, none⟩) := (hF 7).trans (by kernel_rfl)
                  have h9 : xv 9 = .bool false := (H 9 (.edge (by kernel_rfl))).2
                  have f75 : F.tmps.getD 75 undef = .bool false := (hF 75).trans (Eq.trans (by kernel_rfl) h9)
                  have k0 := sep_ceAt (i := 2) hI rfl 0 rfl
                  have k1 := sep_ceAt (i := 2) hI rfl 1 rfl
                  have k2 := sep_ceAt (i := 2) hI rfl 2 rfl
                  have k3 := sep_ceAt (i := 2) hI rfl 3 rfl
                  have k4 := sep_ceAt (i := 2) hI rfl 4 rfl
                  have k5 := sep_ceAt (i := 2) hI rfl 5 rfl
                  have k6 := sep_ceAt (i := 2) hI rfl 6 rfl
                  have k7 := sep_ceAt (i := 2) hI rfl 7 rfl
                  have k8 := sep_ceAt (i := 2) hI rfl 8 rfl
                  have k9 := sep_ceAt (i := 2) hI rfl 9 rfl
                  clear H hN hd hX hF
                  refine on_guard rfl (by kernel_rfl) f75 ?_
                  go_simp
                  exact hK.out _ _ rfl (Below.refl _ _) (by simpa [upB, upd] using hI)
                refine EachF.cons 12 rfl (fun dn xv W F hF hd hN hX hI H K hK => ?_) ?_
                · have h10 : xv 10 = .agg #[.int .i64 (x0 : Int), .int .i64 (x1 : Int), .int .i64 (x2 : Int), .int .u64 (u0 : Int), .int .u64 (u1 : Int), .int .u64 (u2 : Int), .int .u64 (u3 : Int), .int .u64 (u4 : Int), .int .u64 (u5 : Int), .slice (some ⟨g6, 0, none⟩) t.length c7] := (H 10 (.edge (by kernel_rfl))).2
                  have f76 : F.tmps.getD 76 undef = .agg #[.int .i64 (x0 : Int), .int .i64 (x1 : Int), .int .i64 (x2 : Int), .int .u64 (u0 : Int), .int .u64 (u1 : Int), .int .u64 (u2 : Int), .int .u64 (u3 : Int), .int .u64 (u4 : Int), .int .u64 (u5 : Int), .slice (some ⟨g6, 0, none⟩) t.length c7] := (hF 76).trans (Eq.trans (by kernel_rfl) h10)
                  have h9 : xv 9 = .bool false := (H 9 (.edge (by kernel_rfl))).2
                  have f75 : F.tmps.getD 75 undef = .bool false := (hF 75).trans (Eq.trans (by kernel_rfl) h9)
                  clear H hN hd hX hF
                  refine on_guard rfl (by kernel_rfl) f75 ?_
                  go_simp
                  refine (refBytes_yes W W.heap.size (Fr.mk x0 x1 x2 u0 u1 u2 u3 u4 u5 t) (some ⟨g6, 0, none⟩) c7 (sep_bodyHas (i := 3) hI rfl) (Nat.le_refl _) HMY.out).mono ?_
                  rintro e W' ⟨v, rfl, ho, hb⟩
                  rw [HLp.out] at ho
                  exact hK.out v W' (IsB.of_own ho) hb (by simpa [upB, upd] using hI.grow hb)
                refine EachF.cons 13 rfl (fun dn xv W F hF hd hN hX hI H K hK => ?_) ?_
                · have h11 := (H 11 (.edge (by kernel_rfl))).2
                  simp only [Dl] at h11
                  have f77 : F.tmps.getD 77 undef = xv 11 := (hF 77).trans (by kernel_rfl)
                  have h9 : xv 9 = .bool false := (H 9 (.edge (by kernel_rfl))).2
                  have f75 : F.tmps.getD 75 undef = .bool false := (hF 75).trans (Eq.trans (by kernel_rfl) h9)
                  clear H hN hd hX hF
                  refine on_guard rfl (by kernel_rfl) f75 ?_
                  obtain ⟨A9, c9, e9, h9⟩ := h11
                  rw [e9] at f77
                  have g77 := f77
                  rw [Array.getD_eq_getD_getElem?] at g77
                  have t9 := run_str (c := c9) h9
                  clear h9
                  go_simp
                  exact hK.out _ W rfl (Below.refl _ _) (by simpa [upB, upd] using hI)
                refine EachF.cons 14 rfl (fun dn xv W F hF hd hN hX hI H K hK => ?_) ?_
                · have f0 : F.tmps.getD 0 undef = .slice A b.length c := (hF 0).trans (by kernel_rfl)
                  have h9 : xv 9 = .bool false := (H 9 (.edge (by kernel_rfl))).2
                  have f75 : F.tmps.getD 75 undef = .bool false := (hF 75).trans (Eq.trans (by kernel_rfl) h9)
                  clear H hN hd hX hF
                  refine on_guard rfl (by kernel_rfl) f75 ?_
                  go_simp
                  exact hK.out _ _ rfl (Below.refl _ _) (by simpa [upB, upd] using hI)
                refine EachF.cons 15 rfl (fun dn xv W F hF hd hN hX hI H K hK => ?_) ?_
                · have h13 : xv 13 = .slice A b.length c := (H 13 (.edge (by kernel_rfl))).2
                  have f79 : F.tmps.getD 79 undef = .slice A b.length c := (hF 79).trans (Eq.trans (by kernel_rfl) h13)
                  have h9 : xv 9 = .bool false := (H 9 (.edge (by kernel_rfl))).2
                  have f75 : F.tmps.getD 75 undef = .bool false := (hF 75).trans (Eq.trans (by kernel_rfl) h9)
                  have t9 := run_str (c := c) (hI.has HA.out)
                  clear H hN hd hX hF
                  refine on_guard rfl (by kernel_rfl) f75 ?_
                  go_simp
                  exact hK.out _ _ rfl (Below.refl _ _) (by simpa [upB, upd] using hI)
                refine EachF.cons 16 rfl (fun dn xv W F hF hd hN hX hI H K hK => ?_) ?_
                · have h12 : xv 12 = .string ⟨Lp.toArray⟩ := (H 12 (.edge (by kernel_rfl))).2
                  have f78 : F.tmps.getD 78 undef = .string ⟨Lp.toArray⟩ := (hF 78).trans (Eq.trans (by kernel_rfl) h12)
                  have h14 : xv 14 = .string ⟨b.toArray⟩ := (H 14 (.edge (by kernel_rfl))).2
                  have f80 : F.tmps.getD 80 undef = .string ⟨b.toArray⟩ := (hF 80).trans (Eq.trans (by kernel_rfl) h14)
                  have h9 : xv 9 = .bool false := (H 9 (.edge (by kernel_rfl))).2
                  have f75 : F.tmps.getD 75 undef = .bool false := (hF 75).trans (Eq.trans (by kernel_rfl) h9)
                  clear H hN hd hX hF
                  refine on_guard rfl (by kernel_rfl) f75 ?_
                  go_simp
                  exact hK.out _ _ rfl (Below.refl _ _) (by simpa [upB, upd] using hI)
                refine EachF.cons 17 rfl (fun dn xv W F hF hd hN hX hI H K hK => ?_) ?_
                · have h9 : xv 9 = .bool false := (H 9 (.edge (by kernel_rfl))).2
                  have f75 : F.tmps.getD 75 undef = .bool false := (hF 75).trans (Eq.trans (by kernel_rfl) h9)
                  have h15 : xv 15 = .bool true := (H 15 (.edge (by kernel_rfl))).2
                  have f81 : F.tmps.getD 81 undef = .bool true := (hF 81).trans (Eq.trans (by kernel_rfl) h15)
                  clear H hN hd hX hF
                  refine on_plain rfl ?_
                  go_simp
                  exact hK.out _ _ rfl (Below.refl _ _) (by simpa [upB, upd] using hI)
                exact EachF.nil
              · intro dn xv W hI H
                have q16 : xv 16 = .bool true := (H 16 (of_decide_eq_true (by kernel_rfl))).2
                have hS : Sep w W [Ce w.heap.size 25 #[.int .i64 0, .int .i64 0, .int .i64 0, .int .u64 0, .int .u64 0, .int .u64 0, .int .u64 0, .int .u64 0, .int .u64 0, .slice none 0 0], Rf g2 s7.1 s7.2, Ce (g2 + 1) 25 #[.int .i64 (x0 : Int), .int .i64 (x1 : Int), .int .i64 (x2 : Int), .int .u64 (u0 : Int), .int .u64 (u1 : Int), .int .u64 (u2 : Int), .int .u64 (u3 : Int), .int .u64 (u4 : Int), .int .u64 (u5 : Int), .slice (some ⟨g6, 0, none⟩) t.length c7], Cv (.slice (some ⟨g6, 0, none⟩) t.length c7) t] := hI
                clear H hI
                simp only [putAll, Act.put, List.setIfInBounds_toArray, List.set_cons_zero, List.set_cons_succ, Nat.reduceAdd, q16]
                clear q16
                have HS9 := Lib.hid hS
                clear hS
                have k0 := sep_ceAt (i := 0) HS9.out rfl 0 rfl
                have k1 := sep_ceAt (i := 0) HS9.out rfl 1 rfl
                have k2 := sep_ceAt (i := 0) HS9.out rfl 2 rfl
                have k3 := sep_ceAt (i := 0) HS9.out rfl 3 rfl
                have k4 := sep_ceAt (i := 0) HS9.out rfl 4 rfl
                have k5 := sep_ceAt (i := 0) HS9.out rfl 5 rfl
                have k6 := sep_ceAt (i := 0) HS9.out rfl 6 rfl
                have k7 := sep_ceAt (i := 0) HS9.out rfl 7 rfl
                have k8 := sep_ceAt (i := 0) HS9.out rfl 8 rfl
                have k9 := sep_ceAt (i := 0) HS9.out rfl 9 rfl
                have y0 := sep_ceFrozen (i := 0) HS9.out rfl 0
                have y1 := sep_ceFrozen (i := 0) HS9.out rfl 1
                have y2 := sep_ceFrozen (i := 0) HS9.out rfl 2
                have y3 := sep_ceFrozen (i := 0) HS9.out rfl 3
                have y4 := sep_ceFrozen (i := 0) HS9.out rfl 4
                have y5 := sep_ceFrozen (i := 0) HS9.out rfl 5
                have y6 := sep_ceFrozen (i := 0) HS9.out rfl 6
                have y7 := sep_ceFrozen (i := 0) HS9.out rfl 7
                have y8 := sep_ceFrozen (i := 0) HS9.out rfl 8
                have y9 := sep_ceFrozen (i := 0) HS9.out rfl 9
                go_wp2_with fail
                obtain ⟨_, hs2⟩ := sep_put10 (i := 0) HS9.out rfl (.int .i64 0) (.int .i64 0) (.int .i64 0) (.int .u64 0) (.int .u64 0) (.int .u64 0) (.int .u64 0) (.int .u64 0) (.int .u64 0) (.slice none 0 0)
                refine bodyPost_ret (v := .tuple #[.agg #[.int .i64 0, .int .i64 0, .int .i64 0, .int .u64 0, .int .u64 0, .int .u64 0, .int .u64 0, .int .u64 0, .int .u64 0, .slice none 0 0], .bool false]) (by simp [results, Tryd.results18, go_sem, k0, k1, k2, k3, k4, k5, k6, k7, k8, k9]) rfl ?_
                exact .inr ⟨fun f hf => (by have h := ((isFr_rf HOP.out f).1 hf).2.2.2.1; rw [HF.out, HLp.out] at h; exact HEQ.out h), rfl, hs2.bel⟩
          · have HMY : Hid ((Fr.mk x0 x1 x2 u0 u1 u2 u3 u4 u5 t).may = false) := Lib.hid (by simpa using hmy)
            clear hmy
            refine wp_region_f (fun dn xv W => Sep w W [Ce w.heap.size 25 #[.int .i64 0, .int .i64 0, .int .i64 0, .int .u64 0, .int .u64 0, .int .u64 0, .int .u64 0, .int .u64 0, .int .u64 0, .slice none 0 0], Rf g2 s7.1 s7.2, Ce (g2 + 1) 25 #[.int .i64 (x0 : Int), .int .i64 (x1 : Int), .int .i64 (x2 : Int), .int .u64 (u0 : Int), .int .u64 (u1 : Int), .int .u64 (u2 : Int), .int .u64 (u3 : Int), .int .u64 (u4 : Int), .int .u64 (u5 : Int), .slice (some ⟨g6, 0, none⟩) t.length c7], Cv (.slice (some ⟨g6, 0, none⟩) t.length c7) t]) (fun W W' => Below W.heap.size W W') [fun v _ => v = .pointer (some ⟨g2, 0, none⟩), fun v _ => v = .pointer (some ⟨g2, 0, none⟩), fun v _ => v = .pointer (some ⟨g2, 1, none⟩), fun v _ => v = .bool false, fun v _ => v = .bool false, fun v _ => v = .agg #[.int .i64 (x0 : Int), .int .i64 (x1 : Int), .int .i64 (x2 : Int), .int .u64 (u0 : Int), .int .u64 (u1 : Int), .int .u64 (u2 : Int), .int .u64 (u3 : Int), .int .u64 (u4 : Int), .int .u64 (u5 : Int), .slice (some ⟨g6, 0, none⟩) t.length c7], fun v _ => v = .bool false, fun v _ => v = .bool true, fun v _ => v = .bool true, fun v _ => v = .bool true, fun v _ => v = undef, fun v _ => v = undef, fun v _ => v = undef, fun v _ => v = undef, fun v _ => v = undef, fun v _ => v = undef, fun v _ => v = .bool true] (by kernel_rfl) (by kernel_rfl) (by kernel_rfl) (by kernel_rfl) (fun xv => by simpa using HSd.out.drew)
              (by exact ⟨fun _ _ _ _ h => h, fun _ _ _ _ h => h, fun _ _ _ _ h => h, fun _ _ _ _ h => h, fun _ _ _ _ h => h, fun _ _ _ _ h => h, fun _ _ _ _ h => h, fun _ _ _ _ h => h, fun _ _ _ _ h => h, fun _ _ _ _ h => h, fun _ _ _ _ h => h, fun _ _ _ _ h => h, fun _ _ _ _ h => h, fun _ _ _ _ h => h, fun _ _ _ _ h => h, fun _ _ _ _ h => h, fun _ _ _ _ h => h, trivial⟩) ?_ ?_
            · refine EachF.cons 1 rfl (fun dn xv W F hF hd hN hX hI H K hK => ?_) ?_
              · have f6 : F.tmps.getD 6 undef = .pointer (some ⟨g2, 0, none⟩) := (hF 6).trans (by kernel_rfl)
                clear H hN hd hX hF
                refine on_plain rfl ?_
                go_simp
                exact hK.out _ _ rfl (Below.refl _ _) (by simpa [upB, upd] using hI)
              refine EachF.cons 2 rfl (fun dn xv W F hF hd hN hX hI H K hK => ?_) ?_
              · have h0 : xv 0 = .pointer (some ⟨g2, 0, none⟩) := (H 0 (.edge (by kernel_rfl))).2
                have f66 : F.tmps.getD 66 undef = .pointer (some ⟨g2, 0, none⟩) := (hF 66).trans (Eq.trans (by kernel_rfl) h0)
                clear H hN hd hX hF
                refine on_plain rfl ?_
                go_simp
                exact hK.out _ _ rfl (Below.refl _ _) (by simpa [upB, upd] using hI)
              refine EachF.cons 3 rfl (fun dn xv W F hF hd hN hX hI H K hK => ?_) ?_
              · have h1 : xv 1 = .pointer (some ⟨g2, 0, none⟩) := (H 1 (.edge (by kernel_rfl))).2
                have f67 : F.tmps.getD 67 undef = .pointer (some ⟨g2, 0, none⟩) := (hF 67).trans (Eq.trans (by kernel_rfl) h1)
                clear H hN hd hX hF
                refine on_plain rfl ?_
                go_simp
                exact hK.out _ _ rfl (Below.refl _ _) (by simpa [upB, upd] using hI)
              refine EachF.cons 4 rfl (fun dn xv W F hF hd hN hX hI H K hK => ?_) ?_
              · have h2 : xv 2 = .pointer (some ⟨g2, 1, none⟩) := (H 2 (.edge (by kernel_rfl))).2
                have f68 : F.tmps.getD 68 undef = .pointer (some ⟨g2, 1, none⟩) := (hF 68).trans (Eq.trans (by kernel_rfl) h2)
                obtain ⟨_, _, _, q1⟩ := sep_rfCells (i := 1) hI rfl
                rw [HBD.out] at q1
                clear H hN hd hX hF
                refine on_plain rfl ?_
                go_simp
                exact hK.out _ _ rfl (Below.refl _ _) (by simpa [upB, upd] using hI)
              refine EachF.cons 5 rfl (fun dn xv W F hF hd hN hX hI H K hK => ?_) ?_
              · have h3 : xv 3 = .bool false := (H 3 (.edge (by kernel_rfl))).2
                have f69 : F.tmps.getD 69 undef = .bool false := (hF 69).trans (Eq.trans (by kernel_rfl) h3)
                clear H hN hd hX hF
                refine on_plain rfl ?_
                go_simp
                exact hK.out _ _ rfl (Below.refl _ _) (by simpa [upB, upd] using hI)
              refine EachF.cons 6 rfl (fun dn xv W F hF hd hN hX hI H K hK => ?_) ?_
              · have f7 : F.tmps.getD 7 undef = .pointer (some ⟨g2 + 1, 0, none⟩) := (hF 7).trans (by kernel_rfl)
                have h4 : xv 4 = .bool false := (H 4 (.edge (by kernel_rfl))).2
                have f70 : F.tmps.getD 70 undef = .bool false := (hF 70).trans (Eq.trans (by kernel_rfl) h4)
                have k0 := sep_ceAt (i := 2) hI rfl 0 rfl
                have k1 := sep_ceAt (i := 2) hI rfl 1 rfl
                have k2 := sep_ceAt (i := 2) hI rfl 2 rfl
                have k3 := sep_ceAt (i := 2) hI rfl 3 rfl
                have k4 := sep_ceAt (i := 2) hI rfl 4 rfl
                have k5 := sep_ceAt (i := 2) hI rfl 5 rfl
                have k6 := sep_ceAt (i := 2) hI rfl 6 rfl
                have k7 := sep_ceAt (i := 2) hI rfl 7 rfl
                have k8 := sep_ceAt (i := 2) hI rfl 8 rfl
                have k9 := sep_ceAt (i := 2) hI rfl 9 rfl
                clear H hN hd hX hF
                refine on_guard rfl (by kernel_rfl) f70 ?_
                go_simp
                exact hK.out _ _ rfl (Below.refl _ _) (by simpa [upB, upd] using hI)
              refine EachF.cons 7 rfl (fun dn xv W F hF hd hN hX hI H K hK => ?_) ?_
              · have h5 : xv 5 = .agg #[.int .i64 (x0 : Int), .int .i64 (x1 : Int), .int .i64 (x2 : Int), .int .u64 (u0 : Int), .int .u64 (u1 : Int), .int .u64 (u2 : Int), .int .u64 (u3 : Int), .int .u64 (u4 : Int), .int .u64 (u5 : Int), .slice (some ⟨g6, 0, none⟩) t.length c7] := (H 5 (.edge (by kernel_rfl))).2
                have f71 : F.tmps.getD 71 undef = .agg #[.int .i64 (x0 : Int), .int .i64 (x1 : Int), .int .i64 (x2 : Int), .int .u64 (u0 : Int), .int .u64 (u1 : Int), .int .u64 (u2 : Int), .int .u64 (u3 : Int), .int .u64 (u4 : Int), .int .u64 (u5 : Int), .slice (some ⟨g6, 0, none⟩) t.length c7] := (hF 71).trans (Eq.trans (by kernel_rfl) h5)
                have h4 : xv 4 = .bool false := (H 4 (.edge (by kernel_rfl))).2
                have f70 : F.tmps.getD 70 undef = .bool false := (hF 70).trans (Eq.trans (by kernel_rfl) h4)
                clear H hN hd hX hF
                refine on_guard rfl (by kernel_rfl) f70 ?_
                go_simp
                refine (mayRb5 (w := W) (f := (Fr.mk x0 x1 x2 u0 u1 u2 u3 u4 u5 t)) (A := (some ⟨g6, 0, none⟩)) (c := c7) HMY.out (by unfold maxLen; simp <;> omega)).mono ?_
                rintro e W' ⟨rfl, hb⟩
                exact hK.out _ W' rfl hb (by simpa [upB, upd] using hI.grow hb)
              refine EachF.cons 8 rfl (fun dn xv W F hF hd hN hX hI H K hK => ?_) ?_
              · have h6 : xv 6 = .bool false := (H 6 (.edge (by kernel_rfl))).2
                have f72 : F.tmps.getD 72 undef = .bool false := (hF 72).trans (Eq.trans (by kernel_rfl) h6)
                have h4 : xv 4 = .bool false := (H 4 (.edge (by kernel_rfl))).2
                have f70 : F.tmps.getD 70 undef = .bool false := (hF 70).trans (Eq.trans (by kernel_rfl) h4)
                clear H hN hd hX hF
                refine on_guard rfl (by kernel_rfl) f70 ?_
                go_simp
                exact hK.out _ _ rfl (Below.refl _ _) (by simpa [upB, upd] using hI)
              refine EachF.cons 9 rfl (fun dn xv W F hF hd hN hX hI H K hK => ?_) ?_
              · have h4 : xv 4 = .bool false := (H 4 (.edge (by kernel_rfl))).2
                have f70 : F.tmps.getD 70 undef = .bool false := (hF 70).trans (Eq.trans (by kernel_rfl) h4)
                have h7 : xv 7 = .bool true := (H 7 (.edge (by kernel_rfl))).2
                have f73 : F.tmps.getD 73 undef = .bool true := (hF 73).trans (Eq.trans (by kernel_rfl) h7)
                clear H hN hd hX hF
                refine on_plain rfl ?_
                go_simp
                exact hK.out _ _ rfl (Below.refl _ _) (by simpa [upB, upd] using hI)
              refine EachF.cons 10 rfl (fun dn xv W F hF hd hN hX hI H K hK => ?_) ?_
              · have h8 : xv 8 = .bool true := (H 8 (.edge (by kernel_rfl))).2
                have f74 : F.tmps.getD 74 undef = .bool true := (hF 74).trans (Eq.trans (by kernel_rfl) h8)
                clear H hN hd hX hF
                refine on_plain rfl ?_
                go_simp
                exact hK.out _ _ rfl (Below.refl _ _) (by simpa [upB, upd] using hI)
              refine EachF.cons 11 rfl (fun dn xv W F hF hd hN hX hI H K hK => ?_) ?_
              · have h9 : xv 9 = .bool true := (H 9 (.edge (by kernel_rfl))).2
                have f75 : F.tmps.getD 75 undef = .bool true := (hF 75).trans (Eq.trans (by kernel_rfl) h9)
                clear H hN hd hX hF
                refine off_guard rfl (by kernel_rfl) f75 (by decide) ?_
                exact hK.out _ _ rfl (Below.refl _ _) (by simpa [upB, upd] using hI)
              refine EachF.cons 12 rfl (fun dn xv W F hF hd hN hX hI H K hK => ?_) ?_
              · have h9 : xv 9 = .bool true := (H 9 (.edge (by kernel_rfl))).2
                have f75 : F.tmps.getD 75 undef = .bool true := (hF 75).trans (Eq.trans (by kernel_rfl) h9)
                clear H hN hd hX hF
                refine off_guard rfl (by kernel_rfl) f75 (by decide) ?_
                exact hK.out _ _ rfl (Below.refl _ _) (by simpa [upB, upd] using hI)
              refine EachF.cons 13 rfl (fun dn xv W F hF hd hN hX hI H K hK => ?_) ?_
              · have h9 : xv 9 = .bool true := (H 9 (.edge (by kernel_rfl))).2
                have f75 : F.tmps.getD 75 undef = .bool true := (hF 75).trans (Eq.trans (by kernel_rfl) h9)
                clear H hN hd hX hF
                refine off_guard rfl (by kernel_rfl) f75 (by decide) ?_
                exact hK.out _ _ rfl (Below.refl _ _) (by simpa [upB, upd] using hI)
              refine EachF.cons 14 rfl (fun dn xv W F hF hd hN hX hI H K hK => ?_) ?_
              · have h9 : xv 9 = .bool true := (H 9 (.edge (by kernel_rfl))).2
                have f75 : F.tmps.getD 75 undef = .bool true := (hF 75).trans (Eq.trans (by kernel_rfl) h9)
                clear H hN hd hX hF
                refine off_guard rfl (by kernel_rfl) f75 (by decide) ?_
                exact hK.out _ _ rfl (Below.refl _ _) (by simpa [upB, upd] using hI)
              refine EachF.cons 15 rfl (fun dn xv W F hF hd hN hX hI H K hK => ?_) ?_
              · have h9 : xv 9 = .bool true := (H 9 (.edge (by kernel_rfl))).2
                have f75 : F.tmps.getD 75 undef = .bool true := (hF 75).trans (Eq.trans (by kernel_rfl) h9)
                clear H hN hd hX hF
                refine off_guard rfl (by kernel_rfl) f75 (by decide) ?_
                exact hK.out _ _ rfl (Below.refl _ _) (by simpa [upB, upd] using hI)
              refine EachF.cons 16 rfl (fun dn xv W F hF hd hN hX hI H K hK => ?_) ?_
              · have h9 : xv 9 = .bool true := (H 9 (.edge (by kernel_rfl))).2
                have f75 : F.tmps.getD 75 undef = .bool true := (hF 75).trans (Eq.trans (by kernel_rfl) h9)
                clear H hN hd hX hF
                refine off_guard rfl (by kernel_rfl) f75 (by decide) ?_
                exact hK.out _ _ rfl (Below.refl _ _) (by simpa [upB, upd] using hI)
              refine EachF.cons 17 rfl (fun dn xv W F hF hd hN hX hI H K hK => ?_) ?_
              · have h9 : xv 9 = .bool true := (H 9 (.edge (by kernel_rfl))).2
                have f75 : F.tmps.getD 75 undef = .bool true := (hF 75).trans (Eq.trans (by kernel_rfl) h9)
                have h15 : xv 15 = undef := (H 15 (.edge (by kernel_rfl))).2
                have f81 : F.tmps.getD 81 undef = undef := (hF 81).trans (Eq.trans (by kernel_rfl) h15)
                clear H hN hd hX hF
                refine on_plain rfl ?_
                go_simp
                exact hK.out _ _ rfl (Below.refl _ _) (by simpa [upB, upd] using hI)
              exact EachF.nil
            · intro dn xv W hI H
              have q16 : xv 16 = .bool true := (H 16 (of_decide_eq_true (by kernel_rfl))).2
              have hS : Sep w W [Ce w.heap.size 25 #[.int .i64 0, .int .i64 0, .int .i64 0, .int .u64 0, .int .u64 0, .int .u64 0, .int .u64 0, .int .u64 0, .int .u64 0, .slice none 0 0], Rf g2 s7.1 s7.2, Ce (g2 + 1) 25 #[.int .i64 (x0 : Int), .int .i64 (x1 : Int), .int .i64 (x2 : Int), .int .u64 (u0 : Int), .int .u64 (u1 : Int), .int .u64 (u2 : Int), .int .u64 (u3 : Int), .int .u64 (u4 : Int), .int .u64 (u5 : Int), .slice (some ⟨g6, 0, none⟩) t.length c7], Cv (.slice (some ⟨g6, 0, none⟩) t.length c7) t] := hI
              clear H hI
              simp only [putAll, Act.put, List.setIfInBounds_toArray, List.set_cons_zero, List.set_cons_succ, Nat.reduceAdd, q16]
              clear q16
              have HS9 := Lib.hid hS
              clear hS
              have k0 := sep_ceAt (i := 0) HS9.out rfl 0 rfl
              have k1 := sep_ceAt (i := 0) HS9.out rfl 1 rfl
              have k2 := sep_ceAt (i := 0) HS9.out rfl 2 rfl
              have k3 := sep_ceAt (i := 0) HS9.out rfl 3 rfl
              have k4 := sep_ceAt (i := 0) HS9.out rfl 4 rfl
              have k5 := sep_ceAt (i := 0) HS9.out rfl 5 rfl
              have k6 := sep_ceAt (i := 0) HS9.out rfl 6 rfl
              have k7 := sep_ceAt (i := 0) HS9.out rfl 7 rfl
              have k8 := sep_ceAt (i := 0) HS9.out rfl 8 rfl
              have k9 := sep_ceAt (i := 0) HS9.out rfl 9 rfl
              have y0 := sep_ceFrozen (i := 0) HS9.out rfl 0
              have y1 := sep_ceFrozen (i := 0) HS9.out rfl 1
              have y2 := sep_ceFrozen (i := 0) HS9.out rfl 2
              have y3 := sep_ceFrozen (i := 0) HS9.out rfl 3
              have y4 := sep_ceFrozen (i := 0) HS9.out rfl 4
              have y5 := sep_ceFrozen (i := 0) HS9.out rfl 5
              have y6 := sep_ceFrozen (i := 0) HS9.out rfl 6
              have y7 := sep_ceFrozen (i := 0) HS9.out rfl 7
              have y8 := sep_ceFrozen (i := 0) HS9.out rfl 8
              have y9 := sep_ceFrozen (i := 0) HS9.out rfl 9
              go_wp2_with fail
              obtain ⟨_, hs2⟩ := sep_put10 (i := 0) HS9.out rfl (.int .i64 0) (.int .i64 0) (.int .i64 0) (.int .u64 0) (.int .u64 0) (.int .u64 0) (.int .u64 0) (.int .u64 0) (.int .u64 0) (.slice none 0 0)
              refine bodyPost_ret (v := .tuple #[.agg #[.int .i64 0, .int .i64 0, .int .i64 0, .int .u64 0, .int .u64 0, .int .u64 0, .int .u64 0, .int .u64 0, .int .u64 0, .slice none 0 0], .bool false]) (by simp [results, Tryd.results18, go_sem, k0, k1, k2, k3, k4, k5, k6, k7, k8, k9]) rfl ?_
              exact .inr ⟨fun f hf => (by have h := ((isFr_rf HOP.out f).1 hf).2.2.1; rw [HF.out, HMY.out] at h; cases h), rfl, hs2.bel⟩
      · have HPOS := Lib.hid hpos
        obtain ⟨s7, Hs7⟩ : ∃ s, Hid (s6 = s) := ⟨_, Lib.hid rfl⟩
        have HB : Hid (rfB m = ([], s7)) := Lib.hid (by
          unfold rfB
          rw [show (rf6 m).s = s6 from Hs6.out, if_neg (by rw [Hnr.out]; exact HPOS.out), ← Hs7.out])
        go_wp2_with fail
        clear q0 q1 k8 y8 HSa5 hpos
        rw [Hs7.out] at HSb5
        by_cases hbd : s7.2 = true
        · have HBD := Lib.hid hbd
          clear hbd
          refine wp_region_f (fun dn xv W => Sep w W [Ce w.heap.size 25 #[.int .i64 0, .int .i64 0, .int .i64 0, .int .u64 0, .int .u64 0, .int .u64 0, .int .u64 0, .int .u64 0, .int .u64 0, .slice none 0 0], Rf g2 s7.1 s7.2, Ce (g2 + 1) 25 #[.int .i64 (x0 : Int), .int .i64 (x1 : Int), .int .i64 (x2 : Int), .int .u64 (u0 : Int), .int .u64 (u1 : Int), .int .u64 (u2 : Int), .int .u64 (u3 : Int), .int .u64 (u4 : Int), .int .u64 (u5 : Int), .slice none 0 0]]) (fun W W' => Below W.heap.size W W') [fun v _ => v = .pointer (some ⟨g2, 0, none⟩), fun v _ => v = .pointer (some ⟨g2, 0, none⟩), fun v _ => v = .pointer (some ⟨g2, 1, none⟩), fun v _ => v = .bool true, fun v _ => v = .bool true, fun v _ => v = undef, fun v _ => v = undef, fun v _ => v = undef, fun v _ => v = .bool true, fun v _ => v = .bool true, fun v _ => v = undef, fun v _ => v = undef, fun v _ => v = undef, fun v _ => v = undef, fun v _ => v = undef, fun v _ => v = undef, fun v _ => v = .bool true] (by kernel_rfl) (by kernel_rfl) (by kernel_rfl) (by kernel_rfl) (fun xv => by simpa using HSb5.out.drew)
            (by exact ⟨fun _ _ _ _ h => h, fun _ _ _ _ h => h, fun _ _ _ _ h => h, fun _ _ _ _ h => h, fun _ _ _ _ h => h, fun _ _ _ _ h => h, fun _ _ _ _ h => h, fun _ _ _ _ h => h, fun _ _ _ _ h => h, fun _ _ _ _ h => h, fun _ _ _ _ h => h, fun _ _ _ _ h => h, fun _ _ _ _ h => h, fun _ _ _ _ h => h, fun _ _ _ _ h => h, fun _ _ _ _ h => h, fun _ _ _ _ h => h, trivial⟩) ?_ ?_
          · refine EachF.cons 1 rfl (fun dn xv W F hF hd hN hX hI H K hK => ?_) ?_
            · have f6 : F.tmps.getD 6 undef = .pointer (some ⟨g2, 0, none⟩) := (hF 6).trans (by kernel_rfl)
              clear H hN hd hX hF
              refine on_plain rfl ?_
              go_simp
              exact hK.out _ _ rfl (Below.refl _ _) (by simpa [upB, upd] using hI)
            refine EachF.cons 2 rfl (fun dn xv W F hF hd hN hX hI H K hK => ?_) ?_
            · have h0 : xv 0 = .pointer (some ⟨g2, 0, none⟩) := (H 0 (.edge (by kernel_rfl))).2
              have f66 : F.tmps.getD 66 undef = .pointer (some ⟨g2, 0, none⟩) := (hF 66).trans (Eq.trans (by kernel_rfl) h0)
              clear H hN hd hX hF
              refine on_plain rfl ?_
              go_simp
              exact hK.out _ _ rfl (Below.refl _ _) (by simpa [upB, upd] using hI)
            refine EachF.cons 3 rfl (fun dn xv W F hF hd hN hX hI H K hK => ?_) ?_
            · have h1 : xv 1 = .pointer (some ⟨g2, 0, none⟩) := (H 1 (.edge (by kernel_rfl))).2
              have f67 : F.tmps.getD 67 undef = .pointer (some ⟨g2, 0, none⟩) := (hF 67).trans (Eq.trans (by kernel_rfl) h1)
              clear H hN hd hX hF
              refine on_plain rfl ?_
              go_simp
              exact hK.out _ _ rfl (Below.refl _ _) (by simpa [upB, upd] using hI)
            refine EachF.cons 4 rfl (fun dn xv W F hF hd hN hX hI H K hK => ?_) ?_
            · have h2 : xv 2 = .pointer (some ⟨g2, 1, none⟩) := (H 2 (.edge (by kernel_rfl))).2
              have f68 : F.tmps.getD 68 undef = .pointer (some ⟨g2, 1, none⟩) := (hF 68).trans (Eq.trans (by kernel_rfl) h2)
              obtain ⟨_, _, _, q1⟩ := sep_rfCells (i := 1) hI rfl
              rw [HBD.out] at q1
              clear H hN hd hX hF
              refine on_plain rfl ?_
              go_simp
              exact hK.out _ _ rfl (Below.refl _ _) (by simpa [upB, upd] using hI)
            refine EachF.cons 5 rfl (fun dn xv W F hF hd hN hX hI H K hK => ?_) ?_
            · have h3 : xv 3 = .bool true := (H 3 (.edge (by kernel_rfl))).2
              have f69 : F.tmps.getD 69 undef = .bool true := (hF 69).trans (Eq.trans (by kernel_rfl) h3)
              clear H hN hd hX hF
              refine on_plain rfl ?_
              go_simp
              exact hK.out _ _ rfl (Below.refl _ _) (by simpa [upB, upd] using hI)
            refine EachF.cons 6 rfl (fun dn xv W F hF hd hN hX hI H K hK => ?_) ?_
            · have h4 : xv 4 = .bool true := (H 4 (.edge (by kernel_rfl))).2
              have f70 : F.tmps.getD 70 undef = .bool true := (hF 70).trans (Eq.trans (by kernel_rfl) h4)
              clear H hN hd hX hF
              refine off_guard rfl (by kernel_rfl) f70 (by decide) ?_
              exact hK.out _ _ rfl (Below.refl _ _) (by simpa [upB, upd] using hI)
            refine EachF.cons 7 rfl (fun dn xv W F hF hd hN hX hI H K hK => ?_) ?_
            · have h4 : xv 4 = .bool true := (H 4 (.edge (by kernel_rfl))).2
              have f70 : F.tmps.getD 70 undef = .bool true := (hF 70).trans (Eq.trans (by kernel_rfl) h4)
              clear H hN hd hX hF
              refine off_guard rfl (by kernel_rfl) f70 (by decide) ?_
              exact hK.out _ _ rfl (Below.refl _ _) (by simpa [upB, upd] using hI)
            refine EachF.cons 8 rfl (fun dn xv W F hF hd hN hX hI H K hK => ?_) ?_
            · have h4 : xv 4 = .bool true := (H 4 (.edge (by kernel_rfl))).2
              have f70 : F.tmps.getD 70 undef = .bool true := (hF 70).trans (Eq.trans (by kernel_rfl) h4)
              clear H hN hd hX hF
              refine off_guard rfl (by kernel_rfl) f70 (by decide) ?_
              exact hK.out _ _ rfl (Below.refl _ _) (by simpa [upB, upd] using hI)
            refine EachF.cons 9 rfl (fun dn xv W F hF hd hN hX hI H K hK => ?_) ?_
            · have h4 : xv 4 = .bool true := (H 4 (.edge (by kernel_rfl))).2
              have f70 : F.tmps.getD 70 undef = .bool true := (hF 70).trans (Eq.trans (by kernel_rfl) h4)
              have h7 : xv 7 = undef := (H 7 (.edge (by kernel_rfl))).2
              have f73 : F.tmps.getD 73 undef = undef := (hF 73).trans (Eq.trans (by kernel_rfl) h7)
              clear H hN hd hX hF
              refine on_plain rfl ?_
              go_simp
              exact hK.out _ _ rfl (Below.refl _ _) (by simpa [upB, upd] using hI)
            refine EachF.cons 10 rfl (fun dn xv W F hF hd hN hX hI H K hK => ?_) ?_
            · have h8 : xv 8 = .bool true := (H 8 (.edge (by kernel_rfl))).2
              have f74 : F.tmps.getD 74 undef = .bool true := (hF 74).trans (Eq.trans (by kernel_rfl) h8)
              clear H hN hd hX hF
              refine on_plain rfl ?_
              go_simp
              exact hK.out _ _ rfl (Below.refl _ _) (by simpa [upB, upd] using hI)
            refine EachF.cons 11 rfl (fun dn xv W F hF hd hN hX hI H K hK => ?_) ?_
            · have h9 : xv 9 = .bool true := (H 9 (.edge (by kernel_rfl))).2
              have f75 : F.tmps.getD 75 undef = .bool true := (hF 75).trans (Eq.trans (by kernel_rfl) h9)
              clear H hN hd hX hF
              refine off_guard rfl (by kernel_rfl) f75 (by decide) ?_
              exact hK.out _ _ rfl (Below.refl _ _) (by simpa [upB, upd] using hI)
            refine EachF.cons 12 rfl (fun dn xv W F hF hd hN hX hI H K hK => ?_) ?_
            · have h9 : xv 9 = .bool true := (H 9 (.edge (by kernel_rfl))).2
              have f75 : F.tmps.getD 75 undef = .bool true := (hF 75).trans (Eq.trans (by kernel_rfl) h9)
              clear H hN hd hX hF
              refine off_guard rfl (by kernel_rfl) f75 (by decide) ?_
              exact hK.out _ _ rfl (Below.refl _ _) (by simpa [upB, upd] using hI)
            refine EachF.cons 13 rfl (fun dn xv W F hF hd hN hX hI H K hK => ?_) ?_
            · have h9 : xv 9 = .bool true := (H 9 (.edge (by kernel_rfl))).2
              have f75 : F.tmps.getD 75 undef = .bool true := (hF 75).trans (Eq.trans (by kernel_rfl) h9)
              clear H hN hd hX hF
              refine off_guard rfl (by kernel_rfl) f75 (by decide) ?_
              exact hK.out _ _ rfl (Below.refl _ _) (by simpa [upB, upd] using hI)
            refine EachF.cons 14 rfl (fun dn xv W F hF hd hN hX hI H K hK => ?_) ?_
            · have h9 : xv 9 = .bool true := (H 9 (.edge (by kernel_rfl))).2
              have f75 : F.tmps.getD 75 undef = .bool true := (hF 75).trans (Eq.trans (by kernel_rfl) h9)
              clear H hN hd hX hF
              refine off_guard rfl (by kernel_rfl) f75 (by decide) ?_
              exact hK.out _ _ rfl (Below.refl _ _) (by simpa [upB, upd] using hI)
            refine EachF.cons 15 rfl (fun dn xv W F hF hd hN hX hI H K hK => ?_) ?_
            · have h9 : xv 9 = .bool true := (H 9 (.edge (by kernel_rfl))).2
              have f75 : F.tmps.getD 75 undef = .bool true := (hF 75).trans (Eq.trans (by kernel_rfl) h9)
              clear H hN hd hX hF
              refine off_guard rfl (by kernel_rfl) f75 (by decide) ?_
              exact hK.out _ _ rfl (Below.refl _ _) (by simpa [upB, upd] using hI)
            refine EachF.cons 16 rfl (fun dn xv W F hF hd hN hX hI H K hK => ?_) ?_
            · have h9 : xv 9 = .bool true := (H 9 (.edge (by kernel_rfl))).2
              have f75 : F.tmps.getD 75 undef = .bool true := (hF 75).trans (Eq.trans (by kernel_rfl) h9)
              clear H hN hd hX hF
              refine off_guard rfl (by kernel_rfl) f75 (by decide) ?_
              exact hK.out _ _ rfl (Below.refl _ _) (by simpa [upB, upd] using hI)
            refine EachF.cons 17 rfl (fun dn xv W F hF hd hN hX hI H K hK => ?_) ?_
            · have h9 : xv 9 = .bool true := (H 9 (.edge (by kernel_rfl))).2
              have f75 : F.tmps.getD 75 undef = .bool true := (hF 75).trans (Eq.trans (by kernel_rfl) h9)
              have h15 : xv 15 = undef := (H 15 (.edge (by kernel_rfl))).2
              have f81 : F.tmps.getD 81 undef = undef := (hF 81).trans (Eq.trans (by kernel_rfl) h15)
              clear H hN hd hX hF
              refine on_plain rfl ?_
              go_simp
              exact hK.out _ _ rfl (Below.refl _ _) (by simpa [upB, upd] using hI)
            exact EachF.nil
          · intro dn xv W hI H
            have q16 : xv 16 = .bool true := (H 16 (of_decide_eq_true (by kernel_rfl))).2
            have hS : Sep w W [Ce w.heap.size 25 #[.int .i64 0, .int .i64 0, .int .i64 0, .int .u64 0, .int .u64 0, .int .u64 0, .int .u64 0, .int .u64 0, .int .u64 0, .slice none 0 0], Rf g2 s7.1 s7.2, Ce (g2 + 1) 25 #[.int .i64 (x0 : Int), .int .i64 (x1 : Int), .int .i64 (x2 : Int), .int .u64 (u0 : Int), .int .u64 (u1 : Int), .int .u64 (u2 : Int), .int .u64 (u3 : Int), .int .u64 (u4 : Int), .int .u64 (u5 : Int), .slice none 0 0]] := hI
            clear H hI
            simp only [putAll, Act.put, List.setIfInBounds_toArray, List.set_cons_zero, List.set_cons_succ, Nat.reduceAdd, q16]
            clear q16
            have HS9 := Lib.hid hS
            clear hS
            have k0 := sep_ceAt (i := 0) HS9.out rfl 0 rfl
            have k1 := sep_ceAt (i := 0) HS9.out rfl 1 rfl
            have k2 := sep_ceAt (i := 0) HS9.out rfl 2 rfl
            have k3 := sep_ceAt (i := 0) HS9.out rfl 3 rfl
            have k4 := sep_ceAt (i := 0) HS9.out rfl 4 rfl
            have k5 := sep_ceAt (i := 0) HS9.out rfl 5 rfl
            have k6 := sep_ceAt (i := 0) HS9.out rfl 6 rfl
            have k7 := sep_ceAt (i := 0) HS9.out rfl 7 rfl
            have k8 := sep_ceAt (i := 0) HS9.out rfl 8 rfl
            have k9 := sep_ceAt (i := 0) HS9.out rfl 9 rfl
            have y0 := sep_ceFrozen (i := 0) HS9.out rfl 0
            have y1 := sep_ceFrozen (i := 0) HS9.out rfl 1
            have y2 := sep_ceFrozen (i := 0) HS9.out rfl 2
            have y3 := sep_ceFrozen (i := 0) HS9.out rfl 3
            have y4 := sep_ceFrozen (i := 0) HS9.out rfl 4
            have y5 := sep_ceFrozen (i := 0) HS9.out rfl 5
            have y6 := sep_ceFrozen (i := 0) HS9.out rfl 6
            have y7 := sep_ceFrozen (i := 0) HS9.out rfl 7
            have y8 := sep_ceFrozen (i := 0) HS9.out rfl 8
            have y9 := sep_ceFrozen (i := 0) HS9.out rfl 9
            go_wp2_with fail
            obtain ⟨_, hs2⟩ := sep_put10 (i := 0) HS9.out rfl (.int .i64 0) (.int .i64 0) (.int .i64 0) (.int .u64 0) (.int .u64 0) (.int .u64 0) (.int .u64 0) (.int .u64 0) (.int .u64 0) (.slice none 0 0)
            refine bodyPost_ret (v := .tuple #[.agg #[.int .i64 0, .int .i64 0, .int .i64 0, .int .u64 0, .int .u64 0, .int .u64 0, .int .u64 0, .int .u64 0, .int .u64 0, .slice none 0 0], .bool false]) (by simp [results, Tryd.results18, go_sem, k0, k1, k2, k3, k4, k5, k6, k7, k8, k9]) rfl ?_
            exact .inr ⟨fun f hf => (by have h := ((isFr_rf HOP.out f).1 hf).2.1; rw [HB.out, HBD.out] at h; cases h), rfl, hs2.bel⟩
        · have HBD : Hid (s7.2 = false) := Lib.hid (by simpa using hbd)
          clear hbd
          have hF0 : rfFr m = (Fr.mk x0 x1 x2 u0 u1 u2 u3 u4 u5 []) := by
            unfold rfFr
            rw [HB.out, show rf6 m = ⟨(gU (sr m 0)).1, (gU (sr m 1)).1, (gU (sr m 2)).1, (gU (sr m 3)).1, (gU (sr m 4)).1, (gU (sr m 5)).1, sr m 6⟩ from rfl, HMR.out]
            rw [HMR.out] at Hu0 Hu1 Hu2 Hu3 Hu4 Hu5
            simp only [Hu0.out, Hu1.out, Hu2.out, Hu3.out, Hu4.out, Hu5.out, Hx0.out, Hx1.out, Hx2.out, List.getD_cons_zero, List.getD_cons_succ]
          have HF := Lib.hid hF0
          clear hF0
          by_cases hmy : (Fr.mk x0 x1 x2 u0 u1 u2 u3 u4 u5 []).may = true
          · have HMY := Lib.hid hmy
            clear hmy
            obtain ⟨Lp, HLp⟩ : ∃ L, Hid (Crc.sealed (Fr.mk x0 x1 x2 u0 u1 u2 u3 u4 u5 []).plain = L) := ⟨_, Lib.hid rfl⟩
            by_cases heq : Lp = b
            · subst heq
              refine wp_region_f (fun dn xv W => Sep w W [Ce w.heap.size 25 #[.int .i64 0, .int .i64 0, .int .i64 0, .int .u64 0, .int .u64 0, .int .u64 0, .int .u64 0, .int .u64 0, .int .u64 0, .slice none 0 0], Rf g2 s7.1 s7.2, Ce (g2 + 1) 25 #[.int .i64 (x0 : Int), .int .i64 (x1 : Int), .int .i64 (x2 : Int), .int .u64 (u0 : Int), .int .u64 (u1 : Int), .int .u64 (u2 : Int), .int .u64 (u3 : Int), .int .u64 (u4 : Int), .int .u64 (u5 : Int), .slice none 0 0]]) (fun W W' => Below W.heap.size W W') [fun v _ => v = .pointer (some ⟨g2, 0, none⟩), fun v _ => v = .pointer (some ⟨g2, 0, none⟩), fun v _ => v = .pointer (some ⟨g2, 1, none⟩), fun v _ => v = .bool false, fun v _ => v = .bool false, fun v _ => v = .agg #[.int .i64 (x0 : Int), .int .i64 (x1 : Int), .int .i64 (x2 : Int), .int .u64 (u0 : Int), .int .u64 (u1 : Int), .int .u64 (u2 : Int), .int .u64 (u3 : Int), .int .u64 (u4 : Int), .int .u64 (u5 : Int), .slice none 0 0], fun v _ => v = .bool true, fun v _ => v = .bool false, fun v _ => v = .bool false, fun v _ => v = .bool false, fun v _ => v = .agg #[.int .i64 (x0 : Int), .int .i64 (x1 : Int), .int .i64 (x2 : Int), .int .u64 (u0 : Int), .int .u64 (u1 : Int), .int .u64 (u2 : Int), .int .u64 (u3 : Int), .int .u64 (u4 : Int), .int .u64 (u5 : Int), .slice none 0 0], IsB Lp, fun v _ => v = .string ⟨Lp.toArray⟩, fun v _ => v = .slice A Lp.length c, fun v _ => v = .string ⟨Lp.toArray⟩, fun v _ => v = .bool false, fun v _ => v = .bool false] (by kernel_rfl) (by kernel_rfl) (by kernel_rfl) (by kernel_rfl) (fun xv => by simpa using HSb5.out.drew)
                (by exact ⟨fun _ _ _ _ h => h, fun _ _ _ _ h => h, fun _ _ _ _ h => h, fun _ _ _ _ h => h, fun _ _ _ _ h => h, fun _ _ _ _ h => h, fun _ _ _ _ h => h, fun _ _ _ _ h => h, fun _ _ _ _ h => h, fun _ _ _ _ h => h, fun _ _ _ _ h => h, fun _ _ _ hR h => h.keep hR, fun _ _ _ _ h => h, fun _ _ _ _ h => h, fun _ _ _ _ h => h, fun _ _ _ _ h => h, fun _ _ _ _ h => h, trivial⟩) ?_ ?_
              · refine EachF.cons 1 rfl (fun dn xv W F hF hd hN hX hI H K hK => ?_) ?_
                · have f6 : F.tmps.getD 6 undef = .pointer (some ⟨g2, 0, none⟩) := (hF 6).trans (by kernel_rfl)
                  clear H hN hd hX hF
                  refine on_plain rfl ?_
                  go_simp
                  exact hK.out _ _ rfl (Below.refl _ _) (by simpa [upB, upd] using hI)
                refine EachF.cons 2 rfl (fun dn xv W F hF hd hN hX hI H K hK => ?_) ?_
                · have h0 : xv 0 = .pointer (some ⟨g2, 0, none⟩) := (H 0 (.edge (by kernel_rfl))).2
                  have f66 : F.tmps.getD 66 undef = .pointer (some ⟨g2, 0, none⟩) := (hF 66).trans (Eq.trans (by kernel_rfl) h0)
                  clear H hN hd hX hF
                  refine on_plain rfl ?_
                  go_simp
                  exact hK.out _ _ rfl (Below.refl _ _) (by simpa [upB, upd] using hI)
                refine EachF.cons 3 rfl (fun dn xv W F hF hd hN hX hI H K hK => ?_) ?_
                · have h1 : xv 1 = .pointer (some ⟨g2, 0, none⟩) := (H 1 (.edge (by kernel_rfl))).2
                  have f67 : F.tmps.getD 67 undef = .pointer (some ⟨g2, 0, none⟩) := (hF 67).trans (Eq.trans (by kernel_rfl) h1)
                  clear H hN hd hX hF
                  refine on_plain rfl ?_
                  go_simp
                  exact hK.out _ _ rfl (Below.refl _ _) (by simpa [upB, upd] using hI)
                refine EachF.cons 4 rfl (fun dn xv W F hF hd hN hX hI H K hK => ?_) ?_
                · have h2 : xv 2 = .pointer (some ⟨g2, 1, none⟩) := (H 2 (.edge (by kernel_rfl))).2
                  have f68 : F.tmps.getD 68 undef = .pointer (some ⟨g2, 1, none⟩) := (hF 68).trans (Eq.trans (by kernel_rfl) h2)
                  obtain ⟨_, _, _, q1⟩ := sep_rfCells (i := 1) hI rfl
                  rw [HBD.out] at q1
                  clear H hN hd hX hF
                  refine on_plain rfl ?_
                  go_simp
                  exact hK.out _ _ rfl (Below.refl _ _) (by simpa [upB, upd] using hI)
                refine EachF.cons 5 rfl (fun dn xv W F hF hd hN hX hI H K hK => ?_) ?_
                · have h3 : xv 3 = .bool false := (H 3 (.edge (by kernel_rfl))).2
                  have f69 : F.tmps.getD 69 undef = .bool false := (hF 69).trans (Eq.trans (by kernel_rfl) h3)
                  clear H hN hd hX hF
                  refine on_plain rfl ?_
                  go_simp
                  exact hK.out _ _ rfl (Below.refl _ _) (by simpa [upB, upd] using hI)
                refine EachF.cons 6 rfl (fun dn xv W F hF hd hN hX hI H K hK => ?_) ?_
                · have f7 : F.tmps.getD 7 undef = .pointer (some ⟨g2 + 1, 0, none⟩) := (hF 7).trans (by kernel_rfl)
                  have h4 : xv 4 = .bool false := (H 4 (.edge (by kernel_rfl))).2
                  have f70 : F.tmps.getD 70 undef = .bool false := (hF 70).trans (Eq.trans (by kernel_rfl) h4)
                  have k0 := sep_ceAt (i := 2) hI rfl 0 rfl
                  have k1 := sep_ceAt (i := 2) hI rfl 1 rfl
                  have k2 := sep_ceAt (i := 2) hI rfl 2 rfl
                  have k3 := sep_ceAt (i := 2) hI rfl 3 rfl
                  have k4 := sep_ceAt (i := 2) hI rfl 4 rfl
                  have k5 := sep_ceAt (i := 2) hI rfl 5 rfl
                  have k6 := sep_ceAt (i := 2) hI rfl 6 rfl
                  have k7 := sep_ceAt (i := 2) hI rfl 7 rfl
                  have k8 := sep_ceAt (i := 2) hI rfl 8 rfl
                  have k9 := sep_ceAt (i := 2) hI rfl 9 rfl
                  clear H hN hd hX hF
                  refine on_guard rfl (by kernel_rfl) f70 ?_
                  go_simp
                  exact hK.out _ _ rfl (Below.refl _ _) (by simpa [upB, upd] using hI)
                refine EachF.cons 7 rfl (fun dn xv W F hF hd hN hX hI H K hK => ?_) ?_
                · have h5 : xv 5 = .agg #[.int .i64 (x0 : Int), .int .i64 (x1 : Int), .int .i64 (x2 : Int), .int .u64 (u0 : Int), .int .u64 (u1 : Int), .int .u64 (u2 : Int), .int .u64 (u3 : Int), .int .u64 (u4 : Int), .int .u64 (u5 : Int), .slice none 0 0] := (H 5 (.edge (by kernel_rfl))).2
                  have f71 : F.tmps.getD 71 undef = .agg #[.int .i64 (x0 : Int), .int .i64 (x1 : Int), .int .i64 (x2 : Int), .int .u64 (u0 : Int), .int .u64 (u1 : Int), .int .u64 (u2 : Int), .int .u64 (u3 : Int), .int .u64 (u4 : Int), .int .u64 (u5 : Int), .slice none 0 0] := (hF 71).trans (Eq.trans (by kernel_rfl) h5)
                  have h4 : xv 4 = .bool false := (H 4 (.edge (by kernel_rfl))).2
                  have f70 : F.tmps.getD 70 undef = .bool false := (hF 70).trans (Eq.trans (by kernel_rfl) h4)
                  clear H hN hd hX hF
                  refine on_guard rfl (by kernel_rfl) f70 ?_
                  go_simp
                  refine (mayRb5 (w := W) (f := (Fr.mk x0 x1 x2 u0 u1 u2 u3 u4 u5 [])) (A := none) (c := 0) HMY.out (by unfold maxLen; simp <;> omega)).mono ?_
                  rintro e W' ⟨rfl, hb⟩
                  exact hK.out _ W' rfl hb (by simpa [upB, upd] using hI.grow hb)
                refine EachF.cons 8 rfl (fun dn xv W F hF hd hN hX hI H K hK => ?_) ?_
                · have h6 : xv 6 = .bool true := (H 6 (.edge (by kernel_rfl))).2
                  have f72 : F.tmps.getD 72 undef = .bool true := (hF 72).trans (Eq.trans (by kernel_rfl) h6)
                  have h4 : xv 4 = .bool false := (H 4 (.edge (by kernel_rfl))).2
                  have f70 : F.tmps.getD 70 undef = .bool false := (hF 70).trans (Eq.trans (by kernel_rfl) h4)
                  clear H hN hd hX hF
                  refine on_guard rfl (by kernel_rfl) f70 ?_
                  go_simp
                  exact hK.out _ _ rfl (Below.refl _ _) (by simpa [upB, upd] using hI)
                refine EachF.cons 9 rfl (fun dn xv W F hF hd hN hX hI H K hK => ?_) ?_
                · have h4 : xv 4 = .bool false := (H 4 (.edge (by kernel_rfl))).2
                  have f70 : F.tmps.getD 70 undef = .bool false := (hF 70).trans (Eq.trans (by kernel_rfl) h4)
                  have h7 : xv 7 = .bool false := (H 7 (.edge (by kernel_rfl))).2
                  have f73 : F.tmps.getD 73 undef = .bool false := (hF 73).trans (Eq.trans (by kernel_rfl) h7)
                  clear H hN hd hX hF
                  refine on_plain rfl ?_
                  go_simp
                  exact hK.out _ _ rfl (Below.refl _ _) (by simpa [upB, upd] using hI)
                refine EachF.cons 10 rfl (fun dn xv W F hF hd hN hX hI H K hK => ?_) ?_
                · have h8 : xv 8 = .bool false := (H 8 (.edge (by kernel_rfl))).2
                  have f74 : F.tmps.getD 74 undef = .bool false := (hF 74).trans (Eq.trans (by kernel_rfl) h8)
                  clear H hN hd hX hF
                  refine on_plain rfl ?_
                  go_simp
                  exact hK.out _ _ rfl (Below.refl _ _) (by simpa [upB, upd] using hI)
                refine EachF.cons 11 rfl (fun dn xv W F hF hd hN hX hI H K hK => ?_) ?_
                · have f7 : F.tmps.getD 7 undef = .pointer (some ⟨g2 + 1, 0, none⟩) := (hF 7).trans (by kernel_rfl)
                  have h9 : xv 9 = .bool false := (H 9 (.edge (by kernel_rfl))).2
                  have f75 : F.tmps.getD 75 undef = .bool false := (hF 75).trans (Eq.trans (by kernel_rfl) h9)
                  have k0 := sep_ceAt (i := 2) hI rfl 0 rfl
                  have k1 := sep_ceAt (i := 2) hI rfl 1 rfl
                  have k2 := sep_ceAt (i := 2) hI rfl 2 rfl
                  have k3 := sep_ceAt (i := 2) hI rfl 3 rfl
                  have k4 := sep_ceAt (i := 2) hI rfl 4 rfl
                  have k5 := sep_ceAt (i := 2) hI rfl 5 rfl
                  have k6 := sep_ceAt (i := 2) hI rfl 6 rfl
                  have k7 := sep_ceAt (i := 2) hI rfl 7 rfl
                  have k8 := sep_ceAt (i := 2) hI rfl 8 rfl
                  have k9 := sep_ceAt (i := 2) hI rfl 9 rfl
                  clear H hN hd hX hF
                  refine on_guard rfl (by kernel_rfl) f75 ?_
                  go_simp
                  exact hK.out _ _ rfl (Below.refl _ _) (by simpa [upB, upd] using hI)
                refine EachF.cons 12 rfl (fun dn xv W F hF hd hN hX hI H K hK => ?_) ?_
                · have h10 : xv 10 = .agg #[.int .i64 (x0 : Int), .int .i64 (x1 : Int), .int .i64 (x2 : Int), .int .u64 (u0 : Int), .int .u64 (u1 : Int), .int .u64 (u2 : Int), .int .u64 (u3 : Int), .int .u64 (u4 : Int), .int .u64 (u5 : Int), .slice none 0 0] := (H 10 (.edge (by kernel_rfl))).2
                  have f76 : F.tmps.getD 76 undef = .agg #[.int .i64 (x0 : Int), .int .i64 (x1 : Int), .int .i64 (x2 : Int), .int .u64 (u0 : Int), .int .u64 (u1 : Int), .int .u64 (u2 : Int), .int .u64 (u3 : Int), .int .u64 (u4 : Int), .int .u64 (u5 : Int), .slice none 0 0] := (hF 76).trans (Eq.trans (by kernel_rfl) h10)
                  have h9 : xv 9 = .bool false := (H 9 (.edge (by kernel_rfl))).2
                  have f75 : F.tmps.getD 75 undef = .bool false := (hF 75).trans (Eq.trans (by kernel_rfl) h9)
                  clear H hN hd hX hF
                  refine on_guard rfl (by kernel_rfl) f75 ?_
                  go_simp
                  refine (refBytes_yes W W.heap.size (Fr.mk x0 x1 x2 u0 u1 u2 u3 u4 u5 []) none 0 Has.nil (Nat.le_refl _) HMY.out).mono ?_
                  rintro e W' ⟨v, rfl, ho, hb⟩
                  rw [HLp.out] at ho
                  exact hK.out v W' (IsB.of_own ho) hb (by simpa [upB, upd] using hI.grow hb)
                refine EachF.cons 13 rfl (fun dn xv W F hF hd hN hX hI H K hK => ?_) ?_
                · have h11 := (H 11 (.edge (by kernel_rfl))).2
                  simp only [Dl] at h11
                  have f77 : F.tmps.getD 77 undef = xv 11 := (hF 77).trans (by kernel_rfl)
                  have h9 : xv 9 = .bool false := (H 9 (.edge (by kernel_rfl))).2
                  have f75 : F.tmps.getD 75 undef = .bool false := (hF 75).trans (Eq.trans (by kernel_rfl) h9)
                  clear H hN hd hX hF
                  refine on_guard rfl (by kernel_rfl) f75 ?_
                  obtain ⟨A9, c9, e9, h9⟩ := h11
                  rw [e9] at f77
                  have g77 := f77
                  rw [Array.getD_eq_getD_getElem?] at g77
                  have t9 := run_str (c := c9) h9
                  clear h9
                  go_simp
                  exact hK.out _ W rfl (Below.refl _ _) (by simpa [upB, upd] using hI)
                refine EachF.cons 14 rfl (fun dn xv W F hF hd hN hX hI H K hK => ?_) ?_
                · have f0 : F.tmps.getD 0 undef = .slice A Lp.length c := (hF 0).trans (by kernel_rfl)
                  have h9 : xv 9 = .bool false := (H 9 (.edge (by kernel_rfl))).2
                  have f75 : F.tmps.getD 75 undef = .bool false := (hF 75).trans (Eq.trans (by kernel_rfl) h9)
                  clear H hN hd hX hF
                  refine on_guard rfl (by kernel_rfl) f75 ?_
                  go_simp
                  exact hK.out _ _ rfl (Below.refl _ _) (by simpa [upB, upd] using hI)
                refine EachF.cons 15 rfl (fun dn xv W F hF hd hN hX hI H K hK => ?_) ?_
                · have h13 : xv 13 = .slice A Lp.length c := (H 13 (.edge (by kernel_rfl))).2
                  have f79 : F.tmps.getD 79 undef = .slice A Lp.length c := (hF 79).trans (Eq.trans (by kernel_rfl) h13)
                  have h9 : xv 9 = .bool false := (H 9 (.edge (by kernel_rfl))).2
                  have f75 : F.tmps.getD 75 undef = .bool false := (hF 75).trans (Eq.trans (by kernel_rfl) h9)
                  have t9 := run_str (c := c) (hI.has HA.out)
                  clear H hN hd hX hF
                  refine on_guard rfl (by kernel_rfl) f75 ?_
                  go_simp
                  exact hK.out _ _ rfl (Below.refl _ _) (by simpa [upB, upd] using hI)
                refine EachF.cons 16 rfl (fun dn xv W F hF hd hN hX hI H K hK => ?_) ?_
                · have h12 : xv 12 = .string ⟨Lp.toArray⟩ := (H 12 (.edge (by kernel_rfl))).2
                  have f78 : F.tmps.getD 78 undef = .string ⟨Lp.toArray⟩ := (hF 78).trans (Eq.trans (by kernel_rfl) h12)
                  have h14 : xv 14 = .string ⟨Lp.toArray⟩ := (H 14 (.edge (by kernel_rfl))).2
                  have f80 : F.tmps.getD 80 undef = .string ⟨Lp.toArray⟩ := (hF 80).trans (Eq.trans (by kernel_rfl) h14)
                  have h9 : xv 9 = .bool false := (H 9 (.edge (by kernel_rfl))).2
                  have f75 : F.tmps.getD 75 undef = .bool false := (hF 75).trans (Eq.trans (by kernel_rfl) h9)
                  clear H hN hd hX hF
                  refine on_guard rfl (by kernel_rfl) f75 ?_
                  go_simp
                  exact hK.out _ _ rfl (Below.refl _ _) (by simpa [upB, upd] using hI)
                refine EachF.cons 17 rfl (fun dn xv W F hF hd hN hX hI H K hK => ?_) ?_
                · have h9 : xv 9 = .bool false := (H 9 (.edge (by kernel_rfl))).2
                  have f75 : F.tmps.getD 75 undef = .bool false := (hF 75).trans (Eq.trans (by kernel_rfl) h9)
                  have h15 : xv 15 = .bool false := (H 15 (.edge (by kernel_rfl))).2
                  have f81 : F.tmps.getD 81 undef = .bool false := (hF 81).trans (Eq.trans (by kernel_rfl) h15)
                  clear H hN hd hX hF
                  refine on_plain rfl ?_
                  go_simp
                  exact hK.out _ _ rfl (Below.refl _ _) (by simpa [upB, upd] using hI)
                exact EachF.nil
              · intro dn xv W hI H
                have q16 : xv 16 = .bool false := (H 16 (of_decide_eq_true (by kernel_rfl))).2
                have hS : Sep w W [Ce w.heap.size 25 #[.int .i64 0, .int .i64 0, .int .i64 0, .int .u64 0, .int .u64 0, .int .u64 0, .int .u64 0, .int .u64 0, .int .u64 0, .slice none 0 0], Rf g2 s7.1 s7.2, Ce (g2 + 1) 25 #[.int .i64 (x0 : Int), .int .i64 (x1 : Int), .int .i64 (x2 : Int), .int .u64 (u0 : Int), .int .u64 (u1 : Int), .int .u64 (u2 : Int), .int .u64 (u3 : Int), .int .u64 (u4 : Int), .int .u64 (u5 : Int), .slice none 0 0]] := hI
                clear H hI
                simp only [putAll, Act.put, List.setIfInBounds_toArray, List.set_cons_zero, List.set_cons_succ, Nat.reduceAdd, q16]
                clear q16
                have HS9 := Lib.hid hS
                clear hS
                have z0 := sep_ceAt (i := 2) HS9.out rfl 0 rfl
                have z1 := sep_ceAt (i := 2) HS9.out rfl 1 rfl
                have z2 := sep_ceAt (i := 2) HS9.out rfl 2 rfl
                have z3 := sep_ceAt (i := 2) HS9.out rfl 3 rfl
                have z4 := sep_ceAt (i := 2) HS9.out rfl 4 rfl
                have z5 := sep_ceAt (i := 2) HS9.out rfl 5 rfl
                have z6 := sep_ceAt (i := 2) HS9.out rfl 6 rfl
                have z7 := sep_ceAt (i := 2) HS9.out rfl 7 rfl
                have z8 := sep_ceAt (i := 2) HS9.out rfl 8 rfl
                have z9 := sep_ceAt (i := 2) HS9.out rfl 9 rfl
                have k0 := sep_ceAt (i := 0) HS9.out rfl 0 rfl
                have k1 := sep_ceAt (i := 0) HS9.out rfl 1 rfl
                have k2 := sep_ceAt (i := 0) HS9.out rfl 2 rfl
                have k3 := sep_ceAt (i := 0) HS9.out rfl 3 rfl
                have k4 := sep_ceAt (i := 0) HS9.out rfl 4 rfl
                have k5 := sep_ceAt (i := 0) HS9.out rfl 5 rfl
                have k6 := sep_ceAt (i := 0) HS9.out rfl 6 rfl
                have k7 := sep_ceAt (i := 0) HS9.out rfl 7 rfl
                have k8 := sep_ceAt (i := 0) HS9.out rfl 8 rfl
                have k9 := sep_ceAt (i := 0) HS9.out rfl 9 rfl
                have y0 := sep_ceFrozen (i := 0) HS9.out rfl 0
                have y1 := sep_ceFrozen (i := 0) HS9.out rfl 1
                have y2 := sep_ceFrozen (i := 0) HS9.out rfl 2
                have y3 := sep_ceFrozen (i := 0) HS9.out rfl 3
                have y4 := sep_ceFrozen (i := 0) HS9.out rfl 4
                have y5 := sep_ceFrozen (i := 0) HS9.out rfl 5
                have y6 := sep_ceFrozen (i := 0) HS9.out rfl 6
                have y7 := sep_ceFrozen (i := 0) HS9.out rfl 7
                have y8 := sep_ceFrozen (i := 0) HS9.out rfl 8
                have y9 := sep_ceFrozen (i := 0) HS9.out rfl 9
                go_wp2_with fail
                obtain ⟨_, hs2⟩ := sep_put10 (i := 0) HS9.out rfl (.int .i64 (x0 : Int)) (.int .i64 (x1 : Int)) (.int .i64 (x2 : Int)) (.int .u64 (u0 : Int)) (.int .u64 (u1 : Int)) (.int .u64 (u2 : Int)) (.int .u64 (u3 : Int)) (.int .u64 (u4 : Int)) (.int .u64 (u5 : Int)) (.slice none 0 0)
                refine bodyPost_ret (v := .tuple #[.agg #[.int .i64 (x0 : Int), .int .i64 (x1 : Int), .int .i64 (x2 : Int), .int .u64 (u0 : Int), .int .u64 (u1 : Int), .int .u64 (u2 : Int), .int .u64 (u3 : Int), .int .u64 (u4 : Int), .int .u64 (u5 : Int), .slice none 0 0], .bool true]) (by simp [results, Tryd.results18, go_sem, k0, k1, k2, k3, k4, k5, k6, k7, k8, k9]) rfl ?_
                exact .inl ⟨(Fr.mk x0 x1 x2 u0 u1 u2 u3 u4 u5 []), none, 0, ⟨HMY.out, HLp.out.symm⟩, rfl, .inl ⟨rfl, rfl, rfl⟩, hs2.bel⟩
            · have e9 : (!Lp == b) = true := by simpa using heq
              have HEQ := Lib.hid heq
              clear heq
              refine wp_region_f (fun dn xv W => Sep w W [Ce w.heap.size 25 #[.int .i64 0, .int .i64 0, .int .i64 0, .int .u64 0, .int .u64 0, .int .u64 0, .int .u64 0, .int .u64 0, .int .u64 0, .slice none 0 0], Rf g2 s7.1 s7.2, Ce (g2 + 1) 25 #[.int .i64 (x0 : Int), .int .i64 (x1 : Int), .int .i64 (x2 : Int), .int .u64 (u0 : Int), .int .u64 (u1 : Int), .int .u64 (u2 : Int), .int .u64 (u3 : Int), .int .u64 (u4 : Int), .int .u64 (u5 : Int), .slice none 0 0]]) (fun W W' => Below W.heap.size W W') [fun v _ => v = .pointer (some ⟨g2, 0, none⟩), fun v _ => v = .pointer (some ⟨g2, 0, none⟩), fun v _ => v = .pointer (some ⟨g2, 1, none⟩), fun v _ => v = .bool false, fun v _ => v = .bool false, fun v _ => v = .agg #[.int .i64 (x0 : Int), .int .i64 (x1 : Int), .int .i64 (x2 : Int), .int .u64 (u0 : Int), .int .u64 (u1 : Int), .int .u64 (u2 : Int), .int .u64 (u3 : Int), .int .u64 (u4 : Int), .int .u64 (u5 : Int), .slice none 0 0], fun v _ => v = .bool true, fun v _ => v = .bool false, fun v _ => v = .bool false, fun v _ => v = .bool false, fun v _ => v = .agg #[.int .i64 (x0 : Int), .int .i64 (x1 : Int), .int .i64 (x2 : Int), .int .u64 (u0 : Int), .int .u64 (u1 : Int), .int .u64 (u2 : Int), .int .u64 (u3 : Int), .int .u64 (u4 : Int), .int .u64 (u5 : Int), .slice none 0 0], IsB Lp, fun v _ => v = .string ⟨Lp.toArray⟩, fun v _ => v = .slice A b.length c, fun v _ => v = .string ⟨b.toArray⟩, fun v _ => v = .bool true, fun v _ => v = .bool true] (by kernel_rfl) (by kernel_rfl) (by kernel_rfl) (by kernel_rfl) (fun xv => by simpa using HSb5.out.drew)
                (by exact ⟨fun _ _ _ _ h => h, fun _ _ _ _ h => h, fun _ _ _ _ h => h, fun _ _ _ _ h => h, fun _ _ _ _ h => h, fun _ _ _ _ h => h, fun _ _ _ _ h => h, fun _ _ _ _ h => h, fun _ _ _ _ h => h, fun _ _ _ _ h => h, fun _ _ _ _ h => h, fun _ _ _ hR h => h.keep hR, fun _ _ _ _ h => h, fun _ _ _ _ h => h, fun _ _ _ _ h => h, fun _ _ _ _ h => h, fun _ _ _ _ h => h, trivial⟩) ?_ ?_
              · refine EachF.cons 1 rfl (fun dn xv W F hF hd hN hX hI H K hK => ?_) ?_
                · have f6 : F.tmps.getD 6 undef = .pointer (some ⟨g2, 0, none⟩) := (hF 6).trans (by kernel_rfl)
                  clear H hN hd hX hF
                  refine on_plain rfl ?_
                  go_simp
                  exact hK.out _ _ rfl (Below.refl _ _) (by simpa [upB, upd] using hI)
                refine EachF.cons 2 rfl (fun dn xv W F hF hd hN hX hI H K hK => ?_) ?_
                · have h0 : xv 0 = .pointer (some ⟨g2, 0, none⟩) := (H 0 (.edge (by kernel_rfl))).2
                  have f66 : F.tmps.getD 66 undef = .pointer (some ⟨g2, 0, none⟩) := (hF 66).trans (Eq.trans (by kernel_rfl) h0)
                  clear H hN hd hX hF
                  refine on_plain rfl ?_
                  go_simp
                  exact hK.out _ _ rfl (Below.refl _ _) (by simpa [upB, upd] using hI)
                refine EachF.cons 3 rfl (fun dn xv W F hF hd hN hX hI H K hK => ?_) ?_
                · have h1 : xv 1 = .pointer (some ⟨g2, 0, none⟩) := (H 1 (.edge (by kernel_rfl))).2
                  have f67 : F.tmps.getD 67 undef = .pointer (some ⟨g2, 0, none⟩) := (hF 67).trans (Eq.trans (by kernel_rfl) h1)
                  clear H hN hd hX hF
                  refine on_plain rfl ?_
                  go_simp
                  exact hK.out _ _ rfl (Below.refl _ _) (by simpa [upB, upd] using hI)
                refine EachF.cons 4 rfl (fun dn xv W F hF hd hN hX hI H K hK => ?_) ?_
                · have h2 : xv 2 = .pointer (some ⟨g2, 1, none⟩) := (H 2 (.edge (by kernel_rfl))).2
                  have f68 : F.tmps.getD 68 undef = .pointer (some ⟨g2, 1, none⟩) := (hF 68).trans (Eq.trans (by kernel_rfl) h2)
                  obtain ⟨_, _, _, q1⟩ := sep_rfCells (i := 1) hI rfl
                  rw [HBD.out] at q1
                  clear H hN hd hX hF
                  refine on_plain rfl ?_
                  go_simp
                  exact hK.out _ _ rfl (Below.refl _ _) (by simpa [upB, upd] using hI)
                refine EachF.cons 5 rfl (fun dn xv W F hF hd hN hX hI H K hK => ?_) ?_
                · have h3 : xv 3 = .bool false := (H 3 (.edge (by kernel_rfl))).2
                  have f69 : F.tmps.getD 69 undef = .bool false := (hF 69).trans (Eq.trans (by kernel_rfl) h3)
                  clear H hN hd hX hF
                  refine on_plain rfl ?_
                  go_simp
                  exact hK.out _ _ rfl (Below.refl _ _) (by simpa [upB, upd] using hI)
                refine EachF.cons 6 rfl (fun dn xv W F hF hd hN hX hI H K hK => ?_) ?_
                · have f7 : F.tmps.getD 7 undef = .pointer (some ⟨g2 + 1, 0, none⟩) := (hF 7).trans (by kernel_rfl)
                  have h4 : xv 4 = .bool false := (H 4 (.edge (by kernel_rfl))).2
                  have f70 : F.tmps.getD 70 undef = .bool false := (hF 70).trans (Eq.trans (by kernel_rfl) h4)
                  have k0 := sep_ceAt (i := 2) hI rfl 0 rfl
                  have k1 := sep_ceAt (i := 2) hI rfl 1 rfl
                  have k2 := sep_ceAt (i := 2) hI rfl 2 rfl
                  have k3 := sep_ceAt (i := 2) hI rfl 3 rfl
                  have k4 := sep_ceAt (i := 2) hI rfl 4 rfl
                  have k5 := sep_ceAt (i := 2) hI rfl 5 rfl
                  have k6 := sep_ceAt (i := 2) hI rfl 6 rfl
                  have k7 := sep_ceAt (i := 2) hI rfl 7 rfl
                  have k8 := sep_ceAt (i := 2) hI rfl 8 rfl
                  have k9 := sep_ceAt (i := 2) hI rfl 9 rfl
                  clear H hN hd hX hF
                  refine on_guard rfl (by kernel_rfl) f70 ?_
                  go_simp
                  exact hK.out _ _ rfl (Below.refl _ _) (by simpa [upB, upd] using hI)
                refine EachF.cons 7 rfl (fun dn xv W F hF hd hN hX hI H K hK => ?_) ?_
                · have h5 : xv 5 = .agg #[.int .i64 (x0 : Int), .int .i64 (x1 : Int), .int .i64 (x2 : Int), .int .u64 (u0 : Int), .int .u64 (u1 : Int), .int .u64 (u2 : Int), .int .u64 (u3 : Int), .int .u64 (u4 : Int), .int .u64 (u5 : Int), .slice none 0 0] := (H 5 (.edge (by kernel_rfl))).2
                  have f71 : F.tmps.getD 71 undef = .agg #[.int .i64 (x0 : Int), .int .i64 (x1 : Int), .int .i64 (x2 : Int), .int .u64 (u0 : Int), .int .u64 (u1 : Int), .int .u64 (u2 : Int), .int .u64 (u3 : Int), .int .u64 (u4 : Int), .int .u64 (u5 : Int), .slice none 0 0] := (hF 71).trans (Eq.trans (by kernel_rfl) h5)
                  have h4 : xv 4 = .bool false := (H 4 (.edge (by kernel_rfl))).2
                  have f70 : F.tmps.getD 70 undef = .bool false := (hF 70).trans (Eq.trans (by kernel_rfl) h4)
                  clear H hN hd hX hF
                  refine on_guard rfl (by kernel_rfl) f70 ?_
                  go_simp
                  refine (mayRb5 (w := W) (f := (Fr.mk x0 x1 x2 u0 u1 u2 u3 u4 u5 [])) (A := none) (c := 0) HMY.out (by unfold maxLen; simp <;> omega)).mono ?_
                  rintro e W' ⟨rfl, hb⟩
                  exact hK.out _ W' rfl hb (by simpa [upB, upd] using hI.grow hb)
                refine EachF.cons 8 rfl (fun dn xv W F hF hd hN hX hI H K hK => ?_) ?_
                · have h6 : xv 6 = .bool true := (H 6 (.edge (by kernel_rfl))).2
                  have f72 : F.tmps.getD 72 undef = .bool true := (hF 72).trans (Eq.trans (by kernel_rfl) h6)
                  have h4 : xv 4 = .bool false := (H 4 (.edge (by kernel_rfl))).2
                  have f70 : F.tmps.getD 70 undef = .bool false := (hF 70).trans (Eq.trans (by kernel_rfl) h4)
                  clear H hN hd hX hF
                  refine on_guard rfl (by kernel_rfl) f70 ?_
                  go_simp
                  exact hK.out _ _ rfl (Below.refl _ _) (by simpa [upB, upd] using hI)
                refine EachF.cons 9 rfl (fun dn xv W F hF hd hN hX hI H K hK => ?_) ?_
                · have h4 : xv 4 = .bool false := (H 4 (.edge (by kernel_rfl))).2
                  have f70 : F.tmps.getD 70 undef = .bool false := (hF 70).trans (Eq.trans (by kernel_rfl) h4)
                  have h7 : xv 7 = .bool false := (H 7 (.edge (by kernel_rfl))).2
                  have f73 : F.tmps.getD 73 undef = .bool false := (hF 73).trans (Eq.trans (by kernel_rfl) h7)
                  clear H hN hd hX hF
                  refine on_plain rfl ?_
                  go_simp
                  exact hK.out _ _ rfl (Below.refl _ _) (by simpa [upB, upd] using hI)
                refine EachF.cons 10 rfl (fun dn xv W F hF hd hN hX hI H K hK => ?_) ?_
                · have h8 : xv 8 = .bool false := (H 8 (.edge (by kernel_rfl))).2
                  have f74 : F.tmps.getD 74 undef = .bool false := (hF 74).trans (Eq.trans (by kernel_rfl) h8)
                  clear H hN hd hX hF
                  refine on_plain rfl ?_
                  go_simp
                  exact hK.out _ _ rfl (Below.refl _ _) (by simpa [upB, upd] using hI)
                refine EachF.cons 11 rfl (fun dn xv W F hF hd hN hX hI H K hK => ?_) ?_
                · have f7 : F.tmps.getD 7 undef = .pointer (some ⟨g2 + 1, 0, none⟩) := (hF 7).trans (by kernel_rfl)
                  have h9 : xv 9 = .bool false := (H 9 (.edge (by kernel_rfl))).2
                  have f75 : F.tmps.getD 75 undef = .bool false := (hF 75).trans (Eq.trans (by kernel_rfl) h9)
                  have k0 := sep_ceAt (i := 2) hI rfl 0 rfl
                  have k1 := sep_ceAt (i := 2) hI rfl 1 rfl
                  have k2 := sep_ceAt (i := 2) hI rfl 2 rfl
                  have k3 := sep_ceAt (i := 2) hI rfl 3 rfl
                  have k4 := sep_ceAt (i := 2) hI rfl 4 rfl
                  have k5 := sep_ceAt (i := 2) hI rfl 5 rfl
                  have k6 := sep_ceAt (i := 2) hI rfl 6 rfl
                  have k7 := sep_ceAt (i := 2) hI rfl 7 rfl
                  have k8 := sep_ceAt (i := 2) hI rfl 8 rfl
                  have k9 := sep_ceAt (i := 2) hI rfl 9 rfl
                  clear H hN hd hX hF
                  refine on_guard rfl (by kernel_rfl) f75 ?_
                  go_simp
                  exact hK.out _ _ rfl (Below.refl _ _) (by simpa [upB, upd] using hI)
                refine EachF.cons 12 rfl (fun dn xv W F hF hd hN hX hI H K hK => ?_) ?_
                · have h10 : xv 10 = .agg #[.int .i64 (x0 : Int), .int .i64 (x1 : Int), .int .i64 (x2 : Int), .int .u64 (u0 : Int), .int .u64 (u1 : Int), .int .u64 (u2 : Int), .int .u64 (u3 : Int), .int .u64 (u4 : Int), .int .u64 (u5 : Int), .slice none 0 0] := (H 10 (.edge (by kernel_rfl))).2
                  have f76 : F.tmps.getD 76 undef = .agg #[.int .i64 (x0 : Int), .int .i64 (x1 : Int), .int .i64 (x2 : Int), .int .u64 (u0 : Int), .int .u64 (u1 : Int), .int .u64 (u2 : Int), .int .u64 (u3 : Int), .int .u64 (u4 : Int), .int .u64 (u5 : Int), .slice none 0 0] := (hF 76).trans (Eq.trans (by kernel_rfl) h10)
                  have h9 : xv 9 = .bool false := (H 9 (.edge (by kernel_rfl))).2
                  have f75 : F.tmps.getD 75 undef = .bool false := (hF 75).trans (Eq.trans (by kernel_rfl) h9)
                  clear H hN hd hX hF
                  refine on_guard rfl (by kernel_rfl) f75 ?_
                  go_simp
                  refine (refBytes_yes W W.heap.size (Fr.mk x0 x1 x2 u0 u1 u2 u3 u4 u5 []) none 0 Has.nil (Nat.le_refl _) HMY.out).mono ?_
                  rintro e W' ⟨v, rfl, ho, hb⟩
                  rw [HLp.out] at ho
                  exact hK.out v W' (IsB.of_own ho) hb (by simpa [upB, upd] using hI.grow hb)
                refine EachF.cons 13 rfl (fun dn xv W F hF hd hN hX hI H K hK => ?_) ?_
                · have h11 := (H 11 (.edge (by kernel_rfl))).2
                  simp only [Dl] at h11
                  have f77 : F.tmps.getD 77 undef = xv 11 := (hF 77).trans (by kernel_rfl)
                  have h9 : xv 9 = .bool false := (H 9 (.edge (by kernel_rfl))).2
                  have f75 : F.tmps.getD 75 undef = .bool false := (hF 75).trans (Eq.trans (by kernel_rfl) h9)
                  clear H hN hd hX hF
                  refine on_guard rfl (by kernel_rfl) f75 ?_
                  obtain ⟨A9, c9, e9, h9⟩ := h11
                  rw [e9] at f77
                  have g77 := f77
                  rw [Array.getD_eq_getD_getElem?] at g77
                  have t9 := run_str (c := c9) h9
                  clear h9
                  go_simp
                  exact hK.out _ W rfl (Below.refl _ _) (by simpa [upB, upd] using hI)
                refine EachF.cons 14 rfl (fun dn xv W F hF hd hN hX hI H K hK => ?_) ?_
                · have f0 : F.tmps.getD 0 undef = .slice A b.length c := (hF 0).trans (by kernel_rfl)
                  have h9 : xv 9 = .bool false := (H 9 (.edge (by kernel_rfl))).2
                  have f75 : F.tmps.getD 75 undef = .bool false := (hF 75).trans (Eq.trans (by kernel_rfl) h9)
                  clear H hN hd hX hF
                  refine on_guard rfl (by kernel_rfl) f75 ?_
                  go_simp
                  exact hK.out _ _ rfl (Below.refl _ _) (by simpa [upB, upd] using hI)
                refine EachF.cons 15 rfl (fun dn xv W F hF hd hN hX hI H K hK => ?_) ?_
                · have h13 : xv 13 = .slice A b.length c := (H 13 (.edge (by kernel_rfl))).2
                  have f79 : F.tmps.getD 79 undef = .slice A b.length c := (hF 79).trans (Eq.trans (by kernel_rfl) h13)
                  have h9 : xv 9 = .bool false := (H 9 (.edge (by kernel_rfl))).2
                  have f75 : F.tmps.getD 75 undef = .bool false := (hF 75).trans (Eq.trans (by kernel_rfl) h9)
                  have t9 := run_str (c := c) (hI.has HA.out)
                  clear H hN hd hX hF
                  refine on_guard rfl (by kernel_rfl) f75 ?_
                  go_simp
                  exact hK.out _ _ rfl (Below.refl _ _) (by simpa [upB, upd] using hI)
                refine EachF.cons 16 rfl (fun dn xv W F hF hd hN hX hI H K hK => ?_) ?_
                · have h12 : xv 12 = .string ⟨Lp.toArray⟩ := (H 12 (.edge (by kernel_rfl))).2
                  have f78 : F.tmps.getD 78 undef = .string ⟨Lp.toArray⟩ := (hF 78).trans (Eq.trans (by kernel_rfl) h12)
                  have h14 : xv 14 = .string ⟨b.toArray⟩ := (H 14 (.edge (by kernel_rfl))).2
                  have f80 : F.tmps.getD 80 undef = .string ⟨b.toArray⟩ := (hF 80).trans (Eq.trans (by kernel_rfl) h14)
                  have h9 : xv 9 = .bool false := (H 9 (.edge (by kernel_rfl))).2
                  have f75 : F.tmps.getD 75 undef = .bool false := (hF 75).trans (Eq.trans (by kernel_rfl) h9)
                  clear H hN hd hX hF
                  refine on_guard rfl (by kernel_rfl) f75 ?_
                  go_simp
                  exact hK.out _ _ rfl (Below.refl _ _) (by simpa [upB, upd] using hI)
                refine EachF.cons 17 rfl (fun dn xv W F hF hd hN hX hI H K hK => ?_) ?_
                · have h9 : xv 9 = .bool false := (H 9 (.edge (by kernel_rfl))).2
                  have f75 : F.tmps.getD 75 undef = .bool false := (hF 75).trans (Eq.trans (by kernel_rfl) h9)
                  have h15 : xv 15 = .bool true := (H 15 (.edge (by kernel_rfl))).2
                  have f81 : F.tmps.getD 81 undef = .bool true := (hF 81).trans (Eq.trans (by kernel_rfl) h15)
                  clear H hN hd hX hF
                  refine on_plain rfl ?_
                  go_simp
                  exact hK.out _ _ rfl (Below.refl _ _) (by simpa [upB, upd] using hI)
                exact EachF.nil
              · intro dn xv W hI H
                have q16 : xv 16 = .bool true := (H 16 (of_decide_eq_true (by kernel_rfl))).2
                have hS : Sep w W [Ce w.heap.size 25 #[.int .i64 0, .int .i64 0, .int .i64 0, .int .u64 0, .int .u64 0, .int .u64 0, .int .u64 0, .int .u64 0, .int .u64 0, .slice none 0 0], Rf g2 s7.1 s7.2, Ce (g2 + 1) 25 #[.int .i64 (x0 : Int), .int .i64 (x1 : Int), .int .i64 (x2 : Int), .int .u64 (u0 : Int), .int .u64 (u1 : Int), .int .u64 (u2 : Int), .int .u64 (u3 : Int), .int .u64 (u4 : Int), .int .u64 (u5 : Int), .slice none 0 0]] := hI
                clear H hI
                simp only [putAll, Act.put, List.setIfInBounds_toArray, List.set_cons_zero, List.set_cons_succ, Nat.reduceAdd, q16]
                clear q16
                have HS9 := Lib.hid hS
                clear hS
                have k0 := sep_ceAt (i := 0) HS9.out rfl 0 rfl
                have k1 := sep_ceAt (i := 0) HS9.out rfl 1 rfl
                have k2 := sep_ceAt (i := 0) HS9.out rfl 2 rfl
                have k3 := sep_ceAt (i := 0) HS9.out rfl 3 rfl
                have k4 := sep_ceAt (i := 0) HS9.out rfl 4 rfl
                have k5 := sep_ceAt (i := 0) HS9.out rfl 5 rfl
                have k6 := sep_ceAt (i := 0) HS9.out rfl 6 rfl
                have k7 := sep_ceAt (i := 0) HS9.out rfl 7 rfl
                have k8 := sep_ceAt (i := 0) HS9.out rfl 8 rfl
                have k9 := sep_ceAt (i := 0) HS9.out rfl 9 rfl
                have y0 := sep_ceFrozen (i := 0) HS9.out rfl 0
                have y1 := sep_ceFrozen (i := 0) HS9.out rfl 1
                have y2 := sep_ceFrozen (i := 0) HS9.out rfl 2
                have y3 := sep_ceFrozen (i := 0) HS9.out rfl 3
                have y4 := sep_ceFrozen (i := 0) HS9.out rfl 4
                have y5 := sep_ceFrozen (i := 0) HS9.out rfl 5
                have y6 := sep_ceFrozen (i := 0) HS9.out rfl 6
                have y7 := sep_ceFrozen (i := 0) HS9.out rfl 7
                have y8 := sep_ceFrozen (i := 0) HS9.out rfl 8
                have y9 := sep_ceFrozen (i := 0) HS9.out rfl 9
                go_wp2_with fail
                obtain ⟨_, hs2⟩ := sep_put10 (i := 0) HS9.out rfl (.int .i64 0) (.int .i64 0) (.int .i64 0) (.int .u64 0) (.int .u64 0) (.int .u64 0) (.int .u64 0) (.int .u64 0) (.int .u64 0) (.slice none 0 0)
                refine bodyPost_ret (v := .tuple #[.agg #[.int .i64 0, .int .i64 0, .int .i64 0, .int .u64 0, .int .u64 0, .int .u64 0, .int .u64 0, .int .u64 0, .int .u64 0, .slice none 0 0], .bool false]) (by simp [results, Tryd.results18, go_sem, k0, k1, k2, k3, k4, k5, k6, k7, k8, k9]) rfl ?_
                exact .inr ⟨fun f hf => (by have h := ((isFr_rf HOP.out f).1 hf).2.2.2.1; rw [HF.out, HLp.out] at h; exact HEQ.out h), rfl, hs2.bel⟩
          · have HMY : Hid ((Fr.mk x0 x1 x2 u0 u1 u2 u3 u4 u5 []).may = false) := Lib.hid (by simpa using hmy)
            clear hmy
            refine wp_region_f (fun dn xv W => Sep w W [Ce w.heap.size 25 #[.int .i64 0, .int .i64 0, .int .i64 0, .int .u64 0, .int .u64 0, .int .u64 0, .int .u64 0, .int .u64 0, .int .u64 0, .slice none 0 0], Rf g2 s7.1 s7.2, Ce (g2 + 1) 25 #[.int .i64 (x0 : Int), .int .i64 (x1 : Int), .int .i64 (x2 : Int), .int .u64 (u0 : Int), .int .u64 (u1 : Int), .int .u64 (u2 : Int), .int .u64 (u3 : Int), .int .u64 (u4 : Int), .int .u64 (u5 : Int), .slice none 0 0]]) (fun W W' => Below W.heap.size W W') [fun v _ => v = .pointer (some ⟨g2, 0, none⟩), fun v _ => v = .pointer (some ⟨g2, 0, none⟩), fun v _ => v = .pointer (some ⟨g2, 1, none⟩), fun v _ => v = .bool false, fun v _ => v = .bool false, fun v _ => v = .agg #[.int .i64 (x0 : Int), .int .i64 (x1 : Int), .int .i64 (x2 : Int), .int .u64 (u0 : Int), .int .u64 (u1 : Int), .int .u64 (u2 : Int), .int .u64 (u3 : Int), .int .u64 (u4 : Int), .int .u64 (u5 : Int), .slice none 0 0], fun v _ => v = .bool false, fun v _ => v = .bool true, fun v _ => v = .bool true, fun v _ => v = .bool true, fun v _ => v = undef, fun v _ => v = undef, fun v _ => v = undef, fun v _ => v = undef, fun v _ => v = undef, fun v _ => v = undef, fun v _ => v = .bool true] (by kernel_rfl) (by kernel_rfl) (by kernel_rfl) (by kernel_rfl) (fun xv => by simpa using HSb5.out.drew)
              (by exact ⟨fun _ _ _ _ h => h, fun _ _ _ _ h => h, fun _ _ _ _ h => h, fun _ _ _ _ h => h, fun _ _ _ _ h => h, fun _ _ _ _ h => h, fun _ _ _ _ h => h, fun _ _ _ _ h => h, fun _ _ _ _ h => h, fun _ _ _ _ h => h, fun _ _ _ _ h => h, fun _ _ _ _ h => h, fun _ _ _ _ h => h, fun _ _ _ _ h => h, fun _ _ _ _ h => h, fun _ _ _ _ h => h, fun _ _ _ _ h => h, trivial⟩) ?_ ?_
            · refine EachF.cons 1 rfl (fun dn xv W F hF hd hN hX hI H K hK => ?_) ?_
              · have f6 : F.tmps.getD 6 undef = .pointer (some ⟨g2, 0, none⟩) := (hF 6).trans (by kernel_rfl)
                clear H hN hd hX hF
                refine on_plain rfl ?_
                go_simp
                exact hK.out _ _ rfl (Below.refl _ _) (by simpa [upB, upd] using hI)
              refine EachF.cons 2 rfl (fun dn xv W F hF hd hN hX hI H K hK => ?_) ?_
              · have h0 : xv 0 = .pointer (some ⟨g2, 0, none⟩) := (H 0 (.edge (by kernel_rfl))).2
                have f66 : F.tmps.getD 66 undef = .pointer (some ⟨g2, 0, none⟩) := (hF 66).trans (Eq.trans (by kernel_rfl) h0)
                clear H hN hd hX hF
                refine on_plain rfl ?_
                go_simp
                exact hK.out _ _ rfl (Below.refl _ _) (by simpa [upB, upd] using hI)
              refine EachF.cons 3 rfl (fun dn xv W F hF hd hN hX hI H K hK => ?_) ?_
              · have h1 : xv 1 = .pointer (some ⟨g2, 0, none⟩) := (H 1 (.edge (by kernel_rfl))).2
                have f67 : F.tmps.getD 67 undef = .pointer (some ⟨g2, 0, none⟩) := (hF 67).trans (Eq.trans (by kernel_rfl) h1)
                clear H hN hd hX hF
                refine on_plain rfl ?_
                go_simp
                exact hK.out _ _ rfl (Below.refl _ _) (by simpa [upB, upd] using hI)
              refine EachF.cons 4 rfl (fun dn xv W F hF hd hN hX hI H K hK => ?_) ?_
              · have h2 : xv 2 = .pointer (some ⟨g2, 1, none⟩) := (H 2 (.edge (by kernel_rfl))).2
                have f68 : F.tmps.getD 68 undef = .pointer (some ⟨g2, 1, none⟩) := (hF 68).trans (Eq.trans (by kernel_rfl) h2)
                obtain ⟨_, _, _, q1⟩ := sep_rfCells (i := 1) hI rfl
                rw [HBD.out] at q1
                clear H hN hd hX hF
                refine on_plain rfl ?_
                go_simp
                exact hK.out _ _ rfl (Below.refl _ _) (by simpa [upB, upd] using hI)
              refine EachF.cons 5 rfl (fun dn xv W F hF hd hN hX hI H K hK => ?_) ?_
              · have h3 : xv 3 = .bool false := (H 3 (.edge (by kernel_rfl))).2
                have f69 : F.tmps.getD 69 undef = .bool false := (hF 69).trans (Eq.trans (by kernel_rfl) h3)
                clear H hN hd hX hF
                refine on_plain rfl ?_
                go_simp
                exact hK.out _ _ rfl (Below.refl _ _) (by simpa [upB, upd] using hI)
              refine EachF.cons 6 rfl (fun dn xv W F hF hd hN hX hI H K hK => ?_) ?_
              · have f7 : F.tmps.getD 7 undef = .pointer (some ⟨g2 + 1, 0, none⟩) := (hF 7).trans (by kernel_rfl)
                have h4 : xv 4 = .bool false := (H 4 (.edge (by kernel_rfl))).2
                have f70 : F.tmps.getD 70 undef = .bool false := (hF 70).trans (Eq.trans (by kernel_rfl) h4)
                have k0 := sep_ceAt (i := 2) hI rfl 0 rfl
                have k1 := sep_ceAt (i := 2) hI rfl 1 rfl
                have k2 := sep_ceAt (i := 2) hI rfl 2 rfl
                have k3 := sep_ceAt (i := 2) hI rfl 3 rfl
                have k4 := sep_ceAt (i := 2) hI rfl 4 rfl
                have k5 := sep_ceAt (i := 2) hI rfl 5 rfl
                have k6 := sep_ceAt (i := 2) hI rfl 6 rfl
                have k7 := sep_ceAt (i := 2) hI rfl 7 rfl
                have k8 := sep_ceAt (i := 2) hI rfl 8 rfl
                have k9 := sep_ceAt (i := 2) hI rfl 9 rfl
                clear H hN hd hX hF
                refine on_guard rfl (by kernel_rfl) f70 ?_
                go_simp
                exact hK.out _ _ rfl (Below.refl _ _) (by simpa [upB, upd] using hI)
              refine EachF.cons 7 rfl (fun dn xv W F hF hd hN hX hI H K hK => ?_) ?_
              · have h5 : xv 5 = .agg #[.int .i64 (x0 : Int), .int .i64 (x1 : Int), .int .i64 (x2 : Int), .int .u64 (u0 : Int), .int .u64 (u1 : Int), .int .u64 (u2 : Int), .int .u64 (u3 : Int), .int .u64 (u4 : Int), .int .u64 (u5 : Int), .slice none 0 0] := (H 5 (.edge (by kernel_rfl))).2
                have f71 : F.tmps.getD 71 undef = .agg #[.int .i64 (x0 : Int), .int .i64 (x1 : Int), .int .i64 (x2 : Int), .int .u64 (u0 : Int), .int .u64 (u1 : Int), .int .u64 (u2 : Int), .int .u64 (u3 : Int), .int .u64 (u4 : Int), .int .u64 (u5 : Int), .slice none 0 0] := (hF 71).trans (Eq.trans (by kernel_rfl) h5)
                have h4 : xv 4 = .bool false := (H 4 (.edge (by kernel_rfl))).2
                have f70 : F.tmps.getD 70 undef = .bool false := (hF 70).trans (Eq.trans (by kernel_rfl) h4)
                clear H hN hd hX hF
                refine on_guard rfl (by kernel_rfl) f70 ?_
                go_simp
                refine (mayRb5 (w := W) (f := (Fr.mk x0 x1 x2 u0 u1 u2 u3 u4 u5 [])) (A := none) (c := 0) HMY.out (by unfold maxLen; simp <;> omega)).mono ?_
                rintro e W' ⟨rfl, hb⟩
                exact hK.out _ W' rfl hb (by simpa [upB, upd] using hI.grow hb)
              refine EachF.cons 8 rfl (fun dn xv W F hF hd hN hX hI H K hK => ?_) ?_
              · have h6 : xv 6 = .bool false := (H 6 (.edge (by kernel_rfl))).2
                have f72 : F.tmps.getD 72 undef = .bool false := (hF 72).trans (Eq.trans (by kernel_rfl) h6)
                have h4 : xv 4 = .bool false := (H 4 (.edge (by kernel_rfl))).2
                have f70 : F.tmps.getD 70 undef = .bool false := (hF 70).trans (Eq.trans (by kernel_rfl) h4)
                clear H hN hd hX hF
                refine on_guard rfl (by kernel_rfl) f70 ?_
                go_simp
                exact hK.out _ _ rfl (Below.refl _ _) (by simpa [upB, upd] using hI)
              refine EachF.cons 9 rfl (fun dn xv W F hF hd hN hX hI H K hK => ?_) ?_
              · have h4 : xv 4 = .bool false := (H 4 (.edge (by kernel_rfl))).2
                have f70 : F.tmps.getD 70 undef = .bool false := (hF 70).trans (Eq.trans (by kernel_rfl) h4)
                have h7 : xv 7 = .bool true := (H 7 (.edge (by kernel_rfl))).2
                have f73 : F.tmps.getD 73 undef = .bool true := (hF 73).trans (Eq.trans (by kernel_rfl) h7)
                clear H hN hd hX hF
                refine on_plain rfl ?_
                go_simp
                exact hK.out _ _ rfl (Below.refl _ _) (by simpa [upB, upd] using hI)
              refine EachF.cons 10 rfl (fun dn xv W F hF hd hN hX hI H K hK => ?_) ?_
              · have h8 : xv 8 = .bool true := (H 8 (.edge (by kernel_rfl))).2
                have f74 : F.tmps.getD 74 undef = .bool true := (hF 74).trans (Eq.trans (by kernel_rfl) h8)
                clear H hN hd hX hF
                refine on_plain rfl ?_
                go_simp
                exact hK.out _ _ rfl (Below.refl _ _) (by simpa [upB, upd] using hI)
              refine EachF.cons 11 rfl (fun dn xv W F hF hd hN hX hI H K hK => ?_) ?_
              · have h9 : xv 9 = .bool true := (H 9 (.edge (by kernel_rfl))).2
                have f75 : F.tmps.getD 75 undef = .bool true := (hF 75).trans (Eq.trans (by kernel_rfl) h9)
                clear H hN hd hX hF
                refine off_guard rfl (by kernel_rfl) f75 (by decide) ?_
                exact hK.out _ _ rfl (Below.refl _ _) (by simpa [upB, upd] using hI)
              refine EachF.cons 12 rfl (fun dn xv W F hF hd hN hX hI H K hK => ?_) ?_
              · have h9 : xv 9 = .bool true := (H 9 (.edge (by kernel_rfl))).2
                have f75 : F.tmps.getD 75 undef = .bool true := (hF 75).trans (Eq.trans (by kernel_rfl) h9)
                clear H hN hd hX hF
                refine off_guard rfl (by kernel_rfl) f75 (by decide) ?_
                exact hK.out _ _ rfl (Below.refl _ _) (by simpa [upB, upd] using hI)
              refine EachF.cons 13 rfl (fun dn xv W F hF hd hN hX hI H K hK => ?_) ?_
              · have h9 : xv 9 = .bool true := (H 9 (.edge (by kernel_rfl))).2
                have f75 : F.tmps.getD 75 undef = .bool true := (hF 75).trans (Eq.trans (by kernel_rfl) h9)
                clear H hN hd hX hF
                refine off_guard rfl (by kernel_rfl) f75 (by decide) ?_
                exact hK.out _ _ rfl (Below.refl _ _) (by simpa [upB, upd] using hI)
              refine EachF.cons 14 rfl (fun dn xv W F hF hd hN hX hI H K hK => ?_) ?_
              · have h9 : xv 9 = .bool true := (H 9 (.edge (by kernel_rfl))).2
                have f75 : F.tmps.getD 75 undef = .bool true := (hF 75).trans (Eq.trans (by kernel_rfl) h9)
                clear H hN hd hX hF
                refine off_guard rfl (by kernel_rfl) f75 (by decide) ?_
                exact hK.out _ _ rfl (Below.refl _ _) (by simpa [upB, upd] using hI)
              refine EachF.cons 15 rfl (fun dn xv W F hF hd hN hX hI H K hK => ?_) ?_
              · have h9 : xv 9 = .bool true := (H 9 (.edge (by kernel_rfl))).2
                have f75 : F.tmps.getD 75 undef = .bool true := (hF 75).trans (Eq.trans (by kernel_rfl) h9)
                clear H hN hd hX hF
                refine off_guard rfl (by kernel_rfl) f75 (by decide) ?_
                exact hK.out _ _ rfl (Below.refl _ _) (by simpa [upB, upd] using hI)
              refine EachF.cons 16 rfl (fun dn xv W F hF hd hN hX hI H K hK => ?_) ?_
              · have h9 : xv 9 = .bool true := (H 9 (.edge (by kernel_rfl))).2
                have f75 : F.tmps.getD 75 undef = .bool true := (hF 75).trans (Eq.trans (by kernel_rfl) h9)
                clear H hN hd hX hF
                refine off_guard rfl (by kernel_rfl) f75 (by decide) ?_
                exact hK.out _ _ rfl (Below.refl _ _) (by simpa [upB, upd] using hI)
              refine EachF.cons 17 rfl (fun dn xv W F hF hd hN hX hI H K hK => ?_) ?_
              · have h9 : xv 9 = .bool true := (H 9 (.edge (by kernel_rfl))).2
                have f75 : F.tmps.getD 75 undef = .bool true := (hF 75).trans (Eq.trans (by kernel_rfl) h9)
                have h15 : xv 15 = undef := (H 15 (.edge (by kernel_rfl))).2
                have f81 : F.tmps.getD 81 undef = undef := (hF 81).trans (Eq.trans (by kernel_rfl) h15)
                clear H hN hd hX hF
                refine on_plain rfl ?_
                go_simp
                exact hK.out _ _ rfl (Below.refl _ _) (by simpa [upB, upd] using hI)
              exact EachF.nil
            · intro dn xv W hI H
              have q16 : xv 16 = .bool true := (H 16 (of_decide_eq_true (by kernel_rfl))).2
              have hS : Sep w W [Ce w.heap.size 25 #[.int .i64 0, .int .i64 0, .int .i64 0, .int .u64 0, .int .u64 0, .int .u64 0, .int .u64 0, .int .u64 0, .int .u64 0, .slice none 0 0], Rf g2 s7.1 s7.2, Ce (g2 + 1) 25 #[.int .i64 (x0 : Int), .int .i64 (x1 : Int), .int .i64 (x2 : Int), .int .u64 (u0 : Int), .int .u64 (u1 : Int), .int .u64 (u2 : Int), .int .u64 (u3 : Int), .int .u64 (u4 : Int), .int .u64 (u5 : Int), .slice none 0 0]] := hI
              clear H hI
              simp only [putAll, Act.put, List.setIfInBounds_toArray, List.set_cons_zero, List.set_cons_succ, Nat.reduceAdd, q16]
              clear q16
              have HS9 := Lib.hid hS
              clear hS
              have k0 := sep_ceAt (i := 0) HS9.out rfl 0 rfl
              have k1 := sep_ceAt (i := 0) HS9.out rfl 1 rfl
              have k2 := sep_ceAt (i := 0) HS9.out rfl 2 rfl
              have k3 := sep_ceAt (i := 0) HS9.out rfl 3 rfl
              have k4 := sep_ceAt (i := 0) HS9.out rfl 4 rfl
              have k5 := sep_ceAt (i := 0) HS9.out rfl 5 rfl
              have k6 := sep_ceAt (i := 0) HS9.out rfl 6 rfl
              have k7 := sep_ceAt (i := 0) HS9.out rfl 7 rfl
              have k8 := sep_ceAt (i := 0) HS9.out rfl 8 rfl
              have k9 := sep_ceAt (i := 0) HS9.out rfl 9 rfl
              have y0 := sep_ceFrozen (i := 0) HS9.out rfl 0
              have y1 := sep_ceFrozen (i := 0) HS9.out rfl 1
              have y2 := sep_ceFrozen (i := 0) HS9.out rfl 2
              have y3 := sep_ceFrozen (i := 0) HS9.out rfl 3
              have y4 := sep_ceFrozen (i := 0) HS9.out rfl 4
              have y5 := sep_ceFrozen (i := 0) HS9.out rfl 5
              have y6 := sep_ceFrozen (i := 0) HS9.out rfl 6
              have y7 := sep_ceFrozen (i := 0) HS9.out rfl 7
              have y8 := sep_ceFrozen (i := 0) HS9.out rfl 8
              have y9 := sep_ceFrozen (i := 0) HS9.out rfl 9
              go_wp2_with fail
              obtain ⟨_, hs2⟩ := sep_put10 (i := 0) HS9.out rfl (.int .i64 0) (.int .i64 0) (.int .i64 0) (.int .u64 0) (.int .u64 0) (.int .u64 0) (.int .u64 0) (.int .u64 0) (.int .u64 0) (.slice none 0 0)
              refine bodyPost_ret (v := .tuple #[.agg #[.int .i64 0, .int .i64 0, .int .i64 0, .int .u64 0, .int .u64 0, .int .u64 0, .int .u64 0, .int .u64 0, .int .u64 0, .slice none 0 0], .bool false]) (by simp [results, Tryd.results18, go_sem, k0, k1, k2, k3, k4, k5, k6, k7, k8, k9]) rfl ?_
              exact .inr ⟨fun f hf => (by have h := ((isFr_rf HOP.out f).1 hf).2.2.1; rw [HF.out, HMY.out] at h; cases h), rfl, hs2.bel⟩
  · have HS1 := Lib.hid (show Sep w w1 [Ce w.heap.size 25 #[.int .i64 0, .int .i64 0, .int .i64 0, .int .u64 0, .int .u64 0, .int .u64 0, .int .u64 0, .int .u64 0, .int .u64 0, .slice none 0 0]] from HS0.out.grow hb1)
    have k0 := sep_ceAt (i := 0) HS1.out rfl 0 rfl
    have k1 := sep_ceAt (i := 0) HS1.out rfl 1 rfl
    have k2 := sep_ceAt (i := 0) HS1.out rfl 2 rfl
    have k3 := sep_ceAt (i := 0) HS1.out rfl 3 rfl
    have k4 := sep_ceAt (i := 0) HS1.out rfl 4 rfl
    have k5 := sep_ceAt (i := 0) HS1.out rfl 5 rfl
    have k6 := sep_ceAt (i := 0) HS1.out rfl 6 rfl
    have k7 := sep_ceAt (i := 0) HS1.out rfl 7 rfl
    have k8 := sep_ceAt (i := 0) HS1.out rfl 8 rfl
    have k9 := sep_ceAt (i := 0) HS1.out rfl 9 rfl
    have y0 := sep_ceFrozen (i := 0) HS1.out rfl 0
    have y1 := sep_ceFrozen (i := 0) HS1.out rfl 1
    have y2 := sep_ceFrozen (i := 0) HS1.out rfl 2
    have y3 := sep_ceFrozen (i := 0) HS1.out rfl 3
    have y4 := sep_ceFrozen (i := 0) HS1.out rfl 4
    have y5 := sep_ceFrozen (i := 0) HS1.out rfl 5
    have y6 := sep_ceFrozen (i := 0) HS1.out rfl 6
    have y7 := sep_ceFrozen (i := 0) HS1.out rfl 7
    have y8 := sep_ceFrozen (i := 0) HS1.out rfl 8
    have y9 := sep_ceFrozen (i := 0) HS1.out rfl 9
    go_wp2_with fail
    obtain ⟨_, hs2⟩ := sep_put10 (i := 0) HS1.out rfl (.int .i64 0) (.int .i64 0) (.int .i64 0) (.int .u64 0) (.int .u64 0) (.int .u64 0) (.int .u64 0) (.int .u64 0) (.int .u64 0) (.slice none 0 0)
    refine bodyPost_ret (v := .tuple #[.agg #[.int .i64 0, .int .i64 0, .int .i64 0, .int .u64 0, .int .u64 0, .int .u64 0, .int .u64 0, .int .u64 0, .int .u64 0, .slice none 0 0], .bool false]) (by simp [results, Tryd.results18, go_sem, k0, k1, k2, k3, k4, k5, k6, k7, k8, k9]) rfl ?_
    exact .inr ⟨fun f hf => (by rw [isFr_opened hf] at hop; cases hop), rfl, hs2.bel⟩
end Go.Proofs.YtcjafbpgjlcdpaaDoor
