/- The walk of the document's Decode of a letter. -/
import Derived.Test.YtbnjlminjopaaaaLetV4
import Derived.Test.YtbnjlminjopaaaaLetC
import Derived.Test.YtbnjlminjopaaaaLetL
namespace Go.Proofs.Ytbnjlminjopaaaa
open Go Go.RowKit
set_option linter.unusedVariables false
set_option maxRecDepth 100000

theorem sep_riFlag {w0 w : World} {Ps : List SP} {i g : Nat} {s : Rs} (f : Bool) (h : Sep w0 w Ps) (hi : Ps[i]? = some (Ri w0 g s)) : Sep w0 (w.setCell ⟨g, 1, none⟩ (.bool f)) (Ps.set i (Ri w0 g (s.1, f))) := by
  obtain ⟨A, c, hs, h1, h2, h3⟩ := sep_ri h hi
  have hlt := (List.getElem?_eq_some_iff.1 hi).1
  have hg := List.getElem?_set_self (a := Ce g 74 #[.slice A s.1.length c, .bool s.2]) hlt
  have h5 := sep_ceSet hs hg 1 (.bool f)
  rw [List.set_set] at h5
  have h6 := sep_riOf (s := (s.1, f)) h5 (List.getElem?_set_self hlt) h1 h2 h3
  rw [List.set_set] at h6
  exact h6
theorem gL_fault {k : Nat} {s : Rs} (h : (gL k s).2.2 = true) : ∀ n, k ≤ n → (gL n s).2.2 = true := by
  intro n hn
  induction n with
  | zero => rw [show k = 0 by omega] at h; exact h
  | succ n ih =>
    by_cases e : k = n + 1
    · rw [← e]; exact h
    · rw [gL_snoc]
      have h2 := ih (by omega)
      have e2 : (gL n s).2 = ((gL n s).2.1, true) := by rw [← h2]
      show (g8 (gL n s).2).2.2 = true
      rw [e2, g8_fault _ true (.inl rfl)]
theorem sep_uvHas {w0 w : World} {Ps : List SP} {i n c : Nat} {A : Option Addr} {l : List Nat} (h : Sep w0 w Ps) (hi : Ps[i]? = some (Uv (.slice A n c) l)) : Has w w.heap.size A (u64s l) := by
  obtain ⟨A', c', e, _, _, hh⟩ := sep_uvForm h hi
  injection e with e
  subst e
  exact hh
/-- what the document decodes -/
def DecsR (w : World) (b : List UInt8) (e : Ending) (w' : World) : Prop :=
  (∃ x A c A2 c2, IsLt b x ∧ e = .returned (.tuple #[.agg (x.cells A c A2 c2), .int .i64 0]) ∧ Has w' w'.heap.size A (us x.body) ∧ Has w' w'.heap.size A2 (u64s x.cut) ∧ Below w.heap.size w w') ∨
  ((∀ x, ¬ IsLt b x) ∧ e = .returned (.tuple #[.agg (Lt.nil.cells none 0 none 0), .int .i64 3]) ∧ Below w.heap.size w w')
theorem decsR_no {w w' : World} {b : List UInt8} {s : Rs} (hW : (rdW b).2 = s) (hs : rEnd s.1 s.2 = true ∨ (rdLt b).may = false) (hb : Below w.heap.size w w') : DecsR w b (.returned (.tuple #[.agg (Lt.nil.cells none 0 none 0), .int .i64 3])) w' :=
  have hn : ∀ x, ¬ IsLt b x := fun x hx => by
    obtain ⟨h1, h2, _⟩ := (isLt_rd b x).1 hx
    rw [hW] at h1
    rcases hs with hs | hs
    · rw [hs] at h1; cases h1
    · rw [hs] at h2; cases h2
  .inr ⟨hn, rfl, hb⟩
theorem rEnd_bad (l : List UInt8) : rEnd l true = true := rfl
theorem rEnd_left {l : List UInt8} (b : Bool) (h : 0 < l.length) : rEnd l b = true := by unfold rEnd; rw [decide_eq_true h, Bool.or_true]
theorem rEnd_ok {l : List UInt8} (h : ¬ 0 < l.length) : rEnd l false = false := by unfold rEnd; rw [decide_eq_false h]; rfl
set_option maxHeartbeats 12800000 in
theorem decR10_any (w : World) (A : Option Addr) (c : Nat) (b : List UInt8) (hA : Has w w.heap.size A (us b)) (hc : b.length ≤ c) (hm : c ≤ maxLen) :
    Calls Try.prog 19 #[.slice A b.length c] w (DecsR w b) := by
  have HS0 := Lib.hid (show Sep w ((w.alloc (.cells #[.int .i64 0, .int .i64 0, .int .u64 0, .int .u64 0, .int .i64 0, .int .u64 0, .int .u64 0, .slice none 0 0, .int .u64 0, .slice none 0 0, .bool false] 30)).alloc (.cells #[.slice A b.length c, .bool false] 74)) [Ce w.heap.size 30 #[.int .i64 0, .int .i64 0, .int .u64 0, .int .u64 0, .int .i64 0, .int .u64 0, .int .u64 0, .slice none 0 0, .int .u64 0, .slice none 0 0, .bool false], Ri w (w.heap.size + 1) (b, false)] by
    have := sep_ce (sep_ce (Sep.nil w) #[.int .i64 0, .int .i64 0, .int .u64 0, .int .u64 0, .int .i64 0, .int .u64 0, .int .u64 0, .slice none 0 0, .int .u64 0, .slice none 0 0, .bool false] 30) #[.slice A b.length c, .bool false] 74
    simp only [World.size_alloc] at this
    exact sep_riOf (i := 1) (s := (b, false)) this rfl hc hm hA)
  clear hA hc hm
  go_enter Try.func19, Try.ntmps19
  go_wp2_with fail
  obtain ⟨g2, HG2⟩ : ∃ g, Hid (w.heap.size + 1 = g) := ⟨_, Lib.hid rfl⟩
  rw [HG2.out] at HS0 ⊢
  refine (sep_i8 (i := 1) (s := (b, false)) HS0.out rfl).mono ?_
  rintro e w3 ⟨rfl, hs3⟩
  have h8 := g8_lt (b, false)
  obtain ⟨kk, Hkk⟩ : ∃ x, Hid ((g8 (b, false)).1 = x) := ⟨_, Lib.hid rfl⟩
  obtain ⟨s1, Hs1⟩ : ∃ x, Hid ((g8 (b, false)).2 = x) := ⟨_, Lib.hid rfl⟩
  rw [Hkk.out] at h8 ⊢
  rw [Hs1.out] at hs3
  have HS3 := Lib.hid (show Sep w w3 [Ce w.heap.size 30 #[.int .i64 0, .int .i64 0, .int .u64 0, .int .u64 0, .int .i64 0, .int .u64 0, .int .u64 0, .slice none 0 0, .int .u64 0, .slice none 0 0, .bool false], Ri w g2 s1] from hs3)
  clear hs3 HS0
  have HS4 := Lib.hid (show Sep w (w3.alloc (.cells #[.int .i64 (kk : Int), .int .i64 0, .int .u64 0, .int .u64 0, .int .i64 0, .int .u64 0, .int .u64 0, .slice none 0 0, .int .u64 0, .slice none 0 0, .bool false] 30)) [Ce w.heap.size 30 #[.int .i64 0, .int .i64 0, .int .u64 0, .int .u64 0, .int .i64 0, .int .u64 0, .int .u64 0, .slice none 0 0, .int .u64 0, .slice none 0 0, .bool false], Ri w g2 s1, Ce w3.heap.size 30 #[.int .i64 (kk : Int), .int .i64 0, .int .u64 0, .int .u64 0, .int .i64 0, .int .u64 0, .int .u64 0, .slice none 0 0, .int .u64 0, .slice none 0 0, .bool false]] from sep_ce HS3.out _ _)
  clear HS3
  go_wp2_with fail
  obtain ⟨w4, HW4⟩ : ∃ W, Hid (w3.alloc (.cells #[.int .i64 (kk : Int), .int .i64 0, .int .u64 0, .int .u64 0, .int .i64 0, .int .u64 0, .int .u64 0, .slice none 0 0, .int .u64 0, .slice none 0 0, .bool false] 30) = W) := ⟨_, Lib.hid rfl⟩
  rw [HW4.out] at HS4 ⊢
  obtain ⟨g3, HG3⟩ : ∃ g, Hid (w3.heap.size = g) := ⟨_, Lib.hid rfl⟩
  rw [HG3.out] at HS4 ⊢
  refine (sep_iP (i := 1) (s := s1) HS4.out rfl).mono ?_
  rintro e w5 ⟨rfl, t2, hst2, hs5⟩
  obtain ⟨nn, Hnn⟩ : ∃ x, Hid ((gP s1).1.1 = x) := ⟨_, Lib.hid rfl⟩
  obtain ⟨pi, Hpi⟩ : ∃ x, Hid ((gP s1).1.2 = x) := ⟨_, Lib.hid rfl⟩
  obtain ⟨s2, Hs2⟩ : ∃ x, Hid ((gP s1).2 = x) := ⟨_, Lib.hid rfl⟩
  rw [Hnn.out, Hpi.out]
  rw [Hs2.out] at hst2
  have HS5 := Lib.hid (show Sep w w5 [Ce w.heap.size 30 #[.int .i64 0, .int .i64 0, .int .u64 0, .int .u64 0, .int .i64 0, .int .u64 0, .int .u64 0, .slice none 0 0, .int .u64 0, .slice none 0 0, .bool false], Ri w g2 t2, Ce g3 30 #[.int .i64 (kk : Int), .int .i64 0, .int .u64 0, .int .u64 0, .int .i64 0, .int .u64 0, .int .u64 0, .slice none 0 0, .int .u64 0, .slice none 0 0, .bool false]] from hs5)
  have HT2 := Lib.hid hst2.gI
  clear hs5 HS4 hst2
  have y1 := sep_ceFrozen (i := 2) HS5.out rfl 1
  have y2 := sep_ceFrozen (i := 2) HS5.out rfl 2
  have k1 := sep_ceAt (i := 2) HS5.out rfl 1 rfl
  have k2 := sep_ceAt (i := 2) HS5.out rfl 2 rfl
  go_wp2_with fail
  have hs6 := sep_ceSet (i := 2) HS5.out rfl 1 (.int .i64 (nn : Int))
  have hs6 := sep_ceSet (i := 2) hs6 rfl 2 (.int .u64 (pi : Int))
  obtain ⟨w6, HW6⟩ : ∃ W, Hid ((w5.setCell ⟨g3, 1, none⟩ (.int .i64 (nn : Int))).setCell ⟨g3, 2, none⟩ (.int .u64 (pi : Int)) = W) := ⟨_, Lib.hid rfl⟩
  rw [HW6.out] at hs6 ⊢
  have HS6 := Lib.hid (show Sep w w6 [Ce w.heap.size 30 #[.int .i64 0, .int .i64 0, .int .u64 0, .int .u64 0, .int .i64 0, .int .u64 0, .int .u64 0, .slice none 0 0, .int .u64 0, .slice none 0 0, .bool false], Ri w g2 t2, Ce g3 30 #[.int .i64 (kk : Int), .int .i64 (nn : Int), .int .u64 (pi : Int), .int .u64 0, .int .i64 0, .int .u64 0, .int .u64 0, .slice none 0 0, .int .u64 0, .slice none 0 0, .bool false]] from hs6)
  clear hs6 HS5 y1 y2 k1 k2
  refine (sep_iI (i := 1) (s := t2) HS6.out rfl).mono ?_
  rintro e w7 ⟨rfl, t3, hst3, hs7⟩
  rw [← HT2.out.1]
  have hst3 := HT2.out.2 _ hst3
  obtain ⟨rr, Hrr⟩ : ∃ x, Hid ((gI s2).1.1 = x) := ⟨_, Lib.hid rfl⟩
  obtain ⟨sn, Hsn⟩ : ∃ x, Hid ((gI s2).1.2.1 = x) := ⟨_, Lib.hid rfl⟩
  obtain ⟨si, Hsi⟩ : ∃ x, Hid ((gI s2).1.2.2 = x) := ⟨_, Lib.hid rfl⟩
  obtain ⟨s3, Hs3⟩ : ∃ x, Hid ((gI s2).2 = x) := ⟨_, Lib.hid rfl⟩
  rw [Hrr.out, Hsn.out, Hsi.out]
  rw [Hs3.out] at hst3
  have HT3 := Lib.hid hst3
  have HS7 := Lib.hid (show Sep w w7 [Ce w.heap.size 30 #[.int .i64 0, .int .i64 0, .int .u64 0, .int .u64 0, .int .i64 0, .int .u64 0, .int .u64 0, .slice none 0 0, .int .u64 0, .slice none 0 0, .bool false], Ri w g2 t3, Ce g3 30 #[.int .i64 (kk : Int), .int .i64 (nn : Int), .int .u64 (pi : Int), .int .u64 0, .int .i64 0, .int .u64 0, .int .u64 0, .slice none 0 0, .int .u64 0, .slice none 0 0, .bool false]] from hs7)
  clear hs7 HS6 hst3
  have y3 := sep_ceFrozen (i := 2) HS7.out rfl 3
  have y4 := sep_ceFrozen (i := 2) HS7.out rfl 4
  have y5 := sep_ceFrozen (i := 2) HS7.out rfl 5
  have k3 := sep_ceAt (i := 2) HS7.out rfl 3 rfl
  have k4 := sep_ceAt (i := 2) HS7.out rfl 4 rfl
  have k5 := sep_ceAt (i := 2) HS7.out rfl 5 rfl
  have k0 := sep_ceAt (i := 2) HS7.out rfl 0 rfl
  have HK : Hid (rdK b = (kk, s1)) := Lib.hid (by rw [← Hkk.out, ← Hs1.out]; rfl)
  have HP : Hid (rdP b = ((nn, pi), s2)) := Lib.hid (by unfold rdP; rw [HK.out, ← Hnn.out, ← Hpi.out, ← Hs2.out])
  have HI : Hid (rdI b = ((rr, sn, si), s3)) := Lib.hid (by unfold rdI; rw [HP.out, ← Hrr.out, ← Hsn.out, ← Hsi.out, ← Hs3.out])
  clear Hkk Hs1 Hnn Hpi Hs2 Hrr Hsn Hsi Hs3 HT2
  by_cases q7 : kk = 7
  · have e7 : (((kk : Nat) : Int) == 7) = true := by simp <;> omega
    have e8 : (((kk : Nat) : Int) == 8) = false := by simp <;> omega
    have e9 : (((kk : Nat) : Int) == 9) = false := by simp <;> omega
    have Q7 := Lib.hid q7
    clear q7
    go_wp2_with fail
    have hs8 := sep_ceSet (i := 2) HS7.out rfl 3 (.int .u64 (rr : Int))
    have hs8 := sep_ceSet (i := 2) hs8 rfl 4 (.int .i64 (sn : Int))
    have hs8 := sep_ceSet (i := 2) hs8 rfl 5 (.int .u64 (si : Int))
    obtain ⟨w8, HW8⟩ : ∃ W, Hid (((w7.setCell ⟨g3, 3, none⟩ (.int .u64 (rr : Int))).setCell ⟨g3, 4, none⟩ (.int .i64 (sn : Int))).setCell ⟨g3, 5, none⟩ (.int .u64 (si : Int)) = W) := ⟨_, Lib.hid rfl⟩
    rw [HW8.out] at hs8 ⊢
    have HS8 := Lib.hid (show Sep w w8 [Ce w.heap.size 30 #[.int .i64 0, .int .i64 0, .int .u64 0, .int .u64 0, .int .i64 0, .int .u64 0, .int .u64 0, .slice none 0 0, .int .u64 0, .slice none 0 0, .bool false], Ri w g2 t3, Ce g3 30 #[.int .i64 (kk : Int), .int .i64 (nn : Int), .int .u64 (pi : Int), .int .u64 (rr : Int), .int .i64 (sn : Int), .int .u64 (si : Int), .int .u64 0, .slice none 0 0, .int .u64 0, .slice none 0 0, .bool false]] from hs8)
    clear hs8 HS7 y3 y4 y5 k3 k4 k5 k0
    refine (sep_i8 (i := 1) (s := t3) HS8.out rfl).mono ?_
    rintro e w9 ⟨rfl, hs9⟩
    have h3 := HT3.out.g8
    rw [← h3.1]
    have hn := g8_lt s3
    obtain ⟨n, Hn⟩ : ∃ x, Hid ((g8 s3).1 = x) := ⟨_, Lib.hid rfl⟩
    obtain ⟨s4, Hs4⟩ : ∃ x, Hid ((g8 s3).2 = x) := ⟨_, Lib.hid rfl⟩
    obtain ⟨t4, Ht4⟩ : ∃ x, Hid ((g8 t3).2 = x) := ⟨_, Lib.hid rfl⟩
    have HT4 : Hid (St s4 t4) := Lib.hid (by rw [← Hs4.out]; exact h3.2 _ (by rw [Ht4.out]; exact St.refl _))
    have HN : Hid (rdN b = (n, s4)) := Lib.hid (by unfold rdN; rw [HK.out, HI.out, if_pos Q7.out, ← Hn.out, ← Hs4.out])
    rw [Hn.out] at hn ⊢
    rw [Ht4.out] at hs9
    have HS9 := Lib.hid (show Sep w w9 [Ce w.heap.size 30 #[.int .i64 0, .int .i64 0, .int .u64 0, .int .u64 0, .int .i64 0, .int .u64 0, .int .u64 0, .slice none 0 0, .int .u64 0, .slice none 0 0, .bool false], Ri w g2 t4, Ce g3 30 #[.int .i64 (kk : Int), .int .i64 (nn : Int), .int .u64 (pi : Int), .int .u64 (rr : Int), .int .i64 (sn : Int), .int .u64 (si : Int), .int .u64 0, .slice none 0 0, .int .u64 0, .slice none 0 0, .bool false]] from hs9)
    clear hs9 HS8 h3 Hn Hs4 Ht4
    have m1 : ((n : Nat) : Int) % 18446744073709551616 = (n : Int) := by omega
    have k6 := sep_ceAt (i := 2) HS9.out rfl 6 rfl
    have y6 := sep_ceFrozen (i := 2) HS9.out rfl 6
    go_wp2_with fail
    have hs10 := sep_ceSet (i := 2) HS9.out rfl 6 (.int .u64 (n : Int))
    obtain ⟨w10, HW10⟩ : ∃ W, Hid (w9.setCell ⟨g3, 6, none⟩ (.int .u64 (n : Int)) = W) := ⟨_, Lib.hid rfl⟩
    rw [HW10.out] at hs10 ⊢
    have HS10 := Lib.hid (show Sep w w10 [Ce w.heap.size 30 #[.int .i64 0, .int .i64 0, .int .u64 0, .int .u64 0, .int .i64 0, .int .u64 0, .int .u64 0, .slice none 0 0, .int .u64 0, .slice none 0 0, .bool false], Ri w g2 t4, Ce g3 30 #[.int .i64 (kk : Int), .int .i64 (nn : Int), .int .u64 (pi : Int), .int .u64 (rr : Int), .int .i64 (sn : Int), .int .u64 (si : Int), .int .u64 (n : Int), .slice none 0 0, .int .u64 0, .slice none 0 0, .bool false]] from hs10)
    have HT5 := Lib.hid HT4.out.gT
    clear hs10 HS9 k6 y6 m1
    refine (sep_iT (i := 1) (s := t4) HS10.out rfl).mono ?_
    rintro e w11 ⟨v, t5, rfl, hst5, hs11⟩
    have hst5 := HT5.out.2 _ hst5
    rw [← HT5.out.1] at hs11
    obtain ⟨T, HTT⟩ : ∃ x, Hid ((gT s4).1 = x) := ⟨_, Lib.hid rfl⟩
    obtain ⟨s5, Hs5⟩ : ∃ x, Hid ((gT s4).2 = x) := ⟨_, Lib.hid rfl⟩
    rw [HTT.out] at hs11
    rw [Hs5.out] at hst5
    have HT := Lib.hid hst5
    have HB : Hid (rdB b = (T, s5)) := Lib.hid (by unfold rdB; rw [HK.out, HN.out, if_pos Q7.out, ← HTT.out, ← Hs5.out])
    have hTl : T.length ≤ 64 := by
      rw [← HTT.out]
      unfold gT rText
      split
      · simp
      · split
        · simp
        · split
          · rename_i x n _ h; simp; omega
          · simp
    have HS11 := Lib.hid (show Sep w w11 [Ce w.heap.size 30 #[.int .i64 0, .int .i64 0, .int .u64 0, .int .u64 0, .int .i64 0, .int .u64 0, .int .u64 0, .slice none 0 0, .int .u64 0, .slice none 0 0, .bool false], Ri w g2 t5, Ce g3 30 #[.int .i64 (kk : Int), .int .i64 (nn : Int), .int .u64 (pi : Int), .int .u64 (rr : Int), .int .i64 (sn : Int), .int .u64 (si : Int), .int .u64 (n : Int), .slice none 0 0, .int .u64 0, .slice none 0 0, .bool false], By v T] from hs11)
    clear hs11 HS10 HT5 HTT Hs5 hst5
    obtain ⟨A7, c7, rfl, _, _, _⟩ := sep_byForm (i := 3) HS11.out rfl
    have HS12 := Lib.hid (show Sep w (w11.setCell ⟨g3, 7, none⟩ (.slice A7 T.length c7)) [Ce w.heap.size 30 #[.int .i64 0, .int .i64 0, .int .u64 0, .int .u64 0, .int .i64 0, .int .u64 0, .int .u64 0, .slice none 0 0, .int .u64 0, .slice none 0 0, .bool false], Ri w g2 t5, Ce g3 30 #[.int .i64 (kk : Int), .int .i64 (nn : Int), .int .u64 (pi : Int), .int .u64 (rr : Int), .int .i64 (sn : Int), .int .u64 (si : Int), .int .u64 (n : Int), .slice A7 T.length c7, .int .u64 0, .slice none 0 0, .bool false], By (.slice A7 T.length c7) T] from sep_ceSet (i := 2) HS11.out rfl 7 (.slice A7 T.length c7))
    have HW : Hid ((rdW b).2 = s5) := Lib.hid (by
      unfold rdW rdX rdC
      rw [HK.out, HB.out, if_neg (show ¬ kk = 8 by have := Q7.out; omega), if_neg (show ¬ (kk = 8 ∨ kk = 9) by have := Q7.out; omega), if_neg (show ¬ kk = 9 by have := Q7.out; omega)])
    have HF : Hid (s5.2 = false → (Lt.mk kk nn pi rr sn si n T 0 [] false) = rdLt b) := Lib.hid (fun hsf => by
      unfold rdLt
      rw [HK.out, HP.out, HI.out, HN.out, HB.out]
      unfold rdW rdX rdC
      rw [HK.out, HB.out, if_neg (show ¬ kk = 8 by have := Q7.out; omega), if_neg (show ¬ (kk = 8 ∨ kk = 9) by have := Q7.out; omega), if_neg (show ¬ kk = 9 by have := Q7.out; omega)])
    have k0 := sep_ceAt (i := 0) HS12.out rfl 0 rfl
    have k1 := sep_ceAt (i := 0) HS12.out rfl 1 rfl
    have k2 := sep_ceAt (i := 0) HS12.out rfl 2 rfl
    have k3 := sep_ceAt (i := 0) HS12.out rfl 3 rfl
    have k4 := sep_ceAt (i := 0) HS12.out rfl 4 rfl
    have k5 := sep_ceAt (i := 0) HS12.out rfl 5 rfl
    have k6 := sep_ceAt (i := 0) HS12.out rfl 6 rfl
    have k7 := sep_ceAt (i := 0) HS12.out rfl 7 rfl
    have k8 := sep_ceAt (i := 0) HS12.out rfl 8 rfl
    have k9 := sep_ceAt (i := 0) HS12.out rfl 9 rfl
    have k10 := sep_ceAt (i := 0) HS12.out rfl 10 rfl
    have y0 := sep_ceFrozen (i := 0) HS12.out rfl 0
    have y1 := sep_ceFrozen (i := 0) HS12.out rfl 1
    have y2 := sep_ceFrozen (i := 0) HS12.out rfl 2
    have y3 := sep_ceFrozen (i := 0) HS12.out rfl 3
    have y4 := sep_ceFrozen (i := 0) HS12.out rfl 4
    have y5 := sep_ceFrozen (i := 0) HS12.out rfl 5
    have y6 := sep_ceFrozen (i := 0) HS12.out rfl 6
    have y7 := sep_ceFrozen (i := 0) HS12.out rfl 7
    have y8 := sep_ceFrozen (i := 0) HS12.out rfl 8
    have y9 := sep_ceFrozen (i := 0) HS12.out rfl 9
    have y10 := sep_ceFrozen (i := 0) HS12.out rfl 10
    have z0 := sep_ceAt (i := 2) HS12.out rfl 0 rfl
    have z1 := sep_ceAt (i := 2) HS12.out rfl 1 rfl
    have z2 := sep_ceAt (i := 2) HS12.out rfl 2 rfl
    have z3 := sep_ceAt (i := 2) HS12.out rfl 3 rfl
    have z4 := sep_ceAt (i := 2) HS12.out rfl 4 rfl
    have z5 := sep_ceAt (i := 2) HS12.out rfl 5 rfl
    have z6 := sep_ceAt (i := 2) HS12.out rfl 6 rfl
    have z7 := sep_ceAt (i := 2) HS12.out rfl 7 rfl
    have z8 := sep_ceAt (i := 2) HS12.out rfl 8 rfl
    have z9 := sep_ceAt (i := 2) HS12.out rfl 9 rfl
    have z10 := sep_ceAt (i := 2) HS12.out rfl 10 rfl
    have a0 := sep_ceAt (i := 0) HS11.out rfl 0 rfl
    have a1 := sep_ceAt (i := 0) HS11.out rfl 1 rfl
    have a2 := sep_ceAt (i := 0) HS11.out rfl 2 rfl
    have a3 := sep_ceAt (i := 0) HS11.out rfl 3 rfl
    have a4 := sep_ceAt (i := 0) HS11.out rfl 4 rfl
    have a5 := sep_ceAt (i := 0) HS11.out rfl 5 rfl
    have a6 := sep_ceAt (i := 0) HS11.out rfl 6 rfl
    have a7 := sep_ceAt (i := 0) HS11.out rfl 7 rfl
    have a8 := sep_ceAt (i := 0) HS11.out rfl 8 rfl
    have a9 := sep_ceAt (i := 0) HS11.out rfl 9 rfl
    have a10 := sep_ceAt (i := 0) HS11.out rfl 10 rfl
    have c0 := sep_ceFrozen (i := 0) HS11.out rfl 0
    have c1 := sep_ceFrozen (i := 0) HS11.out rfl 1
    have c2 := sep_ceFrozen (i := 0) HS11.out rfl 2
    have c3 := sep_ceFrozen (i := 0) HS11.out rfl 3
    have c4 := sep_ceFrozen (i := 0) HS11.out rfl 4
    have c5 := sep_ceFrozen (i := 0) HS11.out rfl 5
    have c6 := sep_ceFrozen (i := 0) HS11.out rfl 6
    have c7 := sep_ceFrozen (i := 0) HS11.out rfl 7
    have c8 := sep_ceFrozen (i := 0) HS11.out rfl 8
    have c9 := sep_ceFrozen (i := 0) HS11.out rfl 9
    have c10 := sep_ceFrozen (i := 0) HS11.out rfl 10
    have d0 := sep_ceAt (i := 2) HS11.out rfl 0 rfl
    have d1 := sep_ceAt (i := 2) HS11.out rfl 1 rfl
    have d2 := sep_ceAt (i := 2) HS11.out rfl 2 rfl
    have d3 := sep_ceAt (i := 2) HS11.out rfl 3 rfl
    have d4 := sep_ceAt (i := 2) HS11.out rfl 4 rfl
    have d5 := sep_ceAt (i := 2) HS11.out rfl 5 rfl
    have d6 := sep_ceAt (i := 2) HS11.out rfl 6 rfl
    have d7 := sep_ceAt (i := 2) HS11.out rfl 7 rfl
    have d8 := sep_ceAt (i := 2) HS11.out rfl 8 rfl
    have d9 := sep_ceAt (i := 2) HS11.out rfl 9 rfl
    have d10 := sep_ceAt (i := 2) HS11.out rfl 10 rfl
    have f7 := sep_ceFrozen (i := 2) HS11.out rfl 7
    obtain ⟨Ab, cb, pa, pb, _, pc, _, _, _⟩ := sep_riAt (i := 1) HS11.out rfl
    clear HS11
    obtain ⟨Ar, cr, qa, qb, _, _, _, _, _⟩ := sep_riAt (i := 1) HS12.out rfl
    cases hbd : t5.2 with
    | true =>
      have HNO : Hid (rEnd s5.1 s5.2 = true) := Lib.hid (by rw [← HT.out.1, hbd]; exact rEnd_bad _)
      rw [hbd] at qb
      clear hbd
      go_wp2_with fail
      obtain ⟨_, hs2⟩ := sep_put11 (i := 0) HS12.out rfl (.int .i64 0) (.int .i64 0) (.int .u64 0) (.int .u64 0) (.int .i64 0) (.int .u64 0) (.int .u64 0) (.slice none 0 0) (.int .u64 0) (.slice none 0 0) (.bool false)
      refine bodyPost_ret (v := .tuple #[.agg #[.int .i64 0, .int .i64 0, .int .u64 0, .int .u64 0, .int .i64 0, .int .u64 0, .int .u64 0, .slice none 0 0, .int .u64 0, .slice none 0 0, .bool false], .int .i64 3]) (by simp [results, Try.results19, go_sem, k0, k1, k2, k3, k4, k5, k6, k7, k8, k9, k10]) rfl ?_
      exact decsR_no HW.out (.inl HNO.out) hs2.bel
    | false =>
      have HSF : Hid (s5.2 = false) := Lib.hid (by rw [← HT.out.1]; exact hbd)
      have HEQ : Hid (t5 = s5) := Lib.hid (HT.out.2 HSF.out)
      rw [hbd] at qb
      clear hbd
      by_cases hle : 0 < t5.1.length
      · have HNO : Hid (rEnd s5.1 s5.2 = true) := Lib.hid (by rw [← HEQ.out]; exact rEnd_left _ hle)
        go_wp2_with fail
        obtain ⟨_, hs2⟩ := sep_put11 (i := 0) HS12.out rfl (.int .i64 0) (.int .i64 0) (.int .u64 0) (.int .u64 0) (.int .i64 0) (.int .u64 0) (.int .u64 0) (.slice none 0 0) (.int .u64 0) (.slice none 0 0) (.bool false)
        refine bodyPost_ret (v := .tuple #[.agg #[.int .i64 0, .int .i64 0, .int .u64 0, .int .u64 0, .int .i64 0, .int .u64 0, .int .u64 0, .slice none 0 0, .int .u64 0, .slice none 0 0, .bool false], .int .i64 3]) (by simp [results, Try.results19, go_sem, k0, k1, k2, k3, k4, k5, k6, k7, k8, k9, k10]) rfl ?_
        exact decsR_no HW.out (.inl HNO.out) hs2.bel
      · have HOK : Hid (rEnd s5.1 s5.2 = false) := Lib.hid (by rw [HSF.out, ← HEQ.out]; exact rEnd_ok hle)
        go_wp2_with fail
        clear z0 z1 z2 z3 z4 z5 z6 z7 z8 z9 z10 k0 k1 k2 k3 k4 k5 k6 k7 k8 k9 k10 y0 y1 y2 y3 y4 y5 y6 y7 y8 y9 y10 qa qb a0 a1 a2 a3 a4 a5 a6 a7 a8 a9 a10 c0 c1 c2 c3 c4 c5 c6 c7 c8 c9 c10 d0 d1 d2 d3 d4 d5 d6 d7 d8 d9 d10 f7 pa pb pc
        cases hmy : (Lt.mk kk nn pi rr sn si n T 0 [] false).may with
        | true =>
          have HMY := Lib.hid hmy
          clear hmy
          refine (ref10MayL (w := (w11.setCell ⟨g3, 7, none⟩ (.slice A7 T.length c7))) (B := (w11.setCell ⟨g3, 7, none⟩ (.slice A7 T.length c7)).heap.size) (x := (Lt.mk kk nn pi rr sn si n T 0 [] false)) (A := A7) (A2 := none) (c := c7) (c2 := 0) HMY.out Has.nil (Nat.le_refl _) (by show T.length ≤ _; omega) (by simp) (by simp)).mono ?_
          rintro e u9 ⟨rfl, hb9⟩
          have HS9 := Lib.hid (HS12.out.grow hb9)
          clear HS12 hb9
          have k0 := sep_ceAt (i := 0) HS9.out rfl 0 rfl
          have k1 := sep_ceAt (i := 0) HS9.out rfl 1 rfl
          have k2 := sep_ceAt (i := 0) HS9.out rfl 2 rfl
          have k3 := sep_ceAt (i := 0) HS9.out rfl 3 rfl
          have k4 := sep_ceAt (i := 0) HS9.out rfl 4 rfl
          have k5 := sep_ceAt (i := 0) HS9.out rfl 5 rfl
          have k6 := sep_ceAt (i := 0) HS9.out rfl 6 rfl
          have k7 := sep_ceAt (i := 0) HS9.out rfl 7 rfl
          have k8 := sep_ceAt (i := 0) HS9.out rfl 8 rfl
          have k9 := sep_ceAt (i := 0) HS9.out rfl 9 rfl
          have k10 := sep_ceAt (i := 0) HS9.out rfl 10 rfl
          have y0 := sep_ceFrozen (i := 0) HS9.out rfl 0
          have y1 := sep_ceFrozen (i := 0) HS9.out rfl 1
          have y2 := sep_ceFrozen (i := 0) HS9.out rfl 2
          have y3 := sep_ceFrozen (i := 0) HS9.out rfl 3
          have y4 := sep_ceFrozen (i := 0) HS9.out rfl 4
          have y5 := sep_ceFrozen (i := 0) HS9.out rfl 5
          have y6 := sep_ceFrozen (i := 0) HS9.out rfl 6
          have y7 := sep_ceFrozen (i := 0) HS9.out rfl 7
          have y8 := sep_ceFrozen (i := 0) HS9.out rfl 8
          have y9 := sep_ceFrozen (i := 0) HS9.out rfl 9
          have y10 := sep_ceFrozen (i := 0) HS9.out rfl 10
          have z0 := sep_ceAt (i := 2) HS9.out rfl 0 rfl
          have z1 := sep_ceAt (i := 2) HS9.out rfl 1 rfl
          have z2 := sep_ceAt (i := 2) HS9.out rfl 2 rfl
          have z3 := sep_ceAt (i := 2) HS9.out rfl 3 rfl
          have z4 := sep_ceAt (i := 2) HS9.out rfl 4 rfl
          have z5 := sep_ceAt (i := 2) HS9.out rfl 5 rfl
          have z6 := sep_ceAt (i := 2) HS9.out rfl 6 rfl
          have z7 := sep_ceAt (i := 2) HS9.out rfl 7 rfl
          have z8 := sep_ceAt (i := 2) HS9.out rfl 8 rfl
          have z9 := sep_ceAt (i := 2) HS9.out rfl 9 rfl
          have z10 := sep_ceAt (i := 2) HS9.out rfl 10 rfl
          go_wp2_with fail
          obtain ⟨_, hs2⟩ := sep_put11 (i := 0) HS9.out rfl (.int .i64 (kk : Int)) (.int .i64 (nn : Int)) (.int .u64 (pi : Int)) (.int .u64 (rr : Int)) (.int .i64 (sn : Int)) (.int .u64 (si : Int)) (.int .u64 (n : Int)) (.slice A7 T.length c7) (.int .u64 0) (.slice none 0 0) (.bool false)
          refine bodyPost_ret (v := .tuple #[.agg #[.int .i64 (kk : Int), .int .i64 (nn : Int), .int .u64 (pi : Int), .int .u64 (rr : Int), .int .i64 (sn : Int), .int .u64 (si : Int), .int .u64 (n : Int), .slice A7 T.length c7, .int .u64 0, .slice none 0 0, .bool false], .int .i64 0]) (by simp [results, Try.results19, go_sem, k0, k1, k2, k3, k4, k5, k6, k7, k8, k9, k10]) rfl ?_
          exact .inl ⟨(Lt.mk kk nn pi rr sn si n T 0 [] false), A7, c7, none, 0, (isLt_rd b _).2 ⟨by rw [HW.out]; exact HOK.out, by rw [← HF.out HSF.out]; exact HMY.out, HF.out HSF.out⟩, rfl, (sep_byHas (i := 3) hs2 rfl), Has.nil, hs2.bel⟩
        | false =>
          have HMY := Lib.hid hmy
          clear hmy
          refine (ref10MayL (w := (w11.setCell ⟨g3, 7, none⟩ (.slice A7 T.length c7))) (B := (w11.setCell ⟨g3, 7, none⟩ (.slice A7 T.length c7)).heap.size) (x := (Lt.mk kk nn pi rr sn si n T 0 [] false)) (A := A7) (A2 := none) (c := c7) (c2 := 0) HMY.out Has.nil (Nat.le_refl _) (by show T.length ≤ _; omega) (by simp) (by simp)).mono ?_
          rintro e u9 ⟨rfl, hb9⟩
          have HS9 := Lib.hid (HS12.out.grow hb9)
          clear HS12 hb9
          have k0 := sep_ceAt (i := 0) HS9.out rfl 0 rfl
          have k1 := sep_ceAt (i := 0) HS9.out rfl 1 rfl
          have k2 := sep_ceAt (i := 0) HS9.out rfl 2 rfl
          have k3 := sep_ceAt (i := 0) HS9.out rfl 3 rfl
          have k4 := sep_ceAt (i := 0) HS9.out rfl 4 rfl
          have k5 := sep_ceAt (i := 0) HS9.out rfl 5 rfl
          have k6 := sep_ceAt (i := 0) HS9.out rfl 6 rfl
          have k7 := sep_ceAt (i := 0) HS9.out rfl 7 rfl
          have k8 := sep_ceAt (i := 0) HS9.out rfl 8 rfl
          have k9 := sep_ceAt (i := 0) HS9.out rfl 9 rfl
          have k10 := sep_ceAt (i := 0) HS9.out rfl 10 rfl
          have y0 := sep_ceFrozen (i := 0) HS9.out rfl 0
          have y1 := sep_ceFrozen (i := 0) HS9.out rfl 1
          have y2 := sep_ceFrozen (i := 0) HS9.out rfl 2
          have y3 := sep_ceFrozen (i := 0) HS9.out rfl 3
          have y4 := sep_ceFrozen (i := 0) HS9.out rfl 4
          have y5 := sep_ceFrozen (i := 0) HS9.out rfl 5
          have y6 := sep_ceFrozen (i := 0) HS9.out rfl 6
          have y7 := sep_ceFrozen (i := 0) HS9.out rfl 7
          have y8 := sep_ceFrozen (i := 0) HS9.out rfl 8
          have y9 := sep_ceFrozen (i := 0) HS9.out rfl 9
          have y10 := sep_ceFrozen (i := 0) HS9.out rfl 10
          go_wp2_with fail
          obtain ⟨_, hs2⟩ := sep_put11 (i := 0) HS9.out rfl (.int .i64 0) (.int .i64 0) (.int .u64 0) (.int .u64 0) (.int .i64 0) (.int .u64 0) (.int .u64 0) (.slice none 0 0) (.int .u64 0) (.slice none 0 0) (.bool false)
          refine bodyPost_ret (v := .tuple #[.agg #[.int .i64 0, .int .i64 0, .int .u64 0, .int .u64 0, .int .i64 0, .int .u64 0, .int .u64 0, .slice none 0 0, .int .u64 0, .slice none 0 0, .bool false], .int .i64 3]) (by simp [results, Try.results19, go_sem, k0, k1, k2, k3, k4, k5, k6, k7, k8, k9, k10]) rfl ?_
          exact decsR_no HW.out (.inr (by rw [← HF.out HSF.out]; exact HMY.out)) hs2.bel
  by_cases q8 : kk = 8
  · have e7 : (((kk : Nat) : Int) == 7) = false := by simp <;> omega
    have e8 : (((kk : Nat) : Int) == 8) = true := by simp <;> omega
    have e9 : (((kk : Nat) : Int) == 9) = false := by simp <;> omega
    have Q7 := Lib.hid q7
    have Q8 := Lib.hid q8
    clear q7 q8
    go_wp2_with fail
    have hs8 := sep_ceSet (i := 2) HS7.out rfl 3 (.int .u64 (rr : Int))
    have hs8 := sep_ceSet (i := 2) hs8 rfl 4 (.int .i64 (sn : Int))
    have hs8 := sep_ceSet (i := 2) hs8 rfl 5 (.int .u64 (si : Int))
    obtain ⟨w8, HW8⟩ : ∃ W, Hid (((w7.setCell ⟨g3, 3, none⟩ (.int .u64 (rr : Int))).setCell ⟨g3, 4, none⟩ (.int .i64 (sn : Int))).setCell ⟨g3, 5, none⟩ (.int .u64 (si : Int)) = W) := ⟨_, Lib.hid rfl⟩
    rw [HW8.out] at hs8 ⊢
    have HS8 := Lib.hid (show Sep w w8 [Ce w.heap.size 30 #[.int .i64 0, .int .i64 0, .int .u64 0, .int .u64 0, .int .i64 0, .int .u64 0, .int .u64 0, .slice none 0 0, .int .u64 0, .slice none 0 0, .bool false], Ri w g2 t3, Ce g3 30 #[.int .i64 (kk : Int), .int .i64 (nn : Int), .int .u64 (pi : Int), .int .u64 (rr : Int), .int .i64 (sn : Int), .int .u64 (si : Int), .int .u64 0, .slice none 0 0, .int .u64 0, .slice none 0 0, .bool false]] from hs8)
    clear hs8 HS7 y3 y4 y5 k3 k4 k5 k0
    refine (sep_iU (i := 1) (s := t3) HS8.out rfl).mono ?_
    rintro e w11 ⟨rfl, t4, hst4, hs11⟩
    have h3 := HT3.out.gU
    rw [← h3.1]
    have hst4 := h3.2 _ hst4
    obtain ⟨n, Hn⟩ : ∃ x, Hid ((gU s3).1 = x) := ⟨_, Lib.hid rfl⟩
    obtain ⟨s4, Hs4⟩ : ∃ x, Hid ((gU s3).2 = x) := ⟨_, Lib.hid rfl⟩
    have HN : Hid (rdN b = (0, s3)) := Lib.hid (by unfold rdN; rw [HK.out, HI.out, if_neg Q7.out])
    have HB : Hid (rdB b = ([], s3)) := Lib.hid (by unfold rdB; rw [HK.out, HN.out, if_neg Q7.out])
    have HC : Hid (rdC b = (n, s4)) := Lib.hid (by unfold rdC; rw [HK.out, HB.out, if_pos Q8.out, ← Hn.out, ← Hs4.out])
    rw [Hs4.out] at hst4
    have HT4 := Lib.hid hst4
    rw [Hn.out]
    have HS11 := Lib.hid (show Sep w w11 [Ce w.heap.size 30 #[.int .i64 0, .int .i64 0, .int .u64 0, .int .u64 0, .int .i64 0, .int .u64 0, .int .u64 0, .slice none 0 0, .int .u64 0, .slice none 0 0, .bool false], Ri w g2 t4, Ce g3 30 #[.int .i64 (kk : Int), .int .i64 (nn : Int), .int .u64 (pi : Int), .int .u64 (rr : Int), .int .i64 (sn : Int), .int .u64 (si : Int), .int .u64 0, .slice none 0 0, .int .u64 0, .slice none 0 0, .bool false]] from hs11)
    clear hs11 HS8 Hn Hs4 h3 hst4
    have k8 := sep_ceAt (i := 2) HS11.out rfl 8 rfl
    have y8 := sep_ceFrozen (i := 2) HS11.out rfl 8
    have k0 := sep_ceAt (i := 2) HS11.out rfl 0 rfl
    go_wp2_with fail
    have hs12 := sep_ceSet (i := 2) HS11.out rfl 8 (.int .u64 (n : Int))
    obtain ⟨w12, HW12⟩ : ∃ W, Hid (w11.setCell ⟨g3, 8, none⟩ (.int .u64 (n : Int)) = W) := ⟨_, Lib.hid rfl⟩
    rw [HW12.out] at hs12 ⊢
    have HS12 := Lib.hid (show Sep w w12 [Ce w.heap.size 30 #[.int .i64 0, .int .i64 0, .int .u64 0, .int .u64 0, .int .i64 0, .int .u64 0, .int .u64 0, .slice none 0 0, .int .u64 0, .slice none 0 0, .bool false], Ri w g2 t4, Ce g3 30 #[.int .i64 (kk : Int), .int .i64 (nn : Int), .int .u64 (pi : Int), .int .u64 (rr : Int), .int .i64 (sn : Int), .int .u64 (si : Int), .int .u64 0, .slice none 0 0, .int .u64 (n : Int), .slice none 0 0, .bool false]] from hs12)
    clear hs12 HS11 k8 y8 k0
    refine (sep_i8 (i := 1) (s := t4) HS12.out rfl).mono ?_
    rintro e w20 ⟨rfl, hs20⟩
    have h3 := HT4.out.g8
    rw [← h3.1]
    have hcnt := g8_lt s4
    obtain ⟨cnt, Hcnt⟩ : ∃ x, Hid ((g8 s4).1 = x) := ⟨_, Lib.hid rfl⟩
    obtain ⟨sC, HsC⟩ : ∃ x, Hid ((g8 s4).2 = x) := ⟨_, Lib.hid rfl⟩
    obtain ⟨tC, HtC⟩ : ∃ x, Hid ((g8 t4).2 = x) := ⟨_, Lib.hid rfl⟩
    have HTC : Hid (St sC tC) := Lib.hid (by rw [← HsC.out]; exact h3.2 _ (by rw [HtC.out]; exact St.refl _))
    have HgC : Hid (gC s4 = gL cnt sC) := Lib.hid (by unfold gC; rw [Hcnt.out, HsC.out])
    rw [Hcnt.out] at hcnt ⊢
    rw [HtC.out] at hs20
    have HS20 := Lib.hid (show Sep w w20 [Ce w.heap.size 30 #[.int .i64 0, .int .i64 0, .int .u64 0, .int .u64 0, .int .i64 0, .int .u64 0, .int .u64 0, .slice none 0 0, .int .u64 0, .slice none 0 0, .bool false], Ri w g2 tC, Ce g3 30 #[.int .i64 (kk : Int), .int .i64 (nn : Int), .int .u64 (pi : Int), .int .u64 (rr : Int), .int .i64 (sn : Int), .int .u64 (si : Int), .int .u64 0, .slice none 0 0, .int .u64 (n : Int), .slice none 0 0, .bool false], Uv (.slice none 0 0) []] from sep_uvNil hs20)
    clear hs20 HS12 h3 Hcnt HsC HtC
    go_wp2_with fail
    go_loopw [7] (fun iv wr => ∃ (k : Nat) (SA : Option Addr) (sc : Nat) (l : List Nat) (t : Rs), k ≤ cnt ∧ iv = .int .i64 (k : Int) ∧ l.length = k ∧ Hid (Sep w wr [Ce w.heap.size 30 #[.int .i64 0, .int .i64 0, .int .u64 0, .int .u64 0, .int .i64 0, .int .u64 0, .int .u64 0, .slice none 0 0, .int .u64 0, .slice none 0 0, .bool false], Ri w g2 t, Ce g3 30 #[.int .i64 (kk : Int), .int .i64 (nn : Int), .int .u64 (pi : Int), .int .u64 (rr : Int), .int .i64 (sn : Int), .int .u64 (si : Int), .int .u64 0, .slice none 0 0, .int .u64 (n : Int), .slice SA l.length sc, .bool false], Uv (.slice SA l.length sc) l]) ∧ Hid (St (gL k sC).2 t ∧ ((gL k sC).2.2 = false → l = (gL k sC).1) ∧ ∀ y ∈ l, y < 256)) (fun iv _ => cnt - (intOf iv).toNat)
    case atStart => exact ⟨0, none, 0, [], tC, by omega, rfl, rfl, HS20, Lib.hid ⟨HTC.out, fun _ => rfl, fun y hy => by cases hy⟩⟩
    case round =>
      obtain ⟨k, SA, sc, l, t, hk, rfl, hll, HSL, HR⟩ := hrel
      obtain ⟨Ab, cb, _, qb, _, _, _, _, _⟩ := sep_riAt (i := 1) HSL.out rfl
      have k0 := sep_ceAt (i := 2) HSL.out rfl 0 rfl
      by_cases hkt : k < cnt
      · cases hbt : t.2 with
        | false =>
          rw [hbt] at qb
          have HLL := Lib.hid hll
          have HEQ : Hid (t = (gL k sC).2 ∧ l = (gL k sC).1) := Lib.hid (by
            have h1 : (gL k sC).2.2 = false := by rw [← HR.out.1.1]; exact hbt
            exact ⟨HR.out.1.2 h1, HR.out.2.1 h1⟩)
          clear hbt hll
          go_wp2_with fail
          clear qb k0
          refine (sep_i8 (i := 1) (s := t) HSL.out rfl).mono ?_
          rintro e w21 ⟨rfl, hs21⟩
          have hx := g8_lt t
          obtain ⟨x, Hx⟩ : ∃ y, Hid ((g8 t).1 = y) := ⟨_, Lib.hid rfl⟩
          obtain ⟨t', Ht'⟩ : ∃ y, Hid ((g8 t).2 = y) := ⟨_, Lib.hid rfl⟩
          rw [Hx.out] at hx ⊢
          rw [Ht'.out] at hs21
          have HS21 := Lib.hid (show Sep w w21 [Ce w.heap.size 30 #[.int .i64 0, .int .i64 0, .int .u64 0, .int .u64 0, .int .i64 0, .int .u64 0, .int .u64 0, .slice none 0 0, .int .u64 0, .slice none 0 0, .bool false], Ri w g2 t', Ce g3 30 #[.int .i64 (kk : Int), .int .i64 (nn : Int), .int .u64 (pi : Int), .int .u64 (rr : Int), .int .i64 (sn : Int), .int .u64 (si : Int), .int .u64 0, .slice none 0 0, .int .u64 (n : Int), .slice SA l.length sc, .bool false], Uv (.slice SA l.length sc) l] from hs21)
          clear hs21 HSL
          have HNX : Hid (gL (k + 1) sC = (l ++ [x], t')) := Lib.hid (by rw [gL_snoc, ← HEQ.out.1, ← HEQ.out.2, Hx.out, Ht'.out])
          have HLT : Hid (∀ y ∈ l ++ [x], y < 256) := Lib.hid (fun y hy => by
            rcases List.mem_append.1 hy with h | h
            · exact HR.out.2.2 y h
            · rw [List.mem_singleton.1 h]; exact hx)
          obtain ⟨l', HL'⟩ : ∃ y, Hid (l ++ [x] = y) := ⟨_, Lib.hid rfl⟩
          have HLL' : Hid (l'.length = k + 1) := Lib.hid (by rw [← HL'.out, List.length_append, HLL.out]; rfl)
          have m1 : ((x : Nat) : Int) % 18446744073709551616 = (x : Int) := by omega
          have HU := Lib.hid (show u64s [x] = [.int .u64 (x : Int)] from rfl)
          have k9 := sep_ceAt (i := 2) HS21.out rfl 9 rfl
          have hlb : l.length ≤ 300 := by rw [HLL.out]; omega
          go_wp2_with (at_builtin; go_must (refine sep_appU (i := 3) (c := 1) (A := some ⟨w21.heap.size, 0, none⟩) (m := [x]) rfl rfl (by rfl) (by rfl) (HS21.out.alloc _) rfl (has_new w21 #[.int .u64 (x : Int)] 22) (by simp; omega) ?_); intro v22 w22 hs22
                       have HS22 : Hid (Sep w w22 [Ce w.heap.size 30 #[.int .i64 0, .int .i64 0, .int .u64 0, .int .u64 0, .int .i64 0, .int .u64 0, .int .u64 0, .slice none 0 0, .int .u64 0, .slice none 0 0, .bool false], Ri w g2 t', Ce g3 30 #[.int .i64 (kk : Int), .int .i64 (nn : Int), .int .u64 (pi : Int), .int .u64 (rr : Int), .int .i64 (sn : Int), .int .u64 (si : Int), .int .u64 0, .slice none 0 0, .int .u64 (n : Int), .slice SA l.length sc, .bool false], Uv v22 l']) := Lib.hid (by rw [← HL'.out]; exact hs22)
                       obtain ⟨SB, sd, rfl, _, _, _⟩ := sep_uvForm (i := 3) HS22.out rfl
                       clear hs22 HS21 k9 m1
                       have k9 := sep_ceAt (i := 2) HS22.out rfl 9 rfl
                       have y9 := sep_ceFrozen (i := 2) HS22.out rfl 9)
          have HS23 := Lib.hid (show Sep w _ [Ce w.heap.size 30 #[.int .i64 0, .int .i64 0, .int .u64 0, .int .u64 0, .int .i64 0, .int .u64 0, .int .u64 0, .slice none 0 0, .int .u64 0, .slice none 0 0, .bool false], Ri w g2 t', Ce g3 30 #[.int .i64 (kk : Int), .int .i64 (nn : Int), .int .u64 (pi : Int), .int .u64 (rr : Int), .int .i64 (sn : Int), .int .u64 (si : Int), .int .u64 0, .slice none 0 0, .int .u64 (n : Int), .slice SB l'.length sd, .bool false], Uv (.slice SB l'.length sd) l'] from sep_ceSet (i := 2) HS22.out rfl 9 (.slice SB l'.length sd))
          go_roundw
          case rel => exact ⟨k + 1, SB, sd, l', t', by omega, by go_num, HLL'.out, HS23, Lib.hid ⟨by rw [HNX.out]; exact St.refl _, fun _ => by rw [HNX.out]; exact HL'.out.symm, by rw [← HL'.out]; exact HLT.out⟩⟩
          case measure => simp [intOf]; omega
        | true =>
          rw [hbt] at qb
          have HX2 : Hid (St (gL cnt sC).2 t ∧ ((gL cnt sC).2.2 = false → l = (gL cnt sC).1)) := Lib.hid (by
            have h1 : (gL k sC).2.2 = true := by rw [← HR.out.1.1]; exact hbt
            have h2 := gL_fault h1 cnt hk
            exact ⟨⟨by rw [hbt, h2], fun e => by rw [h2] at e; cases e⟩, fun e => by rw [h2] at e; cases e⟩)
          have HLT := Lib.hid HR.out.2.2
          have hlb : l.length ≤ 300 := by omega
          obtain ⟨s7, Hs7⟩ : ∃ x, Hid ((gL cnt sC).2 = x) := ⟨_, Lib.hid rfl⟩
          have HX : Hid (rdX b = gL cnt sC) := Lib.hid (by unfold rdX; rw [HK.out, HC.out, if_pos (show kk = 8 ∨ kk = 9 from .inl Q8.out)]; exact HgC.out)
          have HT : Hid (St s7 t) := Lib.hid (by rw [← Hs7.out]; exact HX2.out.1)
          have HW : Hid ((rdW b).2 = s7) := Lib.hid (by unfold rdW; rw [HK.out, HX.out, if_neg (show ¬ kk = 9 by have := Q8.out; omega)]; exact Hs7.out)
          have HF : Hid (s7.2 = false → (Lt.mk kk nn pi rr sn si 0 [] n l false) = rdLt b) := Lib.hid (fun hsf => by
            have hl := HX2.out.2 (by rw [Hs7.out]; exact hsf)
            unfold rdLt rdW
            rw [HK.out, HP.out, HI.out, HN.out, HB.out, HC.out, HX.out, if_neg (show ¬ kk = 9 by have := Q8.out; omega), hl])
          clear hll HX2 Hs7 HX HR
          clear qb k0
          have k0 := sep_ceAt (i := 0) HSL.out rfl 0 rfl
          have k1 := sep_ceAt (i := 0) HSL.out rfl 1 rfl
          have k2 := sep_ceAt (i := 0) HSL.out rfl 2 rfl
          have k3 := sep_ceAt (i := 0) HSL.out rfl 3 rfl
          have k4 := sep_ceAt (i := 0) HSL.out rfl 4 rfl
          have k5 := sep_ceAt (i := 0) HSL.out rfl 5 rfl
          have k6 := sep_ceAt (i := 0) HSL.out rfl 6 rfl
          have k7 := sep_ceAt (i := 0) HSL.out rfl 7 rfl
          have k8 := sep_ceAt (i := 0) HSL.out rfl 8 rfl
          have k9 := sep_ceAt (i := 0) HSL.out rfl 9 rfl
          have k10 := sep_ceAt (i := 0) HSL.out rfl 10 rfl
          have y0 := sep_ceFrozen (i := 0) HSL.out rfl 0
          have y1 := sep_ceFrozen (i := 0) HSL.out rfl 1
          have y2 := sep_ceFrozen (i := 0) HSL.out rfl 2
          have y3 := sep_ceFrozen (i := 0) HSL.out rfl 3
          have y4 := sep_ceFrozen (i := 0) HSL.out rfl 4
          have y5 := sep_ceFrozen (i := 0) HSL.out rfl 5
          have y6 := sep_ceFrozen (i := 0) HSL.out rfl 6
          have y7 := sep_ceFrozen (i := 0) HSL.out rfl 7
          have y8 := sep_ceFrozen (i := 0) HSL.out rfl 8
          have y9 := sep_ceFrozen (i := 0) HSL.out rfl 9
          have y10 := sep_ceFrozen (i := 0) HSL.out rfl 10
          have z0 := sep_ceAt (i := 2) HSL.out rfl 0 rfl
          have z1 := sep_ceAt (i := 2) HSL.out rfl 1 rfl
          have z2 := sep_ceAt (i := 2) HSL.out rfl 2 rfl
          have z3 := sep_ceAt (i := 2) HSL.out rfl 3 rfl
          have z4 := sep_ceAt (i := 2) HSL.out rfl 4 rfl
          have z5 := sep_ceAt (i := 2) HSL.out rfl 5 rfl
          have z6 := sep_ceAt (i := 2) HSL.out rfl 6 rfl
          have z7 := sep_ceAt (i := 2) HSL.out rfl 7 rfl
          have z8 := sep_ceAt (i := 2) HSL.out rfl 8 rfl
          have z9 := sep_ceAt (i := 2) HSL.out rfl 9 rfl
          have z10 := sep_ceAt (i := 2) HSL.out rfl 10 rfl
          obtain ⟨Ar, cr, qa, qb, _, _, _, _, _⟩ := sep_riAt (i := 1) HSL.out rfl
          have HNO : Hid (rEnd s7.1 s7.2 = true) := Lib.hid (by rw [← HT.out.1, hbt]; exact rEnd_bad _)
          rw [hbt] at qb
          clear hbt
          go_wp2_with fail
          obtain ⟨_, hs2⟩ := sep_put11 (i := 0) HSL.out rfl (.int .i64 0) (.int .i64 0) (.int .u64 0) (.int .u64 0) (.int .i64 0) (.int .u64 0) (.int .u64 0) (.slice none 0 0) (.int .u64 0) (.slice none 0 0) (.bool false)
          refine bodyPost_ret (v := .tuple #[.agg #[.int .i64 0, .int .i64 0, .int .u64 0, .int .u64 0, .int .i64 0, .int .u64 0, .int .u64 0, .slice none 0 0, .int .u64 0, .slice none 0 0, .bool false], .int .i64 3]) (by simp [results, Try.results19, go_sem, k0, k1, k2, k3, k4, k5, k6, k7, k8, k9, k10]) rfl ?_
          exact decsR_no HW.out (.inl HNO.out) hs2.bel
      · have HX2 : Hid (St (gL cnt sC).2 t ∧ ((gL cnt sC).2.2 = false → l = (gL cnt sC).1)) := Lib.hid (by
          have e : k = cnt := by omega
          rw [← e]
          exact ⟨HR.out.1, HR.out.2.1⟩)
        have HLT := Lib.hid HR.out.2.2
        have hlb : l.length ≤ 300 := by omega
        obtain ⟨s7, Hs7⟩ : ∃ x, Hid ((gL cnt sC).2 = x) := ⟨_, Lib.hid rfl⟩
        have HX : Hid (rdX b = gL cnt sC) := Lib.hid (by unfold rdX; rw [HK.out, HC.out, if_pos (show kk = 8 ∨ kk = 9 from .inl Q8.out)]; exact HgC.out)
        have HT : Hid (St s7 t) := Lib.hid (by rw [← Hs7.out]; exact HX2.out.1)
        have HW : Hid ((rdW b).2 = s7) := Lib.hid (by unfold rdW; rw [HK.out, HX.out, if_neg (show ¬ kk = 9 by have := Q8.out; omega)]; exact Hs7.out)
        have HF : Hid (s7.2 = false → (Lt.mk kk nn pi rr sn si 0 [] n l false) = rdLt b) := Lib.hid (fun hsf => by
          have hl := HX2.out.2 (by rw [Hs7.out]; exact hsf)
          unfold rdLt rdW
          rw [HK.out, HP.out, HI.out, HN.out, HB.out, HC.out, HX.out, if_neg (show ¬ kk = 9 by have := Q8.out; omega), hl])
        clear hll HX2 Hs7 HX HR
        clear qb k0
        have k0 := sep_ceAt (i := 0) HSL.out rfl 0 rfl
        have k1 := sep_ceAt (i := 0) HSL.out rfl 1 rfl
        have k2 := sep_ceAt (i := 0) HSL.out rfl 2 rfl
        have k3 := sep_ceAt (i := 0) HSL.out rfl 3 rfl
        have k4 := sep_ceAt (i := 0) HSL.out rfl 4 rfl
        have k5 := sep_ceAt (i := 0) HSL.out rfl 5 rfl
        have k6 := sep_ceAt (i := 0) HSL.out rfl 6 rfl
        have k7 := sep_ceAt (i := 0) HSL.out rfl 7 rfl
        have k8 := sep_ceAt (i := 0) HSL.out rfl 8 rfl
        have k9 := sep_ceAt (i := 0) HSL.out rfl 9 rfl
        have k10 := sep_ceAt (i := 0) HSL.out rfl 10 rfl
        have y0 := sep_ceFrozen (i := 0) HSL.out rfl 0
        have y1 := sep_ceFrozen (i := 0) HSL.out rfl 1
        have y2 := sep_ceFrozen (i := 0) HSL.out rfl 2
        have y3 := sep_ceFrozen (i := 0) HSL.out rfl 3
        have y4 := sep_ceFrozen (i := 0) HSL.out rfl 4
        have y5 := sep_ceFrozen (i := 0) HSL.out rfl 5
        have y6 := sep_ceFrozen (i := 0) HSL.out rfl 6
        have y7 := sep_ceFrozen (i := 0) HSL.out rfl 7
        have y8 := sep_ceFrozen (i := 0) HSL.out rfl 8
        have y9 := sep_ceFrozen (i := 0) HSL.out rfl 9
        have y10 := sep_ceFrozen (i := 0) HSL.out rfl 10
        have z0 := sep_ceAt (i := 2) HSL.out rfl 0 rfl
        have z1 := sep_ceAt (i := 2) HSL.out rfl 1 rfl
        have z2 := sep_ceAt (i := 2) HSL.out rfl 2 rfl
        have z3 := sep_ceAt (i := 2) HSL.out rfl 3 rfl
        have z4 := sep_ceAt (i := 2) HSL.out rfl 4 rfl
        have z5 := sep_ceAt (i := 2) HSL.out rfl 5 rfl
        have z6 := sep_ceAt (i := 2) HSL.out rfl 6 rfl
        have z7 := sep_ceAt (i := 2) HSL.out rfl 7 rfl
        have z8 := sep_ceAt (i := 2) HSL.out rfl 8 rfl
        have z9 := sep_ceAt (i := 2) HSL.out rfl 9 rfl
        have z10 := sep_ceAt (i := 2) HSL.out rfl 10 rfl
        obtain ⟨Ar, cr, qa, qb, _, _, _, _, _⟩ := sep_riAt (i := 1) HSL.out rfl
        cases hbd : t.2 with
        | true =>
          have HNO : Hid (rEnd s7.1 s7.2 = true) := Lib.hid (by rw [← HT.out.1, hbd]; exact rEnd_bad _)
          rw [hbd] at qb
          clear hbd
          go_wp2_with fail
          obtain ⟨_, hs2⟩ := sep_put11 (i := 0) HSL.out rfl (.int .i64 0) (.int .i64 0) (.int .u64 0) (.int .u64 0) (.int .i64 0) (.int .u64 0) (.int .u64 0) (.slice none 0 0) (.int .u64 0) (.slice none 0 0) (.bool false)
          refine bodyPost_ret (v := .tuple #[.agg #[.int .i64 0, .int .i64 0, .int .u64 0, .int .u64 0, .int .i64 0, .int .u64 0, .int .u64 0, .slice none 0 0, .int .u64 0, .slice none 0 0, .bool false], .int .i64 3]) (by simp [results, Try.results19, go_sem, k0, k1, k2, k3, k4, k5, k6, k7, k8, k9, k10]) rfl ?_
          exact decsR_no HW.out (.inl HNO.out) hs2.bel
        | false =>
          have HSF : Hid (s7.2 = false) := Lib.hid (by rw [← HT.out.1]; exact hbd)
          have HEQ : Hid (t = s7) := Lib.hid (HT.out.2 HSF.out)
          rw [hbd] at qb
          clear hbd
          by_cases hle : 0 < t.1.length
          · have HNO : Hid (rEnd s7.1 s7.2 = true) := Lib.hid (by rw [← HEQ.out]; exact rEnd_left _ hle)
            go_wp2_with fail
            obtain ⟨_, hs2⟩ := sep_put11 (i := 0) HSL.out rfl (.int .i64 0) (.int .i64 0) (.int .u64 0) (.int .u64 0) (.int .i64 0) (.int .u64 0) (.int .u64 0) (.slice none 0 0) (.int .u64 0) (.slice none 0 0) (.bool false)
            refine bodyPost_ret (v := .tuple #[.agg #[.int .i64 0, .int .i64 0, .int .u64 0, .int .u64 0, .int .i64 0, .int .u64 0, .int .u64 0, .slice none 0 0, .int .u64 0, .slice none 0 0, .bool false], .int .i64 3]) (by simp [results, Try.results19, go_sem, k0, k1, k2, k3, k4, k5, k6, k7, k8, k9, k10]) rfl ?_
            exact decsR_no HW.out (.inl HNO.out) hs2.bel
          · have HOK : Hid (rEnd s7.1 s7.2 = false) := Lib.hid (by rw [HSF.out, ← HEQ.out]; exact rEnd_ok hle)
            go_wp2_with fail
            clear z0 z1 z2 z3 z4 z5 z6 z7 z8 z9 z10 k0 k1 k2 k3 k4 k5 k6 k7 k8 k9 k10 y0 y1 y2 y3 y4 y5 y6 y7 y8 y9 y10 qa qb 
            cases hmy : (Lt.mk kk nn pi rr sn si 0 [] n l false).may with
            | true =>
              have HMY := Lib.hid hmy
              clear hmy
              refine (ref10MayL (w := wr) (B := wr.heap.size) (x := (Lt.mk kk nn pi rr sn si 0 [] n l false)) (A := none) (A2 := SA) (c := 0) (c2 := sc) HMY.out (sep_uvHas (i := 3) HSL.out rfl) (Nat.le_refl _) (by simp) (by show l.length ≤ _; omega) (fun y hy => by have := HLT.out y hy; omega)).mono ?_
              rintro e u9 ⟨rfl, hb9⟩
              have HS9 := Lib.hid (HSL.out.grow hb9)
              clear HSL hb9
              have k0 := sep_ceAt (i := 0) HS9.out rfl 0 rfl
              have k1 := sep_ceAt (i := 0) HS9.out rfl 1 rfl
              have k2 := sep_ceAt (i := 0) HS9.out rfl 2 rfl
              have k3 := sep_ceAt (i := 0) HS9.out rfl 3 rfl
              have k4 := sep_ceAt (i := 0) HS9.out rfl 4 rfl
              have k5 := sep_ceAt (i := 0) HS9.out rfl 5 rfl
              have k6 := sep_ceAt (i := 0) HS9.out rfl 6 rfl
              have k7 := sep_ceAt (i := 0) HS9.out rfl 7 rfl
              have k8 := sep_ceAt (i := 0) HS9.out rfl 8 rfl
              have k9 := sep_ceAt (i := 0) HS9.out rfl 9 rfl
              have k10 := sep_ceAt (i := 0) HS9.out rfl 10 rfl
              have y0 := sep_ceFrozen (i := 0) HS9.out rfl 0
              have y1 := sep_ceFrozen (i := 0) HS9.out rfl 1
              have y2 := sep_ceFrozen (i := 0) HS9.out rfl 2
              have y3 := sep_ceFrozen (i := 0) HS9.out rfl 3
              have y4 := sep_ceFrozen (i := 0) HS9.out rfl 4
              have y5 := sep_ceFrozen (i := 0) HS9.out rfl 5
              have y6 := sep_ceFrozen (i := 0) HS9.out rfl 6
              have y7 := sep_ceFrozen (i := 0) HS9.out rfl 7
              have y8 := sep_ceFrozen (i := 0) HS9.out rfl 8
              have y9 := sep_ceFrozen (i := 0) HS9.out rfl 9
              have y10 := sep_ceFrozen (i := 0) HS9.out rfl 10
              have z0 := sep_ceAt (i := 2) HS9.out rfl 0 rfl
              have z1 := sep_ceAt (i := 2) HS9.out rfl 1 rfl
              have z2 := sep_ceAt (i := 2) HS9.out rfl 2 rfl
              have z3 := sep_ceAt (i := 2) HS9.out rfl 3 rfl
              have z4 := sep_ceAt (i := 2) HS9.out rfl 4 rfl
              have z5 := sep_ceAt (i := 2) HS9.out rfl 5 rfl
              have z6 := sep_ceAt (i := 2) HS9.out rfl 6 rfl
              have z7 := sep_ceAt (i := 2) HS9.out rfl 7 rfl
              have z8 := sep_ceAt (i := 2) HS9.out rfl 8 rfl
              have z9 := sep_ceAt (i := 2) HS9.out rfl 9 rfl
              have z10 := sep_ceAt (i := 2) HS9.out rfl 10 rfl
              go_wp2_with fail
              obtain ⟨_, hs2⟩ := sep_put11 (i := 0) HS9.out rfl (.int .i64 (kk : Int)) (.int .i64 (nn : Int)) (.int .u64 (pi : Int)) (.int .u64 (rr : Int)) (.int .i64 (sn : Int)) (.int .u64 (si : Int)) (.int .u64 0) (.slice none 0 0) (.int .u64 (n : Int)) (.slice SA l.length sc) (.bool false)
              refine bodyPost_ret (v := .tuple #[.agg #[.int .i64 (kk : Int), .int .i64 (nn : Int), .int .u64 (pi : Int), .int .u64 (rr : Int), .int .i64 (sn : Int), .int .u64 (si : Int), .int .u64 0, .slice none 0 0, .int .u64 (n : Int), .slice SA l.length sc, .bool false], .int .i64 0]) (by simp [results, Try.results19, go_sem, k0, k1, k2, k3, k4, k5, k6, k7, k8, k9, k10]) rfl ?_
              exact .inl ⟨(Lt.mk kk nn pi rr sn si 0 [] n l false), none, 0, SA, sc, (isLt_rd b _).2 ⟨by rw [HW.out]; exact HOK.out, by rw [← HF.out HSF.out]; exact HMY.out, HF.out HSF.out⟩, rfl, Has.nil, (sep_uvHas (i := 3) hs2 rfl), hs2.bel⟩
            | false =>
              have HMY := Lib.hid hmy
              clear hmy
              refine (ref10MayL (w := wr) (B := wr.heap.size) (x := (Lt.mk kk nn pi rr sn si 0 [] n l false)) (A := none) (A2 := SA) (c := 0) (c2 := sc) HMY.out (sep_uvHas (i := 3) HSL.out rfl) (Nat.le_refl _) (by simp) (by show l.length ≤ _; omega) (fun y hy => by have := HLT.out y hy; omega)).mono ?_
              rintro e u9 ⟨rfl, hb9⟩
              have HS9 := Lib.hid (HSL.out.grow hb9)
              clear HSL hb9
              have k0 := sep_ceAt (i := 0) HS9.out rfl 0 rfl
              have k1 := sep_ceAt (i := 0) HS9.out rfl 1 rfl
              have k2 := sep_ceAt (i := 0) HS9.out rfl 2 rfl
              have k3 := sep_ceAt (i := 0) HS9.out rfl 3 rfl
              have k4 := sep_ceAt (i := 0) HS9.out rfl 4 rfl
              have k5 := sep_ceAt (i := 0) HS9.out rfl 5 rfl
              have k6 := sep_ceAt (i := 0) HS9.out rfl 6 rfl
              have k7 := sep_ceAt (i := 0) HS9.out rfl 7 rfl
              have k8 := sep_ceAt (i := 0) HS9.out rfl 8 rfl
              have k9 := sep_ceAt (i := 0) HS9.out rfl 9 rfl
              have k10 := sep_ceAt (i := 0) HS9.out rfl 10 rfl
              have y0 := sep_ceFrozen (i := 0) HS9.out rfl 0
              have y1 := sep_ceFrozen (i := 0) HS9.out rfl 1
              have y2 := sep_ceFrozen (i := 0) HS9.out rfl 2
              have y3 := sep_ceFrozen (i := 0) HS9.out rfl 3
              have y4 := sep_ceFrozen (i := 0) HS9.out rfl 4
              have y5 := sep_ceFrozen (i := 0) HS9.out rfl 5
              have y6 := sep_ceFrozen (i := 0) HS9.out rfl 6
              have y7 := sep_ceFrozen (i := 0) HS9.out rfl 7
              have y8 := sep_ceFrozen (i := 0) HS9.out rfl 8
              have y9 := sep_ceFrozen (i := 0) HS9.out rfl 9
              have y10 := sep_ceFrozen (i := 0) HS9.out rfl 10
              go_wp2_with fail
              obtain ⟨_, hs2⟩ := sep_put11 (i := 0) HS9.out rfl (.int .i64 0) (.int .i64 0) (.int .u64 0) (.int .u64 0) (.int .i64 0) (.int .u64 0) (.int .u64 0) (.slice none 0 0) (.int .u64 0) (.slice none 0 0) (.bool false)
              refine bodyPost_ret (v := .tuple #[.agg #[.int .i64 0, .int .i64 0, .int .u64 0, .int .u64 0, .int .i64 0, .int .u64 0, .int .u64 0, .slice none 0 0, .int .u64 0, .slice none 0 0, .bool false], .int .i64 3]) (by simp [results, Try.results19, go_sem, k0, k1, k2, k3, k4, k5, k6, k7, k8, k9, k10]) rfl ?_
              exact decsR_no HW.out (.inr (by rw [← HF.out HSF.out]; exact HMY.out)) hs2.bel
  by_cases q9 : kk = 9
  · have e7 : (((kk : Nat) : Int) == 7) = false := by simp <;> omega
    have e8 : (((kk : Nat) : Int) == 8) = false := by simp <;> omega
    have e9 : (((kk : Nat) : Int) == 9) = true := by simp <;> omega
    have Q7 := Lib.hid q7
    have Q8 := Lib.hid q8
    have Q9 := Lib.hid q9
    clear q7 q8 q9
    go_wp2_with fail
    have hs8 := sep_ceSet (i := 2) HS7.out rfl 3 (.int .u64 (rr : Int))
    have hs8 := sep_ceSet (i := 2) hs8 rfl 4 (.int .i64 (sn : Int))
    have hs8 := sep_ceSet (i := 2) hs8 rfl 5 (.int .u64 (si : Int))
    obtain ⟨w8, HW8⟩ : ∃ W, Hid (((w7.setCell ⟨g3, 3, none⟩ (.int .u64 (rr : Int))).setCell ⟨g3, 4, none⟩ (.int .i64 (sn : Int))).setCell ⟨g3, 5, none⟩ (.int .u64 (si : Int)) = W) := ⟨_, Lib.hid rfl⟩
    rw [HW8.out] at hs8 ⊢
    have HS8 := Lib.hid (show Sep w w8 [Ce w.heap.size 30 #[.int .i64 0, .int .i64 0, .int .u64 0, .int .u64 0, .int .i64 0, .int .u64 0, .int .u64 0, .slice none 0 0, .int .u64 0, .slice none 0 0, .bool false], Ri w g2 t3, Ce g3 30 #[.int .i64 (kk : Int), .int .i64 (nn : Int), .int .u64 (pi : Int), .int .u64 (rr : Int), .int .i64 (sn : Int), .int .u64 (si : Int), .int .u64 0, .slice none 0 0, .int .u64 0, .slice none 0 0, .bool false]] from hs8)
    clear hs8 HS7 y3 y4 y5 k3 k4 k5 k0
    have HN : Hid (rdN b = (0, s3)) := Lib.hid (by unfold rdN; rw [HK.out, HI.out, if_neg Q7.out])
    have HB : Hid (rdB b = ([], s3)) := Lib.hid (by unfold rdB; rw [HK.out, HN.out, if_neg Q7.out])
    have HC : Hid (rdC b = (0, s3)) := Lib.hid (by unfold rdC; rw [HK.out, HB.out, if_neg Q8.out])
    refine (sep_i8 (i := 1) (s := t3) HS8.out rfl).mono ?_
    rintro e w20 ⟨rfl, hs20⟩
    have h3 := HT3.out.g8
    rw [← h3.1]
    have hcnt := g8_lt s3
    obtain ⟨cnt, Hcnt⟩ : ∃ x, Hid ((g8 s3).1 = x) := ⟨_, Lib.hid rfl⟩
    obtain ⟨sC, HsC⟩ : ∃ x, Hid ((g8 s3).2 = x) := ⟨_, Lib.hid rfl⟩
    obtain ⟨tC, HtC⟩ : ∃ x, Hid ((g8 t3).2 = x) := ⟨_, Lib.hid rfl⟩
    have HTC : Hid (St sC tC) := Lib.hid (by rw [← HsC.out]; exact h3.2 _ (by rw [HtC.out]; exact St.refl _))
    have HgC : Hid (gC s3 = gL cnt sC) := Lib.hid (by unfold gC; rw [Hcnt.out, HsC.out])
    rw [Hcnt.out] at hcnt ⊢
    rw [HtC.out] at hs20
    have HS20 := Lib.hid (show Sep w w20 [Ce w.heap.size 30 #[.int .i64 0, .int .i64 0, .int .u64 0, .int .u64 0, .int .i64 0, .int .u64 0, .int .u64 0, .slice none 0 0, .int .u64 0, .slice none 0 0, .bool false], Ri w g2 tC, Ce g3 30 #[.int .i64 (kk : Int), .int .i64 (nn : Int), .int .u64 (pi : Int), .int .u64 (rr : Int), .int .i64 (sn : Int), .int .u64 (si : Int), .int .u64 0, .slice none 0 0, .int .u64 0, .slice none 0 0, .bool false], Uv (.slice none 0 0) []] from sep_uvNil hs20)
    clear hs20 HS8 h3 Hcnt HsC HtC
    go_wp2_with fail
    go_loopw [7] (fun iv wr => ∃ (k : Nat) (SA : Option Addr) (sc : Nat) (l : List Nat) (t : Rs), k ≤ cnt ∧ iv = .int .i64 (k : Int) ∧ l.length = k ∧ Hid (Sep w wr [Ce w.heap.size 30 #[.int .i64 0, .int .i64 0, .int .u64 0, .int .u64 0, .int .i64 0, .int .u64 0, .int .u64 0, .slice none 0 0, .int .u64 0, .slice none 0 0, .bool false], Ri w g2 t, Ce g3 30 #[.int .i64 (kk : Int), .int .i64 (nn : Int), .int .u64 (pi : Int), .int .u64 (rr : Int), .int .i64 (sn : Int), .int .u64 (si : Int), .int .u64 0, .slice none 0 0, .int .u64 0, .slice SA l.length sc, .bool false], Uv (.slice SA l.length sc) l]) ∧ Hid (St (gL k sC).2 t ∧ ((gL k sC).2.2 = false → l = (gL k sC).1) ∧ ∀ y ∈ l, y < 256)) (fun iv _ => cnt - (intOf iv).toNat)
    case atStart => exact ⟨0, none, 0, [], tC, by omega, rfl, rfl, HS20, Lib.hid ⟨HTC.out, fun _ => rfl, fun y hy => by cases hy⟩⟩
    case round =>
      obtain ⟨k, SA, sc, l, t, hk, rfl, hll, HSL, HR⟩ := hrel
      obtain ⟨Ab, cb, _, qb, _, _, _, _, _⟩ := sep_riAt (i := 1) HSL.out rfl
      have k0 := sep_ceAt (i := 2) HSL.out rfl 0 rfl
      by_cases hkt : k < cnt
      · cases hbt : t.2 with
        | false =>
          rw [hbt] at qb
          have HLL := Lib.hid hll
          have HEQ : Hid (t = (gL k sC).2 ∧ l = (gL k sC).1) := Lib.hid (by
            have h1 : (gL k sC).2.2 = false := by rw [← HR.out.1.1]; exact hbt
            exact ⟨HR.out.1.2 h1, HR.out.2.1 h1⟩)
          clear hbt hll
          go_wp2_with fail
          clear qb k0
          refine (sep_i8 (i := 1) (s := t) HSL.out rfl).mono ?_
          rintro e w21 ⟨rfl, hs21⟩
          have hx := g8_lt t
          obtain ⟨x, Hx⟩ : ∃ y, Hid ((g8 t).1 = y) := ⟨_, Lib.hid rfl⟩
          obtain ⟨t', Ht'⟩ : ∃ y, Hid ((g8 t).2 = y) := ⟨_, Lib.hid rfl⟩
          rw [Hx.out] at hx ⊢
          rw [Ht'.out] at hs21
          have HS21 := Lib.hid (show Sep w w21 [Ce w.heap.size 30 #[.int .i64 0, .int .i64 0, .int .u64 0, .int .u64 0, .int .i64 0, .int .u64 0, .int .u64 0, .slice none 0 0, .int .u64 0, .slice none 0 0, .bool false], Ri w g2 t', Ce g3 30 #[.int .i64 (kk : Int), .int .i64 (nn : Int), .int .u64 (pi : Int), .int .u64 (rr : Int), .int .i64 (sn : Int), .int .u64 (si : Int), .int .u64 0, .slice none 0 0, .int .u64 0, .slice SA l.length sc, .bool false], Uv (.slice SA l.length sc) l] from hs21)
          clear hs21 HSL
          have HNX : Hid (gL (k + 1) sC = (l ++ [x], t')) := Lib.hid (by rw [gL_snoc, ← HEQ.out.1, ← HEQ.out.2, Hx.out, Ht'.out])
          have HLT : Hid (∀ y ∈ l ++ [x], y < 256) := Lib.hid (fun y hy => by
            rcases List.mem_append.1 hy with h | h
            · exact HR.out.2.2 y h
            · rw [List.mem_singleton.1 h]; exact hx)
          obtain ⟨l', HL'⟩ : ∃ y, Hid (l ++ [x] = y) := ⟨_, Lib.hid rfl⟩
          have HLL' : Hid (l'.length = k + 1) := Lib.hid (by rw [← HL'.out, List.length_append, HLL.out]; rfl)
          have m1 : ((x : Nat) : Int) % 18446744073709551616 = (x : Int) := by omega
          have HU := Lib.hid (show u64s [x] = [.int .u64 (x : Int)] from rfl)
          have k9 := sep_ceAt (i := 2) HS21.out rfl 9 rfl
          have hlb : l.length ≤ 300 := by rw [HLL.out]; omega
          go_wp2_with (at_builtin; go_must (refine sep_appU (i := 3) (c := 1) (A := some ⟨w21.heap.size, 0, none⟩) (m := [x]) rfl rfl (by rfl) (by rfl) (HS21.out.alloc _) rfl (has_new w21 #[.int .u64 (x : Int)] 22) (by simp; omega) ?_); intro v22 w22 hs22
                       have HS22 : Hid (Sep w w22 [Ce w.heap.size 30 #[.int .i64 0, .int .i64 0, .int .u64 0, .int .u64 0, .int .i64 0, .int .u64 0, .int .u64 0, .slice none 0 0, .int .u64 0, .slice none 0 0, .bool false], Ri w g2 t', Ce g3 30 #[.int .i64 (kk : Int), .int .i64 (nn : Int), .int .u64 (pi : Int), .int .u64 (rr : Int), .int .i64 (sn : Int), .int .u64 (si : Int), .int .u64 0, .slice none 0 0, .int .u64 0, .slice SA l.length sc, .bool false], Uv v22 l']) := Lib.hid (by rw [← HL'.out]; exact hs22)
                       obtain ⟨SB, sd, rfl, _, _, _⟩ := sep_uvForm (i := 3) HS22.out rfl
                       clear hs22 HS21 k9 m1
                       have k9 := sep_ceAt (i := 2) HS22.out rfl 9 rfl
                       have y9 := sep_ceFrozen (i := 2) HS22.out rfl 9)
          have HS23 := Lib.hid (show Sep w _ [Ce w.heap.size 30 #[.int .i64 0, .int .i64 0, .int .u64 0, .int .u64 0, .int .i64 0, .int .u64 0, .int .u64 0, .slice none 0 0, .int .u64 0, .slice none 0 0, .bool false], Ri w g2 t', Ce g3 30 #[.int .i64 (kk : Int), .int .i64 (nn : Int), .int .u64 (pi : Int), .int .u64 (rr : Int), .int .i64 (sn : Int), .int .u64 (si : Int), .int .u64 0, .slice none 0 0, .int .u64 0, .slice SB l'.length sd, .bool false], Uv (.slice SB l'.length sd) l'] from sep_ceSet (i := 2) HS22.out rfl 9 (.slice SB l'.length sd))
          go_roundw
          case rel => exact ⟨k + 1, SB, sd, l', t', by omega, by go_num, HLL'.out, HS23, Lib.hid ⟨by rw [HNX.out]; exact St.refl _, fun _ => by rw [HNX.out]; exact HL'.out.symm, by rw [← HL'.out]; exact HLT.out⟩⟩
          case measure => simp [intOf]; omega
        | true =>
          rw [hbt] at qb
          have HX2 : Hid (St (gL cnt sC).2 t ∧ ((gL cnt sC).2.2 = false → l = (gL cnt sC).1)) := Lib.hid (by
            have h1 : (gL k sC).2.2 = true := by rw [← HR.out.1.1]; exact hbt
            have h2 := gL_fault h1 cnt hk
            exact ⟨⟨by rw [hbt, h2], fun e => by rw [h2] at e; cases e⟩, fun e => by rw [h2] at e; cases e⟩)
          have HLT := Lib.hid HR.out.2.2
          have hlb : l.length ≤ 300 := by omega
          obtain ⟨s7, Hs7⟩ : ∃ x, Hid ((gL cnt sC).2 = x) := ⟨_, Lib.hid rfl⟩
          have HX : Hid (rdX b = gL cnt sC) := Lib.hid (by unfold rdX; rw [HK.out, HC.out, if_pos (show kk = 8 ∨ kk = 9 from .inr Q9.out)]; exact HgC.out)
          have HT7 : Hid (St s7 t) := Lib.hid (by rw [← Hs7.out]; exact HX2.out.1)
          have HLX : Hid (s7.2 = false → l = (gL cnt sC).1) := Lib.hid (by rw [← Hs7.out]; exact HX2.out.2)
          go_wp2_with fail
          clear qb k0 hll HX2 HR
          refine (sep_i8 (i := 1) (s := t) HSL.out rfl).mono ?_
          rintro e w30 ⟨rfl, hs30⟩
          have h3 := HT7.out.g8
          rw [← h3.1]
          have hwl := g8_lt s7
          obtain ⟨wv, Hwv⟩ : ∃ y, Hid ((g8 s7).1 = y) := ⟨_, Lib.hid rfl⟩
          obtain ⟨s8, Hs8⟩ : ∃ y, Hid ((g8 s7).2 = y) := ⟨_, Lib.hid rfl⟩
          obtain ⟨t8, Ht8⟩ : ∃ y, Hid ((g8 t).2 = y) := ⟨_, Lib.hid rfl⟩
          have HT8 : Hid (St s8 t8) := Lib.hid (by rw [← Hs8.out]; exact h3.2 _ (by rw [Ht8.out]; exact St.refl _))
          have HS78 : Hid (s8.2 = false → s7.2 = false) := Lib.hid (fun e => by
            cases hq : s7.2 with
            | false => rfl
            | true =>
              obtain ⟨l7, b7⟩ := s7
              simp only at hq
              subst hq
              rw [← Hs8.out, g8_fault l7 true (.inl rfl)] at e
              cases e)
          rw [Hwv.out] at hwl ⊢
          rw [Ht8.out] at hs30
          have HS30 := Lib.hid (show Sep w w30 [Ce w.heap.size 30 #[.int .i64 0, .int .i64 0, .int .u64 0, .int .u64 0, .int .i64 0, .int .u64 0, .int .u64 0, .slice none 0 0, .int .u64 0, .slice none 0 0, .bool false], Ri w g2 t8, Ce g3 30 #[.int .i64 (kk : Int), .int .i64 (nn : Int), .int .u64 (pi : Int), .int .u64 (rr : Int), .int .i64 (sn : Int), .int .u64 (si : Int), .int .u64 0, .slice none 0 0, .int .u64 0, .slice SA l.length sc, .bool false], Uv (.slice SA l.length sc) l] from hs30)
          obtain ⟨wb, Hwb⟩ : ∃ y, Hid ((((wv : Nat) : Int) == 1) = y) := ⟨_, Lib.hid rfl⟩
          have ew := Hwb.out
          have HWB : Hid (decide (wv = 1) = wb) := Lib.hid (by rw [← Hwb.out]; by_cases h : wv = 1 <;> simp [h] <;> omega)
          have HW0 : Hid (rdW b = (wb, s8.1, s8.2 || decide (1 < wv))) := Lib.hid (by unfold rdW gW; rw [HK.out, HX.out, if_pos Q9.out, Hs7.out, Hwv.out, Hs8.out, HWB.out])
          clear hs30 HSL h3 Hs8 Ht8 Hwv Hwb HWB
          have HS31 := Lib.hid (show Sep w (w30.setCell ⟨g3, 10, none⟩ (.bool wb)) [Ce w.heap.size 30 #[.int .i64 0, .int .i64 0, .int .u64 0, .int .u64 0, .int .i64 0, .int .u64 0, .int .u64 0, .slice none 0 0, .int .u64 0, .slice none 0 0, .bool false], Ri w g2 t8, Ce g3 30 #[.int .i64 (kk : Int), .int .i64 (nn : Int), .int .u64 (pi : Int), .int .u64 (rr : Int), .int .i64 (sn : Int), .int .u64 (si : Int), .int .u64 0, .slice none 0 0, .int .u64 0, .slice SA l.length sc, .bool wb], Uv (.slice SA l.length sc) l] from sep_ceSet (i := 2) HS30.out rfl 10 (.bool wb))
          obtain ⟨Ab9, cb9, _, qb9, _, yb9, _, _, _⟩ := sep_riAt (i := 1) HS31.out rfl
          obtain ⟨fb, HFB⟩ : ∃ y, Hid ((t8.2 || decide ((1 : Int) < (wv : Int))) = y) := ⟨_, Lib.hid rfl⟩
          cases hb8 : t8.2 with
          | true =>
            rw [hb8] at qb9
            obtain rfl : fb = true := by rw [← HFB.out, hb8]; rfl
            have hs33 := sep_riFlag (i := 1) true HS31.out rfl
            obtain ⟨t9, Ht9⟩ : ∃ y : Rs, Hid ((t8.1, true) = y) := ⟨_, Lib.hid rfl⟩
            obtain ⟨s9, Hs9⟩ : ∃ y : Rs, Hid ((s8.1, s8.2 || decide (1 < wv)) = y) := ⟨_, Lib.hid rfl⟩
            have HW : Hid ((rdW b).2 = s9) := Lib.hid (by rw [HW0.out]; exact Hs9.out)
            have HWV : Hid ((rdW b).1 = wb) := Lib.hid (by rw [HW0.out])
            have HT : Hid (St s9 t9) := Lib.hid (by
              rw [← Hs9.out, ← Ht9.out]
              have h1 := HFB.out
              rw [HT8.out.1] at h1
              have h2 : decide ((1 : Int) < (wv : Int)) = decide (1 < wv) := by rw [decide_eq_decide]; omega
              rw [h2] at h1
              refine ⟨h1.symm, fun e => ?_⟩
              have h3 : s8.2 = false := by simp only at e; cases h : s8.2 <;> simp_all
              rw [HT8.out.2 h3, ← h1])
            have HS33 := Lib.hid (show Sep w ((w30.setCell ⟨g3, 10, none⟩ (.bool wb)).setCell ⟨g2, 1, none⟩ (.bool true)) [Ce w.heap.size 30 #[.int .i64 0, .int .i64 0, .int .u64 0, .int .u64 0, .int .i64 0, .int .u64 0, .int .u64 0, .slice none 0 0, .int .u64 0, .slice none 0 0, .bool false], Ri w g2 t9, Ce g3 30 #[.int .i64 (kk : Int), .int .i64 (nn : Int), .int .u64 (pi : Int), .int .u64 (rr : Int), .int .i64 (sn : Int), .int .u64 (si : Int), .int .u64 0, .slice none 0 0, .int .u64 0, .slice SA l.length sc, .bool wb], Uv (.slice SA l.length sc) l] by rw [← Ht9.out]; exact hs33)
            clear hs33
            have HF : Hid (s9.2 = false → (Lt.mk kk nn pi rr sn si 0 [] 0 l wb) = rdLt b) := Lib.hid (fun hsf => by
              have h3 : s8.2 = false := by rw [← Hs9.out] at hsf; simp only at hsf; cases h : s8.2 <;> simp_all
              have hl := HLX.out (HS78.out h3)
              unfold rdLt
              rw [HK.out, HP.out, HI.out, HN.out, HB.out, HC.out, HX.out, HWV.out, hl])
            clear HFB
            have hbt : t9.2 = true := by rw [← Ht9.out]
            have k0 := sep_ceAt (i := 0) HS33.out rfl 0 rfl
            have k1 := sep_ceAt (i := 0) HS33.out rfl 1 rfl
            have k2 := sep_ceAt (i := 0) HS33.out rfl 2 rfl
            have k3 := sep_ceAt (i := 0) HS33.out rfl 3 rfl
            have k4 := sep_ceAt (i := 0) HS33.out rfl 4 rfl
            have k5 := sep_ceAt (i := 0) HS33.out rfl 5 rfl
            have k6 := sep_ceAt (i := 0) HS33.out rfl 6 rfl
            have k7 := sep_ceAt (i := 0) HS33.out rfl 7 rfl
            have k8 := sep_ceAt (i := 0) HS33.out rfl 8 rfl
            have k9 := sep_ceAt (i := 0) HS33.out rfl 9 rfl
            have k10 := sep_ceAt (i := 0) HS33.out rfl 10 rfl
            have y0 := sep_ceFrozen (i := 0) HS33.out rfl 0
            have y1 := sep_ceFrozen (i := 0) HS33.out rfl 1
            have y2 := sep_ceFrozen (i := 0) HS33.out rfl 2
            have y3 := sep_ceFrozen (i := 0) HS33.out rfl 3
            have y4 := sep_ceFrozen (i := 0) HS33.out rfl 4
            have y5 := sep_ceFrozen (i := 0) HS33.out rfl 5
            have y6 := sep_ceFrozen (i := 0) HS33.out rfl 6
            have y7 := sep_ceFrozen (i := 0) HS33.out rfl 7
            have y8 := sep_ceFrozen (i := 0) HS33.out rfl 8
            have y9 := sep_ceFrozen (i := 0) HS33.out rfl 9
            have y10 := sep_ceFrozen (i := 0) HS33.out rfl 10
            have z0 := sep_ceAt (i := 2) HS33.out rfl 0 rfl
            have z1 := sep_ceAt (i := 2) HS33.out rfl 1 rfl
            have z2 := sep_ceAt (i := 2) HS33.out rfl 2 rfl
            have z3 := sep_ceAt (i := 2) HS33.out rfl 3 rfl
            have z4 := sep_ceAt (i := 2) HS33.out rfl 4 rfl
            have z5 := sep_ceAt (i := 2) HS33.out rfl 5 rfl
            have z6 := sep_ceAt (i := 2) HS33.out rfl 6 rfl
            have z7 := sep_ceAt (i := 2) HS33.out rfl 7 rfl
            have z8 := sep_ceAt (i := 2) HS33.out rfl 8 rfl
            have z9 := sep_ceAt (i := 2) HS33.out rfl 9 rfl
            have z10 := sep_ceAt (i := 2) HS33.out rfl 10 rfl
            have a0 := sep_ceAt (i := 0) HS30.out rfl 0 rfl
            have a1 := sep_ceAt (i := 0) HS30.out rfl 1 rfl
            have a2 := sep_ceAt (i := 0) HS30.out rfl 2 rfl
            have a3 := sep_ceAt (i := 0) HS30.out rfl 3 rfl
            have a4 := sep_ceAt (i := 0) HS30.out rfl 4 rfl
            have a5 := sep_ceAt (i := 0) HS30.out rfl 5 rfl
            have a6 := sep_ceAt (i := 0) HS30.out rfl 6 rfl
            have a7 := sep_ceAt (i := 0) HS30.out rfl 7 rfl
            have a8 := sep_ceAt (i := 0) HS30.out rfl 8 rfl
            have a9 := sep_ceAt (i := 0) HS30.out rfl 9 rfl
            have a10 := sep_ceAt (i := 0) HS30.out rfl 10 rfl
            have c0 := sep_ceFrozen (i := 0) HS30.out rfl 0
            have c1 := sep_ceFrozen (i := 0) HS30.out rfl 1
            have c2 := sep_ceFrozen (i := 0) HS30.out rfl 2
            have c3 := sep_ceFrozen (i := 0) HS30.out rfl 3
            have c4 := sep_ceFrozen (i := 0) HS30.out rfl 4
            have c5 := sep_ceFrozen (i := 0) HS30.out rfl 5
            have c6 := sep_ceFrozen (i := 0) HS30.out rfl 6
            have c7 := sep_ceFrozen (i := 0) HS30.out rfl 7
            have c8 := sep_ceFrozen (i := 0) HS30.out rfl 8
            have c9 := sep_ceFrozen (i := 0) HS30.out rfl 9
            have c10 := sep_ceFrozen (i := 0) HS30.out rfl 10
            have d0 := sep_ceAt (i := 2) HS30.out rfl 0 rfl
            have d1 := sep_ceAt (i := 2) HS30.out rfl 1 rfl
            have d2 := sep_ceAt (i := 2) HS30.out rfl 2 rfl
            have d3 := sep_ceAt (i := 2) HS30.out rfl 3 rfl
            have d4 := sep_ceAt (i := 2) HS30.out rfl 4 rfl
            have d5 := sep_ceAt (i := 2) HS30.out rfl 5 rfl
            have d6 := sep_ceAt (i := 2) HS30.out rfl 6 rfl
            have d7 := sep_ceAt (i := 2) HS30.out rfl 7 rfl
            have d8 := sep_ceAt (i := 2) HS30.out rfl 8 rfl
            have d9 := sep_ceAt (i := 2) HS30.out rfl 9 rfl
            have d10 := sep_ceAt (i := 2) HS30.out rfl 10 rfl
            have f10 := sep_ceFrozen (i := 2) HS30.out rfl 10
            obtain ⟨Ab, cb, pa, pb, _, pc, _, _, _⟩ := sep_riAt (i := 1) HS30.out rfl
            rw [hb8] at pb
            clear HS30 HS31 hb8
            obtain ⟨Ar, cr, qa, qb, _, _, _, _, _⟩ := sep_riAt (i := 1) HS33.out rfl
            have HNO : Hid (rEnd s9.1 s9.2 = true) := Lib.hid (by rw [← HT.out.1, hbt]; exact rEnd_bad _)
            rw [hbt] at qb
            clear hbt
            go_wp2_with fail
            obtain ⟨_, hs2⟩ := sep_put11 (i := 0) HS33.out rfl (.int .i64 0) (.int .i64 0) (.int .u64 0) (.int .u64 0) (.int .i64 0) (.int .u64 0) (.int .u64 0) (.slice none 0 0) (.int .u64 0) (.slice none 0 0) (.bool false)
            refine bodyPost_ret (v := .tuple #[.agg #[.int .i64 0, .int .i64 0, .int .u64 0, .int .u64 0, .int .i64 0, .int .u64 0, .int .u64 0, .slice none 0 0, .int .u64 0, .slice none 0 0, .bool false], .int .i64 3]) (by simp [results, Try.results19, go_sem, k0, k1, k2, k3, k4, k5, k6, k7, k8, k9, k10]) rfl ?_
            exact decsR_no HW.out (.inl HNO.out) hs2.bel
          | false =>
            rw [hb8] at qb9
            have ed : decide ((1 : Int) < (wv : Int)) = fb := by rw [← HFB.out, hb8]; rfl
            have hs33 := sep_riFlag (i := 1) fb HS31.out rfl
            obtain ⟨t9, Ht9⟩ : ∃ y : Rs, Hid ((t8.1, fb) = y) := ⟨_, Lib.hid rfl⟩
            obtain ⟨s9, Hs9⟩ : ∃ y : Rs, Hid ((s8.1, s8.2 || decide (1 < wv)) = y) := ⟨_, Lib.hid rfl⟩
            have HW : Hid ((rdW b).2 = s9) := Lib.hid (by rw [HW0.out]; exact Hs9.out)
            have HWV : Hid ((rdW b).1 = wb) := Lib.hid (by rw [HW0.out])
            have HT : Hid (St s9 t9) := Lib.hid (by
              rw [← Hs9.out, ← Ht9.out]
              have h1 := HFB.out
              rw [HT8.out.1] at h1
              have h2 : decide ((1 : Int) < (wv : Int)) = decide (1 < wv) := by rw [decide_eq_decide]; omega
              rw [h2] at h1
              refine ⟨h1.symm, fun e => ?_⟩
              have h3 : s8.2 = false := by simp only at e; cases h : s8.2 <;> simp_all
              rw [HT8.out.2 h3, ← h1])
            have HS33 := Lib.hid (show Sep w ((w30.setCell ⟨g3, 10, none⟩ (.bool wb)).setCell ⟨g2, 1, none⟩ (.bool fb)) [Ce w.heap.size 30 #[.int .i64 0, .int .i64 0, .int .u64 0, .int .u64 0, .int .i64 0, .int .u64 0, .int .u64 0, .slice none 0 0, .int .u64 0, .slice none 0 0, .bool false], Ri w g2 t9, Ce g3 30 #[.int .i64 (kk : Int), .int .i64 (nn : Int), .int .u64 (pi : Int), .int .u64 (rr : Int), .int .i64 (sn : Int), .int .u64 (si : Int), .int .u64 0, .slice none 0 0, .int .u64 0, .slice SA l.length sc, .bool wb], Uv (.slice SA l.length sc) l] by rw [← Ht9.out]; exact hs33)
            clear hs33
            have HF : Hid (s9.2 = false → (Lt.mk kk nn pi rr sn si 0 [] 0 l wb) = rdLt b) := Lib.hid (fun hsf => by
              have h3 : s8.2 = false := by rw [← Hs9.out] at hsf; simp only at hsf; cases h : s8.2 <;> simp_all
              have hl := HLX.out (HS78.out h3)
              unfold rdLt
              rw [HK.out, HP.out, HI.out, HN.out, HB.out, HC.out, HX.out, HWV.out, hl])
            clear HFB
            have k0 := sep_ceAt (i := 0) HS33.out rfl 0 rfl
            have k1 := sep_ceAt (i := 0) HS33.out rfl 1 rfl
            have k2 := sep_ceAt (i := 0) HS33.out rfl 2 rfl
            have k3 := sep_ceAt (i := 0) HS33.out rfl 3 rfl
            have k4 := sep_ceAt (i := 0) HS33.out rfl 4 rfl
            have k5 := sep_ceAt (i := 0) HS33.out rfl 5 rfl
            have k6 := sep_ceAt (i := 0) HS33.out rfl 6 rfl
            have k7 := sep_ceAt (i := 0) HS33.out rfl 7 rfl
            have k8 := sep_ceAt (i := 0) HS33.out rfl 8 rfl
            have k9 := sep_ceAt (i := 0) HS33.out rfl 9 rfl
            have k10 := sep_ceAt (i := 0) HS33.out rfl 10 rfl
            have y0 := sep_ceFrozen (i := 0) HS33.out rfl 0
            have y1 := sep_ceFrozen (i := 0) HS33.out rfl 1
            have y2 := sep_ceFrozen (i := 0) HS33.out rfl 2
            have y3 := sep_ceFrozen (i := 0) HS33.out rfl 3
            have y4 := sep_ceFrozen (i := 0) HS33.out rfl 4
            have y5 := sep_ceFrozen (i := 0) HS33.out rfl 5
            have y6 := sep_ceFrozen (i := 0) HS33.out rfl 6
            have y7 := sep_ceFrozen (i := 0) HS33.out rfl 7
            have y8 := sep_ceFrozen (i := 0) HS33.out rfl 8
            have y9 := sep_ceFrozen (i := 0) HS33.out rfl 9
            have y10 := sep_ceFrozen (i := 0) HS33.out rfl 10
            have z0 := sep_ceAt (i := 2) HS33.out rfl 0 rfl
            have z1 := sep_ceAt (i := 2) HS33.out rfl 1 rfl
            have z2 := sep_ceAt (i := 2) HS33.out rfl 2 rfl
            have z3 := sep_ceAt (i := 2) HS33.out rfl 3 rfl
            have z4 := sep_ceAt (i := 2) HS33.out rfl 4 rfl
            have z5 := sep_ceAt (i := 2) HS33.out rfl 5 rfl
            have z6 := sep_ceAt (i := 2) HS33.out rfl 6 rfl
            have z7 := sep_ceAt (i := 2) HS33.out rfl 7 rfl
            have z8 := sep_ceAt (i := 2) HS33.out rfl 8 rfl
            have z9 := sep_ceAt (i := 2) HS33.out rfl 9 rfl
            have z10 := sep_ceAt (i := 2) HS33.out rfl 10 rfl
            have a0 := sep_ceAt (i := 0) HS30.out rfl 0 rfl
            have a1 := sep_ceAt (i := 0) HS30.out rfl 1 rfl
            have a2 := sep_ceAt (i := 0) HS30.out rfl 2 rfl
            have a3 := sep_ceAt (i := 0) HS30.out rfl 3 rfl
            have a4 := sep_ceAt (i := 0) HS30.out rfl 4 rfl
            have a5 := sep_ceAt (i := 0) HS30.out rfl 5 rfl
            have a6 := sep_ceAt (i := 0) HS30.out rfl 6 rfl
            have a7 := sep_ceAt (i := 0) HS30.out rfl 7 rfl
            have a8 := sep_ceAt (i := 0) HS30.out rfl 8 rfl
            have a9 := sep_ceAt (i := 0) HS30.out rfl 9 rfl
            have a10 := sep_ceAt (i := 0) HS30.out rfl 10 rfl
            have c0 := sep_ceFrozen (i := 0) HS30.out rfl 0
            have c1 := sep_ceFrozen (i := 0) HS30.out rfl 1
            have c2 := sep_ceFrozen (i := 0) HS30.out rfl 2
            have c3 := sep_ceFrozen (i := 0) HS30.out rfl 3
            have c4 := sep_ceFrozen (i := 0) HS30.out rfl 4
            have c5 := sep_ceFrozen (i := 0) HS30.out rfl 5
            have c6 := sep_ceFrozen (i := 0) HS30.out rfl 6
            have c7 := sep_ceFrozen (i := 0) HS30.out rfl 7
            have c8 := sep_ceFrozen (i := 0) HS30.out rfl 8
            have c9 := sep_ceFrozen (i := 0) HS30.out rfl 9
            have c10 := sep_ceFrozen (i := 0) HS30.out rfl 10
            have d0 := sep_ceAt (i := 2) HS30.out rfl 0 rfl
            have d1 := sep_ceAt (i := 2) HS30.out rfl 1 rfl
            have d2 := sep_ceAt (i := 2) HS30.out rfl 2 rfl
            have d3 := sep_ceAt (i := 2) HS30.out rfl 3 rfl
            have d4 := sep_ceAt (i := 2) HS30.out rfl 4 rfl
            have d5 := sep_ceAt (i := 2) HS30.out rfl 5 rfl
            have d6 := sep_ceAt (i := 2) HS30.out rfl 6 rfl
            have d7 := sep_ceAt (i := 2) HS30.out rfl 7 rfl
            have d8 := sep_ceAt (i := 2) HS30.out rfl 8 rfl
            have d9 := sep_ceAt (i := 2) HS30.out rfl 9 rfl
            have d10 := sep_ceAt (i := 2) HS30.out rfl 10 rfl
            have f10 := sep_ceFrozen (i := 2) HS30.out rfl 10
            obtain ⟨Ab, cb, pa, pb, _, pc, _, _, _⟩ := sep_riAt (i := 1) HS30.out rfl
            rw [hb8] at pb
            clear HS30 HS31 hb8
            obtain ⟨Ar, cr, qa, qb, _, _, _, _, _⟩ := sep_riAt (i := 1) HS33.out rfl
            cases hbd : t9.2 with
            | true =>
              have HNO : Hid (rEnd s9.1 s9.2 = true) := Lib.hid (by rw [← HT.out.1, hbd]; exact rEnd_bad _)
              rw [hbd] at qb
              clear hbd
              go_wp2_with fail
              obtain ⟨_, hs2⟩ := sep_put11 (i := 0) HS33.out rfl (.int .i64 0) (.int .i64 0) (.int .u64 0) (.int .u64 0) (.int .i64 0) (.int .u64 0) (.int .u64 0) (.slice none 0 0) (.int .u64 0) (.slice none 0 0) (.bool false)
              refine bodyPost_ret (v := .tuple #[.agg #[.int .i64 0, .int .i64 0, .int .u64 0, .int .u64 0, .int .i64 0, .int .u64 0, .int .u64 0, .slice none 0 0, .int .u64 0, .slice none 0 0, .bool false], .int .i64 3]) (by simp [results, Try.results19, go_sem, k0, k1, k2, k3, k4, k5, k6, k7, k8, k9, k10]) rfl ?_
              exact decsR_no HW.out (.inl HNO.out) hs2.bel
            | false =>
              have HSF : Hid (s9.2 = false) := Lib.hid (by rw [← HT.out.1]; exact hbd)
              have HEQ : Hid (t9 = s9) := Lib.hid (HT.out.2 HSF.out)
              rw [hbd] at qb
              clear hbd
              by_cases hle : 0 < t9.1.length
              · have HNO : Hid (rEnd s9.1 s9.2 = true) := Lib.hid (by rw [← HEQ.out]; exact rEnd_left _ hle)
                go_wp2_with fail
                obtain ⟨_, hs2⟩ := sep_put11 (i := 0) HS33.out rfl (.int .i64 0) (.int .i64 0) (.int .u64 0) (.int .u64 0) (.int .i64 0) (.int .u64 0) (.int .u64 0) (.slice none 0 0) (.int .u64 0) (.slice none 0 0) (.bool false)
                refine bodyPost_ret (v := .tuple #[.agg #[.int .i64 0, .int .i64 0, .int .u64 0, .int .u64 0, .int .i64 0, .int .u64 0, .int .u64 0, .slice none 0 0, .int .u64 0, .slice none 0 0, .bool false], .int .i64 3]) (by simp [results, Try.results19, go_sem, k0, k1, k2, k3, k4, k5, k6, k7, k8, k9, k10]) rfl ?_
                exact decsR_no HW.out (.inl HNO.out) hs2.bel
              · have HOK : Hid (rEnd s9.1 s9.2 = false) := Lib.hid (by rw [HSF.out, ← HEQ.out]; exact rEnd_ok hle)
                go_wp2_with fail
                clear z0 z1 z2 z3 z4 z5 z6 z7 z8 z9 z10 k0 k1 k2 k3 k4 k5 k6 k7 k8 k9 k10 y0 y1 y2 y3 y4 y5 y6 y7 y8 y9 y10 qa qb a0 a1 a2 a3 a4 a5 a6 a7 a8 a9 a10 c0 c1 c2 c3 c4 c5 c6 c7 c8 c9 c10 d0 d1 d2 d3 d4 d5 d6 d7 d8 d9 d10 f10 pa pb pc qb9 yb9 ew ed
                cases hmy : (Lt.mk kk nn pi rr sn si 0 [] 0 l wb).may with
                | true =>
                  have HMY := Lib.hid hmy
                  clear hmy
                  refine (ref10MayL (w := ((w30.setCell ⟨g3, 10, none⟩ (.bool wb)).setCell ⟨g2, 1, none⟩ (.bool fb))) (B := ((w30.setCell ⟨g3, 10, none⟩ (.bool wb)).setCell ⟨g2, 1, none⟩ (.bool fb)).heap.size) (x := (Lt.mk kk nn pi rr sn si 0 [] 0 l wb)) (A := none) (A2 := SA) (c := 0) (c2 := sc) HMY.out (sep_uvHas (i := 3) HS33.out rfl) (Nat.le_refl _) (by simp) (by show l.length ≤ _; omega) (fun y hy => by have := HLT.out y hy; omega)).mono ?_
                  rintro e u9 ⟨rfl, hb9⟩
                  have HS9 := Lib.hid (HS33.out.grow hb9)
                  clear HS33 hb9
                  have k0 := sep_ceAt (i := 0) HS9.out rfl 0 rfl
                  have k1 := sep_ceAt (i := 0) HS9.out rfl 1 rfl
                  have k2 := sep_ceAt (i := 0) HS9.out rfl 2 rfl
                  have k3 := sep_ceAt (i := 0) HS9.out rfl 3 rfl
                  have k4 := sep_ceAt (i := 0) HS9.out rfl 4 rfl
                  have k5 := sep_ceAt (i := 0) HS9.out rfl 5 rfl
                  have k6 := sep_ceAt (i := 0) HS9.out rfl 6 rfl
                  have k7 := sep_ceAt (i := 0) HS9.out rfl 7 rfl
                  have k8 := sep_ceAt (i := 0) HS9.out rfl 8 rfl
                  have k9 := sep_ceAt (i := 0) HS9.out rfl 9 rfl
                  have k10 := sep_ceAt (i := 0) HS9.out rfl 10 rfl
                  have y0 := sep_ceFrozen (i := 0) HS9.out rfl 0
                  have y1 := sep_ceFrozen (i := 0) HS9.out rfl 1
                  have y2 := sep_ceFrozen (i := 0) HS9.out rfl 2
                  have y3 := sep_ceFrozen (i := 0) HS9.out rfl 3
                  have y4 := sep_ceFrozen (i := 0) HS9.out rfl 4
                  have y5 := sep_ceFrozen (i := 0) HS9.out rfl 5
                  have y6 := sep_ceFrozen (i := 0) HS9.out rfl 6
                  have y7 := sep_ceFrozen (i := 0) HS9.out rfl 7
                  have y8 := sep_ceFrozen (i := 0) HS9.out rfl 8
                  have y9 := sep_ceFrozen (i := 0) HS9.out rfl 9
                  have y10 := sep_ceFrozen (i := 0) HS9.out rfl 10
                  have z0 := sep_ceAt (i := 2) HS9.out rfl 0 rfl
                  have z1 := sep_ceAt (i := 2) HS9.out rfl 1 rfl
                  have z2 := sep_ceAt (i := 2) HS9.out rfl 2 rfl
                  have z3 := sep_ceAt (i := 2) HS9.out rfl 3 rfl
                  have z4 := sep_ceAt (i := 2) HS9.out rfl 4 rfl
                  have z5 := sep_ceAt (i := 2) HS9.out rfl 5 rfl
                  have z6 := sep_ceAt (i := 2) HS9.out rfl 6 rfl
                  have z7 := sep_ceAt (i := 2) HS9.out rfl 7 rfl
                  have z8 := sep_ceAt (i := 2) HS9.out rfl 8 rfl
                  have z9 := sep_ceAt (i := 2) HS9.out rfl 9 rfl
                  have z10 := sep_ceAt (i := 2) HS9.out rfl 10 rfl
                  go_wp2_with fail
                  obtain ⟨_, hs2⟩ := sep_put11 (i := 0) HS9.out rfl (.int .i64 (kk : Int)) (.int .i64 (nn : Int)) (.int .u64 (pi : Int)) (.int .u64 (rr : Int)) (.int .i64 (sn : Int)) (.int .u64 (si : Int)) (.int .u64 0) (.slice none 0 0) (.int .u64 0) (.slice SA l.length sc) (.bool wb)
                  refine bodyPost_ret (v := .tuple #[.agg #[.int .i64 (kk : Int), .int .i64 (nn : Int), .int .u64 (pi : Int), .int .u64 (rr : Int), .int .i64 (sn : Int), .int .u64 (si : Int), .int .u64 0, .slice none 0 0, .int .u64 0, .slice SA l.length sc, .bool wb], .int .i64 0]) (by simp [results, Try.results19, go_sem, k0, k1, k2, k3, k4, k5, k6, k7, k8, k9, k10]) rfl ?_
                  exact .inl ⟨(Lt.mk kk nn pi rr sn si 0 [] 0 l wb), none, 0, SA, sc, (isLt_rd b _).2 ⟨by rw [HW.out]; exact HOK.out, by rw [← HF.out HSF.out]; exact HMY.out, HF.out HSF.out⟩, rfl, Has.nil, (sep_uvHas (i := 3) hs2 rfl), hs2.bel⟩
                | false =>
                  have HMY := Lib.hid hmy
                  clear hmy
                  refine (ref10MayL (w := ((w30.setCell ⟨g3, 10, none⟩ (.bool wb)).setCell ⟨g2, 1, none⟩ (.bool fb))) (B := ((w30.setCell ⟨g3, 10, none⟩ (.bool wb)).setCell ⟨g2, 1, none⟩ (.bool fb)).heap.size) (x := (Lt.mk kk nn pi rr sn si 0 [] 0 l wb)) (A := none) (A2 := SA) (c := 0) (c2 := sc) HMY.out (sep_uvHas (i := 3) HS33.out rfl) (Nat.le_refl _) (by simp) (by show l.length ≤ _; omega) (fun y hy => by have := HLT.out y hy; omega)).mono ?_
                  rintro e u9 ⟨rfl, hb9⟩
                  have HS9 := Lib.hid (HS33.out.grow hb9)
                  clear HS33 hb9
                  have k0 := sep_ceAt (i := 0) HS9.out rfl 0 rfl
                  have k1 := sep_ceAt (i := 0) HS9.out rfl 1 rfl
                  have k2 := sep_ceAt (i := 0) HS9.out rfl 2 rfl
                  have k3 := sep_ceAt (i := 0) HS9.out rfl 3 rfl
                  have k4 := sep_ceAt (i := 0) HS9.out rfl 4 rfl
                  have k5 := sep_ceAt (i := 0) HS9.out rfl 5 rfl
                  have k6 := sep_ceAt (i := 0) HS9.out rfl 6 rfl
                  have k7 := sep_ceAt (i := 0) HS9.out rfl 7 rfl
                  have k8 := sep_ceAt (i := 0) HS9.out rfl 8 rfl
                  have k9 := sep_ceAt (i := 0) HS9.out rfl 9 rfl
                  have k10 := sep_ceAt (i := 0) HS9.out rfl 10 rfl
                  have y0 := sep_ceFrozen (i := 0) HS9.out rfl 0
                  have y1 := sep_ceFrozen (i := 0) HS9.out rfl 1
                  have y2 := sep_ceFrozen (i := 0) HS9.out rfl 2
                  have y3 := sep_ceFrozen (i := 0) HS9.out rfl 3
                  have y4 := sep_ceFrozen (i := 0) HS9.out rfl 4
                  have y5 := sep_ceFrozen (i := 0) HS9.out rfl 5
                  have y6 := sep_ceFrozen (i := 0) HS9.out rfl 6
                  have y7 := sep_ceFrozen (i := 0) HS9.out rfl 7
                  have y8 := sep_ceFrozen (i := 0) HS9.out rfl 8
                  have y9 := sep_ceFrozen (i := 0) HS9.out rfl 9
                  have y10 := sep_ceFrozen (i := 0) HS9.out rfl 10
                  go_wp2_with fail
                  obtain ⟨_, hs2⟩ := sep_put11 (i := 0) HS9.out rfl (.int .i64 0) (.int .i64 0) (.int .u64 0) (.int .u64 0) (.int .i64 0) (.int .u64 0) (.int .u64 0) (.slice none 0 0) (.int .u64 0) (.slice none 0 0) (.bool false)
                  refine bodyPost_ret (v := .tuple #[.agg #[.int .i64 0, .int .i64 0, .int .u64 0, .int .u64 0, .int .i64 0, .int .u64 0, .int .u64 0, .slice none 0 0, .int .u64 0, .slice none 0 0, .bool false], .int .i64 3]) (by simp [results, Try.results19, go_sem, k0, k1, k2, k3, k4, k5, k6, k7, k8, k9, k10]) rfl ?_
                  exact decsR_no HW.out (.inr (by rw [← HF.out HSF.out]; exact HMY.out)) hs2.bel
      · have HX2 : Hid (St (gL cnt sC).2 t ∧ ((gL cnt sC).2.2 = false → l = (gL cnt sC).1)) := Lib.hid (by
          have e : k = cnt := by omega
          rw [← e]
          exact ⟨HR.out.1, HR.out.2.1⟩)
        have HLT := Lib.hid HR.out.2.2
        have hlb : l.length ≤ 300 := by omega
        obtain ⟨s7, Hs7⟩ : ∃ x, Hid ((gL cnt sC).2 = x) := ⟨_, Lib.hid rfl⟩
        have HX : Hid (rdX b = gL cnt sC) := Lib.hid (by unfold rdX; rw [HK.out, HC.out, if_pos (show kk = 8 ∨ kk = 9 from .inr Q9.out)]; exact HgC.out)
        have HT7 : Hid (St s7 t) := Lib.hid (by rw [← Hs7.out]; exact HX2.out.1)
        have HLX : Hid (s7.2 = false → l = (gL cnt sC).1) := Lib.hid (by rw [← Hs7.out]; exact HX2.out.2)
        go_wp2_with fail
        clear qb k0 hll HX2 HR
        refine (sep_i8 (i := 1) (s := t) HSL.out rfl).mono ?_
        rintro e w30 ⟨rfl, hs30⟩
        have h3 := HT7.out.g8
        rw [← h3.1]
        have hwl := g8_lt s7
        obtain ⟨wv, Hwv⟩ : ∃ y, Hid ((g8 s7).1 = y) := ⟨_, Lib.hid rfl⟩
        obtain ⟨s8, Hs8⟩ : ∃ y, Hid ((g8 s7).2 = y) := ⟨_, Lib.hid rfl⟩
        obtain ⟨t8, Ht8⟩ : ∃ y, Hid ((g8 t).2 = y) := ⟨_, Lib.hid rfl⟩
        have HT8 : Hid (St s8 t8) := Lib.hid (by rw [← Hs8.out]; exact h3.2 _ (by rw [Ht8.out]; exact St.refl _))
        have HS78 : Hid (s8.2 = false → s7.2 = false) := Lib.hid (fun e => by
          cases hq : s7.2 with
          | false => rfl
          | true =>
            obtain ⟨l7, b7⟩ := s7
            simp only at hq
            subst hq
            rw [← Hs8.out, g8_fault l7 true (.inl rfl)] at e
            cases e)
        rw [Hwv.out] at hwl ⊢
        rw [Ht8.out] at hs30
        have HS30 := Lib.hid (show Sep w w30 [Ce w.heap.size 30 #[.int .i64 0, .int .i64 0, .int .u64 0, .int .u64 0, .int .i64 0, .int .u64 0, .int .u64 0, .slice none 0 0, .int .u64 0, .slice none 0 0, .bool false], Ri w g2 t8, Ce g3 30 #[.int .i64 (kk : Int), .int .i64 (nn : Int), .int .u64 (pi : Int), .int .u64 (rr : Int), .int .i64 (sn : Int), .int .u64 (si : Int), .int .u64 0, .slice none 0 0, .int .u64 0, .slice SA l.length sc, .bool false], Uv (.slice SA l.length sc) l] from hs30)
        obtain ⟨wb, Hwb⟩ : ∃ y, Hid ((((wv : Nat) : Int) == 1) = y) := ⟨_, Lib.hid rfl⟩
        have ew := Hwb.out
        have HWB : Hid (decide (wv = 1) = wb) := Lib.hid (by rw [← Hwb.out]; by_cases h : wv = 1 <;> simp [h] <;> omega)
        have HW0 : Hid (rdW b = (wb, s8.1, s8.2 || decide (1 < wv))) := Lib.hid (by unfold rdW gW; rw [HK.out, HX.out, if_pos Q9.out, Hs7.out, Hwv.out, Hs8.out, HWB.out])
        clear hs30 HSL h3 Hs8 Ht8 Hwv Hwb HWB
        have HS31 := Lib.hid (show Sep w (w30.setCell ⟨g3, 10, none⟩ (.bool wb)) [Ce w.heap.size 30 #[.int .i64 0, .int .i64 0, .int .u64 0, .int .u64 0, .int .i64 0, .int .u64 0, .int .u64 0, .slice none 0 0, .int .u64 0, .slice none 0 0, .bool false], Ri w g2 t8, Ce g3 30 #[.int .i64 (kk : Int), .int .i64 (nn : Int), .int .u64 (pi : Int), .int .u64 (rr : Int), .int .i64 (sn : Int), .int .u64 (si : Int), .int .u64 0, .slice none 0 0, .int .u64 0, .slice SA l.length sc, .bool wb], Uv (.slice SA l.length sc) l] from sep_ceSet (i := 2) HS30.out rfl 10 (.bool wb))
        obtain ⟨Ab9, cb9, _, qb9, _, yb9, _, _, _⟩ := sep_riAt (i := 1) HS31.out rfl
        obtain ⟨fb, HFB⟩ : ∃ y, Hid ((t8.2 || decide ((1 : Int) < (wv : Int))) = y) := ⟨_, Lib.hid rfl⟩
        cases hb8 : t8.2 with
        | true =>
          rw [hb8] at qb9
          obtain rfl : fb = true := by rw [← HFB.out, hb8]; rfl
          have hs33 := sep_riFlag (i := 1) true HS31.out rfl
          obtain ⟨t9, Ht9⟩ : ∃ y : Rs, Hid ((t8.1, true) = y) := ⟨_, Lib.hid rfl⟩
          obtain ⟨s9, Hs9⟩ : ∃ y : Rs, Hid ((s8.1, s8.2 || decide (1 < wv)) = y) := ⟨_, Lib.hid rfl⟩
          have HW : Hid ((rdW b).2 = s9) := Lib.hid (by rw [HW0.out]; exact Hs9.out)
          have HWV : Hid ((rdW b).1 = wb) := Lib.hid (by rw [HW0.out])
          have HT : Hid (St s9 t9) := Lib.hid (by
            rw [← Hs9.out, ← Ht9.out]
            have h1 := HFB.out
            rw [HT8.out.1] at h1
            have h2 : decide ((1 : Int) < (wv : Int)) = decide (1 < wv) := by rw [decide_eq_decide]; omega
            rw [h2] at h1
            refine ⟨h1.symm, fun e => ?_⟩
            have h3 : s8.2 = false := by simp only at e; cases h : s8.2 <;> simp_all
            rw [HT8.out.2 h3, ← h1])
          have HS33 := Lib.hid (show Sep w ((w30.setCell ⟨g3, 10, none⟩ (.bool wb)).setCell ⟨g2, 1, none⟩ (.bool true)) [Ce w.heap.size 30 #[.int .i64 0, .int .i64 0, .int .u64 0, .int .u64 0, .int .i64 0, .int .u64 0, .int .u64 0, .slice none 0 0, .int .u64 0, .slice none 0 0, .bool false], Ri w g2 t9, Ce g3 30 #[.int .i64 (kk : Int), .int .i64 (nn : Int), .int .u64 (pi : Int), .int .u64 (rr : Int), .int .i64 (sn : Int), .int .u64 (si : Int), .int .u64 0, .slice none 0 0, .int .u64 0, .slice SA l.length sc, .bool wb], Uv (.slice SA l.length sc) l] by rw [← Ht9.out]; exact hs33)
          clear hs33
          have HF : Hid (s9.2 = false → (Lt.mk kk nn pi rr sn si 0 [] 0 l wb) = rdLt b) := Lib.hid (fun hsf => by
            have h3 : s8.2 = false := by rw [← Hs9.out] at hsf; simp only at hsf; cases h : s8.2 <;> simp_all
            have hl := HLX.out (HS78.out h3)
            unfold rdLt
            rw [HK.out, HP.out, HI.out, HN.out, HB.out, HC.out, HX.out, HWV.out, hl])
          clear HFB
          have hbt : t9.2 = true := by rw [← Ht9.out]
          have k0 := sep_ceAt (i := 0) HS33.out rfl 0 rfl
          have k1 := sep_ceAt (i := 0) HS33.out rfl 1 rfl
          have k2 := sep_ceAt (i := 0) HS33.out rfl 2 rfl
          have k3 := sep_ceAt (i := 0) HS33.out rfl 3 rfl
          have k4 := sep_ceAt (i := 0) HS33.out rfl 4 rfl
          have k5 := sep_ceAt (i := 0) HS33.out rfl 5 rfl
          have k6 := sep_ceAt (i := 0) HS33.out rfl 6 rfl
          have k7 := sep_ceAt (i := 0) HS33.out rfl 7 rfl
          have k8 := sep_ceAt (i := 0) HS33.out rfl 8 rfl
          have k9 := sep_ceAt (i := 0) HS33.out rfl 9 rfl
          have k10 := sep_ceAt (i := 0) HS33.out rfl 10 rfl
          have y0 := sep_ceFrozen (i := 0) HS33.out rfl 0
          have y1 := sep_ceFrozen (i := 0) HS33.out rfl 1
          have y2 := sep_ceFrozen (i := 0) HS33.out rfl 2
          have y3 := sep_ceFrozen (i := 0) HS33.out rfl 3
          have y4 := sep_ceFrozen (i := 0) HS33.out rfl 4
          have y5 := sep_ceFrozen (i := 0) HS33.out rfl 5
          have y6 := sep_ceFrozen (i := 0) HS33.out rfl 6
          have y7 := sep_ceFrozen (i := 0) HS33.out rfl 7
          have y8 := sep_ceFrozen (i := 0) HS33.out rfl 8
          have y9 := sep_ceFrozen (i := 0) HS33.out rfl 9
          have y10 := sep_ceFrozen (i := 0) HS33.out rfl 10
          have z0 := sep_ceAt (i := 2) HS33.out rfl 0 rfl
          have z1 := sep_ceAt (i := 2) HS33.out rfl 1 rfl
          have z2 := sep_ceAt (i := 2) HS33.out rfl 2 rfl
          have z3 := sep_ceAt (i := 2) HS33.out rfl 3 rfl
          have z4 := sep_ceAt (i := 2) HS33.out rfl 4 rfl
          have z5 := sep_ceAt (i := 2) HS33.out rfl 5 rfl
          have z6 := sep_ceAt (i := 2) HS33.out rfl 6 rfl
          have z7 := sep_ceAt (i := 2) HS33.out rfl 7 rfl
          have z8 := sep_ceAt (i := 2) HS33.out rfl 8 rfl
          have z9 := sep_ceAt (i := 2) HS33.out rfl 9 rfl
          have z10 := sep_ceAt (i := 2) HS33.out rfl 10 rfl
          have a0 := sep_ceAt (i := 0) HS30.out rfl 0 rfl
          have a1 := sep_ceAt (i := 0) HS30.out rfl 1 rfl
          have a2 := sep_ceAt (i := 0) HS30.out rfl 2 rfl
          have a3 := sep_ceAt (i := 0) HS30.out rfl 3 rfl
          have a4 := sep_ceAt (i := 0) HS30.out rfl 4 rfl
          have a5 := sep_ceAt (i := 0) HS30.out rfl 5 rfl
          have a6 := sep_ceAt (i := 0) HS30.out rfl 6 rfl
          have a7 := sep_ceAt (i := 0) HS30.out rfl 7 rfl
          have a8 := sep_ceAt (i := 0) HS30.out rfl 8 rfl
          have a9 := sep_ceAt (i := 0) HS30.out rfl 9 rfl
          have a10 := sep_ceAt (i := 0) HS30.out rfl 10 rfl
          have c0 := sep_ceFrozen (i := 0) HS30.out rfl 0
          have c1 := sep_ceFrozen (i := 0) HS30.out rfl 1
          have c2 := sep_ceFrozen (i := 0) HS30.out rfl 2
          have c3 := sep_ceFrozen (i := 0) HS30.out rfl 3
          have c4 := sep_ceFrozen (i := 0) HS30.out rfl 4
          have c5 := sep_ceFrozen (i := 0) HS30.out rfl 5
          have c6 := sep_ceFrozen (i := 0) HS30.out rfl 6
          have c7 := sep_ceFrozen (i := 0) HS30.out rfl 7
          have c8 := sep_ceFrozen (i := 0) HS30.out rfl 8
          have c9 := sep_ceFrozen (i := 0) HS30.out rfl 9
          have c10 := sep_ceFrozen (i := 0) HS30.out rfl 10
          have d0 := sep_ceAt (i := 2) HS30.out rfl 0 rfl
          have d1 := sep_ceAt (i := 2) HS30.out rfl 1 rfl
          have d2 := sep_ceAt (i := 2) HS30.out rfl 2 rfl
          have d3 := sep_ceAt (i := 2) HS30.out rfl 3 rfl
          have d4 := sep_ceAt (i := 2) HS30.out rfl 4 rfl
          have d5 := sep_ceAt (i := 2) HS30.out rfl 5 rfl
          have d6 := sep_ceAt (i := 2) HS30.out rfl 6 rfl
          have d7 := sep_ceAt (i := 2) HS30.out rfl 7 rfl
          have d8 := sep_ceAt (i := 2) HS30.out rfl 8 rfl
          have d9 := sep_ceAt (i := 2) HS30.out rfl 9 rfl
          have d10 := sep_ceAt (i := 2) HS30.out rfl 10 rfl
          have f10 := sep_ceFrozen (i := 2) HS30.out rfl 10
          obtain ⟨Ab, cb, pa, pb, _, pc, _, _, _⟩ := sep_riAt (i := 1) HS30.out rfl
          rw [hb8] at pb
          clear HS30 HS31 hb8
          obtain ⟨Ar, cr, qa, qb, _, _, _, _, _⟩ := sep_riAt (i := 1) HS33.out rfl
          have HNO : Hid (rEnd s9.1 s9.2 = true) := Lib.hid (by rw [← HT.out.1, hbt]; exact rEnd_bad _)
          rw [hbt] at qb
          clear hbt
          go_wp2_with fail
          obtain ⟨_, hs2⟩ := sep_put11 (i := 0) HS33.out rfl (.int .i64 0) (.int .i64 0) (.int .u64 0) (.int .u64 0) (.int .i64 0) (.int .u64 0) (.int .u64 0) (.slice none 0 0) (.int .u64 0) (.slice none 0 0) (.bool false)
          refine bodyPost_ret (v := .tuple #[.agg #[.int .i64 0, .int .i64 0, .int .u64 0, .int .u64 0, .int .i64 0, .int .u64 0, .int .u64 0, .slice none 0 0, .int .u64 0, .slice none 0 0, .bool false], .int .i64 3]) (by simp [results, Try.results19, go_sem, k0, k1, k2, k3, k4, k5, k6, k7, k8, k9, k10]) rfl ?_
          exact decsR_no HW.out (.inl HNO.out) hs2.bel
        | false =>
          rw [hb8] at qb9
          have ed : decide ((1 : Int) < (wv : Int)) = fb := by rw [← HFB.out, hb8]; rfl
          have hs33 := sep_riFlag (i := 1) fb HS31.out rfl
          obtain ⟨t9, Ht9⟩ : ∃ y : Rs, Hid ((t8.1, fb) = y) := ⟨_, Lib.hid rfl⟩
          obtain ⟨s9, Hs9⟩ : ∃ y : Rs, Hid ((s8.1, s8.2 || decide (1 < wv)) = y) := ⟨_, Lib.hid rfl⟩
          have HW : Hid ((rdW b).2 = s9) := Lib.hid (by rw [HW0.out]; exact Hs9.out)
          have HWV : Hid ((rdW b).1 = wb) := Lib.hid (by rw [HW0.out])
          have HT : Hid (St s9 t9) := Lib.hid (by
            rw [← Hs9.out, ← Ht9.out]
            have h1 := HFB.out
            rw [HT8.out.1] at h1
            have h2 : decide ((1 : Int) < (wv : Int)) = decide (1 < wv) := by rw [decide_eq_decide]; omega
            rw [h2] at h1
            refine ⟨h1.symm, fun e => ?_⟩
            have h3 : s8.2 = false := by simp only at e; cases h : s8.2 <;> simp_all
            rw [HT8.out.2 h3, ← h1])
          have HS33 := Lib.hid (show Sep w ((w30.setCell ⟨g3, 10, none⟩ (.bool wb)).setCell ⟨g2, 1, none⟩ (.bool fb)) [Ce w.heap.size 30 #[.int .i64 0, .int .i64 0, .int .u64 0, .int .u64 0, .int .i64 0, .int .u64 0, .int .u64 0, .slice none 0 0, .int .u64 0, .slice none 0 0, .bool false], Ri w g2 t9, Ce g3 30 #[.int .i64 (kk : Int), .int .i64 (nn : Int), .int .u64 (pi : Int), .int .u64 (rr : Int), .int .i64 (sn : Int), .int .u64 (si : Int), .int .u64 0, .slice none 0 0, .int .u64 0, .slice SA l.length sc, .bool wb], Uv (.slice SA l.length sc) l] by rw [← Ht9.out]; exact hs33)
          clear hs33
          have HF : Hid (s9.2 = false → (Lt.mk kk nn pi rr sn si 0 [] 0 l wb) = rdLt b) := Lib.hid (fun hsf => by
            have h3 : s8.2 = false := by rw [← Hs9.out] at hsf; simp only at hsf; cases h : s8.2 <;> simp_all
            have hl := HLX.out (HS78.out h3)
            unfold rdLt
            rw [HK.out, HP.out, HI.out, HN.out, HB.out, HC.out, HX.out, HWV.out, hl])
          clear HFB
          have k0 := sep_ceAt (i := 0) HS33.out rfl 0 rfl
          have k1 := sep_ceAt (i := 0) HS33.out rfl 1 rfl
          have k2 := sep_ceAt (i := 0) HS33.out rfl 2 rfl
          have k3 := sep_ceAt (i := 0) HS33.out rfl 3 rfl
          have k4 := sep_ceAt (i := 0) HS33.out rfl 4 rfl
          have k5 := sep_ceAt (i := 0) HS33.out rfl 5 rfl
          have k6 := sep_ceAt (i := 0) HS33.out rfl 6 rfl
          have k7 := sep_ceAt (i := 0) HS33.out rfl 7 rfl
          have k8 := sep_ceAt (i := 0) HS33.out rfl 8 rfl
          have k9 := sep_ceAt (i := 0) HS33.out rfl 9 rfl
          have k10 := sep_ceAt (i := 0) HS33.out rfl 10 rfl
          have y0 := sep_ceFrozen (i := 0) HS33.out rfl 0
          have y1 := sep_ceFrozen (i := 0) HS33.out rfl 1
          have y2 := sep_ceFrozen (i := 0) HS33.out rfl 2
          have y3 := sep_ceFrozen (i := 0) HS33.out rfl 3
          have y4 := sep_ceFrozen (i := 0) HS33.out rfl 4
          have y5 := sep_ceFrozen (i := 0) HS33.out rfl 5
          have y6 := sep_ceFrozen (i := 0) HS33.out rfl 6
          have y7 := sep_ceFrozen (i := 0) HS33.out rfl 7
          have y8 := sep_ceFrozen (i := 0) HS33.out rfl 8
          have y9 := sep_ceFrozen (i := 0) HS33.out rfl 9
          have y10 := sep_ceFrozen (i := 0) HS33.out rfl 10
          have z0 := sep_ceAt (i := 2) HS33.out rfl 0 rfl
          have z1 := sep_ceAt (i := 2) HS33.out rfl 1 rfl
          have z2 := sep_ceAt (i := 2) HS33.out rfl 2 rfl
          have z3 := sep_ceAt (i := 2) HS33.out rfl 3 rfl
          have z4 := sep_ceAt (i := 2) HS33.out rfl 4 rfl
          have z5 := sep_ceAt (i := 2) HS33.out rfl 5 rfl
          have z6 := sep_ceAt (i := 2) HS33.out rfl 6 rfl
          have z7 := sep_ceAt (i := 2) HS33.out rfl 7 rfl
          have z8 := sep_ceAt (i := 2) HS33.out rfl 8 rfl
          have z9 := sep_ceAt (i := 2) HS33.out rfl 9 rfl
          have z10 := sep_ceAt (i := 2) HS33.out rfl 10 rfl
          have a0 := sep_ceAt (i := 0) HS30.out rfl 0 rfl
          have a1 := sep_ceAt (i := 0) HS30.out rfl 1 rfl
          have a2 := sep_ceAt (i := 0) HS30.out rfl 2 rfl
          have a3 := sep_ceAt (i := 0) HS30.out rfl 3 rfl
          have a4 := sep_ceAt (i := 0) HS30.out rfl 4 rfl
          have a5 := sep_ceAt (i := 0) HS30.out rfl 5 rfl
          have a6 := sep_ceAt (i := 0) HS30.out rfl 6 rfl
          have a7 := sep_ceAt (i := 0) HS30.out rfl 7 rfl
          have a8 := sep_ceAt (i := 0) HS30.out rfl 8 rfl
          have a9 := sep_ceAt (i := 0) HS30.out rfl 9 rfl
          have a10 := sep_ceAt (i := 0) HS30.out rfl 10 rfl
          have c0 := sep_ceFrozen (i := 0) HS30.out rfl 0
          have c1 := sep_ceFrozen (i := 0) HS30.out rfl 1
          have c2 := sep_ceFrozen (i := 0) HS30.out rfl 2
          have c3 := sep_ceFrozen (i := 0) HS30.out rfl 3
          have c4 := sep_ceFrozen (i := 0) HS30.out rfl 4
          have c5 := sep_ceFrozen (i := 0) HS30.out rfl 5
          have c6 := sep_ceFrozen (i := 0) HS30.out rfl 6
          have c7 := sep_ceFrozen (i := 0) HS30.out rfl 7
          have c8 := sep_ceFrozen (i := 0) HS30.out rfl 8
          have c9 := sep_ceFrozen (i := 0) HS30.out rfl 9
          have c10 := sep_ceFrozen (i := 0) HS30.out rfl 10
          have d0 := sep_ceAt (i := 2) HS30.out rfl 0 rfl
          have d1 := sep_ceAt (i := 2) HS30.out rfl 1 rfl
          have d2 := sep_ceAt (i := 2) HS30.out rfl 2 rfl
          have d3 := sep_ceAt (i := 2) HS30.out rfl 3 rfl
          have d4 := sep_ceAt (i := 2) HS30.out rfl 4 rfl
          have d5 := sep_ceAt (i := 2) HS30.out rfl 5 rfl
          have d6 := sep_ceAt (i := 2) HS30.out rfl 6 rfl
          have d7 := sep_ceAt (i := 2) HS30.out rfl 7 rfl
          have d8 := sep_ceAt (i := 2) HS30.out rfl 8 rfl
          have d9 := sep_ceAt (i := 2) HS30.out rfl 9 rfl
          have d10 := sep_ceAt (i := 2) HS30.out rfl 10 rfl
          have f10 := sep_ceFrozen (i := 2) HS30.out rfl 10
          obtain ⟨Ab, cb, pa, pb, _, pc, _, _, _⟩ := sep_riAt (i := 1) HS30.out rfl
          rw [hb8] at pb
          clear HS30 HS31 hb8
          obtain ⟨Ar, cr, qa, qb, _, _, _, _, _⟩ := sep_riAt (i := 1) HS33.out rfl
          cases hbd : t9.2 with
          | true =>
            have HNO : Hid (rEnd s9.1 s9.2 = true) := Lib.hid (by rw [← HT.out.1, hbd]; exact rEnd_bad _)
            rw [hbd] at qb
            clear hbd
            go_wp2_with fail
            obtain ⟨_, hs2⟩ := sep_put11 (i := 0) HS33.out rfl (.int .i64 0) (.int .i64 0) (.int .u64 0) (.int .u64 0) (.int .i64 0) (.int .u64 0) (.int .u64 0) (.slice none 0 0) (.int .u64 0) (.slice none 0 0) (.bool false)
            refine bodyPost_ret (v := .tuple #[.agg #[.int .i64 0, .int .i64 0, .int .u64 0, .int .u64 0, .int .i64 0, .int .u64 0, .int .u64 0, .slice none 0 0, .int .u64 0, .slice none 0 0, .bool false], .int .i64 3]) (by simp [results, Try.results19, go_sem, k0, k1, k2, k3, k4, k5, k6, k7, k8, k9, k10]) rfl ?_
            exact decsR_no HW.out (.inl HNO.out) hs2.bel
          | false =>
            have HSF : Hid (s9.2 = false) := Lib.hid (by rw [← HT.out.1]; exact hbd)
            have HEQ : Hid (t9 = s9) := Lib.hid (HT.out.2 HSF.out)
            rw [hbd] at qb
            clear hbd
            by_cases hle : 0 < t9.1.length
            · have HNO : Hid (rEnd s9.1 s9.2 = true) := Lib.hid (by rw [← HEQ.out]; exact rEnd_left _ hle)
              go_wp2_with fail
              obtain ⟨_, hs2⟩ := sep_put11 (i := 0) HS33.out rfl (.int .i64 0) (.int .i64 0) (.int .u64 0) (.int .u64 0) (.int .i64 0) (.int .u64 0) (.int .u64 0) (.slice none 0 0) (.int .u64 0) (.slice none 0 0) (.bool false)
              refine bodyPost_ret (v := .tuple #[.agg #[.int .i64 0, .int .i64 0, .int .u64 0, .int .u64 0, .int .i64 0, .int .u64 0, .int .u64 0, .slice none 0 0, .int .u64 0, .slice none 0 0, .bool false], .int .i64 3]) (by simp [results, Try.results19, go_sem, k0, k1, k2, k3, k4, k5, k6, k7, k8, k9, k10]) rfl ?_
              exact decsR_no HW.out (.inl HNO.out) hs2.bel
            · have HOK : Hid (rEnd s9.1 s9.2 = false) := Lib.hid (by rw [HSF.out, ← HEQ.out]; exact rEnd_ok hle)
              go_wp2_with fail
              clear z0 z1 z2 z3 z4 z5 z6 z7 z8 z9 z10 k0 k1 k2 k3 k4 k5 k6 k7 k8 k9 k10 y0 y1 y2 y3 y4 y5 y6 y7 y8 y9 y10 qa qb a0 a1 a2 a3 a4 a5 a6 a7 a8 a9 a10 c0 c1 c2 c3 c4 c5 c6 c7 c8 c9 c10 d0 d1 d2 d3 d4 d5 d6 d7 d8 d9 d10 f10 pa pb pc qb9 yb9 ew ed
              cases hmy : (Lt.mk kk nn pi rr sn si 0 [] 0 l wb).may with
              | true =>
                have HMY := Lib.hid hmy
                clear hmy
                refine (ref10MayL (w := ((w30.setCell ⟨g3, 10, none⟩ (.bool wb)).setCell ⟨g2, 1, none⟩ (.bool fb))) (B := ((w30.setCell ⟨g3, 10, none⟩ (.bool wb)).setCell ⟨g2, 1, none⟩ (.bool fb)).heap.size) (x := (Lt.mk kk nn pi rr sn si 0 [] 0 l wb)) (A := none) (A2 := SA) (c := 0) (c2 := sc) HMY.out (sep_uvHas (i := 3) HS33.out rfl) (Nat.le_refl _) (by simp) (by show l.length ≤ _; omega) (fun y hy => by have := HLT.out y hy; omega)).mono ?_
                rintro e u9 ⟨rfl, hb9⟩
                have HS9 := Lib.hid (HS33.out.grow hb9)
                clear HS33 hb9
                have k0 := sep_ceAt (i := 0) HS9.out rfl 0 rfl
                have k1 := sep_ceAt (i := 0) HS9.out rfl 1 rfl
                have k2 := sep_ceAt (i := 0) HS9.out rfl 2 rfl
                have k3 := sep_ceAt (i := 0) HS9.out rfl 3 rfl
                have k4 := sep_ceAt (i := 0) HS9.out rfl 4 rfl
                have k5 := sep_ceAt (i := 0) HS9.out rfl 5 rfl
                have k6 := sep_ceAt (i := 0) HS9.out rfl 6 rfl
                have k7 := sep_ceAt (i := 0) HS9.out rfl 7 rfl
                have k8 := sep_ceAt (i := 0) HS9.out rfl 8 rfl
                have k9 := sep_ceAt (i := 0) HS9.out rfl 9 rfl
                have k10 := sep_ceAt (i := 0) HS9.out rfl 10 rfl
                have y0 := sep_ceFrozen (i := 0) HS9.out rfl 0
                have y1 := sep_ceFrozen (i := 0) HS9.out rfl 1
                have y2 := sep_ceFrozen (i := 0) HS9.out rfl 2
                have y3 := sep_ceFrozen (i := 0) HS9.out rfl 3
                have y4 := sep_ceFrozen (i := 0) HS9.out rfl 4
                have y5 := sep_ceFrozen (i := 0) HS9.out rfl 5
                have y6 := sep_ceFrozen (i := 0) HS9.out rfl 6
                have y7 := sep_ceFrozen (i := 0) HS9.out rfl 7
                have y8 := sep_ceFrozen (i := 0) HS9.out rfl 8
                have y9 := sep_ceFrozen (i := 0) HS9.out rfl 9
                have y10 := sep_ceFrozen (i := 0) HS9.out rfl 10
                have z0 := sep_ceAt (i := 2) HS9.out rfl 0 rfl
                have z1 := sep_ceAt (i := 2) HS9.out rfl 1 rfl
                have z2 := sep_ceAt (i := 2) HS9.out rfl 2 rfl
                have z3 := sep_ceAt (i := 2) HS9.out rfl 3 rfl
                have z4 := sep_ceAt (i := 2) HS9.out rfl 4 rfl
                have z5 := sep_ceAt (i := 2) HS9.out rfl 5 rfl
                have z6 := sep_ceAt (i := 2) HS9.out rfl 6 rfl
                have z7 := sep_ceAt (i := 2) HS9.out rfl 7 rfl
                have z8 := sep_ceAt (i := 2) HS9.out rfl 8 rfl
                have z9 := sep_ceAt (i := 2) HS9.out rfl 9 rfl
                have z10 := sep_ceAt (i := 2) HS9.out rfl 10 rfl
                go_wp2_with fail
                obtain ⟨_, hs2⟩ := sep_put11 (i := 0) HS9.out rfl (.int .i64 (kk : Int)) (.int .i64 (nn : Int)) (.int .u64 (pi : Int)) (.int .u64 (rr : Int)) (.int .i64 (sn : Int)) (.int .u64 (si : Int)) (.int .u64 0) (.slice none 0 0) (.int .u64 0) (.slice SA l.length sc) (.bool wb)
                refine bodyPost_ret (v := .tuple #[.agg #[.int .i64 (kk : Int), .int .i64 (nn : Int), .int .u64 (pi : Int), .int .u64 (rr : Int), .int .i64 (sn : Int), .int .u64 (si : Int), .int .u64 0, .slice none 0 0, .int .u64 0, .slice SA l.length sc, .bool wb], .int .i64 0]) (by simp [results, Try.results19, go_sem, k0, k1, k2, k3, k4, k5, k6, k7, k8, k9, k10]) rfl ?_
                exact .inl ⟨(Lt.mk kk nn pi rr sn si 0 [] 0 l wb), none, 0, SA, sc, (isLt_rd b _).2 ⟨by rw [HW.out]; exact HOK.out, by rw [← HF.out HSF.out]; exact HMY.out, HF.out HSF.out⟩, rfl, Has.nil, (sep_uvHas (i := 3) hs2 rfl), hs2.bel⟩
              | false =>
                have HMY := Lib.hid hmy
                clear hmy
                refine (ref10MayL (w := ((w30.setCell ⟨g3, 10, none⟩ (.bool wb)).setCell ⟨g2, 1, none⟩ (.bool fb))) (B := ((w30.setCell ⟨g3, 10, none⟩ (.bool wb)).setCell ⟨g2, 1, none⟩ (.bool fb)).heap.size) (x := (Lt.mk kk nn pi rr sn si 0 [] 0 l wb)) (A := none) (A2 := SA) (c := 0) (c2 := sc) HMY.out (sep_uvHas (i := 3) HS33.out rfl) (Nat.le_refl _) (by simp) (by show l.length ≤ _; omega) (fun y hy => by have := HLT.out y hy; omega)).mono ?_
                rintro e u9 ⟨rfl, hb9⟩
                have HS9 := Lib.hid (HS33.out.grow hb9)
                clear HS33 hb9
                have k0 := sep_ceAt (i := 0) HS9.out rfl 0 rfl
                have k1 := sep_ceAt (i := 0) HS9.out rfl 1 rfl
                have k2 := sep_ceAt (i := 0) HS9.out rfl 2 rfl
                have k3 := sep_ceAt (i := 0) HS9.out rfl 3 rfl
                have k4 := sep_ceAt (i := 0) HS9.out rfl 4 rfl
                have k5 := sep_ceAt (i := 0) HS9.out rfl 5 rfl
                have k6 := sep_ceAt (i := 0) HS9.out rfl 6 rfl
                have k7 := sep_ceAt (i := 0) HS9.out rfl 7 rfl
                have k8 := sep_ceAt (i := 0) HS9.out rfl 8 rfl
                have k9 := sep_ceAt (i := 0) HS9.out rfl 9 rfl
                have k10 := sep_ceAt (i := 0) HS9.out rfl 10 rfl
                have y0 := sep_ceFrozen (i := 0) HS9.out rfl 0
                have y1 := sep_ceFrozen (i := 0) HS9.out rfl 1
                have y2 := sep_ceFrozen (i := 0) HS9.out rfl 2
                have y3 := sep_ceFrozen (i := 0) HS9.out rfl 3
                have y4 := sep_ceFrozen (i := 0) HS9.out rfl 4
                have y5 := sep_ceFrozen (i := 0) HS9.out rfl 5
                have y6 := sep_ceFrozen (i := 0) HS9.out rfl 6
                have y7 := sep_ceFrozen (i := 0) HS9.out rfl 7
                have y8 := sep_ceFrozen (i := 0) HS9.out rfl 8
                have y9 := sep_ceFrozen (i := 0) HS9.out rfl 9
                have y10 := sep_ceFrozen (i := 0) HS9.out rfl 10
                go_wp2_with fail
                obtain ⟨_, hs2⟩ := sep_put11 (i := 0) HS9.out rfl (.int .i64 0) (.int .i64 0) (.int .u64 0) (.int .u64 0) (.int .i64 0) (.int .u64 0) (.int .u64 0) (.slice none 0 0) (.int .u64 0) (.slice none 0 0) (.bool false)
                refine bodyPost_ret (v := .tuple #[.agg #[.int .i64 0, .int .i64 0, .int .u64 0, .int .u64 0, .int .i64 0, .int .u64 0, .int .u64 0, .slice none 0 0, .int .u64 0, .slice none 0 0, .bool false], .int .i64 3]) (by simp [results, Try.results19, go_sem, k0, k1, k2, k3, k4, k5, k6, k7, k8, k9, k10]) rfl ?_
                exact decsR_no HW.out (.inr (by rw [← HF.out HSF.out]; exact HMY.out)) hs2.bel
  have e7 : (((kk : Nat) : Int) == 7) = false := by simp <;> omega
  have e8 : (((kk : Nat) : Int) == 8) = false := by simp <;> omega
  have e9 : (((kk : Nat) : Int) == 9) = false := by simp <;> omega
  have HN : Hid (rdN b = (0, s3)) := Lib.hid (by unfold rdN; rw [HK.out, HI.out, if_neg q7])
  have HB : Hid (rdB b = ([], s3)) := Lib.hid (by unfold rdB; rw [HK.out, HN.out, if_neg q7])
  have HC : Hid (rdC b = (0, s3)) := Lib.hid (by unfold rdC; rw [HK.out, HB.out, if_neg q8])
  have HX : Hid (rdX b = ([], s3)) := Lib.hid (by unfold rdX; rw [HK.out, HC.out, if_neg (show ¬ (kk = 8 ∨ kk = 9) by omega)])
  have HWW : Hid (rdW b = (false, s3)) := Lib.hid (by unfold rdW; rw [HK.out, HX.out, if_neg q9])
  have HW : Hid ((rdW b).2 = s3) := Lib.hid (by rw [HWW.out])
  have HT := HT3
  have HF : Hid (s3.2 = false → (Lt.mk kk nn pi rr sn si 0 [] 0 [] false) = rdLt b) := Lib.hid (fun hsf => by
    unfold rdLt
    rw [HK.out, HP.out, HI.out, HN.out, HB.out, HC.out, HX.out, HWW.out])
  clear y3 y4 y5 k3 k4 k5 k0
  have hs8 := sep_ceSet (i := 2) HS7.out rfl 3 (.int .u64 (rr : Int))
  have hs8 := sep_ceSet (i := 2) hs8 rfl 4 (.int .i64 (sn : Int))
  have hs8 := sep_ceSet (i := 2) hs8 rfl 5 (.int .u64 (si : Int))
  have HS8 := Lib.hid (show Sep w (((w7.setCell ⟨g3, 3, none⟩ (.int .u64 (rr : Int))).setCell ⟨g3, 4, none⟩ (.int .i64 (sn : Int))).setCell ⟨g3, 5, none⟩ (.int .u64 (si : Int))) [Ce w.heap.size 30 #[.int .i64 0, .int .i64 0, .int .u64 0, .int .u64 0, .int .i64 0, .int .u64 0, .int .u64 0, .slice none 0 0, .int .u64 0, .slice none 0 0, .bool false], Ri w g2 t3, Ce g3 30 #[.int .i64 (kk : Int), .int .i64 (nn : Int), .int .u64 (pi : Int), .int .u64 (rr : Int), .int .i64 (sn : Int), .int .u64 (si : Int), .int .u64 0, .slice none 0 0, .int .u64 0, .slice none 0 0, .bool false]] from hs8)
  clear hs8
  have k0 := sep_ceAt (i := 0) HS8.out rfl 0 rfl
  have k1 := sep_ceAt (i := 0) HS8.out rfl 1 rfl
  have k2 := sep_ceAt (i := 0) HS8.out rfl 2 rfl
  have k3 := sep_ceAt (i := 0) HS8.out rfl 3 rfl
  have k4 := sep_ceAt (i := 0) HS8.out rfl 4 rfl
  have k5 := sep_ceAt (i := 0) HS8.out rfl 5 rfl
  have k6 := sep_ceAt (i := 0) HS8.out rfl 6 rfl
  have k7 := sep_ceAt (i := 0) HS8.out rfl 7 rfl
  have k8 := sep_ceAt (i := 0) HS8.out rfl 8 rfl
  have k9 := sep_ceAt (i := 0) HS8.out rfl 9 rfl
  have k10 := sep_ceAt (i := 0) HS8.out rfl 10 rfl
  have y0 := sep_ceFrozen (i := 0) HS8.out rfl 0
  have y1 := sep_ceFrozen (i := 0) HS8.out rfl 1
  have y2 := sep_ceFrozen (i := 0) HS8.out rfl 2
  have y3 := sep_ceFrozen (i := 0) HS8.out rfl 3
  have y4 := sep_ceFrozen (i := 0) HS8.out rfl 4
  have y5 := sep_ceFrozen (i := 0) HS8.out rfl 5
  have y6 := sep_ceFrozen (i := 0) HS8.out rfl 6
  have y7 := sep_ceFrozen (i := 0) HS8.out rfl 7
  have y8 := sep_ceFrozen (i := 0) HS8.out rfl 8
  have y9 := sep_ceFrozen (i := 0) HS8.out rfl 9
  have y10 := sep_ceFrozen (i := 0) HS8.out rfl 10
  have z0 := sep_ceAt (i := 2) HS8.out rfl 0 rfl
  have z1 := sep_ceAt (i := 2) HS8.out rfl 1 rfl
  have z2 := sep_ceAt (i := 2) HS8.out rfl 2 rfl
  have z3 := sep_ceAt (i := 2) HS8.out rfl 3 rfl
  have z4 := sep_ceAt (i := 2) HS8.out rfl 4 rfl
  have z5 := sep_ceAt (i := 2) HS8.out rfl 5 rfl
  have z6 := sep_ceAt (i := 2) HS8.out rfl 6 rfl
  have z7 := sep_ceAt (i := 2) HS8.out rfl 7 rfl
  have z8 := sep_ceAt (i := 2) HS8.out rfl 8 rfl
  have z9 := sep_ceAt (i := 2) HS8.out rfl 9 rfl
  have z10 := sep_ceAt (i := 2) HS8.out rfl 10 rfl
  have a0 := sep_ceAt (i := 0) HS7.out rfl 0 rfl
  have a1 := sep_ceAt (i := 0) HS7.out rfl 1 rfl
  have a2 := sep_ceAt (i := 0) HS7.out rfl 2 rfl
  have a3 := sep_ceAt (i := 0) HS7.out rfl 3 rfl
  have a4 := sep_ceAt (i := 0) HS7.out rfl 4 rfl
  have a5 := sep_ceAt (i := 0) HS7.out rfl 5 rfl
  have a6 := sep_ceAt (i := 0) HS7.out rfl 6 rfl
  have a7 := sep_ceAt (i := 0) HS7.out rfl 7 rfl
  have a8 := sep_ceAt (i := 0) HS7.out rfl 8 rfl
  have a9 := sep_ceAt (i := 0) HS7.out rfl 9 rfl
  have a10 := sep_ceAt (i := 0) HS7.out rfl 10 rfl
  have c0 := sep_ceFrozen (i := 0) HS7.out rfl 0
  have c1 := sep_ceFrozen (i := 0) HS7.out rfl 1
  have c2 := sep_ceFrozen (i := 0) HS7.out rfl 2
  have c3 := sep_ceFrozen (i := 0) HS7.out rfl 3
  have c4 := sep_ceFrozen (i := 0) HS7.out rfl 4
  have c5 := sep_ceFrozen (i := 0) HS7.out rfl 5
  have c6 := sep_ceFrozen (i := 0) HS7.out rfl 6
  have c7 := sep_ceFrozen (i := 0) HS7.out rfl 7
  have c8 := sep_ceFrozen (i := 0) HS7.out rfl 8
  have c9 := sep_ceFrozen (i := 0) HS7.out rfl 9
  have c10 := sep_ceFrozen (i := 0) HS7.out rfl 10
  have d0 := sep_ceAt (i := 2) HS7.out rfl 0 rfl
  have d1 := sep_ceAt (i := 2) HS7.out rfl 1 rfl
  have d2 := sep_ceAt (i := 2) HS7.out rfl 2 rfl
  have d3 := sep_ceAt (i := 2) HS7.out rfl 3 rfl
  have d4 := sep_ceAt (i := 2) HS7.out rfl 4 rfl
  have d5 := sep_ceAt (i := 2) HS7.out rfl 5 rfl
  have d6 := sep_ceAt (i := 2) HS7.out rfl 6 rfl
  have d7 := sep_ceAt (i := 2) HS7.out rfl 7 rfl
  have d8 := sep_ceAt (i := 2) HS7.out rfl 8 rfl
  have d9 := sep_ceAt (i := 2) HS7.out rfl 9 rfl
  have d10 := sep_ceAt (i := 2) HS7.out rfl 10 rfl
  have f3 := sep_ceFrozen (i := 2) HS7.out rfl 3
  have f4 := sep_ceFrozen (i := 2) HS7.out rfl 4
  have f5 := sep_ceFrozen (i := 2) HS7.out rfl 5
  obtain ⟨Ab, cb, pa, pb, _, pc, _, _, _⟩ := sep_riAt (i := 1) HS7.out rfl
  clear HS7
  obtain ⟨Ar, cr, qa, qb, _, _, _, _, _⟩ := sep_riAt (i := 1) HS8.out rfl
  cases hbd : t3.2 with
  | true =>
    have HNO : Hid (rEnd s3.1 s3.2 = true) := Lib.hid (by rw [← HT.out.1, hbd]; exact rEnd_bad _)
    rw [hbd] at qb
    clear hbd
    go_wp2_with fail
    obtain ⟨_, hs2⟩ := sep_put11 (i := 0) HS8.out rfl (.int .i64 0) (.int .i64 0) (.int .u64 0) (.int .u64 0) (.int .i64 0) (.int .u64 0) (.int .u64 0) (.slice none 0 0) (.int .u64 0) (.slice none 0 0) (.bool false)
    refine bodyPost_ret (v := .tuple #[.agg #[.int .i64 0, .int .i64 0, .int .u64 0, .int .u64 0, .int .i64 0, .int .u64 0, .int .u64 0, .slice none 0 0, .int .u64 0, .slice none 0 0, .bool false], .int .i64 3]) (by simp [results, Try.results19, go_sem, k0, k1, k2, k3, k4, k5, k6, k7, k8, k9, k10]) rfl ?_
    exact decsR_no HW.out (.inl HNO.out) hs2.bel
  | false =>
    have HSF : Hid (s3.2 = false) := Lib.hid (by rw [← HT.out.1]; exact hbd)
    have HEQ : Hid (t3 = s3) := Lib.hid (HT.out.2 HSF.out)
    rw [hbd] at qb
    clear hbd
    by_cases hle : 0 < t3.1.length
    · have HNO : Hid (rEnd s3.1 s3.2 = true) := Lib.hid (by rw [← HEQ.out]; exact rEnd_left _ hle)
      go_wp2_with fail
      obtain ⟨_, hs2⟩ := sep_put11 (i := 0) HS8.out rfl (.int .i64 0) (.int .i64 0) (.int .u64 0) (.int .u64 0) (.int .i64 0) (.int .u64 0) (.int .u64 0) (.slice none 0 0) (.int .u64 0) (.slice none 0 0) (.bool false)
      refine bodyPost_ret (v := .tuple #[.agg #[.int .i64 0, .int .i64 0, .int .u64 0, .int .u64 0, .int .i64 0, .int .u64 0, .int .u64 0, .slice none 0 0, .int .u64 0, .slice none 0 0, .bool false], .int .i64 3]) (by simp [results, Try.results19, go_sem, k0, k1, k2, k3, k4, k5, k6, k7, k8, k9, k10]) rfl ?_
      exact decsR_no HW.out (.inl HNO.out) hs2.bel
    · have HOK : Hid (rEnd s3.1 s3.2 = false) := Lib.hid (by rw [HSF.out, ← HEQ.out]; exact rEnd_ok hle)
      go_wp2_with fail
      clear z0 z1 z2 z3 z4 z5 z6 z7 z8 z9 z10 k0 k1 k2 k3 k4 k5 k6 k7 k8 k9 k10 y0 y1 y2 y3 y4 y5 y6 y7 y8 y9 y10 qa qb a0 a1 a2 a3 a4 a5 a6 a7 a8 a9 a10 c0 c1 c2 c3 c4 c5 c6 c7 c8 c9 c10 d0 d1 d2 d3 d4 d5 d6 d7 d8 d9 d10 f3 f4 f5 pa pb pc
      cases hmy : (Lt.mk kk nn pi rr sn si 0 [] 0 [] false).may with
      | true =>
        have HMY := Lib.hid hmy
        clear hmy
        refine (ref10MayL (w := (((w7.setCell ⟨g3, 3, none⟩ (.int .u64 (rr : Int))).setCell ⟨g3, 4, none⟩ (.int .i64 (sn : Int))).setCell ⟨g3, 5, none⟩ (.int .u64 (si : Int)))) (B := (((w7.setCell ⟨g3, 3, none⟩ (.int .u64 (rr : Int))).setCell ⟨g3, 4, none⟩ (.int .i64 (sn : Int))).setCell ⟨g3, 5, none⟩ (.int .u64 (si : Int))).heap.size) (x := (Lt.mk kk nn pi rr sn si 0 [] 0 [] false)) (A := none) (A2 := none) (c := 0) (c2 := 0) HMY.out Has.nil (Nat.le_refl _) (by simp) (by simp) (by simp)).mono ?_
        rintro e u9 ⟨rfl, hb9⟩
        have HS9 := Lib.hid (HS8.out.grow hb9)
        clear HS8 hb9
        have k0 := sep_ceAt (i := 0) HS9.out rfl 0 rfl
        have k1 := sep_ceAt (i := 0) HS9.out rfl 1 rfl
        have k2 := sep_ceAt (i := 0) HS9.out rfl 2 rfl
        have k3 := sep_ceAt (i := 0) HS9.out rfl 3 rfl
        have k4 := sep_ceAt (i := 0) HS9.out rfl 4 rfl
        have k5 := sep_ceAt (i := 0) HS9.out rfl 5 rfl
        have k6 := sep_ceAt (i := 0) HS9.out rfl 6 rfl
        have k7 := sep_ceAt (i := 0) HS9.out rfl 7 rfl
        have k8 := sep_ceAt (i := 0) HS9.out rfl 8 rfl
        have k9 := sep_ceAt (i := 0) HS9.out rfl 9 rfl
        have k10 := sep_ceAt (i := 0) HS9.out rfl 10 rfl
        have y0 := sep_ceFrozen (i := 0) HS9.out rfl 0
        have y1 := sep_ceFrozen (i := 0) HS9.out rfl 1
        have y2 := sep_ceFrozen (i := 0) HS9.out rfl 2
        have y3 := sep_ceFrozen (i := 0) HS9.out rfl 3
        have y4 := sep_ceFrozen (i := 0) HS9.out rfl 4
        have y5 := sep_ceFrozen (i := 0) HS9.out rfl 5
        have y6 := sep_ceFrozen (i := 0) HS9.out rfl 6
        have y7 := sep_ceFrozen (i := 0) HS9.out rfl 7
        have y8 := sep_ceFrozen (i := 0) HS9.out rfl 8
        have y9 := sep_ceFrozen (i := 0) HS9.out rfl 9
        have y10 := sep_ceFrozen (i := 0) HS9.out rfl 10
        have z0 := sep_ceAt (i := 2) HS9.out rfl 0 rfl
        have z1 := sep_ceAt (i := 2) HS9.out rfl 1 rfl
        have z2 := sep_ceAt (i := 2) HS9.out rfl 2 rfl
        have z3 := sep_ceAt (i := 2) HS9.out rfl 3 rfl
        have z4 := sep_ceAt (i := 2) HS9.out rfl 4 rfl
        have z5 := sep_ceAt (i := 2) HS9.out rfl 5 rfl
        have z6 := sep_ceAt (i := 2) HS9.out rfl 6 rfl
        have z7 := sep_ceAt (i := 2) HS9.out rfl 7 rfl
        have z8 := sep_ceAt (i := 2) HS9.out rfl 8 rfl
        have z9 := sep_ceAt (i := 2) HS9.out rfl 9 rfl
        have z10 := sep_ceAt (i := 2) HS9.out rfl 10 rfl
        go_wp2_with fail
        obtain ⟨_, hs2⟩ := sep_put11 (i := 0) HS9.out rfl (.int .i64 (kk : Int)) (.int .i64 (nn : Int)) (.int .u64 (pi : Int)) (.int .u64 (rr : Int)) (.int .i64 (sn : Int)) (.int .u64 (si : Int)) (.int .u64 0) (.slice none 0 0) (.int .u64 0) (.slice none 0 0) (.bool false)
        refine bodyPost_ret (v := .tuple #[.agg #[.int .i64 (kk : Int), .int .i64 (nn : Int), .int .u64 (pi : Int), .int .u64 (rr : Int), .int .i64 (sn : Int), .int .u64 (si : Int), .int .u64 0, .slice none 0 0, .int .u64 0, .slice none 0 0, .bool false], .int .i64 0]) (by simp [results, Try.results19, go_sem, k0, k1, k2, k3, k4, k5, k6, k7, k8, k9, k10]) rfl ?_
        exact .inl ⟨(Lt.mk kk nn pi rr sn si 0 [] 0 [] false), none, 0, none, 0, (isLt_rd b _).2 ⟨by rw [HW.out]; exact HOK.out, by rw [← HF.out HSF.out]; exact HMY.out, HF.out HSF.out⟩, rfl, Has.nil, Has.nil, hs2.bel⟩
      | false =>
        have HMY := Lib.hid hmy
        clear hmy
        refine (ref10MayL (w := (((w7.setCell ⟨g3, 3, none⟩ (.int .u64 (rr : Int))).setCell ⟨g3, 4, none⟩ (.int .i64 (sn : Int))).setCell ⟨g3, 5, none⟩ (.int .u64 (si : Int)))) (B := (((w7.setCell ⟨g3, 3, none⟩ (.int .u64 (rr : Int))).setCell ⟨g3, 4, none⟩ (.int .i64 (sn : Int))).setCell ⟨g3, 5, none⟩ (.int .u64 (si : Int))).heap.size) (x := (Lt.mk kk nn pi rr sn si 0 [] 0 [] false)) (A := none) (A2 := none) (c := 0) (c2 := 0) HMY.out Has.nil (Nat.le_refl _) (by simp) (by simp) (by simp)).mono ?_
        rintro e u9 ⟨rfl, hb9⟩
        have HS9 := Lib.hid (HS8.out.grow hb9)
        clear HS8 hb9
        have k0 := sep_ceAt (i := 0) HS9.out rfl 0 rfl
        have k1 := sep_ceAt (i := 0) HS9.out rfl 1 rfl
        have k2 := sep_ceAt (i := 0) HS9.out rfl 2 rfl
        have k3 := sep_ceAt (i := 0) HS9.out rfl 3 rfl
        have k4 := sep_ceAt (i := 0) HS9.out rfl 4 rfl
        have k5 := sep_ceAt (i := 0) HS9.out rfl 5 rfl
        have k6 := sep_ceAt (i := 0) HS9.out rfl 6 rfl
        have k7 := sep_ceAt (i := 0) HS9.out rfl 7 rfl
        have k8 := sep_ceAt (i := 0) HS9.out rfl 8 rfl
        have k9 := sep_ceAt (i := 0) HS9.out rfl 9 rfl
        have k10 := sep_ceAt (i := 0) HS9.out rfl 10 rfl
        have y0 := sep_ceFrozen (i := 0) HS9.out rfl 0
        have y1 := sep_ceFrozen (i := 0) HS9.out rfl 1
        have y2 := sep_ceFrozen (i := 0) HS9.out rfl 2
        have y3 := sep_ceFrozen (i := 0) HS9.out rfl 3
        have y4 := sep_ceFrozen (i := 0) HS9.out rfl 4
        have y5 := sep_ceFrozen (i := 0) HS9.out rfl 5
        have y6 := sep_ceFrozen (i := 0) HS9.out rfl 6
        have y7 := sep_ceFrozen (i := 0) HS9.out rfl 7
        have y8 := sep_ceFrozen (i := 0) HS9.out rfl 8
        have y9 := sep_ceFrozen (i := 0) HS9.out rfl 9
        have y10 := sep_ceFrozen (i := 0) HS9.out rfl 10
        go_wp2_with fail
        obtain ⟨_, hs2⟩ := sep_put11 (i := 0) HS9.out rfl (.int .i64 0) (.int .i64 0) (.int .u64 0) (.int .u64 0) (.int .i64 0) (.int .u64 0) (.int .u64 0) (.slice none 0 0) (.int .u64 0) (.slice none 0 0) (.bool false)
        refine bodyPost_ret (v := .tuple #[.agg #[.int .i64 0, .int .i64 0, .int .u64 0, .int .u64 0, .int .i64 0, .int .u64 0, .int .u64 0, .slice none 0 0, .int .u64 0, .slice none 0 0, .bool false], .int .i64 3]) (by simp [results, Try.results19, go_sem, k0, k1, k2, k3, k4, k5, k6, k7, k8, k9, k10]) rfl ?_
        exact decsR_no HW.out (.inr (by rw [← HF.out HSF.out]; exact HMY.out)) hs2.bel
end Go.Proofs.Ytbnjlminjopaaaa
