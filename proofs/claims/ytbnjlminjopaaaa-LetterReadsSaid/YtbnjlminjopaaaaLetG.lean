/- Reading of the front: bytes, short numbers, texts, lives, names. -/
import Derived.Test.YtbnjlminjopaaaaLetP
import Derived.Test.YtbnjlminjopaaaaSepStr
import Derived.Test.YtbnjlminjopaaaaCodeR4
import Derived.Test.YtbnjlminjopaaaaCodeNum
namespace Go.Proofs.Ytbnjlminjopaaaa
open Go Go.RowKit
set_option linter.unusedVariables false
set_option maxRecDepth 100000

theorem rText_bad (l : List UInt8) (most : Int) : rText l true most = ([], l, true) := rfl
theorem rText_none (l : List UInt8) (bad : Bool) (most : Int) (h : Code.num l = none) : rText l bad most = ([], l, true) := by
  unfold rText
  cases bad
  · simp [h]
  · rfl
theorem rText_no (l : List UInt8) (bad : Bool) (most : Int) (x n : Nat) (h : Code.num l = some (x, n)) (hn : ¬ (0 ≤ most ∧ (x : Int) ≤ most ∧ x ≤ l.length - n)) : rText l bad most = ([], l, true) := by
  unfold rText
  cases bad
  · simp only [Bool.false_eq_true, if_false, h]
    rw [if_neg hn]
  · rfl
theorem rText_yes (l : List UInt8) (most : Int) (x n : Nat) (h : Code.num l = some (x, n)) (hn : 0 ≤ most ∧ (x : Int) ≤ most ∧ x ≤ l.length - n) : rText l false most = ((l.drop n).take x, (l.drop n).drop x, false) := by
  unfold rText
  simp only [Bool.false_eq_true, if_false, h]
  rw [if_pos hn]

/-- what is taken of the front, with the reader's fault -/
abbrev Rs := List UInt8 × Bool
def g8 (s : Rs) : Nat × Rs := rWide s.1 s.2 1
def gU (s : Rs) : Nat × Rs := rUint s.1 s.2
def gT (s : Rs) : List UInt8 × Rs := rText s.1 s.2 64
theorem g8_put (x : Nat) (hx : x < 256) (R : List UInt8) : g8 (UInt8.ofNat x :: R, false) = (x, R, false) := by
  unfold g8 rWide
  rw [if_neg (by simp)]
  simp [Code.leNat]
  omega
theorem gU_put (x : Nat) (hx : x < 18446744073709551616) (R : List UInt8) : gU (Code.short x ++ R, false) = (x, R, false) := by
  unfold gU rUint
  simp only [Bool.false_eq_true, if_false]
  rw [Code.num_short x hx R]
  simp
theorem gT_put (t R : List UInt8) (ht : t.length ≤ 64) : gT (Code.text t ++ R, false) = (t, R, false) := by
  have h := Code.num_short t.length (by omega) (t ++ R)
  have e : Code.text t ++ R = Code.short t.length ++ (t ++ R) := by unfold Code.text; rw [List.append_assoc]
  unfold gT
  rw [e, rText_yes _ _ t.length (Code.short t.length).length h (by rw [List.length_append, List.length_append]; omega)]
  simp
theorem g8_ok {s : Rs} (h : (g8 s).2.2 = false) : s.2 = false ∧ s.1 = UInt8.ofNat (g8 s).1 :: (g8 s).2.1 ∧ (g8 s).1 < 256 := by
  unfold g8 rWide at *
  split at h
  · cases h
  · rename_i hn
    rw [if_neg hn]
    obtain ⟨l, bad⟩ := s
    simp only [not_or, Bool.not_eq_true, Nat.not_lt] at hn
    cases l with
    | nil => simp at hn
    | cons c r =>
      refine ⟨hn.1, ?_, ?_⟩
      · simp [Code.leNat]
      · have := c.toNat_lt
        simp [Code.leNat]
        omega
theorem gU_ok {s : Rs} (h : (gU s).2.2 = false) : s.2 = false ∧ s.1 = Code.short (gU s).1 ++ (gU s).2.1 ∧ (gU s).1 < 18446744073709551616 := by
  obtain ⟨l, bad⟩ := s
  unfold gU rUint at *
  cases bad with
  | true => simp at h
  | false =>
    simp only [Bool.false_eq_true, if_false] at h ⊢
    cases hn : Code.num l with
    | none => rw [hn] at h; simp at h
    | some p =>
      obtain ⟨x, n⟩ := p
      obtain ⟨h1, h2, h3⟩ := Code.num_form hn
      exact ⟨trivial, by simp only; rw [← h2, List.take_append_drop], h1⟩
theorem gT_ok {s : Rs} (h : (gT s).2.2 = false) : s.2 = false ∧ s.1 = Code.text (gT s).1 ++ (gT s).2.1 ∧ (gT s).1.length ≤ 64 := by
  obtain ⟨l, bad⟩ := s
  unfold gT at *
  cases bad with
  | true => simp [rText_bad] at h
  | false =>
    simp only at h ⊢
    cases hn : Code.num l with
    | none => rw [rText_none _ _ _ hn] at h; cases h
    | some p =>
      obtain ⟨x, n⟩ := p
      by_cases hc : 0 ≤ (64 : Int) ∧ (x : Int) ≤ 64 ∧ x ≤ l.length - n
      · rw [rText_yes _ _ _ _ hn hc]
        obtain ⟨h1, h2, h3⟩ := Code.num_form hn
        have hl := Code.num_len hn
        have hx : ((l.drop n).take x).length = x := by simp; omega
        refine ⟨trivial, ?_, by simp only [hx]; omega⟩
        simp only
        unfold Code.text
        rw [hx, ← h2, List.append_assoc, List.take_append_drop, List.take_append_drop]
      · rw [rText_no _ _ _ _ _ hn hc] at h; cases h

theorem g8_lt (s : Rs) : (g8 s).1 < 256 := rWide_lt s.1 s.2 1
theorem gU_lt (s : Rs) : (gU s).1 < 18446744073709551616 := by
  unfold gU rUint
  split
  · omega
  · split
    · omega
    · rename_i x n h
      exact (Code.num_form h).1
theorem g8_len (s : Rs) : (g8 s).2.1.length ≤ s.1.length := by unfold g8 rWide; split <;> simp
theorem gU_len (s : Rs) : (gU s).2.1.length ≤ s.1.length := by
  unfold gU rUint
  split
  · simp
  · split <;> simp
theorem gT_len (s : Rs) : (gT s).2.1.length ≤ s.1.length := by
  unfold gT rText
  split
  · simp
  · split
    · simp
    · split
      · simp
      · simp
theorem gT_body_len (s : Rs) : (gT s).1.length ≤ s.1.length := by
  unfold gT rText
  split
  · simp
  · split
    · simp
    · split
      · simp; omega
      · simp
section
variable {w0 w : World} {Ps : List SP} {i g : Nat}
theorem sep_g8 {s : Rs} (h : Sep w0 w Ps) (hi : Ps[i]? = some (Rd g s.1 s.2)) (hl : s.1.length ≤ 1000000000) :
    Calls Try.prog 40 #[.pointer (some ⟨g, 0, none⟩)] w fun e w' => e = .returned (.int .u8 ((g8 s).1 : Int)) ∧ Sep w0 w' (Ps.set i (Rd g (g8 s).2.1 (g8 s).2.2)) :=
  sep_reads h hi (g8_len s) fun rb hr => rU8_any w g rb s.1 s.2 hr hl
theorem sep_gU {s : Rs} (h : Sep w0 w Ps) (hi : Ps[i]? = some (Rd g s.1 s.2)) (hl : s.1.length ≤ 1000000000) :
    Calls Try.prog 44 #[.pointer (some ⟨g, 0, none⟩)] w fun e w' => e = .returned (.int .u64 ((gU s).1 : Int)) ∧ Sep w0 w' (Ps.set i (Rd g (gU s).2.1 (gU s).2.2)) :=
  sep_reads h hi (gU_len s) fun rb hr => uintR_any w g rb s.1 s.2 hr hl
theorem sep_gT {s : Rs} (h : Sep w0 w Ps) (hi : Ps[i]? = some (Rd g s.1 s.2)) (hl : s.1.length ≤ 1000000000) :
    Calls Try.prog 43 #[.pointer (some ⟨g, 0, none⟩), .int .i64 64] w fun e w' => e = .returned (.string ⟨(gT s).1.toArray⟩) ∧ Sep w0 w' (Ps.set i (Rd g (gT s).2.1 (gT s).2.2)) :=
  sep_reads h hi (gT_len s) fun rb hr => textR_any w g rb s.1 s.2 64 hr hl (by omega) (by omega)
theorem sep_gE {s : Rs} (h : Sep w0 w Ps) (hi : Ps[i]? = some (Rd g s.1 s.2)) :
    Calls Try.prog 46 #[.pointer (some ⟨g, 0, none⟩)] w fun e w' => e = .returned (.int .i64 (errOf (rEnd s.1 s.2))) ∧ Sep w0 w' (Ps.set i (Rd g s.1 (rEnd s.1 s.2))) :=
  sep_reads h hi (Nat.le_refl _) fun rb hr => end_any w g rb s.1 s.2 hr
theorem sep_gEb {s : Rs} {b : Bool} {z : Int} (h : Sep w0 w Ps) (hi : Ps[i]? = some (Rd g s.1 s.2)) (hb : rEnd s.1 s.2 = b) (hz : errOf b = z) :
    Calls Try.prog 46 #[.pointer (some ⟨g, 0, none⟩)] w fun e w' => e = .returned (.int .i64 z) ∧ Sep w0 w' (Ps.set i (Rd g s.1 b)) := by
  have h := sep_gE h hi
  rw [hb, hz] at h
  exact h
end

/-- a life at the front -/
def gP (s : Rs) : (Nat × Nat) × Rs := if (gU (g8 s).2).2.2 = true ∨ mayPB ((g8 s).1 : Nat) (gU (g8 s).2).1 = false then ((0, 0), (gU (g8 s).2).2.1, true) else (((g8 s).1, (gU (g8 s).2).1), (gU (g8 s).2).2)
/-- a view's name at the front -/
def gI (s : Rs) : (Nat × Nat × Nat) × Rs := if (gP (gU s).2).2.2 = true ∨ mayIdB (gU s).1 ((gP (gU s).2).1.1 : Nat) (gP (gU s).2).1.2 = false then ((0, 0, 0), (gP (gU s).2).2.1, true) else (((gU s).1, (gP (gU s).2).1.1, (gP (gU s).2).1.2), (gP (gU s).2).2)
theorem gP_len (s : Rs) : (gP s).2.1.length ≤ s.1.length := by
  have h1 := g8_len s
  have h2 := gU_len (g8 s).2
  unfold gP
  split
  · exact Nat.le_trans h2 h1
  · exact Nat.le_trans h2 h1
theorem gI_len (s : Rs) : (gI s).2.1.length ≤ s.1.length := by
  have h1 := gU_len s
  have h2 := gP_len (gU s).2
  unfold gI
  split
  · exact Nat.le_trans h2 h1
  · exact Nat.le_trans h2 h1
theorem drop_last {w0 w : World} {Qs : List SP} {P : SP} (h : Sep w0 w (Qs ++ [P])) : Sep w0 w Qs := by
  have := h.drop Qs.length
  rwa [erase_last rfl] at this
theorem set_last {Qs : List SP} {P Q : SP} : (Qs ++ [P]).set Qs.length Q = Qs ++ [Q] := by
  rw [List.set_append_right _ _ (Nat.le_refl _)]; simp
theorem sep_put2 {w0 w : World} {Qs : List SP} {g : Nat} {t : TypeId} {vs : Array Value} (h : Sep w0 w (Qs ++ [Ce g t vs])) (a0 a1 : Value) : Sep w0 ((w.setCell ⟨g, 0, none⟩ a0).setCell ⟨g, 1, none⟩ a1) Qs := by
  have h := sep_ceSet (i := Qs.length) h (last_get rfl) 0 a0
  rw [set_last] at h
  have h := sep_ceSet (i := Qs.length) h (last_get rfl) 1 a1
  rw [set_last] at h
  exact drop_last h
theorem sep_put3 {w0 w : World} {Qs : List SP} {g : Nat} {t : TypeId} {vs : Array Value} (h : Sep w0 w (Qs ++ [Ce g t vs])) (a0 a1 a2 : Value) : Sep w0 (((w.setCell ⟨g, 0, none⟩ a0).setCell ⟨g, 1, none⟩ a1).setCell ⟨g, 2, none⟩ a2) Qs := by
  have h := sep_ceSet (i := Qs.length) h (last_get rfl) 0 a0
  rw [set_last] at h
  have h := sep_ceSet (i := Qs.length) h (last_get rfl) 1 a1
  rw [set_last] at h
  have h := sep_ceSet (i := Qs.length) h (last_get rfl) 2 a2
  rw [set_last] at h
  exact drop_last h
section
variable {w0 w : World} {Ps : List SP} {i g : Nat}
theorem sep_fail {s : Rs} (h : Sep w0 w Ps) (hi : Ps[i]? = some (Rd g s.1 s.2)) :
    Calls Try.prog 45 #[.pointer (some ⟨g, 0, none⟩)] w fun e w' => e = .returned (.tuple #[]) ∧ Sep w0 w' (Ps.set i (Rd g s.1 true)) :=
  sep_reads h hi (Nat.le_refl _) fun rb hr => fail_any w g rb s.1 s.2 hr
theorem procMayB {w : World} {node : Int} {inc : Nat} {b : Bool} (hb : mayPB node inc = b) : Calls Try.prog 20 #[.agg #[.int .i64 node, .int .u64 (inc : Int)]] w fun e w' => e = .returned (.bool b) ∧ Below w.heap.size w w' := by
  have h := procMay_any w node inc
  rw [hb] at h
  exact h
theorem viewMayB {w : World} {round : Nat} {node : Int} {inc : Nat} {b : Bool} (hb : mayIdB round node inc = b) : Calls Try.prog 21 #[.agg #[.int .u64 (round : Int), .int .i64 node, .int .u64 (inc : Int)]] w fun e w' => e = .returned (.bool b) ∧ Below w.heap.size w w' := by
  have h := viewMayId_any w round node inc
  rw [hb] at h
  exact h
set_option maxHeartbeats 1600000 in
theorem sep_gP {s : Rs} (h : Sep w0 w Ps) (hi : Ps[i]? = some (Rd g s.1 s.2)) (hl : s.1.length ≤ 1000000000) :
    Calls Try.prog 41 #[.pointer (some ⟨g, 0, none⟩)] w fun e w' => e = .returned (.agg #[.int .i64 ((gP s).1.1 : Nat), .int .u64 ((gP s).1.2 : Nat)]) ∧ Sep w0 w' (Ps.set i (Rd g (gP s).2.1 (gP s).2.2)) := by
  have hlt := (List.getElem?_eq_some_iff.1 hi).1
  have HS0 := Lib.hid (sep_ce h #[.int .i64 0, .int .u64 0] 24)
  have HI := Lib.hid hi
  have h8 := g8_lt s
  have hl8 := g8_len s
  have HG := Lib.hid (rfl : gP s = gP s)
  clear h hi
  go_enter Try.func41, Try.ntmps41
  go_wp2_with fail
  refine (sep_g8 (i := i) (s := s) HS0.out (app_get hlt HI.out) hl).mono ?_
  rintro e w1 ⟨rfl, hs1⟩
  rw [List.set_append_left _ _ hlt] at hs1
  obtain ⟨r1, Hr1⟩ : ∃ r, Hid (g8 s = r) := ⟨_, Lib.hid rfl⟩
  rw [Hr1.out] at hs1 h8 hl8 ⊢
  have HS1 := Lib.hid hs1
  clear hs1 HS0
  go_wp2_with fail
  refine (sep_gU (i := i) (s := r1.2) HS1.out (app_get (by rw [List.length_set]; exact hlt) (List.getElem?_set_self hlt)) (by omega)).mono ?_
  rintro e w2 ⟨rfl, hs2⟩
  rw [List.set_append_left _ _ (by rw [List.length_set]; exact hlt), List.set_set] at hs2
  have hlu := gU_lt r1.2
  obtain ⟨r2, Hr2⟩ : ∃ r, Hid (gU r1.2 = r) := ⟨_, Lib.hid rfl⟩
  rw [Hr2.out] at hs2 hlu ⊢
  obtain ⟨n, Hn⟩ : ∃ n, Hid (r1.1 = n) := ⟨_, Lib.hid rfl⟩
  obtain ⟨x, Hx⟩ : ∃ x, Hid (r2.1 = x) := ⟨_, Lib.hid rfl⟩
  obtain ⟨s2, Hs2⟩ : ∃ x, Hid (r2.2 = x) := ⟨_, Lib.hid rfl⟩
  rw [Hn.out] at h8 ⊢
  rw [Hx.out] at hlu ⊢
  rw [Hs2.out] at hs2
  have HGP : Hid (gP s = if s2.2 = true ∨ mayPB (n : Nat) x = false then ((0, 0), s2.1, true) else ((n, x), s2)) := Lib.hid (by
    unfold gP
    rw [Hr1.out, Hr2.out, Hn.out, Hx.out, Hs2.out])
  have hs3 := sep_ce hs2 #[.int .i64 (n : Int), .int .u64 (x : Int)] 24
  have hz := sep_ceLt (i := Ps.length) hs2 (last_get (by simp))
  have HS3 := Lib.hid hs3
  clear hs2 hs3 HS1
  go_wp2_with fail
  cases hbad : s2.2 with
  | true =>
    have HBD := Lib.hid hbad
    have HGB : Hid (gP s = ((0, 0), s2.1, true)) := Lib.hid (by rw [HGP.out, if_pos (.inl hbad)])
    refine (sep_err (i := i) HS3.out (app_get (by simp; omega) (app_get (by rw [List.length_set]; exact hlt) (List.getElem?_set_self hlt)))).mono ?_
    rintro e w4 ⟨rfl, rfl⟩
    rw [show errOf s2.2 = 3 by rw [HBD.out]; rfl]
    clear hbad
    go_wp2_with fail
    refine (sep_fail (i := i) (s := s2) (HS3.out) (app_get (by simp; omega) (app_get (by rw [List.length_set]; exact hlt) (List.getElem?_set_self hlt)))).mono ?_
    rintro e w5 ⟨rfl, hs5⟩
    rw [List.set_append_left _ _ (by simp; omega), List.set_append_left _ _ (by rw [List.length_set]; exact hlt), List.set_set] at hs5
    have HS5 := Lib.hid hs5
    clear hs5
    have k0 := sep_ceAt (i := Ps.length) (HS5.out) (app_get (by simp) (last_get (by simp))) 0 rfl
    have k1 := sep_ceAt (i := Ps.length) (HS5.out) (app_get (by simp) (last_get (by simp))) 1 rfl
    have y0 := sep_ceFrozen (i := Ps.length) (HS5.out) (app_get (by simp) (last_get (by simp))) 0
    have y1 := sep_ceFrozen (i := Ps.length) (HS5.out) (app_get (by simp) (last_get (by simp))) 1
    go_wp2_with fail
    have hs6 := sep_put2 (drop_last HS5.out) (.int .i64 0) (.int .u64 0)
    refine bodyPost_ret (v := .agg #[.int .i64 0, .int .u64 0]) (by simp [results, Try.results41, go_sem, k0, k1]) rfl ?_
    rw [HGB.out]
    exact ⟨rfl, hs6⟩
  | false =>
    have HBD := Lib.hid hbad
    refine (sep_err (i := i) HS3.out (app_get (by simp; omega) (app_get (by rw [List.length_set]; exact hlt) (List.getElem?_set_self hlt)))).mono ?_
    rintro e w4 ⟨rfl, rfl⟩
    rw [show errOf s2.2 = 0 by rw [HBD.out]; rfl]
    clear hbad
    have z0 := sep_ceAt (i := Ps.length + 1) HS3.out (last_get (by simp)) 0 rfl
    have z1 := sep_ceAt (i := Ps.length + 1) HS3.out (last_get (by simp)) 1 rfl
    go_wp2_with fail
    clear z0 z1
    cases hmp : mayPB (n : Nat) x with
    | false =>
      have HGB : Hid (gP s = ((0, 0), s2.1, true)) := Lib.hid (by rw [HGP.out, if_pos (.inr hmp)])
      refine (procMayB hmp).mono ?_
      rintro e w4 ⟨rfl, hb4⟩
      have HS4 := Lib.hid (HS3.out.grow hb4)
      clear HS3 hb4 hmp
      go_wp2_with fail
      refine (sep_fail (i := i) (s := s2) (HS4.out) (app_get (by simp; omega) (app_get (by rw [List.length_set]; exact hlt) (List.getElem?_set_self hlt)))).mono ?_
      rintro e w5 ⟨rfl, hs5⟩
      rw [List.set_append_left _ _ (by simp; omega), List.set_append_left _ _ (by rw [List.length_set]; exact hlt), List.set_set] at hs5
      have HS5 := Lib.hid hs5
      clear hs5
      have k0 := sep_ceAt (i := Ps.length) (HS5.out) (app_get (by simp) (last_get (by simp))) 0 rfl
      have k1 := sep_ceAt (i := Ps.length) (HS5.out) (app_get (by simp) (last_get (by simp))) 1 rfl
      have y0 := sep_ceFrozen (i := Ps.length) (HS5.out) (app_get (by simp) (last_get (by simp))) 0
      have y1 := sep_ceFrozen (i := Ps.length) (HS5.out) (app_get (by simp) (last_get (by simp))) 1
      go_wp2_with fail
      have hs6 := sep_put2 (drop_last HS5.out) (.int .i64 0) (.int .u64 0)
      refine bodyPost_ret (v := .agg #[.int .i64 0, .int .u64 0]) (by simp [results, Try.results41, go_sem, k0, k1]) rfl ?_
      rw [HGB.out]
      exact ⟨rfl, hs6⟩
    | true =>
      have HGB : Hid (gP s = ((n, x), s2)) := Lib.hid (by rw [HGP.out, if_neg (by rw [HBD.out, hmp]; simp)])
      refine (procMayB hmp).mono ?_
      rintro e w4 ⟨rfl, hb4⟩
      have HS4 := Lib.hid (HS3.out.grow hb4)
      clear HS3 hb4 hmp
      have z0 := sep_ceAt (i := Ps.length + 1) HS4.out (last_get (by simp)) 0 rfl
      have z1 := sep_ceAt (i := Ps.length + 1) HS4.out (last_get (by simp)) 1 rfl
      have k0 := sep_ceAt (i := Ps.length) (HS4.out) (app_get (by simp) (last_get (by simp))) 0 rfl
      have k1 := sep_ceAt (i := Ps.length) (HS4.out) (app_get (by simp) (last_get (by simp))) 1 rfl
      have y0 := sep_ceFrozen (i := Ps.length) (HS4.out) (app_get (by simp) (last_get (by simp))) 0
      have y1 := sep_ceFrozen (i := Ps.length) (HS4.out) (app_get (by simp) (last_get (by simp))) 1
      go_wp2_with fail
      have hs6 := sep_put2 (drop_last HS4.out) (.int .i64 (n : Int)) (.int .u64 (x : Int))
      refine bodyPost_ret (v := .agg #[.int .i64 (n : Int), .int .u64 (x : Int)]) (by simp [results, Try.results41, go_sem, k0, k1]) rfl ?_
      rw [HGB.out]
      exact ⟨rfl, hs6⟩
set_option maxHeartbeats 1600000 in
theorem sep_gI {s : Rs} (h : Sep w0 w Ps) (hi : Ps[i]? = some (Rd g s.1 s.2)) (hl : s.1.length ≤ 1000000000) :
    Calls Try.prog 42 #[.pointer (some ⟨g, 0, none⟩)] w fun e w' => e = .returned (.agg #[.int .u64 ((gI s).1.1 : Nat), .int .i64 ((gI s).1.2.1 : Nat), .int .u64 ((gI s).1.2.2 : Nat)]) ∧ Sep w0 w' (Ps.set i (Rd g (gI s).2.1 (gI s).2.2)) := by
  have hlt := (List.getElem?_eq_some_iff.1 hi).1
  have HS0 := Lib.hid (sep_ce h #[.int .u64 0, .int .i64 0, .int .u64 0] 26)
  have HI := Lib.hid hi
  have hl8 := gU_len s
  clear h hi
  go_enter Try.func42, Try.ntmps42
  go_wp2_with fail
  refine (sep_gU (i := i) (s := s) HS0.out (app_get hlt HI.out) hl).mono ?_
  rintro e w1 ⟨rfl, hs1⟩
  rw [List.set_append_left _ _ hlt] at hs1
  have hlu := gU_lt s
  obtain ⟨r1, Hr1⟩ : ∃ r, Hid (gU s = r) := ⟨_, Lib.hid rfl⟩
  rw [Hr1.out] at hs1 hl8 hlu ⊢
  have HS1 := Lib.hid hs1
  clear hs1 HS0
  go_wp2_with fail
  refine (sep_gP (i := i) (s := r1.2) HS1.out (app_get (by rw [List.length_set]; exact hlt) (List.getElem?_set_self hlt)) (by omega)).mono ?_
  rintro e w2 ⟨rfl, hs2⟩
  rw [List.set_append_left _ _ (by rw [List.length_set]; exact hlt), List.set_set] at hs2
  obtain ⟨r2, Hr2⟩ : ∃ r, Hid (gP r1.2 = r) := ⟨_, Lib.hid rfl⟩
  rw [Hr2.out] at hs2 ⊢
  obtain ⟨rd, Hrd⟩ : ∃ n, Hid (r1.1 = n) := ⟨_, Lib.hid rfl⟩
  obtain ⟨n, Hn⟩ : ∃ n, Hid (r2.1.1 = n) := ⟨_, Lib.hid rfl⟩
  obtain ⟨x, Hx⟩ : ∃ x, Hid (r2.1.2 = x) := ⟨_, Lib.hid rfl⟩
  obtain ⟨s2, Hs2⟩ : ∃ x, Hid (r2.2 = x) := ⟨_, Lib.hid rfl⟩
  rw [Hrd.out] at hlu ⊢
  rw [Hn.out, Hx.out]
  rw [Hs2.out] at hs2
  have HGP : Hid (gI s = if s2.2 = true ∨ mayIdB rd (n : Nat) x = false then ((0, 0, 0), s2.1, true) else ((rd, n, x), s2)) := Lib.hid (by
    unfold gI
    rw [Hr1.out, Hr2.out, Hrd.out, Hn.out, Hx.out, Hs2.out])
  have hs3 := sep_ce hs2 #[.int .u64 (rd : Int), .int .i64 (n : Int), .int .u64 (x : Int)] 26
  have hz := sep_ceLt (i := Ps.length) hs2 (last_get (by simp))
  have HS3 := Lib.hid hs3
  clear hs2 hs3 HS1
  go_wp2_with fail
  cases hbad : s2.2 with
  | true =>
    have HBD := Lib.hid hbad
    have HGB : Hid (gI s = ((0, 0, 0), s2.1, true)) := Lib.hid (by rw [HGP.out, if_pos (.inl hbad)])
    refine (sep_err (i := i) HS3.out (app_get (by simp; omega) (app_get (by rw [List.length_set]; exact hlt) (List.getElem?_set_self hlt)))).mono ?_
    rintro e w4 ⟨rfl, rfl⟩
    rw [show errOf s2.2 = 3 by rw [HBD.out]; rfl]
    clear hbad
    go_wp2_with fail
    refine (sep_fail (i := i) (s := s2) (HS3.out) (app_get (by simp; omega) (app_get (by rw [List.length_set]; exact hlt) (List.getElem?_set_self hlt)))).mono ?_
    rintro e w5 ⟨rfl, hs5⟩
    rw [List.set_append_left _ _ (by simp; omega), List.set_append_left _ _ (by rw [List.length_set]; exact hlt), List.set_set] at hs5
    have HS5 := Lib.hid hs5
    clear hs5
    have k0 := sep_ceAt (i := Ps.length) (HS5.out) (app_get (by simp) (last_get (by simp))) 0 rfl
    have k1 := sep_ceAt (i := Ps.length) (HS5.out) (app_get (by simp) (last_get (by simp))) 1 rfl
    have k2 := sep_ceAt (i := Ps.length) (HS5.out) (app_get (by simp) (last_get (by simp))) 2 rfl
    have y0 := sep_ceFrozen (i := Ps.length) (HS5.out) (app_get (by simp) (last_get (by simp))) 0
    have y1 := sep_ceFrozen (i := Ps.length) (HS5.out) (app_get (by simp) (last_get (by simp))) 1
    have y2 := sep_ceFrozen (i := Ps.length) (HS5.out) (app_get (by simp) (last_get (by simp))) 2
    go_wp2_with fail
    have hs6 := sep_put3 (drop_last HS5.out) (.int .u64 0) (.int .i64 0) (.int .u64 0)
    refine bodyPost_ret (v := .agg #[.int .u64 0, .int .i64 0, .int .u64 0]) (by simp [results, Try.results42, go_sem, k0, k1, k2]) rfl ?_
    rw [HGB.out]
    exact ⟨rfl, hs6⟩
  | false =>
    have HBD := Lib.hid hbad
    refine (sep_err (i := i) HS3.out (app_get (by simp; omega) (app_get (by rw [List.length_set]; exact hlt) (List.getElem?_set_self hlt)))).mono ?_
    rintro e w4 ⟨rfl, rfl⟩
    rw [show errOf s2.2 = 0 by rw [HBD.out]; rfl]
    clear hbad
    have z0 := sep_ceAt (i := Ps.length + 1) HS3.out (last_get (by simp)) 0 rfl
    have z1 := sep_ceAt (i := Ps.length + 1) HS3.out (last_get (by simp)) 1 rfl
    have z2 := sep_ceAt (i := Ps.length + 1) HS3.out (last_get (by simp)) 2 rfl
    go_wp2_with fail
    clear z0 z1 z2
    cases hmp : mayIdB rd (n : Nat) x with
    | false =>
      have HGB : Hid (gI s = ((0, 0, 0), s2.1, true)) := Lib.hid (by rw [HGP.out, if_pos (.inr hmp)])
      refine (viewMayB hmp).mono ?_
      rintro e w4 ⟨rfl, hb4⟩
      have HS4 := Lib.hid (HS3.out.grow hb4)
      clear HS3 hb4 hmp
      go_wp2_with fail
      refine (sep_fail (i := i) (s := s2) (HS4.out) (app_get (by simp; omega) (app_get (by rw [List.length_set]; exact hlt) (List.getElem?_set_self hlt)))).mono ?_
      rintro e w5 ⟨rfl, hs5⟩
      rw [List.set_append_left _ _ (by simp; omega), List.set_append_left _ _ (by rw [List.length_set]; exact hlt), List.set_set] at hs5
      have HS5 := Lib.hid hs5
      clear hs5
      have k0 := sep_ceAt (i := Ps.length) (HS5.out) (app_get (by simp) (last_get (by simp))) 0 rfl
      have k1 := sep_ceAt (i := Ps.length) (HS5.out) (app_get (by simp) (last_get (by simp))) 1 rfl
      have k2 := sep_ceAt (i := Ps.length) (HS5.out) (app_get (by simp) (last_get (by simp))) 2 rfl
      have y0 := sep_ceFrozen (i := Ps.length) (HS5.out) (app_get (by simp) (last_get (by simp))) 0
      have y1 := sep_ceFrozen (i := Ps.length) (HS5.out) (app_get (by simp) (last_get (by simp))) 1
      have y2 := sep_ceFrozen (i := Ps.length) (HS5.out) (app_get (by simp) (last_get (by simp))) 2
      go_wp2_with fail
      have hs6 := sep_put3 (drop_last HS5.out) (.int .u64 0) (.int .i64 0) (.int .u64 0)
      refine bodyPost_ret (v := .agg #[.int .u64 0, .int .i64 0, .int .u64 0]) (by simp [results, Try.results42, go_sem, k0, k1, k2]) rfl ?_
      rw [HGB.out]
      exact ⟨rfl, hs6⟩
    | true =>
      have HGB : Hid (gI s = ((rd, n, x), s2)) := Lib.hid (by rw [HGP.out, if_neg (by rw [HBD.out, hmp]; simp)])
      refine (viewMayB hmp).mono ?_
      rintro e w4 ⟨rfl, hb4⟩
      have HS4 := Lib.hid (HS3.out.grow hb4)
      clear HS3 hb4 hmp
      have z0 := sep_ceAt (i := Ps.length + 1) HS4.out (last_get (by simp)) 0 rfl
      have z1 := sep_ceAt (i := Ps.length + 1) HS4.out (last_get (by simp)) 1 rfl
      have z2 := sep_ceAt (i := Ps.length + 1) HS4.out (last_get (by simp)) 2 rfl
      have k0 := sep_ceAt (i := Ps.length) (HS4.out) (app_get (by simp) (last_get (by simp))) 0 rfl
      have k1 := sep_ceAt (i := Ps.length) (HS4.out) (app_get (by simp) (last_get (by simp))) 1 rfl
      have k2 := sep_ceAt (i := Ps.length) (HS4.out) (app_get (by simp) (last_get (by simp))) 2 rfl
      have y0 := sep_ceFrozen (i := Ps.length) (HS4.out) (app_get (by simp) (last_get (by simp))) 0
      have y1 := sep_ceFrozen (i := Ps.length) (HS4.out) (app_get (by simp) (last_get (by simp))) 1
      have y2 := sep_ceFrozen (i := Ps.length) (HS4.out) (app_get (by simp) (last_get (by simp))) 2
      go_wp2_with fail
      have hs6 := sep_put3 (drop_last HS4.out) (.int .u64 (rd : Int)) (.int .i64 (n : Int)) (.int .u64 (x : Int))
      refine bodyPost_ret (v := .agg #[.int .u64 (rd : Int), .int .i64 (n : Int), .int .u64 (x : Int)]) (by simp [results, Try.results42, go_sem, k0, k1, k2]) rfl ?_
      rw [HGB.out]
      exact ⟨rfl, hs6⟩
end
end Go.Proofs.Ytbnjlminjopaaaa
