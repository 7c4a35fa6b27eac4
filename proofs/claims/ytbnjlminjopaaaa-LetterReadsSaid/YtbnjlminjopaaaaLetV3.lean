/- The walks of the document's readers: a life, a view's name. -/
import Derived.Test.YtbnjlminjopaaaaLetV2
namespace Go.Proofs.Ytbnjlminjopaaaa
open Go Go.RowKit
set_option linter.unusedVariables false
set_option maxRecDepth 100000

theorem St.map {α : Type} (f : Rs → α × Rs) (v0 : α) (hf : ∀ l, (f (l, true)).1 = v0 ∧ (f (l, true)).2.2 = true) {a b : Rs} (h : St a b) : (f a).1 = (f b).1 ∧ ∀ c, St (f b).2 c → St (f a).2 c := by
  obtain ⟨la, ba⟩ := a
  cases ba with
  | false =>
    obtain rfl := h.2 rfl
    exact ⟨rfl, fun c hc => hc⟩
  | true =>
    obtain ⟨lb, bb⟩ := b
    obtain rfl : bb = true := h.1
    refine ⟨by rw [(hf la).1, (hf lb).1], fun c hc => ⟨by rw [hc.1, (hf la).2, (hf lb).2], fun e => by rw [(hf la).2] at e; cases e⟩⟩
theorem St.g8 {a b : Rs} (h : St a b) : (g8 a).1 = (g8 b).1 ∧ ∀ c, St (Proofs.Ytbnjlminjopaaaa.g8 b).2 c → St (Proofs.Ytbnjlminjopaaaa.g8 a).2 c := St.map Proofs.Ytbnjlminjopaaaa.g8 0 (fun l => by rw [g8_fault l true (.inl rfl)]; exact ⟨rfl, rfl⟩) h
theorem St.gU {a b : Rs} (h : St a b) : (gU a).1 = (gU b).1 ∧ ∀ c, St (Proofs.Ytbnjlminjopaaaa.gU b).2 c → St (Proofs.Ytbnjlminjopaaaa.gU a).2 c := St.map Proofs.Ytbnjlminjopaaaa.gU 0 (fun l => ⟨rfl, rfl⟩) h
theorem gP_bad (l : List UInt8) : gP (l, true) = ((0, 0), l, true) := by
  unfold gP
  rw [g8_fault l true (.inl rfl), gU_bad]
  exact if_pos (.inl rfl)
theorem St.gP {a b : Rs} (h : St a b) : (gP a).1 = (gP b).1 ∧ ∀ c, St (Proofs.Ytbnjlminjopaaaa.gP b).2 c → St (Proofs.Ytbnjlminjopaaaa.gP a).2 c := St.map Proofs.Ytbnjlminjopaaaa.gP (0, 0) (fun l => by rw [gP_bad]; exact ⟨rfl, rfl⟩) h
theorem gI_bad (l : List UInt8) : gI (l, true) = ((0, 0, 0), l, true) := by
  unfold gI
  rw [gU_bad, gP_bad]
  exact if_pos (.inl rfl)
theorem St.gI {a b : Rs} (h : St a b) : (gI a).1 = (gI b).1 ∧ ∀ c, St (Proofs.Ytbnjlminjopaaaa.gI b).2 c → St (Proofs.Ytbnjlminjopaaaa.gI a).2 c := St.map Proofs.Ytbnjlminjopaaaa.gI (0, 0, 0) (fun l => by rw [gI_bad]; exact ⟨rfl, rfl⟩) h
theorem gT_bad (l : List UInt8) : gT (l, true) = ([], l, true) := rfl
theorem St.gT {a b : Rs} (h : St a b) : (gT a).1 = (gT b).1 ∧ ∀ c, St (Proofs.Ytbnjlminjopaaaa.gT b).2 c → St (Proofs.Ytbnjlminjopaaaa.gT a).2 c := St.map Proofs.Ytbnjlminjopaaaa.gT [] (fun l => ⟨rfl, rfl⟩) h
theorem refMayB {w : World} {node : Int} {inc : Nat} {b : Bool} (hb : mayPB node inc = b) : Calls Try.prog 23 #[.agg #[.int .i64 node, .int .u64 (inc : Int)]] w fun e w' => e = .returned (.bool b) ∧ Below w.heap.size w w' := by
  have h := ref03May_any w node inc
  rw [hb] at h
  exact h
theorem refMayIdB {w : World} {round : Nat} {node : Int} {inc : Nat} {b : Bool} (hb : mayIdB round node inc = b) : Calls Try.prog 24 #[.agg #[.int .u64 (round : Int), .int .i64 node, .int .u64 (inc : Int)]] w fun e w' => e = .returned (.bool b) ∧ Below w.heap.size w w' := by
  have h := ref04MayId_any w round node inc
  rw [hb] at h
  exact h
section
variable {w0 w : World} {Ps : List SP} {i g : Nat}

set_option maxHeartbeats 1600000 in
theorem sep_iP {s : Rs} (h : Sep w0 w Ps) (hi : Ps[i]? = some (Ri w0 g s)) :
    Calls Try.prog 48 #[.pointer (some ⟨g, 0, none⟩)] w fun e w' => e = .returned (.agg #[.int .i64 ((gP s).1.1 : Nat), .int .u64 ((gP s).1.2 : Nat)]) ∧ RiTo w0 Ps i g (gP s).2 w' := by
  have hlt := (List.getElem?_eq_some_iff.1 hi).1
  have HS0 := Lib.hid (sep_ce h #[.int .i64 0, .int .u64 0] 24)
  have HI := Lib.hid hi
  clear h hi
  go_enter Try.func48, Try.ntmps48
  go_wp2_with fail
  refine (sep_i8 (i := i) (s := s) HS0.out (app_get hlt HI.out)).mono ?_
  rintro e w1 ⟨rfl, hs1⟩
  rw [List.set_append_left _ _ hlt] at hs1
  obtain ⟨r1, Hr1⟩ : ∃ r, Hid (g8 s = r) := ⟨_, Lib.hid rfl⟩
  rw [Hr1.out] at hs1 ⊢
  have HS1 := Lib.hid hs1
  clear hs1 HS0
  go_wp2_with fail
  refine (sep_iU (i := i) (s := r1.2) HS1.out (app_get (by rw [List.length_set]; exact hlt) (List.getElem?_set_self hlt))).mono ?_
  rintro e w2 ⟨rfl, s2, hst, hs2⟩
  rw [List.set_append_left _ _ (by rw [List.length_set]; exact hlt), List.set_set] at hs2
  obtain ⟨r2, Hr2⟩ : ∃ r, Hid (gU r1.2 = r) := ⟨_, Lib.hid rfl⟩
  rw [Hr2.out] at hst ⊢
  have HST := Lib.hid hst
  obtain ⟨n, Hn⟩ : ∃ n, Hid (r1.1 = n) := ⟨_, Lib.hid rfl⟩
  obtain ⟨x, Hx⟩ : ∃ x, Hid (r2.1 = x) := ⟨_, Lib.hid rfl⟩
  rw [Hn.out, Hx.out]
  have HGP : Hid (gP s = if r2.2.2 = true ∨ mayPB (n : Nat) x = false then ((0, 0), r2.2.1, true) else ((n, x), r2.2)) := Lib.hid (by
    unfold gP
    rw [Hr1.out, Hr2.out, Hn.out, Hx.out])
  have HS3 := Lib.hid (sep_ce hs2 #[.int .i64 (n : Int), .int .u64 (x : Int)] 24)
  have hz := sep_ceLt (i := Ps.length) hs2 (last_get (by simp))
  clear hs2 HS1 hst
  obtain ⟨Ar, cr, _, kb, _, yb, _, _, _⟩ := sep_riAt HS3.out (app_get (by simp; omega) (app_get (by rw [List.length_set]; exact hlt) (List.getElem?_set_self hlt)))
  have HSB := Lib.hid (sep_riBad HS3.out (app_get (by simp; omega) (app_get (by rw [List.length_set]; exact hlt) (List.getElem?_set_self hlt))))
  rw [List.set_append_left _ _ (by simp; omega), List.set_append_left _ _ (by rw [List.length_set]; exact hlt), List.set_set] at HSB
  cases hbad : s2.2 with
  | true =>
    have HGB : Hid (gP s = ((0, 0), r2.2.1, true)) := Lib.hid (by rw [HGP.out, if_pos (.inl (by rw [← HST.out.1]; exact hbad))])
    rw [hbad] at kb
    clear hbad
    have k0 := sep_ceAt (i := Ps.length) HSB.out (app_get (by simp) (last_get (by simp))) 0 rfl
    have y0 := sep_ceFrozen (i := Ps.length) HSB.out (app_get (by simp) (last_get (by simp))) 0
    have k1 := sep_ceAt (i := Ps.length) HSB.out (app_get (by simp) (last_get (by simp))) 1 rfl
    have y1 := sep_ceFrozen (i := Ps.length) HSB.out (app_get (by simp) (last_get (by simp))) 1
    go_wp2_with fail
    have hs6 := sep_put2 (drop_last HSB.out) (.int .i64 0) (.int .u64 0)
    refine bodyPost_ret (v := .agg #[.int .i64 0, .int .u64 0]) (by simp [results, Try.results48, go_sem, k0, k1]) rfl ?_
    rw [HGB.out]
    exact ⟨rfl, (s2.1, true), St.fault _ rfl, hs6⟩
  | false =>
    have HBD := Lib.hid hbad
    have HEQ : Hid (s2 = r2.2) := Lib.hid (HST.out.2 (by rw [← HST.out.1]; exact hbad))
    rw [hbad] at kb
    clear hbad
    have z0 := sep_ceAt (i := Ps.length + 1) HS3.out (last_get (by simp)) 0 rfl
    have z1 := sep_ceAt (i := Ps.length + 1) HS3.out (last_get (by simp)) 1 rfl
    go_wp2_with fail
    clear z0 z1
    cases hmp : mayPB (n : Nat) x with
    | false =>
      have HGB : Hid (gP s = ((0, 0), r2.2.1, true)) := Lib.hid (by rw [HGP.out, if_pos (.inr hmp)])
      refine (refMayB hmp).mono ?_
      rintro e w4 ⟨rfl, hb4⟩
      have HS4 := Lib.hid (HS3.out.grow hb4)
      clear HS3 hb4 hmp HSB kb yb
      obtain ⟨Ar, cr, _, kb, _, yb, _, _, _⟩ := sep_riAt HS4.out (app_get (by simp; omega) (app_get (by rw [List.length_set]; exact hlt) (List.getElem?_set_self hlt)))
      have HSB := Lib.hid (sep_riBad HS4.out (app_get (by simp; omega) (app_get (by rw [List.length_set]; exact hlt) (List.getElem?_set_self hlt))))
      rw [List.set_append_left _ _ (by simp; omega), List.set_append_left _ _ (by rw [List.length_set]; exact hlt), List.set_set] at HSB
      have k0 := sep_ceAt (i := Ps.length) HSB.out (app_get (by simp) (last_get (by simp))) 0 rfl
      have y0 := sep_ceFrozen (i := Ps.length) HSB.out (app_get (by simp) (last_get (by simp))) 0
      have k1 := sep_ceAt (i := Ps.length) HSB.out (app_get (by simp) (last_get (by simp))) 1 rfl
      have y1 := sep_ceFrozen (i := Ps.length) HSB.out (app_get (by simp) (last_get (by simp))) 1
      go_wp2_with fail
      have hs6 := sep_put2 (drop_last HSB.out) (.int .i64 0) (.int .u64 0)
      refine bodyPost_ret (v := .agg #[.int .i64 0, .int .u64 0]) (by simp [results, Try.results48, go_sem, k0, k1]) rfl ?_
      rw [HGB.out]
      exact ⟨rfl, (s2.1, true), St.fault _ rfl, hs6⟩
    | true =>
      have HGB : Hid (gP s = ((n, x), r2.2)) := Lib.hid (by rw [HGP.out, if_neg (by rw [← HST.out.1, HBD.out, hmp]; simp)])
      refine (refMayB hmp).mono ?_
      rintro e w4 ⟨rfl, hb4⟩
      have HS4 := Lib.hid (HS3.out.grow hb4)
      clear HS3 hb4 hmp HSB kb yb
      have z0 := sep_ceAt (i := Ps.length + 1) HS4.out (last_get (by simp)) 0 rfl
      have z1 := sep_ceAt (i := Ps.length + 1) HS4.out (last_get (by simp)) 1 rfl
      have k0 := sep_ceAt (i := Ps.length) HS4.out (app_get (by simp) (last_get (by simp))) 0 rfl
      have y0 := sep_ceFrozen (i := Ps.length) HS4.out (app_get (by simp) (last_get (by simp))) 0
      have k1 := sep_ceAt (i := Ps.length) HS4.out (app_get (by simp) (last_get (by simp))) 1 rfl
      have y1 := sep_ceFrozen (i := Ps.length) HS4.out (app_get (by simp) (last_get (by simp))) 1
      go_wp2_with fail
      have hs6 := sep_put2 (drop_last HS4.out) (.int .i64 (n : Int)) (.int .u64 (x : Int))
      refine bodyPost_ret (v := .agg #[.int .i64 (n : Int), .int .u64 (x : Int)]) (by simp [results, Try.results48, go_sem, k0, k1]) rfl ?_
      rw [HGB.out]
      exact ⟨rfl, s2, ⟨by rw [HEQ.out], fun _ => HEQ.out⟩, hs6⟩
set_option maxHeartbeats 1600000 in
theorem sep_iI {s : Rs} (h : Sep w0 w Ps) (hi : Ps[i]? = some (Ri w0 g s)) :
    Calls Try.prog 49 #[.pointer (some ⟨g, 0, none⟩)] w fun e w' => e = .returned (.agg #[.int .u64 ((gI s).1.1 : Nat), .int .i64 ((gI s).1.2.1 : Nat), .int .u64 ((gI s).1.2.2 : Nat)]) ∧ RiTo w0 Ps i g (gI s).2 w' := by
  have hlt := (List.getElem?_eq_some_iff.1 hi).1
  have HS0 := Lib.hid (sep_ce h #[.int .u64 0, .int .i64 0, .int .u64 0] 26)
  have HI := Lib.hid hi
  clear h hi
  go_enter Try.func49, Try.ntmps49
  go_wp2_with fail
  refine (sep_iU (i := i) (s := s) HS0.out (app_get hlt HI.out)).mono ?_
  rintro e w1 ⟨rfl, s1, hst1, hs1⟩
  rw [List.set_append_left _ _ hlt] at hs1
  obtain ⟨r1, Hr1⟩ : ∃ r, Hid (gU s = r) := ⟨_, Lib.hid rfl⟩
  rw [Hr1.out] at hst1 ⊢
  have HS1 := Lib.hid hs1
  have HP := Lib.hid hst1.gP
  clear hs1 HS0 hst1
  go_wp2_with fail
  refine (sep_iP (i := i) (s := s1) HS1.out (app_get (by rw [List.length_set]; exact hlt) (List.getElem?_set_self hlt))).mono ?_
  rintro e w2 ⟨rfl, s2, hst, hs2⟩
  rw [List.set_append_left _ _ (by rw [List.length_set]; exact hlt), List.set_set] at hs2
  rw [← HP.out.1]
  have hst := HP.out.2 _ hst
  obtain ⟨r2, Hr2⟩ : ∃ r, Hid (gP r1.2 = r) := ⟨_, Lib.hid rfl⟩
  rw [Hr2.out] at hst ⊢
  have HST := Lib.hid hst
  obtain ⟨rd, Hrd⟩ : ∃ n, Hid (r1.1 = n) := ⟨_, Lib.hid rfl⟩
  obtain ⟨n, Hn⟩ : ∃ n, Hid (r2.1.1 = n) := ⟨_, Lib.hid rfl⟩
  obtain ⟨x, Hx⟩ : ∃ x, Hid (r2.1.2 = x) := ⟨_, Lib.hid rfl⟩
  rw [Hrd.out, Hn.out, Hx.out]
  have HGP : Hid (gI s = if r2.2.2 = true ∨ mayIdB rd (n : Nat) x = false then ((0, 0, 0), r2.2.1, true) else ((rd, n, x), r2.2)) := Lib.hid (by
    unfold gI
    rw [Hr1.out, Hr2.out, Hrd.out, Hn.out, Hx.out])
  have hs3 := sep_ce (hs2.alloc (.cells #[.int .i64 (n : Int), .int .u64 (x : Int)] 24)) #[.int .u64 (rd : Int), .int .i64 (n : Int), .int .u64 (x : Int)] 26
  rw [World.size_alloc] at hs3
  have HS3 := Lib.hid hs3
  have hz := sep_ceLt (i := Ps.length) hs2 (last_get (by simp))
  clear hs2 hs3 HS1 hst HP
  obtain ⟨Ar, cr, _, kb, _, yb, _, _, _⟩ := sep_riAt HS3.out (app_get (by simp; omega) (app_get (by rw [List.length_set]; exact hlt) (List.getElem?_set_self hlt)))
  have HSB := Lib.hid (sep_riBad HS3.out (app_get (by simp; omega) (app_get (by rw [List.length_set]; exact hlt) (List.getElem?_set_self hlt))))
  rw [List.set_append_left _ _ (by simp; omega), List.set_append_left _ _ (by rw [List.length_set]; exact hlt), List.set_set] at HSB
  cases hbad : s2.2 with
  | true =>
    have HGB : Hid (gI s = ((0, 0, 0), r2.2.1, true)) := Lib.hid (by rw [HGP.out, if_pos (.inl (by rw [← HST.out.1]; exact hbad))])
    rw [hbad] at kb
    clear hbad
    have k0 := sep_ceAt (i := Ps.length) HSB.out (app_get (by simp) (last_get (by simp))) 0 rfl
    have y0 := sep_ceFrozen (i := Ps.length) HSB.out (app_get (by simp) (last_get (by simp))) 0
    have k1 := sep_ceAt (i := Ps.length) HSB.out (app_get (by simp) (last_get (by simp))) 1 rfl
    have y1 := sep_ceFrozen (i := Ps.length) HSB.out (app_get (by simp) (last_get (by simp))) 1
    have k2 := sep_ceAt (i := Ps.length) HSB.out (app_get (by simp) (last_get (by simp))) 2 rfl
    have y2 := sep_ceFrozen (i := Ps.length) HSB.out (app_get (by simp) (last_get (by simp))) 2
    go_wp2_with fail
    have hs6 := sep_put3 (drop_last HSB.out) (.int .u64 0) (.int .i64 0) (.int .u64 0)
    refine bodyPost_ret (v := .agg #[.int .u64 0, .int .i64 0, .int .u64 0]) (by simp [results, Try.results49, go_sem, k0, k1, k2]) rfl ?_
    rw [HGB.out]
    exact ⟨rfl, (s2.1, true), St.fault _ rfl, hs6⟩
  | false =>
    have HBD := Lib.hid hbad
    have HEQ : Hid (s2 = r2.2) := Lib.hid (HST.out.2 (by rw [← HST.out.1]; exact hbad))
    rw [hbad] at kb
    clear hbad
    have z0 := sep_ceAt (i := Ps.length + 1) HS3.out (last_get (by simp)) 0 rfl
    have z1 := sep_ceAt (i := Ps.length + 1) HS3.out (last_get (by simp)) 1 rfl
    have z2 := sep_ceAt (i := Ps.length + 1) HS3.out (last_get (by simp)) 2 rfl
    go_wp2_with fail
    clear z0 z1 z2
    cases hmp : mayIdB rd (n : Nat) x with
    | false =>
      have HGB : Hid (gI s = ((0, 0, 0), r2.2.1, true)) := Lib.hid (by rw [HGP.out, if_pos (.inr hmp)])
      refine (refMayIdB hmp).mono ?_
      rintro e w4 ⟨rfl, hb4⟩
      have HS4 := Lib.hid (HS3.out.grow hb4)
      clear HS3 hb4 hmp HSB kb yb
      obtain ⟨Ar, cr, _, kb, _, yb, _, _, _⟩ := sep_riAt HS4.out (app_get (by simp; omega) (app_get (by rw [List.length_set]; exact hlt) (List.getElem?_set_self hlt)))
      have HSB := Lib.hid (sep_riBad HS4.out (app_get (by simp; omega) (app_get (by rw [List.length_set]; exact hlt) (List.getElem?_set_self hlt))))
      rw [List.set_append_left _ _ (by simp; omega), List.set_append_left _ _ (by rw [List.length_set]; exact hlt), List.set_set] at HSB
      have k0 := sep_ceAt (i := Ps.length) HSB.out (app_get (by simp) (last_get (by simp))) 0 rfl
      have y0 := sep_ceFrozen (i := Ps.length) HSB.out (app_get (by simp) (last_get (by simp))) 0
      have k1 := sep_ceAt (i := Ps.length) HSB.out (app_get (by simp) (last_get (by simp))) 1 rfl
      have y1 := sep_ceFrozen (i := Ps.length) HSB.out (app_get (by simp) (last_get (by simp))) 1
      have k2 := sep_ceAt (i := Ps.length) HSB.out (app_get (by simp) (last_get (by simp))) 2 rfl
      have y2 := sep_ceFrozen (i := Ps.length) HSB.out (app_get (by simp) (last_get (by simp))) 2
      go_wp2_with fail
      have hs6 := sep_put3 (drop_last HSB.out) (.int .u64 0) (.int .i64 0) (.int .u64 0)
      refine bodyPost_ret (v := .agg #[.int .u64 0, .int .i64 0, .int .u64 0]) (by simp [results, Try.results49, go_sem, k0, k1, k2]) rfl ?_
      rw [HGB.out]
      exact ⟨rfl, (s2.1, true), St.fault _ rfl, hs6⟩
    | true =>
      have HGB : Hid (gI s = ((rd, n, x), r2.2)) := Lib.hid (by rw [HGP.out, if_neg (by rw [← HST.out.1, HBD.out, hmp]; simp)])
      refine (refMayIdB hmp).mono ?_
      rintro e w4 ⟨rfl, hb4⟩
      have HS4 := Lib.hid (HS3.out.grow hb4)
      clear HS3 hb4 hmp HSB kb yb
      have z0 := sep_ceAt (i := Ps.length + 1) HS4.out (last_get (by simp)) 0 rfl
      have z1 := sep_ceAt (i := Ps.length + 1) HS4.out (last_get (by simp)) 1 rfl
      have z2 := sep_ceAt (i := Ps.length + 1) HS4.out (last_get (by simp)) 2 rfl
      have k0 := sep_ceAt (i := Ps.length) HS4.out (app_get (by simp) (last_get (by simp))) 0 rfl
      have y0 := sep_ceFrozen (i := Ps.length) HS4.out (app_get (by simp) (last_get (by simp))) 0
      have k1 := sep_ceAt (i := Ps.length) HS4.out (app_get (by simp) (last_get (by simp))) 1 rfl
      have y1 := sep_ceFrozen (i := Ps.length) HS4.out (app_get (by simp) (last_get (by simp))) 1
      have k2 := sep_ceAt (i := Ps.length) HS4.out (app_get (by simp) (last_get (by simp))) 2 rfl
      have y2 := sep_ceFrozen (i := Ps.length) HS4.out (app_get (by simp) (last_get (by simp))) 2
      go_wp2_with fail
      have hs6 := sep_put3 (drop_last HS4.out) (.int .u64 (rd : Int)) (.int .i64 (n : Int)) (.int .u64 (x : Int))
      refine bodyPost_ret (v := .agg #[.int .u64 (rd : Int), .int .i64 (n : Int), .int .u64 (x : Int)]) (by simp [results, Try.results49, go_sem, k0, k1, k2]) rfl ?_
      rw [HGB.out]
      exact ⟨rfl, s2, ⟨by rw [HEQ.out], fun _ => HEQ.out⟩, hs6⟩
end
end Go.Proofs.Ytbnjlminjopaaaa
