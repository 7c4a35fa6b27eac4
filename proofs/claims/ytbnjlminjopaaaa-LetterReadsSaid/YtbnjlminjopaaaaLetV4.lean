/- The walk of the document's reader: a text. -/
import Derived.Test.YtbnjlminjopaaaaLetV3
namespace Go.Proofs.Ytbnjlminjopaaaa
open Go Go.RowKit
set_option linter.unusedVariables false
set_option maxRecDepth 100000

/-- a text is read: it lies in memory of its own -/
def TxTo (w0 : World) (Ps : List SP) (i g : Nat) (t : List UInt8 × Rs) (e : Ending) (w' : World) : Prop := ∃ v s', e = .returned v ∧ St t.2 s' ∧ Sep w0 w' (Ps.set i (Ri w0 g s') ++ [By v t.1])
theorem run_fromV (W : World) (A : Option Addr) (n c x : Nat) (h : x ≤ n) : (Instr.slice 27 (.slice A n c) (some (.int .u64 (x : Int))) none none).run Try.prog W = .ok (.slice (if c = x then A else A.map (·.add x)) (n - x) (c - x)) W := by
  rw [run_slice_l W 27 A n c (by kernel_rfl) .u64 (x : Int) (by omega) (by omega), elem_sizeV W]
  simp [sliced]
set_option maxHeartbeats 1600000 in
theorem sep_iT {w0 w : World} {Ps : List SP} {i g : Nat} {s : Rs} (h : Sep w0 w Ps) (hi : Ps[i]? = some (Ri w0 g s)) :
    Calls Try.prog 50 #[.pointer (some ⟨g, 0, none⟩), .int .i64 64] w (TxTo w0 Ps i g (gT s)) := by
  have hlt := (List.getElem?_eq_some_iff.1 hi).1
  have HS0 := Lib.hid h
  have HI := Lib.hid hi
  clear h hi
  obtain ⟨l, bad⟩ := s
  skip
  go_enter Try.func50, Try.ntmps50
  go_wp2_with fail
  refine (sep_iU (i := i) (s := (l, bad)) HS0.out HI.out).mono ?_
  rintro e w1 ⟨rfl, s1, hst1, hs1⟩
  have HS1 := Lib.hid hs1
  have HST := Lib.hid hst1
  have HB := Lib.hid (sep_riBad hs1 (List.getElem?_set_self hlt))
  rw [List.set_set] at HB
  obtain ⟨Ar, cr, hsC, hc, hm, hA⟩ := sep_ri hs1 (List.getElem?_set_self hlt)
  rw [List.set_set] at hsC
  have ka := sep_ceAt hsC (List.getElem?_set_self hlt) 0 rfl
  have kb := sep_ceAt hsC (List.getElem?_set_self hlt) 1 rfl
  have ya := sep_ceFrozen hsC (List.getElem?_set_self hlt) 0
  have yb := sep_ceFrozen hsC (List.getElem?_set_self hlt) 1
  have HSC := Lib.hid hsC
  have HA := Lib.hid hA
  clear hs1 hst1 HS0 HS1 hA hsC
  have hx64 := gU_lt (l, bad)
  obtain ⟨x, Hx⟩ : ∃ n, Hid ((gU (l, bad)).1 = n) := ⟨_, Lib.hid rfl⟩
  rw [Hx.out] at hx64 ⊢
  have m0 : ((s1.1.length : Nat) : Int) % 18446744073709551616 = ((s1.1.length : Nat) : Int) := by unfold maxLen at hm; omega
  have FIN : ∀ (W : World) (v : Value), (gT (l, bad)).1 = [] → (gT (l, bad)).2.2 = true → Sep w0 W (Ps.set i (Ri w0 g (s1.1, true))) → v = .slice none 0 0 → TxTo w0 Ps i g (gT (l, bad)) (.returned v) W := fun W v h1 h2 h3 h4 => by
    subst h4
    exact ⟨_, (s1.1, true), rfl, St.fault _ h2, by rw [h1]; exact sep_byNilB h3⟩
  have HFIN := Lib.hid FIN
  clear FIN
  cases hbad : s1.2 with
  | true =>
    have HG : Hid ((gT (l, bad)).1 = [] ∧ (gT (l, bad)).2.2 = true) := Lib.hid (by
      cases bad with
      | true => exact ⟨rfl, rfl⟩
      | false =>
        have h := HST.out.1
        rw [hbad] at h
        cases hn : Code.num l with
        | none => unfold gT; rw [rText_none _ _ _ hn]; exact ⟨rfl, rfl⟩
        | some p => rw [gU_some hn] at h; cases h)
    rw [hbad] at kb
    clear hbad m0
    go_wp2_with fail
    go_ret
    exact HFIN.out _ _ HG.out.1 HG.out.2 HB.out rfl
  | false =>
    have HQ : Hid (bad = false ∧ ∃ n, Code.num l = some (x, n) ∧ s1 = (l.drop n, false)) := Lib.hid (by
      have h := HST.out.1
      rw [hbad] at h
      cases bad with
      | true => cases h
      | false =>
        refine ⟨rfl, ?_⟩
        cases hn : Code.num l with
        | none => rw [gU_none hn] at h; cases h
        | some p =>
          obtain ⟨y, n⟩ := p
          have e := Hx.out
          have e2 := HST.out.2 h.symm
          rw [gU_some hn] at e e2
          obtain rfl : y = x := e
          exact ⟨n, rfl, e2⟩)
    obtain ⟨rfl, n, hn, e1⟩ := HQ.out
    have HN := Lib.hid hn
    subst e1
    have hnl := Code.num_len hn
    simp only at ka kb m0 hc HA HFIN
    clear HQ hbad hn
    have hdl : (l.drop n).length = l.length - n := by simp
    have hgy : x ≤ 64 → x ≤ l.length - n → gT (l, false) = ((l.drop n).take x, (l.drop n).drop x, false) := fun h1 h2 => rText_yes _ _ _ _ HN.out ⟨by omega, by omega, h2⟩
    obtain ⟨M, HM⟩ : ∃ L, Hid (l.drop n = L) := ⟨_, Lib.hid rfl⟩
    rw [HM.out] at ka m0 hc HA HB HSC HFIN hdl hgy
    by_cases hx : x ≤ 64 ∧ x ≤ l.length - n
    · have HG := Lib.hid (hgy hx.1 hx.2)
      obtain ⟨hx1, hx2⟩ := hx
      have hT := HA.out.take x
      have hD := HA.out.drop x 1 cr (by rw [us_length]; omega)
      rw [← us_take] at hT
      rw [Nat.mul_one, ← us_drop] at hD
      have htl : (M.take x).length = x := by rw [List.length_take]; omega
      have hdd : (M.drop x).length = M.length - x := by rw [List.length_drop]
      obtain ⟨T, HTT⟩ : ∃ L, Hid (M.take x = L) := ⟨_, Lib.hid rfl⟩
      obtain ⟨D, HDD⟩ : ∃ L, Hid (M.drop x = L) := ⟨_, Lib.hid rfl⟩
      rw [HTT.out] at hT htl HG
      rw [HDD.out] at hD hdd HG
      have rs := fun W => run_fromV W Ar M.length cr x (by omega)
      obtain ⟨SA, HSA⟩ : ∃ v, Hid ((if cr = x then Ar else Ar.map (·.add x)) = v) := ⟨_, Lib.hid rfl⟩
      obtain ⟨sc, Hsc⟩ : ∃ v, Hid (cr - x = v) := ⟨_, Lib.hid rfl⟩
      rw [HSA.out, Hsc.out, ← hdd] at rs
      rw [HSA.out] at hD
      have HD := Lib.hid hD
      have HT := Lib.hid hT
      have HSCC : Hid (D.length ≤ sc ∧ sc ≤ maxLen) := Lib.hid (by have := Hsc.out; omega)
      have hxm : x ≤ M.length := by omega
      have hxc : x ≤ cr := by omega
      clear hT hD hdd hdl hx2 hnl hgy hc
      have hxT : x = T.length := htl.symm
      subst hxT
      clear htl
      have HS2 := Lib.hid (sep_empty HSC.out)
      have kx := sep_ceAt (i := i) HS2.out (app_get (by rw [List.length_set]; exact hlt) (List.getElem?_set_self hlt)) 0 rfl
      clear HSC HB HFIN
      go_wp2_with (at_builtin; go_must (refine sep_appB (i := Ps.length) (c := cr) (A := Ar) (m := T) rfl rfl (by rfl) (by rfl) HS2.out (last_get (by simp)) (HS2.out.has HT.out) (by simp only [List.length_nil]; omega) ?_); intro v6 w6 hs6
                   have HS6 : Hid (Sep w0 w6 (Ps.set i (Ce g 74 #[.slice Ar M.length cr, .bool false]) ++ [By v6 T])) := Lib.hid (by
                     rw [List.set_append_right _ _ (by simp)] at hs6
                     simpa using hs6)
                   clear hs6 HS2 ka kb ya yb kx
                   have ka := sep_ceAt (i := i) HS6.out (app_get (by rw [List.length_set]; exact hlt) (List.getElem?_set_self hlt)) 0 rfl
                   have ya := sep_ceFrozen (i := i) HS6.out (app_get (by rw [List.length_set]; exact hlt) (List.getElem?_set_self hlt)) 0)
      have h7 := sep_ceSet (i := i) HS6.out (app_get (by rw [List.length_set]; exact hlt) (List.getElem?_set_self hlt)) 0 (.slice SA D.length sc)
      rw [List.set_append_left _ _ (by rw [List.length_set]; exact hlt), List.set_set] at h7
      have h8 := sep_riOf (i := i) (s := (D, false)) h7 (app_get (by rw [List.length_set]; exact hlt) (List.getElem?_set_self hlt)) HSCC.out.1 HSCC.out.2 HD.out
      rw [List.set_append_left _ _ (by rw [List.length_set]; exact hlt), List.set_set] at h8
      have HS8 := Lib.hid h8
      clear h7 h8
      go_ret
      exact ⟨_, (D, false), rfl, by rw [HG.out]; exact St.refl _, by rw [HG.out]; exact HS8.out⟩
    · have HG : Hid ((gT (l, false)).1 = [] ∧ (gT (l, false)).2.2 = true) := Lib.hid (by
        unfold gT
        rw [rText_no _ _ _ _ _ HN.out (fun e => hx ⟨by omega, e.2.2⟩)]
        exact ⟨rfl, rfl⟩)
      by_cases hx1 : x ≤ 64
      · have hx2 : M.length < x := by omega
        clear hx
        go_wp2_with fail
        go_ret
        exact HFIN.out _ _ HG.out.1 HG.out.2 HB.out rfl
      · have hx3 : 64 < x := by omega
        clear hx hx1
        go_wp2_with fail
        go_ret
        exact HFIN.out _ _ HG.out.1 HG.out.2 HB.out rfl
end Go.Proofs.Ytbnjlminjopaaaa
