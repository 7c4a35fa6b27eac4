/- Are two letters the same? -/
import Derived.Test.YtbnjlminjopaaaaLetM
import Derived.Deep.QuietTactic
import Derived.BigQuiet
import Derived.RegionTactic
namespace Go.Proofs.Ytbnjlminjopaaaa
open Go Go.RowKit
set_option linter.unusedVariables false
set_option linter.unusedSimpArgs false
set_option maxRecDepth 100000
set_option maxHeartbeats 1600000 in
theorem numbers_any (w : World) (B : Nat) (A A' : Option Addr) (c c' : Nat) (l m : List Nat) (hA : Has w B A (u64s l)) (hA' : Has w B A' (u64s m)) (hl : l.length ≤ 1000000000) (hm : m.length ≤ 1000000000) :
    Calls Try.prog 28 #[.slice A l.length c, .slice A' m.length c'] w fun e w' => e = .returned (.bool (decide (l = m))) ∧ ∃ n, w' = w.drewN n := by
  have HA := Lib.hid hA
  have HA' := Lib.hid hA'
  clear hA hA'
  by_cases hlen : l.length = m.length
  · obtain ⟨n, HN⟩ : ∃ n, Hid (l.length = n) := ⟨_, Lib.hid rfl⟩
    have HM : Hid (m.length = n) := Lib.hid (by rw [← hlen, HN.out])
    clear hlen
    rw [HN.out, HM.out]
    have hn : n ≤ 1000000000 := by rw [← HN.out]; exact hl
    clear hl hm
    go_enter Try.func28, Try.ntmps28
    go_wp2_with fail
    go_loopw [5] (fun iv wr => ∃ k d : Nat, k ≤ n ∧ iv = .int .i64 (k : Int) ∧ Hid (l.take k = m.take k) ∧ wr = w.drewN d) (fun iv _ => n - (intOf iv).toNat)
    case atStart => exact ⟨0, 0, Nat.zero_le _, rfl, Lib.hid rfl, rfl⟩
    case round =>
      obtain ⟨k, d, hk, rfl, HT, hwr⟩ := hrel
      have HWR := Lib.hid hwr
      have HB1 := Lib.hid (show Has wr B A (u64s l) by rw [hwr]; exact HA.out)
      have HB2 := Lib.hid (show Has wr B A' (u64s m) by rw [hwr]; exact HA'.out)
      clear hwr
      by_cases hkt : k < n
      · have hkl : k < l.length := by rw [HN.out]; exact hkt
        have hkm : k < m.length := by rw [HM.out]; exact hkt
        obtain ⟨b1, o1, h1, _⟩ := has_u64_form HB1.out (by omega)
        obtain ⟨b2, o2, h2, _⟩ := has_u64_form HB2.out (by omega)
        subst h1 h2
        have c1 := has_u64 HB1.out hkl
        have c2 := has_u64 HB2.out hkm
        have HT1 := Lib.hid (List.take_succ_eq_append_getElem hkl)
        have HT2 := Lib.hid (List.take_succ_eq_append_getElem hkm)
        have HNE := Lib.hid (show l[k] ≠ m[k] → l ≠ m from fun h e => h (by subst e; rfl))
        obtain ⟨x, Hx⟩ : ∃ x, Hid (l[k] = x) := ⟨_, Lib.hid rfl⟩
        obtain ⟨y, Hy⟩ : ∃ y, Hid (m[k] = y) := ⟨_, Lib.hid rfl⟩
        rw [Hx.out] at c1 HT1 HNE
        rw [Hy.out] at c2 HT2 HNE
        have i0 : (0 : Int) ≤ (k : Int) := by omega
        have i1 : (k : Int) < (n : Int) := by omega
        by_cases hxy : x = y
        · subst hxy
          go_wp2_with fail
          go_quiet (fail)
          go_wp2_with fail
          go_roundw
          case rel => exact ⟨k + 1, d + nq, by omega, by go_num, Lib.hid (by rw [HT1.out, HT2.out, HT.out]), by rw [HWR.out, World.drewN_drewN]⟩
          case measure => simp [intOf]; omega
        · have e1 : ((x : Int) != (y : Int)) = true := by simp; omega
          have HNE2 := Lib.hid (HNE.out hxy)
          clear hxy HNE
          go_wp2_with fail
          go_quiet (fail)
          go_wp2_with fail
          go_ret
          exact ⟨ret_bool (decide_eq_false HNE2.out), d + nq, by rw [HWR.out, World.drewN_drewN]⟩
      · have hk2 : l.take k = l := by rw [List.take_of_length_le]; rw [HN.out]; omega
        have hk3 : m.take k = m := by rw [List.take_of_length_le]; rw [HM.out]; omega
        have HE : Hid (l = m) := Lib.hid (by have := HT.out; rw [hk2, hk3] at this; exact this)
        clear hk2 hk3
        go_wp2_with fail
        go_ret
        exact ⟨ret_bool (decide_eq_true HE.out), d, HWR.out⟩
  · have e1 : ((l.length : Int) != (m.length : Int)) = true := by simp; omega
    have HE : Hid (l ≠ m) := Lib.hid (fun e => hlen (by rw [e]))
    clear hlen
    go_enter Try.func28, Try.ntmps28
    go_wp2_with fail
    go_ret
    exact ⟨ret_bool (decide_eq_false HE.out), 0, rfl⟩
set_option maxHeartbeats 1600000 in
theorem sliceEq_any (w : World) (B : Nat) (A A' : Option Addr) (c c' : Nat) (l m : List Nat) (hA : Has w B A (u64s l)) (hA' : Has w B A' (u64s m)) (hl : l.length ≤ 1000000000) (hm : m.length ≤ 1000000000) :
    Calls Try.prog 27 #[.slice A l.length c, .slice A' m.length c'] w fun e w' => e = .returned (.bool (decide (l = m))) ∧ ∃ n, w' = w.drewN n := by
  have HA := Lib.hid hA
  have HA' := Lib.hid hA'
  clear hA hA'
  by_cases hlen : l.length = m.length
  · obtain ⟨n, HN⟩ : ∃ n, Hid (l.length = n) := ⟨_, Lib.hid rfl⟩
    have HM : Hid (m.length = n) := Lib.hid (by rw [← hlen, HN.out])
    clear hlen
    rw [HN.out, HM.out]
    have hn : n ≤ 1000000000 := by rw [← HN.out]; exact hl
    clear hl hm
    go_enter Try.func27, Try.ntmps27
    go_wp2_with fail
    go_loopw [13] (fun iv wr => ∃ k d : Nat, k ≤ n ∧ iv = .int .i64 (k : Int) ∧ Hid (l.take k = m.take k) ∧ wr = w.drewN d) (fun iv _ => n - (intOf iv).toNat)
    case atStart => exact ⟨0, 0, Nat.zero_le _, rfl, Lib.hid rfl, rfl⟩
    case round =>
      obtain ⟨k, d, hk, rfl, HT, hwr⟩ := hrel
      have HWR := Lib.hid hwr
      have HB1 := Lib.hid (show Has wr B A (u64s l) by rw [hwr]; exact HA.out)
      have HB2 := Lib.hid (show Has wr B A' (u64s m) by rw [hwr]; exact HA'.out)
      clear hwr
      by_cases hkt : k < n
      · have hkl : k < l.length := by rw [HN.out]; exact hkt
        have hkm : k < m.length := by rw [HM.out]; exact hkt
        obtain ⟨b1, o1, h1, _⟩ := has_u64_form HB1.out (by omega)
        obtain ⟨b2, o2, h2, _⟩ := has_u64_form HB2.out (by omega)
        subst h1 h2
        have c1 := has_u64 HB1.out hkl
        have c2 := has_u64 HB2.out hkm
        have HT1 := Lib.hid (List.take_succ_eq_append_getElem hkl)
        have HT2 := Lib.hid (List.take_succ_eq_append_getElem hkm)
        have HNE := Lib.hid (show l[k] ≠ m[k] → l ≠ m from fun h e => h (by subst e; rfl))
        obtain ⟨x, Hx⟩ : ∃ x, Hid (l[k] = x) := ⟨_, Lib.hid rfl⟩
        obtain ⟨y, Hy⟩ : ∃ y, Hid (m[k] = y) := ⟨_, Lib.hid rfl⟩
        rw [Hx.out] at c1 HT1 HNE
        rw [Hy.out] at c2 HT2 HNE
        have i0 : (0 : Int) ≤ (k : Int) := by omega
        have i1 : (k : Int) < (n : Int) := by omega
        by_cases hxy : x = y
        · subst hxy
          go_wp2_with fail
          go_quiet (fail)
          go_wp2_with fail
          go_roundw
          case rel => exact ⟨k + 1, d + nq, by omega, by go_num, Lib.hid (by rw [HT1.out, HT2.out, HT.out]), by rw [HWR.out, World.drewN_drewN]⟩
          case measure => simp [intOf]; omega
        · have e1 : ((x : Int) != (y : Int)) = true := by simp; omega
          have HNE2 := Lib.hid (HNE.out hxy)
          clear hxy HNE
          go_wp2_with fail
          go_quiet (fail)
          go_wp2_with fail
          go_ret
          exact ⟨ret_bool (decide_eq_false HNE2.out), d + nq, by rw [HWR.out, World.drewN_drewN]⟩
      · have hk2 : l.take k = l := by rw [List.take_of_length_le]; rw [HN.out]; omega
        have hk3 : m.take k = m := by rw [List.take_of_length_le]; rw [HM.out]; omega
        have HE : Hid (l = m) := Lib.hid (by have := HT.out; rw [hk2, hk3] at this; exact this)
        clear hk2 hk3
        go_wp2_with fail
        go_ret
        exact ⟨ret_bool (decide_eq_true HE.out), d, HWR.out⟩
  · have e1 : ((l.length : Int) != (m.length : Int)) = true := by simp; omega
    have HE : Hid (l ≠ m) := Lib.hid (fun e => hlen (by rw [e]))
    clear hlen
    go_enter Try.func27, Try.ntmps27
    go_wp2_with fail
    go_ret
    exact ⟨ret_bool (decide_eq_false HE.out), 0, rfl⟩
set_option maxHeartbeats 400000 in
theorem bytesEq_any (w : World) (B : Nat) (A A' : Option Addr) (c c' : Nat) (l m : List UInt8) (hA : Has w B A (us l)) (hA' : Has w B A' (us m)) :
    Calls Try.prog 26 #[.slice A l.length c, .slice A' m.length c'] w fun e w' => e = .returned (.bool (decide (l = m))) ∧ w = w' := by
  have e1 := run_str (c := c) hA
  have e2 := run_str (c := c') hA'
  go_enter Try.func26, Try.ntmps26
  go_wp2
  go_ret
  exact ⟨congrArg (fun b => Ending.returned (.bool b)) (str_eq l m), rfl⟩
def Lt.eqB (x y : Lt) : Bool := decide (x.kind = y.kind ∧ x.node = y.node ∧ x.pinc = y.pinc ∧ x.round = y.round ∧ x.snode = y.snode ∧ x.sinc = y.sinc ∧ x.n = y.n ∧ x.body = y.body ∧ x.cid = y.cid ∧ x.cut = y.cut ∧ x.want = y.want)
theorem Lt.eqB_iff {x y : Lt} : x.eqB y = true ↔ x = y := by
  constructor
  · intro h
    obtain ⟨h0, h1, h2, h3, h4, h5, h6, h7, h8, h9, h10⟩ := of_decide_eq_true h
    cases x; cases y; simp_all
  · rintro rfl
    exact decide_eq_true ⟨rfl, rfl, rfl, rfl, rfl, rfl, rfl, rfl, rfl, rfl, rfl⟩
theorem Lt.eqB_self (x : Lt) : x.eqB x = true := Lt.eqB_iff.2 rfl
theorem Lt.eqB_ne {x y : Lt} (h : x ≠ y) : x.eqB y = false := by
  cases e : x.eqB y with
  | false => rfl
  | true => exact (h (Lt.eqB_iff.1 e)).elim
set_option maxHeartbeats 16000000 in
theorem letSame_any (w : World) (B : Nat) (x y : Lt) (A A2 A' A2' : Option Addr) (c c2 c' c2' : Nat) (hA : Has w B A (us x.body)) (hA2 : Has w B A2 (u64s x.cut)) (hA' : Has w B A' (us y.body)) (hA2' : Has w B A2' (u64s y.cut)) (hB : B ≤ w.heap.size) (h1 : x.body.length ≤ maxLen) (h2 : y.body.length ≤ maxLen) (h3 : x.cut.length ≤ 1000000000) (h4 : y.cut.length ≤ 1000000000) :
    Calls Try.prog 13 #[.agg (x.cells A c A2 c2), .agg (y.cells A' c' A2' c2')] w fun e w' => e = .returned (.bool (x.eqB y)) ∧ Below w.heap.size w w' := by
  unfold maxLen at h1 h2
  have HA := Lib.hid hA
  have HA' := Lib.hid hA'
  have HA2 := Lib.hid hA2
  have HA2' := Lib.hid hA2'
  clear hA hA' hA2 hA2'
  have fin0 : ∀ (o o' : Obj), Below w.heap.size w ((w.alloc o).alloc o') := fun o o' => ((Below.refl _ _).alloc (Nat.le_refl _) _).alloc (by simp) _
  have finB : ∀ (o o' : Obj), Below B w ((w.alloc o).alloc o') := fun o o' => ((Below.refl B w).alloc hB o).alloc (by simp; omega) o'
  obtain ⟨kind, node, pinc, round, snode, sinc, n, body, cid, cut, want⟩ := x
  obtain ⟨kind', node', pinc', round', snode', sinc', n', body', cid', cut', want'⟩ := y
  simp only [Lt.cells] at *
  by_cases h_kind : kind = kind'
  · subst h_kind
    by_cases h_node : node = node'
    · subst h_node
      by_cases h_pinc : pinc = pinc'
      · subst h_pinc
        by_cases h_round : round = round'
        · subst h_round
          by_cases h_snode : snode = snode'
          · subst h_snode
            by_cases h_sinc : sinc = sinc'
            · subst h_sinc
              by_cases h_n : n = n'
              · subst h_n
                by_cases h_body : body = body'
                · subst h_body
                  by_cases h_cid : cid = cid'
                  · subst h_cid
                    go_enter Try.func13, Try.ntmps13
                    go_wp2_with fail
                    refine (bytesEq_any _ B A A' c c' body body (HA.out.below (finB _ _)) (HA'.out.below (finB _ _))).mono ?_
                    rintro e w1 ⟨rfl, rfl⟩
                    rw [show decide (body = body) = true from by simp]
                    go_wp2_with fail
                    refine (sliceEq_any _ B A2 A2' c2 c2' cut cut' (HA2.out.below (finB _ _)) (HA2'.out.below (finB _ _)) h3 h4).mono ?_
                    rintro e w2 ⟨rfl, d, rfl⟩
                    by_cases hcut : cut = cut'
                    · subst hcut
                      rw [show decide (cut = cut) = true from by simp]
                      cases want <;> cases want' <;> (go_wp2_with fail; go_ret; exact ⟨ret_bool (by simp [Lt.eqB]), (fin0 _ _).trans ⟨rfl, rfl, rfl, Nat.le_refl _, fun _ _ => rfl⟩⟩)
                    · rw [show decide (cut = cut') = false from decide_eq_false hcut]
                      have HCUT := Lib.hid hcut
                      clear hcut
                      go_wp2_with fail
                      go_ret
                      exact ⟨ret_bool (Lt.eqB_ne (fun e => HCUT.out (congrArg Lt.cut e))), (fin0 _ _).trans ⟨rfl, rfl, rfl, Nat.le_refl _, fun _ _ => rfl⟩⟩
                  · have e_cid : ((cid : Int) == (cid' : Int)) = false := by simp; omega
                    have HNE := Lib.hid h_cid
                    clear h_cid
                    go_enter Try.func13, Try.ntmps13
                    go_wp2_with fail
                    refine (bytesEq_any _ B A A' c c' body body (HA.out.below (finB _ _)) (HA'.out.below (finB _ _))).mono ?_
                    rintro e w1 ⟨rfl, rfl⟩
                    rw [show decide (body = body) = true from by simp]
                    go_wp2_with fail
                    go_ret
                    exact ⟨ret_bool (Lt.eqB_ne (fun e => HNE.out (congrArg Lt.cid e))), fin0 _ _⟩
                · have HNE := Lib.hid h_body
                  clear h_body
                  go_enter Try.func13, Try.ntmps13
                  go_wp2_with fail
                  refine (bytesEq_any _ B A A' c c' body body' (HA.out.below (finB _ _)) (HA'.out.below (finB _ _))).mono ?_
                  rintro e w1 ⟨rfl, rfl⟩
                  rw [show decide (body = body') = false from decide_eq_false HNE.out]
                  go_wp2_with fail
                  go_ret
                  exact ⟨ret_bool (Lt.eqB_ne (fun e => HNE.out (congrArg Lt.body e))), fin0 _ _⟩
              · have e_n : ((n : Int) == (n' : Int)) = false := by simp; omega
                have HNE := Lib.hid h_n
                clear h_n
                go_enter Try.func13, Try.ntmps13
                go_wp2_with fail
                go_ret
                exact ⟨ret_bool (Lt.eqB_ne (fun e => HNE.out (congrArg Lt.n e))), fin0 _ _⟩
            · have e_sinc : ((sinc : Int) == (sinc' : Int)) = false := by simp; omega
              have HNE := Lib.hid h_sinc
              clear h_sinc
              go_enter Try.func13, Try.ntmps13
              go_wp2_with fail
              go_ret
              exact ⟨ret_bool (Lt.eqB_ne (fun e => HNE.out (congrArg Lt.sinc e))), fin0 _ _⟩
          · have e_snode : ((snode : Int) == (snode' : Int)) = false := by simp; omega
            have HNE := Lib.hid h_snode
            clear h_snode
            go_enter Try.func13, Try.ntmps13
            go_wp2_with fail
            go_ret
            exact ⟨ret_bool (Lt.eqB_ne (fun e => HNE.out (congrArg Lt.snode e))), fin0 _ _⟩
        · have e_round : ((round : Int) == (round' : Int)) = false := by simp; omega
          have HNE := Lib.hid h_round
          clear h_round
          go_enter Try.func13, Try.ntmps13
          go_wp2_with fail
          go_ret
          exact ⟨ret_bool (Lt.eqB_ne (fun e => HNE.out (congrArg Lt.round e))), fin0 _ _⟩
      · have e_pinc : ((pinc : Int) == (pinc' : Int)) = false := by simp; omega
        have HNE := Lib.hid h_pinc
        clear h_pinc
        go_enter Try.func13, Try.ntmps13
        go_wp2_with fail
        go_ret
        exact ⟨ret_bool (Lt.eqB_ne (fun e => HNE.out (congrArg Lt.pinc e))), fin0 _ _⟩
    · have e_node : ((node : Int) == (node' : Int)) = false := by simp; omega
      have HNE := Lib.hid h_node
      clear h_node
      go_enter Try.func13, Try.ntmps13
      go_wp2_with fail
      go_ret
      exact ⟨ret_bool (Lt.eqB_ne (fun e => HNE.out (congrArg Lt.node e))), fin0 _ _⟩
  · have e_kind : ((kind : Int) == (kind' : Int)) = false := by simp; omega
    have HNE := Lib.hid h_kind
    clear h_kind
    go_enter Try.func13, Try.ntmps13
    go_wp2_with fail
    go_ret
    exact ⟨ret_bool (Lt.eqB_ne (fun e => HNE.out (congrArg Lt.kind e))), fin0 _ _⟩
end Go.Proofs.Ytbnjlminjopaaaa
