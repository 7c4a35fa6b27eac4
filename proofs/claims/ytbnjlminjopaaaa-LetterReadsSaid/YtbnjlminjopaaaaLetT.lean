/- Are two letters the same, as the document says? -/
import Derived.Test.YtbnjlminjopaaaaLetS
namespace Go.Proofs.Ytbnjlminjopaaaa
open Go Go.RowKit
set_option linter.unusedVariables false
set_option linter.unusedSimpArgs false
set_option maxRecDepth 100000
set_option maxHeartbeats 16000000 in
theorem ref10Same_any (w : World) (B : Nat) (x y : Lt) (A A2 A' A2' : Option Addr) (c c2 c' c2' : Nat) (hA : Has w B A (us x.body)) (hA2 : Has w B A2 (u64s x.cut)) (hA' : Has w B A' (us y.body)) (hA2' : Has w B A2' (u64s y.cut)) (hB : B ≤ w.heap.size) (h1 : x.body.length ≤ maxLen) (h2 : y.body.length ≤ maxLen) (h3 : x.cut.length ≤ 1000000000) (h4 : y.cut.length ≤ 1000000000) :
    Calls Try.prog 14 #[.agg (x.cells A c A2 c2), .agg (y.cells A' c' A2' c2')] w fun e w' => e = .returned (.bool (x.eqB y)) ∧ Below w.heap.size w w' := by
  unfold maxLen at h1 h2
  have HA := Lib.hid hA
  have HA' := Lib.hid hA'
  have HA2 := Lib.hid hA2
  have HA2' := Lib.hid hA2'
  clear hA hA' hA2 hA2'
  have fin0 : ∀ (o o' : Obj), Below w.heap.size w ((w.alloc o).alloc o') := fun o o' => ((Below.refl _ _).alloc (Nat.le_refl _) _).alloc (by simp) _
  have finB : ∀ (o o' : Obj), Below B w ((w.alloc o).alloc o') := fun o o' => ((Below.refl B w).alloc hB o).alloc (by simp; omega) o'
  obtain ⟨kind, node, pinc, round, snode, sinc, n, body, cid, cut, want⟩ := x
  obtain ⟨kind', node', pinc', round', snode', sinc', n', body', cid', cut', want'⟩ := y
  simp only [Lt.cells] at *
  by_cases h_kind : kind = kind'
  · subst h_kind
    by_cases h_node : node = node'
    · subst h_node
      by_cases h_pinc : pinc = pinc'
      · subst h_pinc
        by_cases h_round : round = round'
        · subst h_round
          by_cases h_snode : snode = snode'
          · subst h_snode
            by_cases h_sinc : sinc = sinc'
            · subst h_sinc
              by_cases h_n : n = n'
              · subst h_n
                by_cases h_body : body = body'
                · subst h_body
                  by_cases h_cid : cid = cid'
                  · subst h_cid
                    have t1 := fun o o' => run_str (c := c) (HA.out.below (finB o o'))
                    have t2 := fun o o' => run_str (c := c') (HA'.out.below (finB o o'))
                    go_enter Try.func14, Try.ntmps14
                    go_wp2_with fail
                    refine (numbers_any _ B A2 A2' c2 c2' cut cut' (HA2.out.below (finB _ _)) (HA2'.out.below (finB _ _)) h3 h4).mono ?_
                    rintro e w2 ⟨rfl, d, rfl⟩
                    by_cases hcut : cut = cut'
                    · subst hcut
                      rw [show decide (cut = cut) = true from by simp]
                      cases want <;> cases want' <;> (go_wp2_with fail; go_ret; exact ⟨ret_bool (by simp [Lt.eqB]), (fin0 _ _).trans ⟨rfl, rfl, rfl, Nat.le_refl _, fun _ _ => rfl⟩⟩)
                    · rw [show decide (cut = cut') = false from decide_eq_false hcut]
                      have HCUT := Lib.hid hcut
                      clear hcut
                      go_wp2_with fail
                      go_ret
                      exact ⟨ret_bool (Lt.eqB_ne (fun e => HCUT.out (congrArg Lt.cut e))), (fin0 _ _).trans ⟨rfl, rfl, rfl, Nat.le_refl _, fun _ _ => rfl⟩⟩
                  · have e_cid : ((cid : Int) == (cid' : Int)) = false := by simp; omega
                    have HNE := Lib.hid h_cid
                    clear h_cid
                    have t1 := fun o o' => run_str (c := c) (HA.out.below (finB o o'))
                    have t2 := fun o o' => run_str (c := c') (HA'.out.below (finB o o'))
                    go_enter Try.func14, Try.ntmps14
                    go_wp2_with fail
                    go_ret
                    exact ⟨ret_bool (Lt.eqB_ne (fun e => HNE.out (congrArg Lt.cid e))), fin0 _ _⟩
                · have HNE := Lib.hid h_body
                  clear h_body
                  have e3 : (body == body') = false := by simpa using HNE.out
                  have t1 := fun o o' => run_str (c := c) (HA.out.below (finB o o'))
                  have t2 := fun o o' => run_str (c := c') (HA'.out.below (finB o o'))
                  go_enter Try.func14, Try.ntmps14
                  go_wp2_with fail
                  go_ret
                  exact ⟨ret_bool (Lt.eqB_ne (fun e => HNE.out (congrArg Lt.body e))), fin0 _ _⟩
              · have e_n : ((n : Int) == (n' : Int)) = false := by simp; omega
                have HNE := Lib.hid h_n
                clear h_n
                go_enter Try.func14, Try.ntmps14
                go_wp2_with fail
                go_ret
                exact ⟨ret_bool (Lt.eqB_ne (fun e => HNE.out (congrArg Lt.n e))), fin0 _ _⟩
            · have e_sinc : ((sinc : Int) == (sinc' : Int)) = false := by simp; omega
              have HNE := Lib.hid h_sinc
              clear h_sinc
              go_enter Try.func14, Try.ntmps14
              go_wp2_with fail
              go_ret
              exact ⟨ret_bool (Lt.eqB_ne (fun e => HNE.out (congrArg Lt.sinc e))), fin0 _ _⟩
          · have e_snode : ((snode : Int) == (snode' : Int)) = false := by simp; omega
            have HNE := Lib.hid h_snode
            clear h_snode
            go_enter Try.func14, Try.ntmps14
            go_wp2_with fail
            go_ret
            exact ⟨ret_bool (Lt.eqB_ne (fun e => HNE.out (congrArg Lt.snode e))), fin0 _ _⟩
        · have e_round : ((round : Int) == (round' : Int)) = false := by simp; omega
          have HNE := Lib.hid h_round
          clear h_round
          go_enter Try.func14, Try.ntmps14
          go_wp2_with fail
          go_ret
          exact ⟨ret_bool (Lt.eqB_ne (fun e => HNE.out (congrArg Lt.round e))), fin0 _ _⟩
      · have e_pinc : ((pinc : Int) == (pinc' : Int)) = false := by simp; omega
        have HNE := Lib.hid h_pinc
        clear h_pinc
        go_enter Try.func14, Try.ntmps14
        go_wp2_with fail
        go_ret
        exact ⟨ret_bool (Lt.eqB_ne (fun e => HNE.out (congrArg Lt.pinc e))), fin0 _ _⟩
    · have e_node : ((node : Int) == (node' : Int)) = false := by simp; omega
      have HNE := Lib.hid h_node
      clear h_node
      go_enter Try.func14, Try.ntmps14
      go_wp2_with fail
      go_ret
      exact ⟨ret_bool (Lt.eqB_ne (fun e => HNE.out (congrArg Lt.node e))), fin0 _ _⟩
  · have e_kind : ((kind : Int) == (kind' : Int)) = false := by simp; omega
    have HNE := Lib.hid h_kind
    clear h_kind
    go_enter Try.func14, Try.ntmps14
    go_wp2_with fail
    go_ret
    exact ⟨ret_bool (Lt.eqB_ne (fun e => HNE.out (congrArg Lt.kind e))), fin0 _ _⟩
end Go.Proofs.Ytbnjlminjopaaaa
