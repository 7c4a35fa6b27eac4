/- Are two frames the same? -/
import Derived.Test.YtcjafbpgjlcdpaaDoorFrm
namespace Go.Proofs.YtcjafbpgjlcdpaaDoor
open Go Go.RowKit
set_option linter.unusedVariables false
set_option maxRecDepth 100000
def Fr.eqB (f g : Fr) : Bool := decide (f.kind = g.kind ∧ f.fr = g.fr ∧ f.to = g.to ∧ f.inc = g.inc ∧ f.conn = g.conn ∧ f.pinc = g.pinc ∧ f.pconn = g.pconn ∧ f.ack = g.ack ∧ f.seq = g.seq ∧ f.body = g.body)
theorem Fr.eqB_iff {f g : Fr} : f.eqB g = true ↔ f = g := by
  constructor
  · intro h
    obtain ⟨h0, h1, h2, h3, h4, h5, h6, h7, h8, h9⟩ := of_decide_eq_true h
    cases f; cases g; simp_all
  · rintro rfl
    exact decide_eq_true ⟨rfl, rfl, rfl, rfl, rfl, rfl, rfl, rfl, rfl, rfl⟩
theorem Fr.eqB_self (f : Fr) : f.eqB f = true := Fr.eqB_iff.2 rfl
theorem Fr.eqB_ne {f g : Fr} (h : f ≠ g) : f.eqB g = false := by
  cases e : f.eqB g with
  | false => rfl
  | true => exact (h (Fr.eqB_iff.1 e)).elim
set_option maxHeartbeats 8000000 in
theorem same5_any (w : World) (B : Nat) (f g : Fr) (A A' : Option Addr) (c c' : Nat) (hA : Has w B A (us f.body)) (hA' : Has w B A' (us g.body)) (hB : B ≤ w.heap.size) (hl : f.body.length ≤ maxLen) (hl' : g.body.length ≤ maxLen) :
    Calls Tryd.prog 16 #[.agg (f.cells A c), .agg (g.cells A' c')] w fun e w' => e = .returned (.bool (f.eqB g)) ∧ Below w.heap.size w w' := by
  unfold maxLen at hl hl'
  have HA := Lib.hid hA
  have HA' := Lib.hid hA'
  clear hA hA'
  have fin0 : ∀ (o o' : Obj), Below w.heap.size w ((w.alloc o).alloc o') := fun o o' => ((Below.refl _ _).alloc (Nat.le_refl _) _).alloc (by simp) _
  obtain ⟨kind, fr, to, inc, conn, pinc, pconn, ack, seq, body⟩ := f
  obtain ⟨kind', fr', to', inc', conn', pinc', pconn', ack', seq', body'⟩ := g
  simp only [Fr.cells] at *
  by_cases h_kind : kind = kind'
  · subst h_kind
    by_cases h_fr : fr = fr'
    · subst h_fr
      by_cases h_to : to = to'
      · subst h_to
        by_cases h_inc : inc = inc'
        · subst h_inc
          by_cases h_conn : conn = conn'
          · subst h_conn
            by_cases h_pinc : pinc = pinc'
            · subst h_pinc
              by_cases h_pconn : pconn = pconn'
              · subst h_pconn
                by_cases h_ack : ack = ack'
                · subst h_ack
                  by_cases h_seq : seq = seq'
                  · subst h_seq
                    have t1 := fun o o' => run_str (c := c) (HA.out.below ((Below.refl B w).trans (((Below.refl B w).alloc hB o).alloc (by simp; omega) o')))
                    have t2 := fun o o' => run_str (c := c') (HA'.out.below ((Below.refl B w).trans (((Below.refl B w).alloc hB o).alloc (by simp; omega) o')))
                    go_enter Tryd.func16, Tryd.ntmps16
                    go_wp2
                    go_ret
                    exact ⟨ret_bool (by simp [Fr.eqB, str_eq]), fin0 _ _⟩
                  · have e_seq : ((seq : Int) == (seq' : Int)) = false := by simp; omega
                    go_enter Tryd.func16, Tryd.ntmps16
                    go_wp2
                    go_ret
                    exact ⟨ret_bool (Fr.eqB_ne (fun e => h_seq (congrArg Fr.seq e))), fin0 _ _⟩
                · have e_ack : ((ack : Int) == (ack' : Int)) = false := by simp; omega
                  go_enter Tryd.func16, Tryd.ntmps16
                  go_wp2
                  go_ret
                  exact ⟨ret_bool (Fr.eqB_ne (fun e => h_ack (congrArg Fr.ack e))), fin0 _ _⟩
              · have e_pconn : ((pconn : Int) == (pconn' : Int)) = false := by simp; omega
                go_enter Tryd.func16, Tryd.ntmps16
                go_wp2
                go_ret
                exact ⟨ret_bool (Fr.eqB_ne (fun e => h_pconn (congrArg Fr.pconn e))), fin0 _ _⟩
            · have e_pinc : ((pinc : Int) == (pinc' : Int)) = false := by simp; omega
              go_enter Tryd.func16, Tryd.ntmps16
              go_wp2
              go_ret
              exact ⟨ret_bool (Fr.eqB_ne (fun e => h_pinc (congrArg Fr.pinc e))), fin0 _ _⟩
          · have e_conn : ((conn : Int) == (conn' : Int)) = false := by simp; omega
            go_enter Tryd.func16, Tryd.ntmps16
            go_wp2
            go_ret
            exact ⟨ret_bool (Fr.eqB_ne (fun e => h_conn (congrArg Fr.conn e))), fin0 _ _⟩
        · have e_inc : ((inc : Int) == (inc' : Int)) = false := by simp; omega
          go_enter Tryd.func16, Tryd.ntmps16
          go_wp2
          go_ret
          exact ⟨ret_bool (Fr.eqB_ne (fun e => h_inc (congrArg Fr.inc e))), fin0 _ _⟩
      · have e_to : ((to : Int) == (to' : Int)) = false := by simp; omega
        go_enter Tryd.func16, Tryd.ntmps16
        go_wp2
        go_ret
        exact ⟨ret_bool (Fr.eqB_ne (fun e => h_to (congrArg Fr.to e))), fin0 _ _⟩
    · have e_fr : ((fr : Int) == (fr' : Int)) = false := by simp; omega
      go_enter Tryd.func16, Tryd.ntmps16
      go_wp2
      go_ret
      exact ⟨ret_bool (Fr.eqB_ne (fun e => h_fr (congrArg Fr.fr e))), fin0 _ _⟩
  · have e_kind : ((kind : Int) == (kind' : Int)) = false := by simp; omega
    go_enter Tryd.func16, Tryd.ntmps16
    go_wp2
    go_ret
    exact ⟨ret_bool (Fr.eqB_ne (fun e => h_kind (congrArg Fr.kind e))), fin0 _ _⟩
end Go.Proofs.YtcjafbpgjlcdpaaDoor
