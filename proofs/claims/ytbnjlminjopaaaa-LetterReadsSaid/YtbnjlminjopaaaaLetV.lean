/- The walks of the document's reader of layer 3: a byte, a number. -/
import Derived.Test.YtbnjlminjopaaaaLetO
import Derived.Test.YtbnjlminjopaaaaLetQ
namespace Go.Proofs.Ytbnjlminjopaaaa
open Go Go.RowKit
set_option linter.unusedVariables false
set_option maxRecDepth 100000

/-- the document's reader: it stands over bytes that do not change -/
def Ri (w0 : World) (g : Nat) (s : Rs) : SP := fun w F => (∃ A c, w.heap[g]? = some (.cells #[.slice A s.1.length c, .bool s.2] 74 (0, 0)) ∧ s.1.length ≤ c ∧ c ≤ maxLen ∧ Has w0 w0.heap.size A (us s.1)) ∧ ∀ k, F k ↔ k = g
theorem Ri.loc (w0 : World) (g : Nat) (s : Rs) : Loc (Ri w0 g s) where
  keep := by
    rintro w w' F ⟨⟨A, c, h, h2⟩, hF⟩ hk
    exact ⟨⟨A, c, (hk g ((hF g).2 rfl)).trans h, h2⟩, hF⟩
  lt := by
    rintro w F ⟨⟨A, c, h, _⟩, hF⟩ k hk
    rw [(hF k).1 hk]; exact lt_of_heap h
section
variable {w0 w : World} {Ps : List SP} {i g : Nat} {s : Rs}
theorem sep_ri (h : Sep w0 w Ps) (hi : Ps[i]? = some (Ri w0 g s)) : ∃ A c, Sep w0 w (Ps.set i (Ce g 74 #[.slice A s.1.length c, .bool s.2])) ∧ s.1.length ≤ c ∧ c ≤ maxLen ∧ Has w0 w0.heap.size A (us s.1) := by
  obtain ⟨F, ⟨A, c, hh, h1, h2, h3⟩, _⟩ := h.get hi
  exact ⟨A, c, h.turn hi (fun F hP => ⟨hh, hP.2⟩) (Ce.loc _ _ _), h1, h2, h3⟩
theorem sep_riOf {A : Option Addr} {c : Nat} (h : Sep w0 w Ps) (hi : Ps[i]? = some (Ce g 74 #[.slice A s.1.length c, .bool s.2])) (h1 : s.1.length ≤ c) (h2 : c ≤ maxLen) (h3 : Has w0 w0.heap.size A (us s.1)) : Sep w0 w (Ps.set i (Ri w0 g s)) :=
  h.turn hi (fun F hP => ⟨⟨A, c, hP.1, h1, h2, h3⟩, hP.2⟩) (Ri.loc _ _ _)
theorem sep_riAt (h : Sep w0 w Ps) (hi : Ps[i]? = some (Ri w0 g s)) : ∃ A c, w.cell? ⟨g, 0, none⟩ = some (.slice A s.1.length c) ∧ w.cell? ⟨g, 1, none⟩ = some (.bool s.2) ∧ w.frozen? ⟨g, 0, none⟩ = false ∧ w.frozen? ⟨g, 1, none⟩ = false ∧ s.1.length ≤ c ∧ c ≤ maxLen ∧ Has w0 w0.heap.size A (us s.1) := by
  obtain ⟨A, c, hs, h1, h2, h3⟩ := sep_ri h hi
  have hg := List.getElem?_set_self (a := Ce g 74 #[.slice A s.1.length c, .bool s.2]) (List.getElem?_eq_some_iff.1 hi).1
  exact ⟨A, c, sep_ceAt hs hg 0 rfl, sep_ceAt hs hg 1 rfl, sep_ceFrozen hs hg 0, sep_ceFrozen hs hg 1, h1, h2, h3⟩
theorem sep_riBad (h : Sep w0 w Ps) (hi : Ps[i]? = some (Ri w0 g s)) : Sep w0 (w.setCell ⟨g, 1, none⟩ (.bool true)) (Ps.set i (Ri w0 g (s.1, true))) := by
  obtain ⟨A, c, hs, h1, h2, h3⟩ := sep_ri h hi
  have hlt := (List.getElem?_eq_some_iff.1 hi).1
  have hg := List.getElem?_set_self (a := Ce g 74 #[.slice A s.1.length c, .bool s.2]) hlt
  have h5 := sep_ceSet hs hg 1 (.bool true)
  rw [List.set_set] at h5
  have h6 := sep_riOf (s := (s.1, true)) h5 (List.getElem?_set_self hlt) h1 h2 h3
  rw [List.set_set] at h6
  exact h6
theorem sep_riLeft {A' : Option Addr} {c' : Nat} {l' : List UInt8} (h : Sep w0 w Ps) (hi : Ps[i]? = some (Ri w0 g s)) (h1 : l'.length ≤ c') (h2 : c' ≤ maxLen) (h3 : Has w0 w0.heap.size A' (us l')) : Sep w0 (w.setCell ⟨g, 0, none⟩ (.slice A' l'.length c')) (Ps.set i (Ri w0 g (l', s.2))) := by
  obtain ⟨A, c, hs, _, _, _⟩ := sep_ri h hi
  have hlt := (List.getElem?_eq_some_iff.1 hi).1
  have hg := List.getElem?_set_self (a := Ce g 74 #[.slice A s.1.length c, .bool s.2]) hlt
  have h5 := sep_ceSet hs hg 0 (.slice A' l'.length c')
  rw [List.set_set] at h5
  have h6 := sep_riOf (s := (l', s.2)) h5 (List.getElem?_set_self hlt) h1 h2 h3
  rw [List.set_set] at h6
  exact h6
end
theorem elem_sizeV (W : World) : (sizeOf (Try.prog.elem 27)).run Try.prog W = .ok 1 W := by kernel_rfl
theorem run_from1V (W : World) (A : Option Addr) (n c : Nat) (h : 1 ≤ n) : (Instr.slice 27 (.slice A n c) (some (.int .i64 1)) none none).run Try.prog W = .ok (.slice (if c = 1 then A else A.map (·.add 1)) (n - 1) (c - 1)) W := by
  rw [run_slice_l W 27 A n c (by kernel_rfl) .i64 1 (by omega) (by omega), elem_sizeV W]
  rfl
theorem g8_fault (l : List UInt8) (bad : Bool) (h : bad = true ∨ l = []) : g8 (l, bad) = (0, l, true) := by
  unfold g8 rWide
  rw [if_pos]
  rcases h with h | h
  · exact .inl h
  · exact .inr (by rw [h]; simp)
theorem g8_cons (c : UInt8) (r : List UInt8) : g8 (c :: r, false) = (c.toNat, r, false) := by
  unfold g8 rWide
  rw [if_neg (by simp)]
  simp [Code.leNat]
set_option maxHeartbeats 800000 in
theorem sep_i8 {w0 w : World} {Ps : List SP} {i g : Nat} {s : Rs} (h : Sep w0 w Ps) (hi : Ps[i]? = some (Ri w0 g s)) :
    Calls Try.prog 47 #[.pointer (some ⟨g, 0, none⟩)] w fun e w' => e = .returned (.int .i64 ((g8 s).1 : Int)) ∧ Sep w0 w' (Ps.set i (Ri w0 g (g8 s).2)) := by
  obtain ⟨A, c, k0, k1, y0, y1, hc, hm, hA⟩ := sep_riAt h hi
  obtain ⟨l, bad⟩ := s
  simp only at k0 k1 hc hA
  have HA := Lib.hid hA
  have HS := Lib.hid h
  have HI := Lib.hid hi
  clear h hi hA
  cases bad with
  | true =>
    have HE := Lib.hid (g8_fault l true (.inl rfl))
    go_enter Try.func47, Try.ntmps47
    go_wp2_with fail
    go_ret
    rw [HE.out]
    exact ⟨rfl, sep_riBad HS.out HI.out⟩
  | false =>
    cases l with
    | nil =>
      have HE := Lib.hid (g8_fault [] false (.inr rfl))
      simp only [List.length_nil] at k0
      go_enter Try.func47, Try.ntmps47
      go_wp2_with fail
      go_ret
      rw [HE.out]
      exact ⟨rfl, sep_riBad HS.out HI.out⟩
    | cons ch r =>
      have HE := Lib.hid (g8_cons ch r)
      obtain ⟨b, o, rfl, hb, hcell⟩ := HA.out.at_ (k := 0) (by simp [us])
      have kc : w.cell? ⟨b, o, none⟩ = some (.int .u8 (ch.toNat : Int)) := by
        rw [HS.out.bel.cell (p := ⟨b, o, none⟩) hb]
        simpa [us] using hcell
      have hD := HA.out.drop 1 1 c (by rw [us_length]; simpa using hc)
      rw [show (us (ch :: r)).drop (1 * 1) = us r from rfl, Nat.mul_one] at hD
      have rs := fun W => run_from1V W (some ⟨b, o, none⟩) (r.length + 1) c (by omega)
      simp only [List.length_cons] at k0 hc
      obtain ⟨SA, HSA⟩ : ∃ v, Hid ((if c = 1 then some (⟨b, o, none⟩ : Addr) else (some (⟨b, o, none⟩ : Addr)).map (·.add 1)) = v) := ⟨_, Lib.hid rfl⟩
      obtain ⟨sc, Hsc⟩ : ∃ v, Hid (c - 1 = v) := ⟨_, Lib.hid rfl⟩
      rw [show r.length + 1 - 1 = r.length from rfl, HSA.out, Hsc.out] at rs
      rw [HSA.out] at hD
      have HDD := Lib.hid hD
      have HSC : Hid (r.length ≤ sc ∧ sc ≤ maxLen) := Lib.hid (by have := Hsc.out; omega)
      have hbt := ch.toNat_lt
      obtain ⟨x, Hx⟩ : ∃ x, Hid (ch.toNat = x) := ⟨_, Lib.hid rfl⟩
      rw [Hx.out] at kc HE hbt
      clear hD hcell
      go_enter Try.func47, Try.ntmps47
      go_wp2_with fail
      go_ret
      rw [HE.out]
      exact ⟨rfl, sep_riLeft HS.out HI.out HSC.out.1 HSC.out.2 HDD.out⟩
end Go.Proofs.Ytbnjlminjopaaaa
