/- Both sides of a window and what is between them: the plain law. No program in sight, but for the words of the window. -/
import Derived.Test.YtmjlehofjholaaaWinU
namespace Go.Proofs.Ytmjlehofjholaaa
open Go Go.RowKit
set_option linter.unusedVariables false

abbrev Cp := Nat × List UInt8
structure St where
  base : Nat
  got : Nat
  box : List (List UInt8)
  pushed : List (List UInt8)
  taken : List (List UInt8)
  way : List Cp
structure Inv (bodies : List (List UInt8)) (s : St) : Prop where
  fit : bodies.length ≤ 300 ∧ ∀ b ∈ bodies, bodyB b = true
  pre : s.pushed = bodies.take s.pushed.length
  plen : s.pushed.length ≤ bodies.length
  bt : s.base ≤ s.taken.length
  sum : s.base + s.box.length = s.pushed.length
  box : s.box = s.pushed.drop s.base
  b48 : s.box.length ≤ 48
  got : s.got = s.taken.length
  t8 : s.taken.length ≤ s.base + 8
  tl : s.taken.length ≤ s.pushed.length
  tk : s.taken = s.pushed.take s.taken.length
  way : ∀ c ∈ s.way, 1 ≤ c.1 ∧ c.1 ≤ s.base + 8 ∧ s.pushed[c.1 - 1]? = some c.2
  wlen : s.way.length ≤ 500
theorem Inv.zero {bodies : List (List UInt8)} (h1 : bodies.length ≤ 300) (h2 : ∀ b ∈ bodies, bodyB b = true) : Inv bodies ⟨0, 0, [], [], [], []⟩ :=
  ⟨⟨h1, h2⟩, by simp, by simp, by simp, by simp, by simp, by simp, rfl, by simp, by simp, by simp, by simp, by simp⟩
section
variable {bodies : List (List UInt8)} {s : St}
theorem Inv.pall (h : Inv bodies s) : ∀ b ∈ s.pushed, bodyB b = true := fun b hb => h.fit.2 b (by rw [h.pre] at hb; exact List.mem_of_mem_take hb)
theorem Inv.ball (h : Inv bodies s) : ∀ b ∈ s.box, bodyB b = true := fun b hb => h.pall b (by rw [h.box] at hb; exact List.mem_of_mem_drop hb)
theorem Inv.may (h : Inv bodies s) : mayB s.base s.box = true := by
  have h1 := h.b48
  have h2 := h.sum
  have h3 := h.plen
  have h4 := h.fit.1
  simp only [mayB, Bool.and_eq_true, decide_eq_true_eq, List.all_eq_true]
  exact ⟨⟨h1, by omega⟩, h.ball⟩
theorem body_len {b : List UInt8} (h : bodyB b = true) : 1 ≤ b.length ∧ b.length ≤ 448 := by simpa [bodyB] using h
theorem Inv.fitB (h : Inv bodies s) : Fit s.box := ⟨by have := h.b48; omega, fun l hl => by have := body_len (h.ball l hl); omega⟩
theorem Inv.due (h : Inv bodies s) : dueL s.base s.box = s.box.take (min s.box.length 8) ∧ dueN s.base s.box = min s.box.length 8 := by simp [dueL, dueN, h.may]
theorem Inv.dueItem (h : Inv bodies s) {c : Cp} (hc : c ∈ items s.base (dueL s.base s.box)) : 1 ≤ c.1 ∧ c.1 ≤ s.base + 8 ∧ s.pushed[c.1 - 1]? = some c.2 := by
  unfold items at hc
  rw [List.mem_mapIdx] at hc
  obtain ⟨k, hk, rfl⟩ := hc
  have hk8 : k < min s.box.length 8 := by have := dueL_len s.base s.box; rw [h.due.2] at this; omega
  obtain ⟨h2, e⟩ := dueL_at hk
  refine ⟨by simp; omega, by simp; omega, ?_⟩
  simp only
  rw [e, show s.base + 1 + k - 1 = s.base + k by omega]
  have e2 : s.box[k]? = (s.pushed.drop s.base)[k]? := by rw [← h.box]
  rw [List.getElem?_eq_getElem h2, List.getElem?_drop] at e2
  exact e2.symm

/-- a body is pushed -/
def St.push (s : St) (b : List UInt8) : St := { s with box := s.box ++ [b], pushed := s.pushed ++ [b] }
theorem Inv.pushE (h : Inv bodies s) {b : List UInt8} (hb : b ∈ bodies) : (pushE s.base s.box b = 0 ∧ s.box.length < 48) ∨ (pushE s.base s.box b = 4 ∧ s.box.length = 48) := by
  have h1 := h.b48
  have h2 := h.sum
  have h3 := h.plen
  have h4 := h.fit.1
  unfold Go.Proofs.Ytmjlehofjholaaa.pushE
  rw [h.may, h.fit.2 b hb]
  simp only [Bool.true_eq_false, if_false]
  split
  · exact .inr ⟨rfl, by omega⟩
  · exact .inl ⟨rfl, by omega⟩
theorem Inv.push (h : Inv bodies s) (hlt : s.pushed.length < bodies.length) (h48 : s.box.length < 48) : Inv bodies (s.push bodies[s.pushed.length]) := by
  have hs := h.sum
  have ht := h.tl
  refine ⟨h.fit, ?_, by simp [St.push]; omega, h.bt, by simp [St.push]; omega, ?_, by simp [St.push]; omega, h.got, h.t8, by simp [St.push]; omega, ?_, ?_, h.wlen⟩
  · simp only [St.push, List.length_append, List.length_singleton]
    rw [List.take_succ_eq_append_getElem hlt, ← h.pre]
  · simp only [St.push]
    rw [List.drop_append_of_le_length (by omega), ← h.box]
  · simp only [St.push]
    rw [List.take_append_of_le_length ht]
    exact h.tk
  · intro c hc
    obtain ⟨a1, a2, a3⟩ := h.way c hc
    refine ⟨a1, a2, ?_⟩
    simp only [St.push]
    have : c.1 - 1 < s.pushed.length := by
      rcases Nat.lt_or_ge (c.1 - 1) s.pushed.length with h | h
      · exact h
      · rw [List.getElem?_eq_none h] at a3; cases a3
    rw [List.getElem?_append_left this]
    exact a3
/-- one more copy is on its way -/
theorem Inv.send (h : Inv bodies s) {c : Cp} (hc : 1 ≤ c.1 ∧ c.1 ≤ s.base + 8 ∧ s.pushed[c.1 - 1]? = some c.2) (hw : s.way.length < 500) : Inv bodies { s with way := s.way ++ [c] } := by
  refine ⟨h.fit, h.pre, h.plen, h.bt, h.sum, h.box, h.b48, h.got, h.t8, h.tl, h.tk, ?_, by simp; omega⟩
  intro d hd
  rcases List.mem_append.1 hd with hd | hd
  · exact h.way d hd
  · simp at hd
    subst hd
    exact hc
theorem Inv.lose (h : Inv bodies s) (k : Nat) : Inv bodies { s with way := s.way.take k ++ s.way.drop (k + 1) } := by
  refine ⟨h.fit, h.pre, h.plen, h.bt, h.sum, h.box, h.b48, h.got, h.t8, h.tl, h.tk, ?_, ?_⟩
  · intro d hd
    rcases List.mem_append.1 hd with hd | hd
    · exact h.way d (List.mem_of_mem_take hd)
    · exact h.way d (List.mem_of_mem_drop hd)
  · have := h.wlen
    simp
    omega
/-- a copy comes -/
def St.come (s : St) (c : Cp) : St := { s with got := takeV s.got c.1, taken := if takeB s.got c.1 = true then s.taken ++ [c.2] else s.taken }
theorem Inv.come (h : Inv bodies s) {c : Cp} (hc : 1 ≤ c.1 ∧ c.1 ≤ s.base + 8 ∧ s.pushed[c.1 - 1]? = some c.2) : Inv bodies (s.come c) := by
  by_cases ht : takeB s.got c.1 = true
  · have hs : c.1 = s.got + 1 := by simp [takeB] at ht; omega
    have hlt : s.taken.length < s.pushed.length := by
      have a3 := hc.2.2
      rw [hs, h.got] at a3
      rcases Nat.lt_or_ge s.taken.length s.pushed.length with h | h
      · exact h
      · rw [Nat.add_sub_cancel, List.getElem?_eq_none h] at a3; cases a3
    have he : s.pushed[s.taken.length] = c.2 := by
      have a3 := hc.2.2
      rw [hs, h.got, Nat.add_sub_cancel, List.getElem?_eq_getElem hlt] at a3
      simpa using a3
    have hg := h.got
    have hb := h.bt
    have ht2 := ht
    rw [hs] at ht2
    have e : s.come c = { s with got := s.got + 1, taken := s.taken ++ [c.2] } := by simp [St.come, takeV, hs, ht2]
    rw [e]
    refine ⟨h.fit, h.pre, h.plen, by simp; omega, h.sum, h.box, h.b48, by simp; omega, by simp; omega, by simp; omega, ?_, h.way, h.wlen⟩
    simp only [List.length_append, List.length_singleton]
    rw [List.take_succ_eq_append_getElem hlt, ← h.tk, he]
  · have e : s.come c = s := by simp [St.come, ht, takeV]
    rw [e]
    exact h
/-- how far the receiver is is told -/
def St.ack (s : St) (upto : Nat) : St := { s with base := ackV s.base s.box upto, box := ackL s.base s.box upto }
theorem Inv.ack (h : Inv bodies s) {upto : Nat} (hu : upto ≤ s.taken.length) : Inv bodies (s.ack upto) := by
  have hs := h.sum
  by_cases ha : ackB s.base s.box upto = true
  · have hb := ha
    simp only [ackB, Bool.and_eq_true, decide_eq_true_eq] at hb
    obtain ⟨⟨_, h1⟩, h2⟩ := hb
    have e : s.ack upto = { s with base := upto, box := s.box.drop (upto - s.base) } := by simp [St.ack, (ack_yes ha).1, (ack_yes ha).2]
    rw [e]
    have h8 := h.t8
    have h48 := h.b48
    refine ⟨h.fit, h.pre, h.plen, hu, by simp; omega, ?_, by simp; omega, h.got, by simp; omega, h.tl, h.tk, ?_, h.wlen⟩
    · simp only
      rw [h.box, List.drop_drop, show s.base + (upto - s.base) = upto by omega]
    · intro c hc
      obtain ⟨a1, a2, a3⟩ := h.way c hc
      exact ⟨a1, by simp; omega, a3⟩
  · have ha' : ackB s.base s.box upto = false := by simpa using ha
    have e : s.ack upto = s := by simp [St.ack, (ack_no ha').1, (ack_no ha').2]
    rw [e]
    exact h
end
end Go.Proofs.Ytmjlehofjholaaa
