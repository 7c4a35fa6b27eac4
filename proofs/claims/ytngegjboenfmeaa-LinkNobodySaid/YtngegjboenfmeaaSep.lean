/- Things in memory, each on blocks of its own: what is done to one leaves the others. No program in sight. -/
import Derived.Test.YtngegjboenfmeaaWords
namespace Go.Proofs.Ytngegjboenfmeaa
open Go Go.RowKit
set_option linter.unusedVariables false

/-- a thing in memory, and its blocks -/
abbrev SP := World → (Nat → Prop) → Prop
/-- it hangs on its own blocks alone -/
structure Loc (P : SP) : Prop where
  keep : ∀ {w w' : World} {F : Nat → Prop}, P w F → (∀ k, F k → w'.heap[k]? = w.heap[k]?) → P w' F
  lt : ∀ {w : World} {F : Nat → Prop}, P w F → ∀ k, F k → k < w.heap.size

/-- things that lie apart, all from w0 on; what was there in w0 is as it was -/
def Sep (w0 w : World) (Ps : List SP) : Prop :=
  Below w0.heap.size w0 w ∧ ∃ Fs : List (Nat → Prop), Fs.length = Ps.length ∧
    (∀ (i : Nat) (P : SP) (F : Nat → Prop), Ps[i]? = some P → Fs[i]? = some F → P w F ∧ Loc P ∧ ∀ k, F k → w0.heap.size ≤ k) ∧
    (∀ (i j : Nat) (F G : Nat → Prop), i ≠ j → Fs[i]? = some F → Fs[j]? = some G → ∀ k, F k → ¬ G k)

/-- only the blocks F, and new ones, have turned; what lies in F' lay in F or is new -/
structure Upd (w w' : World) (F F' : Nat → Prop) : Prop where
  os : w'.os = w.os
  tape : w'.tape = w.tape
  output : w'.output = w.output
  size : w.heap.size ≤ w'.heap.size
  block : ∀ k, k < w.heap.size → ¬ F k → w'.heap[k]? = w.heap[k]?
  new : ∀ k, F' k → F k ∨ w.heap.size ≤ k

section
variable {w0 w w' : World} {Ps : List SP}
theorem Sep.bel (h : Sep w0 w Ps) : Below w0.heap.size w0 w := h.1
theorem Sep.size (h : Sep w0 w Ps) : w0.heap.size ≤ w.heap.size := h.1.size
theorem Sep.nil (w0 : World) : Sep w0 w0 [] := ⟨Below.refl _ _, [], rfl, fun i P F h => by simp at h, fun i j F G _ h => by simp at h⟩
theorem Sep.start (h : Below w0.heap.size w0 w) : Sep w0 w [] := ⟨h, [], rfl, fun i P F h => by simp at h, fun i j F G _ h => by simp at h⟩
theorem Sep.has (h : Sep w0 w Ps) {A : Option Addr} {xs : List Value} (hA : Has w0 w0.heap.size A xs) : Has w w0.heap.size A xs := hA.below h.1
theorem Sep.hasHere (h : Sep w0 w Ps) {A : Option Addr} {xs : List Value} (hA : Has w0 w0.heap.size A xs) : Has w w.heap.size A xs := (hA.below h.1).more h.size

theorem Sep.get {i : Nat} {P : SP} (h : Sep w0 w Ps) (hi : Ps[i]? = some P) : ∃ F, P w F := by
  obtain ⟨_, Fs, hl, h1, _⟩ := h
  have hlt := (List.getElem?_eq_some_iff.1 hi).1
  exact ⟨_, (h1 i P (Fs[i]'(by omega)) hi (List.getElem?_eq_getElem (by omega))).1⟩

theorem Sep.grow (h : Sep w0 w Ps) (hb : Below w.heap.size w w') : Sep w0 w' Ps := by
  obtain ⟨hB, Fs, hl, h1, h2⟩ := h
  refine ⟨hB.trans (hb.mono hB.size), Fs, hl, fun i P F hP hF => ?_, h2⟩
  obtain ⟨a, b, c⟩ := h1 i P F hP hF
  exact ⟨b.keep a fun k hk => hb.block k (b.lt a k hk), b, c⟩

theorem Sep.upd {i : Nat} {P : SP} (h : Sep w0 w Ps) (hi : Ps[i]? = some P) :
    ∃ F, P w F ∧ Loc P ∧ (∀ k, F k → w0.heap.size ≤ k ∧ k < w.heap.size) ∧ ∀ (w' : World) (P' : SP) (F' : Nat → Prop), Upd w w' F F' → P' w' F' → Loc P' → Sep w0 w' (Ps.set i P') := by
  obtain ⟨hB, Fs, hl, h1, h2⟩ := h
  have hlt := (List.getElem?_eq_some_iff.1 hi).1
  have hF : Fs[i]? = some (Fs[i]'(by omega)) := List.getElem?_eq_getElem (by omega)
  generalize Fs[i]'(by omega) = F at hF
  obtain ⟨a, b, c⟩ := h1 i P F hi hF
  have hlt2 : ∀ k, F k → w0.heap.size ≤ k ∧ k < w.heap.size := fun k hk => ⟨c k hk, b.lt a k hk⟩
  refine ⟨F, a, b, hlt2, fun w' P' F' hu hP' hL' => ?_⟩
  refine ⟨?_, Fs.set i F', by simp [hl], fun j Q G hQ hG => ?_, fun j k G G' hjk hG hG' m hm hm' => ?_⟩
  · exact hB.trans ⟨hu.os, hu.tape, hu.output, hu.size, fun k hk => hu.block k (by have := hB.size; omega) (fun hf => by have := (hlt2 k hf).1; omega)⟩
  · by_cases e : i = j
    · subst e
      rw [List.getElem?_set_self (by omega)] at hQ hG
      cases hQ
      cases hG
      exact ⟨hP', hL', fun k hk => by
        rcases hu.new k hk with h3 | h3
        · exact c k h3
        · have := hB.size; omega⟩
    · rw [List.getElem?_set_ne e] at hQ hG
      obtain ⟨a', b', c'⟩ := h1 j Q G hQ hG
      exact ⟨b'.keep a' fun k hk => hu.block k (b'.lt a' k hk) (fun hf => h2 i j F G e hF hG k hf hk), b', c'⟩
  · by_cases e : i = j
    · subst e
      rw [List.getElem?_set_self (by omega)] at hG
      cases hG
      rw [List.getElem?_set_ne hjk] at hG'
      have hl3 := (List.getElem?_eq_some_iff.1 hG').1
      obtain ⟨a', b', c'⟩ := h1 k (Ps[k]'(by omega)) G' (List.getElem?_eq_getElem (by omega)) hG'
      rcases hu.new m hm with h3 | h3
      · exact h2 i k F G' hjk hF hG' m h3 hm'
      · have := b'.lt a' m hm'; omega
    · rw [List.getElem?_set_ne e] at hG
      by_cases e2 : i = k
      · subst e2
        rw [List.getElem?_set_self (by omega)] at hG'
        cases hG'
        have hl3 := (List.getElem?_eq_some_iff.1 hG).1
        obtain ⟨a', b', c'⟩ := h1 j (Ps[j]'(by omega)) G (List.getElem?_eq_getElem (by omega)) hG
        rcases hu.new m hm' with h3 | h3
        · exact h2 i j F G e hF hG m h3 hm
        · have := b'.lt a' m hm; omega
      · rw [List.getElem?_set_ne e2] at hG'
        exact h2 j k G G' hjk hG hG' m hm hm'

theorem Sep.add {P : SP} {F : Nat → Prop} (h : Sep w0 w Ps) (hb : Below w.heap.size w w') (hP : P w' F) (hL : Loc P) (hF : ∀ k, F k → w.heap.size ≤ k) : Sep w0 w' (Ps ++ [P]) := by
  have hsz := h.size
  have hlt : ∀ (i : Nat) (P : SP) (G : Nat → Prop), P w G ∧ Loc P ∧ (∀ k, G k → w0.heap.size ≤ k) → ∀ k, G k → k < w.heap.size := fun i P G ⟨a, b, _⟩ => b.lt a
  obtain ⟨hB, Fs, hl, h1, h2⟩ := h
  refine ⟨hB.trans (hb.mono hB.size), Fs ++ [F], by simp [hl], fun i Q G hQ hG => ?_, fun i j G G' hij hG hG' k hk hk' => ?_⟩
  · rcases Nat.lt_or_ge i Ps.length with e | e
    · rw [List.getElem?_append_left e] at hQ
      rw [List.getElem?_append_left (by omega)] at hG
      obtain ⟨a, b, c⟩ := h1 i Q G hQ hG
      exact ⟨b.keep a fun k hk => hb.block k (b.lt a k hk), b, c⟩
    · rw [List.getElem?_append_right e] at hQ
      rw [List.getElem?_append_right (by omega), hl] at hG
      rcases hn : i - Ps.length with _ | n
      · rw [hn] at hQ hG
        cases hQ
        cases hG
        exact ⟨hP, hL, fun k hk => by have := hF k hk; omega⟩
      · rw [hn] at hQ
        simp at hQ
  · have old : ∀ (i : Nat) (G : Nat → Prop), i < Fs.length → (Fs ++ [F])[i]? = some G → Fs[i]? = some G ∧ ∀ k, G k → k < w.heap.size := fun i G hi hG => by
      rw [List.getElem?_append_left hi] at hG
      exact ⟨hG, hlt i _ G (h1 i (Ps[i]'(by omega)) G (List.getElem?_eq_getElem (by omega)) hG)⟩
    have new : ∀ (i : Nat) (G : Nat → Prop), ¬ i < Fs.length → (Fs ++ [F])[i]? = some G → i = Fs.length ∧ G = F := fun i G hi hG => by
      rw [List.getElem?_append_right (by omega)] at hG
      rcases hn : i - Fs.length with _ | n
      · rw [hn] at hG
        cases hG
        exact ⟨by omega, rfl⟩
      · rw [hn] at hG
        simp at hG
    by_cases hi : i < Fs.length
    · obtain ⟨hG1, hG2⟩ := old i G hi hG
      by_cases hj : j < Fs.length
      · exact h2 i j G G' hij hG1 (old j G' hj hG').1 k hk hk'
      · obtain ⟨_, rfl⟩ := new j G' hj hG'
        have := hG2 k hk
        have := hF k hk'
        omega
    · obtain ⟨ei, rfl⟩ := new i G hi hG
      by_cases hj : j < Fs.length
      · have := (old j G' hj hG').2 k hk'
        have := hF k hk
        omega
      · obtain ⟨ej, _⟩ := new j G' hj hG'
        omega

/-- things are let go -/
theorem Sep.drop (h : Sep w0 w Ps) (n : Nat) : Sep w0 w (Ps.eraseIdx n) := by
  obtain ⟨hB, Fs, hl, h1, h2⟩ := h
  refine ⟨hB, Fs.eraseIdx n, by rw [List.length_eraseIdx, List.length_eraseIdx, hl], fun i P F hP hF => ?_, fun i j F G hij hF hG => ?_⟩
  · rw [List.getElem?_eraseIdx] at hP hF
    split at hP
    · rename_i h3
      rw [if_pos h3] at hF
      exact h1 _ P F hP hF
    · rename_i h3
      rw [if_neg h3] at hF
      exact h1 _ P F hP hF
  · rw [List.getElem?_eraseIdx] at hF hG
    split at hF <;> split at hG
    · exact h2 _ _ F G hij hF hG
    · exact h2 _ _ F G (by omega) hF hG
    · exact h2 _ _ F G (by omega) hF hG
    · exact h2 _ _ F G (by omega) hF hG
/-- a thing is told otherwise -/
theorem Sep.turn {i : Nat} {P P' : SP} (h : Sep w0 w Ps) (hi : Ps[i]? = some P) (hP : ∀ F, P w F → P' w F) (hL : Loc P') : Sep w0 w (Ps.set i P') := by
  obtain ⟨F, a, b, c, k⟩ := h.upd hi
  exact k w P' F ⟨rfl, rfl, rfl, Nat.le_refl _, fun _ _ _ => rfl, fun k hk => .inl hk⟩ (hP F a) hL
/-- two things as one -/
def Both (P Q : SP) : SP := fun w F => ∃ F1 F2 : Nat → Prop, P w F1 ∧ Q w F2 ∧ (∀ k, F1 k → ¬ F2 k) ∧ ∀ k, F k ↔ (F1 k ∨ F2 k)
theorem Both.loc {P Q : SP} (h1 : Loc P) (h2 : Loc Q) : Loc (Both P Q) where
  keep := by
    rintro w w' F ⟨F1, F2, a, b, c, d⟩ hk
    exact ⟨F1, F2, h1.keep a fun k h => hk k ((d k).2 (.inl h)), h2.keep b fun k h => hk k ((d k).2 (.inr h)), c, d⟩
  lt := by
    rintro w F ⟨F1, F2, a, b, c, d⟩ k hk
    rcases (d k).1 hk with h | h
    · exact h1.lt a k h
    · exact h2.lt b k h
theorem Sep.split {i : Nat} {P Q : SP} (h : Sep w0 w Ps) (hi : Ps[i]? = some (Both P Q)) (hP : Loc P) (hQ : Loc Q) : Sep w0 w (Ps.set i P ++ [Q]) := by
  obtain ⟨hB, Fs, hl, h1, h2⟩ := h
  have hlt := (List.getElem?_eq_some_iff.1 hi).1
  have hF : Fs[i]? = some (Fs[i]'(by omega)) := List.getElem?_eq_getElem (by omega)
  generalize Fs[i]'(by omega) = F at hF
  obtain ⟨⟨F1, F2, a, b, c, d⟩, _, e⟩ := h1 i _ F hi hF
  have key : ∀ (j : Nat) (G : Nat → Prop), (Fs.set i F1 ++ [F2])[j]? = some G → (j = i ∧ G = F1) ∨ (j = Fs.length ∧ G = F2) ∨ (j ≠ i ∧ j < Fs.length ∧ Fs[j]? = some G) := by
    intro j G hG
    rcases Nat.lt_or_ge j Fs.length with hj | hj
    · rw [List.getElem?_append_left (by simpa using hj)] at hG
      by_cases hij : i = j
      · subst hij
        rw [List.getElem?_set_self hj] at hG
        cases hG
        exact .inl ⟨rfl, rfl⟩
      · rw [List.getElem?_set_ne hij] at hG
        exact .inr (.inr ⟨Ne.symm hij, hj, hG⟩)
    · rw [List.getElem?_append_right (by simpa using hj)] at hG
      rcases hn : j - (Fs.set i F1).length with _ | n
      · rw [hn] at hG
        cases hG
        simp at hn
        exact .inr (.inl ⟨by omega, rfl⟩)
      · rw [hn] at hG
        simp at hG
  refine ⟨hB, Fs.set i F1 ++ [F2], by simp [hl], fun j R G hR hG => ?_, fun j k G G' hjk hG hG' m hm hm' => ?_⟩
  · rcases key j G hG with ⟨rfl, rfl⟩ | ⟨rfl, rfl⟩ | ⟨hj, hj2, hG2⟩
    · rw [List.getElem?_append_left (by simpa using hlt), List.getElem?_set_self hlt] at hR
      cases hR
      exact ⟨a, hP, fun k hk => e k ((d k).2 (.inl hk))⟩
    · rw [List.getElem?_append_right (by simp [hl])] at hR
      simp [hl] at hR
      subst hR
      exact ⟨b, hQ, fun k hk => e k ((d k).2 (.inr hk))⟩
    · rw [List.getElem?_append_left (by simp; omega), List.getElem?_set_ne (Ne.symm hj)] at hR
      exact h1 j R G hR hG2
  · rcases key j G hG with ⟨rfl, rfl⟩ | ⟨rfl, rfl⟩ | ⟨hj, hj2, hG2⟩ <;> rcases key k G' hG' with ⟨rfl, rfl⟩ | ⟨rfl, rfl⟩ | ⟨hk, hk2, hG3⟩
    · exact hjk rfl
    · exact c m hm hm'
    · exact h2 _ k F G' hjk hF hG3 m ((d m).2 (.inl hm)) hm'
    · exact c m hm' hm
    · exact hjk rfl
    · exact h2 i k F G' (Ne.symm hk) hF hG3 m ((d m).2 (.inr hm)) hm'
    · exact h2 j _ G F hjk hG2 hF m hm ((d m).2 (.inl hm'))
    · exact h2 j i G F hj hG2 hF m hm ((d m).2 (.inr hm'))
    · exact h2 j k G G' hjk hG2 hG3 m hm hm'
theorem Sep.drew (h : Sep w0 w Ps) : Sep w0 w.drew Ps := h.grow (Below.refl _ _).drew
theorem Sep.drewN (h : Sep w0 w Ps) (n : Nat) : Sep w0 (w.drewN n) Ps := h.grow ⟨rfl, rfl, rfl, Nat.le_refl _, fun _ _ => rfl⟩
theorem Sep.alloc (h : Sep w0 w Ps) (o : Obj) : Sep w0 (w.alloc o) Ps := h.grow ((Below.refl _ _).alloc (Nat.le_refl _) _)
end
end Go.Proofs.Ytngegjboenfmeaa
