/- Writers, Readers and rows of bytes as things that lie apart. -/
import Derived.Test.YtbnjlminjopaaaaSep
import Derived.Test.YtbnjlminjopaaaaCodeR4
namespace Go.Proofs.Ytbnjlminjopaaaa
open Go Go.RowKit
set_option linter.unusedVariables false
set_option maxRecDepth 100000

/-- a Writer -/
def Wr (g : Nat) (l : List UInt8) : SP := fun w F => ∃ r, Wtr w 0 g r l ∧ ∀ k, F k ↔ (k = g ∨ r = some k)
/-- a Reader -/
def Rd (g : Nat) (l : List UInt8) (bad : Bool) : SP := fun w F => ∃ rb, Rdr w g rb l bad ∧ ∀ k, F k ↔ (k = g ∨ (k = rb ∧ 0 < l.length))
/-- a row of bytes -/
def By (v : Value) (l : List UInt8) : SP := fun w F => Own w 0 v l ∧ ∀ k, F k ↔ v.ownBlock = some k

theorem own_keep {w w' : World} {base : Nat} {v : Value} {l : List UInt8} (h : Own w base v l) (hk : ∀ k, v.ownBlock = some k → w'.heap[k]? = w.heap[k]?) : Own w' base v l := by
  refine ⟨h.1, ?_⟩
  rcases h.2 with e | ⟨k, cap, cur, rfl, f1, f2, f3⟩
  · exact .inl e
  · exact .inr ⟨k, cap, cur, rfl, f1, by rw [hk k rfl]; exact f2, f3⟩
theorem Wr.loc (g : Nat) (l : List UInt8) : Loc (Wr g l) where
  keep := by
    rintro w w' F ⟨r, ⟨v, e1, e2, e3, e4⟩, hF⟩ hk
    exact ⟨r, ⟨v, by rw [hk g ((hF g).2 (.inl rfl))]; exact e1, e2, own_keep e3 fun k hv => hk k ((hF k).2 (.inr (by rw [← e2]; exact hv))), e4⟩, hF⟩
  lt := by
    rintro w F ⟨r, h, hF⟩ k hk
    rcases (hF k).1 hk with rfl | e
    · exact h.lt
    · exact (h.row k e).2.1
theorem Rd.loc (g : Nat) (l : List UInt8) (bad : Bool) : Loc (Rd g l bad) where
  keep := by
    rintro w w' F ⟨rb, ⟨A, c, e1, e2, e3, e4⟩, hF⟩ hk
    exact ⟨rb, ⟨A, c, by rw [hk g ((hF g).2 (.inl rfl))]; exact e1, e2, e3, e4.keep fun hl => hk rb ((hF rb).2 (.inr ⟨rfl, by rwa [us_length] at hl⟩))⟩, hF⟩
  lt := by
    rintro w F ⟨rb, h, hF⟩ k hk
    rcases (hF k).1 hk with rfl | ⟨rfl, e⟩
    · exact h.lt
    · exact h.row_lt e
theorem By.loc (v : Value) (l : List UInt8) : Loc (By v l) where
  keep := by
    rintro w w' F ⟨h, hF⟩ hk
    exact ⟨own_keep h fun k hv => hk k ((hF k).2 hv), hF⟩
  lt := by
    rintro w F ⟨h, hF⟩ k hk
    exact (h.lt k ((hF k).1 hk)).2
theorem wtr_zero {w : World} {base g : Nat} {r : Option Nat} {l : List UInt8} (h : Wtr w base g r l) : Wtr w 0 g r l := by
  obtain ⟨v, e1, e2, e3, e4⟩ := h
  exact ⟨v, e1, e2, own_mono e3 (Nat.zero_le _), Nat.zero_le _⟩

section
variable {w0 w : World} {Ps : List SP}
/-- a zero Writer -/
theorem sep_zeroWriter (h : Sep w0 w Ps) : Sep w0 (w.alloc (.cells #[.slice none 0 0] 52)) (Ps ++ [Wr w.heap.size []]) :=
  h.add (F := fun k => k = w.heap.size ∨ none = some k) ((Below.refl _ _).alloc (Nat.le_refl _) _) ⟨none, ⟨_, heap_alloc_new w _, rfl, World.ownsRow_nil _ _ _ 1, Nat.zero_le _⟩, fun k => Iff.rfl⟩ (Wr.loc _ _) fun k hk => by
    rcases hk with rfl | e
    · exact Nat.le_refl _
    · cases e
theorem sep_newReader (h : Sep w0 w Ps) (B : Nat) (A : Option Addr) (c : Nat) (l : List UInt8) (hA : Has w B A (us l)) (hB : B ≤ w.heap.size) (hl : l.length ≤ 1000000000) :
    Calls Try.prog 39 #[.slice A l.length c] w fun e w' => ∃ g, e = .returned (.pointer (some ⟨g, 0, none⟩)) ∧ Sep w0 w' (Ps ++ [Rd g l false]) :=
  (newReader_any w B A c l hA hB hl).mono fun e w' ⟨g, rb, he, hg, hrb, hr, hb⟩ => ⟨g, he, h.add (F := fun k => k = g ∨ (k = rb ∧ 0 < l.length)) hb ⟨rb, hr, fun k => Iff.rfl⟩ (Rd.loc _ _ _) fun k hk => by
    rcases hk with rfl | ⟨rfl, _⟩
    · exact hg
    · exact hrb⟩
/-- what writes -/
theorem sep_writes {P : Program} {f : FuncId} {args : Array Value} {i g : Nat} {l l' : List UInt8} (h : Sep w0 w Ps) (hi : Ps[i]? = some (Wr g l)) (hc : ∀ r, Wtr w 0 g r l → Calls P f args w (Writes w 0 g r l')) :
    Calls P f args w fun e w' => e = .returned (.tuple #[]) ∧ Sep w0 w' (Ps.set i (Wr g l')) := by
  obtain ⟨F, ⟨r, hw, hF⟩, hL, hlt, hk⟩ := h.upd hi
  refine (hc r hw).mono ?_
  rintro e w' ⟨rfl, r', hw', hc', hm'⟩
  refine ⟨rfl, hk w' _ (fun k => k = g ∨ r' = some k) ⟨hc'.os, hc'.tape, hc'.output, hc'.size, fun k hk hnF => hc'.block k hk (fun e => hnF ((hF k).2 (.inl e))) (fun e => hnF ((hF k).2 (.inr e.symm))), fun k hk => ?_⟩ ⟨r', hw', fun k => Iff.rfl⟩ (Wr.loc _ _)⟩
  rcases hk with rfl | e
  · exact .inl ((hF _).2 (.inl rfl))
  · rcases hm' with e2 | ⟨j, e2, hj⟩
    · exact .inl ((hF k).2 (.inr (by rw [← e2]; exact e)))
    · rw [e2] at e
      cases e
      exact .inr hj
/-- what reads -/
theorem sep_reads {P : Program} {f : FuncId} {args : Array Value} {i g : Nat} {l l' : List UInt8} {bad bad' : Bool} {v : Value} (h : Sep w0 w Ps) (hi : Ps[i]? = some (Rd g l bad)) (hlen : l'.length ≤ l.length) (hc : ∀ rb, Rdr w g rb l bad → Calls P f args w (Reads w g rb v l' bad')) :
    Calls P f args w fun e w' => e = .returned v ∧ Sep w0 w' (Ps.set i (Rd g l' bad')) := by
  obtain ⟨F, ⟨rb, hr, hF⟩, hL, hlt, hk⟩ := h.upd hi
  refine (hc rb hr).mono ?_
  rintro e w' ⟨rfl, hr', hc'⟩
  refine ⟨rfl, hk w' _ (fun k => k = g ∨ (k = rb ∧ 0 < l'.length)) ⟨hc'.os, hc'.tape, hc'.output, hc'.size, fun k hk hnF => hc'.block k hk (fun e => hnF ((hF k).2 (.inl e))) (by simp), fun k hk => ?_⟩ ⟨rb, hr', fun k => Iff.rfl⟩ (Rd.loc _ _ _)⟩
  rcases hk with rfl | ⟨rfl, e⟩
  · exact .inl ((hF _).2 (.inl rfl))
  · exact .inl ((hF _).2 (.inr ⟨rfl, by omega⟩))
/-- Bytes -/
theorem sep_bytes {i g : Nat} {l : List UInt8} (h : Sep w0 w Ps) (hi : Ps[i]? = some (Wr g l)) (hl : l.length ≤ 1000000000) :
    Calls Try.prog 35 #[.pointer (some ⟨g, 0, none⟩)] w fun e w' => ∃ v, e = .returned v ∧ Sep w0 w' (Ps ++ [By v l]) := by
  obtain ⟨F, r, hw, hF⟩ := h.get hi
  refine (bytes_any w 0 g r l hw hl).mono ?_
  rintro e w' ⟨v, rfl, ho, hb⟩
  exact ⟨v, rfl, h.add (F := fun k => v.ownBlock = some k) hb ⟨own_mono ho (Nat.zero_le _), fun k => Iff.rfl⟩ (By.loc _ _) fun k hk => (ho.lt k hk).1⟩
theorem sep_left {i g : Nat} {l : List UInt8} {bad : Bool} (h : Sep w0 w Ps) (hi : Ps[i]? = some (Rd g l bad)) :
    Calls Try.prog 59 #[.pointer (some ⟨g, 0, none⟩)] w fun e w' => e = .returned (.int .i64 l.length) ∧ w = w' := by
  obtain ⟨F, rb, hw, hF⟩ := h.get hi
  exact left_any w g rb l bad hw
theorem sep_err {i g : Nat} {l : List UInt8} {bad : Bool} (h : Sep w0 w Ps) (hi : Ps[i]? = some (Rd g l bad)) :
    Calls Try.prog 56 #[.pointer (some ⟨g, 0, none⟩)] w fun e w' => e = .returned (.int .i64 (errOf bad)) ∧ w = w' := by
  obtain ⟨F, rb, hw, hF⟩ := h.get hi
  exact err_any w g rb l bad hw
theorem By.form {w : World} {F : Nat → Prop} {v : Value} {l : List UInt8} (h : By v l w F) : ∃ A c, v = .slice A l.length c ∧ l.length ≤ c ∧ c ≤ maxLen ∧ Has w w.heap.size A (us l) := h.1.form
theorem sep_byForm {i : Nat} {v : Value} {l : List UInt8} (h : Sep w0 w Ps) (hi : Ps[i]? = some (By v l)) : ∃ A c, v = .slice A l.length c ∧ l.length ≤ c ∧ c ≤ maxLen ∧ Has w w.heap.size A (us l) := by
  obtain ⟨F, h⟩ := h.get hi
  exact h.form
end
end Go.Proofs.Ytbnjlminjopaaaa
