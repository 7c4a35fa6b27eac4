/- The laws' own helpers asked, meant, stands, as contracts. -/
import Derived.Test.YtcjafbpgjlcdpaaDoorRefR4
import Derived.Test.YtcjafbpgjlcdpaaDoorSepStr
import Derived.Test.YtcjafbpgjlcdpaaDoorRgApp
namespace Go.Proofs.YtcjafbpgjlcdpaaDoor
open Go Go.RowKit
set_option linter.unusedVariables false
set_option linter.unusedSimpArgs false
set_option maxRecDepth 100000

/-- what an Ask answers, what is left, whether there is a fault -/
def askR (l : List UInt8) (bad : Bool) (k : Nat) (n : Int) : (Nat × List UInt8) × List UInt8 × Bool :=
  if k = 0 then (((rWide l bad 1).1, []), (rWide l bad 1).2) else if k = 1 then (((rWide l bad 2).1, []), (rWide l bad 2).2) else if k = 2 then (((rWide l bad 4).1, []), (rWide l bad 4).2) else if k = 3 then (((rWide l bad 8).1, []), (rWide l bad 8).2)
  else if k = 4 then (((rUint l bad).1, []), (rUint l bad).2) else if k = 5 then ((0, (rText l bad n).1), (rText l bad n).2) else if k = 6 then ((0, (rRaw l bad n).1), (rRaw l bad n).2)
  else if k = 7 then ((0, []), l, true) else ((if rEnd l bad then 3 else 0, []), l, rEnd l bad)
theorem rWide_left (l : List UInt8) (bad : Bool) (n : Nat) : (rWide l bad n).2.1.length ≤ l.length := by
  unfold rWide; split <;> simp
theorem rRaw_left (l : List UInt8) (bad : Bool) (z : Int) : (rRaw l bad z).2.1.length ≤ l.length := by
  unfold rRaw; split <;> simp
theorem rUint_left' (l : List UInt8) (bad : Bool) : (rUint l bad).2.1.length ≤ l.length := by
  unfold rUint
  cases bad
  · simp only [Bool.false_eq_true, if_false]; split <;> simp
  · simp
theorem rText_left' (l : List UInt8) (bad : Bool) (most : Int) : (rText l bad most).2.1.length ≤ l.length := by
  unfold rText
  cases bad
  · simp only [Bool.false_eq_true, if_false]
    split
    · simp
    · split <;> simp
  · simp
theorem askR_left (l : List UInt8) (bad : Bool) (k : Nat) (n : Int) : (askR l bad k n).2.1.length ≤ l.length := by
  unfold askR
  repeat' split
  all_goals first | exact rWide_left _ _ _ | exact rUint_left' _ _ | exact rText_left' _ _ _ | exact rRaw_left _ _ _ | exact Nat.le_refl _
theorem rUint_lt (l : List UInt8) (bad : Bool) : (rUint l bad).1 < 18446744073709551616 := by
  unfold rUint
  cases bad
  · simp only [Bool.false_eq_true, if_false]
    split
    · simp
    · rename_i x n h; exact (Code.num_form h).1
  · simp
/-- Go's own way to a rest that is none below nought -/
theorem mod9 (z : Int) : ∃ q : Int, -9 < q ∧ q < 9 ∧ z.tmod 9 = q ∧ (q + 9) % 9 = z % 9 := by
  refine ⟨z.tmod 9, Int.lt_tmod_of_pos z (by omega), Int.tmod_lt_of_pos z (by omega), rfl, ?_⟩
  rw [Int.tmod_eq_emod]
  split <;> omega
theorem mod9_nat (z : Int) : ∃ k : Nat, k < 9 ∧ z % 9 = (k : Int) := ⟨(z % 9).toNat, by omega, by omega⟩

/-- the document's Reader, among things that lie apart -/
def Rf (g : Nat) (l : List UInt8) (bad : Bool) : SP := fun w F => ∃ rb, Rdf w g rb l bad ∧ ∀ k, F k ↔ (k = g ∨ (k = rb ∧ 0 < l.length))
theorem Rf.loc (g : Nat) (l : List UInt8) (bad : Bool) : Loc (Rf g l bad) where
  keep := by
    rintro w w' F ⟨rb, ⟨A, c, e1, e2, e3, e4⟩, hF⟩ hk
    exact ⟨rb, ⟨A, c, by rw [hk g ((hF g).2 (.inl rfl))]; exact e1, e2, e3, e4.keep fun hl => hk rb ((hF rb).2 (.inr ⟨rfl, by rwa [us_length] at hl⟩))⟩, hF⟩
  lt := by
    rintro w F ⟨rb, h, hF⟩ k hk
    rcases (hF k).1 hk with rfl | ⟨rfl, e⟩
    · exact h.lt
    · exact h.row_lt e
section
variable {w0 w : World} {Ps : List SP}
theorem sep_readsF {P : Program} {f : FuncId} {args : Array Value} {i g : Nat} {l l' : List UInt8} {bad bad' : Bool} {v : Value} (h : Sep w0 w Ps) (hi : Ps[i]? = some (Rf g l bad)) (hlen : l'.length ≤ l.length) (hc : ∀ rb, Rdf w g rb l bad → Calls P f args w (ReadsF w g rb v l' bad')) :
    Calls P f args w fun e w' => e = .returned v ∧ Sep w0 w' (Ps.set i (Rf g l' bad')) := by
  obtain ⟨F, ⟨rb, hr, hF⟩, hL, hlt, hk⟩ := h.upd hi
  refine (hc rb hr).mono ?_
  rintro e w' ⟨rfl, hr', hc'⟩
  refine ⟨rfl, hk w' _ (fun k => k = g ∨ (k = rb ∧ 0 < l'.length)) ⟨hc'.os, hc'.tape, hc'.output, hc'.size, fun k hk hnF => hc'.block k hk (fun e => hnF ((hF k).2 (.inl e))) (by simp), fun k hk => ?_⟩ ⟨rb, hr', fun k => Iff.rfl⟩ (Rf.loc _ _ _)⟩
  rcases hk with rfl | ⟨rfl, e⟩
  · exact .inl ((hF _).2 (.inl rfl))
  · exact .inl ((hF _).2 (.inr ⟨rfl, by omega⟩))
theorem sep_refRaw {i g : Nat} {l : List UInt8} {bad : Bool} {z : Int} (h : Sep w0 w Ps) (hi : Ps[i]? = some (Rf g l bad)) (hl : l.length ≤ 1000000000) :
    Calls Tryd.prog 56 #[.pointer (some ⟨g, 0, none⟩), .int .i64 z] w fun e w' => ∃ v, e = .returned v ∧ Sep w0 w' (Ps.set i (Rf g (rRaw l bad z).2.1 (rRaw l bad z).2.2) ++ [By v (rRaw l bad z).1]) := by
  obtain ⟨F, ⟨rb, hr, hF⟩, hL, hlt, hk⟩ := h.upd hi
  have hlen : (rRaw l bad z).2.1.length ≤ l.length := rRaw_left l bad z
  refine (refRaw_any w g rb l bad z hr hl).mono ?_
  rintro e w' ⟨v, ho, rfl, hr', hc'⟩
  generalize rRaw l bad z = R at *
  refine ⟨v, rfl, ?_⟩
  have h2 := hk w' (Both (Rf g R.2.1 R.2.2) (By v R.1)) (fun k => (k = g ∨ (k = rb ∧ 0 < R.2.1.length)) ∨ v.ownBlock = some k) ⟨hc'.os, hc'.tape, hc'.output, hc'.size, fun k hk hnF => hc'.block k hk (fun e => hnF ((hF k).2 (.inl e))) (by simp), fun k hk => ?_⟩ ⟨_, _, ⟨rb, hr', fun k => Iff.rfl⟩, ⟨own_mono ho (Nat.zero_le _), fun k => Iff.rfl⟩, fun k h1 h2 => ?_, fun k => Iff.rfl⟩ (Both.loc (Rf.loc _ _ _) (By.loc _ _))
  · have h3 := h2.split (i := i) (List.getElem?_set_self (List.getElem?_eq_some_iff.1 hi).1) (Rf.loc _ _ _) (By.loc _ _)
    rw [List.set_set] at h3
    exact h3
  · rcases hk with (rfl | ⟨rfl, e⟩) | e
    · exact .inl ((hF _).2 (.inl rfl))
    · exact .inl ((hF _).2 (.inr ⟨rfl, by omega⟩))
    · exact .inr (ho.lt k e).1
  · have h4 := (ho.lt k h2).1
    rcases h1 with rfl | ⟨rfl, e⟩
    · have := (hlt _ ((hF _).2 (.inl rfl))).2; omega
    · have := (hlt _ ((hF _).2 (.inr ⟨rfl, by omega⟩))).2; omega
/-- the last thing, grown new and cleared, is let go -/
theorem set_append_last {P Q R : SP} {i : Nat} : ((Ps.set i P ++ [Q]).set Ps.length R).eraseIdx Ps.length = Ps.set i P := by
  have h1 : (Ps.set i P).length = Ps.length := by simp
  rw [← h1, List.set_append_right _ _ (Nat.le_refl _), Nat.sub_self, List.set_cons_zero, List.eraseIdx_append_of_length_le (Nat.le_refl _), Nat.sub_self]
  simp
theorem get_append_last {P Q : SP} {i : Nat} : (Ps.set i P ++ [Q])[Ps.length]? = some Q := by
  have h1 : (Ps.set i P).length = Ps.length := by simp
  rw [← h1, List.getElem?_append_right (Nat.le_refl _), Nat.sub_self]; rfl
theorem erase_append_last {P Q : SP} {i : Nat} : (Ps.set i P ++ [Q]).eraseIdx Ps.length = Ps.set i P := by
  have h1 : (Ps.set i P).length = Ps.length := by simp
  rw [← h1, List.eraseIdx_append_of_length_le (Nat.le_refl _), Nat.sub_self]
  simp

theorem sep_setBad {i g : Nat} {l : List UInt8} {bad : Bool} (h : Sep w0 w Ps) (hi : Ps[i]? = some (Rf g l bad)) (b : Bool) : Sep w0 (w.setCell ⟨g, 1, none⟩ (.bool b)) (Ps.set i (Rf g l b)) := by
  obtain ⟨F, ⟨rb, hr, hF⟩, hL, hlt, hk⟩ := h.upd hi
  have hc' := chg_set w g 1 (.bool b)
  exact hk _ _ F ⟨hc'.os, hc'.tape, hc'.output, hc'.size, fun k hk hnF => hc'.block k hk (fun e => hnF ((hF k).2 (.inl e))) (by simp), fun k hk => .inl hk⟩ ⟨rb, hr.setBad b, hF⟩ (Rf.loc _ _ _)

end
end Go.Proofs.YtcjafbpgjlcdpaaDoor
