/- A string as new bytes; the document's Text. -/
import Derived.Test.YtbnjlminjopaaaaCodeWide2
import Derived.Lib.ConvBytes
namespace Go.Proofs.Ytbnjlminjopaaaa
open Go Go.RowKit
set_option linter.unusedVariables false
set_option maxRecDepth 100000

/-- bytes made of a string: a row of its own, with a mark behind its end -/
def Cv (v : Value) (l : List UInt8) : SP := fun w F => ∃ g c, v = .slice (some ⟨g, 0, none⟩) l.length c ∧ g < w.heap.size ∧ (∀ j (hj : j < l.length), w.cell? ⟨g, j, none⟩ = some (.int .u8 (l[j].toNat : Int)) ∧ w.frozen? ⟨g, j, none⟩ = false) ∧ ∀ k, F k ↔ k = g
theorem lt_of_block {w w' : World} {g : Nat} (h : g < w.heap.size) (e : w'.heap[g]? = w.heap[g]?) : g < w'.heap.size := by
  rcases Nat.lt_or_ge g w'.heap.size with hlt | hge
  · exact hlt
  · rw [Array.getElem?_eq_none hge, Array.getElem?_eq_getElem h] at e; cases e
theorem Cv.loc (v : Value) (l : List UInt8) : Loc (Cv v l) where
  keep := by
    rintro w w' F ⟨g, c, e, hg, hc, hF⟩ hk
    have hb := hk g ((hF g).2 rfl)
    refine ⟨g, c, e, lt_of_block hg hb, fun j hj => ?_, hF⟩
    rw [World.cell?_of_block (w := w) (a := ⟨g, j, none⟩) hb, World.frozen?_of_block (w := w) (a := ⟨g, j, none⟩) hb]
    exact hc j hj
  lt := by
    rintro w F ⟨g, c, e, hg, hc, hF⟩ k hk
    rw [(hF k).1 hk]; exact hg
theorem sep_cvHas {w0 w : World} {Ps : List SP} {i : Nat} {v : Value} {l : List UInt8} (h : Sep w0 w Ps) (hi : Ps[i]? = some (Cv v l)) : ∃ A c, v = .slice A l.length c ∧ Has w w.heap.size A (us l) := by
  obtain ⟨F, g, c, e, hg, hc, hF⟩ := h.get hi
  refine ⟨_, c, e, fun j u hu => ⟨g, 0, rfl, hg, ?_⟩⟩
  have hj : j < l.length := by
    rcases Nat.lt_or_ge j l.length with h1 | h1
    · exact h1
    · rw [List.getElem?_eq_none (by rw [us_length]; exact h1)] at hu; cases hu
  rw [us_at hj] at hu
  rw [Nat.zero_add, (hc j hj).1]; exact hu
theorem sep_conv {w0 w : World} {Ps : List SP} (h : Sep w0 w Ps) (l : List UInt8) :
    ∃ w2 c, (convert 9 27 (.string ⟨l.toArray⟩)).run Try.prog w = .ok (.slice (some ⟨w.heap.size, 0, none⟩) l.length c) w2 ∧ Sep w0 w2 (Ps ++ [Cv (.slice (some ⟨w.heap.size, 0, none⟩) l.length c) l]) := by
  have hsz := size_str l
  refine ⟨Lib.bytesWorld w 5 ⟨l.toArray⟩, grownCap w l.length 0 5, ?_, h.add (F := fun k => k = w.heap.size) ⟨rfl, rfl, rfl, ?_, fun k hk => Lib.bytesWorld_at_old w _ _ k hk⟩ ⟨w.heap.size, _, rfl, ?_, fun j hj => ⟨?_, ?_⟩, fun k => Iff.rfl⟩ (Cv.loc _ _) (fun k hk => by omega)⟩
  · rw [Lib.run_convert_string_bytes w 9 27 5 ⟨l.toArray⟩ Try.underlying9 Try.underlying27 Try.underlying5, hsz]
  · rw [Lib.bytesWorld_size]; omega
  · rw [Lib.bytesWorld_size]; omega
  · rw [Lib.bytesWorld_cell _ _ _ _ (by rw [hsz]; exact hj)]
    simp [hj]
  · have hle := grownCap_ge w l.length 0 5
    have hcs : (Lib.bytesCells w 5 ⟨l.toArray⟩).size = grownCap w l.length 0 5 := by
      simp [Lib.bytesCells, hsz]; omega
    simp only [World.frozen?, Lib.bytesWorld_at_new, hcs]
    simp
    omega
theorem sep_clearCv {w0 w : World} {Ps : List SP} {i n c g : Nat} {l : List UInt8} (h : Sep w0 w Ps) (hi : Ps[i]? = some (Cv (.slice (some ⟨g, 0, none⟩) n c) l)) :
    ∃ w1, (∀ ty, (Builtin.clear_ #[27] ty #[.slice (some ⟨g, 0, none⟩) n c]).run Try.prog w = .ok (.tuple #[]) w1) ∧ Sep w0 w1 (Ps.set i Emp) := by
  obtain ⟨F, ⟨g', c', e, hg, hc, hF⟩, hL, hlt, hk⟩ := h.upd hi
  injection e with e1 e2 e3
  injection e1 with e1
  injection e1 with e1 _
  subst e1 e2 e3
  rcases Nat.eq_zero_or_pos l.length with h0 | h0
  · rw [h0]
    exact ⟨w, fun ty => by simp [Builtin.clear_, run_underlying Try.underlying27], hk w _ (fun _ => False) ⟨rfl, rfl, rfl, Nat.le_refl _, fun _ _ _ => rfl, fun k hk => hk.elim⟩ (fun _ h => h) Emp.loc⟩
  · obtain ⟨s1, s2, s3, s4, s5⟩ := heap_setCells g (List.replicate l.length (.int .u8 0)) 0 w
    refine ⟨w.setCells g 0 (List.replicate l.length (.int .u8 0)), fun ty => Lib.run_clear_slice w 27 5 ty (.int .u8 0) Try.underlying27 zero_u8 rfl rfl g 0 l.length c h0 (fun j hj => ?_) (fun j hj => ?_), hk _ _ (fun _ => False) ⟨s3, s4, s5, Nat.le_of_eq s2.symm, fun k _ hnF => s1 k (fun e => hnF ((hF k).2 e)), fun k hk => hk.elim⟩ (fun _ h => h) Emp.loc⟩
    · rw [Nat.zero_add, (hc j hj).1]; rfl
    · rw [Nat.zero_add]; exact (hc j hj).2

theorem str_app (l m : List UInt8) : (⟨l.toArray⟩ : ByteArray) ++ ⟨m.toArray⟩ = ⟨(l ++ m).toArray⟩ := by
  apply ByteArray.ext
  simp

end Go.Proofs.Ytbnjlminjopaaaa
