/- The document's Wide as a contract; growing rows among things that lie apart. -/
import Derived.Test.YtbnjlminjopaaaaCodeWide
namespace Go.Proofs.Ytbnjlminjopaaaa
open Go Go.RowKit
set_option linter.unusedVariables false
set_option maxRecDepth 100000

theorem sep_grown {w0 w w' : World} {Ps : List SP} {i : Nat} {v v' : Value} {l l' : List UInt8} (h : Sep w0 w Ps) (hi : Ps[i]? = some (By v l)) (ho : Own w' 0 v' l') (hg : w.grownBy w' v.ownBlock) (hat : v'.ownBlock = v.ownBlock ∨ v'.ownBlock = some w.heap.size) : Sep w0 w' (Ps.set i (By v' l')) := by
  obtain ⟨F, ⟨h1, hF⟩, hL, hlt, hk⟩ := h.upd hi
  refine hk w' _ (fun k => v'.ownBlock = some k) ⟨hg.os, hg.tape, hg.output, hg.size, fun k hk hnF => hg.block k hk (fun e => hnF ((hF k).2 e.symm)), fun k hk => ?_⟩ ⟨ho, fun k => Iff.rfl⟩ (By.loc _ _)
  rcases hat with e | e
  · exact .inl ((hF k).2 (by rw [← e]; exact hk))
  · rw [e] at hk
    injection hk with hk
    exact .inr (by omega)
/-- a made row of noughts -/
theorem own_made (w : World) (n : Nat) (hn : n ≤ maxLen) : Own (w.alloc (.cells (madeCells #[.int .u8 0] n) 5)) w.heap.size (.slice (some ⟨w.heap.size, 0, none⟩) n n) (List.replicate n 0) := by
  refine ⟨by simp [us], .inr ⟨w.heap.size, n, madeCells #[.int .u8 0] n, by simp, Nat.le_refl _, heap_alloc_new w _, by simp, hn, by rw [size_madeCells, Nat.mul_one], ?_⟩⟩
  simp [us, madeCells, Nat.mod_one]
  rw [List.map_const']
  simp

theorem wide_step (n x k : Nat) (hx : x < 18446744073709551616) (hk : k < n) (hd : k < (digs 256 x).length) :
    ((Code.wide n x).take k ++ List.replicate (n - k) 0).set k (UInt8.ofNat ((digs 256 x)[k])) = (Code.wide n x).take (k + 1) ++ List.replicate (n - (k + 1)) 0 := by
  have hl : (Code.wide n x).length = n := Code.wide_length n x
  have hlt : ((Code.wide n x).take k).length = k := by rw [List.length_take]; omega
  have hk2 : (Code.wide n x)[k]'(by omega) = UInt8.ofNat ((digs 256 x)[k]) := by
    have e := wide_digs n x hx
    have e2 : (Code.wide n x)[k]? = (((digs 256 x).map UInt8.ofNat ++ List.replicate n 0).take n)[k]? := by rw [← e]
    rw [List.getElem?_eq_getElem (by omega), List.getElem?_take, if_pos hk, List.getElem?_append_left (by simpa using hd), List.getElem?_map, List.getElem?_eq_getElem hd] at e2
    simpa using e2
  rw [List.set_append_right _ _ (by omega), hlt, Nat.sub_self, List.take_succ_eq_append_getElem (by omega : k < (Code.wide n x).length), hk2]
  obtain ⟨m, hm⟩ : ∃ m, n - k = m + 1 := ⟨n - k - 1, by omega⟩
  rw [hm, List.replicate_succ, List.set_cons_zero, show n - (k + 1) = m by omega, List.append_assoc]
  rfl
theorem wide_done (n x k : Nat) (hx : x < 18446744073709551616) (hk : k ≤ n) (hd : k = n ∨ (digs 256 x).length ≤ k) : (Code.wide n x).take k ++ List.replicate (n - k) 0 = Code.wide n x := by
  have hl : (Code.wide n x).length = n := Code.wide_length n x
  rcases hd with rfl | hd
  · rw [Nat.sub_self, List.take_of_length_le (by omega)]; simp
  · have e := wide_digs n x hx
    have hds : ((digs 256 x).map UInt8.ofNat).length ≤ k := by simpa using hd
    conv => rhs; rw [← List.take_append_drop k (Code.wide n x)]
    congr 1
    rw [e, List.drop_take, List.drop_append, List.drop_eq_nil_of_le hds, List.nil_append, List.drop_replicate, List.take_replicate]
    congr 1
    omega

end Go.Proofs.Ytbnjlminjopaaaa
