/- The document's Wide as a contract; growing rows among things that lie apart. -/
import Derived.Test.YtkjficbegjhefaaCodeWide
namespace Go.Proofs.Ytkjficbegjhefaa
open Go Go.RowKit
set_option linter.unusedVariables false
set_option maxRecDepth 100000

theorem sep_grown {w0 w w' : World} {Ps : List SP} {i : Nat} {v v' : Value} {l l' : List UInt8} (h : Sep w0 w Ps) (hi : Ps[i]? = some (By v l)) (ho : Own w' 0 v' l') (hg : w.grownBy w' v.ownBlock) (hat : v'.ownBlock = v.ownBlock ∨ v'.ownBlock = some w.heap.size) : Sep w0 w' (Ps.set i (By v' l')) := by
  obtain ⟨F, ⟨h1, hF⟩, hL, hlt, hk⟩ := h.upd hi
  refine hk w' _ (fun k => v'.ownBlock = some k) ⟨hg.os, hg.tape, hg.output, hg.size, fun k hk hnF => hg.block k hk (fun e => hnF ((hF k).2 e.symm)), fun k hk => ?_⟩ ⟨ho, fun k => Iff.rfl⟩ (By.loc _ _)
  rcases hat with e | e
  · exact .inl ((hF k).2 (by rw [← e]; exact hk))
  · rw [e] at hk
    injection hk with hk
    exact .inr (by omega)
/-- a made row of noughts -/
theorem own_made (w : World) (n : Nat) (hn : n ≤ maxLen) : Own (w.alloc (.cells (madeCells #[.int .u8 0] n) 5)) w.heap.size (.slice (some ⟨w.heap.size, 0, none⟩) n n) (List.replicate n 0) := by
  refine ⟨by simp [us], .inr ⟨w.heap.size, n, madeCells #[.int .u8 0] n, by simp, Nat.le_refl _, heap_alloc_new w _, by simp, hn, by rw [size_madeCells, Nat.mul_one], ?_⟩⟩
  simp [us, madeCells, Nat.mod_one]
  rw [List.map_const']
  simp

theorem wide_step (n x k : Nat) (hx : x < 18446744073709551616) (hk : k < n) (hd : k < (digs 256 x).length) :
    ((Code.wide n x).take k ++ List.replicate (n - k) 0).set k (UInt8.ofNat ((digs 256 x)[k])) = (Code.wide n x).take (k + 1) ++ List.replicate (n - (k + 1)) 0 := by
  have hl : (Code.wide n x).length = n := Code.wide_length n x
  have hlt : ((Code.wide n x).take k).length = k := by rw [List.length_take]; omega
  have hk2 : (Code.wide n x)[k]'(by omega) = UInt8.ofNat ((digs 256 x)[k]) := by
    have e := wide_digs n x hx
    have e2 : (Code.wide n x)[k]? = (((digs 256 x).map UInt8.ofNat ++ List.replicate n 0).take n)[k]? := by rw [← e]
    rw [List.getElem?_eq_getElem (by omega), List.getElem?_take, if_pos hk, List.getElem?_append_left (by simpa using hd), List.getElem?_map, List.getElem?_eq_getElem hd] at e2
    simpa using e2
  rw [List.set_append_right _ _ (by omega), hlt, Nat.sub_self, List.take_succ_eq_append_getElem (by omega : k < (Code.wide n x).length), hk2]
  obtain ⟨m, hm⟩ : ∃ m, n - k = m + 1 := ⟨n - k - 1, by omega⟩
  rw [hm, List.replicate_succ, List.set_cons_zero, show n - (k + 1) = m by omega, List.append_assoc]
  rfl
theorem wide_done (n x k : Nat) (hx : x < 18446744073709551616) (hk : k ≤ n) (hd : k = n ∨ (digs 256 x).length ≤ k) : (Code.wide n x).take k ++ List.replicate (n - k) 0 = Code.wide n x := by
  have hl : (Code.wide n x).length = n := Code.wide_length n x
  rcases hd with rfl | hd
  · rw [Nat.sub_self, List.take_of_length_le (by omega)]; simp
  · have e := wide_digs n x hx
    have hds : ((digs 256 x).map UInt8.ofNat).length ≤ k := by simpa using hd
    conv => rhs; rw [← List.take_append_drop k (Code.wide n x)]
    congr 1
    rw [e, List.drop_take, List.drop_append, List.drop_eq_nil_of_le hds, List.nil_append, List.drop_replicate, List.take_replicate]
    congr 1
    omega

set_option maxHeartbeats 400000 in
theorem refWide_any (w : World) (x n : Nat) (hx : x < 18446744073709551616) (hn : n ≤ 8) :
    Calls Try.prog 26 #[.int .u64 x, .int .i64 n] w fun e w' => ∃ v, e = .returned v ∧ Own w' w.heap.size v (Code.wide n x) ∧ Below w.heap.size w w' := by
  have HX := Lib.hid hx
  clear hx
  have hmk := run_make_row' (P := Try.prog) 26 5 (.int .u8 0) 1 Try.underlying26 info_u8 rfl .i64 .i64 n (by omega) (by omega)
  go_enter Try.func26, Try.ntmps26
  go_wp2_with fail
  refine (digits_any w x 256 HX.out (by omega) (by omega)).mono ?_
  rintro e w1 ⟨v1, rfl, ho1, hb1⟩
  obtain ⟨A1, c1, rfl, hc1, hm1, h1⟩ := ho1.form
  have H1 := Lib.hid h1
  have hlen := (digsF_length 64 256 x).2
  rw [show digsF 64 256 x = digs 256 x from rfl] at hlen
  have HL := Lib.hid (show ∀ d ∈ digs 256 x, d < 256 from digsF_lt 64 256 x (by omega))
  have HST := Lib.hid (fun k => wide_step n x k HX.out)
  have HDN := Lib.hid (fun k => wide_done n x k HX.out)
  clear ho1 h1
  generalize digs 256 x = ds at *
  go_wp2
  have HO := Lib.hid (own_made w1 n (by unfold maxLen; omega))
  have HB2 := Lib.hid (show Below w1.heap.size w1 (w1.alloc (.cells (madeCells #[.int .u8 0] n) 5)) from (Below.refl _ _).alloc (Nat.le_refl _) _)
  generalize w1.alloc (.cells (madeCells #[.int .u8 0] n) 5) = w2 at *
  clear hmk
  have hwl := Code.wide_length n x
  obtain ⟨W0, HW0⟩ : ∃ W0, Hid (Code.wide n x = W0) := ⟨_, Lib.hid rfl⟩
  rw [HW0.out] at hwl HST HDN
  go_loopw [7] (fun iv wr => ∃ k : Nat, k ≤ n ∧ iv = .int .i64 k ∧ Hid (Own wr w1.heap.size (.slice (some ⟨w1.heap.size, 0, none⟩) n n) (W0.take k ++ List.replicate (n - k) 0)) ∧ Hid (Below w1.heap.size w1 wr)) (fun iv _ => n - (intOf iv).toNat)
  case atStart => exact ⟨0, Nat.zero_le _, rfl, by simpa using HO, HB2⟩
  case round =>
    obtain ⟨k, hk, rfl, HOr, HB⟩ := hrel
    by_cases hkn : k < n
    · by_cases hkd : k < ds.length
      · obtain ⟨b, o, rfl, hbB, hcell0⟩ := H1.out.at_ (show k < (u64s ds).length by rw [u64s_length]; exact hkd)
        have hcell : wr.cell? ⟨b, o + k, none⟩ = some (.int .u64 (ds[k] : Int)) := by
          rw [HB.out.cell (p := ⟨b, o + k, none⟩) hbB, hcell0]; simp [u64s]
        have hd := HL.out ds[k] (List.getElem_mem hkd)
        have HT := Lib.hid (HST.out k hkn hkd)
        obtain ⟨g, e, hg1, hg2, hc3, hf3, hset⟩ := HOr.out.at_ (k := k) (by simp; omega)
        injection e with e
        injection e with e _
        subst e
        obtain ⟨d, Hd⟩ : ∃ d, Hid (ds[k] = d) := ⟨_, Lib.hid rfl⟩
        rw [Hd.out] at hcell hd HT
        have hset2 := hset (UInt8.ofNat d)
        rw [HT.out, show ((UInt8.ofNat d).toNat : Int) = (d : Int) by rw [UInt8.toNat_ofNat']; omega] at hset2
        have HS2 := Lib.hid hset2
        clear hcell0 hset hset2
        generalize ((W0.take k ++ List.replicate (n - k) 0)[k]'(by simp; omega)) = bb at hc3
        go_wp2
        go_roundw
        case rel => exact ⟨k + 1, by omega, by go_num, HS2, Lib.hid (HB.out.setCell (p := ⟨w1.heap.size, k, none⟩) hg1 _)⟩
        case measure => simp [intOf]; omega
      · have HE := Lib.hid (HDN.out k hk (.inr (by omega)))
        go_wp2
        go_ret
        exact ⟨_, rfl, by rw [HW0.out, ← HE.out]; exact own_mono HOr.out hb1.size, hb1.trans (HB.out.mono hb1.size)⟩
    · have HE := Lib.hid (HDN.out k hk (.inl (by omega)))
      go_wp2
      go_ret
      exact ⟨_, rfl, by rw [HW0.out, ← HE.out]; exact own_mono HOr.out hb1.size, hb1.trans (HB.out.mono hb1.size)⟩
end Go.Proofs.Ytkjficbegjhefaa
