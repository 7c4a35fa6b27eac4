/- The walks of the document's writers of layer 3: a number, lives. -/
import Derived.Test.YtbnjlminjopaaaaLetO
import Derived.Test.YtbnjlminjopaaaaLetA
namespace Go.Proofs.Ytbnjlminjopaaaa
open Go Go.RowKit
set_option linter.unusedVariables false
set_option maxRecDepth 100000

set_option maxHeartbeats 800000 in
theorem u3_any (w : World) (x : Nat) (hx : x < 18446744073709551616) :
    Calls Try.prog 38 #[.int .u64 (x : Int)] w fun e w' => ∃ v, e = .returned v ∧ Own w' w.heap.size v (Code.short x) ∧ Below w.heap.size w w' := by
  have HX := Lib.hid hx
  clear hx
  have hsl := (Code.short_length x).2
  obtain ⟨L, HL⟩ : ∃ L, Hid (Code.short x = L) := ⟨_, Lib.hid rfl⟩
  rw [HL.out] at hsl ⊢
  go_enter Try.func38, Try.ntmps38
  go_wp2_with fail
  go_loopw [0, 3] (fun xv v wr => ∃ (y : Nat) (p : List UInt8), Hid (y < 18446744073709551616) ∧ p.length ≤ 11 ∧ xv = .int .u64 (y : Int) ∧ Hid (L = p ++ Code.short y) ∧ Hid (Sep w wr [By v p])) (fun xv _ _ => (intOf xv).toNat)
  case atStart => exact ⟨x, [], HX, by simp, rfl, Lib.hid HL.out.symm, Lib.hid (sep_byNilB (Sep.nil w))⟩
  case round =>
    obtain ⟨y, p, HY, hp, rfl, HE, HS⟩ := hrel
    by_cases hy : y < 128
    · have m0 : ((y : Nat) : Int) % 256 = ((y : Nat) : Int) := by omega
      have HU := Lib.hid (show us [UInt8.ofNat y] = [.int .u8 (y : Int)] by rw [us_ofNat]; rw [m0])
      have HSy := Lib.hid (Code.short_small y hy)
      go_wp2_with (at_builtin; go_must (refine sep_appB (i := 0) (c := 1) (A := some ⟨wr.heap.size, 0, none⟩) (m := [UInt8.ofNat y]) rfl rfl (by rfl) (by rfl) (HS.out.alloc _) rfl (has_lit HU.out) (by simp; omega) ?_); intro v4 w4 hs4
                   have HS4 : Hid (Sep w w4 [By v4 (p ++ [UInt8.ofNat y])]) := Lib.hid hs4
                   clear hs4 HS)
      go_ret
      refine ⟨_, rfl, ?_, HS4.out.bel⟩
      have h := sep_byFrom (i := 0) HS4.out rfl
      rw [← HSy.out, ← HE.out] at h
      exact h
    · obtain ⟨q, hq, hq2⟩ : ∃ q : Nat, ((y : Nat) : Int) % 128 = (q : Int) ∧ y % 128 = q ∧ q < 128 := ⟨y % 128, by omega, rfl, by omega⟩
      obtain ⟨d, hd, hd2⟩ : ∃ d : Nat, ((y : Nat) : Int) / 128 = (d : Int) ∧ y / 128 = d := ⟨y / 128, by omega, rfl⟩
      have hd3 : d < y := by omega
      have HD : Hid (d < 18446744073709551616) := Lib.hid (by have := HY.out; omega)
      have m1 : ((q : Int) + 128) % 18446744073709551616 = (q : Int) + 128 := by omega
      have m2 : ((q : Int) + 128) % 256 = (q : Int) + 128 := by omega
      have HU := Lib.hid (show us [UInt8.ofNat (q + 128)] = [.int .u8 ((q : Int) + 128)] by rw [us_ofNat, ← m2]; rfl)
      have HSy : Hid (L = (p ++ [UInt8.ofNat (q + 128)]) ++ Code.short d) := Lib.hid (by
        rw [HE.out, Code.short_great y (by omega) HY.out, hq2.1, hd2, List.append_assoc]; rfl)
      have hpl : p.length + 1 ≤ 11 := by
        have h := congrArg List.length HSy.out
        have := (Code.short_length d).1
        simp only [List.length_append, List.length_cons, List.length_nil] at h
        omega
      have mw : IntKind.u64.wrap (d : Int) = (d : Int) := by have := HD.out; rw [IntKind.wrap_u64]; omega
      have HQ := Lib.hid hq2
      have HD2 := Lib.hid hd2
      clear hq2 hd2
      go_wp2_with (at_builtin; go_must (refine sep_appB (i := 0) (c := 1) (A := some ⟨wr.heap.size, 0, none⟩) (m := [UInt8.ofNat (q + 128)]) rfl rfl (by rfl) (by rfl) (HS.out.alloc _) rfl (has_lit HU.out) (by simp; omega) ?_); intro v4 w4 hs4
                   have HS4 : Hid (Sep w w4 [By v4 (p ++ [UInt8.ofNat (q + 128)])]) := Lib.hid hs4
                   clear hs4 HS)
      go_roundw
      case rel => exact ⟨d, p ++ [UInt8.ofNat (q + 128)], HD, by simp; omega, rfl, HSy, HS4⟩
      case measure => simp [intOf]; omega
set_option maxHeartbeats 800000 in
theorem b3_any (w : World) (b o : Nat) (node inc : Nat) (hn : node < 256) (hx : inc < 18446744073709551616) (c0 : w.cell? ⟨b, o, none⟩ = some (.int .i64 (node : Int))) (c1 : w.cell? ⟨b, o + 1, none⟩ = some (.int .u64 (inc : Int))) :
    Calls Try.prog 36 #[.slice (some ⟨b, o, none⟩) 1 1] w fun e w' => ∃ v, e = .returned v ∧ Own w' w.heap.size v (UInt8.ofNat node :: Code.short inc) ∧ Below w.heap.size w w' := by
  have HX := Lib.hid hx
  have hb := World.block_lt_of_cell? w _ c0
  have C0 := Lib.hid c0
  have C1 := Lib.hid c1
  clear hx c0 c1
  go_enter Try.func36, Try.ntmps36
  go_wp2_with fail
  go_loopw [3, 4] (fun v iv wr => ∃ k : Nat, k ≤ 1 ∧ iv = .int .i64 (k : Int) ∧ ((k = 0 ∧ Hid (v = .slice none 0 0) ∧ Hid (Sep w wr [By v []])) ∨ (k = 1 ∧ Hid (Sep w wr [By v (UInt8.ofNat node :: Code.short inc)])))) (fun _ iv _ => 1 - (intOf iv).toNat)
  case atStart => exact ⟨0, by omega, rfl, .inl ⟨rfl, Lib.hid rfl, Lib.hid (sep_byNilB (Sep.nil w))⟩⟩
  case round =>
    obtain ⟨k, hk, rfl, ⟨hk0, HV, HS⟩ | ⟨hk1, HS⟩⟩ := hrel
    · subst hk0
      obtain rfl := HV.out
      have c0 := (HS.out.bel.cell (p := ⟨b, o, none⟩) hb).trans C0.out
      have m0 : ((node : Nat) : Int) % 256 = ((node : Nat) : Int) := by omega
      have m1 : ((node : Nat) : Int) % 18446744073709551616 = ((node : Nat) : Int) := by omega
      have HU := Lib.hid (show us [UInt8.ofNat node] = [.int .u8 (node : Int)] by rw [us_ofNat]; rw [m0])
      go_wp2_with (at_builtin; go_must (refine sep_appB (i := 0) (c := 1) (A := some ⟨wr.heap.size, 0, none⟩) (m := [UInt8.ofNat node]) rfl rfl (by rfl) (by rfl) (HS.out.alloc _) rfl (has_lit HU.out) (by simp) ?_); intro v4 w4 hs4
                   have HS4 : Hid (Sep w w4 [By v4 [UInt8.ofNat node]]) := Lib.hid hs4
                   clear hs4 HS c0 m0 m1
                   have c1 := (HS4.out.bel.cell (p := ⟨b, o + 1, none⟩) hb).trans C1.out)
      clear c1
      refine (u3_any w4 inc HX.out).mono ?_
      rintro e w5 ⟨v5, rfl, ho5, hb5⟩
      have HS5 := Lib.hid (show Sep w w5 [By v4 [UInt8.ofNat node], By v5 (Code.short inc)] from sep_newBy HS4.out ho5 hb5)
      clear HS4 ho5 hb5
      obtain ⟨A5, c5, rfl, _, _, h5⟩ := sep_byForm (i := 1) HS5.out rfl
      have H5 := Lib.hid h5
      have hq := (Code.short_length inc).2
      clear h5
      go_wp2_with (at_builtin; go_must (refine sep_appB (i := 0) (c := c5) (A := A5) (m := Code.short inc) rfl rfl (by rfl) (by rfl) HS5.out rfl H5.out (by simp; omega) ?_); intro v6 w6 hs6
                   have HS6 : Hid (Sep w w6 [By v6 (UInt8.ofNat node :: Code.short inc)]) := Lib.hid (Sep.drop (show Sep w w6 [By v6 (UInt8.ofNat node :: Code.short inc), _] from hs6) 1)
                   clear hs6 HS5 H5)
      go_roundw
      case rel => exact ⟨1, by omega, rfl, .inr ⟨rfl, HS6⟩⟩
      case measure => simp [intOf]
    · subst hk1
      go_wp2_with fail
      go_ret
      exact ⟨_, rfl, sep_byFrom (i := 0) HS.out rfl, HS.out.bel⟩
end Go.Proofs.Ytbnjlminjopaaaa
