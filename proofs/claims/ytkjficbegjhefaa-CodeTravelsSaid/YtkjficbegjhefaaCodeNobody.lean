/- The walk of the law CodeNobody. -/
import Derived.Test.YtkjficbegjhefaaCodeAwake
import Derived.Test.YtkjficbegjhefaaCodeNil2
import Derived.Test.YtkjficbegjhefaaOpenAsk
import Derived.Test.YtkjficbegjhefaaOpenStr
namespace Go.Proofs.Ytkjficbegjhefaa
open Go Go.RowKit
set_option linter.unusedVariables false
set_option linter.unusedSimpArgs false
set_option maxRecDepth 100000

theorem pairs_cells {w : World} {B : Option Addr} {qs : List (Int × Int)} (hB : Has w w.heap.size B (pairsOf qs)) : ∀ (k : Nat) (hk : k < qs.length), ∃ b o : Nat, B = some ⟨b, o, none⟩ ∧ ∀ W, Below w.heap.size w W → W.cell? ⟨b, o + k * 2, none⟩ = some (.int .i64 (qs[k]).1) ∧ W.cell? ⟨b, o + k * 2 + 1, none⟩ = some (.int .i64 (qs[k]).2) := fun k hk => by
  have h2 := pairsOf_at qs k hk
  obtain ⟨b, o, e, hbB, hc⟩ := hB _ _ h2.1
  obtain ⟨b', o', e', _, hc'⟩ := hB _ _ h2.2
  rw [e] at e'
  injection e' with e'
  injection e' with e1 e2
  subst e1 e2
  exact ⟨b, o, e, fun W hW => ⟨by rw [hW.cell (p := ⟨b, o + k * 2, none⟩) hbB, hc], by rw [hW.cell (p := ⟨b, o + k * 2 + 1, none⟩) hbB, Nat.add_assoc, hc']⟩⟩

set_option maxHeartbeats 3200000 in
theorem codeNobody_walk (w : World) (B : Option Addr) (d : Nat) (s : List UInt8) (qs : List (Int × Int)) (hB : Has w w.heap.size B (pairsOf qs)) (hx : ∀ x ∈ qs, -9223372036854775808 ≤ x.2 ∧ x.2 ≤ 9223372036854775807) (hsl : s.length ≤ 140737488355328) :
    Calls Try.prog 10 #[.slice B qs.length d, .string ⟨s.toArray⟩] w fun e w' => e = .returned (.bool true) ∧ Below w.heap.size w w' := by
  have HX := Lib.hid hx
  have HCR0 := Lib.hid (pairs_cells hB)
  have hsz := size_str s
  clear hB hx
  by_cases hl1 : 1000 < qs.length
  · go_enter Try.func10, Try.ntmps10
    go_wp2_with fail
    refine (codeAwake w).mono ?_
    rintro e w' ⟨rfl, hb⟩
    go_wp2
    go_ret
    exact ⟨rfl, hb⟩
  by_cases hl2 : 10000 < s.length
  · go_enter Try.func10, Try.ntmps10
    go_wp2_with fail
    refine (codeAwake w).mono ?_
    rintro e w' ⟨rfl, hb⟩
    go_wp2
    go_ret
    exact ⟨rfl, hb⟩
  go_enter Try.func10, Try.ntmps10
  go_wp2_with fail
  have HS0 := Lib.hid (show Sep w (((w.alloc (.cells #[.slice none 0 0, .bool false] 69)).alloc (.cells #[.slice none 0 0, .bool false] 56)).alloc (.cells #[.slice none 0 0, .bool true] 56)) [Rd w.heap.size [] false, Rf (w.heap.size + 1) [] false, Rf (w.heap.size + 2) [] true] by
    have h1 := sep_zeroRd (Sep.nil w) false
    have h2 := sep_zeroRf h1 false
    have h3 := sep_zeroRf h2 true
    simpa using h3)
  go_loopw [4, 9, 10, 11, 12, 13, 14, 15, 16, 17] (fun s4 iv _ _ _ _ _ _ _ _ wr => ∃ (k : Nat) (bad : Bool), k ≤ qs.length ∧ s4 = .bool false ∧ iv = .int .i64 k ∧ Hid (Sep w wr [Rd w.heap.size [] bad, Rf (w.heap.size + 1) [] bad, Rf (w.heap.size + 2) [] true])) (fun _ iv _ _ _ _ _ _ _ _ _ => qs.length - (intOf iv).toNat)
  case atStart => exact ⟨0, false, Nat.zero_le _, rfl, rfl, HS0⟩
  case round =>
    obtain ⟨k, bad, hk, rfl, rfl, HS⟩ := hrel
    by_cases hkt : k < qs.length
    · obtain ⟨bb, o, rfl, hc⟩ := HCR0.out k hkt
      have hb2 := HX.out qs[k] (List.getElem_mem hkt)
      have HCR := Lib.hid hc
      clear hc
      obtain ⟨z, n, Hq⟩ : ∃ z n, Hid (qs[k] = (z, n)) := ⟨_, _, Lib.hid rfl⟩
      rw [Hq.out] at hb2 HCR
      dsimp only at hb2 HCR
      obtain ⟨m, hm9, hm⟩ := mod9_nat z
      have HM := Lib.hid hm
      have hleft := askR_left [] bad m n
      have HBAD := Lib.hid (askR_bad m hm9 n)
      clear hm
      obtain ⟨g0, Hg0⟩ : ∃ g0, Hid (w.heap.size = g0) := ⟨_, Lib.hid rfl⟩
      rw [Hg0.out] at HS ⊢
      obtain ⟨hc5, hc6⟩ := HCR.out wr HS.out.bel
      go_wp2_with fail
      refine (sep_asked_nil z n HS.out m hm9 HM.out).mono ?_
      rintro e w6 ⟨rfl, hs6⟩
      have HS6 := Lib.hid hs6
      clear hs6 hc5 hc6
      obtain ⟨hc5, hc6⟩ := HCR.out w6 HS6.out.bel
      go_wp2_with fail
      refine (sep_meant (i := 2) z n HS6.out rfl (by simp) hb2.1 hb2.2 m hm9 HM.out).mono ?_
      rintro e w7 ⟨rfl, hs7⟩
      rw [HBAD.out] at hs7 ⊢
      have HS7 := Lib.hid (show Sep w w7 [Rd g0 [] bad, Rf (g0 + 1) [] bad, Rf (g0 + 2) [] true] from hs7)
      clear hs7 hc5 hc6 HS6 HS
      dsimp only
      obtain ⟨xx, Hxx⟩ : ∃ xx : Nat, Hid ((if m = 8 then 3 else 0) = xx) := ⟨_, Lib.hid rfl⟩
      rw [Hxx.out]
      obtain ⟨hc5, hc6⟩ := HCR.out w7 HS7.out.bel
      go_wp2_with fail
      refine (sep_asked (i := 0) z n HS7.out rfl (by simp) hb2.1 hb2.2 m hm9 HM.out).mono ?_
      rintro e w8 ⟨rfl, hs8⟩
      have HS8 := Lib.hid (show Sep w w8 [Rd g0 (askR [] bad m n).2.1 (askR [] bad m n).2.2, Rf (g0 + 1) [] bad, Rf (g0 + 2) [] true] from hs8)
      clear hs8 hc5 hc6 HS7
      obtain ⟨hc5, hc6⟩ := HCR.out w8 HS8.out.bel
      go_wp2_with fail
      refine (sep_meant (i := 1) z n HS8.out rfl (by simp) hb2.1 hb2.2 m hm9 HM.out).mono ?_
      rintro e w9 ⟨rfl, hs9⟩
      have HS9 := Lib.hid (show Sep w w9 [Rd g0 (askR [] bad m n).2.1 (askR [] bad m n).2.2, Rf (g0 + 1) (askR [] bad m n).2.1 (askR [] bad m n).2.2, Rf (g0 + 2) [] true] from hs9)
      clear hs9 hc5 hc6 HS8
      obtain ⟨⟨x, s2⟩, l2, bad2, HE⟩ : ∃ p l2 b2, Hid (askR [] bad m n = (p, l2, b2)) := ⟨_, _, _, Lib.hid rfl⟩
      rw [HE.out] at HS9 hleft ⊢
      dsimp only at HS9 hleft ⊢
      obtain rfl : l2 = [] := List.eq_nil_of_length_eq_zero (by simpa using hleft)
      clear hleft
      go_wp2_with fail
      refine (sep_stands_nil (j := 2) HS9.out rfl).mono ?_
      rintro e w10 ⟨rfl, hs10⟩
      have HS10 := Lib.hid hs10
      clear hs10
      go_wp2_with fail
      refine (sep_stands (i := 0) (j := 1) HS10.out rfl rfl).mono ?_
      rintro e w11 ⟨rfl, hs11⟩
      have HS11 := Lib.hid hs11
      clear hs11
      go_wp2
      go_roundw
      case rel => exact ⟨k + 1, bad2, by omega, rfl, by go_num, HS11⟩
      case measure => simp [intOf]; omega
    · go_wp2_with fail
      refine (wText_nil _ _).mono ?_
      rintro e w6 ⟨rfl, rfl⟩
      go_wp2_with fail
      refine (wU64_nil _ _).mono ?_
      rintro e w6 ⟨rfl, rfl⟩
      go_wp2_with fail
      refine (wPut_nil _ _ (by rw [cell_of_row _ _ 0 _ _ _ (heap_alloc_new wr _)]; rfl) (by rw [cell_of_row _ _ 1 _ _ _ (heap_alloc_new wr _)]; rfl)).mono ?_
      rintro e w6 ⟨rfl, rfl⟩
      go_wp2_with fail
      refine (wLen_nil _).mono ?_
      rintro e w6 ⟨rfl, rfl⟩
      go_wp2_with fail
      refine (wBytes_nil _).mono ?_
      rintro e w6 ⟨rfl, rfl⟩
      go_wp2_with fail
      refine (codeAwake _).mono ?_
      rintro e w9 ⟨rfl, hb9⟩
      go_wp2
      go_ret
      exact ⟨rfl, ((HS.out.alloc _).grow hb9).bel⟩
end Go.Proofs.Ytkjficbegjhefaa
