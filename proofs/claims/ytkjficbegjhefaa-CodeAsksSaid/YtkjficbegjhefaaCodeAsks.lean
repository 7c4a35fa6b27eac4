/- The walk of the law CodeAsks. -/
import Derived.Test.YtkjficbegjhefaaCodeAwake
import Derived.Test.YtkjficbegjhefaaSepRf
import Derived.Test.YtkjficbegjhefaaOpenAsk
namespace Go.Proofs.Ytkjficbegjhefaa
open Go Go.RowKit
set_option linter.unusedVariables false
set_option linter.unusedSimpArgs false
set_option maxRecDepth 100000

set_option maxHeartbeats 3200000 in
theorem codeAsks_walk (w : World) (A B : Option Addr) (c d : Nat) (b : List UInt8) (qs : List (Int × Int)) (hA : Has w w.heap.size A (us b)) (hB : Has w w.heap.size B (pairsOf qs)) (hx : ∀ x ∈ qs, -9223372036854775808 ≤ x.2 ∧ x.2 ≤ 9223372036854775807) :
    Calls Try.prog 8 #[.slice A b.length c, .slice B qs.length d] w fun e w' => e = .returned (.bool true) ∧ Below w.heap.size w w' := by
  have HA := Lib.hid hA
  have HX := Lib.hid hx
  have hcr : ∀ (k : Nat) (hk : k < qs.length), ∃ b o : Nat, B = some ⟨b, o, none⟩ ∧ ∀ W, Below w.heap.size w W → W.cell? ⟨b, o + k * 2, none⟩ = some (.int .i64 (qs[k]).1) ∧ W.cell? ⟨b, o + k * 2 + 1, none⟩ = some (.int .i64 (qs[k]).2) := fun k hk => by
    have h2 := pairsOf_at qs k hk
    obtain ⟨b, o, e, hbB, hc⟩ := hB _ _ h2.1
    obtain ⟨b', o', e', _, hc'⟩ := hB _ _ h2.2
    rw [e] at e'
    injection e' with e'
    injection e' with e1 e2
    subst e1 e2
    exact ⟨b, o, e, fun W hW => ⟨by rw [hW.cell (p := ⟨b, o + k * 2, none⟩) hbB, hc], by rw [hW.cell (p := ⟨b, o + k * 2 + 1, none⟩) hbB, Nat.add_assoc, hc']⟩⟩
  have HCR0 := Lib.hid hcr
  clear hA hB hx hcr
  by_cases hl1 : 1000 < qs.length
  · go_enter Try.func8, Try.ntmps8
    go_wp2_with fail
    refine (codeAwake w).mono ?_
    rintro e w' ⟨rfl, hb⟩
    go_wp2
    go_ret
    exact ⟨rfl, hb⟩
  by_cases hl2 : 65536 < b.length
  · go_enter Try.func8, Try.ntmps8
    go_wp2_with fail
    refine (codeAwake w).mono ?_
    rintro e w' ⟨rfl, hb⟩
    go_wp2
    go_ret
    exact ⟨rfl, hb⟩
  go_enter Try.func8, Try.ntmps8
  go_wp2_with (at_builtin; go_must (refine wp_app (c := c) (base := w.heap.size) (B := w.heap.size) (A := A) (m := b) rfl rfl (by rfl) (by rfl) (l := []) (own_empty w) (HA.out.alloc (Nat.le_refl _) _) (by simp; omega) (le_alloc (Nat.le_refl _) _) ?_); intro v1 w1 ho1 hb1 _ _
               have HS1 := Lib.hid (show Sep w w1 [By v1 b] from sep_new (Sep.nil w) ho1 (((Below.refl _ _).alloc (Nat.le_refl _) _).trans hb1))
               clear ho1 hb1)
  obtain ⟨A1, c1, rfl, hc1, hm1, hh1⟩ := sep_byForm (i := 0) HS1.out rfl
  have HH1 := Lib.hid hh1
  clear hh1
  refine (sep_newReader HS1.out w1.heap.size A1 c1 b HH1.out (Nat.le_refl _) (by omega)).mono ?_
  rintro e w2 ⟨g1, rfl, hs2⟩
  have HS2 := Lib.hid (show Sep w w2 [By (.slice A1 b.length c1) b, Rd g1 b false] from hs2)
  have HA2 := Lib.hid ((hs2.has HA.out).more hs2.size)
  clear hs2 HS1
  go_wp2_with (at_builtin; go_must (refine wp_app (c := c) (base := w2.heap.size) (B := w2.heap.size) (A := A) (m := b) rfl rfl (by rfl) (by rfl) (l := []) (own_empty w2) (HA2.out.alloc (Nat.le_refl _) _) (by simp; omega) (le_alloc (Nat.le_refl _) _) ?_); intro v3 w3 ho3 hb3 _ _
               have HS3 := Lib.hid (show Sep w w3 [By (.slice A1 b.length c1) b, Rd g1 b false, By v3 b] from sep_new HS2.out ho3 (((Below.refl _ _).alloc (Nat.le_refl _) _).trans hb3))
               clear ho3 hb3
               obtain ⟨A3, c3, rfl, hc3, hm3, _⟩ := sep_byForm (i := 2) HS3.out rfl
               have hs4 := sep_mkRf (i := 2) HS3.out rfl false
               obtain ⟨w5, hcl, hs5⟩ := sep_clear (i := 0) hs4 rfl
               have HS5 := Lib.hid (show Sep w w5 [Emp, Rd g1 b false, Rf w3.heap.size b false] from hs5)
               clear hs4 hs5)
  obtain ⟨g2, hg2⟩ : ∃ g2, g2 = w3.heap.size := ⟨_, rfl⟩
  rw [← hg2] at HS5 ⊢
  clear hg2 hcl
  go_loopw [4, 8, 9, 10, 11, 12] (fun s4 iv _ _ _ _ wr => ∃ (k : Nat) (l : List UInt8) (bad : Bool), k ≤ qs.length ∧ l.length ≤ 65536 ∧ s4 = .bool false ∧ iv = .int .i64 k ∧ Hid (Sep w wr [Emp, Rd g1 l bad, Rf g2 l bad])) (fun _ iv _ _ _ _ _ => qs.length - (intOf iv).toNat)
  case atStart => exact ⟨0, b, false, Nat.zero_le _, by omega, rfl, rfl, HS5⟩
  case round =>
    obtain ⟨k, l, bad, hk, hll, rfl, rfl, HS⟩ := hrel
    by_cases hkt : k < qs.length
    · obtain ⟨bb, o, rfl, hc⟩ := HCR0.out k hkt
      have hb2 := HX.out qs[k] (List.getElem_mem hkt)
      have HCR := Lib.hid hc
      clear hc
      obtain ⟨z, n, Hq⟩ : ∃ z n, Hid (qs[k] = (z, n)) := ⟨_, _, Lib.hid rfl⟩
      rw [Hq.out] at hb2 HCR
      dsimp only at hb2 HCR
      obtain ⟨m, hm9, hm⟩ := mod9_nat z
      have HM := Lib.hid hm
      have hleft := askR_left l bad m n
      clear hm
      obtain ⟨hc5, hc6⟩ := HCR.out wr HS.out.bel
      go_wp2_with fail
      refine (sep_asked (i := 1) z n HS.out rfl (by omega) hb2.1 hb2.2 m hm9 HM.out).mono ?_
      rintro e w6 ⟨rfl, hs6⟩
      have HS6 := Lib.hid (show Sep w w6 [Emp, Rd g1 (askR l bad m n).2.1 (askR l bad m n).2.2, Rf g2 l bad] from hs6)
      clear hs6 hc5 hc6
      obtain ⟨hc5, hc6⟩ := HCR.out w6 HS6.out.bel
      go_wp2_with fail
      refine (sep_meant (i := 2) z n HS6.out rfl (by omega) hb2.1 hb2.2 m hm9 HM.out).mono ?_
      rintro e w7 ⟨rfl, hs7⟩
      have HS7 := Lib.hid (show Sep w w7 [Emp, Rd g1 (askR l bad m n).2.1 (askR l bad m n).2.2, Rf g2 (askR l bad m n).2.1 (askR l bad m n).2.2] from hs7)
      clear hs7 hc5 hc6 HS6 HS
      obtain ⟨⟨x, s⟩, l2, bad2, HE⟩ : ∃ p l2 b2, Hid (askR l bad m n = (p, l2, b2)) := ⟨_, _, _, Lib.hid rfl⟩
      rw [HE.out] at HS7 hleft ⊢
      dsimp only at HS7 hleft ⊢
      go_wp2_with fail
      refine (sep_stands (i := 1) (j := 2) HS7.out rfl rfl).mono ?_
      rintro e w8 ⟨rfl, hs8⟩
      have HS8 := Lib.hid hs8
      clear hs8
      go_wp2
      go_roundw
      case rel => exact ⟨k + 1, l2, bad2, by omega, by omega, rfl, by go_num, HS8⟩
      case measure => simp [intOf]; omega
    · have hraw : rRaw b false (b.length : Int) = (b, [], false) := by
        unfold rRaw
        rw [if_neg (by simp), Int.toNat_natCast]
        simp
      have HRAW := Lib.hid hraw
      clear hraw
      go_wp2_with fail
      refine (sep_newReader HS.out w.heap.size A c b (HS.out.has HA.out) HS.out.size (by omega)).mono ?_
      rintro e w6 ⟨g3, rfl, hs6⟩
      have HS6 := Lib.hid (show Sep w w6 [Emp, Rd g1 l bad, Rf g2 l bad, Rd g3 b false] from hs6)
      clear hs6
      go_wp2_with fail
      refine (sep_rawR (i := 3) (z := (b.length : Int)) HS6.out rfl (by omega)).mono ?_
      rintro e w7 ⟨v7, rfl, hs7⟩
      rw [HRAW.out] at hs7
      have HS7 := Lib.hid (show Sep w w7 [Emp, Rd g1 l bad, Rf g2 l bad, Rd g3 [] false, By v7 b] from hs7)
      clear hs7
      go_wp2_with fail
      refine (sep_reads (i := 3) (l' := []) (bad' := false) (v := .int .i64 0) HS7.out rfl (by simp) (fun rb hr => end_any w7 g3 rb [] false hr)).mono ?_
      rintro e w8 ⟨rfl, hs8⟩
      have HS8 := Lib.hid hs8
      clear hs8
      go_wp2_with fail
      refine (codeAwake _).mono ?_
      rintro e w9 ⟨rfl, hb9⟩
      go_wp2
      go_ret
      exact ⟨rfl, (HS8.out.grow hb9).bel⟩
end Go.Proofs.Ytkjficbegjhefaa
