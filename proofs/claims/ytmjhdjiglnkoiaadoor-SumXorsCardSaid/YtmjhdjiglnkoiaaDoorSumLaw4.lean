/- The walks of the laws SumCuts and SumXors. -/
import Derived.Test.YtmjhdjiglnkoiaaDoorSumLaw
import Derived.Test.YtmjhdjiglnkoiaaDoorRgF
import Derived.Test.YtmjhdjiglnkoiaaDoorRgB
import Derived.OpenShut
namespace Go.Proofs.YtmjhdjiglnkoiaaDoor
open Go Go.RowKit
set_option linter.unusedVariables false

/-- a slice of these bytes, with all that goes with it -/
def IsS (l : List UInt8) (v : Value) (w : World) : Prop := Sl w w.heap.size 1 v (us l)
theorem Sl.keep {w w' : World} {v : Value} {l : List Value} {B : Nat} (h : Sl w B 1 v l) (hb : Below B w w') {B' : Nat} (hB : B ≤ B') : Sl w' B' 1 v l := by
  obtain ⟨A, n, c, e, h1, h2, h3, h4, h5⟩ := h
  exact ⟨A, n, c, e, h1, h2, h3, h4, (h5.below hb).more hB⟩
theorem IsS.keep {l : List UInt8} {v : Value} {w w' : World} (h : IsS l v w) (hb : Below w.heap.size w w') : IsS l v w' := Sl.keep h hb hb.size
theorem IsS.one {m : UInt8} {t : TypeId} (W : World) : IsS [m] (.slice (some ⟨W.heap.size, 0, none⟩) 1 1) (W.alloc (.cells #[.int .u8 (m.toNat : Int)] t)) :=
  ⟨_, 1, 1, rfl, rfl, Nat.le_refl _, by decide, by decide, (has_new W #[.int .u8 (m.toNat : Int)] t).more (by simp)⟩
theorem Parts.keep {w w' : World} {vs : List Value} {ls : List (List UInt8)} {B : Nat} (h : Parts w B vs ls) (hb : Below B w w') {B' : Nat} (hB : B ≤ B') : Parts w' B' vs ls :=
  ⟨h.1, fun i v l h1 h2 => (h.2 i v l h1 h2).keep hb hB⟩
/-- a slice of parts -/
def IsP (ls : List (List UInt8)) (v : Value) (w : World) : Prop := ∃ A vs c, v = .slice A vs.length c ∧ vs.length ≤ 9223372036854775807 ∧ Has w w.heap.size A vs ∧ Parts w w.heap.size vs ls
theorem IsP.keep {ls : List (List UInt8)} {v : Value} {w w' : World} (h : IsP ls v w) (hb : Below w.heap.size w w') : IsP ls v w' := by
  obtain ⟨A, vs, c, e, hl, h1, h2⟩ := h
  exact ⟨A, vs, c, e, hl, (h1.below hb).more hb.size, h2.keep hb hb.size⟩
theorem IsP.made (W : World) (vs : List Value) (ls : List (List UInt8)) (t : TypeId) (hP : Parts W W.heap.size vs ls) (hl : vs.length ≤ 1000 := by simp) : IsP ls (.slice (some ⟨W.heap.size, 0, none⟩) vs.length vs.length) (W.alloc (.cells vs.toArray t)) :=
  ⟨_, vs, vs.length, rfl, by omega, (has_new W vs.toArray t).more (by simp), hP.keep ((Below.refl _ _).alloc (Nat.le_refl _) _) (by simp)⟩
theorem of_isP (W : World) (hT : Table W) {ls : List (List UInt8)} {v : Value} (h : IsP ls v W) : Calls Tryd.prog 14 #[v] W fun e w' => e = .returned (.int .u32 (Crc.of ls.flatten)) ∧ W = w' := by
  obtain ⟨A, vs, c, rfl, hl, h1, h2⟩ := h
  exact of_any W hT W.heap.size A c vs ls h1 h2 hl
/-- the parts of a slice -/
theorem sl_all {W : World} {B : Nat} {A : Option Addr} {c : Nat} {l : List UInt8} (h : Has W B A (us l)) (hc : l.length ≤ c) (hm : c ≤ maxLen) (hr : l.length ≤ 140737488355328) : Sl W B 1 (.slice A l.length c) (us l) :=
  ⟨A, l.length, c, rfl, by rw [us_length, Nat.mul_one], hc, hm, hr, h⟩
theorem sl_take {W : World} {B : Nat} {A : Option Addr} {c a : Nat} {l : List UInt8} (h : Has W B A (us l)) (hc : l.length ≤ c) (hm : c ≤ maxLen) (hr : l.length ≤ 140737488355328) (ha : a ≤ l.length) : Sl W B 1 (.slice A a c) (us (l.take a)) :=
  ⟨A, a, c, rfl, by rw [us_length, Nat.mul_one, List.length_take]; omega, by omega, hm, by omega, by rw [us_take]; exact h.take a⟩
theorem sl_drop {W : World} {B : Nat} {A : Option Addr} {c a : Nat} {l : List UInt8} (h : Has W B A (us l)) (hc : l.length ≤ c) (hm : c ≤ maxLen) (hr : l.length ≤ 140737488355328) (ha : a ≤ l.length) : Sl W B 1 (.slice (if c = a then A else A.map (·.add a)) (l.length - a) (c - a)) (us (l.drop a)) :=
  ⟨_, _, _, rfl, by rw [us_length, Nat.mul_one, List.length_drop], by omega, by omega, by omega, by have := h.drop a 1 c (by rw [us_length]; omega); rwa [Nat.mul_one, ← us_drop] at this⟩
theorem sl_nil {W : World} {B : Nat} : Sl W B 1 (.slice none 0 0) (us []) := ⟨none, 0, 0, rfl, rfl, Nat.le_refl _, by decide, by decide, Has.nil⟩
/-- another byte behind the same ones: another sum -/
theorem of_snoc_ne (l : List UInt8) (a b : UInt8) (h : a ≠ b) : Crc.of (l ++ [a]) ≠ Crc.of (l ++ [b]) := by
  intro e
  unfold Crc.of at e
  have h0 : Crc.run 4294967295 l < 4294967296 := Crc.run_lt (by omega) l
  rw [Crc.run_append, Crc.run_append, Crc.run_cons, Crc.run_cons, Crc.run_nil, Crc.run_nil] at e
  have h1 := Crc.byte_lt h0 a
  have h2 := Crc.byte_lt h0 b
  have h3 : Crc.byte (Crc.run 4294967295 l) a = Crc.byte (Crc.run 4294967295 l) b := by omega
  unfold Crc.byte at h3
  have ha := a.toNat_lt
  have hb := b.toNat_lt
  have h4 := Crc.iter_inj 8 (Nat.xor_lt_two_pow (n := 32) h0 (by omega)) (Nat.xor_lt_two_pow (n := 32) h0 (by omega)) h3
  have h5 : Crc.run 4294967295 l ^^^ (Crc.run 4294967295 l ^^^ a.toNat) = Crc.run 4294967295 l ^^^ (Crc.run 4294967295 l ^^^ b.toNat) := by rw [h4]
  rw [← Nat.xor_assoc, ← Nat.xor_assoc, Nat.xor_self, Nat.zero_xor, Nat.zero_xor] at h5
  exact h (UInt8.toNat_inj.1 h5)

theorem wrap_u8 (x : Int) : IntKind.u8.wrap x = x % 256 := by simp [IntKind.wrap, IntKind.bits, IntKind.signed]

set_option maxRecDepth 100000 in
set_option maxHeartbeats 400000 in
theorem sumCuts_walk (w : World) (hT : Table w) (A : Option Addr) (c : Nat) (l : List UInt8) (x1 x2 x3 : Int) (h : Has w w.heap.size A (us l)) (hc : l.length ≤ c) (hm : c ≤ maxLen) (hr : l.length ≤ 140737488355328)
    (wx1 : (Lit.int .i64 x1).wf = true) (wx2 : (Lit.int .i64 x2).wf = true) (wx3 : (Lit.int .u8 x3).wf = true) :
    Calls Tryd.prog 6 #[.slice A l.length c, .int .i64 x1, .int .i64 x2, .int .u8 x3] w fun e w' => e = .returned (.bool true) ∧ Below w.heap.size w w' := by
  have HT := Lib.hid hT
  have H := Lib.hid h
  clear hT h
  obtain ⟨b1, b2⟩ := bounds_i64 wx1
  obtain ⟨b3, b4⟩ := bounds_i64 wx2
  obtain ⟨m, hx3⟩ : ∃ m : UInt8, x3 = (m.toNat : Int) := by
    obtain ⟨b5, b6⟩ := bounds_u8 wx3
    exact ⟨UInt8.ofNat x3.toNat, by simp; omega⟩
  subst hx3
  clear wx1 wx2 wx3
  have hb0 : Below w.heap.size w (w.alloc (.cells #[.slice A l.length c] 25)) := (Below.refl _ _).alloc (Nat.le_refl _) _
  go_enter Tryd.func6, Tryd.ntmps6
  go_wp2_with fail
  refine (long_any _ (w.heap.size + 1) _ 1 [.slice A l.length c] [l] (has_new w #[.slice A l.length c] _) (Parts.one ((H.out.alloc (Nat.le_refl _) _).more (by omega)) hc hm hr) (by simp)).mono ?_
  rintro e w' ⟨rfl, rfl⟩
  rw [longB_one]
  generalize w.alloc (.cells #[.slice A l.length c] 25) = w0 at *
  by_cases hbad : 65536 < l.length ∨ x1 < 0 ∨ x2 < x1 ∨ (l.length : Int) < x2
  · have hgo : ∀ P : Prop, (65536 < l.length → P) → (¬ 65536 < l.length → x1 < 0 → P) → (¬ 65536 < l.length → ¬ x1 < 0 → x2 < x1 → P) → (¬ 65536 < l.length → ¬ x1 < 0 → ¬ x2 < x1 → (l.length : Int) < x2 → P) → P := by
      intro P p1 p2 p3 p4
      by_cases q1 : 65536 < l.length
      · exact p1 q1
      by_cases q2 : x1 < 0
      · exact p2 q1 q2
      by_cases q3 : x2 < x1
      · exact p3 q1 q2 q3
      · exact p4 q1 q2 q3 (by omega)
    clear hbad
    refine hgo _ (fun q1 => ?_) (fun q1 q2 => ?_) (fun q1 q2 q3 => ?_) (fun q1 q2 q3 q4 => ?_)
    all_goals
      clear hgo
      go_wp2_with fail
      refine (awake_any w0 (HT.out.below hb0 HT.out.lt)).mono ?_
      rintro e w' ⟨rfl, hb⟩
      go_wp2
      go_ret
      exact ⟨rfl, hb0.trans (hb.mono hb0.size)⟩
  · obtain ⟨q1, q2, q3, q4⟩ : ¬ 65536 < l.length ∧ ¬ x1 < 0 ∧ ¬ x2 < x1 ∧ ¬ (l.length : Int) < x2 := by omega
    clear hbad
    obtain ⟨a, rfl⟩ : ∃ a : Nat, x1 = (a : Int) := ⟨x1.toNat, by omega⟩
    obtain ⟨t, rfl⟩ : ∃ t : Nat, x2 = (t : Int) := ⟨x2.toNat, by omega⟩
    have ha : a ≤ t := by omega
    have ht : t ≤ l.length := by omega
    have hac : a ≤ c := by omega
    have htc : t ≤ c := by omega
    go_wp2_with fail
    have hb1 : Below w.heap.size w (w0.alloc (.cells #[.slice A l.length c] 25)) := hb0.alloc hb0.size _
    refine (of_isP _ (HT.out.below hb1 HT.out.lt) (IsP.made w0 [.slice A l.length c] [l] _ (Parts.cons (sl_all ((H.out.below hb0).more hb0.size) hc hm hr) Parts.nil))).mono ?_
    rintro e w' ⟨rfl, rfl⟩
    obtain ⟨s, hs⟩ : ∃ s, Crc.of l = s := ⟨_, rfl⟩
    rw [show [l].flatten = l by simp, hs]
    generalize w0.alloc (.cells #[.slice A l.length c] 25) = w1 at *
    obtain ⟨m2, hm2⟩ := u8_succ m
    have Hne := Lib.hid (of_snoc_ne l m2 m)
    have hss := Crc.of_lt l
    rw [hs] at hss
    have HB1 := Lib.hid hb1
    go_wp2_with fail
    have hb2 : Below w.heap.size w (w1.alloc (.cells #[.int .u8 (m.toNat : Int)] 5)) := hb1.alloc hb1.size _
    have i1 := IsS.one (m := m) (t := 5) w1
    have hz2 : w1.heap.size + 1 = (w1.alloc (.cells #[.int .u8 (m.toNat : Int)] 5)).heap.size := by simp
    generalize w1.alloc (.cells #[.int .u8 (m.toNat : Int)] 5) = w2 at *
    have hb3 : Below w.heap.size w (w2.alloc (.cells #[.slice A l.length c, .slice (some ⟨w1.heap.size, 0, none⟩) 1 1] 25)) := hb2.alloc hb2.size _
    rw [hz2]
    refine (of_isP _ (HT.out.below hb3 HT.out.lt) (IsP.made w2 [.slice A l.length c, .slice (some ⟨w1.heap.size, 0, none⟩) 1 1] [l, [m]] _ (Parts.cons (sl_all ((H.out.below hb2).more hb2.size) hc hm hr) (Parts.cons i1 Parts.nil)))).mono ?_
    rintro e w' ⟨rfl, rfl⟩
    obtain ⟨u, hu⟩ : ∃ u, Crc.of (l ++ [m]) = u := ⟨_, rfl⟩
    rw [show [l, [m]].flatten = l ++ [m] by simp, hu]
    generalize w2.alloc (.cells #[.slice A l.length c, .slice (some ⟨w1.heap.size, 0, none⟩) 1 1] 25) = w3 at *
    clear i1 hz2 hb2 HB1
    have HB := Lib.hid hb3
    have hq1 : Crc.of [l.take a, (l.take t).drop a, l.drop t].flatten = s := by
      rw [← hs]
      congr 1
      have e1 : l.take a ++ (l.take t).drop a = l.take t := by
        rw [show l.take a = (l.take t).take a by rw [List.take_take]; congr 1; omega]
        exact List.take_append_drop a (l.take t)
      simp only [List.flatten_cons, List.flatten_nil, List.append_nil]
      rw [← List.append_assoc, e1, List.take_append_drop]
    have hq2 : Crc.of [[], l.take t, [], l.drop t, [m]].flatten = u := by
      rw [← hu]
      congr 1
      simp only [List.flatten_cons, List.flatten_nil, List.append_nil, List.nil_append]
      rw [← List.append_assoc, List.take_append_drop]
    obtain ⟨u2, hu2⟩ : ∃ u2, Crc.of (l ++ [m2]) = u2 := ⟨_, rfl⟩
    have hq3 : Crc.of [l, [m2]].flatten = u2 := by
      rw [← hu2]
      simp
    have hne : u2 ≠ u := by
      rw [← hu, ← hu2]
      refine Hne.out fun e => ?_
      subst e
      have := m2.toNat_lt
      omega
    have HP3 := Lib.hid (show ∀ W, Below w.heap.size w W → Parts W W.heap.size [.slice A a c, .slice (if c = a then A else A.map (·.add a)) (t - a) (c - a), .slice (if c = t then A else A.map (·.add t)) (l.length - t) (c - t)] [l.take a, (l.take t).drop a, l.drop t] from fun W hI => by
      have hh := (H.out.below hI).more hI.size
      refine Parts.cons (sl_take hh hc hm hr (by omega)) (Parts.cons ?_ (Parts.cons (sl_drop hh hc hm hr ht) Parts.nil))
      have h1 : Has W W.heap.size A (us (l.take t)) := by rw [us_take]; exact hh.take t
      have h2 := sl_drop (a := a) (l := l.take t) h1 (by rw [List.length_take]; omega) hm (by rw [List.length_take]; omega) (by rw [List.length_take]; omega)
      rwa [show (l.take t).length = t by rw [List.length_take]; omega] at h2)
    have HP5 := Lib.hid (show ∀ W v, Below w.heap.size w W → IsS [m] v W → Parts W W.heap.size [.slice none 0 0, .slice A t c, .slice none 0 0, .slice (if c = t then A else A.map (·.add t)) (l.length - t) (c - t), v] [[], l.take t, [], l.drop t, [m]] from fun W v hI hv => by
      have hh := (H.out.below hI).more hI.size
      exact Parts.cons sl_nil (Parts.cons (sl_take hh hc hm hr ht) (Parts.cons sl_nil (Parts.cons (sl_drop hh hc hm hr ht) (Parts.cons hv Parts.nil)))))
    have HP2 := Lib.hid (show ∀ W v b, Below w.heap.size w W → IsS [b] v W → Parts W W.heap.size [.slice A l.length c, v] [l, [b]] from fun W v b hI hv =>
      Parts.cons (sl_all ((H.out.below hI).more hI.size) hc hm hr) (Parts.cons hv Parts.nil))
    have Hm2 := Lib.hid (show IntKind.u8.wrap ((m.toNat : Int) + 1) = (m2.toNat : Int) by rw [← hm2]; exact wrap_u8 _)
    have hD := Lib.hid (show ((u2 : Int) != (u : Int)) = true from bne_iff_ne.2 (by omega))
    have HQ1 := Lib.hid hq1
    have HQ2 := Lib.hid hq2
    have HQ3 := Lib.hid hq3
    clear hm2 hne hq1 hq2 hq3 hs hu hu2 Hne hb3 hb1 hb0
    go_wp2_with fail
    refine wp_region_f (fun dn xv W => Below w.heap.size w W) (fun W W' => Below W.heap.size W W') [fun v _ => v = .slice A l.length c, fun v _ => v = .int .i64 (a : Int), fun v _ => v = .slice A a c, fun v _ => v = .slice A l.length c, fun v _ => v = .int .i64 (a : Int), fun v _ => v = .int .i64 (t : Int), fun v _ => v = .slice (if c = a then A else A.map (·.add a)) (t - a) (c - a), fun v _ => v = .slice A l.length c, fun v _ => v = .int .i64 (t : Int), fun v _ => v = .slice (if c = t then A else A.map (·.add t)) (l.length - t) (c - t), IsP [l.take a, (l.take t).drop a, l.drop t], fun v _ => v = .int .u32 (s : Int), fun v _ => v = .int .u32 (s : Int), fun v _ => v = .bool true, fun v _ => v = .bool true, fun v _ => v = .slice A l.length c, fun v _ => v = .int .i64 (t : Int), fun v _ => v = .slice A t c, fun v _ => v = .slice A l.length c, fun v _ => v = .int .i64 (t : Int), fun v _ => v = .slice (if c = t then A else A.map (·.add t)) (l.length - t) (c - t), fun v _ => v = .int .u8 (m.toNat : Int), IsS [m], IsP [[], l.take t, [], l.drop t, [m]], fun v _ => v = .int .u32 (u : Int), fun v _ => v = .int .u32 (u : Int), fun v _ => v = .bool true, fun v _ => v = .bool true, fun v _ => v = .bool true, fun v _ => v = .slice A l.length c, fun v _ => v = .int .u8 (m.toNat : Int), fun v _ => v = .int .u8 (m2.toNat : Int), IsS [m2], IsP [l, [m2]], fun v _ => v = .int .u32 (u2 : Int), fun v _ => v = .int .u32 (u : Int), fun v _ => v = .bool true, fun v _ => v = .bool true, fun v _ => v = .bool true, fun v _ => v = .bool true, fun v _ => v = .bool true, fun v _ => v = .bool true] (by kernel_rfl) (by kernel_rfl) (by kernel_rfl) (by kernel_rfl) (fun xv => by simpa using HB.out.drew)
      (by exact ⟨fun _ _ _ _ h => h, fun _ _ _ _ h => h, fun _ _ _ _ h => h, fun _ _ _ _ h => h, fun _ _ _ _ h => h, fun _ _ _ _ h => h, fun _ _ _ _ h => h, fun _ _ _ _ h => h, fun _ _ _ _ h => h, fun _ _ _ _ h => h, fun _ _ _ hR h => h.keep hR, fun _ _ _ _ h => h, fun _ _ _ _ h => h, fun _ _ _ _ h => h, fun _ _ _ _ h => h, fun _ _ _ _ h => h, fun _ _ _ _ h => h, fun _ _ _ _ h => h, fun _ _ _ _ h => h, fun _ _ _ _ h => h, fun _ _ _ _ h => h, fun _ _ _ _ h => h, fun _ _ _ hR h => h.keep hR, fun _ _ _ hR h => h.keep hR, fun _ _ _ _ h => h, fun _ _ _ _ h => h, fun _ _ _ _ h => h, fun _ _ _ _ h => h, fun _ _ _ _ h => h, fun _ _ _ _ h => h, fun _ _ _ _ h => h, fun _ _ _ _ h => h, fun _ _ _ hR h => h.keep hR, fun _ _ _ hR h => h.keep hR, fun _ _ _ _ h => h, fun _ _ _ _ h => h, fun _ _ _ _ h => h, fun _ _ _ _ h => h, fun _ _ _ _ h => h, fun _ _ _ _ h => h, fun _ _ _ _ h => h, fun _ _ _ _ h => h, trivial⟩) ?_ ?_
    · refine EachF.cons 1 rfl (fun dn xv W F hF hd hN hX hI H K hK => ?_) ?_
      · have f0 : F.tmps.getD 0 undef = .slice A l.length c := (hF 0).trans (by kernel_rfl)
        clear H hN hd hX hF
        refine on_plain rfl ?_
        go_simp
        exact hK.out _ _ rfl (Below.refl _ _) (by simpa [upB, upd] using hI)
      refine EachF.cons 2 rfl (fun dn xv W F hF hd hN hX hI H K hK => ?_) ?_
      · have f1 : F.tmps.getD 1 undef = .int .i64 (a : Int) := (hF 1).trans (by kernel_rfl)
        clear H hN hd hX hF
        refine on_plain rfl ?_
        go_simp
        exact hK.out _ _ rfl (Below.refl _ _) (by simpa [upB, upd] using hI)
      refine EachF.cons 3 rfl (fun dn xv W F hF hd hN hX hI H K hK => ?_) ?_
      · have h0 : xv 0 = .slice A l.length c := (H 0 (.edge (by kernel_rfl))).2
        have f38 : F.tmps.getD 38 undef = .slice A l.length c := (hF 38).trans (Eq.trans (by kernel_rfl) h0)
        have h1 : xv 1 = .int .i64 (a : Int) := (H 1 (.edge (by kernel_rfl))).2
        have f39 : F.tmps.getD 39 undef = .int .i64 (a : Int) := (hF 39).trans (Eq.trans (by kernel_rfl) h1)
        clear H hN hd hX hF
        refine on_plain rfl ?_
        go_simp
        exact hK.out _ _ rfl (Below.refl _ _) (by simpa [upB, upd] using hI)
      refine EachF.cons 4 rfl (fun dn xv W F hF hd hN hX hI H K hK => ?_) ?_
      · have f0 : F.tmps.getD 0 undef = .slice A l.length c := (hF 0).trans (by kernel_rfl)
        clear H hN hd hX hF
        refine on_plain rfl ?_
        go_simp
        exact hK.out _ _ rfl (Below.refl _ _) (by simpa [upB, upd] using hI)
      refine EachF.cons 5 rfl (fun dn xv W F hF hd hN hX hI H K hK => ?_) ?_
      · have f1 : F.tmps.getD 1 undef = .int .i64 (a : Int) := (hF 1).trans (by kernel_rfl)
        clear H hN hd hX hF
        refine on_plain rfl ?_
        go_simp
        exact hK.out _ _ rfl (Below.refl _ _) (by simpa [upB, upd] using hI)
      refine EachF.cons 6 rfl (fun dn xv W F hF hd hN hX hI H K hK => ?_) ?_
      · have f2 : F.tmps.getD 2 undef = .int .i64 (t : Int) := (hF 2).trans (by kernel_rfl)
        clear H hN hd hX hF
        refine on_plain rfl ?_
        go_simp
        exact hK.out _ _ rfl (Below.refl _ _) (by simpa [upB, upd] using hI)
      refine EachF.cons 7 rfl (fun dn xv W F hF hd hN hX hI H K hK => ?_) ?_
      · have h3 : xv 3 = .slice A l.length c := (H 3 (.edge (by kernel_rfl))).2
        have f41 : F.tmps.getD 41 undef = .slice A l.length c := (hF 41).trans (Eq.trans (by kernel_rfl) h3)
        have h4 : xv 4 = .int .i64 (a : Int) := (H 4 (.edge (by kernel_rfl))).2
        have f42 : F.tmps.getD 42 undef = .int .i64 (a : Int) := (hF 42).trans (Eq.trans (by kernel_rfl) h4)
        have h5 : xv 5 = .int .i64 (t : Int) := (H 5 (.edge (by kernel_rfl))).2
        have f43 : F.tmps.getD 43 undef = .int .i64 (t : Int) := (hF 43).trans (Eq.trans (by kernel_rfl) h5)
        clear H hN hd hX hF
        refine on_plain rfl ?_
        go_simp
        exact hK.out _ _ rfl (Below.refl _ _) (by simpa [upB, upd] using hI)
      refine EachF.cons 8 rfl (fun dn xv W F hF hd hN hX hI H K hK => ?_) ?_
      · have f0 : F.tmps.getD 0 undef = .slice A l.length c := (hF 0).trans (by kernel_rfl)
        clear H hN hd hX hF
        refine on_plain rfl ?_
        go_simp
        exact hK.out _ _ rfl (Below.refl _ _) (by simpa [upB, upd] using hI)
      refine EachF.cons 9 rfl (fun dn xv W F hF hd hN hX hI H K hK => ?_) ?_
      · have f2 : F.tmps.getD 2 undef = .int .i64 (t : Int) := (hF 2).trans (by kernel_rfl)
        clear H hN hd hX hF
        refine on_plain rfl ?_
        go_simp
        exact hK.out _ _ rfl (Below.refl _ _) (by simpa [upB, upd] using hI)
      refine EachF.cons 10 rfl (fun dn xv W F hF hd hN hX hI H K hK => ?_) ?_
      · have h7 : xv 7 = .slice A l.length c := (H 7 (.edge (by kernel_rfl))).2
        have f45 : F.tmps.getD 45 undef = .slice A l.length c := (hF 45).trans (Eq.trans (by kernel_rfl) h7)
        have h8 : xv 8 = .int .i64 (t : Int) := (H 8 (.edge (by kernel_rfl))).2
        have f46 : F.tmps.getD 46 undef = .int .i64 (t : Int) := (hF 46).trans (Eq.trans (by kernel_rfl) h8)
        clear H hN hd hX hF
        refine on_plain rfl ?_
        go_simp
        exact hK.out _ _ rfl (Below.refl _ _) (by simpa [upB, upd] using hI)
      refine EachF.cons 11 rfl (fun dn xv W F hF hd hN hX hI H K hK => ?_) ?_
      · have h2 : xv 2 = .slice A a c := (H 2 (.edge (by kernel_rfl))).2
        have f40 : F.tmps.getD 40 undef = .slice A a c := (hF 40).trans (Eq.trans (by kernel_rfl) h2)
        have h6 : xv 6 = .slice (if c = a then A else A.map (·.add a)) (t - a) (c - a) := (H 6 (.edge (by kernel_rfl))).2
        have f44 : F.tmps.getD 44 undef = .slice (if c = a then A else A.map (·.add a)) (t - a) (c - a) := (hF 44).trans (Eq.trans (by kernel_rfl) h6)
        have h9 : xv 9 = .slice (if c = t then A else A.map (·.add t)) (l.length - t) (c - t) := (H 9 (.edge (by kernel_rfl))).2
        have f47 : F.tmps.getD 47 undef = .slice (if c = t then A else A.map (·.add t)) (l.length - t) (c - t) := (hF 47).trans (Eq.trans (by kernel_rfl) h9)
        clear H hN hd hX hF
        refine on_plain rfl ?_
        have g40 := f40
        have g44 := f44
        have g47 := f47
        rw [Array.getD_eq_getD_getElem?] at g40 g44 g47
        go_simp
        have hb : Below W.heap.size W (W.alloc (.cells #[.slice A a c, .slice (if c = a then A else A.map (·.add a)) (t - a) (c - a), .slice (if c = t then A else A.map (·.add t)) (l.length - t) (c - t)] 25)) := (Below.refl _ _).alloc (Nat.le_refl _) _
        exact hK.out _ _ (IsP.made W [.slice A a c, .slice (if c = a then A else A.map (·.add a)) (t - a) (c - a), .slice (if c = t then A else A.map (·.add t)) (l.length - t) (c - t)] _ _ (HP3.out W hI)) hb (by simpa [upB, upd] using (hI.trans (hb.mono hI.size)))
      refine EachF.cons 12 rfl (fun dn xv W F hF hd hN hX hI H K hK => ?_) ?_
      · have h10 := (H 10 (.edge (by kernel_rfl))).2
        simp only [Dl] at h10
        have f48 : F.tmps.getD 48 undef = xv 10 := (hF 48).trans (by kernel_rfl)
        clear H hN hd hX hF
        refine on_plain rfl ?_
        go_simp
        refine (of_isP W (HT.out.below hI HT.out.lt) h10).mono ?_
        rintro e W' ⟨rfl, rfl⟩
        rw [HQ1.out]
        exact hK.out _ _ rfl (Below.refl _ _) (by simpa [upB, upd] using hI)
      refine EachF.cons 13 rfl (fun dn xv W F hF hd hN hX hI H K hK => ?_) ?_
      · have f9 : F.tmps.getD 9 undef = .int .u32 (s : Int) := (hF 9).trans (by kernel_rfl)
        clear H hN hd hX hF
        refine on_plain rfl ?_
        go_simp
        exact hK.out _ _ rfl (Below.refl _ _) (by simpa [upB, upd] using hI)
      refine EachF.cons 14 rfl (fun dn xv W F hF hd hN hX hI H K hK => ?_) ?_
      · have h11 : xv 11 = .int .u32 (s : Int) := (H 11 (.edge (by kernel_rfl))).2
        have f49 : F.tmps.getD 49 undef = .int .u32 (s : Int) := (hF 49).trans (Eq.trans (by kernel_rfl) h11)
        have h12 : xv 12 = .int .u32 (s : Int) := (H 12 (.edge (by kernel_rfl))).2
        have f50 : F.tmps.getD 50 undef = .int .u32 (s : Int) := (hF 50).trans (Eq.trans (by kernel_rfl) h12)
        clear H hN hd hX hF
        refine on_plain rfl ?_
        go_simp
        exact hK.out _ _ rfl (Below.refl _ _) (by simpa [upB, upd] using hI)
      refine EachF.cons 15 rfl (fun dn xv W F hF hd hN hX hI H K hK => ?_) ?_
      · have h13 : xv 13 = .bool true := (H 13 (.edge (by kernel_rfl))).2
        have f51 : F.tmps.getD 51 undef = .bool true := (hF 51).trans (Eq.trans (by kernel_rfl) h13)
        clear H hN hd hX hF
        refine on_plain rfl ?_
        go_simp
        exact hK.out _ _ rfl (Below.refl _ _) (by simpa [upB, upd] using hI)
      refine EachF.cons 16 rfl (fun dn xv W F hF hd hN hX hI H K hK => ?_) ?_
      · have f0 : F.tmps.getD 0 undef = .slice A l.length c := (hF 0).trans (by kernel_rfl)
        have h14 : xv 14 = .bool true := (H 14 (.edge (by kernel_rfl))).2
        have f52 : F.tmps.getD 52 undef = .bool true := (hF 52).trans (Eq.trans (by kernel_rfl) h14)
        clear H hN hd hX hF
        refine on_guard rfl (by kernel_rfl) f52 ?_
        go_simp
        exact hK.out _ _ rfl (Below.refl _ _) (by simpa [upB, upd] using hI)
      refine EachF.cons 17 rfl (fun dn xv W F hF hd hN hX hI H K hK => ?_) ?_
      · have f2 : F.tmps.getD 2 undef = .int .i64 (t : Int) := (hF 2).trans (by kernel_rfl)
        have h14 : xv 14 = .bool true := (H 14 (.edge (by kernel_rfl))).2
        have f52 : F.tmps.getD 52 undef = .bool true := (hF 52).trans (Eq.trans (by kernel_rfl) h14)
        clear H hN hd hX hF
        refine on_guard rfl (by kernel_rfl) f52 ?_
        go_simp
        exact hK.out _ _ rfl (Below.refl _ _) (by simpa [upB, upd] using hI)
      refine EachF.cons 18 rfl (fun dn xv W F hF hd hN hX hI H K hK => ?_) ?_
      · have h15 : xv 15 = .slice A l.length c := (H 15 (.edge (by kernel_rfl))).2
        have f53 : F.tmps.getD 53 undef = .slice A l.length c := (hF 53).trans (Eq.trans (by kernel_rfl) h15)
        have h16 : xv 16 = .int .i64 (t : Int) := (H 16 (.edge (by kernel_rfl))).2
        have f54 : F.tmps.getD 54 undef = .int .i64 (t : Int) := (hF 54).trans (Eq.trans (by kernel_rfl) h16)
        have h14 : xv 14 = .bool true := (H 14 (.edge (by kernel_rfl))).2
        have f52 : F.tmps.getD 52 undef = .bool true := (hF 52).trans (Eq.trans (by kernel_rfl) h14)
        clear H hN hd hX hF
        refine on_guard rfl (by kernel_rfl) f52 ?_
        go_simp
        exact hK.out _ _ rfl (Below.refl _ _) (by simpa [upB, upd] using hI)
      refine EachF.cons 19 rfl (fun dn xv W F hF hd hN hX hI H K hK => ?_) ?_
      · have f0 : F.tmps.getD 0 undef = .slice A l.length c := (hF 0).trans (by kernel_rfl)
        have h14 : xv 14 = .bool true := (H 14 (.edge (by kernel_rfl))).2
        have f52 : F.tmps.getD 52 undef = .bool true := (hF 52).trans (Eq.trans (by kernel_rfl) h14)
        clear H hN hd hX hF
        refine on_guard rfl (by kernel_rfl) f52 ?_
        go_simp
        exact hK.out _ _ rfl (Below.refl _ _) (by simpa [upB, upd] using hI)
      refine EachF.cons 20 rfl (fun dn xv W F hF hd hN hX hI H K hK => ?_) ?_
      · have f2 : F.tmps.getD 2 undef = .int .i64 (t : Int) := (hF 2).trans (by kernel_rfl)
        have h14 : xv 14 = .bool true := (H 14 (.edge (by kernel_rfl))).2
        have f52 : F.tmps.getD 52 undef = .bool true := (hF 52).trans (Eq.trans (by kernel_rfl) h14)
        clear H hN hd hX hF
        refine on_guard rfl (by kernel_rfl) f52 ?_
        go_simp
        exact hK.out _ _ rfl (Below.refl _ _) (by simpa [upB, upd] using hI)
      refine EachF.cons 21 rfl (fun dn xv W F hF hd hN hX hI H K hK => ?_) ?_
      · have h18 : xv 18 = .slice A l.length c := (H 18 (.edge (by kernel_rfl))).2
        have f56 : F.tmps.getD 56 undef = .slice A l.length c := (hF 56).trans (Eq.trans (by kernel_rfl) h18)
        have h19 : xv 19 = .int .i64 (t : Int) := (H 19 (.edge (by kernel_rfl))).2
        have f57 : F.tmps.getD 57 undef = .int .i64 (t : Int) := (hF 57).trans (Eq.trans (by kernel_rfl) h19)
        have h14 : xv 14 = .bool true := (H 14 (.edge (by kernel_rfl))).2
        have f52 : F.tmps.getD 52 undef = .bool true := (hF 52).trans (Eq.trans (by kernel_rfl) h14)
        clear H hN hd hX hF
        refine on_guard rfl (by kernel_rfl) f52 ?_
        go_simp
        exact hK.out _ _ rfl (Below.refl _ _) (by simpa [upB, upd] using hI)
      refine EachF.cons 22 rfl (fun dn xv W F hF hd hN hX hI H K hK => ?_) ?_
      · have f3 : F.tmps.getD 3 undef = .int .u8 (m.toNat : Int) := (hF 3).trans (by kernel_rfl)
        have h14 : xv 14 = .bool true := (H 14 (.edge (by kernel_rfl))).2
        have f52 : F.tmps.getD 52 undef = .bool true := (hF 52).trans (Eq.trans (by kernel_rfl) h14)
        clear H hN hd hX hF
        refine on_guard rfl (by kernel_rfl) f52 ?_
        go_simp
        exact hK.out _ _ rfl (Below.refl _ _) (by simpa [upB, upd] using hI)
      refine EachF.cons 23 rfl (fun dn xv W F hF hd hN hX hI H K hK => ?_) ?_
      · have h21 : xv 21 = .int .u8 (m.toNat : Int) := (H 21 (.edge (by kernel_rfl))).2
        have f59 : F.tmps.getD 59 undef = .int .u8 (m.toNat : Int) := (hF 59).trans (Eq.trans (by kernel_rfl) h21)
        have h14 : xv 14 = .bool true := (H 14 (.edge (by kernel_rfl))).2
        have f52 : F.tmps.getD 52 undef = .bool true := (hF 52).trans (Eq.trans (by kernel_rfl) h14)
        clear H hN hd hX hF
        refine on_guard rfl (by kernel_rfl) f52 ?_
        have g59 := f59
        rw [Array.getD_eq_getD_getElem?] at g59
        go_simp
        have hb : Below W.heap.size W (W.alloc (.cells #[.int .u8 ((m.toNat : Int))] 5)) := (Below.refl _ _).alloc (Nat.le_refl _) _
        exact hK.out _ _ (IsS.one W) hb (by simpa [upB, upd] using (hI.trans (hb.mono hI.size)))
      refine EachF.cons 24 rfl (fun dn xv W F hF hd hN hX hI H K hK => ?_) ?_
      · have h17 : xv 17 = .slice A t c := (H 17 (.edge (by kernel_rfl))).2
        have f55 : F.tmps.getD 55 undef = .slice A t c := (hF 55).trans (Eq.trans (by kernel_rfl) h17)
        have h20 : xv 20 = .slice (if c = t then A else A.map (·.add t)) (l.length - t) (c - t) := (H 20 (.edge (by kernel_rfl))).2
        have f58 : F.tmps.getD 58 undef = .slice (if c = t then A else A.map (·.add t)) (l.length - t) (c - t) := (hF 58).trans (Eq.trans (by kernel_rfl) h20)
        have h22 := (H 22 (.edge (by kernel_rfl))).2
        simp only [Dl] at h22
        have f60 : F.tmps.getD 60 undef = xv 22 := (hF 60).trans (by kernel_rfl)
        have h14 : xv 14 = .bool true := (H 14 (.edge (by kernel_rfl))).2
        have f52 : F.tmps.getD 52 undef = .bool true := (hF 52).trans (Eq.trans (by kernel_rfl) h14)
        clear H hN hd hX hF
        refine on_guard rfl (by kernel_rfl) f52 ?_
        obtain ⟨A1, n1, c1, e1, r1⟩ := h22
        rw [e1] at f60
        have g55 := f55
        have g58 := f58
        have g60 := f60
        rw [Array.getD_eq_getD_getElem?] at g55 g58 g60
        go_simp
        have hb : Below W.heap.size W (W.alloc (.cells #[.slice none 0 0, .slice A t c, .slice none 0 0, .slice (if c = t then A else A.map (·.add t)) (l.length - t) (c - t), .slice A1 n1 c1] 25)) := (Below.refl _ _).alloc (Nat.le_refl _) _
        exact hK.out _ _ (IsP.made W [.slice none 0 0, .slice A t c, .slice none 0 0, .slice (if c = t then A else A.map (·.add t)) (l.length - t) (c - t), .slice A1 n1 c1] _ _ (HP5.out W _ hI ⟨A1, n1, c1, rfl, r1⟩)) hb (by simpa [upB, upd] using (hI.trans (hb.mono hI.size)))
      refine EachF.cons 25 rfl (fun dn xv W F hF hd hN hX hI H K hK => ?_) ?_
      · have h23 := (H 23 (.edge (by kernel_rfl))).2
        simp only [Dl] at h23
        have f61 : F.tmps.getD 61 undef = xv 23 := (hF 61).trans (by kernel_rfl)
        have h14 : xv 14 = .bool true := (H 14 (.edge (by kernel_rfl))).2
        have f52 : F.tmps.getD 52 undef = .bool true := (hF 52).trans (Eq.trans (by kernel_rfl) h14)
        clear H hN hd hX hF
        refine on_guard rfl (by kernel_rfl) f52 ?_
        go_simp
        refine (of_isP W (HT.out.below hI HT.out.lt) h23).mono ?_
        rintro e W' ⟨rfl, rfl⟩
        rw [HQ2.out]
        exact hK.out _ _ rfl (Below.refl _ _) (by simpa [upB, upd] using hI)
      refine EachF.cons 26 rfl (fun dn xv W F hF hd hN hX hI H K hK => ?_) ?_
      · have f10 : F.tmps.getD 10 undef = .int .u32 (u : Int) := (hF 10).trans (by kernel_rfl)
        have h14 : xv 14 = .bool true := (H 14 (.edge (by kernel_rfl))).2
        have f52 : F.tmps.getD 52 undef = .bool true := (hF 52).trans (Eq.trans (by kernel_rfl) h14)
        clear H hN hd hX hF
        refine on_guard rfl (by kernel_rfl) f52 ?_
        go_simp
        exact hK.out _ _ rfl (Below.refl _ _) (by simpa [upB, upd] using hI)
      refine EachF.cons 27 rfl (fun dn xv W F hF hd hN hX hI H K hK => ?_) ?_
      · have h24 : xv 24 = .int .u32 (u : Int) := (H 24 (.edge (by kernel_rfl))).2
        have f62 : F.tmps.getD 62 undef = .int .u32 (u : Int) := (hF 62).trans (Eq.trans (by kernel_rfl) h24)
        have h25 : xv 25 = .int .u32 (u : Int) := (H 25 (.edge (by kernel_rfl))).2
        have f63 : F.tmps.getD 63 undef = .int .u32 (u : Int) := (hF 63).trans (Eq.trans (by kernel_rfl) h25)
        have h14 : xv 14 = .bool true := (H 14 (.edge (by kernel_rfl))).2
        have f52 : F.tmps.getD 52 undef = .bool true := (hF 52).trans (Eq.trans (by kernel_rfl) h14)
        clear H hN hd hX hF
        refine on_guard rfl (by kernel_rfl) f52 ?_
        go_simp
        exact hK.out _ _ rfl (Below.refl _ _) (by simpa [upB, upd] using hI)
      refine EachF.cons 28 rfl (fun dn xv W F hF hd hN hX hI H K hK => ?_) ?_
      · have h14 : xv 14 = .bool true := (H 14 (.edge (by kernel_rfl))).2
        have f52 : F.tmps.getD 52 undef = .bool true := (hF 52).trans (Eq.trans (by kernel_rfl) h14)
        have h26 : xv 26 = .bool true := (H 26 (.edge (by kernel_rfl))).2
        have f64 : F.tmps.getD 64 undef = .bool true := (hF 64).trans (Eq.trans (by kernel_rfl) h26)
        clear H hN hd hX hF
        refine on_plain rfl ?_
        go_simp
        exact hK.out _ _ rfl (Below.refl _ _) (by simpa [upB, upd] using hI)
      refine EachF.cons 29 rfl (fun dn xv W F hF hd hN hX hI H K hK => ?_) ?_
      · have h27 : xv 27 = .bool true := (H 27 (.edge (by kernel_rfl))).2
        have f65 : F.tmps.getD 65 undef = .bool true := (hF 65).trans (Eq.trans (by kernel_rfl) h27)
        clear H hN hd hX hF
        refine on_plain rfl ?_
        go_simp
        exact hK.out _ _ rfl (Below.refl _ _) (by simpa [upB, upd] using hI)
      refine EachF.cons 30 rfl (fun dn xv W F hF hd hN hX hI H K hK => ?_) ?_
      · have f0 : F.tmps.getD 0 undef = .slice A l.length c := (hF 0).trans (by kernel_rfl)
        have h28 : xv 28 = .bool true := (H 28 (.edge (by kernel_rfl))).2
        have f66 : F.tmps.getD 66 undef = .bool true := (hF 66).trans (Eq.trans (by kernel_rfl) h28)
        clear H hN hd hX hF
        refine on_guard rfl (by kernel_rfl) f66 ?_
        go_simp
        exact hK.out _ _ rfl (Below.refl _ _) (by simpa [upB, upd] using hI)
      refine EachF.cons 31 rfl (fun dn xv W F hF hd hN hX hI H K hK => ?_) ?_
      · have f3 : F.tmps.getD 3 undef = .int .u8 (m.toNat : Int) := (hF 3).trans (by kernel_rfl)
        have h28 : xv 28 = .bool true := (H 28 (.edge (by kernel_rfl))).2
        have f66 : F.tmps.getD 66 undef = .bool true := (hF 66).trans (Eq.trans (by kernel_rfl) h28)
        clear H hN hd hX hF
        refine on_guard rfl (by kernel_rfl) f66 ?_
        go_simp
        exact hK.out _ _ rfl (Below.refl _ _) (by simpa [upB, upd] using hI)
      refine EachF.cons 32 rfl (fun dn xv W F hF hd hN hX hI H K hK => ?_) ?_
      · have h30 : xv 30 = .int .u8 (m.toNat : Int) := (H 30 (.edge (by kernel_rfl))).2
        have f68 : F.tmps.getD 68 undef = .int .u8 (m.toNat : Int) := (hF 68).trans (Eq.trans (by kernel_rfl) h30)
        have h28 : xv 28 = .bool true := (H 28 (.edge (by kernel_rfl))).2
        have f66 : F.tmps.getD 66 undef = .bool true := (hF 66).trans (Eq.trans (by kernel_rfl) h28)
        clear H hN hd hX hF
        refine on_guard rfl (by kernel_rfl) f66 ?_
        go_simp
        rw [Hm2.out]
        exact hK.out _ _ rfl (Below.refl _ _) (by simpa [upB, upd] using hI)
      refine EachF.cons 33 rfl (fun dn xv W F hF hd hN hX hI H K hK => ?_) ?_
      · have h31 : xv 31 = .int .u8 (m2.toNat : Int) := (H 31 (.edge (by kernel_rfl))).2
        have f69 : F.tmps.getD 69 undef = .int .u8 (m2.toNat : Int) := (hF 69).trans (Eq.trans (by kernel_rfl) h31)
        have h28 : xv 28 = .bool true := (H 28 (.edge (by kernel_rfl))).2
        have f66 : F.tmps.getD 66 undef = .bool true := (hF 66).trans (Eq.trans (by kernel_rfl) h28)
        clear H hN hd hX hF
        refine on_guard rfl (by kernel_rfl) f66 ?_
        have g69 := f69
        rw [Array.getD_eq_getD_getElem?] at g69
        go_simp
        have hb : Below W.heap.size W (W.alloc (.cells #[.int .u8 ((m2.toNat : Int))] 5)) := (Below.refl _ _).alloc (Nat.le_refl _) _
        exact hK.out _ _ (IsS.one W) hb (by simpa [upB, upd] using (hI.trans (hb.mono hI.size)))
      refine EachF.cons 34 rfl (fun dn xv W F hF hd hN hX hI H K hK => ?_) ?_
      · have h29 : xv 29 = .slice A l.length c := (H 29 (.edge (by kernel_rfl))).2
        have f67 : F.tmps.getD 67 undef = .slice A l.length c := (hF 67).trans (Eq.trans (by kernel_rfl) h29)
        have h32 := (H 32 (.edge (by kernel_rfl))).2
        simp only [Dl] at h32
        have f70 : F.tmps.getD 70 undef = xv 32 := (hF 70).trans (by kernel_rfl)
        have h28 : xv 28 = .bool true := (H 28 (.edge (by kernel_rfl))).2
        have f66 : F.tmps.getD 66 undef = .bool true := (hF 66).trans (Eq.trans (by kernel_rfl) h28)
        clear H hN hd hX hF
        refine on_guard rfl (by kernel_rfl) f66 ?_
        obtain ⟨A1, n1, c1, e1, r1⟩ := h32
        rw [e1] at f70
        have g67 := f67
        have g70 := f70
        rw [Array.getD_eq_getD_getElem?] at g67 g70
        go_simp
        have hb : Below W.heap.size W (W.alloc (.cells #[.slice A l.length c, .slice A1 n1 c1] 25)) := (Below.refl _ _).alloc (Nat.le_refl _) _
        exact hK.out _ _ (IsP.made W [.slice A l.length c, .slice A1 n1 c1] _ _ (HP2.out W _ _ hI ⟨A1, n1, c1, rfl, r1⟩)) hb (by simpa [upB, upd] using (hI.trans (hb.mono hI.size)))
      refine EachF.cons 35 rfl (fun dn xv W F hF hd hN hX hI H K hK => ?_) ?_
      · have h33 := (H 33 (.edge (by kernel_rfl))).2
        simp only [Dl] at h33
        have f71 : F.tmps.getD 71 undef = xv 33 := (hF 71).trans (by kernel_rfl)
        have h28 : xv 28 = .bool true := (H 28 (.edge (by kernel_rfl))).2
        have f66 : F.tmps.getD 66 undef = .bool true := (hF 66).trans (Eq.trans (by kernel_rfl) h28)
        clear H hN hd hX hF
        refine on_guard rfl (by kernel_rfl) f66 ?_
        go_simp
        refine (of_isP W (HT.out.below hI HT.out.lt) h33).mono ?_
        rintro e W' ⟨rfl, rfl⟩
        rw [HQ3.out]
        exact hK.out _ _ rfl (Below.refl _ _) (by simpa [upB, upd] using hI)
      refine EachF.cons 36 rfl (fun dn xv W F hF hd hN hX hI H K hK => ?_) ?_
      · have f10 : F.tmps.getD 10 undef = .int .u32 (u : Int) := (hF 10).trans (by kernel_rfl)
        have h28 : xv 28 = .bool true := (H 28 (.edge (by kernel_rfl))).2
        have f66 : F.tmps.getD 66 undef = .bool true := (hF 66).trans (Eq.trans (by kernel_rfl) h28)
        clear H hN hd hX hF
        refine on_guard rfl (by kernel_rfl) f66 ?_
        go_simp
        exact hK.out _ _ rfl (Below.refl _ _) (by simpa [upB, upd] using hI)
      refine EachF.cons 37 rfl (fun dn xv W F hF hd hN hX hI H K hK => ?_) ?_
      · have h34 : xv 34 = .int .u32 (u2 : Int) := (H 34 (.edge (by kernel_rfl))).2
        have f72 : F.tmps.getD 72 undef = .int .u32 (u2 : Int) := (hF 72).trans (Eq.trans (by kernel_rfl) h34)
        have h35 : xv 35 = .int .u32 (u : Int) := (H 35 (.edge (by kernel_rfl))).2
        have f73 : F.tmps.getD 73 undef = .int .u32 (u : Int) := (hF 73).trans (Eq.trans (by kernel_rfl) h35)
        have h28 : xv 28 = .bool true := (H 28 (.edge (by kernel_rfl))).2
        have f66 : F.tmps.getD 66 undef = .bool true := (hF 66).trans (Eq.trans (by kernel_rfl) h28)
        clear H hN hd hX hF
        refine on_guard rfl (by kernel_rfl) f66 ?_
        go_simp
        rw [hD.out]
        exact hK.out _ _ rfl (Below.refl _ _) (by simpa [upB, upd] using hI)
      refine EachF.cons 38 rfl (fun dn xv W F hF hd hN hX hI H K hK => ?_) ?_
      · have h28 : xv 28 = .bool true := (H 28 (.edge (by kernel_rfl))).2
        have f66 : F.tmps.getD 66 undef = .bool true := (hF 66).trans (Eq.trans (by kernel_rfl) h28)
        have h36 : xv 36 = .bool true := (H 36 (.edge (by kernel_rfl))).2
        have f74 : F.tmps.getD 74 undef = .bool true := (hF 74).trans (Eq.trans (by kernel_rfl) h36)
        clear H hN hd hX hF
        refine on_plain rfl ?_
        go_simp
        exact hK.out _ _ rfl (Below.refl _ _) (by simpa [upB, upd] using hI)
      refine EachF.cons 39 rfl (fun dn xv W F hF hd hN hX hI H K hK => ?_) ?_
      · have h37 : xv 37 = .bool true := (H 37 (.edge (by kernel_rfl))).2
        have f75 : F.tmps.getD 75 undef = .bool true := (hF 75).trans (Eq.trans (by kernel_rfl) h37)
        clear H hN hd hX hF
        refine on_plain rfl ?_
        go_simp
        exact hK.out _ _ rfl (Below.refl _ _) (by simpa [upB, upd] using hI)
      refine EachF.cons 40 rfl (fun dn xv W F hF hd hN hX hI H K hK => ?_) ?_
      · have h38 : xv 38 = .bool true := (H 38 (.edge (by kernel_rfl))).2
        have f76 : F.tmps.getD 76 undef = .bool true := (hF 76).trans (Eq.trans (by kernel_rfl) h38)
        clear H hN hd hX hF
        refine on_guard rfl (by kernel_rfl) f76 ?_
        go_simp
        refine (awake_any W (HT.out.below hI HT.out.lt)).mono ?_
        rintro e W' ⟨rfl, hb⟩
        exact hK.out _ W' rfl hb (by simpa [upB, upd] using (hI.trans (hb.mono hI.size)))
      refine EachF.cons 41 rfl (fun dn xv W F hF hd hN hX hI H K hK => ?_) ?_
      · have h38 : xv 38 = .bool true := (H 38 (.edge (by kernel_rfl))).2
        have f76 : F.tmps.getD 76 undef = .bool true := (hF 76).trans (Eq.trans (by kernel_rfl) h38)
        have h39 : xv 39 = .bool true := (H 39 (.edge (by kernel_rfl))).2
        have f77 : F.tmps.getD 77 undef = .bool true := (hF 77).trans (Eq.trans (by kernel_rfl) h39)
        clear H hN hd hX hF
        refine on_plain rfl ?_
        go_simp
        exact hK.out _ _ rfl (Below.refl _ _) (by simpa [upB, upd] using hI)
      refine EachF.cons 42 rfl (fun dn xv W F hF hd hN hX hI H K hK => ?_) ?_
      · have h40 : xv 40 = .bool true := (H 40 (.edge (by kernel_rfl))).2
        have f78 : F.tmps.getD 78 undef = .bool true := (hF 78).trans (Eq.trans (by kernel_rfl) h40)
        clear H hN hd hX hF
        refine on_plain rfl ?_
        go_simp
        exact hK.out _ _ rfl (Below.refl _ _) (by simpa [upB, upd] using hI)
      exact EachF.nil
    · intro dn xv W hI H
      have q41 : xv 41 = .bool true := (H 41 (of_decide_eq_true (by kernel_rfl))).2
      have hS : Below w.heap.size w W := hI
      clear H hI
      simp only [putAll, Act.put, List.setIfInBounds_toArray, List.set_cons_zero, List.set_cons_succ, Nat.reduceAdd, q41]
      clear q41

      go_wp2
      go_ret
      exact ⟨rfl, hS⟩

end Go.Proofs.YtmjhdjiglnkoiaaDoor
