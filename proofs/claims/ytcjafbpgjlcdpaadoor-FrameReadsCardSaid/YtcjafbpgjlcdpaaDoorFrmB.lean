/- The walks of the document's Bytes and Own of a frame. -/
import Derived.Test.YtcjafbpgjlcdpaaDoorFrmE
import Derived.Test.YtcjafbpgjlcdpaaDoorFrmR
import Derived.Test.YtcjafbpgjlcdpaaDoorSepStr
namespace Go.Proofs.YtcjafbpgjlcdpaaDoor
open Go Go.RowKit
set_option linter.unusedVariables false
set_option maxRecDepth 100000

theorem own_lit (w : World) (m : List UInt8) (hm : m.length ≤ maxLen) : Own (w.alloc (.cells (us m).toArray 5)) w.heap.size (.slice (some ⟨w.heap.size, 0, none⟩) m.length m.length) m := by
  exact ⟨by simp [us], .inr ⟨w.heap.size, m.length, (us m).toArray, rfl, Nat.le_refl _, heap_alloc_new w _, Nat.le_refl _, hm, by simp [us], by rw [Nat.mul_one, ← us_length m]; simp⟩⟩
theorem sep_lit {w0 w : World} {Ps : List SP} (h : Sep w0 w Ps) (m : List UInt8) (hm : m.length ≤ maxLen) : Sep w0 (w.alloc (.cells (us m).toArray 5)) (Ps ++ [By (.slice (some ⟨w.heap.size, 0, none⟩) m.length m.length) m]) :=
  h.add (F := fun k => k = w.heap.size) ((Below.refl _ _).alloc (Nat.le_refl _) _) ⟨own_mono (own_lit w m hm) (Nat.zero_le _), fun k => by simp [Value.ownBlock, eq_comm]⟩ (By.loc _ _) (fun k hk => by omega)
theorem sep_app {w0 w : World} {Ps : List SP} {i : Nat} {ops : Array Oper} {rest : List Oper} {o : Oper} {a : Act} {Q : Exit → Act → World → Prop} {s x : Operand} {B c : Nat} {v : Value} {A : Option Addr} {l m : List UInt8} (hgd : o.guard = none)
    (ho : o.op = .call { callee := .builtin .append, args := #[s, x], argTypes := #[23, 23] }) (hs : a.eval s = v) (hx : a.eval x = .slice A m.length c)
    (h : Sep w0 w Ps) (hi : Ps[i]? = some (By v l)) (hr : Has w B A (us m)) (hlen : l.length + m.length ≤ 100000000000000)
    (hk : ∀ v' w', Sep w0 w' (Ps.set i (By v' (l ++ m))) → wpList Tryd.prog ops Q rest (a.put o.dst v') w') : wpList Tryd.prog ops Q (o :: rest) a w := by
  obtain ⟨F, hb⟩ := h.get hi
  exact wp_app hgd ho hs hx hb.1 hr hlen (Nat.zero_le _) fun v' w' h1 _ h3 h4 => hk v' w' (sep_grown h hi h1 h3 h4)
/-- from where on the bytes lie -/
theorem sep_byBase {w0 w : World} {Ps : List SP} {i : Nat} {v : Value} {l : List UInt8} (h : Sep w0 w Ps) (hi : Ps[i]? = some (By v l)) : Own w w0.heap.size v l := by
  obtain ⟨F, ⟨h1, hF⟩, _, hlt, _⟩ := h.upd hi
  refine ⟨h1.1, ?_⟩
  rcases h1.2 with e | ⟨k, cap, cur, rfl, f1, f2, f3⟩
  · exact .inl e
  · exact .inr ⟨k, cap, cur, rfl, (hlt k ((hF k).2 rfl)).1, f2, f3⟩
theorem sep_new5 {w0 w w' : World} {Ps : List SP} {v : Value} {l : List UInt8} (h : Sep w0 w Ps) (ho : Own w' w.heap.size v l) (hb : Below w.heap.size w w') : Sep w0 w' (Ps ++ [By v l]) :=
  h.add (F := fun k => v.ownBlock = some k) hb ⟨own_mono ho (Nat.zero_le _), fun k => Iff.rfl⟩ (By.loc _ _) fun k hk => (ho.lt k hk).1
theorem mayR {w : World} {f : Fr} {A : Option Addr} {c : Nat} (hl : f.body.length ≤ maxLen) : Calls Tryd.prog 11 #[.agg (f.cells A c)] w fun e w' => e = .returned (.bool f.may) ∧ Below w.heap.size w w' :=
  refMay_any w f.kind f.fr f.to f.inc f.conn f.pinc f.pconn f.ack f.seq f.body.length c A hl

set_option maxHeartbeats 3200000 in
theorem refBytes_core (w : World) (kn fn tn inc conn pinc pconn ack seq : Nat) (body : List UInt8) (A : Option Addr) (c : Nat) (hA : Has w w.heap.size A (us body)) (hk : kn = 1 ∨ kn = 2) (hk2 : kn < 256) (hf2 : fn < 256) (ht2 : tn < 256)
    (hx : ∀ x ∈ [inc, conn, pinc, pconn, ack, seq], x < 18446744073709551616) (hbl : body.length ≤ 448) :
    Calls Tryd.prog 15 #[.agg #[.int .i64 (kn : Int), .int .i64 (fn : Int), .int .i64 (tn : Int), .int .u64 (inc : Int), .int .u64 (conn : Int), .int .u64 (pinc : Int), .int .u64 (pconn : Int), .int .u64 (ack : Int), .int .u64 (seq : Int), .slice A body.length c]] w fun e w' => ∃ v, e = .returned v ∧ Own w' w.heap.size v (Crc.sealed (Fr.mk kn fn tn inc conn pinc pconn ack seq body).plain) ∧ Below w.heap.size w w' := by
  have HA := Lib.hid hA
  have HX := Lib.hid hx
  clear hA hx
  have HS0 := Lib.hid (show Sep w (w.alloc (.cells #[.int .i64 (kn : Int), .int .i64 (fn : Int), .int .i64 (tn : Int), .int .u64 (inc : Int), .int .u64 (conn : Int), .int .u64 (pinc : Int), .int .u64 (pconn : Int), .int .u64 (ack : Int), .int .u64 (seq : Int), .slice A body.length c] 25)) [Ce w.heap.size 25 #[.int .i64 (kn : Int), .int .i64 (fn : Int), .int .i64 (tn : Int), .int .u64 (inc : Int), .int .u64 (conn : Int), .int .u64 (pinc : Int), .int .u64 (pconn : Int), .int .u64 (ack : Int), .int .u64 (seq : Int), .slice A body.length c]] from sep_ce (Sep.nil w) #[.int .i64 (kn : Int), .int .i64 (fn : Int), .int .i64 (tn : Int), .int .u64 (inc : Int), .int .u64 (conn : Int), .int .u64 (pinc : Int), .int .u64 (pconn : Int), .int .u64 (ack : Int), .int .u64 (seq : Int), .slice A body.length c] 25)
  have HS1 := Lib.hid (show Sep w ((w.alloc (.cells #[.int .i64 (kn : Int), .int .i64 (fn : Int), .int .i64 (tn : Int), .int .u64 (inc : Int), .int .u64 (conn : Int), .int .u64 (pinc : Int), .int .u64 (pconn : Int), .int .u64 (ack : Int), .int .u64 (seq : Int), .slice A body.length c] 25)).alloc (.cells #[.int .u8 (kn : Int), .int .u8 (fn : Int), .int .u8 (tn : Int)] 5)) [Ce w.heap.size 25 #[.int .i64 (kn : Int), .int .i64 (fn : Int), .int .i64 (tn : Int), .int .u64 (inc : Int), .int .u64 (conn : Int), .int .u64 (pinc : Int), .int .u64 (pconn : Int), .int .u64 (ack : Int), .int .u64 (seq : Int), .slice A body.length c], By (.slice (some ⟨w.heap.size + 1, 0, none⟩) 3 3) [UInt8.ofNat kn, UInt8.ofNat fn, UInt8.ofNat tn]] by
    have := sep_lit HS0.out [UInt8.ofNat kn, UInt8.ofNat fn, UInt8.ofNat tn] (by unfold maxLen; simp)
    simp only [us, List.map_cons, List.map_nil, UInt8.toNat_ofNat', World.size_alloc] at this
    rw [Nat.mod_eq_of_lt (by omega : kn < 2 ^ 8), Nat.mod_eq_of_lt (by omega : fn < 2 ^ 8), Nat.mod_eq_of_lt (by omega : tn < 2 ^ 8)] at this
    exact this)
  clear HS0
  obtain ⟨P, HP⟩ : ∃ P, Hid ((Fr.mk kn fn tn inc conn pinc pconn ack seq body).plain = P) := ⟨_, Lib.hid rfl⟩
  rw [HP.out]
  have m0 : ((kn : Nat) : Int) % 256 = ((kn : Nat) : Int) := by omega
  have m1 : ((fn : Nat) : Int) % 256 = ((fn : Nat) : Int) := by omega
  have m2 : ((tn : Nat) : Int) % 256 = ((tn : Nat) : Int) := by omega
  go_enter Tryd.func15, Tryd.ntmps15
  go_wp2_with fail
  clear m0 m1 m2
  obtain ⟨W, HW⟩ : ∃ W, Hid ((w.alloc (.cells #[.int .i64 (kn : Int), .int .i64 (fn : Int), .int .i64 (tn : Int), .int .u64 (inc : Int), .int .u64 (conn : Int), .int .u64 (pinc : Int), .int .u64 (pconn : Int), .int .u64 (ack : Int), .int .u64 (seq : Int), .slice A body.length c] 25)).alloc (.cells #[.int .u8 (kn : Int), .int .u8 (fn : Int), .int .u8 (tn : Int)] 5) = W) := ⟨_, Lib.hid rfl⟩
  rw [HW.out] at HS1 ⊢
  obtain ⟨L0, HL0⟩ : ∃ L, Hid ([UInt8.ofNat kn, UInt8.ofNat fn, UInt8.ofNat tn] = L) := ⟨_, Lib.hid rfl⟩
  have hl0 : L0.length = 3 := by rw [← HL0.out]; rfl
  obtain ⟨v0, Hv0⟩ : ∃ v, Hid (Value.slice (some ⟨w.heap.size + 1, 0, none⟩) 3 3 = v) := ⟨_, Lib.hid rfl⟩
  rw [HL0.out, Hv0.out] at HS1
  rw [Hv0.out]
  have x0 := HX.out inc (by simp)
  refine (refShort_any W inc x0).mono ?_
  rintro e w0a ⟨u0, rfl, ho0, hb0⟩
  obtain ⟨A0, c0, rfl, _, _, hh0⟩ := ho0.form
  have HH0 := Lib.hid hh0
  have HSa0 := Lib.hid (HS1.out.grow hb0)
  have q0 := (Code.short_length inc).2
  clear ho0 hh0 hb0 x0 HS1
  go_wp2_with (at_builtin; go_must (refine sep_app (i := 1) (m := Code.short inc) rfl rfl (by rfl) (by rfl) HSa0.out rfl HH0.out (by omega) ?_); intro v1 w1b hs1
               obtain ⟨L1, HL1⟩ : ∃ L, Hid (L0 ++ Code.short inc = L) := ⟨_, Lib.hid rfl⟩
               have hl1 : L1.length ≤ 3 + 11 * 1 := by rw [← HL1.out, List.length_append]; omega
               have HSb1 := Lib.hid (show Sep w w1b [Ce w.heap.size 25 #[.int .i64 (kn : Int), .int .i64 (fn : Int), .int .i64 (tn : Int), .int .u64 (inc : Int), .int .u64 (conn : Int), .int .u64 (pinc : Int), .int .u64 (pconn : Int), .int .u64 (ack : Int), .int .u64 (seq : Int), .slice A body.length c], By v1 L1] by rw [← HL1.out]; exact hs1)
               clear hs1 HSa0 HH0
               have k1 := sep_ceAt (i := 0) HSb1.out rfl 4 rfl)
  clear k1
  have x1 := HX.out conn (by simp)
  refine (refShort_any w1b conn x1).mono ?_
  rintro e w1a ⟨u1, rfl, ho1, hb1⟩
  obtain ⟨A1, c1, rfl, _, _, hh1⟩ := ho1.form
  have HH1 := Lib.hid hh1
  have HSa1 := Lib.hid (HSb1.out.grow hb1)
  have q1 := (Code.short_length conn).2
  clear ho1 hh1 hb1 x1 HSb1
  go_wp2_with (at_builtin; go_must (refine sep_app (i := 1) (m := Code.short conn) rfl rfl (by rfl) (by rfl) HSa1.out rfl HH1.out (by omega) ?_); intro v2 w2b hs2
               obtain ⟨L2, HL2⟩ : ∃ L, Hid (L1 ++ Code.short conn = L) := ⟨_, Lib.hid rfl⟩
               have hl2 : L2.length ≤ 3 + 11 * 2 := by rw [← HL2.out, List.length_append]; omega
               have HSb2 := Lib.hid (show Sep w w2b [Ce w.heap.size 25 #[.int .i64 (kn : Int), .int .i64 (fn : Int), .int .i64 (tn : Int), .int .u64 (inc : Int), .int .u64 (conn : Int), .int .u64 (pinc : Int), .int .u64 (pconn : Int), .int .u64 (ack : Int), .int .u64 (seq : Int), .slice A body.length c], By v2 L2] by rw [← HL2.out]; exact hs2)
               clear hs2 HSa1 HH1
               have k2 := sep_ceAt (i := 0) HSb2.out rfl 5 rfl)
  clear k2
  have x2 := HX.out pinc (by simp)
  refine (refShort_any w2b pinc x2).mono ?_
  rintro e w2a ⟨u2, rfl, ho2, hb2⟩
  obtain ⟨A2, c2, rfl, _, _, hh2⟩ := ho2.form
  have HH2 := Lib.hid hh2
  have HSa2 := Lib.hid (HSb2.out.grow hb2)
  have q2 := (Code.short_length pinc).2
  clear ho2 hh2 hb2 x2 HSb2
  go_wp2_with (at_builtin; go_must (refine sep_app (i := 1) (m := Code.short pinc) rfl rfl (by rfl) (by rfl) HSa2.out rfl HH2.out (by omega) ?_); intro v3 w3b hs3
               obtain ⟨L3, HL3⟩ : ∃ L, Hid (L2 ++ Code.short pinc = L) := ⟨_, Lib.hid rfl⟩
               have hl3 : L3.length ≤ 3 + 11 * 3 := by rw [← HL3.out, List.length_append]; omega
               have HSb3 := Lib.hid (show Sep w w3b [Ce w.heap.size 25 #[.int .i64 (kn : Int), .int .i64 (fn : Int), .int .i64 (tn : Int), .int .u64 (inc : Int), .int .u64 (conn : Int), .int .u64 (pinc : Int), .int .u64 (pconn : Int), .int .u64 (ack : Int), .int .u64 (seq : Int), .slice A body.length c], By v3 L3] by rw [← HL3.out]; exact hs3)
               clear hs3 HSa2 HH2
               have k3 := sep_ceAt (i := 0) HSb3.out rfl 6 rfl)
  clear k3
  have x3 := HX.out pconn (by simp)
  refine (refShort_any w3b pconn x3).mono ?_
  rintro e w3a ⟨u3, rfl, ho3, hb3⟩
  obtain ⟨A3, c3, rfl, _, _, hh3⟩ := ho3.form
  have HH3 := Lib.hid hh3
  have HSa3 := Lib.hid (HSb3.out.grow hb3)
  have q3 := (Code.short_length pconn).2
  clear ho3 hh3 hb3 x3 HSb3
  go_wp2_with (at_builtin; go_must (refine sep_app (i := 1) (m := Code.short pconn) rfl rfl (by rfl) (by rfl) HSa3.out rfl HH3.out (by omega) ?_); intro v4 w4b hs4
               obtain ⟨L4, HL4⟩ : ∃ L, Hid (L3 ++ Code.short pconn = L) := ⟨_, Lib.hid rfl⟩
               have hl4 : L4.length ≤ 3 + 11 * 4 := by rw [← HL4.out, List.length_append]; omega
               have HSb4 := Lib.hid (show Sep w w4b [Ce w.heap.size 25 #[.int .i64 (kn : Int), .int .i64 (fn : Int), .int .i64 (tn : Int), .int .u64 (inc : Int), .int .u64 (conn : Int), .int .u64 (pinc : Int), .int .u64 (pconn : Int), .int .u64 (ack : Int), .int .u64 (seq : Int), .slice A body.length c], By v4 L4] by rw [← HL4.out]; exact hs4)
               clear hs4 HSa3 HH3
               have k4 := sep_ceAt (i := 0) HSb4.out rfl 7 rfl)
  clear k4
  have x4 := HX.out ack (by simp)
  refine (refShort_any w4b ack x4).mono ?_
  rintro e w4a ⟨u4, rfl, ho4, hb4⟩
  obtain ⟨A4, c4, rfl, _, _, hh4⟩ := ho4.form
  have HH4 := Lib.hid hh4
  have HSa4 := Lib.hid (HSb4.out.grow hb4)
  have q4 := (Code.short_length ack).2
  clear ho4 hh4 hb4 x4 HSb4
  go_wp2_with (at_builtin; go_must (refine sep_app (i := 1) (m := Code.short ack) rfl rfl (by rfl) (by rfl) HSa4.out rfl HH4.out (by omega) ?_); intro v5 w5b hs5
               obtain ⟨L5, HL5⟩ : ∃ L, Hid (L4 ++ Code.short ack = L) := ⟨_, Lib.hid rfl⟩
               have hl5 : L5.length ≤ 3 + 11 * 5 := by rw [← HL5.out, List.length_append]; omega
               have HSb5 := Lib.hid (show Sep w w5b [Ce w.heap.size 25 #[.int .i64 (kn : Int), .int .i64 (fn : Int), .int .i64 (tn : Int), .int .u64 (inc : Int), .int .u64 (conn : Int), .int .u64 (pinc : Int), .int .u64 (pconn : Int), .int .u64 (ack : Int), .int .u64 (seq : Int), .slice A body.length c], By v5 L5] by rw [← HL5.out]; exact hs5)
               clear hs5 HSa4 HH4
               have k5 := sep_ceAt (i := 0) HSb5.out rfl 8 rfl)
  clear k5
  rcases hk with rfl | rfl
  · have x5 := HX.out seq (by simp)
    refine (refShort_any w5b seq x5).mono ?_
    rintro e w5a ⟨u5, rfl, ho5, hb5⟩
    obtain ⟨A5, c5, rfl, _, _, hh5⟩ := ho5.form
    have HH5 := Lib.hid hh5
    have HSa5 := Lib.hid (HSb5.out.grow hb5)
    have q5 := (Code.short_length seq).2
    clear ho5 hh5 hb5 x5 HSb5
    go_wp2_with (at_builtin; go_must (refine sep_app (i := 1) (m := Code.short seq) rfl rfl (by rfl) (by rfl) HSa5.out rfl HH5.out (by omega) ?_); intro v6 w6b hs6
                 obtain ⟨L6, HL6⟩ : ∃ L, Hid (L5 ++ Code.short seq = L) := ⟨_, Lib.hid rfl⟩
                 have hl6 : L6.length ≤ 3 + 11 * 6 := by rw [← HL6.out, List.length_append]; omega
                 have HSb6 := Lib.hid (show Sep w w6b [Ce w.heap.size 25 #[.int .i64 1, .int .i64 (fn : Int), .int .i64 (tn : Int), .int .u64 (inc : Int), .int .u64 (conn : Int), .int .u64 (pinc : Int), .int .u64 (pconn : Int), .int .u64 (ack : Int), .int .u64 (seq : Int), .slice A body.length c], By v6 L6] by rw [← HL6.out]; exact hs6)
                 clear hs6 HSa5 HH5
                 have k6 := sep_ceAt (i := 0) HSb6.out rfl 0 rfl)
    clear k6
    obtain ⟨v8, rfl⟩ : ∃ v, v = v6 := ⟨_, rfl⟩
    have HS8 := Lib.hid (show Sep w w6b [Ce w.heap.size 25 #[.int .i64 1, .int .i64 (fn : Int), .int .i64 (tn : Int), .int .u64 (inc : Int), .int .u64 (conn : Int), .int .u64 (pinc : Int), .int .u64 (pconn : Int), .int .u64 (ack : Int), .int .u64 (seq : Int), .slice A body.length c], By v8 P] by rw [show P =  L6 by rw [← HP.out, ← HL6.out, ← HL5.out, ← HL4.out, ← HL3.out, ← HL2.out, ← HL1.out, ← HL0.out]; unfold Fr.plain Fr.tail Fr.nums; rw [if_neg (by simp), List.append_nil]; simp [Code.shorts]]; exact HSb6.out)
    clear HSb6
    obtain ⟨A8, c8, rfl, h81, h82, h83⟩ := sep_byForm (i := 1) HS8.out rfl
    have hPl : P.length ≤ 100000 := by rw [show P =  L6 by rw [← HP.out, ← HL6.out, ← HL5.out, ← HL4.out, ← HL3.out, ← HL2.out, ← HL1.out, ← HL0.out]; unfold Fr.plain Fr.tail Fr.nums; rw [if_neg (by simp), List.append_nil]; simp [Code.shorts]]; omega
    have H83 := Lib.hid h83
    clear h83
    refine (refSeal_any w6b w6b.heap.size A8 c8 P H83.out (Nat.le_refl _) (by omega)).mono ?_
    rintro e w9 ⟨v9, rfl, ho9, hb9⟩
    go_wp2_with fail
    go_ret
    exact ⟨v9, rfl, own_mono ho9 HS8.out.size, HS8.out.bel.trans (hb9.mono HS8.out.size)⟩
  · have x5 := HX.out seq (by simp)
    refine (refShort_any w5b seq x5).mono ?_
    rintro e w5a ⟨u5, rfl, ho5, hb5⟩
    obtain ⟨A5, c5, rfl, _, _, hh5⟩ := ho5.form
    have HH5 := Lib.hid hh5
    have HSa5 := Lib.hid (HSb5.out.grow hb5)
    have q5 := (Code.short_length seq).2
    clear ho5 hh5 hb5 x5 HSb5
    go_wp2_with (at_builtin; go_must (refine sep_app (i := 1) (m := Code.short seq) rfl rfl (by rfl) (by rfl) HSa5.out rfl HH5.out (by omega) ?_); intro v6 w6b hs6
                 obtain ⟨L6, HL6⟩ : ∃ L, Hid (L5 ++ Code.short seq = L) := ⟨_, Lib.hid rfl⟩
                 have hl6 : L6.length ≤ 3 + 11 * 6 := by rw [← HL6.out, List.length_append]; omega
                 have HSb6 := Lib.hid (show Sep w w6b [Ce w.heap.size 25 #[.int .i64 2, .int .i64 (fn : Int), .int .i64 (tn : Int), .int .u64 (inc : Int), .int .u64 (conn : Int), .int .u64 (pinc : Int), .int .u64 (pconn : Int), .int .u64 (ack : Int), .int .u64 (seq : Int), .slice A body.length c], By v6 L6] by rw [← HL6.out]; exact hs6)
                 clear hs6 HSa5 HH5
                 have k6 := sep_ceAt (i := 0) HSb6.out rfl 0 rfl
                 have k9 := sep_ceAt (i := 0) HSb6.out rfl 9 rfl
                 have t9 := run_str (c := c) (HSb6.out.has HA.out))
    clear k6 k9 t9
    refine (refText_any w6b body (by omega)).mono ?_
    rintro e w7 ⟨u7, rfl, ho7, hb7⟩
    obtain ⟨A7, c7, rfl, _, _, hh7⟩ := ho7.form
    have HH7 := Lib.hid hh7
    have HS7 := Lib.hid (HSb6.out.grow hb7)
    have q7 : (Code.text body).length ≤ 500 := by have := (Code.short_length body.length).2; unfold Code.text; rw [List.length_append]; omega
    clear ho7 hh7 hb7 HSb6
    go_wp2_with (at_builtin; go_must (refine sep_app (i := 1) (m := Code.text body) rfl rfl (by rfl) (by rfl) HS7.out rfl HH7.out (by omega) ?_); intro v8 w8 hs8
                 have HSc : Hid (Sep w w8 [Ce w.heap.size 25 #[.int .i64 2, .int .i64 (fn : Int), .int .i64 (tn : Int), .int .u64 (inc : Int), .int .u64 (conn : Int), .int .u64 (pinc : Int), .int .u64 (pconn : Int), .int .u64 (ack : Int), .int .u64 (seq : Int), .slice A body.length c], By v8 (L6 ++ Code.text body)]) := Lib.hid hs8
                 clear hs8 HS7 HH7)
    have HS8 := Lib.hid (show Sep w w8 [Ce w.heap.size 25 #[.int .i64 2, .int .i64 (fn : Int), .int .i64 (tn : Int), .int .u64 (inc : Int), .int .u64 (conn : Int), .int .u64 (pinc : Int), .int .u64 (pconn : Int), .int .u64 (ack : Int), .int .u64 (seq : Int), .slice A body.length c], By v8 P] by rw [show P =  L6 ++ Code.text body by rw [← HP.out, ← HL6.out, ← HL5.out, ← HL4.out, ← HL3.out, ← HL2.out, ← HL1.out, ← HL0.out]; unfold Fr.plain Fr.tail Fr.nums; rw [if_pos (by simp)]; simp [Code.shorts]]; exact HSc.out)
    clear HSc
    obtain ⟨A8, c8, rfl, h81, h82, h83⟩ := sep_byForm (i := 1) HS8.out rfl
    have hPl : P.length ≤ 100000 := by rw [show P =  L6 ++ Code.text body by rw [← HP.out, ← HL6.out, ← HL5.out, ← HL4.out, ← HL3.out, ← HL2.out, ← HL1.out, ← HL0.out]; unfold Fr.plain Fr.tail Fr.nums; rw [if_pos (by simp)]; simp [Code.shorts]]; rw [List.length_append]; omega
    have H83 := Lib.hid h83
    clear h83
    refine (refSeal_any w8 w8.heap.size A8 c8 P H83.out (Nat.le_refl _) (by omega)).mono ?_
    rintro e w9 ⟨v9, rfl, ho9, hb9⟩
    go_wp2_with fail
    go_ret
    exact ⟨v9, rfl, own_mono ho9 HS8.out.size, HS8.out.bel.trans (hb9.mono HS8.out.size)⟩
theorem refBytes_yes (w : World) (B : Nat) (f : Fr) (A : Option Addr) (c : Nat) (hA : Has w B A (us f.body)) (hB : B ≤ w.heap.size) (hm : f.may = true) :
    Calls Tryd.prog 15 #[.agg (f.cells A c)] w fun e w' => ∃ v, e = .returned v ∧ Own w' w.heap.size v (Crc.sealed f.plain) ∧ Below w.heap.size w w' := by
  have hk := Fr.kinds hm
  obtain ⟨⟨a1, a2⟩, ⟨b1, b2⟩, _, ⟨c1, c2, c3, c4, c5, c6⟩, _⟩ := Fr.may_iff hm
  obtain ⟨kind, fr, to, inc, conn, pinc, pconn, ack, seq, body⟩ := f
  simp only at *
  obtain ⟨kn, rfl⟩ := Int.eq_ofNat_of_zero_le (show 0 ≤ kind by rcases hk with h | h <;> omega)
  obtain ⟨fn, rfl⟩ := Int.eq_ofNat_of_zero_le (show 0 ≤ fr by omega)
  obtain ⟨tn, rfl⟩ := Int.eq_ofNat_of_zero_le (show 0 ≤ to by omega)
  exact refBytes_core w kn fn tn inc conn pinc pconn ack seq body A c (hA.more hB) (by rcases hk with h | h <;> omega) (by rcases hk with h | h <;> omega) (by omega) (by omega) (by simp; omega) (by
    rcases hk with ⟨_, h⟩ | ⟨_, _, h⟩
    · rw [h]; simp
    · exact h)
/-- a frame in memory of its own -/
theorem own5_any (w : World) (B : Nat) (f : Fr) (A : Option Addr) (c : Nat) (hA : Has w B A (us f.body)) (hB : B ≤ w.heap.size) (hl : f.body.length ≤ 1000000000) :
    Calls Tryd.prog 13 #[.agg (f.cells A c)] w fun e w' => ∃ A' c', e = .returned (.agg (f.cells A' c')) ∧ Own w' w.heap.size (.slice A' f.body.length c') f.body ∧ Below w.heap.size w w' := by
  have HA := Lib.hid (hA.more hB)
  have HS0 := Lib.hid (show Sep w (((w.alloc (.cells (f.cells A c) 25)).alloc (.cells (Fr.nil.cells none 0) 25)).alloc (.cells #[] 5)) [Ce w.heap.size 25 (f.cells A c), Ce (w.heap.size + 1) 25 (Fr.nil.cells none 0), By (.slice (some ⟨w.heap.size + 1 + 1, 0, none⟩) 0 0) []] by
    have := sep_lit (sep_ce (sep_ce (Sep.nil w) (f.cells A c) 25) (Fr.nil.cells none 0) 25) [] (by unfold maxLen; simp)
    simp only [us, List.map_nil, World.size_alloc, List.nil_append, List.cons_append, List.length_nil] at this
    exact this)
  obtain ⟨kind, fr, to, inc, conn, pinc, pconn, ack, seq, body⟩ := f
  simp only [Fr.cells, Fr.nil] at *
  clear hA hB
  go_enter Tryd.func13, Tryd.ntmps13
  go_wp2_with (at_builtin; go_must (refine sep_app (i := 2) (m := body) rfl rfl (by rfl) (by rfl) HS0.out rfl (HS0.out.has HA.out) (by simp; omega) ?_); intro v1 w1 hs1
               have HS1 : Hid (Sep w w1 [_, _, By v1 body]) := Lib.hid hs1
               obtain ⟨A1, c1, rfl, _, _, _⟩ := sep_byForm (i := 2) HS1.out rfl
               clear hs1 HS0
               have f9 := sep_ceFrozen (i := 0) HS1.out rfl 9
               have k0 := sep_ceAt (i := 0) HS1.out rfl 0 rfl
               have z0 := sep_ceAt (i := 1) HS1.out rfl 0 rfl
               have y0 := sep_ceFrozen (i := 1) HS1.out rfl 0
               have k1 := sep_ceAt (i := 0) HS1.out rfl 1 rfl
               have z1 := sep_ceAt (i := 1) HS1.out rfl 1 rfl
               have y1 := sep_ceFrozen (i := 1) HS1.out rfl 1
               have k2 := sep_ceAt (i := 0) HS1.out rfl 2 rfl
               have z2 := sep_ceAt (i := 1) HS1.out rfl 2 rfl
               have y2 := sep_ceFrozen (i := 1) HS1.out rfl 2
               have k3 := sep_ceAt (i := 0) HS1.out rfl 3 rfl
               have z3 := sep_ceAt (i := 1) HS1.out rfl 3 rfl
               have y3 := sep_ceFrozen (i := 1) HS1.out rfl 3
               have k4 := sep_ceAt (i := 0) HS1.out rfl 4 rfl
               have z4 := sep_ceAt (i := 1) HS1.out rfl 4 rfl
               have y4 := sep_ceFrozen (i := 1) HS1.out rfl 4
               have k5 := sep_ceAt (i := 0) HS1.out rfl 5 rfl
               have z5 := sep_ceAt (i := 1) HS1.out rfl 5 rfl
               have y5 := sep_ceFrozen (i := 1) HS1.out rfl 5
               have k6 := sep_ceAt (i := 0) HS1.out rfl 6 rfl
               have z6 := sep_ceAt (i := 1) HS1.out rfl 6 rfl
               have y6 := sep_ceFrozen (i := 1) HS1.out rfl 6
               have k7 := sep_ceAt (i := 0) HS1.out rfl 7 rfl
               have z7 := sep_ceAt (i := 1) HS1.out rfl 7 rfl
               have y7 := sep_ceFrozen (i := 1) HS1.out rfl 7
               have k8 := sep_ceAt (i := 0) HS1.out rfl 8 rfl
               have z8 := sep_ceAt (i := 1) HS1.out rfl 8 rfl
               have y8 := sep_ceFrozen (i := 1) HS1.out rfl 8
               have k9 := sep_ceAt (i := 0) HS1.out rfl 9 rfl
               have z9 := sep_ceAt (i := 1) HS1.out rfl 9 rfl
               have y9 := sep_ceFrozen (i := 1) HS1.out rfl 9)
  obtain ⟨_, hs2⟩ := sep_put10 (i := 1) (sep_ceSet (i := 0) HS1.out rfl 9 (.slice A1 body.length c1)) rfl (.int .i64 kind) (.int .i64 fr) (.int .i64 to) (.int .u64 (inc : Int)) (.int .u64 (conn : Int)) (.int .u64 (pinc : Int)) (.int .u64 (pconn : Int)) (.int .u64 (ack : Int)) (.int .u64 (seq : Int)) (.slice A1 body.length c1)
  have HS2 : Hid (Sep w _ [_, _, By (.slice A1 body.length c1) body]) := Lib.hid hs2
  clear hs2
  refine bodyPost_ret (v := .agg #[.int .i64 kind, .int .i64 fr, .int .i64 to, .int .u64 (inc : Int), .int .u64 (conn : Int), .int .u64 (pinc : Int), .int .u64 (pconn : Int), .int .u64 (ack : Int), .int .u64 (seq : Int), .slice A1 body.length c1]) (by simp [results, Tryd.results13, go_sem, z0, z1, z2, z3, z4, z5, z6, z7, z8, z9]) rfl ?_
  exact ⟨A1, c1, rfl, sep_byBase (i := 2) HS2.out rfl, HS2.out.bel⟩
end Go.Proofs.YtcjafbpgjlcdpaaDoor
