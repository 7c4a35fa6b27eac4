/- The walks of frame.Encode. -/
import Derived.Test.YtcjafbpgjlcdpaaDoorFrmM
import Derived.Test.YtcjafbpgjlcdpaaDoorFrmP
import Derived.Test.YtcjafbpgjlcdpaaDoorSepCe
import Derived.Test.YtcjafbpgjlcdpaaDoorSepCode
import Derived.Test.YtcjafbpgjlcdpaaDoorSum2
import Derived.Test.YtcjafbpgjlcdpaaDoorCodeW3
namespace Go.Proofs.YtcjafbpgjlcdpaaDoor
open Go Go.RowKit
set_option linter.unusedVariables false
set_option maxRecDepth 100000

/-- a new block is not the writer's -/
theorem sep_wrApart {w0 w : World} {Ps : List SP} {i g : Nat} {l l' : List UInt8} {r : Option Nat} {o : Obj} (h : Sep w0 w Ps) (hi : Ps[i]? = some (Wr g l)) (hr : Wtr (w.alloc o) 0 g r l') : w.heap.size ≠ g ∧ some w.heap.size ≠ r := by
  obtain ⟨F, r', hw, hF⟩ := h.get hi
  have hlt := hw.lt
  refine ⟨by omega, fun e => ?_⟩
  obtain ⟨v, h1, h2, _⟩ := hr
  have hrow := hw.row
  obtain ⟨v', h1', h2', _⟩ := hw
  rw [Below.heap_alloc w o g hlt, h1'] at h1
  simp only [Option.some.injEq, Obj.cells.injEq, Array.mk.injEq, List.cons.injEq, and_true] at h1
  subst h1
  have := (hrow w.heap.size (by rw [e, ← h2, h2'])).2.1
  omega
/-- the ten cells, each -/
theorem frm_at {w0 w : World} {Ps : List SP} {i g : Nat} {f : Fr} {A : Option Addr} {c : Nat} (h : Sep w0 w Ps) (hi : Ps[i]? = some (Ce g 25 (f.cells A c))) :
    w.cell? ⟨g, 0, none⟩ = some (.int .i64 f.kind) ∧ w.cell? ⟨g, 1, none⟩ = some (.int .i64 f.fr) ∧ w.cell? ⟨g, 2, none⟩ = some (.int .i64 f.to) ∧ w.cell? ⟨g, 3, none⟩ = some (.int .u64 (f.inc : Int)) ∧ w.cell? ⟨g, 4, none⟩ = some (.int .u64 (f.conn : Int)) ∧
      w.cell? ⟨g, 5, none⟩ = some (.int .u64 (f.pinc : Int)) ∧ w.cell? ⟨g, 6, none⟩ = some (.int .u64 (f.pconn : Int)) ∧ w.cell? ⟨g, 7, none⟩ = some (.int .u64 (f.ack : Int)) ∧ w.cell? ⟨g, 8, none⟩ = some (.int .u64 (f.seq : Int)) ∧ w.cell? ⟨g, 9, none⟩ = some (.slice A f.body.length c) :=
  ⟨sep_ceAt h hi 0 rfl, sep_ceAt h hi 1 rfl, sep_ceAt h hi 2 rfl, sep_ceAt h hi 3 rfl, sep_ceAt h hi 4 rfl, sep_ceAt h hi 5 rfl, sep_ceAt h hi 6 rfl, sep_ceAt h hi 7 rfl, sep_ceAt h hi 8 rfl, sep_ceAt h hi 9 rfl⟩
theorem mayF {w : World} {f : Fr} {A : Option Addr} {c : Nat} (hl : f.body.length ≤ maxLen) : Calls Tryd.prog 10 #[.agg (f.cells A c)] w fun e w' => e = .returned (.bool f.may) ∧ Below w.heap.size w w' :=
  may_any w f.kind f.fr f.to f.inc f.conn f.pinc f.pconn f.ack f.seq f.body.length c A hl

set_option maxHeartbeats 800000 in
theorem encode_no (w : World) (f : Fr) (A : Option Addr) (c : Nat) (hl : f.body.length ≤ maxLen) (hm : f.may = false) :
    Calls Tryd.prog 14 #[.agg (f.cells A c)] w fun e w' => e = .returned (.tuple #[.slice none 0 0, .int .i64 3]) ∧ Below w.heap.size w w' := by
  have HM := fun w => mayF (w := w) (A := A) (c := c) hl
  rw [hm] at HM
  have HL := Lib.hid hl
  clear hl hm
  obtain ⟨kind, fr, to, inc, conn, pinc, pconn, ack, seq, body⟩ := f
  simp only [Fr.cells] at *
  go_enter Tryd.func14, Tryd.ntmps14
  go_wp2_with fail
  refine (HM _).mono ?_
  rintro e w1 ⟨rfl, hb1⟩
  go_wp2_with fail
  go_ret2
  exact ⟨rfl, (below_box _).trans (hb1.mono (by simp))⟩

/-- the frame whose cells these are -/
theorem cells_mk (kn fn tn inc conn pinc pconn ack seq : Nat) (body : List UInt8) (A : Option Addr) (c : Nat) : (Fr.mk kn fn tn inc conn pinc pconn ack seq body).cells A c = #[.int .i64 (kn : Int), .int .i64 (fn : Int), .int .i64 (tn : Int), .int .u64 (inc : Int), .int .u64 (conn : Int), .int .u64 (pinc : Int), .int .u64 (pconn : Int), .int .u64 (ack : Int), .int .u64 (seq : Int), .slice A body.length c] := rfl
set_option maxHeartbeats 3200000 in
theorem encode_core (w : World) (hT : Table w) (kn fn tn inc conn pinc pconn ack seq : Nat) (body : List UInt8) (A : Option Addr) (c : Nat) (hA : Has w w.heap.size A (us body)) (hm : (Fr.mk kn fn tn inc conn pinc pconn ack seq body).may = true) (hk : kn = 1 ∨ kn = 2) (hk2 : kn < 256) (hf2 : fn < 256) (ht2 : tn < 256)
    (c1 : inc < 34359738368) (c2 : conn < 34359738368) (c3 : pinc < 34359738368) (c4 : pconn < 34359738368) (c5 : ack < 34359738368) (c6 : seq < 34359738368) (hbl : body.length ≤ 448) :
    Calls Tryd.prog 14 #[.agg #[.int .i64 (kn : Int), .int .i64 (fn : Int), .int .i64 (tn : Int), .int .u64 (inc : Int), .int .u64 (conn : Int), .int .u64 (pinc : Int), .int .u64 (pconn : Int), .int .u64 (ack : Int), .int .u64 (seq : Int), .slice A body.length c]] w fun e w' => ∃ v, e = .returned (.tuple #[v, .int .i64 0]) ∧ Own w' w.heap.size v (Crc.sealed (Fr.mk kn fn tn inc conn pinc pconn ack seq body).plain) ∧ Below w.heap.size w w' := by
  have HT := Lib.hid hT
  have HA := Lib.hid hA
  have HM := fun w => mayF (w := w) (A := A) (c := c) (f := Fr.mk kn fn tn inc conn pinc pconn ack seq body) (by unfold maxLen; simp only; omega)
  rw [hm, cells_mk] at HM
  have HPL := Lib.hid (Fr.plain_len hm)
  have HX : Hid (∀ x ∈ [inc, conn, pinc, pconn, ack, seq], x < 18446744073709551616) := Lib.hid (by simp; omega)
  clear hT hA hm c1 c2 c3 c4 c5 c6
  have HS0 := fun (_ : Unit) => sep_ce (Sep.nil w) #[.int .i64 (kn : Int), .int .i64 (fn : Int), .int .i64 (tn : Int), .int .u64 (inc : Int), .int .u64 (conn : Int), .int .u64 (pinc : Int), .int .u64 (pconn : Int), .int .u64 (ack : Int), .int .u64 (seq : Int), .slice A body.length c] 25
  simp only [List.nil_append] at HS0
  obtain ⟨P, HP⟩ : ∃ P, Hid ((Fr.mk kn fn tn inc conn pinc pconn ack seq body).plain = P) := ⟨_, Lib.hid rfl⟩
  rw [HP.out] at HPL ⊢
  go_enter Tryd.func14, Tryd.ntmps14
  go_wp2_with fail
  refine (HM _).mono ?_
  rintro e w1 ⟨rfl, hb1⟩
  have HS1 := Lib.hid ((HS0 ()).grow hb1)
  clear HM HS0 hb1
  go_wp2_with fail
  refine (sep_newWriter HS1.out).mono ?_
  rintro e w2 ⟨g2, rfl, hs2⟩
  have HS2 := Lib.hid (show Sep w w2 [Ce w.heap.size 25 #[.int .i64 (kn : Int), .int .i64 (fn : Int), .int .i64 (tn : Int), .int .u64 (inc : Int), .int .u64 (conn : Int), .int .u64 (pinc : Int), .int .u64 (pconn : Int), .int .u64 (ack : Int), .int .u64 (seq : Int), .slice A body.length c], Wr g2 []] from hs2)
  clear hs2 HS1
  have k0 := sep_ceAt (i := 0) HS2.out rfl 0 rfl
  have m0 : ((kn : Nat) : Int) % 256 = ((kn : Nat) : Int) := by omega
  go_wp2_with fail
  refine (sep_writes (i := 1) (l' := [] ++ Code.wide 1 kn) HS2.out rfl (fun r hr => wU8_any w2 0 g2 r [] kn hr (Nat.zero_le _) (by omega) (by simp))).mono ?_
  rintro e w3 ⟨rfl, hs3⟩
  have HS3 := Lib.hid (show Sep w w3 [Ce w.heap.size 25 #[.int .i64 (kn : Int), .int .i64 (fn : Int), .int .i64 (tn : Int), .int .u64 (inc : Int), .int .u64 (conn : Int), .int .u64 (pinc : Int), .int .u64 (pconn : Int), .int .u64 (ack : Int), .int .u64 (seq : Int), .slice A body.length c], Wr g2 [UInt8.ofNat kn]] from hs3)
  clear hs3 HS2 k0 m0
  have k1 := sep_ceAt (i := 0) HS3.out rfl 1 rfl
  have m1 : ((fn : Nat) : Int) % 256 = ((fn : Nat) : Int) := by omega
  go_wp2_with fail
  refine (sep_writes (i := 1) (l' := [UInt8.ofNat kn] ++ Code.wide 1 fn) HS3.out rfl (fun r hr => wU8_any w3 0 g2 r [UInt8.ofNat kn] fn hr (Nat.zero_le _) (by omega) (by simp))).mono ?_
  rintro e w4 ⟨rfl, hs4⟩
  have HS4 := Lib.hid (show Sep w w4 [Ce w.heap.size 25 #[.int .i64 (kn : Int), .int .i64 (fn : Int), .int .i64 (tn : Int), .int .u64 (inc : Int), .int .u64 (conn : Int), .int .u64 (pinc : Int), .int .u64 (pconn : Int), .int .u64 (ack : Int), .int .u64 (seq : Int), .slice A body.length c], Wr g2 [UInt8.ofNat kn, UInt8.ofNat fn]] from hs4)
  clear hs4 HS3 k1 m1
  have k2 := sep_ceAt (i := 0) HS4.out rfl 2 rfl
  have m2 : ((tn : Nat) : Int) % 256 = ((tn : Nat) : Int) := by omega
  go_wp2_with fail
  refine (sep_writes (i := 1) (l' := [UInt8.ofNat kn, UInt8.ofNat fn] ++ Code.wide 1 tn) HS4.out rfl (fun r hr => wU8_any w4 0 g2 r [UInt8.ofNat kn, UInt8.ofNat fn] tn hr (Nat.zero_le _) (by omega) (by simp))).mono ?_
  rintro e w5 ⟨rfl, hs5⟩
  have HS5 := Lib.hid (show Sep w w5 [Ce w.heap.size 25 #[.int .i64 (kn : Int), .int .i64 (fn : Int), .int .i64 (tn : Int), .int .u64 (inc : Int), .int .u64 (conn : Int), .int .u64 (pinc : Int), .int .u64 (pconn : Int), .int .u64 (ack : Int), .int .u64 (seq : Int), .slice A body.length c], Wr g2 [UInt8.ofNat kn, UInt8.ofNat fn, UInt8.ofNat tn]] from hs5)
  clear hs5 HS4 k2 m2
  obtain ⟨L, HL⟩ : ∃ L, Hid ([UInt8.ofNat kn, UInt8.ofNat fn, UInt8.ofNat tn] = L) := ⟨_, Lib.hid rfl⟩
  have hLl : L.length = 3 := by rw [← HL.out]; rfl
  rw [HL.out] at HS5
  have k3 := sep_ceAt (i := 0) HS5.out rfl 3 rfl
  have k4 := sep_ceAt (i := 0) HS5.out rfl 4 rfl
  have k5 := sep_ceAt (i := 0) HS5.out rfl 5 rfl
  have k6 := sep_ceAt (i := 0) HS5.out rfl 6 rfl
  have k7 := sep_ceAt (i := 0) HS5.out rfl 7 rfl
  have k8 := sep_ceAt (i := 0) HS5.out rfl 8 rfl
  go_wp2_with fail
  refine (sep_writes (i := 1) (l' := L ++ Code.shorts [inc, conn, pinc, pconn, ack, seq]) (HS5.out.alloc (.cells (u64s [inc, conn, pinc, pconn, ack, seq]).toArray 22)) rfl (fun r hr => put_any _ 0 g2 r L (some ⟨w5.heap.size, 0, none⟩) 6 [inc, conn, pinc, pconn, ack, seq] hr (Nat.zero_le _) ?_ ?_ HX.out (by simp; omega))).mono ?_
  · have := has_new w5 (u64s [inc, conn, pinc, pconn, ack, seq]).toArray 22
    simpa [u64s] using this
  · intro _ b o e
    injection e with e
    injection e with e _
    rw [← e]
    exact sep_wrApart (i := 1) HS5.out rfl hr
  rintro e w6 ⟨rfl, hs6⟩
  have hsl := shorts_length [inc, conn, pinc, pconn, ack, seq]
  obtain ⟨L2, HL2⟩ : ∃ L2, Hid (L ++ Code.shorts [inc, conn, pinc, pconn, ack, seq] = L2) := ⟨_, Lib.hid rfl⟩
  have hl2 : L2.length ≤ 69 := by
    rw [← HL2.out, List.length_append, hLl]
    simp at hsl
    omega
  have HS6 := Lib.hid (show Sep w w6 [Ce w.heap.size 25 #[.int .i64 (kn : Int), .int .i64 (fn : Int), .int .i64 (tn : Int), .int .u64 (inc : Int), .int .u64 (conn : Int), .int .u64 (pinc : Int), .int .u64 (pconn : Int), .int .u64 (ack : Int), .int .u64 (seq : Int), .slice A body.length c], Wr g2 L2] by rw [← HL2.out]; exact hs6)
  clear hs6 HS5 k3 k4 k5 k6 k7 k8 hsl
  have k0 := sep_ceAt (i := 0) HS6.out rfl 0 rfl
  rcases hk with rfl | rfl
  · have HS7 : Hid (Sep w w6 [Ce w.heap.size 25 #[.int .i64 1, .int .i64 (fn : Int), .int .i64 (tn : Int), .int .u64 (inc : Int), .int .u64 (conn : Int), .int .u64 (pinc : Int), .int .u64 (pconn : Int), .int .u64 (ack : Int), .int .u64 (seq : Int), .slice A body.length c], Wr g2 P]) := Lib.hid (by rw [show P = L2 by rw [← HP.out, ← HL2.out, ← HL.out]; unfold Fr.plain Fr.tail Fr.nums; rw [if_neg (by simp), List.append_nil]; rfl]; exact HS6.out)
    go_wp2_with fail
    clear k0 HS6
    refine (sep_bytes (i := 1) HS7.out rfl (by have := HPL.out; omega)).mono ?_
    rintro e w8 ⟨v8, rfl, hs8⟩
    have HS8 := Lib.hid (show Sep w w8 [Ce w.heap.size 25 #[.int .i64 1, .int .i64 (fn : Int), .int .i64 (tn : Int), .int .u64 (inc : Int), .int .u64 (conn : Int), .int .u64 (pinc : Int), .int .u64 (pconn : Int), .int .u64 (ack : Int), .int .u64 (seq : Int), .slice A body.length c], Wr g2 P, By v8 P] from hs8)
    clear hs8 HS7
    obtain ⟨A8, c8, rfl, h81, h82, h83⟩ := sep_byForm (i := 2) HS8.out rfl
    have H83 := Lib.hid h83
    clear h83
    go_wp2_with fail
    refine (seal_any w8 (HT.out.below HS8.out.bel HT.out.lt) w8.heap.size A8 c8 P H83.out (Nat.le_refl _) h81 h82 (by have := HPL.out; omega)).mono ?_
    rintro e w9 ⟨v9, rfl, ho9, hb9⟩
    go_wp2_with fail
    go_ret2
    exact ⟨v9, rfl, own_mono ho9 HS8.out.size, HS8.out.bel.trans (hb9.mono HS8.out.size)⟩
  · have k9 := sep_ceAt (i := 0) HS6.out rfl 9 rfl
    have t9 := run_str (c := c) (HS6.out.has HA.out)
    go_wp2_with fail
    clear t9 k9 k0
    refine (sep_writes (i := 1) (l' := L2 ++ Code.text body) HS6.out rfl (fun r hr => textW_any w6 0 g2 r L2 body hr (Nat.zero_le _) (by omega))).mono ?_
    rintro e w7 ⟨rfl, hs7⟩
    have HS7 : Hid (Sep w w7 [Ce w.heap.size 25 #[.int .i64 2, .int .i64 (fn : Int), .int .i64 (tn : Int), .int .u64 (inc : Int), .int .u64 (conn : Int), .int .u64 (pinc : Int), .int .u64 (pconn : Int), .int .u64 (ack : Int), .int .u64 (seq : Int), .slice A body.length c], Wr g2 P]) := Lib.hid (by rw [show P = L2 ++ Code.text body by rw [← HP.out, ← HL2.out, ← HL.out]; rfl]; exact hs7)
    clear hs7 HS6
    go_wp2_with fail
    refine (sep_bytes (i := 1) HS7.out rfl (by have := HPL.out; omega)).mono ?_
    rintro e w8 ⟨v8, rfl, hs8⟩
    have HS8 := Lib.hid (show Sep w w8 [Ce w.heap.size 25 #[.int .i64 2, .int .i64 (fn : Int), .int .i64 (tn : Int), .int .u64 (inc : Int), .int .u64 (conn : Int), .int .u64 (pinc : Int), .int .u64 (pconn : Int), .int .u64 (ack : Int), .int .u64 (seq : Int), .slice A body.length c], Wr g2 P, By v8 P] from hs8)
    clear hs8 HS7
    obtain ⟨A8, c8, rfl, h81, h82, h83⟩ := sep_byForm (i := 2) HS8.out rfl
    have H83 := Lib.hid h83
    clear h83
    go_wp2_with fail
    refine (seal_any w8 (HT.out.below HS8.out.bel HT.out.lt) w8.heap.size A8 c8 P H83.out (Nat.le_refl _) h81 h82 (by have := HPL.out; omega)).mono ?_
    rintro e w9 ⟨v9, rfl, ho9, hb9⟩
    go_wp2_with fail
    go_ret2
    exact ⟨v9, rfl, own_mono ho9 HS8.out.size, HS8.out.bel.trans (hb9.mono HS8.out.size)⟩
theorem encode_yes (w : World) (hT : Table w) (B : Nat) (f : Fr) (A : Option Addr) (c : Nat) (hA : Has w B A (us f.body)) (hB : B ≤ w.heap.size) (hm : f.may = true) :
    Calls Tryd.prog 14 #[.agg (f.cells A c)] w fun e w' => ∃ v, e = .returned (.tuple #[v, .int .i64 0]) ∧ Own w' w.heap.size v (Crc.sealed f.plain) ∧ Below w.heap.size w w' := by
  have hk := Fr.kinds hm
  obtain ⟨⟨a1, a2⟩, ⟨b1, b2⟩, _, ⟨c1, c2, c3, c4, c5, c6⟩, _⟩ := Fr.may_iff hm
  obtain ⟨kind, fr, to, inc, conn, pinc, pconn, ack, seq, body⟩ := f
  simp only at *
  obtain ⟨kn, rfl⟩ := Int.eq_ofNat_of_zero_le (show 0 ≤ kind by rcases hk with h | h <;> omega)
  obtain ⟨fn, rfl⟩ := Int.eq_ofNat_of_zero_le (show 0 ≤ fr by omega)
  obtain ⟨tn, rfl⟩ := Int.eq_ofNat_of_zero_le (show 0 ≤ to by omega)
  exact encode_core w hT kn fn tn inc conn pinc pconn ack seq body A c (hA.more hB) hm (by rcases hk with h | h <;> omega) (by rcases hk with h | h <;> omega) (by omega) (by omega) c1 c2 c3 c4 c5 c6 (by
    rcases hk with ⟨_, h⟩ | ⟨_, _, h⟩
    · rw [h]; simp
    · exact h)
end Go.Proofs.YtcjafbpgjlcdpaaDoor
