/- The walk of the law FrameReads. -/
import Derived.Test.YtcjafbpgjlcdpaaDoorFrmW
import Derived.Test.YtcjafbpgjlcdpaaDoorRgF
import Derived.Test.YtcjafbpgjlcdpaaDoorFrmF
namespace Go.Proofs.YtcjafbpgjlcdpaaDoor
open Go Go.RowKit
set_option linter.unusedVariables false
set_option maxRecDepth 100000
set_option linter.unusedSimpArgs false

theorem sep_conv5 {w0 w : World} {Ps : List SP} (h : Sep w0 w Ps) (l : List UInt8) :
    ∃ w2 c, (convert 9 23 (.string ⟨l.toArray⟩)).run Tryd.prog w = .ok (.slice (some ⟨w.heap.size, 0, none⟩) l.length c) w2 ∧ l.length ≤ c ∧ Sep w0 w2 (Ps ++ [Cv (.slice (some ⟨w.heap.size, 0, none⟩) l.length c) l]) := by
  obtain ⟨w2, c, h1, h2⟩ := sep_conv h l
  refine ⟨w2, c, h1, ?_, h2⟩
  have hsz := size_str l
  have h3 := Lib.run_convert_string_bytes (P := Tryd.prog) w 9 23 5 ⟨l.toArray⟩ Tryd.underlying9 Tryd.underlying23 Tryd.underlying5
  rw [hsz] at h3
  have e := h1.symm.trans h3
  injection e with e _
  injection e with _ _ e
  rw [e]
  exact grownCap_ge w l.length 0 5
/-- a frame's body as a thing of its own -/
def Bo (A : Option Addr) (c : Nat) (l : List UInt8) : SP := fun w F =>
  (A = none ∧ c = 0 ∧ l = [] ∧ ∀ k, ¬ F k) ∨ ∃ g, A = some ⟨g, 0, none⟩ ∧ g < w.heap.size ∧ (∀ j (hj : j < l.length), w.cell? ⟨g, j, none⟩ = some (.int .u8 (l[j].toNat : Int)) ∧ w.frozen? ⟨g, j, none⟩ = false) ∧ ∀ k, F k ↔ k = g
theorem Bo.loc (A : Option Addr) (c : Nat) (l : List UInt8) : Loc (Bo A c l) where
  keep := by
    rintro w w' F (h | ⟨g, e, hg, hc, hF⟩) hk
    · exact .inl h
    · have hb := hk g ((hF g).2 rfl)
      refine .inr ⟨g, e, lt_of_block hg hb, fun j hj => ?_, hF⟩
      rw [World.cell?_of_block (w := w) (a := ⟨g, j, none⟩) hb, World.frozen?_of_block (w := w) (a := ⟨g, j, none⟩) hb]
      exact hc j hj
  lt := by
    rintro w F (⟨_, _, _, h⟩ | ⟨g, e, hg, hc, hF⟩) k hk
    · exact (h k hk).elim
    · rw [(hF k).1 hk]; exact hg
theorem sep_bo {w0 w w' : World} {Ps : List SP} {A : Option Addr} {c : Nat} {l : List UInt8} (h : Sep w0 w Ps) (hb : Below w.heap.size w w') (ho : BodyAt w' w.heap.size A c l) : Sep w0 w' (Ps ++ [Bo A c l]) := by
  rcases ho with ⟨h1, h2, h3⟩ | ⟨g, h1, h2, h3, h4⟩
  · exact h.add (F := fun _ => False) hb (.inl ⟨h1, h2, h3, fun _ h => h⟩) (Bo.loc _ _ _) (fun k hk => hk.elim)
  · exact h.add (F := fun k => k = g) hb (.inr ⟨g, h1, h3, h4, fun k => Iff.rfl⟩) (Bo.loc _ _ _) (fun k hk => by omega)
theorem sep_boAt {w0 w : World} {Ps : List SP} {i c : Nat} {A : Option Addr} {l : List UInt8} {j : Nat} (h : Sep w0 w Ps) (hi : Ps[i]? = some (Bo A c l)) (hj : j < l.length) :
    ∃ g, A = some ⟨g, 0, none⟩ ∧ w.cell? ⟨g, j, none⟩ = some (.int .u8 (l[j].toNat : Int)) ∧ w.frozen? ⟨g, j, none⟩ = false ∧ ∀ b : UInt8, Sep w0 (w.setCell ⟨g, j, none⟩ (.int .u8 (b.toNat : Int))) (Ps.set i (Bo A c (l.set j b))) := by
  obtain ⟨F, hB, hL, hlt, hk⟩ := h.upd hi
  rcases hB with ⟨_, _, h3, _⟩ | ⟨g, e, hg, hc, hF⟩
  · rw [h3] at hj; simp at hj
  · refine ⟨g, e, (hc j hj).1, (hc j hj).2, fun b => hk _ _ (fun k => k = g) ⟨rfl, rfl, rfl, by simp [World.setCell], fun k _ hnF => Below.heap_setCell w _ _ k (fun e => hnF ((hF k).2 e)), fun k hk => .inl ((hF k).2 hk)⟩ (.inr ⟨g, e, by simpa [World.setCell] using hg, fun m hm => ?_, fun k => Iff.rfl⟩) (Bo.loc _ _ _)⟩
    rw [List.length_set] at hm
    have h1 := hc m hm
    rw [World.frozen?_setCell]
    refine ⟨?_, h1.2⟩
    by_cases hmj : m = j
    · subst hmj
      rw [World.cell?_setCell_same' w _ _ (by rw [h1.1]; rfl)]
      simp
    · rw [World.cell?_setCell_other w _ _ _ (fun e => hmj (by injection e with _ e; exact e.symm)), h1.1, List.getElem_set_ne (fun e => hmj e.symm)]
theorem sep_boHas {w0 w : World} {Ps : List SP} {i c : Nat} {A : Option Addr} {l : List UInt8} (h : Sep w0 w Ps) (hi : Ps[i]? = some (Bo A c l)) : Has w w.heap.size A (us l) := by
  obtain ⟨F, hB⟩ := h.get hi
  rcases hB with ⟨_, _, h3, _⟩ | ⟨g, e, hg, hc, _⟩
  · rw [h3]; exact Has.nil
  · intro j u hu
    have hj : j < l.length := by
      rcases Nat.lt_or_ge j l.length with h | h
      · exact h
      · rw [List.getElem?_eq_none (by rw [us_length]; exact h)] at hu; cases hu
    rw [us_at hj] at hu
    exact ⟨g, 0, e, hg, by rw [Nat.zero_add, (hc j hj).1]; exact hu⟩
/-- what either reading answers -/
theorem decode_or (okv errv : Value) {w : World} {b : List UInt8} {e : Ending} {w' : World} (h : Decs okv errv w b e w') :
    ∃ f A3 c3 z, e = .returned (.tuple #[.agg (Fr.cells f A3 c3), z]) ∧ BodyAt w' w.heap.size A3 c3 f.body ∧ f.body.length ≤ 448 ∧ Below w.heap.size w w' ∧ ((z = okv ∧ IsFr b f) ∨ (z = errv ∧ f = Fr.nil ∧ ∀ f, ¬ IsFr b f)) := by
  rcases h with ⟨f, A, c, hf, he, hb, hB⟩ | ⟨hn, he, hB⟩
  · refine ⟨f, A, c, _, he, hb, ?_, hB, .inl ⟨rfl, hf⟩⟩
    rcases Fr.kinds hf.1 with ⟨_, h⟩ | ⟨_, _, h⟩
    · rw [h]; simp
    · exact h
  · exact ⟨Fr.nil, none, 0, _, he, .inl ⟨rfl, rfl, rfl⟩, by simp [Fr.nil], hB, .inr ⟨rfl, rfl, hn⟩⟩

set_option maxHeartbeats 6400000 in
theorem frameReads_walk (w : World) (hT : Table w) (A : Option Addr) (c : Nat) (b : List UInt8) (hA : Has w w.heap.size A (us b)) (hc : b.length ≤ c) (hm : c ≤ maxLen) (hr : b.length ≤ 140737488355328) :
    Calls Tryd.prog 5 #[.slice A b.length c] w fun e w' => e = .returned (.bool true) ∧ Below w.heap.size w w' := by
  have HT := Lib.hid hT
  have HA := Lib.hid hA
  have HM := Lib.hid hm
  clear hT hA hm hr
  by_cases hlong : 65536 < b.length
  · go_enter Tryd.func5, Tryd.ntmps5
    go_wp2_with fail
    refine (awake5 w HT.out).mono ?_
    rintro e w1 ⟨rfl, hb1⟩
    go_wp2_with fail
    go_ret
    exact ⟨rfl, hb1⟩
  · have t0 := run_str (c := c) HA.out
    have HDEC := Lib.hid (decode_any w HT.out w.heap.size A c b HA.out (Nat.le_refl _) hc HM.out (by omega))
    obtain ⟨n, HN⟩ : ∃ n, Hid (b.length = n) := ⟨_, Lib.hid rfl⟩
    rw [HN.out] at t0 HDEC hlong hc ⊢
    go_enter Tryd.func5, Tryd.ntmps5
    go_wp2_with fail
    clear t0
    refine HDEC.out.mono ?_
    clear HDEC
    intro e w1 hd
    obtain ⟨f3, A3, c3, z3, rfl, hbo, hbl, hb1, hz⟩ := decode_or _ _ hd
    have HZ3 := Lib.hid hz
    have HS1 := Lib.hid (show Sep w w1 [Bo A3 c3 f3.body] from sep_bo (Sep.nil w) hb1 hbo)
    clear hd hz hbo hb1
    obtain ⟨kind, fr, to, inc, conn, pinc, pconn, ack, seq, body⟩ := f3
    simp only at hbl
    simp only [] at HS1
    have HL : Hid (body.length ≤ maxLen) := Lib.hid (by unfold maxLen; omega)
    rw [show (Fr.mk kind fr to inc conn pinc pconn ack seq body).cells A3 c3 = #[.int .i64 kind, .int .i64 fr, .int .i64 to, .int .u64 (inc : Int), .int .u64 (conn : Int), .int .u64 (pinc : Int), .int .u64 (pconn : Int), .int .u64 (ack : Int), .int .u64 (seq : Int), .slice A3 body.length c3] from rfl]
    have HS2 := Lib.hid (show Sep w (w1.alloc (.cells #[.int .i64 kind, .int .i64 fr, .int .i64 to, .int .u64 (inc : Int), .int .u64 (conn : Int), .int .u64 (pinc : Int), .int .u64 (pconn : Int), .int .u64 (ack : Int), .int .u64 (seq : Int), .slice A3 body.length c3] 25)) [Bo A3 c3 body, Ce w1.heap.size 25 #[.int .i64 kind, .int .i64 fr, .int .i64 to, .int .u64 (inc : Int), .int .u64 (conn : Int), .int .u64 (pinc : Int), .int .u64 (pconn : Int), .int .u64 (ack : Int), .int .u64 (seq : Int), .slice A3 body.length c3]] from sep_ce HS1.out #[.int .i64 kind, .int .i64 fr, .int .i64 to, .int .u64 (inc : Int), .int .u64 (conn : Int), .int .u64 (pinc : Int), .int .u64 (pconn : Int), .int .u64 (ack : Int), .int .u64 (seq : Int), .slice A3 body.length c3] 25)
    clear HS1
    obtain ⟨w2, c2, hcv, hc2, hs2⟩ := sep_conv5 HS2.out b
    have HS3 := Lib.hid (show Sep w w2 [Bo A3 c3 body, Ce w1.heap.size 25 #[.int .i64 kind, .int .i64 fr, .int .i64 to, .int .u64 (inc : Int), .int .u64 (conn : Int), .int .u64 (pinc : Int), .int .u64 (pconn : Int), .int .u64 (ack : Int), .int .u64 (seq : Int), .slice A3 body.length c3], Cv (.slice (some ⟨(w1.alloc (.cells #[.int .i64 kind, .int .i64 fr, .int .i64 to, .int .u64 (inc : Int), .int .u64 (conn : Int), .int .u64 (pinc : Int), .int .u64 (pconn : Int), .int .u64 (ack : Int), .int .u64 (seq : Int), .slice A3 body.length c3] 25)).heap.size, 0, none⟩) b.length c2) b] from hs2)
    have HRD := Lib.hid (refRead_any w2 w2.heap.size _ c2 b (sep_bodyHas (i := 2) hs2 rfl) (Nat.le_refl _) hc2 (by rw [HN.out]; omega))
    clear hs2 hc2
    simp only [World.size_alloc] at hcv HRD HS3
    rw [HN.out] at hcv HRD HS3
    obtain ⟨g3, HG3⟩ : ∃ g, Hid (w1.heap.size = g) := ⟨_, Lib.hid rfl⟩
    rcases HZ3.out with ⟨hz3, hf3⟩ | ⟨hz3, hf3, hnf⟩
    · have HF3 := Lib.hid hf3
      subst hz3
      clear hf3
      go_wp2_with fail
      rw [HG3.out] at HS3 HRD ⊢
      clear hcv HS2
      refine HRD.out.mono ?_
      clear HRD
      intro e w3 hd
      obtain ⟨f4, A4, c4, z4, rfl, hbo4, hbl4, hb4, hz4⟩ := decode_or _ _ hd
      have HB4 := Lib.hid hbo4.has
      clear hd hbo4 hbl4
      rcases hz4 with ⟨hz4, hf4⟩ | ⟨_, _, hnf⟩
      · have e4 := hf4.inj HF3.out
        subst e4 hz4
        clear hf4
        simp only at HB4
        have HS4 := Lib.hid (HS3.out.grow hb4)
        have hz2 := hb4.size
        clear hb4
        rw [show (Fr.mk kind fr to inc conn pinc pconn ack seq body).cells A4 c4 = #[.int .i64 kind, .int .i64 fr, .int .i64 to, .int .u64 (inc : Int), .int .u64 (conn : Int), .int .u64 (pinc : Int), .int .u64 (pconn : Int), .int .u64 (ack : Int), .int .u64 (seq : Int), .slice A4 body.length c4] from rfl]
        have HS5 := Lib.hid (show Sep w (w3.alloc (.cells #[.int .i64 kind, .int .i64 fr, .int .i64 to, .int .u64 (inc : Int), .int .u64 (conn : Int), .int .u64 (pinc : Int), .int .u64 (pconn : Int), .int .u64 (ack : Int), .int .u64 (seq : Int), .slice A4 body.length c4] 25)) [Bo A3 c3 body, Ce g3 25 #[.int .i64 kind, .int .i64 fr, .int .i64 to, .int .u64 (inc : Int), .int .u64 (conn : Int), .int .u64 (pinc : Int), .int .u64 (pconn : Int), .int .u64 (ack : Int), .int .u64 (seq : Int), .slice A3 body.length c3], Cv (.slice (some ⟨g3 + 1, 0, none⟩) n c2) b, Ce w3.heap.size 25 #[.int .i64 kind, .int .i64 fr, .int .i64 to, .int .u64 (inc : Int), .int .u64 (conn : Int), .int .u64 (pinc : Int), .int .u64 (pconn : Int), .int .u64 (ack : Int), .int .u64 (seq : Int), .slice A4 body.length c4]] from sep_ce HS4.out #[.int .i64 kind, .int .i64 fr, .int .i64 to, .int .u64 (inc : Int), .int .u64 (conn : Int), .int .u64 (pinc : Int), .int .u64 (pconn : Int), .int .u64 (ack : Int), .int .u64 (seq : Int), .slice A4 body.length c4] 25)
        have hg3 := sep_ceLt (i := 1) HS4.out rfl
        have k0 := sep_ceAt (i := 1) HS4.out rfl 0 rfl
        have k1 := sep_ceAt (i := 1) HS4.out rfl 1 rfl
        have k2 := sep_ceAt (i := 1) HS4.out rfl 2 rfl
        have k3 := sep_ceAt (i := 1) HS4.out rfl 3 rfl
        have k4 := sep_ceAt (i := 1) HS4.out rfl 4 rfl
        have k5 := sep_ceAt (i := 1) HS4.out rfl 5 rfl
        have k6 := sep_ceAt (i := 1) HS4.out rfl 6 rfl
        have k7 := sep_ceAt (i := 1) HS4.out rfl 7 rfl
        have k8 := sep_ceAt (i := 1) HS4.out rfl 8 rfl
        have k9 := sep_ceAt (i := 1) HS4.out rfl 9 rfl
        go_wp2_with fail
        clear k0 k1 k2 k3 k4 k5 k6 k7 k8 k9
        have HB3 := Lib.hid (sep_boHas (i := 0) HS5.out rfl)
        refine (same5_any _ _ (Fr.mk kind fr to inc conn pinc pconn ack seq body) (Fr.mk kind fr to inc conn pinc pconn ack seq body) A3 A4 c3 c4 HB3.out ((HB4.out.alloc (Nat.le_refl _) _).more (le_alloc (Nat.le_refl _) _)) (Nat.le_refl _) HL.out HL.out).mono ?_
        rintro e w5 ⟨rfl, hb5⟩
        have HS6 := Lib.hid (HS5.out.grow hb5)
        clear HS5 HS4 hb5 HB3 HB4 hg3
        rw [Fr.eqB_self]
        go_wp2_with fail
        go_loopw [8] (fun iv wr => ∃ (k : Nat) (L : List UInt8), k ≤ body.length ∧ iv = .int .i64 (k : Int) ∧ Hid (L.length = body.length) ∧ Hid (Sep w wr [Bo A3 c3 L, Ce g3 25 #[.int .i64 kind, .int .i64 fr, .int .i64 to, .int .u64 (inc : Int), .int .u64 (conn : Int), .int .u64 (pinc : Int), .int .u64 (pconn : Int), .int .u64 (ack : Int), .int .u64 (seq : Int), .slice A3 body.length c3], Cv (.slice (some ⟨g3 + 1, 0, none⟩) n c2) b, Ce w3.heap.size 25 #[.int .i64 kind, .int .i64 fr, .int .i64 to, .int .u64 (inc : Int), .int .u64 (conn : Int), .int .u64 (pinc : Int), .int .u64 (pconn : Int), .int .u64 (ack : Int), .int .u64 (seq : Int), .slice A4 body.length c4]])) (fun iv _ => body.length - (intOf iv).toNat)
        case atStart => exact ⟨0, body, Nat.zero_le _, rfl, Lib.hid rfl, HS6⟩
        case round =>
          obtain ⟨k, L, hk, rfl, HLL, HS⟩ := hrel
          have k9 := sep_ceAt (i := 1) HS.out rfl 9 rfl
          by_cases hkt : k < body.length
          · obtain ⟨gx, hgx, hcx, hfx, hst⟩ := sep_boAt (i := 0) (j := k) HS.out rfl (by rw [HLL.out]; exact hkt)
            have HGX := Lib.hid hgx
            obtain ⟨zb, HZB⟩ : ∃ z, Hid (L[k]'(by rw [HLL.out]; exact hkt) = z) := ⟨_, Lib.hid rfl⟩
            rw [HZB.out] at hcx
            obtain ⟨zb', hzb⟩ := u8_succ zb
            have HST := Lib.hid (hst zb')
            have HZZ := Lib.hid hzb
            subst hgx
            clear hst hzb HGX
            have i0 : (0 : Int) ≤ (k : Int) := by omega
            have i1 : (k : Int) < (body.length : Int) := by omega
            go_wp2_with fail
            go_roundw
            case rel =>
              refine ⟨k + 1, L.set k zb', by omega, by go_num, Lib.hid (by rw [List.length_set]; exact HLL.out), Lib.hid ?_⟩
              rw [HZZ.out]
              exact HST.out
            case measure => simp [intOf]; omega
          · have t1 := run_str (c := c) (HS.out.has HA.out)
            rw [HN.out] at t1
            go_wp2_with fail
            clear t1 k9
            refine (awake5 _ (HT.out.below HS.out.bel HT.out.lt)).mono ?_
            rintro e w6 ⟨rfl, hb6⟩
            go_wp2_with fail
            go_ret
            exact ⟨rfl, HS.out.bel.trans (hb6.mono HS.out.size)⟩
      · exact (hnf _ HF3.out).elim
    · have HNF := Lib.hid hnf
      subst hz3
      clear hnf
      go_wp2_with fail
      rw [HG3.out] at HS3 HRD ⊢
      clear hcv HS2
      refine HRD.out.mono ?_
      clear HRD
      intro e w3 hd
      obtain ⟨f4, A4, c4, z4, rfl, hbo4, hbl4, hb4, hz4⟩ := decode_or _ _ hd
      have HB4 := Lib.hid hbo4.has
      clear hd hbo4 hbl4
      rcases hz4 with ⟨_, hf4⟩ | ⟨hz4, hf4, _⟩
      · exact (HNF.out _ hf4).elim
      · have e4 := hf4.trans hf3.symm
        subst e4 hz4
        clear hf4 hf3
        simp only at HB4
        have HS4 := Lib.hid (HS3.out.grow hb4)
        have hz2 := hb4.size
        clear hb4
        rw [show (Fr.mk kind fr to inc conn pinc pconn ack seq body).cells A4 c4 = #[.int .i64 kind, .int .i64 fr, .int .i64 to, .int .u64 (inc : Int), .int .u64 (conn : Int), .int .u64 (pinc : Int), .int .u64 (pconn : Int), .int .u64 (ack : Int), .int .u64 (seq : Int), .slice A4 body.length c4] from rfl]
        have HS5 := Lib.hid (show Sep w (w3.alloc (.cells #[.int .i64 kind, .int .i64 fr, .int .i64 to, .int .u64 (inc : Int), .int .u64 (conn : Int), .int .u64 (pinc : Int), .int .u64 (pconn : Int), .int .u64 (ack : Int), .int .u64 (seq : Int), .slice A4 body.length c4] 25)) [Bo A3 c3 body, Ce g3 25 #[.int .i64 kind, .int .i64 fr, .int .i64 to, .int .u64 (inc : Int), .int .u64 (conn : Int), .int .u64 (pinc : Int), .int .u64 (pconn : Int), .int .u64 (ack : Int), .int .u64 (seq : Int), .slice A3 body.length c3], Cv (.slice (some ⟨g3 + 1, 0, none⟩) n c2) b, Ce w3.heap.size 25 #[.int .i64 kind, .int .i64 fr, .int .i64 to, .int .u64 (inc : Int), .int .u64 (conn : Int), .int .u64 (pinc : Int), .int .u64 (pconn : Int), .int .u64 (ack : Int), .int .u64 (seq : Int), .slice A4 body.length c4]] from sep_ce HS4.out #[.int .i64 kind, .int .i64 fr, .int .i64 to, .int .u64 (inc : Int), .int .u64 (conn : Int), .int .u64 (pinc : Int), .int .u64 (pconn : Int), .int .u64 (ack : Int), .int .u64 (seq : Int), .slice A4 body.length c4] 25)
        have hg3 := sep_ceLt (i := 1) HS4.out rfl
        have k0 := sep_ceAt (i := 1) HS4.out rfl 0 rfl
        have k1 := sep_ceAt (i := 1) HS4.out rfl 1 rfl
        have k2 := sep_ceAt (i := 1) HS4.out rfl 2 rfl
        have k3 := sep_ceAt (i := 1) HS4.out rfl 3 rfl
        have k4 := sep_ceAt (i := 1) HS4.out rfl 4 rfl
        have k5 := sep_ceAt (i := 1) HS4.out rfl 5 rfl
        have k6 := sep_ceAt (i := 1) HS4.out rfl 6 rfl
        have k7 := sep_ceAt (i := 1) HS4.out rfl 7 rfl
        have k8 := sep_ceAt (i := 1) HS4.out rfl 8 rfl
        have k9 := sep_ceAt (i := 1) HS4.out rfl 9 rfl
        go_wp2_with fail
        clear k0 k1 k2 k3 k4 k5 k6 k7 k8 k9
        have HB3 := Lib.hid (sep_boHas (i := 0) HS5.out rfl)
        refine (same5_any _ _ (Fr.mk kind fr to inc conn pinc pconn ack seq body) (Fr.mk kind fr to inc conn pinc pconn ack seq body) A3 A4 c3 c4 HB3.out ((HB4.out.alloc (Nat.le_refl _) _).more (le_alloc (Nat.le_refl _) _)) (Nat.le_refl _) HL.out HL.out).mono ?_
        rintro e w5 ⟨rfl, hb5⟩
        have HS6 := Lib.hid (HS5.out.grow hb5)
        clear HS5 HS4 hb5 HB3 HB4 hg3
        rw [Fr.eqB_self]
        go_wp2_with fail
        go_loopw [8] (fun iv wr => ∃ (k : Nat) (L : List UInt8), k ≤ body.length ∧ iv = .int .i64 (k : Int) ∧ Hid (L.length = body.length) ∧ Hid (Sep w wr [Bo A3 c3 L, Ce g3 25 #[.int .i64 kind, .int .i64 fr, .int .i64 to, .int .u64 (inc : Int), .int .u64 (conn : Int), .int .u64 (pinc : Int), .int .u64 (pconn : Int), .int .u64 (ack : Int), .int .u64 (seq : Int), .slice A3 body.length c3], Cv (.slice (some ⟨g3 + 1, 0, none⟩) n c2) b, Ce w3.heap.size 25 #[.int .i64 kind, .int .i64 fr, .int .i64 to, .int .u64 (inc : Int), .int .u64 (conn : Int), .int .u64 (pinc : Int), .int .u64 (pconn : Int), .int .u64 (ack : Int), .int .u64 (seq : Int), .slice A4 body.length c4]])) (fun iv _ => body.length - (intOf iv).toNat)
        case atStart => exact ⟨0, body, Nat.zero_le _, rfl, Lib.hid rfl, HS6⟩
        case round =>
          obtain ⟨k, L, hk, rfl, HLL, HS⟩ := hrel
          have k9 := sep_ceAt (i := 1) HS.out rfl 9 rfl
          by_cases hkt : k < body.length
          · obtain ⟨gx, hgx, hcx, hfx, hst⟩ := sep_boAt (i := 0) (j := k) HS.out rfl (by rw [HLL.out]; exact hkt)
            have HGX := Lib.hid hgx
            obtain ⟨zb, HZB⟩ : ∃ z, Hid (L[k]'(by rw [HLL.out]; exact hkt) = z) := ⟨_, Lib.hid rfl⟩
            rw [HZB.out] at hcx
            obtain ⟨zb', hzb⟩ := u8_succ zb
            have HST := Lib.hid (hst zb')
            have HZZ := Lib.hid hzb
            subst hgx
            clear hst hzb HGX
            have i0 : (0 : Int) ≤ (k : Int) := by omega
            have i1 : (k : Int) < (body.length : Int) := by omega
            go_wp2_with fail
            go_roundw
            case rel =>
              refine ⟨k + 1, L.set k zb', by omega, by go_num, Lib.hid (by rw [List.length_set]; exact HLL.out), Lib.hid ?_⟩
              rw [HZZ.out]
              exact HST.out
            case measure => simp [intOf]; omega
          · have t1 := run_str (c := c) (HS.out.has HA.out)
            rw [HN.out] at t1
            go_wp2_with fail
            clear t1 k9
            refine (awake5 _ (HT.out.below HS.out.bel HT.out.lt)).mono ?_
            rintro e w6 ⟨rfl, hb6⟩
            go_wp2_with fail
            go_ret
            exact ⟨rfl, HS.out.bel.trans (hb6.mono HS.out.size)⟩
end Go.Proofs.YtcjafbpgjlcdpaaDoor
