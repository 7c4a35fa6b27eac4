/- A nil link, and one that New did not make: what its methods answer. -/
import Derived.Test.YtngegjboenfmeaaSepCe
import Derived.Test.YtngegjboenfmeaaRgF
import Derived.Test.YtngegjboenfmeaaPrc
import Derived.Test.YtngegjboenfmeaaFrm
namespace Go.Proofs.Ytngegjboenfmeaa
open Go Go.RowKit
set_option linter.unusedVariables false
set_option maxRecDepth 100000
set_option linter.unusedSimpArgs false

/-- a link that New did not make -/
def NoLk (w : World) (p : Option Addr) : Prop := p = none ∨ ∃ g, p = some ⟨g, 0, none⟩ ∧ g < w.heap.size ∧ w.cell? ⟨g, 3, none⟩ = some (.int .i64 0)
theorem NoLk.below {w w' : World} {p : Option Addr} (h : NoLk w p) (hb : Below w.heap.size w w') : NoLk w' p := by
  rcases h with h | ⟨g, h1, h2, h3⟩
  · exact .inl h
  · exact .inr ⟨g, h1, Nat.lt_of_lt_of_le h2 hb.size, (hb.cell (p := ⟨g, 3, none⟩) h2).trans h3⟩
theorem NoLk.alloc {w : World} {p : Option Addr} (h : NoLk w p) (o : Obj) : NoLk (w.alloc o) p := h.below ((Below.refl _ _).alloc (Nat.le_refl _) _)
def NoAns (v : Value) : Prop := v = .agg #[.slice none 0 0, .slice none 0 0]
theorem made_no (w : World) (p : Option Addr) (h : NoLk w p) : Calls Try.prog 33 #[.pointer p] w fun e w' => e = .returned (.bool false) ∧ Below w.heap.size w w' := by
  rcases h with rfl | ⟨g, rfl, hlt, k3⟩
  · go_enter Try.func33, Try.ntmps33
    go_wp2_with fail
    go_ret
    exact ⟨rfl, Below.refl _ _⟩
  · go_enter Try.func33, Try.ntmps33
    go_wp2_with fail
    go_ret
    exact ⟨rfl, Below.refl _ _⟩
theorem up_no (w : World) (p : Option Addr) (h : NoLk w p) : Calls Try.prog 12 #[.pointer p] w fun e w' => e = .returned (.bool false) ∧ Below w.heap.size w w' := by
  go_enter Try.func12, Try.ntmps12
  go_wp2_with fail
  refine (made_no w p h).mono ?_
  rintro e w1 ⟨rfl, hb1⟩
  go_wp2_with fail
  go_ret
  exact ⟨rfl, hb1⟩
theorem conns_no (w : World) (p : Option Addr) (h : NoLk w p) : Calls Try.prog 13 #[.pointer p] w fun e w' => e = .returned (.tuple #[.int .u64 0, .int .u64 0]) ∧ Below w.heap.size w w' := by
  go_enter Try.func13, Try.ntmps13
  go_wp2_with fail
  refine (made_no w p h).mono ?_
  rintro e w1 ⟨rfl, hb1⟩
  go_wp2_with fail
  go_ret2
  exact ⟨rfl, hb1⟩
theorem waits_no (w : World) (p : Option Addr) (h : NoLk w p) : Calls Try.prog 23 #[.pointer p] w fun e w' => e = .returned (.int .i64 0) ∧ Below w.heap.size w w' := by
  go_enter Try.func23, Try.ntmps23
  go_wp2_with fail
  refine (made_no w p h).mono ?_
  rintro e w1 ⟨rfl, hb1⟩
  go_wp2_with fail
  go_ret
  exact ⟨rfl, hb1⟩
theorem peer_no (w : World) (p : Option Addr) (h : NoLk w p) : Calls Try.prog 24 #[.pointer p] w fun e w' => e = .returned (.agg #[.int .i64 0, .int .u64 0]) ∧ Below w.heap.size w w' := by
  have HS0 := Lib.hid (show Sep w (w.alloc (.cells #[.int .i64 0, .int .u64 0] 46)) [Ce w.heap.size 46 #[.int .i64 0, .int .u64 0]] from sep_ce (Sep.nil w) _ _)
  have H := Lib.hid (h.alloc (.cells #[.int .i64 0, .int .u64 0] 46))
  clear h
  go_enter Try.func24, Try.ntmps24
  go_wp2_with fail
  refine (made_no _ p H.out).mono ?_
  rintro e w1 ⟨rfl, hb1⟩
  have HS1 := Lib.hid (HS0.out.grow hb1)
  clear HS0 hb1 H
  have k0 := sep_ceAt (i := 0) HS1.out rfl 0 rfl
  have k1 := sep_ceAt (i := 0) HS1.out rfl 1 rfl
  have y0 := sep_ceFrozen (i := 0) HS1.out rfl 0
  have y1 := sep_ceFrozen (i := 0) HS1.out rfl 1
  go_wp2_with fail
  have hs2 := sep_ceSet (i := 0) HS1.out rfl 0 (.int .i64 0)
  have hs3 := sep_ceSet (i := 0) hs2 rfl 1 (.int .u64 0)
  refine bodyPost_ret (v := .agg #[.int .i64 0, .int .u64 0]) (by simp [results, Try.results24, go_sem, k0, k1]) rfl ?_
  exact ⟨rfl, hs3.bel⟩
theorem send_no (w : World) (p : Option Addr) (now : Nat) (A : Option Addr) (n c : Nat) (h : NoLk w p) : Calls Try.prog 21 #[.pointer p, .int .u64 (now : Int), .slice A n c] w fun e w' => e = .returned (.tuple #[.agg #[.slice none 0 0, .slice none 0 0], .int .i64 7]) ∧ Below w.heap.size w w' := by
  have HS0 := Lib.hid (show Sep w (w.alloc (.cells #[.slice none 0 0, .slice none 0 0] 43)) [Ce w.heap.size 43 #[.slice none 0 0, .slice none 0 0]] from sep_ce (Sep.nil w) _ _)
  have H := Lib.hid (h.alloc (.cells #[.slice none 0 0, .slice none 0 0] 43))
  clear h
  go_enter Try.func21, Try.ntmps21
  go_wp2_with fail
  refine (made_no _ p H.out).mono ?_
  rintro e w1 ⟨rfl, hb1⟩
  have HS1 := Lib.hid (HS0.out.grow hb1)
  clear HS0 hb1 H
  have k0 := sep_ceAt (i := 0) HS1.out rfl 0 rfl
  have k1 := sep_ceAt (i := 0) HS1.out rfl 1 rfl
  have y0 := sep_ceFrozen (i := 0) HS1.out rfl 0
  have y1 := sep_ceFrozen (i := 0) HS1.out rfl 1
  go_wp2_with fail
  have hs2 := sep_ceSet (i := 0) HS1.out rfl 0 (.slice none 0 0)
  have hs3 := sep_ceSet (i := 0) hs2 rfl 1 (.slice none 0 0)
  refine bodyPost_ret (v := .tuple #[.agg #[.slice none 0 0, .slice none 0 0], .int .i64 7]) (by simp [results, Try.results21, go_sem, k0, k1]) rfl ?_
  exact ⟨rfl, hs3.bel⟩
set_option maxHeartbeats 1600000 in
theorem tick_no (w : World) (p : Option Addr) (now : Nat) (h : NoLk w p) : Calls Try.prog 14 #[.pointer p, .int .u64 (now : Int)] w fun e w' => e = .returned (.agg #[.slice none 0 0, .slice none 0 0]) ∧ Below w.heap.size w w' := by
  have HS0 := Lib.hid (show Sep w (((w.alloc (.cells #[.pointer p] 26)).alloc (.cells #[.slice none 0 0, .slice none 0 0] 43)).alloc (.cells #[.slice none 0 0, .slice none 0 0] 43)) [Ce w.heap.size 26 #[.pointer p], Ce (w.heap.size + 1) 43 #[.slice none 0 0, .slice none 0 0], Ce (w.heap.size + 1 + 1) 43 #[.slice none 0 0, .slice none 0 0]] by
    have := sep_ce (sep_ce (sep_ce (Sep.nil w) #[.pointer p] 26) #[.slice none 0 0, .slice none 0 0] 43) #[.slice none 0 0, .slice none 0 0] 43
    simp only [World.size_alloc] at this
    exact this)
  have H := Lib.hid (h.below HS0.out.bel)
  clear h
  go_enter Try.func14, Try.ntmps14
  go_wp2_with fail
  refine (made_no _ p H.out).mono ?_
  rintro e w1 ⟨rfl, hb1⟩
  have HS1 := Lib.hid (HS0.out.grow hb1)
  clear HS0 hb1 H
  have k0 := sep_ceAt (i := 1) HS1.out rfl 0 rfl
  have y0 := sep_ceFrozen (i := 1) HS1.out rfl 0
  have z0 := sep_ceAt (i := 2) HS1.out rfl 0 rfl
  have k1 := sep_ceAt (i := 1) HS1.out rfl 1 rfl
  have y1 := sep_ceFrozen (i := 1) HS1.out rfl 1
  have z1 := sep_ceAt (i := 2) HS1.out rfl 1 rfl
  go_wp2_with fail
  have hs2 := sep_ceSet (i := 1) HS1.out rfl 0 (.slice none 0 0)
  have hs3 := sep_ceSet (i := 1) hs2 rfl 1 (.slice none 0 0)
  refine bodyPost_ret (v := .agg #[.slice none 0 0, .slice none 0 0]) (by simp [results, Try.results14, go_sem, k0, k1]) rfl ?_
  exact ⟨rfl, hs3.bel⟩
set_option maxHeartbeats 3200000 in
theorem take_no (w : World) (p : Option Addr) (now : Nat) (ka kb kc : Int) (n1 n2 n3 n4 n5 n6 : Nat) (A : Option Addr) (n c : Nat) (h : NoLk w p) : Calls Try.prog 15 #[.pointer p, .int .u64 (now : Int), .agg #[.int .i64 ka, .int .i64 kb, .int .i64 kc, .int .u64 (n1 : Int), .int .u64 (n2 : Int), .int .u64 (n3 : Int), .int .u64 (n4 : Int), .int .u64 (n5 : Int), .int .u64 (n6 : Int), .slice A n c]] w fun e w' => e = .returned (.agg #[.slice none 0 0, .slice none 0 0]) ∧ Below w.heap.size w w' := by
  have HNO := Lib.hid h
  clear h
  have HS0 := Lib.hid (show Sep w (((((w.alloc (.cells #[.pointer p] 26)).alloc (.cells #[.int .u64 (now : Int)] 28)).alloc (.cells #[.int .i64 ka, .int .i64 kb, .int .i64 kc, .int .u64 (n1 : Int), .int .u64 (n2 : Int), .int .u64 (n3 : Int), .int .u64 (n4 : Int), .int .u64 (n5 : Int), .int .u64 (n6 : Int), .slice A n c] 51)).alloc (.cells #[.slice none 0 0, .slice none 0 0] 43)).alloc (.cells #[.slice none 0 0, .slice none 0 0] 43)) [Ce w.heap.size 26 #[.pointer p], Ce (w.heap.size + 1 + 1 + 1) 43 #[.slice none 0 0, .slice none 0 0], Ce (w.heap.size + 1 + 1 + 1 + 1) 43 #[.slice none 0 0, .slice none 0 0]] by
    have := sep_ce (sep_ce (((sep_ce (Sep.nil w) #[.pointer p] 26).alloc (.cells #[.int .u64 (now : Int)] 28)).alloc (.cells #[.int .i64 ka, .int .i64 kb, .int .i64 kc, .int .u64 (n1 : Int), .int .u64 (n2 : Int), .int .u64 (n3 : Int), .int .u64 (n4 : Int), .int .u64 (n5 : Int), .int .u64 (n6 : Int), .slice A n c] 51)) #[.slice none 0 0, .slice none 0 0] 43) #[.slice none 0 0, .slice none 0 0] 43
    simp only [World.size_alloc] at this
    exact this)
  go_enter Try.func15, Try.ntmps15
  go_wp2_with fail
  refine wp_region_f (fun dn xv W => Sep w W [Ce w.heap.size 26 #[.pointer p], Ce (w.heap.size + 1 + 1 + 1) 43 #[.slice none 0 0, .slice none 0 0], Ce (w.heap.size + 1 + 1 + 1 + 1) 43 #[.slice none 0 0, .slice none 0 0]]) (fun _ _ => True) [fun v _ => v = .pointer p, fun v _ => v = .bool false, fun v _ => v = .bool true, fun v _ => v = .bool true, fun v _ => v = undef, fun v _ => v = undef, fun v _ => v = undef, fun v _ => v = .bool true, fun v _ => v = .bool true, fun v _ => v = undef, fun v _ => v = undef, fun v _ => v = undef, fun v _ => v = undef, fun v _ => v = undef, fun v _ => v = undef, fun v _ => v = undef, fun v _ => v = .bool true, fun v _ => v = .bool true, fun v _ => v = undef, fun v _ => v = undef, fun v _ => v = undef, fun v _ => v = undef, fun v _ => v = undef, fun v _ => v = undef, fun v _ => v = undef, fun v _ => v = undef, fun v _ => v = .bool true] (by kernel_rfl) (by kernel_rfl) (by kernel_rfl) (by kernel_rfl) (fun xv => by simpa using HS0.out.drew)
    (by exact ⟨fun _ _ _ _ h => h, fun _ _ _ _ h => h, fun _ _ _ _ h => h, fun _ _ _ _ h => h, fun _ _ _ _ h => h, fun _ _ _ _ h => h, fun _ _ _ _ h => h, fun _ _ _ _ h => h, fun _ _ _ _ h => h, fun _ _ _ _ h => h, fun _ _ _ _ h => h, fun _ _ _ _ h => h, fun _ _ _ _ h => h, fun _ _ _ _ h => h, fun _ _ _ _ h => h, fun _ _ _ _ h => h, fun _ _ _ _ h => h, fun _ _ _ _ h => h, fun _ _ _ _ h => h, fun _ _ _ _ h => h, fun _ _ _ _ h => h, fun _ _ _ _ h => h, fun _ _ _ _ h => h, fun _ _ _ _ h => h, fun _ _ _ _ h => h, fun _ _ _ _ h => h, fun _ _ _ _ h => h, trivial⟩) ?_ ?_
  · refine EachF.cons 1 rfl (fun dn xv W F hF hd hN hX hI H K hK => ?_) ?_
    · have f3 : F.tmps.getD 3 undef = .pointer (some ⟨w.heap.size, 0, none⟩) := (hF 3).trans (by kernel_rfl)
      have k0 := sep_ceAt (i := 0) hI rfl 0 rfl
      clear H hN hd hX hF
      refine on_plain rfl ?_
      go_simp
      exact hK.out _ _ rfl trivial (by simpa [upB, upd] using hI)
    refine EachF.cons 2 rfl (fun dn xv W F hF hd hN hX hI H K hK => ?_) ?_
    · have h0 : xv 0 = .pointer p := (H 0 (.edge (by kernel_rfl))).2
      have f16 : F.tmps.getD 16 undef = .pointer p := (hF 16).trans (Eq.trans (by kernel_rfl) h0)
      clear H hN hd hX hF
      refine on_plain rfl ?_
      go_simp
      refine (made_no W p (HNO.out.below hI.bel)).mono ?_
      rintro e W' ⟨rfl, hb⟩
      exact hK.out _ W' rfl trivial (by simpa [upB, upd] using hI.grow hb)
    refine EachF.cons 3 rfl (fun dn xv W F hF hd hN hX hI H K hK => ?_) ?_
    · have h1 : xv 1 = .bool false := (H 1 (.edge (by kernel_rfl))).2
      have f17 : F.tmps.getD 17 undef = .bool false := (hF 17).trans (Eq.trans (by kernel_rfl) h1)
      clear H hN hd hX hF
      refine on_plain rfl ?_
      go_simp
      exact hK.out _ _ rfl trivial (by simpa [upB, upd] using hI)
    refine EachF.cons 4 rfl (fun dn xv W F hF hd hN hX hI H K hK => ?_) ?_
    · have h2 : xv 2 = .bool true := (H 2 (.edge (by kernel_rfl))).2
      have f18 : F.tmps.getD 18 undef = .bool true := (hF 18).trans (Eq.trans (by kernel_rfl) h2)
      clear H hN hd hX hF
      refine on_plain rfl ?_
      go_simp
      exact hK.out _ _ rfl trivial (by simpa [upB, upd] using hI)
    refine EachF.cons 5 rfl (fun dn xv W F hF hd hN hX hI H K hK => ?_) ?_
    · have h3 : xv 3 = .bool true := (H 3 (.edge (by kernel_rfl))).2
      have f19 : F.tmps.getD 19 undef = .bool true := (hF 19).trans (Eq.trans (by kernel_rfl) h3)
      clear H hN hd hX hF
      refine off_guard rfl (by kernel_rfl) f19 (by decide) ?_
      exact hK.out _ _ rfl trivial (by simpa [upB, upd] using hI)
    refine EachF.cons 6 rfl (fun dn xv W F hF hd hN hX hI H K hK => ?_) ?_
    · have h3 : xv 3 = .bool true := (H 3 (.edge (by kernel_rfl))).2
      have f19 : F.tmps.getD 19 undef = .bool true := (hF 19).trans (Eq.trans (by kernel_rfl) h3)
      clear H hN hd hX hF
      refine off_guard rfl (by kernel_rfl) f19 (by decide) ?_
      exact hK.out _ _ rfl trivial (by simpa [upB, upd] using hI)
    refine EachF.cons 7 rfl (fun dn xv W F hF hd hN hX hI H K hK => ?_) ?_
    · have h3 : xv 3 = .bool true := (H 3 (.edge (by kernel_rfl))).2
      have f19 : F.tmps.getD 19 undef = .bool true := (hF 19).trans (Eq.trans (by kernel_rfl) h3)
      clear H hN hd hX hF
      refine off_guard rfl (by kernel_rfl) f19 (by decide) ?_
      exact hK.out _ _ rfl trivial (by simpa [upB, upd] using hI)
    refine EachF.cons 8 rfl (fun dn xv W F hF hd hN hX hI H K hK => ?_) ?_
    · have h3 : xv 3 = .bool true := (H 3 (.edge (by kernel_rfl))).2
      have f19 : F.tmps.getD 19 undef = .bool true := (hF 19).trans (Eq.trans (by kernel_rfl) h3)
      have h6 : xv 6 = undef := (H 6 (.edge (by kernel_rfl))).2
      have f22 : F.tmps.getD 22 undef = undef := (hF 22).trans (Eq.trans (by kernel_rfl) h6)
      clear H hN hd hX hF
      refine on_plain rfl ?_
      go_simp
      exact hK.out _ _ rfl trivial (by simpa [upB, upd] using hI)
    refine EachF.cons 9 rfl (fun dn xv W F hF hd hN hX hI H K hK => ?_) ?_
    · have h7 : xv 7 = .bool true := (H 7 (.edge (by kernel_rfl))).2
      have f23 : F.tmps.getD 23 undef = .bool true := (hF 23).trans (Eq.trans (by kernel_rfl) h7)
      clear H hN hd hX hF
      refine on_plain rfl ?_
      go_simp
      exact hK.out _ _ rfl trivial (by simpa [upB, upd] using hI)
    refine EachF.cons 10 rfl (fun dn xv W F hF hd hN hX hI H K hK => ?_) ?_
    · have h8 : xv 8 = .bool true := (H 8 (.edge (by kernel_rfl))).2
      have f24 : F.tmps.getD 24 undef = .bool true := (hF 24).trans (Eq.trans (by kernel_rfl) h8)
      clear H hN hd hX hF
      refine off_guard rfl (by kernel_rfl) f24 (by decide) ?_
      exact hK.out _ _ rfl trivial (by simpa [upB, upd] using hI)
    refine EachF.cons 11 rfl (fun dn xv W F hF hd hN hX hI H K hK => ?_) ?_
    · have h8 : xv 8 = .bool true := (H 8 (.edge (by kernel_rfl))).2
      have f24 : F.tmps.getD 24 undef = .bool true := (hF 24).trans (Eq.trans (by kernel_rfl) h8)
      clear H hN hd hX hF
      refine off_guard rfl (by kernel_rfl) f24 (by decide) ?_
      exact hK.out _ _ rfl trivial (by simpa [upB, upd] using hI)
    refine EachF.cons 12 rfl (fun dn xv W F hF hd hN hX hI H K hK => ?_) ?_
    · have h8 : xv 8 = .bool true := (H 8 (.edge (by kernel_rfl))).2
      have f24 : F.tmps.getD 24 undef = .bool true := (hF 24).trans (Eq.trans (by kernel_rfl) h8)
      clear H hN hd hX hF
      refine off_guard rfl (by kernel_rfl) f24 (by decide) ?_
      exact hK.out _ _ rfl trivial (by simpa [upB, upd] using hI)
    refine EachF.cons 13 rfl (fun dn xv W F hF hd hN hX hI H K hK => ?_) ?_
    · have h8 : xv 8 = .bool true := (H 8 (.edge (by kernel_rfl))).2
      have f24 : F.tmps.getD 24 undef = .bool true := (hF 24).trans (Eq.trans (by kernel_rfl) h8)
      clear H hN hd hX hF
      refine off_guard rfl (by kernel_rfl) f24 (by decide) ?_
      exact hK.out _ _ rfl trivial (by simpa [upB, upd] using hI)
    refine EachF.cons 14 rfl (fun dn xv W F hF hd hN hX hI H K hK => ?_) ?_
    · have h8 : xv 8 = .bool true := (H 8 (.edge (by kernel_rfl))).2
      have f24 : F.tmps.getD 24 undef = .bool true := (hF 24).trans (Eq.trans (by kernel_rfl) h8)
      clear H hN hd hX hF
      refine off_guard rfl (by kernel_rfl) f24 (by decide) ?_
      exact hK.out _ _ rfl trivial (by simpa [upB, upd] using hI)
    refine EachF.cons 15 rfl (fun dn xv W F hF hd hN hX hI H K hK => ?_) ?_
    · have h8 : xv 8 = .bool true := (H 8 (.edge (by kernel_rfl))).2
      have f24 : F.tmps.getD 24 undef = .bool true := (hF 24).trans (Eq.trans (by kernel_rfl) h8)
      clear H hN hd hX hF
      refine off_guard rfl (by kernel_rfl) f24 (by decide) ?_
      exact hK.out _ _ rfl trivial (by simpa [upB, upd] using hI)
    refine EachF.cons 16 rfl (fun dn xv W F hF hd hN hX hI H K hK => ?_) ?_
    · have h8 : xv 8 = .bool true := (H 8 (.edge (by kernel_rfl))).2
      have f24 : F.tmps.getD 24 undef = .bool true := (hF 24).trans (Eq.trans (by kernel_rfl) h8)
      clear H hN hd hX hF
      refine off_guard rfl (by kernel_rfl) f24 (by decide) ?_
      exact hK.out _ _ rfl trivial (by simpa [upB, upd] using hI)
    refine EachF.cons 17 rfl (fun dn xv W F hF hd hN hX hI H K hK => ?_) ?_
    · have h8 : xv 8 = .bool true := (H 8 (.edge (by kernel_rfl))).2
      have f24 : F.tmps.getD 24 undef = .bool true := (hF 24).trans (Eq.trans (by kernel_rfl) h8)
      have h15 : xv 15 = undef := (H 15 (.edge (by kernel_rfl))).2
      have f31 : F.tmps.getD 31 undef = undef := (hF 31).trans (Eq.trans (by kernel_rfl) h15)
      clear H hN hd hX hF
      refine on_plain rfl ?_
      go_simp
      exact hK.out _ _ rfl trivial (by simpa [upB, upd] using hI)
    refine EachF.cons 18 rfl (fun dn xv W F hF hd hN hX hI H K hK => ?_) ?_
    · have h16 : xv 16 = .bool true := (H 16 (.edge (by kernel_rfl))).2
      have f32 : F.tmps.getD 32 undef = .bool true := (hF 32).trans (Eq.trans (by kernel_rfl) h16)
      clear H hN hd hX hF
      refine on_plain rfl ?_
      go_simp
      exact hK.out _ _ rfl trivial (by simpa [upB, upd] using hI)
    refine EachF.cons 19 rfl (fun dn xv W F hF hd hN hX hI H K hK => ?_) ?_
    · have h17 : xv 17 = .bool true := (H 17 (.edge (by kernel_rfl))).2
      have f33 : F.tmps.getD 33 undef = .bool true := (hF 33).trans (Eq.trans (by kernel_rfl) h17)
      clear H hN hd hX hF
      refine off_guard rfl (by kernel_rfl) f33 (by decide) ?_
      exact hK.out _ _ rfl trivial (by simpa [upB, upd] using hI)
    refine EachF.cons 20 rfl (fun dn xv W F hF hd hN hX hI H K hK => ?_) ?_
    · have h17 : xv 17 = .bool true := (H 17 (.edge (by kernel_rfl))).2
      have f33 : F.tmps.getD 33 undef = .bool true := (hF 33).trans (Eq.trans (by kernel_rfl) h17)
      clear H hN hd hX hF
      refine off_guard rfl (by kernel_rfl) f33 (by decide) ?_
      exact hK.out _ _ rfl trivial (by simpa [upB, upd] using hI)
    refine EachF.cons 21 rfl (fun dn xv W F hF hd hN hX hI H K hK => ?_) ?_
    · have h17 : xv 17 = .bool true := (H 17 (.edge (by kernel_rfl))).2
      have f33 : F.tmps.getD 33 undef = .bool true := (hF 33).trans (Eq.trans (by kernel_rfl) h17)
      clear H hN hd hX hF
      refine off_guard rfl (by kernel_rfl) f33 (by decide) ?_
      exact hK.out _ _ rfl trivial (by simpa [upB, upd] using hI)
    refine EachF.cons 22 rfl (fun dn xv W F hF hd hN hX hI H K hK => ?_) ?_
    · have h17 : xv 17 = .bool true := (H 17 (.edge (by kernel_rfl))).2
      have f33 : F.tmps.getD 33 undef = .bool true := (hF 33).trans (Eq.trans (by kernel_rfl) h17)
      clear H hN hd hX hF
      refine off_guard rfl (by kernel_rfl) f33 (by decide) ?_
      exact hK.out _ _ rfl trivial (by simpa [upB, upd] using hI)
    refine EachF.cons 23 rfl (fun dn xv W F hF hd hN hX hI H K hK => ?_) ?_
    · have h17 : xv 17 = .bool true := (H 17 (.edge (by kernel_rfl))).2
      have f33 : F.tmps.getD 33 undef = .bool true := (hF 33).trans (Eq.trans (by kernel_rfl) h17)
      clear H hN hd hX hF
      refine off_guard rfl (by kernel_rfl) f33 (by decide) ?_
      exact hK.out _ _ rfl trivial (by simpa [upB, upd] using hI)
    refine EachF.cons 24 rfl (fun dn xv W F hF hd hN hX hI H K hK => ?_) ?_
    · have h17 : xv 17 = .bool true := (H 17 (.edge (by kernel_rfl))).2
      have f33 : F.tmps.getD 33 undef = .bool true := (hF 33).trans (Eq.trans (by kernel_rfl) h17)
      clear H hN hd hX hF
      refine off_guard rfl (by kernel_rfl) f33 (by decide) ?_
      exact hK.out _ _ rfl trivial (by simpa [upB, upd] using hI)
    refine EachF.cons 25 rfl (fun dn xv W F hF hd hN hX hI H K hK => ?_) ?_
    · have h17 : xv 17 = .bool true := (H 17 (.edge (by kernel_rfl))).2
      have f33 : F.tmps.getD 33 undef = .bool true := (hF 33).trans (Eq.trans (by kernel_rfl) h17)
      clear H hN hd hX hF
      refine off_guard rfl (by kernel_rfl) f33 (by decide) ?_
      exact hK.out _ _ rfl trivial (by simpa [upB, upd] using hI)
    refine EachF.cons 26 rfl (fun dn xv W F hF hd hN hX hI H K hK => ?_) ?_
    · have h17 : xv 17 = .bool true := (H 17 (.edge (by kernel_rfl))).2
      have f33 : F.tmps.getD 33 undef = .bool true := (hF 33).trans (Eq.trans (by kernel_rfl) h17)
      clear H hN hd hX hF
      refine off_guard rfl (by kernel_rfl) f33 (by decide) ?_
      exact hK.out _ _ rfl trivial (by simpa [upB, upd] using hI)
    refine EachF.cons 27 rfl (fun dn xv W F hF hd hN hX hI H K hK => ?_) ?_
    · have h17 : xv 17 = .bool true := (H 17 (.edge (by kernel_rfl))).2
      have f33 : F.tmps.getD 33 undef = .bool true := (hF 33).trans (Eq.trans (by kernel_rfl) h17)
      have h25 : xv 25 = undef := (H 25 (.edge (by kernel_rfl))).2
      have f41 : F.tmps.getD 41 undef = undef := (hF 41).trans (Eq.trans (by kernel_rfl) h25)
      clear H hN hd hX hF
      refine on_plain rfl ?_
      go_simp
      exact hK.out _ _ rfl trivial (by simpa [upB, upd] using hI)
    exact EachF.nil
  · intro dn xv W hI H
    have q26 : xv 26 = .bool true := (H 26 (of_decide_eq_true (by kernel_rfl))).2
    have hS : Sep w W [Ce w.heap.size 26 #[.pointer p], Ce (w.heap.size + 1 + 1 + 1) 43 #[.slice none 0 0, .slice none 0 0], Ce (w.heap.size + 1 + 1 + 1 + 1) 43 #[.slice none 0 0, .slice none 0 0]] := hI
    clear H hI
    simp only [putAll, Act.put, List.setIfInBounds_toArray, List.set_cons_zero, List.set_cons_succ, Nat.reduceAdd, q26]
    clear q26
    have HS1 := Lib.hid hS
    clear hS
    have k0 := sep_ceAt (i := 1) HS1.out rfl 0 rfl
    have y0 := sep_ceFrozen (i := 1) HS1.out rfl 0
    have z0 := sep_ceAt (i := 2) HS1.out rfl 0 rfl
    have k1 := sep_ceAt (i := 1) HS1.out rfl 1 rfl
    have y1 := sep_ceFrozen (i := 1) HS1.out rfl 1
    have z1 := sep_ceAt (i := 2) HS1.out rfl 1 rfl
    go_wp2_with fail
    have hs2 := sep_ceSet (i := 1) HS1.out rfl 0 (.slice none 0 0)
    have hs3 := sep_ceSet (i := 1) hs2 rfl 1 (.slice none 0 0)
    refine bodyPost_ret (v := .agg #[.slice none 0 0, .slice none 0 0]) (by simp [results, Try.results15, go_sem, k0, k1]) rfl ?_
    exact ⟨rfl, hs3.bel⟩
theorem same12_nil (w : World) : Calls Try.prog 22 #[.agg #[.slice none 0 0, .slice none 0 0], .agg #[.slice none 0 0, .slice none 0 0]] w fun e w' => e = .returned (.bool true) ∧ Below w.heap.size w w' := by
  have HB := Lib.hid ((below_box (w := w) (.cells #[.slice none 0 0, .slice none 0 0] 43)).trans (((Below.refl _ (w.alloc (.cells #[.slice none 0 0, .slice none 0 0] 43))).alloc (Nat.le_refl _) (.cells #[.slice none 0 0, .slice none 0 0] 43)).mono (by simp)))
  go_enter Try.func22, Try.ntmps22
  go_wp2_with fail
  go_loopw [5] (fun iv wr => iv = .int .i64 0 ∧ wr = ((w.alloc (.cells #[.slice none 0 0, .slice none 0 0] 43)).alloc (.cells #[.slice none 0 0, .slice none 0 0] 43))) (fun iv _ => 0)
  case atStart => exact ⟨rfl, rfl⟩
  case round =>
    obtain ⟨rfl, rfl⟩ := hrel
    go_wp2_with fail
    go_loopw [6] (fun iv wr => iv = .int .i64 0 ∧ wr = ((w.alloc (.cells #[.slice none 0 0, .slice none 0 0] 43)).alloc (.cells #[.slice none 0 0, .slice none 0 0] 43))) (fun iv _ => 0)
    case atStart => exact ⟨rfl, rfl⟩
    case round =>
      obtain ⟨rfl, rfl⟩ := hrel
      go_wp2_with fail
      go_ret
      exact ⟨rfl, HB.out⟩
end Go.Proofs.Ytngegjboenfmeaa
