/- The walks of package sum and of its reference: Open. -/
import Derived.Test.YtcjafbpgjlcdpaaDoorSum2
import Derived.BigQuiet
import Derived.Deep.QuietTactic
namespace Go.Proofs.YtcjafbpgjlcdpaaDoor
open Go Go.RowKit

/-- four bytes at the end -/
theorem last4 (l : List UInt8) (h : 4 ≤ l.length) : ∃ (m : List UInt8) (a b c d : UInt8), l = m ++ [a, b, c, d] := by
  refine ⟨l.take (l.length - 4), l[l.length - 4], l[l.length - 3], l[l.length - 2], l[l.length - 1], ?_⟩
  have h1 : l.drop (l.length - 4) = [l[l.length - 4], l[l.length - 3], l[l.length - 2], l[l.length - 1]] := by
    apply List.ext_getElem
    · simp; omega
    · intro i h1 h2
      simp at h2
      match i, h2 with
      | 0, _ => simp
      | 1, _ => simp; congr 1; omega
      | 2, _ => simp; congr 1; omega
      | 3, _ => simp; congr 1; omega
  rw [← h1, List.take_append_drop]
theorem opened_iff (m : List UInt8) (a b c d : UInt8) : Crc.opened (m ++ [a, b, c, d]) = if Crc.of m = Crc.word a b c d then some m else none := by
  have h1 : (m ++ [a, b, c, d]).take ((m ++ [a, b, c, d]).length - 4) = m := by simp
  unfold Crc.opened
  rw [h1]
  by_cases h : Crc.of m = Crc.word a b c d
  · rw [if_pos h, if_pos]
    refine ⟨by simp, ?_⟩
    unfold Crc.sealed
    rw [h, Crc.le4_word]
  · rw [if_neg h, if_neg]
    rintro ⟨_, h2⟩
    unfold Crc.sealed at h2
    have h3 := List.append_cancel_left h2
    rw [← Crc.le4_word a b c d] at h3
    exact h (Crc.le4_inj (Crc.of_lt m) (Crc.word_lt a b c d) h3)

theorem or_word (a b c d : UInt8) : bits .or .u32 (bits .or .u32 (bits .or .u32 (a.toNat : Int) ((b.toNat : Int) * 256)) ((c.toNat : Int) * 65536)) ((d.toNat : Int) * 16777216) = (Crc.word a b c d : Int) := by
  have ha := a.toNat_lt
  have hb := b.toNat_lt
  have hc := c.toNat_lt
  have hd := d.toNat_lt
  have e1 : a.toNat ||| b.toNat * 256 = a.toNat + b.toNat * 256 := by rw [Nat.or_comm, nat_join 8 _ _ (by omega) (by omega)]; omega
  have e2 : (a.toNat + b.toNat * 256) ||| c.toNat * 65536 = a.toNat + b.toNat * 256 + c.toNat * 65536 := by rw [Nat.or_comm, nat_join 16 _ _ (by omega) (by omega)]; omega
  have e3 : (a.toNat + b.toNat * 256 + c.toNat * 65536) ||| d.toNat * 16777216 = a.toNat + b.toNat * 256 + c.toNat * 65536 + d.toNat * 16777216 := by rw [Nat.or_comm, nat_join 24 _ _ (by omega) (by omega)]; omega
  rw [show ((b.toNat : Int) * 256) = ((b.toNat * 256 : Nat) : Int) by omega, show ((c.toNat : Int) * 65536) = ((c.toNat * 65536 : Nat) : Int) by omega, show ((d.toNat : Int) * 16777216) = ((d.toNat * 16777216 : Nat) : Int) by omega]
  rw [u32_or_nat _ _ (by omega) (by omega), e1, u32_or_nat _ _ (by omega) (by omega), e2, u32_or_nat _ _ (by omega) (by omega), e3]
  unfold Crc.word
  omega

set_option maxHeartbeats 400000 in
theorem open_short (w : World) (A : Option Addr) (c : Nat) (n : Nat) (hn : n < 4) :
    Calls Tryd.prog 31 #[.slice A n c] w fun e w' => e = .returned (.tuple #[.slice none 0 0, .bool false]) ∧ w = w' := by
  go_enter Tryd.func31, Tryd.ntmps31
  go_wp2
  go_ret2
  exact ⟨rfl, rfl⟩

set_option maxHeartbeats 400000 in
theorem open_long (w : World) (hT : Table w) (B : Nat) (A : Option Addr) (cap : Nat) (m : List UInt8) (a b c d : UInt8) (h : Has w B A (us (m ++ [a, b, c, d]))) (hB : B ≤ w.heap.size) (hc : m.length + 4 ≤ cap) (hm : cap ≤ maxLen) (hl : m.length ≤ 1000000000)
    (yes : Crc.of m = Crc.word a b c d) :
    Calls Tryd.prog 31 #[.slice A (m.length + 4) cap] w fun e w' => ∃ v, e = .returned (.tuple #[v, .bool true]) ∧ Own w' w.heap.size v m ∧ Below w.heap.size w w' := by
  obtain ⟨g, o, rfl, hg, c0⟩ := h.at_ (show m.length < (us (m ++ [a, b, c, d])).length by rw [us_length]; simp)
  have c1 := h (m.length + 1) (.int .u8 (b.toNat : Int)) (by simp [us])
  have c2 := h (m.length + 2) (.int .u8 (c.toNat : Int)) (by simp [us])
  have c3 := h (m.length + 3) (.int .u8 (d.toNat : Int)) (by simp [us])
  simp only [Option.some.injEq, Addr.mk.injEq, and_true] at c1 c2 c3
  obtain ⟨_, _, ⟨rfl, rfl⟩, _, c1⟩ := c1
  obtain ⟨_, _, ⟨rfl, rfl⟩, _, c2⟩ := c2
  obtain ⟨_, _, ⟨rfl, rfl⟩, _, c3⟩ := c3
  have hx : (us (m ++ [a, b, c, d]))[m.length]'(by rw [us_length]; simp) = .int .u8 (a.toNat : Int) := by simp [us]
  rw [hx] at c0
  clear hx
  have ha := a.toNat_lt
  have hb := b.toNat_lt
  have hc' := c.toNat_lt
  have hd := d.toNat_lt
  have HT := Lib.hid hT
  clear hT
  have i0 : (0 : Int) ≤ (m.length : Int) := by omega
  have i1 : (m.length : Int) < (m.length : Int) + 4 := by omega
  have HM := Lib.hid (show Has w B (some ⟨g, o, none⟩) (us m) by
    have := h.take m.length
    rwa [us_append, List.take_left' (us_length m)] at this)
  clear h
  have e1 := or_word a b c d
  have hw := Crc.word_lt a b c d
  have HY := Lib.hid yes
  clear yes
  generalize Crc.word a b c d = s at *
  go_enter Tryd.func31, Tryd.ntmps31
  go_wp2
  go_quiet (fail)
  go_wp2_with fail
  refine (of_one (w.drewN nq) HT.out B _ cap m HM.out hB (by omega) hm (by omega)).mono ?_
  rintro e w' ⟨rfl, rfl⟩
  rw [HY.out]
  go_wp2_with (at_builtin; go_must (refine wp_app (c := cap) (base := w.heap.size) rfl rfl (by rfl) (by rfl) (l := []) (m := m) (Own.nil _ _) (by exact Has.alloc (w := w.drewN nq) HM.out hB _) (by simp; omega) (by simp) ?_); intro v' w1 hown1 hb1 _ _)
  go_ret2
  exact ⟨v', rfl, hown1, ((below_drewN (Below.refl _ _) nq).alloc (Nat.le_refl _) _).trans hb1⟩

set_option maxHeartbeats 400000 in
theorem open_no (w : World) (hT : Table w) (B : Nat) (A : Option Addr) (cap : Nat) (m : List UInt8) (a b c d : UInt8) (h : Has w B A (us (m ++ [a, b, c, d]))) (hB : B ≤ w.heap.size) (hc : m.length + 4 ≤ cap) (hm : cap ≤ maxLen) (hl : m.length ≤ 1000000000)
    (no : Crc.of m ≠ Crc.word a b c d) :
    Calls Tryd.prog 31 #[.slice A (m.length + 4) cap] w fun e w' => e = .returned (.tuple #[.slice none 0 0, .bool false]) ∧ Below w.heap.size w w' := by
  obtain ⟨g, o, rfl, hg, c0⟩ := h.at_ (show m.length < (us (m ++ [a, b, c, d])).length by rw [us_length]; simp)
  have c1 := h (m.length + 1) (.int .u8 (b.toNat : Int)) (by simp [us])
  have c2 := h (m.length + 2) (.int .u8 (c.toNat : Int)) (by simp [us])
  have c3 := h (m.length + 3) (.int .u8 (d.toNat : Int)) (by simp [us])
  simp only [Option.some.injEq, Addr.mk.injEq, and_true] at c1 c2 c3
  obtain ⟨_, _, ⟨rfl, rfl⟩, _, c1⟩ := c1
  obtain ⟨_, _, ⟨rfl, rfl⟩, _, c2⟩ := c2
  obtain ⟨_, _, ⟨rfl, rfl⟩, _, c3⟩ := c3
  have hx : (us (m ++ [a, b, c, d]))[m.length]'(by rw [us_length]; simp) = .int .u8 (a.toNat : Int) := by simp [us]
  rw [hx] at c0
  clear hx
  have ha := a.toNat_lt
  have hb := b.toNat_lt
  have hc' := c.toNat_lt
  have hd := d.toNat_lt
  have HT := Lib.hid hT
  clear hT
  have i0 : (0 : Int) ≤ (m.length : Int) := by omega
  have i1 : (m.length : Int) < (m.length : Int) + 4 := by omega
  have HM := Lib.hid (show Has w B (some ⟨g, o, none⟩) (us m) by
    have := h.take m.length
    rwa [us_append, List.take_left' (us_length m)] at this)
  clear h
  have e1 := or_word a b c d
  have hw := Crc.word_lt a b c d
  have HN : ((Crc.of m : Int) != (Crc.word a b c d : Int)) = true := by simp; omega
  clear no
  generalize Crc.word a b c d = s at *
  go_enter Tryd.func31, Tryd.ntmps31
  go_wp2
  go_quiet (fail)
  go_wp2_with fail
  refine (of_one (w.drewN nq) HT.out B _ cap m HM.out hB (by omega) hm (by omega)).mono ?_
  rintro e w' ⟨rfl, rfl⟩
  go_wp2
  go_ret2
  exact ⟨rfl, (below_drewN (Below.refl _ _) nq).alloc (Nat.le_refl _) _⟩

/-- what Open answers, of whatever bytes -/
def Opens (w : World) (l : List UInt8) (e : Ending) (w' : World) : Prop :=
  (∃ m v, Crc.opened l = some m ∧ e = .returned (.tuple #[v, .bool true]) ∧ Own w' w.heap.size v m ∧ Below w.heap.size w w') ∨
  (Crc.opened l = none ∧ e = .returned (.tuple #[.slice none 0 0, .bool false]) ∧ Below w.heap.size w w')
theorem open_any (w : World) (hT : Table w) (B : Nat) (A : Option Addr) (cap : Nat) (l : List UInt8) (h : Has w B A (us l)) (hB : B ≤ w.heap.size) (hc : l.length ≤ cap) (hm : cap ≤ maxLen) (hl : l.length ≤ 1000000000) :
    Calls Tryd.prog 31 #[.slice A l.length cap] w (Opens w l) := by
  rcases Nat.lt_or_ge l.length 4 with h4 | h4
  · refine (open_short w A cap l.length h4).mono fun e w' ⟨he, hw⟩ => .inr ⟨?_, he, by subst hw; exact Below.refl _ _⟩
    unfold Crc.opened
    rw [if_neg (by omega)]
  · obtain ⟨m, a, b, c, d, rfl⟩ := last4 l h4
    have hlen : (m ++ [a, b, c, d]).length = m.length + 4 := by simp
    rw [hlen] at hc hl ⊢
    by_cases yes : Crc.of m = Crc.word a b c d
    · exact (open_long w hT B A cap m a b c d h hB hc hm (by omega) yes).mono fun e w' ⟨v, he, ho, hb⟩ => .inl ⟨m, v, by rw [opened_iff, if_pos yes], he, ho, hb⟩
    · exact (open_no w hT B A cap m a b c d h hB hc hm (by omega) yes).mono fun e w' ⟨he, hb⟩ => .inr ⟨by rw [opened_iff, if_neg yes], he, hb⟩

set_option maxHeartbeats 400000 in
theorem refOpen_short (w : World) (A : Option Addr) (c : Nat) (n : Nat) (hn : n < 4) :
    Calls Tryd.prog 37 #[.slice A n c] w fun e w' => e = .returned (.tuple #[.slice none 0 0, .bool false]) ∧ w = w' := by
  go_enter Tryd.func37, Tryd.ntmps37
  go_wp2
  go_ret2
  exact ⟨rfl, rfl⟩

set_option maxHeartbeats 400000 in
theorem refOpen_any (w : World) (B : Nat) (A : Option Addr) (cap : Nat) (l : List UInt8) (h : Has w B A (us l)) (hB : B ≤ w.heap.size) (hc : l.length ≤ cap) (hl : l.length ≤ 1000000000) :
    Calls Tryd.prog 37 #[.slice A l.length cap] w (Opens w l) := by
  rcases Nat.lt_or_ge l.length 4 with h4 | h4
  · refine (refOpen_short w A cap l.length h4).mono fun e w' ⟨he, hw⟩ => .inr ⟨?_, he, by subst hw; exact Below.refl _ _⟩
    unfold Crc.opened
    rw [if_neg (by omega)]
  · have hT : Has w B A (us (l.take (l.length - 4))) := by rw [us_take]; exact h.take _
    have HO := Lib.hid (show Crc.opened l = if Crc.sealed (l.take (l.length - 4)) = l then some (l.take (l.length - 4)) else none by
      unfold Crc.opened
      by_cases e : Crc.sealed (l.take (l.length - 4)) = l
      · rw [if_pos ⟨h4, e⟩, if_pos e]
      · rw [if_neg (fun x => e x.2), if_neg e])
    have hlen : (l.take (l.length - 4)).length = l.length - 4 := by simp
    generalize hm' : l.take (l.length - 4) = m at *
    have HM := Lib.hid hm'
    clear hm'
    obtain ⟨n, hn⟩ : ∃ n, l.length = n + 4 := ⟨l.length - 4, by omega⟩
    have hmn : m.length = n := by omega
    subst hmn
    have HN := Lib.hid hn
    rw [hn] at hc hl ⊢
    clear hlen hn h4
    go_enter Tryd.func37, Tryd.ntmps37
    go_wp2_with fail
    refine (refSeal_any w B A cap m hT hB (by omega)).mono ?_
    rintro e w1 ⟨v, rfl, ho, hb⟩
    obtain ⟨A1, c1, rfl, hc1, hm1, h1⟩ := ho.form
    clear ho
    go_wp2_with fail
    have hs := same_any w1 w1.heap.size A1 A c1 cap (Crc.sealed m) l h1 ((h.below (hb.mono hB)).more (Nat.le_trans hB hb.size))
    rw [HN.out] at hs
    refine hs.mono ?_
    rintro e w2 ⟨rfl, rfl⟩
    by_cases yes : Crc.sealed m = l
    · have HO' := Lib.hid (HO.out.trans (if_pos yes))
      have hd : decide (Crc.sealed m = l) = true := by simpa using yes
      clear yes HO
      go_wp2_with fail
      refine (copy_any w1 B A cap m (hT.below (hb.mono hB)) (Nat.le_trans hB hb.size) (by omega)).mono ?_
      rintro e w3 ⟨v3, rfl, ho3, hb3⟩
      go_wp2
      go_ret2
      exact .inl ⟨m, v3, HO'.out, rfl, own_mono ho3 hb.size, hb.trans (hb3.mono hb.size)⟩
    · have HO' := Lib.hid (HO.out.trans (if_neg yes))
      have hd : decide (Crc.sealed m = l) = false := by simpa using yes
      clear yes HO
      go_wp2
      go_ret2
      exact .inr ⟨HO'.out, rfl, hb⟩
end Go.Proofs.YtcjafbpgjlcdpaaDoor
