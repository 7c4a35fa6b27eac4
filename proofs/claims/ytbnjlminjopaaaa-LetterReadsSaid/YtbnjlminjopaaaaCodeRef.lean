/- The walks of the reference of layer 2: digits, Short, Text, Wide. -/
import Derived.Test.YtbnjlminjopaaaaCodeW3
import Derived.Test.YtbnjlminjopaaaaCodeNum
namespace Go.Proofs.Ytbnjlminjopaaaa
open Go Go.RowKit
set_option linter.unusedVariables false
set_option maxRecDepth 100000

/-- digits to a base, the lowest first -/
def digsF : Nat → Nat → Nat → List Nat
  | 0, b, x => [x % b]
  | n + 1, b, x => if x < b then [x % b] else x % b :: digsF n b (x / b)
def digs (b x : Nat) : List Nat := digsF 64 b x
theorem digsF_more (n m b x : Nat) (hb : 0 < b) (hn : x < b ^ (n + 1)) (hm : x < b ^ (m + 1)) : digsF n b x = digsF m b x := by
  induction n generalizing m x with
  | zero =>
    cases m with
    | zero => rfl
    | succ m => rw [digsF, digsF, if_pos (by simpa using hn)]
  | succ n ih =>
    cases m with
    | zero => rw [digsF, digsF, if_pos (by simpa using hm)]
    | succ m =>
      rw [digsF, digsF]
      by_cases h : x < b
      · rw [if_pos h, if_pos h]
      · rw [if_neg h, if_neg h, ih m (x / b) ((Nat.div_lt_iff_lt_mul hb).2 (by rw [Nat.pow_succ] at hn; exact hn)) ((Nat.div_lt_iff_lt_mul hb).2 (by rw [Nat.pow_succ] at hm; exact hm))]
theorem big_pow (b : Nat) (hb : 128 ≤ b) (n : Nat) (hn : 10 ≤ n) : (18446744073709551616 : Nat) ≤ b ^ n := by
  have h1 : (18446744073709551616 : Nat) ≤ 128 ^ 10 := Code.pow10
  have h2 : 128 ^ 10 ≤ b ^ 10 := Nat.pow_le_pow_left hb 10
  have h3 : b ^ 10 ≤ b ^ n := Nat.pow_le_pow_right (by omega) hn
  omega
theorem digs_small (b x : Nat) (h : x < b) : digs b x = [x % b] := by unfold digs; rw [digsF, if_pos h]
theorem digs_great (b x : Nat) (hb : 128 ≤ b) (h : b ≤ x) (hx : x < 18446744073709551616) : digs b x = x % b :: digs b (x / b) := by
  unfold digs
  rw [digsF, if_neg (by omega)]
  congr 1
  have h1 := big_pow b hb 64 (by omega)
  have h2 := big_pow b hb 65 (by omega)
  have h3 : x / b ≤ x := Nat.div_le_self _ _
  exact digsF_more 63 64 b (x / b) (by omega) (Nat.lt_of_le_of_lt h3 (Nat.lt_of_lt_of_le hx h1)) (Nat.lt_of_le_of_lt h3 (Nat.lt_of_lt_of_le hx h2))
theorem digsF_length (n b x : Nat) : 1 ≤ (digsF n b x).length ∧ (digsF n b x).length ≤ n + 1 := by
  induction n generalizing x with
  | zero => simp [digsF]
  | succ n ih =>
    rw [digsF]
    split
    · simp
    · have := ih (x / b); simp; omega
theorem digsF_lt (n b x : Nat) (hb : 0 < b) : ∀ d ∈ digsF n b x, d < b := by
  induction n generalizing x with
  | zero => intro d hd; simp [digsF] at hd; subst hd; exact Nat.mod_lt _ hb
  | succ n ih =>
    intro d hd
    rw [digsF] at hd
    split at hd
    · simp at hd; subst hd; exact Nat.mod_lt _ hb
    · rcases List.mem_cons.1 hd with rfl | hd
      · exact Nat.mod_lt _ hb
      · exact ih _ d hd
/-- digits with their marks -/
def marked : List Nat → List UInt8
  | [] => []
  | [d] => [UInt8.ofNat d]
  | d :: e :: r => UInt8.ofNat (d + 128) :: marked (e :: r)
theorem marked_length (l : List Nat) : (marked l).length = l.length := by
  induction l with
  | nil => rfl
  | cons d r ih => cases r with
    | nil => rfl
    | cons e r => rw [marked, List.length_cons, ih]; rfl
theorem marked_at (l : List Nat) (k : Nat) (hk : k < l.length) : (marked l)[k]'(by rw [marked_length]; exact hk) = UInt8.ofNat (l[k] + if k + 1 < l.length then 128 else 0) := by
  induction l generalizing k with
  | nil => simp at hk
  | cons d r ih => cases r with
    | nil =>
      have : k = 0 := by simp at hk; omega
      subst this
      simp [marked]
    | cons e r =>
      cases k with
      | zero => simp [marked]
      | succ k =>
        have := ih k (by simpa using hk)
        simp only [marked, List.getElem_cons_succ, this, List.length_cons]
        congr 2
        by_cases h : k + 1 < r.length + 1
        · rw [if_pos h, if_pos (by omega)]
        · rw [if_neg h, if_neg (by omega)]
theorem shortF_marked (n x : Nat) (h : x < 128 ^ (n + 1)) : Code.shortF n x = marked (digsF n 128 x) := by
  induction n generalizing x with
  | zero => rw [Code.shortF, digsF, marked, Nat.mod_eq_of_lt (by simpa using h)]
  | succ n ih =>
    rw [Code.shortF, digsF]
    by_cases hx : x < 128
    · rw [if_pos hx, if_pos hx, marked, Nat.mod_eq_of_lt hx]
    · rw [if_neg hx, if_neg hx, ih (x / 128) (by rw [Nat.pow_succ] at h; omega)]
      obtain ⟨d, r, hd⟩ : ∃ d r, digsF n 128 (x / 128) = d :: r := by
        cases h5 : digsF n 128 (x / 128) with
        | nil => have := (digsF_length n 128 (x / 128)).1; rw [h5] at this; simp at this
        | cons d r => exact ⟨d, r, rfl⟩
      rw [hd, marked]
theorem short_marked (x : Nat) (hx : x < 18446744073709551616) : Code.short x = marked (digs 128 x) := by
  have hp := Code.pow10
  have h2 := big_pow 128 (by omega) 65 (by omega)
  unfold Code.short digs
  rw [shortF_marked 10 x (by rw [Nat.pow_succ]; omega), digsF_more 10 64 128 x (by omega) (by rw [Nat.pow_succ]; omega) (by omega)]

theorem info_u64 : (Try.prog.info? 22).map (fun i => (i.zero, i.size, i.bytes)) = some (some (.int .u64 0), 1, 8) := by kernel_rfl
/-- a row of numbers of the call's own -/
def OwnU (w : World) (base : Nat) (v : Value) (l : List Nat) : Prop := w.ownsRow base 22 1 v l.length (u64s l)
theorem OwnU.form {w : World} {base : Nat} {v : Value} {l : List Nat} (h : OwnU w base v l) : ∃ A c, v = .slice A l.length c ∧ l.length ≤ c ∧ c ≤ maxLen ∧ Has w w.heap.size A (u64s l) := by
  have h0 := h
  rcases h.2 with ⟨rfl, hn⟩ | ⟨g, cap, cur, rfl, _, _, hnc, hm, _⟩
  · refine ⟨none, 0, by rw [hn], by omega, by unfold maxLen; omega, ?_⟩
    rw [List.eq_nil_of_length_eq_zero hn]
    exact Has.nil
  · exact ⟨_, cap, rfl, hnc, hm, Has.of_own h0⟩
theorem wp_app_u64s {w : World} {ops : Array Oper} {rest : List Oper} {o : Oper} {a : Act} {Q : Exit → Act → World → Prop} {s x : Operand} {base B c : Nat} {v : Value} {A : Option Addr} {l m : List Nat} (hgd : o.guard = none)
    (ho : o.op = .call { callee := .builtin .append, args := #[s, x], argTypes := #[28, 28] }) (hs : a.eval s = v) (hx : a.eval x = .slice A m.length c)
    (hown : OwnU w base v l) (hr : Has w B A (u64s m)) (hlen : l.length + m.length ≤ 1000000000000) (hbase : base ≤ w.heap.size)
    (h : ∀ v' w', OwnU w' base v' (l ++ m) → Below base w w' → w.grownBy w' v.ownBlock → (v'.ownBlock = v.ownBlock ∨ v'.ownBlock = some w.heap.size) → wpList Try.prog ops Q rest (a.put o.dst v') w') : wpList Try.prog ops Q (o :: rest) a w := by
  obtain ⟨i0, hi, hz0, hz1, hz2⟩ := info_parts info_u64
  refine wpList_append_has w hgd s x _ ho base 22 i0 _ 1 8 Try.underlying28 hi hz0 hz1 hz2 rfl (by omega) v l.length (u64s l) hs hown B A m.length c (u64s m) hx (by rw [u64s_length, Nat.mul_one]) hr (fun u hu => by obtain ⟨z, _, rfl⟩ := List.mem_map.1 hu; rfl) (by unfold maxLen; omega) (by omega) hbase ?_
  intro v' w' h1 h2 h3
  refine h v' w' (by unfold OwnU; rw [List.length_append, show u64s (l ++ m) = u64s l ++ u64s m by simp [u64s]]; exact h1) ((Below.refl _ _).grown h2 hbase (fun k hk => (hown.lt k hk).1)) h2 h3

end Go.Proofs.Ytbnjlminjopaaaa
