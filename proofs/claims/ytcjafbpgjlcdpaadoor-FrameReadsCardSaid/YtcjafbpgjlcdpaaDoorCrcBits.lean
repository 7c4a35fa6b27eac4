/- The plain law of turned bits: which of them the sum always shows. No program in sight. -/
import Derived.Test.YtcjafbpgjlcdpaaDoorCrc
namespace Go.Proofs.YtcjafbpgjlcdpaaDoor.Crc

/-- the bit at a place is turned -/
def flip (l : List UInt8) (p : Nat) : List UInt8 := l.set (p / 8) (l.getD (p / 8) 0 ^^^ UInt8.ofNat (2 ^ (p % 8)))
def flips (l : List UInt8) (ps : List Nat) : List UInt8 := ps.foldl flip l
/-- what turned bits do to the sum of n bits -/
def marks (n : Nat) (ps : List Nat) : Nat := ps.foldr (fun p a => iter (n - p) 1 ^^^ a) 0

theorem flip_length (l : List UInt8) (p : Nat) : (flip l p).length = l.length := by simp [flip]
theorem flips_length (l : List UInt8) (ps : List Nat) : (flips l ps).length = l.length := by
  unfold flips
  induction ps generalizing l with
  | nil => rfl
  | cons p ps ih => rw [List.foldl_cons, ih, flip_length]

theorem byte_left (s t : Nat) (b : UInt8) : byte (s ^^^ t) b = byte s b ^^^ iter 8 t := by
  unfold byte
  rw [← iter_xor]
  congr 1
  ac_rfl
theorem run_left (s t : Nat) (l : List UInt8) : run (s ^^^ t) l = run s l ^^^ iter (8 * l.length) t := by
  induction l generalizing s t with
  | nil => rfl
  | cons b l ih => rw [run_cons, run_cons, byte_left, ih, ← iter_add, List.length_cons, Nat.mul_add, Nat.mul_one]
theorem iter_bit (m k : Nat) (h : k ≤ m) : iter m (2 ^ k) = iter (m - k) 1 := by
  have h1 := iter_shift k 1
  rw [Nat.mul_one] at h1
  have h2 := iter_add (m - k) k (2 ^ k)
  rw [Nat.sub_add_cancel h, h1] at h2
  exact h2
theorem run_flip (s : Nat) (l : List UInt8) (p : Nat) (h : p < 8 * l.length) : run s (flip l p) = run s l ^^^ iter (8 * l.length - p) 1 := by
  induction l generalizing s p with
  | nil => simp at h
  | cons b l ih =>
    by_cases hp : p < 8
    · have h0 : p / 8 = 0 := by omega
      have h1 : p % 8 = p := by omega
      simp only [flip, h0, h1, List.getD_cons_zero, List.set_cons_zero, run_cons]
      have h2 : byte s (b ^^^ UInt8.ofNat (2 ^ p)) = byte s b ^^^ iter (8 - p) 1 := by
        have := byte_xor s 0 b (UInt8.ofNat (2 ^ p))
        rw [Nat.xor_zero] at this
        rw [this]
        congr 1
        unfold byte
        rw [Nat.zero_xor, UInt8.toNat_ofNat', Nat.mod_eq_of_lt (show 2 ^ p < 256 from Nat.lt_of_lt_of_le (Nat.pow_lt_pow_right (by omega) hp) (by decide)), iter_bit 8 p (by omega)]
      rw [h2, run_left, ← iter_add]
      congr 2
      simp only [List.length_cons]
      omega
    · obtain ⟨q, rfl⟩ : ∃ q, p = q + 8 := ⟨p - 8, by omega⟩
      have h0 : (q + 8) / 8 = q / 8 + 1 := by omega
      have h1 : (q + 8) % 8 = q % 8 := by omega
      have hf : flip (b :: l) (q + 8) = b :: flip l q := by simp [flip, h0, h1]
      rw [hf, run_cons, run_cons, ih _ _ (by simp at h; omega)]
      congr 2
      simp only [List.length_cons]
      omega
theorem run_flips (s : Nat) (l : List UInt8) (ps : List Nat) (h : ∀ p ∈ ps, p < 8 * l.length) : run s (flips l ps) = run s l ^^^ marks (8 * l.length) ps := by
  induction ps generalizing l with
  | nil => simp [flips, marks]
  | cons p ps ih =>
    have := ih (flip l p) (fun q hq => by rw [flip_length]; exact h q (List.mem_cons_of_mem _ hq))
    simp only [flips, List.foldl_cons] at this ⊢
    rw [this, flip_length, run_flip _ _ _ (h p List.mem_cons_self)]
    simp only [marks, List.foldr_cons]
    ac_rfl

theorem run_le4 (r s : Nat) (hs : s < 4294967296) : run r (le4 s) = iter 32 (r ^^^ s) := by
  have h0 := run_left 0 r (le4 s)
  rw [Nat.zero_xor] at h0
  rw [h0, iter_xor, Nat.xor_comm]
  congr 1
  have e1 := split_xor 8 s
  have e2 := split_xor 8 (s / 2 ^ 8)
  have e3 := split_xor 8 (s / 2 ^ 16)
  have d2 : s / 2 ^ 8 / 2 ^ 8 = s / 2 ^ 16 := by rw [Nat.div_div_eq_div_mul]
  have d3 : s / 2 ^ 16 / 2 ^ 8 = s / 2 ^ 24 := by rw [Nat.div_div_eq_div_mul]
  rw [d2] at e2
  rw [d3] at e3
  have f1 : iter 32 s = iter 24 (s / 2 ^ 8) ^^^ iter 32 (s % 2 ^ 8) := by
    rw [show iter 32 s = iter 32 (2 ^ 8 * (s / 2 ^ 8) ^^^ s % 2 ^ 8) by rw [← e1], iter_xor, show (32 : Nat) = 24 + 8 from rfl, iter_add 24 8 (2 ^ 8 * (s / 2 ^ 8)), iter_shift]
  have f2 : iter 24 (s / 2 ^ 8) = iter 16 (s / 2 ^ 16) ^^^ iter 24 (s / 2 ^ 8 % 2 ^ 8) := by
    rw [show iter 24 (s / 2 ^ 8) = iter 24 (2 ^ 8 * (s / 2 ^ 16) ^^^ s / 2 ^ 8 % 2 ^ 8) by rw [← e2], iter_xor, show (24 : Nat) = 16 + 8 from rfl, iter_add 16 8 (2 ^ 8 * (s / 2 ^ 16)), iter_shift]
  have f3 : iter 16 (s / 2 ^ 16) = iter 8 (s / 2 ^ 24) ^^^ iter 16 (s / 2 ^ 16 % 2 ^ 8) := by
    rw [show iter 16 (s / 2 ^ 16) = iter 16 (2 ^ 8 * (s / 2 ^ 24) ^^^ s / 2 ^ 16 % 2 ^ 8) by rw [← e3], iter_xor, show (16 : Nat) = 8 + 8 from rfl, iter_add 8 8 (2 ^ 8 * (s / 2 ^ 24)), iter_shift]
  have b0 : (UInt8.ofNat s).toNat = s % 2 ^ 8 := by rw [UInt8.toNat_ofNat']
  have b1 : (UInt8.ofNat (s / 256)).toNat = s / 2 ^ 8 % 2 ^ 8 := by rw [UInt8.toNat_ofNat']
  have b2 : (UInt8.ofNat (s / 65536)).toNat = s / 2 ^ 16 % 2 ^ 8 := by rw [UInt8.toNat_ofNat']
  have b3 : (UInt8.ofNat (s / 16777216)).toNat = s / 2 ^ 24 := by rw [UInt8.toNat_ofNat']; omega
  rw [f1, f2, f3]
  simp only [le4, run_cons, run_nil, byte, b0, b1, b2, b3, Nat.zero_xor]
  generalize s % 2 ^ 8 = x0
  generalize s / 2 ^ 8 % 2 ^ 8 = x1
  generalize s / 2 ^ 16 % 2 ^ 8 = x2
  generalize s / 2 ^ 24 = x3
  simp only [iter_xor, ← iter_add]
  ac_rfl
theorem run_sealed (l : List UInt8) : run 4294967295 (sealed l) = iter 32 4294967295 := by
  unfold sealed
  rw [run_append, run_le4 _ _ (of_lt l)]
  unfold of
  rw [not_xor _ (run_lt (by omega) l)]
theorem spoilt_of_marks (b : List UInt8) (ps : List Nat) (h : ∀ p ∈ ps, p < 8 * (sealed b).length) (hm : marks (8 * (sealed b).length) ps ≠ 0) : opened (flips (sealed b) ps) = none := by
  unfold opened
  rw [if_neg]
  rintro ⟨_, h2⟩
  have h3 := run_flips 4294967295 (sealed b) ps h
  rw [← h2, run_sealed, run_sealed] at h3
  apply hm
  have h4 : iter 32 4294967295 ^^^ iter 32 4294967295 = iter 32 4294967295 ^^^ (iter 32 4294967295 ^^^ marks (8 * (sealed b).length) ps) := by rw [← h3]
  rw [Nat.xor_self, ← Nat.xor_assoc, Nat.xor_self, Nat.zero_xor] at h4
  exact h4.symm

/-- no number of steps up to 524,288 leads back to 1 -/
def thenWith (s : Nat) (k : Nat → Nat) : Nat := Nat.rec (k 0) (fun n _ => k (n + 1)) s
def far (n : Nat) : Nat → Nat := Nat.rec (fun s => s) (fun _ r s => thenWith (T s) fun t => bif Nat.beq t 1 then 0 else r t) n
def far2 (n : Nat) : Nat → Nat := Nat.rec (fun s => s) (fun _ r s => thenWith (far 1024 s) r) n
theorem thenWith_eq (s : Nat) (k : Nat → Nat) : thenWith s k = k s := by cases s <;> rfl
theorem far_succ (n s : Nat) : far (n + 1) s = bif Nat.beq (T s) 1 then 0 else far n (T s) := thenWith_eq (T s) fun t => bif Nat.beq t 1 then 0 else far n t
theorem far2_succ (n s : Nat) : far2 (n + 1) s = far2 n (far 1024 s) := thenWith_eq _ _
theorem far_zero (n : Nat) : far n 0 = 0 := by
  induction n with
  | zero => rfl
  | succ n ih => rw [far_succ]; exact ih
theorem far2_zero (n : Nat) : far2 n 0 = 0 := by
  induction n with
  | zero => rfl
  | succ n ih => rw [far2_succ, far_zero]; exact ih
theorem far_spec (n s : Nat) (h : far n s ≠ 0) : far n s = iter n s ∧ ∀ d, 0 < d → d ≤ n → iter d s ≠ 1 := by
  induction n generalizing s with
  | zero => exact ⟨rfl, fun d h1 h2 => by omega⟩
  | succ n ih =>
    rw [far_succ] at h ⊢
    cases hb : Nat.beq (T s) 1 with
    | true => rw [hb] at h; exact absurd rfl h
    | false =>
      rw [hb] at h
      obtain ⟨h1, h2⟩ := ih (T s) h
      refine ⟨by rw [iter_succ']; exact h1, fun d hd hle => ?_⟩
      obtain ⟨e, rfl⟩ : ∃ e, d = e + 1 := ⟨d - 1, by omega⟩
      rw [iter_succ']
      rcases Nat.eq_zero_or_pos e with rfl | he
      · exact fun hc => by rw [iter_zero] at hc; rw [hc] at hb; cases hb
      · exact h2 e he (by omega)
theorem far2_spec (n s : Nat) (h : far2 n s ≠ 0) : far2 n s = iter (n * 1024) s ∧ ∀ d, 0 < d → d ≤ n * 1024 → iter d s ≠ 1 := by
  induction n generalizing s with
  | zero => exact ⟨by rw [Nat.zero_mul]; rfl, fun d h1 h2 => by omega⟩
  | succ n ih =>
    rw [far2_succ] at h ⊢
    have h0 : far 1024 s ≠ 0 := fun e => by rw [e, far2_zero] at h; exact h rfl
    obtain ⟨g1, g2⟩ := far_spec 1024 s h0
    obtain ⟨h1, h2⟩ := ih (far 1024 s) h
    refine ⟨by rw [h1, g1, ← iter_add, Nat.succ_mul], fun d hd hle => ?_⟩
    rcases Nat.lt_or_ge 1024 d with hl | hl
    · have h3 := h2 (d - 1024) (by omega) (by omega)
      rwa [g1, ← iter_add, Nat.sub_add_cancel (by omega)] at h3
    · exact g2 d hd hl
theorem far_fact : Nat.beq (far2 512 1) 0 = false := by decide +kernel
theorem no_return (d : Nat) (h0 : 0 < d) (h : d ≤ 524288) : iter d 1 ≠ 1 := by
  have hf : far2 512 1 ≠ 0 := fun e => by have := far_fact; rw [e] at this; cases this
  exact (far2_spec 512 1 hf).2 d h0 h

/-- whether the number of bits is odd -/
def odd (n : Nat) : Nat → Bool := Nat.rec (fun _ => false) (fun _ r s => (s % 2 == 1) ^^ r (s / 2)) n
theorem odd_succ (n s : Nat) : odd (n + 1) s = ((s % 2 == 1) ^^ odd n (s / 2)) := rfl
theorem xor_mod2 (a b : Nat) : ((a ^^^ b) % 2 == 1) = ((a % 2 == 1) ^^ (b % 2 == 1)) := by
  have h1 : (a ^^^ b) % 2 ^ 1 = (a % 2 ^ 1) ^^^ (b % 2 ^ 1) := Nat.xor_mod_two_pow
  rw [Nat.pow_one] at h1
  rw [h1]
  have ha : a % 2 = 0 ∨ a % 2 = 1 := by omega
  have hb : b % 2 = 0 ∨ b % 2 = 1 := by omega
  rcases ha with ha | ha <;> rcases hb with hb | hb <;> rw [ha, hb] <;> rfl
theorem xor_div2 (a b : Nat) : (a ^^^ b) / 2 = (a / 2) ^^^ (b / 2) := by
  have := Nat.shiftRight_xor_distrib (a := a) (b := b) (i := 1)
  simpa [Nat.shiftRight_eq_div_pow] using this
theorem odd_xor (n a b : Nat) : odd n (a ^^^ b) = (odd n a ^^ odd n b) := by
  induction n generalizing a b with
  | zero => rfl
  | succ n ih => rw [odd_succ, odd_succ, odd_succ, xor_mod2, xor_div2, ih]; cases (a % 2 == 1) <;> cases (b % 2 == 1) <;> cases odd n (a / 2) <;> cases odd n (b / 2) <;> rfl
theorem odd_of_zero (n : Nat) : odd n 0 = false := by
  induction n with
  | zero => rfl
  | succ n ih => rw [odd_succ]; simp [ih]
theorem odd_more (n s : Nat) (h : s < 2 ^ n) : odd (n + 1) s = odd n s := by
  induction n generalizing s with
  | zero => obtain rfl : s = 0 := by simpa using h
            rfl
  | succ n ih => rw [odd_succ, ih (s / 2) (by rw [Nat.pow_succ] at h; omega), ← odd_succ]
theorem odd_T (s : Nat) (h : s < 4294967296) : odd 32 (T s) = odd 32 s := by
  have h1 := odd_more 32 s h
  rw [odd_succ] at h1
  unfold T
  rw [odd_xor, Nat.shiftRight_eq_div_pow, Nat.pow_one, ← h1]
  by_cases hs : s % 2 = 1
  · have h2 : odd 32 2197175160 = true := by decide +kernel
    simp [hs, h2]
  · have h3 : (s % 2 == 1) = false := by simp [hs]
    simp [h3, hs, odd_of_zero]
theorem odd_iter (n s : Nat) (h : s < 4294967296) : odd 32 (iter n s) = odd 32 s := by
  induction n with
  | zero => rfl
  | succ n ih => rw [iter_succ, odd_T _ (iter_lt n h), ih]

theorem mark_one (n p : Nat) : marks n [p] ≠ 0 := by
  simp only [marks, List.foldr_cons, List.foldr_nil, Nat.xor_zero]
  intro h
  have := iter_eq_zero (n - p) (by omega) h
  omega
theorem mark_two (n p q : Nat) (hn : n ≤ 524288) (hp : p < n) (hq : q < n) (h : p ≠ q) : marks n [p, q] ≠ 0 := by
  simp only [marks, List.foldr_cons, List.foldr_nil, Nat.xor_zero]
  intro hz
  have he := eq_of_xor hz
  have key : ∀ a b : Nat, a < b → b ≤ 524288 → iter a 1 = iter b 1 → False := by
    intro a b hab hb hh
    have : iter a 1 = iter a (iter (b - a) 1) := by rw [← iter_add, hh]; congr 1; omega
    have := iter_inj a (by omega) (iter_lt _ (by omega)) this
    exact no_return (b - a) (by omega) (by omega) this.symm
  rcases Nat.lt_or_gt_of_ne h with hl | hl
  · exact key (n - q) (n - p) (by omega) (by omega) he.symm
  · exact key (n - p) (n - q) (by omega) (by omega) he
theorem mark_three (n p q r : Nat) : marks n [p, q, r] ≠ 0 := by
  simp only [marks, List.foldr_cons, List.foldr_nil, Nat.xor_zero]
  intro hz
  have h1 : odd 32 (iter (n - p) 1 ^^^ (iter (n - q) 1 ^^^ iter (n - r) 1)) = odd 32 0 := by rw [hz]
  rw [odd_xor, odd_xor, odd_iter _ _ (by omega), odd_iter _ _ (by omega), odd_iter _ _ (by omega)] at h1
  revert h1
  decide
/-- ONE, TWO OR THREE TURNED BITS ARE SEEN -/
theorem spoilt (b : List UInt8) (ps : List Nat) (hb : b.length ≤ 65532) (h : ∀ p ∈ ps, p < 8 * (sealed b).length) (hd : ps.Nodup) (h1 : 1 ≤ ps.length) (h3 : ps.length ≤ 3) : opened (flips (sealed b) ps) = none := by
  apply spoilt_of_marks b ps h
  have hl : (sealed b).length = b.length + 4 := by simp [sealed, le4]
  match ps, h, hd, h1, h3 with
  | [p], _, _, _, _ => exact mark_one _ _
  | [p, q], h, hd, _, _ =>
    refine mark_two _ p q (by omega) (h p (by simp)) (h q (by simp)) ?_
    intro e
    subst e
    simp at hd
  | [p, q, r], _, _, _, _ => exact mark_three _ _ _ _

/-- bits side by side -/
def burst (a : Nat) (ks : List Nat) : List Nat := ks.map (a + ·)
def pows (ks : List Nat) : Nat := ks.foldr (fun k x => 2 ^ k ^^^ x) 0
theorem marks_burst (n a : Nat) (ks : List Nat) (h : ∀ k ∈ ks, a + k < n) : marks n (burst a ks) = iter (n - a) (pows ks) := by
  induction ks with
  | nil => simp [marks, burst, pows, iter_of_zero]
  | cons k ks ih =>
    have ih' := ih fun x hx => h x (List.mem_cons_of_mem _ hx)
    have hk := h k List.mem_cons_self
    simp only [marks, burst, pows, List.map_cons, List.foldr_cons] at ih' ⊢
    rw [ih', iter_xor, iter_bit _ _ (by omega)]
    congr 2
    omega
theorem pows_lt (ks : List Nat) (h : ∀ k ∈ ks, k < 32) : pows ks < 4294967296 := by
  induction ks with
  | nil => simp [pows]
  | cons k ks ih =>
    simp only [pows, List.foldr_cons]
    exact Nat.xor_lt_two_pow (n := 32) (Nat.pow_lt_pow_right (by omega) (h k List.mem_cons_self)) (ih fun x hx => h x (List.mem_cons_of_mem _ hx))
theorem pows_bit (ks : List Nat) (i : Nat) (hi : i ∉ ks) : (pows ks).testBit i = false := by
  induction ks with
  | nil => simp [pows]
  | cons k ks ih =>
    simp only [pows, List.foldr_cons] at ih ⊢
    rw [Nat.testBit_xor, ih (fun h => hi (List.mem_cons_of_mem _ h)), Nat.testBit_two_pow]
    have : k ≠ i := fun e => hi (by rw [e]; exact List.mem_cons_self)
    simp [this]
theorem pows_ne (ks : List Nat) (h0 : ks ≠ []) (hd : ks.Nodup) : pows ks ≠ 0 := by
  cases ks with
  | nil => exact absurd rfl h0
  | cons k ks =>
    intro hz
    have h1 : (pows (k :: ks)).testBit k = false := by rw [hz]; simp
    have hk : k ∉ ks := (List.nodup_cons.1 hd).1
    simp only [pows, List.foldr_cons] at h1
    rw [Nat.testBit_xor, Nat.testBit_two_pow] at h1
    have h2 := pows_bit ks k hk
    simp only [pows] at h2
    rw [h2] at h1
    simp at h1
/-- TURNED BITS WITHIN 32 SIDE BY SIDE ARE SEEN -/
theorem spoilt_burst (b : List UInt8) (a : Nat) (ks : List Nat) (h0 : ks ≠ []) (hd : ks.Nodup) (h32 : ∀ k ∈ ks, k < 32) (h : ∀ k ∈ ks, a + k < 8 * (sealed b).length) : opened (flips (sealed b) (burst a ks)) = none := by
  apply spoilt_of_marks b _ (fun p hp => ?_)
  · rw [marks_burst _ _ _ h]
    intro hz
    exact pows_ne ks h0 hd (iter_eq_zero _ (pows_lt ks h32) hz)
  · obtain ⟨k, hk, rfl⟩ := List.mem_map.1 hp
    exact h k hk
end Go.Proofs.YtcjafbpgjlcdpaaDoor.Crc
