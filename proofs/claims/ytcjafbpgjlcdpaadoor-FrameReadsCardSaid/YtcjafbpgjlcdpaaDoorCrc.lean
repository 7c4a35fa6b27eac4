/- The plain law of the sum: the document's CRC-32C over bytes, bit by bit, its linearity, and which turned bits it always shows. No program in sight. -/
namespace Go.Proofs.YtcjafbpgjlcdpaaDoor.Crc

/-- one bit's step -/
def T (s : Nat) : Nat := (s >>> 1) ^^^ (if s % 2 = 1 then 0x82F63B78 else 0)
def iter (n : Nat) (s : Nat) : Nat := Nat.rec s (fun _ r => T r) n
/-- one byte's step -/
def byte (s : Nat) (b : UInt8) : Nat := iter 8 (s ^^^ b.toNat)
def run (s : Nat) (l : List UInt8) : Nat := l.foldl byte s
/-- the sum of bytes -/
def of (l : List UInt8) : Nat := 4294967295 - run 4294967295 l

theorem iter_zero (s : Nat) : iter 0 s = s := rfl
theorem iter_succ (n s : Nat) : iter (n + 1) s = T (iter n s) := rfl
theorem iter_add (m n s : Nat) : iter (m + n) s = iter m (iter n s) := by
  induction m with
  | zero => rw [Nat.zero_add]; rfl
  | succ m ih => rw [Nat.succ_add, iter_succ, iter_succ, ih]
theorem iter_succ' (n s : Nat) : iter (n + 1) s = iter n (T s) := by rw [iter_add]; rfl

theorem T_lt {s : Nat} (h : s < 4294967296) : T s < 4294967296 := by
  unfold T
  apply Nat.xor_lt_two_pow (n := 32)
  · rw [Nat.shiftRight_eq_div_pow]; omega
  · split <;> omega
theorem iter_lt (n : Nat) {s : Nat} (h : s < 4294967296) : iter n s < 4294967296 := by
  induction n with
  | zero => exact h
  | succ n ih => rw [iter_succ]; exact T_lt ih
theorem byte_lt {s : Nat} (h : s < 4294967296) (b : UInt8) : byte s b < 4294967296 := by
  unfold byte
  apply iter_lt
  have := b.toNat_lt
  exact Nat.xor_lt_two_pow (n := 32) h (by omega)
theorem run_lt {s : Nat} (h : s < 4294967296) (l : List UInt8) : run s l < 4294967296 := by
  unfold run
  induction l generalizing s with
  | nil => exact h
  | cons b l ih => exact ih (byte_lt h b)
theorem of_lt (l : List UInt8) : of l < 4294967296 := by unfold of; omega
theorem run_append (s : Nat) (l m : List UInt8) : run s (l ++ m) = run (run s l) m := by simp [run]
theorem run_cons (s : Nat) (b : UInt8) (l : List UInt8) : run s (b :: l) = run (byte s b) l := rfl
theorem run_nil (s : Nat) : run s [] = s := rfl

theorem T_xor (a b : Nat) : T (a ^^^ b) = T a ^^^ T b := by
  unfold T
  rw [Nat.shiftRight_xor_distrib]
  have h : (a ^^^ b) % 2 = (a % 2 + b % 2) % 2 := by
    have h1 : (a ^^^ b) % 2 ^ 1 = (a % 2 ^ 1) ^^^ (b % 2 ^ 1) := Nat.xor_mod_two_pow
    rw [Nat.pow_one] at h1
    rw [h1]
    have ha : a % 2 = 0 ∨ a % 2 = 1 := by omega
    have hb : b % 2 = 0 ∨ b % 2 = 1 := by omega
    rcases ha with ha | ha <;> rcases hb with hb | hb <;> rw [ha, hb] <;> rfl
  have ha : a % 2 = 0 ∨ a % 2 = 1 := by omega
  have hb : b % 2 = 0 ∨ b % 2 = 1 := by omega
  rcases ha with ha | ha <;> rcases hb with hb | hb <;> simp [h, ha, hb]
  · ac_rfl
  · rw [show a >>> 1 ^^^ 2197175160 ^^^ b >>> 1 = (a >>> 1 ^^^ b >>> 1) ^^^ 2197175160 by ac_rfl]
  · rw [show a >>> 1 ^^^ 2197175160 ^^^ (b >>> 1 ^^^ 2197175160) = (a >>> 1 ^^^ b >>> 1) ^^^ (2197175160 ^^^ 2197175160) by ac_rfl]
    simp
theorem iter_xor (n a b : Nat) : iter n (a ^^^ b) = iter n a ^^^ iter n b := by
  induction n with
  | zero => rfl
  | succ n ih => rw [iter_succ, iter_succ, iter_succ, ih, T_xor]
theorem T_zero : T 0 = 0 := rfl
theorem iter_of_zero (n : Nat) : iter n 0 = 0 := by
  induction n with
  | zero => rfl
  | succ n ih => rw [iter_succ, ih]; rfl

theorem eq_of_xor {a b : Nat} (h : a ^^^ b = 0) : a = b := by
  have h1 : (a ^^^ b) ^^^ b = b := by rw [h, Nat.zero_xor]
  rwa [Nat.xor_assoc, Nat.xor_self, Nat.xor_zero] at h1
theorem T_eq_zero {s : Nat} (h : s < 4294967296) (hz : T s = 0) : s = 0 := by
  unfold T at hz
  have h2 : s >>> 1 = if s % 2 = 1 then 0x82F63B78 else 0 := eq_of_xor hz
  rw [Nat.shiftRight_eq_div_pow] at h2
  split at h2 <;> omega
theorem iter_eq_zero (n : Nat) {s : Nat} (h : s < 4294967296) (hz : iter n s = 0) : s = 0 := by
  induction n with
  | zero => exact hz
  | succ n ih => rw [iter_succ] at hz; exact ih (T_eq_zero (iter_lt n h) hz)
theorem iter_inj (n : Nat) {a b : Nat} (ha : a < 4294967296) (hb : b < 4294967296) (h : iter n a = iter n b) : a = b := by
  have : iter n (a ^^^ b) = 0 := by rw [iter_xor, h, Nat.xor_self]
  exact eq_of_xor (iter_eq_zero n (Nat.xor_lt_two_pow (n := 32) ha hb) this)

theorem byte_xor (s t : Nat) (a b : UInt8) : byte (s ^^^ t) (a ^^^ b) = byte s a ^^^ byte t b := by
  unfold byte
  rw [← iter_xor, UInt8.toNat_xor]
  congr 1
  ac_rfl
theorem run_xor (s t : Nat) (l m : List UInt8) (h : l.length = m.length) : run (s ^^^ t) (List.zipWith (· ^^^ ·) l m) = run s l ^^^ run t m := by
  induction l generalizing s t m with
  | nil => cases m with
    | nil => rfl
    | cons _ _ => simp at h
  | cons a l ih => cases m with
    | nil => simp at h
    | cons b m => simp only [List.zipWith_cons_cons, run_cons, ← ih (byte s a) (byte t b) m (by simpa using h), byte_xor]

/-- the table of half a byte -/
def half : List Nat := [0, 274646895, 549293790, 820201905, 1098587580, 1361435347, 1640403810, 1905808397, 2197175160, 2460548119, 2722870694, 2987750089, 3280807620, 3553878443, 3811616794, 4084100981]
theorem half_iter (r : Nat) (h : r < 16) : iter 4 r = half.getD r 0 := by
  have : ∀ r, r < 16 → iter 4 r = half.getD r 0 := by decide
  exact this r h
theorem half_lt (r : Nat) : half.getD r 0 < 4294967296 := by
  rcases Nat.lt_or_ge r 16 with h | h
  · rw [← half_iter r h]; exact iter_lt 4 (by omega)
  · rw [List.getD_eq_getElem?_getD, List.getElem?_eq_none (by exact h)]; exact (by omega : 0 < 4294967296)
theorem T_double (q : Nat) : T (2 * q) = q := by
  unfold T
  rw [Nat.shiftRight_eq_div_pow, if_neg (by omega), Nat.xor_zero]; omega
theorem iter_shift (k q : Nat) : iter k (2 ^ k * q) = q := by
  induction k generalizing q with
  | zero => simp [iter_zero]
  | succ k ih => rw [iter_succ, Nat.pow_succ, Nat.mul_assoc, ih, T_double]
theorem split_xor (k s : Nat) : s = (2 ^ k * (s / 2 ^ k)) ^^^ (s % 2 ^ k) := by
  apply Nat.eq_of_testBit_eq
  intro i
  rw [Nat.testBit_xor, Nat.testBit_mod_two_pow, Nat.testBit_two_pow_mul, Nat.testBit_div_two_pow]
  by_cases h : i < k
  · simp [h, Nat.not_le.2 h]
  · simp [h, Nat.not_lt.1 h]
/-- half a byte at a time -/
theorem nibble (s : Nat) : iter 4 s = (s / 16) ^^^ half.getD (s % 16) 0 := by
  rw [← half_iter (s % 16) (by omega)]
  have h := split_xor 4 s
  simp only [show (2 : Nat) ^ 4 = 16 from rfl] at h
  rw [show iter 4 s = iter 4 (16 * (s / 16) ^^^ s % 16) by rw [← h], iter_xor, show 16 * (s / 16) = 2 ^ 4 * (s / 16) from rfl, iter_shift]
theorem byte_nibbles (s : Nat) (b : UInt8) : byte s b = iter 4 (iter 4 (s ^^^ b.toNat)) := by unfold byte; rw [← iter_add]

theorem not_xor (r : Nat) (h : r < 4294967296) : r ^^^ (4294967295 - r) = 4294967295 := by
  apply Nat.eq_of_testBit_eq
  intro i
  have h1 := Nat.testBit_two_pow_sub_succ (x := r) (n := 32) h i
  have h2 := Nat.testBit_two_pow_sub_succ (x := 0) (n := 32) (by omega) i
  simp only [show (2 : Nat) ^ 32 - (r + 1) = 4294967295 - r by omega] at h1
  simp only [show (2 : Nat) ^ 32 - (0 + 1) = 4294967295 by omega] at h2
  rw [Nat.testBit_xor, h1, h2]
  by_cases hi : i < 32
  · simp [hi]
  · have : r.testBit i = false := Nat.testBit_lt_two_pow (Nat.lt_of_lt_of_le h (Nat.pow_le_pow_right (n := 2) (by omega) (show 32 ≤ i by omega)))
    simp [hi, this]
theorem max_xor (r : Nat) (h : r < 4294967296) : 4294967295 ^^^ r = 4294967295 - r := by
  have h1 := not_xor r h
  have h2 : (r ^^^ (4294967295 - r)) ^^^ r = 4294967295 ^^^ r := by rw [h1]
  rw [← h2, Nat.xor_comm r, Nat.xor_assoc, Nat.xor_self, Nat.xor_zero]

/-- a sum of parts -/
theorem run_flatten (s : Nat) (ls : List (List UInt8)) : run s ls.flatten = ls.foldl run s := by
  induction ls generalizing s with
  | nil => rfl
  | cons l ls ih => rw [List.flatten_cons, run_append, ih]; rfl

/-- the four bytes of a number of 32 bits, the lowest first -/
def le4 (s : Nat) : List UInt8 := [UInt8.ofNat s, UInt8.ofNat (s / 256), UInt8.ofNat (s / 65536), UInt8.ofNat (s / 16777216)]
def sealed (l : List UInt8) : List UInt8 := l ++ le4 (of l)
def word (a b c d : UInt8) : Nat := a.toNat + 256 * b.toNat + 65536 * c.toNat + 16777216 * d.toNat
theorem le4_word (a b c d : UInt8) : le4 (word a b c d) = [a, b, c, d] := by
  have ha := a.toNat_lt; have hb := b.toNat_lt; have hc := c.toNat_lt; have hd := d.toNat_lt
  unfold le4 word
  simp only [List.cons.injEq, and_true]
  refine ⟨?_, ?_, ?_, ?_⟩ <;> (apply UInt8.toNat_inj.1; rw [UInt8.toNat_ofNat']; omega)
theorem word_lt (a b c d : UInt8) : word a b c d < 4294967296 := by
  have ha := a.toNat_lt; have hb := b.toNat_lt; have hc := c.toNat_lt; have hd := d.toNat_lt
  unfold word; omega
theorem le4_inj {s t : Nat} (hs : s < 4294967296) (ht : t < 4294967296) (h : le4 s = le4 t) : s = t := by
  unfold le4 at h
  simp only [List.cons.injEq, and_true] at h
  obtain ⟨h0, h1, h2, h3⟩ := h
  have g0 := UInt8.toNat_inj.2 h0; have g1 := UInt8.toNat_inj.2 h1; have g2 := UInt8.toNat_inj.2 h2; have g3 := UInt8.toNat_inj.2 h3
  simp only [UInt8.toNat_ofNat'] at g0 g1 g2 g3
  omega
/-- what is opened of bytes -/
def opened (l : List UInt8) : Option (List UInt8) := if 4 ≤ l.length ∧ sealed (l.take (l.length - 4)) = l then some (l.take (l.length - 4)) else none
theorem opened_sealed (l : List UInt8) : opened (sealed l) = some l := by
  unfold opened
  have h1 : (sealed l).length = l.length + 4 := by simp [sealed, le4]
  have h2 : (sealed l).take ((sealed l).length - 4) = l := by rw [h1]; simp [sealed]
  rw [h2, if_pos ⟨by omega, rfl⟩]
end Go.Proofs.YtcjafbpgjlcdpaaDoor.Crc
