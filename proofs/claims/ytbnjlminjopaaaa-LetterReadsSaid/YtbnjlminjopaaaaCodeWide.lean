/- The laws' own helper 'put', the document's Wide, and clear, as contracts. -/
import Derived.Test.YtbnjlminjopaaaaSepCode
import Derived.Test.YtbnjlminjopaaaaCodeRef2
import Derived.Lib.SliceRun
import Derived.Deep.OwnRows
import Derived.Deep.MidRow
namespace Go.Proofs.Ytbnjlminjopaaaa
open Go Go.RowKit
set_option linter.unusedVariables false
set_option maxRecDepth 100000

/-- the lowest bits of an int -/
theorem and_mask (z : Int) (k : Nat) (hk : k ≤ 32) : bits .and .i64 z ((2 ^ k - 1 : Nat) : Int) = (((z % (2 ^ k : Nat)).toNat : Nat) : Int) := by
  have hp : 2 ^ k ≤ 2 ^ 32 := Nat.pow_le_pow_right (by omega) hk
  have hp0 : 0 < 2 ^ k := Nat.pow_pos (by omega)
  have e32 : (2 : Nat) ^ 32 = 4294967296 := by decide
  have h1 : (BitVec.ofInt 64 z).toNat = (z % (18446744073709551616 : Int)).toNat := by
    rw [BitVec.toNat_ofInt]
    rfl
  have h2 : (BitVec.ofInt 64 ((2 ^ k - 1 : Nat) : Int)).toNat = 2 ^ k - 1 := by
    rw [BitVec.ofInt_natCast, BitVec.toNat_ofNat]; exact Nat.mod_eq_of_lt (by omega)
  have hd : (2 ^ k : Nat) ∣ 18446744073709551616 := by
    rw [show (18446744073709551616 : Nat) = 2 ^ 64 by decide]
    exact Nat.pow_dvd_pow 2 (by omega)
  have h3 : (z % (18446744073709551616 : Int)).toNat % 2 ^ k = (z % ((2 ^ k : Nat) : Int)).toNat := by
    apply Int.ofNat.inj
    rw [Int.ofNat_eq_natCast, Int.ofNat_eq_natCast, Int.natCast_emod, Int.toNat_of_nonneg (Int.emod_nonneg _ (by omega)), Int.toNat_of_nonneg (Int.emod_nonneg _ (by omega))]
    exact Int.emod_emod_of_dvd z (Int.natCast_dvd_natCast.2 hd)
  have h4 : (z % ((2 ^ k : Nat) : Int)).toNat < 2 ^ k := by
    have := Int.emod_lt_of_pos z (show (0 : Int) < ((2 ^ k : Nat) : Int) by omega)
    omega
  show IntKind.i64.wrap ((BitVec.ofInt 64 z &&& BitVec.ofInt 64 ((2 ^ k - 1 : Nat) : Int)).toNat : Int) = _
  rw [BitVec.toNat_and, h1, h2, Nat.and_two_pow_sub_one_eq_mod, h3]
  exact IntWalk.i64_in _ (by omega)
theorem and_3 (z : Int) : bits .and .i64 z 3 = (((z % 4).toNat : Nat) : Int) := and_mask z 2 (by omega)

theorem wide_mod (n x : Nat) : Code.wide n (x % 256 ^ n) = Code.wide n x := by
  induction n generalizing x with
  | zero => rfl
  | succ n ih =>
    have e : 256 ^ (n + 1) = 256 * 256 ^ n := by rw [Nat.pow_succ, Nat.mul_comm]
    rw [Code.wide, Code.wide, e, Nat.mod_mul]
    congr 1
    · apply UInt8.toNat_inj.1
      rw [UInt8.toNat_ofNat', UInt8.toNat_ofNat']
      omega
    · rw [← ih (x / 256)]
      congr 1
      omega
theorem wide_zero (n : Nat) : Code.wide n 0 = List.replicate n 0 := by
  induction n with
  | zero => rfl
  | succ n ih => rw [Code.wide, Nat.zero_div, ih, List.replicate_succ]; rfl
theorem wide_digs (n x : Nat) (hx : x < 18446744073709551616) : Code.wide n x = ((digs 256 x).map UInt8.ofNat ++ List.replicate n 0).take n := by
  induction n generalizing x with
  | zero => simp [Code.wide]
  | succ n ih =>
    by_cases h : x < 256
    · rw [digs_small 256 x h, Code.wide, Nat.div_eq_of_lt h, wide_zero, Nat.mod_eq_of_lt h]
      simp only [List.map_cons, List.map_nil, List.cons_append, List.nil_append, List.take_succ_cons, List.take_replicate]
      congr 2
      omega
    · rw [digs_great 256 x (by omega) (by omega) hx, Code.wide, ih (x / 256) (by omega)]
      have e : UInt8.ofNat (x % 256) = UInt8.ofNat x := by
        apply UInt8.toNat_inj.1
        rw [UInt8.toNat_ofNat', UInt8.toNat_ofNat']
        omega
      rw [List.map_cons, List.cons_append, List.take_succ_cons, e]
      congr 1
      rw [List.take_append, List.take_append]
      congr 1
      rw [List.take_replicate, List.take_replicate]
      congr 1
      omega

/-- nothing -/
def Emp : SP := fun _ F => ∀ k, ¬ F k
theorem Emp.loc : Loc Emp := ⟨fun h _ => h, fun h k hk => (h k hk).elim⟩
theorem zero_u8 (w : World) : (zeroValue 5).run Try.prog w = .ok (.int .u8 0) w := by kernel_rfl
theorem heap_setCells (b : Nat) : ∀ (vs : List Value) (o : Nat) (w : World), (∀ k, k ≠ b → (w.setCells b o vs).heap[k]? = w.heap[k]?) ∧ (w.setCells b o vs).heap.size = w.heap.size ∧ (w.setCells b o vs).os = w.os ∧ (w.setCells b o vs).tape = w.tape ∧ (w.setCells b o vs).output = w.output
  | [], o, w => ⟨fun _ _ => rfl, rfl, rfl, rfl, rfl⟩
  | v :: vs, o, w => by
    obtain ⟨h1, h2, h3, h4, h5⟩ := heap_setCells b vs (o + 1) (w.setCell ⟨b, o, none⟩ v)
    refine ⟨fun k hk => ?_, ?_, h3, h4, h5⟩
    · exact (h1 k hk).trans (Below.heap_setCell w ⟨b, o, none⟩ v k hk)
    · refine h2.trans ?_
      simp [World.setCell]
theorem sep_clear {w0 w : World} {Ps : List SP} {i n c : Nat} {A : Option Addr} {l : List UInt8} (h : Sep w0 w Ps) (hi : Ps[i]? = some (By (.slice A n c) l)) :
    ∃ w1, (∀ ty, (Builtin.clear_ #[27] ty #[.slice A n c]).run Try.prog w = .ok (.tuple #[]) w1) ∧ Sep w0 w1 (Ps.set i Emp) := by
  obtain ⟨F, ⟨ho, hF⟩, hL, hlt, hk⟩ := h.upd hi
  rcases ho.2 with ⟨hv, hn⟩ | ⟨g, cap, cur, hv, hg, hh, hnc, hm, hs, ht⟩
  · injection hv with e1 e2 e3
    subst e1 e2 e3
    refine ⟨w, fun ty => by simp [Builtin.clear_, run_underlying Try.underlying27], hk w _ (fun _ => False) ⟨rfl, rfl, rfl, Nat.le_refl _, fun _ _ _ => rfl, fun k hk => hk.elim⟩ (fun _ h => h) Emp.loc⟩
  · injection hv with e1 e2 e3
    subst e1 e2 e3
    rcases Nat.eq_zero_or_pos l.length with h0 | h0
    · rw [h0]
      refine ⟨w, fun ty => by simp [Builtin.clear_, run_underlying Try.underlying27], hk w _ (fun _ => False) ⟨rfl, rfl, rfl, Nat.le_refl _, fun _ _ _ => rfl, fun k hk => hk.elim⟩ (fun _ h => h) Emp.loc⟩
    · obtain ⟨s1, s2, s3, s4, s5⟩ := heap_setCells g (List.replicate l.length (.int .u8 0)) 0 w
      refine ⟨w.setCells g 0 (List.replicate l.length (.int .u8 0)), fun ty => Lib.run_clear_slice w 27 5 ty (.int .u8 0) Try.underlying27 zero_u8 rfl rfl g 0 l.length c h0 (fun j hj => ?_) (fun j hj => ?_), hk _ _ (fun _ => False) ⟨s3, s4, s5, Nat.le_of_eq s2.symm, fun k _ hnF => s1 k (fun e => hnF ((hF k).2 (by rw [e]; rfl))), fun k hk => hk.elim⟩ (fun _ h => h) Emp.loc⟩
      · obtain ⟨g', e, _, _, hc, _⟩ := ho.at_ hj
        injection e with e
        injection e with e _
        subst e
        rw [Nat.zero_add, hc]; rfl
      · obtain ⟨g', e, _, _, hc, hf, _⟩ := ho.at_ hj
        injection e with e
        injection e with e _
        subst e
        rw [Nat.zero_add]; exact hf
end Go.Proofs.Ytbnjlminjopaaaa
