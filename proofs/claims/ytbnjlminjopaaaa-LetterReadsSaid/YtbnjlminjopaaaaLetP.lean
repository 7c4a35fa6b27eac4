/- The walks of proc.Put, view.PutId, and of a letter's writer of cuts. -/
import Derived.Test.YtbnjlminjopaaaaLetM
import Derived.Test.YtbnjlminjopaaaaSepCe
import Derived.Test.YtbnjlminjopaaaaSepCode
namespace Go.Proofs.Ytbnjlminjopaaaa
open Go Go.RowKit
set_option linter.unusedVariables false
set_option maxRecDepth 100000

theorem app_get {Ps : List SP} {i : Nat} {P Q : SP} (hi : i < Ps.length) (h : Ps[i]? = some P) : (Ps ++ [Q])[i]? = some P := by rw [List.getElem?_append_left hi]; exact h
theorem last_get {Ps : List SP} {Q : SP} {n : Nat} (h : n = Ps.length) : (Ps ++ [Q])[n]? = some Q := by subst h; simp
theorem erase_last {Ps : List SP} {Q : SP} {n : Nat} (h : n = Ps.length) : (Ps ++ [Q]).eraseIdx n = Ps := by
  subst h
  rw [List.eraseIdx_append_of_length_le (Nat.le_refl _)]
  simp
set_option maxHeartbeats 800000 in
theorem sep_putP {w0 w : World} {Ps : List SP} {i g b o : Nat} {l : List UInt8} {node inc : Nat} (h : Sep w0 w Ps) (hi : Ps[i]? = some (Wr g l)) (c0 : w.cell? ⟨b, o, none⟩ = some (.int .i64 (node : Int))) (c1 : w.cell? ⟨b, o + 1, none⟩ = some (.int .u64 (inc : Int))) (hn : node < 256) (hx : inc < 18446744073709551616) (hl : l.length ≤ 100000000) :
    Calls Try.prog 30 #[.pointer (some ⟨g, 0, none⟩), .slice (some ⟨b, o, none⟩) 1 1] w fun e w' => e = .returned (.tuple #[]) ∧ Sep w0 w' (Ps.set i (Wr g (l ++ [UInt8.ofNat node] ++ Code.short inc))) := by
  have HS0 := Lib.hid h
  have HX := Lib.hid hx
  have hlt := (List.getElem?_eq_some_iff.1 hi).1
  have HI := Lib.hid hi
  clear h hx hi
  go_enter Try.func30, Try.ntmps30
  go_wp2_with fail
  go_loopw [8] (fun iv wr => ∃ k : Nat, k ≤ 1 ∧ iv = .int .i64 (k : Int) ∧ ((k = 0 ∧ Hid (wr = w)) ∨ (k = 1 ∧ Hid (Sep w0 wr (Ps.set i (Wr g (l ++ [UInt8.ofNat node] ++ Code.short inc))))))) (fun iv _ => 1 - (intOf iv).toNat)
  case atStart => exact ⟨0, by omega, rfl, .inl ⟨rfl, Lib.hid rfl⟩⟩
  case round =>
    obtain ⟨k, hk, rfl, ⟨hk0, HW⟩ | ⟨hk1, HS⟩⟩ := hrel
    · subst hk0
      rw [← HW.out] at c0 c1 HS0
      have m0 : ((node : Nat) : Int) % 256 = ((node : Nat) : Int) := by omega
      have HS1 := Lib.hid (sep_ce HS0.out #[.int .i64 (node : Int), .int .u64 (inc : Int)] 24)
      go_wp2_with fail
      clear c0 c1
      refine (sep_writes (i := i) (l' := l ++ Code.wide 1 node) HS1.out (app_get hlt HI.out) (fun r hr => wU8_any _ 0 g r l node hr (Nat.zero_le _) (by omega) (by omega))).mono ?_
      rintro e w2 ⟨rfl, hs2⟩
      rw [List.set_append_left _ _ hlt] at hs2
      have HS2 := Lib.hid hs2
      clear hs2 HS1
      have k1 := sep_ceAt (i := Ps.length) HS2.out (last_get (by simp)) 1 rfl
      go_wp2_with fail
      clear k1
      refine (sep_writes (i := i) (l' := (l ++ Code.wide 1 node) ++ Code.short inc) HS2.out (app_get (by rw [List.length_set]; exact hlt) (List.getElem?_set_self hlt)) (fun r hr => uint_any _ 0 g r _ inc hr (Nat.zero_le _) HX.out (by rw [List.length_append, Code.wide_length]; omega))).mono ?_
      rintro e w3 ⟨rfl, hs3⟩
      rw [List.set_append_left _ _ (by rw [List.length_set]; exact hlt), List.set_set] at hs3
      have hs3' := hs3.drop Ps.length
      rw [show ((Ps.set i (Wr g ((l ++ Code.wide 1 node) ++ Code.short inc))) ++ [Ce wr.heap.size 24 #[.int .i64 (node : Int), .int .u64 (inc : Int)]]).eraseIdx Ps.length = Ps.set i (Wr g ((l ++ Code.wide 1 node) ++ Code.short inc)) from erase_last (by simp)] at hs3'
      have HS3 : Hid (Sep w0 w3 (Ps.set i (Wr g (l ++ [UInt8.ofNat node] ++ Code.short inc)))) := Lib.hid hs3'
      clear hs3 hs3' HS2
      go_wp2_with fail
      go_roundw
      case rel => exact ⟨1, by omega, rfl, .inr ⟨rfl, HS3⟩⟩
      case measure => simp [intOf]
    · subst hk1
      go_wp2_with fail
      go_end0
      exact ⟨rfl, HS.out⟩

set_option maxHeartbeats 800000 in
theorem sep_putId {w0 w : World} {Ps : List SP} {i g : Nat} {l : List UInt8} {round node inc : Nat} (h : Sep w0 w Ps) (hi : Ps[i]? = some (Wr g l)) (hn : node < 256) (hr : round < 18446744073709551616) (hx : inc < 18446744073709551616) (hl : l.length ≤ 10000000) :
    Calls Try.prog 31 #[.pointer (some ⟨g, 0, none⟩), .agg #[.int .u64 (round : Int), .int .i64 (node : Int), .int .u64 (inc : Int)]] w fun e w' => e = .returned (.tuple #[]) ∧ Sep w0 w' (Ps.set i (Wr g (l ++ Code.short round ++ [UInt8.ofNat node] ++ Code.short inc))) := by
  have HX := Lib.hid hx
  have HR := Lib.hid hr
  have hlt := (List.getElem?_eq_some_iff.1 hi).1
  have HI := Lib.hid hi
  have HS1 := Lib.hid (sep_ce h #[.int .u64 (round : Int), .int .i64 (node : Int), .int .u64 (inc : Int)] 26)
  clear h hx hi hr
  go_enter Try.func31, Try.ntmps31
  go_wp2_with fail
  refine (sep_writes (i := i) (l' := l ++ Code.short round) HS1.out (app_get hlt HI.out) (fun r hr => uint_any _ 0 g r l round hr (Nat.zero_le _) HR.out (by omega))).mono ?_
  rintro e w2 ⟨rfl, hs2⟩
  rw [List.set_append_left _ _ hlt] at hs2
  have HS2 := Lib.hid hs2
  clear hs2 HS1
  have hget : ((Ps.set i (Wr g (l ++ Code.short round))) ++ [Ce w.heap.size 26 #[.int .u64 (round : Int), .int .i64 (node : Int), .int .u64 (inc : Int)]])[Ps.length]? = some (Ce w.heap.size 26 #[.int .u64 (round : Int), .int .i64 (node : Int), .int .u64 (inc : Int)]) := last_get (by simp)
  have k1 := sep_ceAt (i := Ps.length) HS2.out hget 1 rfl
  have k2 := sep_ceAt (i := Ps.length) HS2.out hget 2 rfl
  have HS3 := Lib.hid (HS2.out.alloc (.cells #[.int .i64 (node : Int), .int .u64 (inc : Int)] 24))
  clear hget
  go_wp2_with fail
  clear k1 k2
  have hq := (Code.short_length round).2
  refine (sep_putP (i := i) (node := node) (inc := inc) (b := w2.heap.size) (o := 0) HS3.out (app_get (by rw [List.length_set]; exact hlt) (List.getElem?_set_self hlt)) (by simp [go_sem]) (by simp [go_sem]) hn HX.out (by rw [List.length_append]; omega)).mono ?_
  rintro e w3 ⟨rfl, hs3⟩
  rw [List.set_append_left _ _ (by rw [List.length_set]; exact hlt), List.set_set] at hs3
  have hs3' := hs3.drop Ps.length
  rw [erase_last (by simp)] at hs3'
  have HS4 := Lib.hid hs3'
  clear hs3 hs3' HS3 HS2
  go_wp2_with fail
  go_end0
  exact ⟨rfl, HS4.out⟩

def cutB (l : List Nat) : List UInt8 := UInt8.ofNat l.length :: l.map UInt8.ofNat
set_option maxHeartbeats 800000 in
theorem sep_cut {w0 w : World} {Ps : List SP} {i g c : Nat} {A : Option Addr} {l : List UInt8} {cut : List Nat} (h : Sep w0 w Ps) (hi : Ps[i]? = some (Wr g l)) (hA : Has w0 w0.heap.size A (u64s cut)) (hn : cut.length < 256) (hx : ∀ x ∈ cut, x < 256) (hl : l.length ≤ 10000000) :
    Calls Try.prog 34 #[.pointer (some ⟨g, 0, none⟩), .slice A cut.length c] w fun e w' => e = .returned (.tuple #[]) ∧ Sep w0 w' (Ps.set i (Wr g (l ++ cutB cut))) := by
  have HX := Lib.hid hx
  have HA := Lib.hid hA
  have hlt := (List.getElem?_eq_some_iff.1 hi).1
  have HI := Lib.hid hi
  have HS1 := Lib.hid h
  clear h hx hi hA
  have HCT := Lib.hid (rfl : cutB cut = cutB cut)
  obtain ⟨n, HN⟩ : ∃ n, Hid (cut.length = n) := ⟨_, Lib.hid rfl⟩
  rw [HN.out] at hn ⊢
  have m0 : ((n : Nat) : Int) % 256 = ((n : Nat) : Int) := by omega
  go_enter Try.func34, Try.ntmps34
  go_wp2_with fail
  clear m0
  refine (sep_writes (i := i) (l' := l ++ Code.wide 1 n) HS1.out HI.out (fun r hr => wU8_any _ 0 g r l n hr (Nat.zero_le _) (by omega) (by omega))).mono ?_
  rintro e w2 ⟨rfl, hs2⟩
  have HS2 := Lib.hid (show Sep w0 w2 (Ps.set i (Wr g ((l ++ [UInt8.ofNat n]) ++ (cut.take 0).map UInt8.ofNat))) by simpa [Code.wide] using hs2)
  clear hs2 HS1
  go_wp2_with fail
  go_loopw [15] (fun iv wr => ∃ k : Nat, k ≤ n ∧ iv = .int .i64 (k : Int) ∧ Hid (Sep w0 wr (Ps.set i (Wr g ((l ++ [UInt8.ofNat n]) ++ (cut.take k).map UInt8.ofNat))))) (fun iv _ => n - (intOf iv).toNat)
  case atStart => exact ⟨0, by omega, rfl, HS2⟩
  case round =>
    obtain ⟨k, hk, rfl, HS⟩ := hrel
    by_cases hkt : k < n
    · have hkl : k < cut.length := by rw [HN.out]; exact hkt
      obtain ⟨b, o, rfl, _⟩ := has_u64_form HA.out (by omega)
      have ck := has_u64 (HS.out.has HA.out) hkl
      have HT := Lib.hid (List.take_succ_eq_append_getElem hkl)
      have hxx := HX.out cut[k] (List.getElem_mem hkl)
      obtain ⟨x, Hx⟩ : ∃ x, Hid (cut[k] = x) := ⟨_, Lib.hid rfl⟩
      rw [Hx.out] at ck HT hxx
      have m1 : ((x : Nat) : Int) % 256 = ((x : Nat) : Int) := by omega
      obtain ⟨L, HL⟩ : ∃ L, Hid ((l ++ [UInt8.ofNat n]) ++ (cut.take k).map UInt8.ofNat = L) := ⟨_, Lib.hid rfl⟩
      have hLl : L.length ≤ 10000300 := by
        rw [← HL.out, List.length_append, List.length_append, List.length_map, List.length_take]
        simp
        omega
      rw [HL.out] at HS
      go_wp2_with fail
      clear ck m1
      refine (sep_writes (i := i) (l' := L ++ Code.wide 1 x) HS.out (List.getElem?_set_self hlt) (fun r hr => wU8_any _ 0 g r L x hr (Nat.zero_le _) (by omega) (by omega))).mono ?_
      rintro e w3 ⟨rfl, hs3⟩
      rw [List.set_set] at hs3
      have HS3 : Hid (Sep w0 w3 (Ps.set i (Wr g ((l ++ [UInt8.ofNat n]) ++ (cut.take (k + 1)).map UInt8.ofNat)))) := Lib.hid (by
        rw [HT.out, List.map_append, ← List.append_assoc, HL.out]
        exact hs3)
      clear hs3 HS
      go_wp2_with fail
      go_roundw
      case rel => exact ⟨k + 1, by omega, by go_num, HS3⟩
      case measure => simp [intOf]; omega
    · have HK := Lib.hid (show cut.take k = cut by rw [List.take_of_length_le]; rw [HN.out]; omega)
      rw [HK.out] at HS
      go_wp2_with fail
      go_end0
      refine ⟨rfl, ?_⟩
      have := HS.out
      rw [List.append_assoc, List.singleton_append, ← HN.out] at this
      exact this
/-- a letter's bytes -/
def Lt.tail (x : Lt) : List UInt8 := if x.kind = 7 then UInt8.ofNat x.n :: Code.text x.body else if x.kind = 8 then Code.short x.cid ++ cutB x.cut else cutB x.cut ++ [if x.want then 1 else 0]
def Lt.head (x : Lt) : List UInt8 := UInt8.ofNat x.kind.toNat :: UInt8.ofNat x.node.toNat :: (Code.short x.pinc ++ (Code.short x.round ++ UInt8.ofNat x.snode.toNat :: Code.short x.sinc))
def Lt.plain (x : Lt) : List UInt8 := x.head ++ x.tail
end Go.Proofs.Ytbnjlminjopaaaa
