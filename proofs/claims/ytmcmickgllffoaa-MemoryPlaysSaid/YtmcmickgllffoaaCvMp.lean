/- What is proved here: bytes of numbers and numbers of bytes, plain. -/
import Derived.Test.YtmcmickgllffoaaSxEp
import Derived.Laws.BitsAllLaws
namespace Go.Proofs.Ytmcmickgllffoaa
open Go.RowKit
set_option linter.unusedVariables false
set_option linter.unusedSimpArgs false
/-- The lowest bytes of a number. -/
def bytesN : Nat → Nat → List Int
  | 0, _ => []
  | n + 1, v => ((v % 256 : Nat) : Int) :: bytesN n (v / 256)
theorem bytesN_len : ∀ (n v : Nat), (bytesN n v).length = n
  | 0, _ => rfl
  | n + 1, v => by rw [bytesN, List.length_cons, bytesN_len n]
theorem bytesN_snoc : ∀ (n v : Nat), bytesN (n + 1) v = bytesN n v ++ [((v / 256 ^ n % 256 : Nat) : Int)]
  | 0, v => by simp [bytesN]
  | n + 1, v => by
    rw [bytesN, bytesN_snoc n (v / 256), bytesN, List.cons_append, Nat.div_div_eq_div_mul, Nat.pow_succ, Nat.mul_comm 256]
/-- The number of bytes, the lowest first. -/
def numL : List Int → Nat
  | [] => 0
  | x :: l => x.toNat + 256 * numL l
theorem numL_lt : ∀ (l : List Int), (∀ x ∈ l, 0 ≤ x ∧ x < 256) → numL l < 256 ^ l.length
  | [], _ => by simp [numL]
  | x :: l, h => by
    have h1 := h x (List.mem_cons_self ..)
    have h2 := numL_lt l (fun y hy => h y (List.mem_cons_of_mem _ hy))
    rw [numL, List.length_cons, Nat.pow_succ]
    omega
theorem numL_snoc : ∀ (l : List Int) (x : Int), numL (l ++ [x]) = numL l + 256 ^ l.length * x.toNat
  | [], x => by simp [numL]
  | y :: l, x => by
    rw [List.cons_append, numL, numL, numL_snoc l x, List.length_cons, Nat.pow_succ, Nat.mul_add, ← Nat.mul_assoc, Nat.mul_comm (256 ^ l.length) 256]
    omega
theorem pow256_8 {k : Nat} (h : k ≤ 8) : 256 ^ k ≤ 18446744073709551616 := by
  have := Nat.pow_le_pow_right (n := 256) (by omega) h
  simpa using this
theorem pow256_7 {k : Nat} (h : k ≤ 7) : 256 ^ k ≤ 72057594037927936 := by
  have := Nat.pow_le_pow_right (n := 256) (by omega) h
  simpa using this
/-- One byte more in front. -/
theorem or_byte {v b : Nat} (hv : v < 72057594037927936) (hb : b < 256) : bits .or .u64 ((v * 256 : Nat) : Int) (b : Int) = ((b + 256 * v : Nat) : Int) := by
  rw [u64_or_nat _ _ (by omega) (by omega), nat_join 8 (v * 256) b (by omega) (by omega), Nat.mul_comm, Nat.add_comm]
/-- The lowest bytes as a number with a sign, of 64 bits. -/
def extN (v n : Nat) : Nat := if v % 2 ^ (8 * n) < 2 ^ (8 * n - 1) then v % 2 ^ (8 * n) else v % 2 ^ (8 * n) + (18446744073709551616 - 2 ^ (8 * n))
theorem wrap_shl {v n : Nat} (hn : 1 ≤ n ∧ n ≤ 8) : IntKind.u64.wrap (((v : Nat) : Int) * 2 ^ (min (64 - 8 * n) IntKind.u64.bits)) = ((v * 2 ^ (64 - 8 * n) % 18446744073709551616 : Nat) : Int) := by
  rw [IntKind.wrap_u64, show min (64 - 8 * n) IntKind.u64.bits = 64 - 8 * n from by simp [IntKind.bits]]
  simp
theorem ext_fin {v n : Nat} (hn : 1 ≤ n ∧ n ≤ 8) (hv : v < 18446744073709551616) : IntKind.u64.wrap ((IntKind.i64.wrap ((v * 2 ^ (64 - 8 * n) % 18446744073709551616 : Nat) : Int)).fdiv (2 ^ (min (64 - 8 * n) IntKind.i64.bits))) = ((extN v n : Nat) : Int) := by
  unfold extN
  rw [show min (64 - 8 * n) IntKind.i64.bits = 64 - 8 * n from by simp [IntKind.bits]]
  have h : n = 1 ∨ n = 2 ∨ n = 3 ∨ n = 4 ∨ n = 5 ∨ n = 6 ∨ n = 7 ∨ n = 8 := by omega
  rcases h with rfl | rfl | rfl | rfl | rfl | rfl | rfl | rfl <;>
    (simp only [IntKind.wrap_u64, IntKind.wrap_i64, IntKind.bits, Nat.reduceMul, Nat.reduceSub, Nat.reducePow, Int.reducePow]
     rw [Int.fdiv_eq_ediv_of_nonneg _ (by decide)]
     split <;> omega)
theorem extN_lt {v n : Nat} (hn : 1 ≤ n ∧ n ≤ 8) : extN v n < 18446744073709551616 := by
  unfold extN
  have h1 : v % 2 ^ (8 * n) < 2 ^ (8 * n) := Nat.mod_lt _ (Nat.two_pow_pos _)
  have h2 : (2 : Nat) ^ (8 * n) ≤ 2 ^ 64 := Nat.pow_le_pow_right (by omega) (by omega)
  split <;> omega
theorem wrap8 (x : Nat) : IntKind.u8.wrap ((x : Nat) : Int) = ((x % 256 : Nat) : Int) := by rw [IntKind.wrap_u8]; omega
theorem wrap32 (x : Nat) : IntKind.u32.wrap ((x : Nat) : Int) = ((x % 4294967296 : Nat) : Int) := by rw [IntKind.wrap_u32]; omega
theorem shr8 (v k : Nat) : (((v / 256 ^ k : Nat) : Int)).fdiv (2 ^ (min 8 IntKind.u64.bits)) = ((v / 256 ^ (k + 1) : Nat) : Int) := by
  rw [Nat.pow_succ, ← Nat.div_div_eq_div_mul, show min 8 IntKind.u64.bits = 8 from by simp [IntKind.bits], Int.fdiv_eq_ediv_of_nonneg _ (by decide)]
  simp
/-- How many bytes there are of so many. -/
def capN (n : Int) : Nat := if n ≤ 0 then 0 else if 8 ≤ n then 8 else n.toNat
theorem capN_le (n : Int) : capN n ≤ 8 := by unfold capN; (repeat' split) <;> omega
theorem capN_lt {n : Int} {i : Nat} : ((i : Int) < n ∧ i < 8) ↔ i < capN n := by unfold capN; (repeat' split) <;> omega
theorem capN_eq (n : Int) : (if (8 : Int) < (if n < (0 : Int) then (0 : Int) else n) then (8 : Int) else (if n < (0 : Int) then (0 : Int) else n)) = ((capN n : Nat) : Int) := by
  unfold capN
  repeat' split
  all_goals omega
theorem capN_nat {k : Nat} (h : k ≤ 8) : capN (k : Int) = k := by unfold capN; (repeat' split) <;> omega
def extP (v : Nat) (n : Int) : Nat := if n < 1 ∨ 8 < n then v else extN v n.toNat
theorem extP_lt {v : Nat} {n : Int} (hv : v < 18446744073709551616) : extP v n < 18446744073709551616 := by
  unfold extP
  split
  · exact hv
  · exact extN_lt (by omega)
theorem drop_one {l : List Int} {r : Nat} {y : Int} (hr : 1 ≤ r) (h : l[r - 1]? = some y) : l.drop (r - 1) = y :: l.drop r := by
  obtain ⟨hk, rfl⟩ := List.getElem?_eq_some_iff.1 h
  rw [List.drop_eq_getElem_cons hk, show r - 1 + 1 = r by omega]
theorem num_step {l : List Int} {r : Nat} {y : Int} (hr : 1 ≤ r) (hr8 : r ≤ 8) (h : l[r - 1]? = some y) : numL ((l.take 8).drop (r - 1)) = y.toNat + 256 * numL ((l.take 8).drop r) := by
  rw [drop_one hr (by rw [List.getElem?_take_of_lt (by omega)]; exact h), numL]
theorem num_bound {l : List Int} {r : Nat} (h : ∀ x ∈ l, 0 ≤ x ∧ x < 256) (hr : 1 ≤ r) : numL ((l.take 8).drop r) < 72057594037927936 := by
  have h1 := numL_lt ((l.take 8).drop r) (fun x hx => h x (List.mem_of_mem_take (List.mem_of_mem_drop hx)))
  have h2 := pow256_7 (k := ((l.take 8).drop r).length) (by rw [List.length_drop, List.length_take]; omega)
  omega
theorem num_byte {v : Nat} {y : Int} (hv : v < 72057594037927936) (hy : 0 ≤ y ∧ y < 256) : bits .or .u64 ((v * 256 : Nat) : Int) y = ((y.toNat + 256 * v : Nat) : Int) := by
  have h := or_byte hv (b := y.toNat) (by omega)
  rwa [show ((y.toNat : Nat) : Int) = y by omega] at h
theorem shl8 {v : Nat} (h : v < 72057594037927936) : IntKind.u64.wrap (((v : Nat) : Int) * 2 ^ (min 8 IntKind.u64.bits)) = ((v * 256 : Nat) : Int) := by
  rw [IntKind.wrap_u64, show min 8 IntKind.u64.bits = 8 from by simp [IntKind.bits]]
  omega
theorem num_all_lt {l : List Int} (h : ∀ x ∈ l, 0 ≤ x ∧ x < 256) : numL (l.take 8) < 18446744073709551616 := by
  have h1 := numL_lt (l.take 8) (fun x hx => h x (List.mem_of_mem_take hx))
  have h2 := pow256_8 (k := (l.take 8).length) (by rw [List.length_take]; omega)
  omega
/-- How many of the lowest bits. -/
def lowB (b : Int) : Nat := if b ≤ 0 then 0 else if 64 ≤ b then 64 else b.toNat
theorem lowB_lt {b : Int} {i : Nat} : ((i : Int) < b ∧ i < 64) ↔ i < lowB b := by unfold lowB; (repeat' split) <;> omega
theorem lowB_le (b : Int) : lowB b ≤ 64 := by unfold lowB; (repeat' split) <;> omega
theorem pow64 {i : Nat} (h : i ≤ 64) : 2 ^ i ≤ 18446744073709551616 := by
  have := Nat.pow_le_pow_right (n := 2) (by omega) h
  simpa using this
theorem pow63 {i : Nat} (h : i ≤ 63) : 2 ^ i ≤ 9223372036854775808 := by
  have := Nat.pow_le_pow_right (n := 2) (by omega) h
  simpa using this
theorem low_step {v i x o k : Nat} (hi : i < 64) (hx : x = v / 2 ^ i) (ho : o = v % 2 ^ i) (hk : k = 2 ^ i % 18446744073709551616) :
    x / 2 = v / 2 ^ (i + 1) ∧ (if x % 2 = 1 then o + k else o) = v % 2 ^ (i + 1) ∧ k * 2 % 18446744073709551616 = 2 ^ (i + 1) % 18446744073709551616 ∧ k = 2 ^ i ∧ o < k ∧ k ≤ 9223372036854775808 := by
  have hp := pow63 (i := i) (by omega)
  have hk2 : k = 2 ^ i := by rw [hk]; exact Nat.mod_eq_of_lt (by omega)
  have hpos := Nat.two_pow_pos i
  have hol : v % 2 ^ i < 2 ^ i := Nat.mod_lt _ hpos
  refine ⟨by rw [hx, Nat.div_div_eq_div_mul, Nat.pow_succ], ?_, by rw [hk2, Nat.pow_succ], hk2, by omega, by omega⟩
  rw [Nat.pow_succ, Nat.mod_mul, ← hx, ← ho, hk2]
  split
  · rename_i h; rw [h]; omega
  · rename_i h; rw [show x % 2 = 0 by omega]; omega
theorem ext_cond {v n : Nat} (hn : 1 ≤ n ∧ n ≤ 8) : (v % 2 ^ (8 * n) = v % 2 ^ (8 * n - 1)) ↔ v % 2 ^ (8 * n) < 2 ^ (8 * n - 1) := by
  have h : n = 1 ∨ n = 2 ∨ n = 3 ∨ n = 4 ∨ n = 5 ∨ n = 6 ∨ n = 7 ∨ n = 8 := by omega
  rcases h with rfl | rfl | rfl | rfl | rfl | rfl | rfl | rfl <;> simp only [Nat.reduceMul, Nat.reduceSub, Nat.reducePow] <;> omega
theorem shl1 {i : Nat} (h : i < 64) : IntKind.u64.wrap ((1 : Int) * 2 ^ (min i IntKind.u64.bits)) = ((2 ^ i : Nat) : Int) := by
  have hp := pow63 (i := i) (by omega)
  rw [IntKind.wrap_u64, show min i IntKind.u64.bits = i from by simp [IntKind.bits]; omega, Int.one_mul, show (2 : Int) ^ i = ((2 ^ i : Nat) : Int) by simp]
  obtain ⟨x, hx⟩ : ∃ x, x = 2 ^ i := ⟨_, rfl⟩
  rw [← hx] at hp ⊢
  omega
theorem mulb {b k : Nat} (hb : b < 256) (hk : k ≤ 72057594037927936) : IntKind.u64.wrap (((b : Nat) : Int) * ((k : Nat) : Int)) = ((b * k : Nat) : Int) := by
  have h1 : b * k ≤ 255 * k := Nat.mul_le_mul_right k (by omega)
  rw [IntKind.wrap_u64, ← Int.natCast_mul]
  omega
theorem numR_step {l : List Int} {i o k : Nat} {y : Int} (hi : i < 8) (h6 : ∀ x ∈ l, 0 ≤ x ∧ x < 256) (hy : l[i]? = some y) (ho : o = numL (l.take i)) (hk : k = 256 ^ i % 18446744073709551616) :
    o + y.toNat * k = numL (l.take (i + 1)) ∧ o + y.toNat * k < 18446744073709551616 ∧ k * 256 % 18446744073709551616 = 256 ^ (i + 1) % 18446744073709551616 ∧ k ≤ 72057594037927936 := by
  have hp := pow256_7 (k := i) (by omega)
  have hk2 : k = 256 ^ i := by rw [hk]; exact Nat.mod_eq_of_lt (by omega)
  have hl : (l.take i).length = i := by rw [List.length_take]; have := (List.getElem?_eq_some_iff.1 hy).1; omega
  have e : numL (l.take (i + 1)) = o + y.toNat * k := by
    rw [List.take_add_one, hy, show (some y).toList = [y] from rfl, numL_snoc, hl, ho, hk2, Nat.mul_comm]
  have h1 := numL_lt (l.take (i + 1)) (fun x hx => h6 x (List.mem_of_mem_take hx))
  have h2 := pow256_8 (k := (l.take (i + 1)).length) (by rw [List.length_take]; omega)
  refine ⟨e.symm, by omega, by rw [hk2, Nat.pow_succ], by omega⟩
theorem crowTo {α : Type} {k e base n c : Nat} {V : α → List Value} {w : World} {a : Option Addr} {l l' : List α} (h : Row k V e base w (.slice a n c) l) (he : l = l') : Row k V e base w (.slice a l'.length c) l' := he ▸ h.relen
end Go.Proofs.Ytmcmickgllffoaa
