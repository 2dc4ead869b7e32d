/- What is proved here: what the functions of the package utf, and the document's of them, come to. -/
import Derived.Test.YtcmdajkkdognfaaKit
import Derived.Test.YtcmdajkkdognfaaUwN
import Derived.Lib.ConvBytes
namespace Go.Proofs.Ytcmdajkkdognfaa.Ut
open Go.RowKit
set_option linter.unusedVariables false
set_option linter.unusedSimpArgs false

/-- Bytes that can be read. -/
def RdN (w : World) (a : Option Addr) (l : List Nat) : Prop := ∀ j, j < l.length → ∃ b off, a = some ⟨b, off, none⟩ ∧ w.cell? ⟨b, off + j, none⟩ = some (.int .u8 (l.getD j 0 : Nat)) ∧ b < w.heap.size

theorem RdN.ext {w w' : World} {a : Option Addr} {l : List Nat} (h : RdN w a l) (hb : Below w.heap.size w w') : RdN w' a l := by
  intro j hj
  obtain ⟨b, off, ha, hc, hl⟩ := h j hj
  exact ⟨b, off, ha, (hb.cell (p := ⟨b, off + j, none⟩) hl).trans hc, Nat.lt_of_lt_of_le hl hb.size⟩

def clsN (a : Nat) : Int := if a < 128 then 0 else if 194 ≤ a ∧ a < 224 then 1 else if 224 ≤ a ∧ a < 240 then 2 else if 240 ≤ a ∧ a < 245 then 3 else -1
def clsV (a : Nat) : Nat := if a < 128 then a else if 194 ≤ a ∧ a < 224 then a % 32 else if 224 ≤ a ∧ a < 240 then a % 16 else if 240 ≤ a ∧ a < 245 then a % 8 else 0

theorem and_fin : ∀ n : Fin 256, bits BinOp.and .u8 ((n.val : Nat) : Int) 31 = ((n.val % 32 : Nat) : Int) ∧ bits BinOp.and .u8 ((n.val : Nat) : Int) 15 = ((n.val % 16 : Nat) : Int) ∧ bits BinOp.and .u8 ((n.val : Nat) : Int) 7 = ((n.val % 8 : Nat) : Int) ∧ bits BinOp.and .u8 ((n.val : Nat) : Int) 63 = ((n.val % 64 : Nat) : Int) := by decide +kernel

set_option maxRecDepth 100000 in
theorem class_any (a : Nat) (h : a < 256) (w : World) : Calls Try.prog 163 #[.int .u8 a] w fun e w' => e = .returned (.tuple #[.int .i64 (clsN a), .int .u32 (clsV a)]) ∧ w = w' := by
  obtain ⟨e1, e2, e3, e4⟩ := and_fin ⟨a, h⟩
  simp only at e1 e2 e3 e4
  rcases (by omega : a < 128 ∨ (128 ≤ a ∧ a < 194) ∨ (194 ≤ a ∧ a < 224) ∨ (224 ≤ a ∧ a < 240) ∨ (240 ≤ a ∧ a < 245) ∨ 245 ≤ a) with h1 | h1 | h1 | h1 | h1 | h1
  · rw [show clsN a = 0 by unfold clsN; repeat' (first | rfl | omega | split), show clsV a = a by unfold clsV; repeat' (first | rfl | omega | split)]
    have t0 : decide ((a : Int) < 128) = true := by simp; omega
    have t1 : decide (194 ≤ (a : Int)) = false := by simp; omega
    have t2 : decide ((a : Int) < 224) = true := by simp; omega
    have t3 : decide (224 ≤ (a : Int)) = false := by simp; omega
    have t4 : decide ((a : Int) < 240) = true := by simp; omega
    have t5 : decide (240 ≤ (a : Int)) = false := by simp; omega
    have t6 : decide ((a : Int) < 245) = true := by simp; omega
    clear h1
    go_enter Try.func163, Try.ntmps163
    go_wp2
    go_ret2
    exact ⟨rfl, rfl⟩
  · rw [show clsN a = -1 by unfold clsN; repeat' (first | rfl | omega | split), show clsV a = 0 by unfold clsV; repeat' (first | rfl | omega | split)]
    have t0 : decide ((a : Int) < 128) = false := by simp; omega
    have t1 : decide (194 ≤ (a : Int)) = false := by simp; omega
    have t2 : decide ((a : Int) < 224) = true := by simp; omega
    have t3 : decide (224 ≤ (a : Int)) = false := by simp; omega
    have t4 : decide ((a : Int) < 240) = true := by simp; omega
    have t5 : decide (240 ≤ (a : Int)) = false := by simp; omega
    have t6 : decide ((a : Int) < 245) = true := by simp; omega
    clear h1
    go_enter Try.func163, Try.ntmps163
    go_wp2
    go_ret2
    exact ⟨rfl, rfl⟩
  · rw [show clsN a = 1 by unfold clsN; repeat' (first | rfl | omega | split), show clsV a = a % 32 by unfold clsV; repeat' (first | rfl | omega | split)]
    have t0 : decide ((a : Int) < 128) = false := by simp; omega
    have t1 : decide (194 ≤ (a : Int)) = true := by simp; omega
    have t2 : decide ((a : Int) < 224) = true := by simp; omega
    have t3 : decide (224 ≤ (a : Int)) = false := by simp; omega
    have t4 : decide ((a : Int) < 240) = true := by simp; omega
    have t5 : decide (240 ≤ (a : Int)) = false := by simp; omega
    have t6 : decide ((a : Int) < 245) = true := by simp; omega
    clear h1
    go_enter Try.func163, Try.ntmps163
    go_wp2
    go_ret2
    exact ⟨rfl, rfl⟩
  · rw [show clsN a = 2 by unfold clsN; repeat' (first | rfl | omega | split), show clsV a = a % 16 by unfold clsV; repeat' (first | rfl | omega | split)]
    have t0 : decide ((a : Int) < 128) = false := by simp; omega
    have t1 : decide (194 ≤ (a : Int)) = true := by simp; omega
    have t2 : decide ((a : Int) < 224) = false := by simp; omega
    have t3 : decide (224 ≤ (a : Int)) = true := by simp; omega
    have t4 : decide ((a : Int) < 240) = true := by simp; omega
    have t5 : decide (240 ≤ (a : Int)) = false := by simp; omega
    have t6 : decide ((a : Int) < 245) = true := by simp; omega
    clear h1
    go_enter Try.func163, Try.ntmps163
    go_wp2
    go_ret2
    exact ⟨rfl, rfl⟩
  · rw [show clsN a = 3 by unfold clsN; repeat' (first | rfl | omega | split), show clsV a = a % 8 by unfold clsV; repeat' (first | rfl | omega | split)]
    have t0 : decide ((a : Int) < 128) = false := by simp; omega
    have t1 : decide (194 ≤ (a : Int)) = true := by simp; omega
    have t2 : decide ((a : Int) < 224) = false := by simp; omega
    have t3 : decide (224 ≤ (a : Int)) = true := by simp; omega
    have t4 : decide ((a : Int) < 240) = false := by simp; omega
    have t5 : decide (240 ≤ (a : Int)) = true := by simp; omega
    have t6 : decide ((a : Int) < 245) = true := by simp; omega
    clear h1
    go_enter Try.func163, Try.ntmps163
    go_wp2
    go_ret2
    exact ⟨rfl, rfl⟩
  · rw [show clsN a = -1 by unfold clsN; repeat' (first | rfl | omega | split), show clsV a = 0 by unfold clsV; repeat' (first | rfl | omega | split)]
    have t0 : decide ((a : Int) < 128) = false := by simp; omega
    have t1 : decide (194 ≤ (a : Int)) = true := by simp; omega
    have t2 : decide ((a : Int) < 224) = false := by simp; omega
    have t3 : decide (224 ≤ (a : Int)) = true := by simp; omega
    have t4 : decide ((a : Int) < 240) = false := by simp; omega
    have t5 : decide (240 ≤ (a : Int)) = true := by simp; omega
    have t6 : decide ((a : Int) < 245) = false := by simp; omega
    clear h1
    go_enter Try.func163, Try.ntmps163
    go_wp2
    go_ret2
    exact ⟨rfl, rfl⟩

/-- The bits behind k bytes more. -/
def vK (l : List Nat) : Nat → Nat
  | 0 => clsV (l.getD 0 0)
  | k + 1 => vK l k * 64 + l.getD (k + 1) 0 % 64
def follB (l : List Nat) (k : Nat) : Bool := (List.range k).all fun j => decide (l.getD (j + 1) 0 / 64 = 2)
theorem follB_succ (l : List Nat) (k : Nat) : follB l (k + 1) = (follB l k && decide (l.getD (k + 1) 0 / 64 = 2)) := by simp [follB, List.range_succ, List.all_append]

theorem follB_le {l : List Nat} {k m : Nat} (h : k ≤ m) (hf : follB l k = false) : follB l m = false := by
  induction m with
  | zero =>
    obtain rfl : k = 0 := by omega
    exact hf
  | succ m ih =>
    by_cases hk : k = m + 1
    · rw [← hk]; exact hf
    · rw [follB_succ, ih (by omega)]; rfl

/-- As the program does it. -/
def firstQ (l : List Nat) : Nat × Nat :=
  if l = [] then (0, 0) else if clsN (l.getD 0 0) < 0 ∨ (l.length : Int) ≤ clsN (l.getD 0 0) then (0, 0) else
  if follB l (clsN (l.getD 0 0)).toNat = false then (0, 0) else
  if clsN (l.getD 0 0) = 2 ∧ (vK l 2 < 2048 ∨ vK l 2 / 2048 = 27) then (0, 0) else
  if clsN (l.getD 0 0) = 3 ∧ (vK l 3 < 65536 ∨ 1114111 < vK l 3) then (0, 0) else (vK l (clsN (l.getD 0 0)).toNat, (clsN (l.getD 0 0)).toNat + 1)

theorem cls_cases (a : Nat) : (a < 128 ∧ clsN a = 0 ∧ clsV a = a) ∨ ((194 ≤ a ∧ a < 224) ∧ clsN a = 1 ∧ clsV a = a % 32) ∨ ((224 ≤ a ∧ a < 240) ∧ clsN a = 2 ∧ clsV a = a % 16) ∨ ((240 ≤ a ∧ a < 245) ∧ clsN a = 3 ∧ clsV a = a % 8) ∨ ((128 ≤ a ∧ a < 194 ∨ 245 ≤ a) ∧ clsN a = -1 ∧ clsV a = 0) := by
  unfold clsN clsV
  by_cases h1 : a < 128
  · simp [h1]
  · by_cases h2 : 194 ≤ a ∧ a < 224
    · simp [h1, h2]
    · by_cases h3 : 224 ≤ a ∧ a < 240
      · simp [h1, h2, h3]
      · by_cases h4 : 240 ≤ a ∧ a < 245
        · simp [h1, h2, h3, h4]
        · simp [h1, h2, h3, h4]; omega

theorem ut_or32 (A B : Nat) (hA : A < 2 ^ 32) (hB : B < 2 ^ 32) : bits .or .u32 A B = ((A ||| B : Nat) : Int) := by
  have h : (BitVec.ofInt 32 (A : Int) ||| BitVec.ofInt 32 (B : Int)).toNat = A ||| B := by
    rw [BitVec.toNat_or, BitVec.ofInt_natCast, BitVec.ofInt_natCast, BitVec.toNat_ofNat, BitVec.toNat_ofNat, Nat.mod_eq_of_lt hA, Nat.mod_eq_of_lt hB]
  have hw : ∀ n : Int, IntKind.u32.wrap n = n % 4294967296 := fun n => by unfold IntKind.wrap; simp [IntKind.bits, IntKind.signed]
  show IntKind.u32.wrap ((BitVec.ofInt 32 (A : Int) ||| BitVec.ofInt 32 (B : Int)).toNat : Int) = _
  rw [h, hw]
  have := Nat.or_lt_two_pow hA hB
  omega

theorem or6 (u y : Nat) (hu : u < 33554432) : bits BinOp.or IntKind.u32 ((u : Int) * 64 % 4294967296) ((y : Int) % 64) = ((u * 64 + y % 64 : Nat) : Int) := by
  have e1 : (u : Int) * 64 % 4294967296 = ((u * 64 : Nat) : Int) := by omega
  have e2 : (y : Int) % 64 = ((y % 64 : Nat) : Int) := by omega
  have hlt : y % 64 < 2 ^ 6 := Nat.mod_lt _ (by decide)
  rw [e1, e2, ut_or32 _ _ (by omega) (by omega), Nat.mul_comm u 64, ← Nat.two_pow_add_eq_or_of_lt (i := 6) hlt u]

theorem firstQ_eq (l : List Nat) : firstQ l = firstP l := by
  cases l with
  | nil => rfl
  | cons a l =>
    unfold firstQ
    rw [if_neg (by simp)]
    simp only [List.getD_cons_zero, List.length_cons]
    rcases cls_cases a with ⟨h, e1, e2⟩ | ⟨h, e1, e2⟩ | ⟨h, e1, e2⟩ | ⟨h, e1, e2⟩ | ⟨h, e1, e2⟩
    · simp only [firstP]
      rw [if_pos h, e1, if_neg (by omega)]
      simp [follB, vK, e2]
    · rw [e1]
      cases l with
      | nil => simp [firstP, show ¬ a < 128 by omega, h]
      | cons b l =>
        simp only [firstP]
        rw [if_neg (show ¬ a < 128 by omega), if_pos (show 194 ≤ a ∧ a < 224 from h), if_neg (by simp; omega)]
        by_cases h3 : b / 64 = 2 <;> simp [follB, vK, e2, h3, List.range_succ]
    · rw [e1]
      match l with
      | [] => simp [firstP, show ¬ a < 128 by omega, show ¬ (194 ≤ a ∧ a < 224) by omega, h]
      | [b] => simp [firstP, show ¬ a < 128 by omega, show ¬ (194 ≤ a ∧ a < 224) by omega, h]
      | b :: c :: l =>
        simp only [firstP]
        rw [if_neg (show ¬ a < 128 by omega), if_neg (show ¬ (194 ≤ a ∧ a < 224) by omega), if_pos (show 224 ≤ a ∧ a < 240 from h), if_neg (by simp; omega)]
        by_cases h3 : b / 64 = 2 <;> by_cases h4 : c / 64 = 2 <;> simp [follB, vK, e2, h3, h4, List.range_succ]
    · rw [e1]
      match l with
      | [] => simp [firstP, show ¬ a < 128 by omega, show ¬ (194 ≤ a ∧ a < 224) by omega, h]
      | [b] => simp [firstP, show ¬ a < 128 by omega, show ¬ (194 ≤ a ∧ a < 224) by omega, h]
      | [b, c] => simp [firstP, show ¬ a < 128 by omega, show ¬ (194 ≤ a ∧ a < 224) by omega, show ¬ (224 ≤ a ∧ a < 240) by omega, h]
      | b :: c :: d :: l =>
        simp only [firstP]
        rw [if_neg (show ¬ a < 128 by omega), if_neg (show ¬ (194 ≤ a ∧ a < 224) by omega), if_neg (show ¬ (224 ≤ a ∧ a < 240) by omega), if_pos (show 240 ≤ a ∧ a < 245 from h), if_neg (by simp; omega)]
        by_cases h3 : b / 64 = 2 <;> by_cases h4 : c / 64 = 2 <;> by_cases h5 : d / 64 = 2 <;> simp [follB, vK, e2, h3, h4, h5, List.range_succ]
    · rw [e1, if_pos (by omega)]
      simp only [firstP]
      rw [if_neg (show ¬ a < 128 by omega), if_neg (show ¬ (194 ≤ a ∧ a < 224) by omega), if_neg (show ¬ (224 ≤ a ∧ a < 240) by omega), if_neg (show ¬ (240 ≤ a ∧ a < 245) by omega)]

theorem vK_lt (l : List Nat) (h : l.getD 0 0 < 256) : ∀ k, vK l k < 128 * 64 ^ k
  | 0 => by
    have := cls_cases (l.getD 0 0)
    simp only [vK]
    omega
  | k + 1 => by
    have := vK_lt l h k
    simp only [vK, Nat.pow_succ]
    have h2 : l.getD (k + 1) 0 % 64 < 64 := Nat.mod_lt _ (by decide)
    omega

set_option maxHeartbeats 1000000 in
set_option maxRecDepth 100000 in
theorem first_any (l : List Nat) (a : Option Addr) (c : Nat) (w : World) (hl : ∀ x ∈ l, x < 256) (hr : RdN w a l) (hlc : l.length ≤ c) (hlm : l.length ≤ 9223372036854775807) : Calls Try.prog 155 #[.slice a l.length c] w fun e w' => e = .returned (.tuple #[.int .i32 (firstP l).1, .int .i64 (firstP l).2]) ∧ w = w' := by
  rw [← firstQ_eq]
  by_cases h0 : l = []
  · subst h0
    go_enter Try.func155, Try.ntmps155
    go_wp2
    go_ret2
    exact ⟨rfl, rfl⟩
  · have hpos : 0 < l.length := List.length_pos_iff.2 h0
    obtain ⟨b, off, rfl, hc0, hb⟩ := hr 0 hpos
    have hcell : ∀ j, j < l.length → w.cell? ⟨b, off + j, none⟩ = some (.int .u8 (l.getD j 0 : Nat)) := by
      intro j hj
      obtain ⟨b', off', e, hc, _⟩ := hr j hj
      simp at e
      obtain ⟨rfl, rfl⟩ := e
      exact hc
    rw [Nat.add_zero] at hc0
    have ha : l.getD 0 0 < 256 := by
      rw [List.getD_eq_getElem?_getD, List.getElem?_eq_getElem hpos]
      exact hl _ (List.getElem_mem hpos)
    obtain ⟨p, hQ⟩ : ∃ p, firstQ l = p := ⟨_, rfl⟩
    rw [hQ]
    unfold firstQ at hQ
    rw [if_neg h0] at hQ
    have t0 : ((l.length : Int) == 0) = false := beq_eq_false_iff_ne.2 (by omega)
    have hv := vK_lt l ha
    generalize hg : l.getD 0 0 = x at *
    obtain ⟨n, hn⟩ : ∃ n, clsN x = n := ⟨_, rfl⟩
    have hnr : -1 ≤ n ∧ n ≤ 3 := by have := cls_cases x; omega
    rw [hn] at hQ
    have hv0 : vK l 0 = clsV x := by rw [← hg]; rfl
    have HQ := hid hQ; have Hc := hid hcell; have Hv := hid hv; have Hv0 := hid hv0
    have Hn := hid hn; have Hg := hid hg; have Hl := hid hl
    clear hQ hcell hv hr h0 hn hv0 hg hl
    by_cases hbad : n < 0 ∨ (l.length : Int) ≤ n
    · have hQ := HQ.out
      rw [if_pos hbad] at hQ
      subst hQ
      clear HQ
      by_cases h1 : n < 0
      · have t1 : decide (n < 0) = true := by simp [h1]
        clear hbad
        go_enter Try.func155, Try.ntmps155
        go_wp2_with fail
        refine (class_any x ha w).mono ?_
        rintro e w' ⟨rfl, rfl⟩
        rw [Hn.out]
        go_wp2
        go_ret2
        exact ⟨rfl, rfl⟩
      · have t1 : decide (n < 0) = false := by simp [h1]
        have t2 : decide ((l.length : Int) ≤ n) = true := by simp; omega
        clear hbad
        go_enter Try.func155, Try.ntmps155
        go_wp2_with fail
        refine (class_any x ha w).mono ?_
        rintro e w' ⟨rfl, rfl⟩
        rw [Hn.out]
        go_wp2
        go_ret2
        exact ⟨rfl, rfl⟩
    · have hQ := HQ.out
      rw [if_neg hbad] at hQ
      obtain ⟨m, rfl⟩ := Int.eq_ofNat_of_zero_le (show 0 ≤ n by omega)
      rw [Int.toNat_natCast] at hQ
      have HQ2 := hid hQ
      have t1 : decide ((m : Int) < 0) = false := by simp
      have t2 : decide ((l.length : Int) ≤ m) = false := by simp; omega
      have hm3 : m ≤ 3 := by omega
      have hml : m < l.length := by omega
      clear hbad hQ HQ hnr
      by_cases hc1 : c = 1
      · obtain rfl : m = 0 := by omega
        have hQ := HQ2.out
        rw [if_neg (by simp [follB]), if_neg (by omega), if_neg (by omega)] at hQ
        rw [Hv0.out] at hQ
        have hvx : clsV x < 128 := by have := cls_cases x; omega
        have hi32 : IntKind.i32.wrap (clsV x : Int) = clsV x := by unfold IntKind.wrap; simp [IntKind.bits, IntKind.signed]; omega
        clear HQ2 hvx
        obtain ⟨u, hu⟩ : ∃ u, clsV x = u := ⟨_, rfl⟩
        rw [hu] at hQ hi32
        have Hu := hid hu
        clear hu
        subst hQ
        subst hc1
        have hl1 : l.length = 1 := by omega
        have hne : (l = []) = False := by simp; intro h; rw [h] at hl1; simp at hl1
        go_enter Try.func155, Try.ntmps155
        go_wp2_with fail
        refine (class_any x ha w).mono ?_
        rintro e w' ⟨rfl, rfl⟩
        rw [Hn.out, Hu.out]
        go_wp2
        go_loop [5, 7, 31] (fun v _ i => i = .int .i64 0 ∧ v = .int .u32 u) (fun _ _ _ => 0)
        case atStart => exact ⟨rfl, rfl⟩
        case round =>
          obtain ⟨rfl, rfl⟩ := hrel
          go_wp2
          go_ret2
          exact ⟨rfl, rfl⟩
      · go_enter Try.func155, Try.ntmps155
        go_wp2_with fail
        refine (class_any x ha w).mono ?_
        rintro e w' ⟨rfl, rfl⟩
        rw [Hn.out]
        have hv00 := Hv0.out
        go_wp2
        go_loop [5, 7, 31] (fun v _ i => ∃ k : Nat, k ≤ m ∧ i = .int .i64 k ∧ v = .int .u32 (vK l k) ∧ follB l k = true) (fun _ _ i => m - (intOf i).toNat)
        case atStart => exact ⟨0, Nat.zero_le _, rfl, by rw [hv00], rfl⟩
        case round =>
          obtain ⟨k, hk, rfl, rfl, hfo⟩ := hrel
          clear hv00
          have Hfo := hid hfo; clear hfo
          by_cases hkm : k < m
          · have hce := Hc.out (k + 1) (by omega)
            rw [show off + (k + 1) = off + 1 + k by omega] at hce
            have hy : l.getD (k + 1) 0 < 256 := by
              rw [List.getD_eq_getElem?_getD, List.getElem?_eq_getElem (by omega)]
              exact Hl.out _ (List.getElem_mem _)
            have hvs : vK l (k + 1) = vK l k * 64 + l.getD (k + 1) 0 % 64 := rfl
            have hfs := follB_succ l k
            have hvb := Hv.out k
            generalize l.getD (k + 1) 0 = y at *
            have Hvs := hid hvs; have Hfs := hid hfs; have Hvb := hid hvb
            clear hvs hfs hvb
            generalize vK l k = u at *
            by_cases hy2 : y / 64 = 2
            · have t3 : (((y : Int) / 64) != 2) = false := by simp; omega
              have hor := or6 u y (by have := Hvb.out; have : 64 ^ k ≤ 64 ^ 3 := Nat.pow_le_pow_right (by decide) (by omega); omega)
              have Hor := hid hor
              clear hor
              go_wp2
              go_round
              case rel => exact ⟨k + 1, by omega, by go_num, by rw [Hor.out, Hvs.out], by rw [Hfs.out, Hfo.out]; simp [hy2]⟩
              case measure => simp [intOf]; omega
            · have t3 : (((y : Int) / 64) != 2) = true := by simp; omega
              have hQ := HQ2.out
              have hf0 : follB l m = false := by
                have : follB l (k + 1) = false := by rw [Hfs.out]; simp [hy2]
                exact follB_le (by omega) this
              rw [if_pos hf0] at hQ
              clear hf0 hy2
              subst hQ
              go_wp2
              go_ret2
              exact ⟨rfl, rfl⟩
          · obtain rfl : k = m := by omega
            have hQ := HQ2.out
            rw [if_neg (by rw [Hfo.out]; simp)] at hQ
            by_cases hk2 : k = 2
            · subst hk2
              rw [if_neg (show ¬ (((2 : Nat) : Int) = 3 ∧ (vK l 3 < 65536 ∨ 1114111 < vK l 3)) by omega)] at hQ
              by_cases q1 : vK l 2 < 2048
              · rw [if_pos ⟨by omega, .inl q1⟩] at hQ
                have t3 : decide ((vK l 2 : Int) < 2048) = true := by simp; omega
                clear q1
                clear HQ2
                generalize vK l 2 = u at *
                subst hQ
                go_wp2
                go_ret2
                exact ⟨rfl, rfl⟩
              · have t3 : decide ((vK l 2 : Int) < 2048) = false := by simp; omega
                by_cases q2 : vK l 2 / 2048 = 27
                · rw [if_pos ⟨by omega, .inr q2⟩] at hQ
                  have t4 : (((vK l 2 : Int) / 2048) == 27) = true := by simp; omega
                  clear q1 q2
                  clear HQ2
                  generalize vK l 2 = u at *
                  subst hQ
                  go_wp2
                  go_ret2
                  exact ⟨rfl, rfl⟩
                · rw [if_neg (by omega)] at hQ
                  have t4 : (((vK l 2 : Int) / 2048) == 27) = false := by simp; omega
                  have hvb := Hv.out 2
                  have hi32 : IntKind.i32.wrap (vK l 2 : Int) = vK l 2 := by unfold IntKind.wrap; simp [IntKind.bits, IntKind.signed]; omega
                  clear q1 q2 hvb
                  clear HQ2
                  generalize vK l 2 = u at *
                  subst hQ
                  go_wp2
                  go_ret2
                  exact ⟨rfl, rfl⟩
            · by_cases hk3 : k = 3
              · subst hk3
                rw [if_neg (show ¬ (((3 : Nat) : Int) = 2 ∧ (vK l 2 < 2048 ∨ vK l 2 / 2048 = 27)) by omega)] at hQ
                by_cases q1 : vK l 3 < 65536
                · rw [if_pos ⟨by omega, .inl q1⟩] at hQ
                  have t3 : decide ((vK l 3 : Int) < 65536) = true := by simp; omega
                  clear q1
                  clear HQ2
                  generalize vK l 3 = u at *
                  subst hQ
                  go_wp2
                  go_ret2
                  exact ⟨rfl, rfl⟩
                · have t3 : decide ((vK l 3 : Int) < 65536) = false := by simp; omega
                  by_cases q2 : 1114111 < vK l 3
                  · rw [if_pos ⟨by omega, .inr q2⟩] at hQ
                    have t4 : decide ((vK l 3 : Int) > 1114111) = true := by simp; omega
                    clear q1 q2
                    clear HQ2
                    generalize vK l 3 = u at *
                    subst hQ
                    go_wp2
                    go_ret2
                    exact ⟨rfl, rfl⟩
                  · rw [if_neg (by omega)] at hQ
                    have t4 : decide ((vK l 3 : Int) > 1114111) = false := by simp; omega
                    have hvb := Hv.out 3
                    have hi32 : IntKind.i32.wrap (vK l 3 : Int) = vK l 3 := by unfold IntKind.wrap; simp [IntKind.bits, IntKind.signed]; omega
                    clear q1 q2 hvb
                    clear HQ2
                    generalize vK l 3 = u at *
                    subst hQ
                    go_wp2
                    go_ret2
                    exact ⟨rfl, rfl⟩
              · rw [if_neg (by omega), if_neg (by omega)] at hQ
                have t3 : ((k : Int) == 2) = false := beq_eq_false_iff_ne.2 (by omega)
                have t4 : ((k : Int) == 3) = false := beq_eq_false_iff_ne.2 (by omega)
                have hvb := Hv.out k
                have hk1 : 64 ^ k ≤ 64 ^ 3 := Nat.pow_le_pow_right (by decide) (by omega)
                have hi32 : IntKind.i32.wrap (vK l k : Int) = vK l k := by unfold IntKind.wrap; simp [IntKind.bits, IntKind.signed]; omega
                clear hk2 hk3 HQ2 hvb hk1
                generalize vK l k = u at *
                subst hQ
                go_wp2
                go_ret2
                exact ⟨rfl, rfl⟩
end Go.Proofs.Ytcmdajkkdognfaa.Ut
