/- What is proved here: what the functions of the package utf, and the document's of them, come to. What is proved here: what Right, Count and the document's Bytes, First, Count come to. What is proved here: what Count, and the document's Bytes, First and Count, come to. What is proved here: rules for maps of the call's own whose keys are strings and whose elements are bools (sets). What is proved here: rules for functions that write one block of the old memory (a scanner), and for calls of them. What is proved here: rules for functions that write several blocks of the old memory, for function values, for parts of slices, for bytes of strings. What is proved here: sections: Put. What is proved here: the scanner: bytes. What is proved here: what the functions of the package leb that read numbers come to. What is proved here: a number that fits is read again from its bytes, from any place on. What is proved here: the scanner: numbers, limits, types. What is proved here: the scanner: types. What is proved here: what the functions of the package abort come to. What is proved here: what abort.Out comes to where nothing is given up. What is proved here: the scanner: parts and names. What is proved here: the bytes of a global's type, by the program and by the document. What is proved here: the scanner over the types of a module. What is proved here: calls that give up: the walk ends there; abort.Out of a function value that gives up. -/
import Derived.Test.YtcmdajkkdognfaaSectJoinsMgAA
import Derived.Lib.ConvBytes
import Derived.Maps.Own
import Derived.Maps.Views
import Derived.StringKeys
import Derived.Laws.Pointers
import Derived.Laws.BitsAllLaws
import Derived.Defers
import Derived.Recover
namespace Go.Proofs.Ytcmdajkkdognfaa.Ut
open Go.RowKit
set_option linter.unusedVariables false
set_option linter.unusedSimpArgs false

/-- Bytes that can be read. -/
def RdN (w : World) (a : Option Addr) (l : List Nat) : Prop := ∀ j, j < l.length → ∃ b off, a = some ⟨b, off, none⟩ ∧ w.cell? ⟨b, off + j, none⟩ = some (.int .u8 (l.getD j 0 : Nat)) ∧ b < w.heap.size

theorem RdN.ext {w w' : World} {a : Option Addr} {l : List Nat} (h : RdN w a l) (hb : Below w.heap.size w w') : RdN w' a l := by
  intro j hj
  obtain ⟨b, off, ha, hc, hl⟩ := h j hj
  exact ⟨b, off, ha, (hb.cell (p := ⟨b, off + j, none⟩) hl).trans hc, Nat.lt_of_lt_of_le hl hb.size⟩

def clsN (a : Nat) : Int := if a < 128 then 0 else if 194 ≤ a ∧ a < 224 then 1 else if 224 ≤ a ∧ a < 240 then 2 else if 240 ≤ a ∧ a < 245 then 3 else -1
def clsV (a : Nat) : Nat := if a < 128 then a else if 194 ≤ a ∧ a < 224 then a % 32 else if 224 ≤ a ∧ a < 240 then a % 16 else if 240 ≤ a ∧ a < 245 then a % 8 else 0

theorem and_fin : ∀ n : Fin 256, bits BinOp.and .u8 ((n.val : Nat) : Int) 31 = ((n.val % 32 : Nat) : Int) ∧ bits BinOp.and .u8 ((n.val : Nat) : Int) 15 = ((n.val % 16 : Nat) : Int) ∧ bits BinOp.and .u8 ((n.val : Nat) : Int) 7 = ((n.val % 8 : Nat) : Int) ∧ bits BinOp.and .u8 ((n.val : Nat) : Int) 63 = ((n.val % 64 : Nat) : Int) := by decide +kernel

set_option maxRecDepth 100000 in
theorem class_any (a : Nat) (h : a < 256) (w : World) : Calls Try.prog 163 #[.int .u8 a] w fun e w' => e = .returned (.tuple #[.int .i64 (clsN a), .int .u32 (clsV a)]) ∧ w = w' := by
  obtain ⟨e1, e2, e3, e4⟩ := and_fin ⟨a, h⟩
  simp only at e1 e2 e3 e4
  rcases (by omega : a < 128 ∨ (128 ≤ a ∧ a < 194) ∨ (194 ≤ a ∧ a < 224) ∨ (224 ≤ a ∧ a < 240) ∨ (240 ≤ a ∧ a < 245) ∨ 245 ≤ a) with h1 | h1 | h1 | h1 | h1 | h1
  · rw [show clsN a = 0 by unfold clsN; repeat' (first | rfl | omega | split), show clsV a = a by unfold clsV; repeat' (first | rfl | omega | split)]
    have t0 : decide ((a : Int) < 128) = true := by simp; omega
    have t1 : decide (194 ≤ (a : Int)) = false := by simp; omega
    have t2 : decide ((a : Int) < 224) = true := by simp; omega
    have t3 : decide (224 ≤ (a : Int)) = false := by simp; omega
    have t4 : decide ((a : Int) < 240) = true := by simp; omega
    have t5 : decide (240 ≤ (a : Int)) = false := by simp; omega
    have t6 : decide ((a : Int) < 245) = true := by simp; omega
    clear h1
    go_enter Try.func163, Try.ntmps163
    go_wp2
    go_ret2
    exact ⟨rfl, rfl⟩
  · rw [show clsN a = -1 by unfold clsN; repeat' (first | rfl | omega | split), show clsV a = 0 by unfold clsV; repeat' (first | rfl | omega | split)]
    have t0 : decide ((a : Int) < 128) = false := by simp; omega
    have t1 : decide (194 ≤ (a : Int)) = false := by simp; omega
    have t2 : decide ((a : Int) < 224) = true := by simp; omega
    have t3 : decide (224 ≤ (a : Int)) = false := by simp; omega
    have t4 : decide ((a : Int) < 240) = true := by simp; omega
    have t5 : decide (240 ≤ (a : Int)) = false := by simp; omega
    have t6 : decide ((a : Int) < 245) = true := by simp; omega
    clear h1
    go_enter Try.func163, Try.ntmps163
    go_wp2
    go_ret2
    exact ⟨rfl, rfl⟩
  · rw [show clsN a = 1 by unfold clsN; repeat' (first | rfl | omega | split), show clsV a = a % 32 by unfold clsV; repeat' (first | rfl | omega | split)]
    have t0 : decide ((a : Int) < 128) = false := by simp; omega
    have t1 : decide (194 ≤ (a : Int)) = true := by simp; omega
    have t2 : decide ((a : Int) < 224) = true := by simp; omega
    have t3 : decide (224 ≤ (a : Int)) = false := by simp; omega
    have t4 : decide ((a : Int) < 240) = true := by simp; omega
    have t5 : decide (240 ≤ (a : Int)) = false := by simp; omega
    have t6 : decide ((a : Int) < 245) = true := by simp; omega
    clear h1
    go_enter Try.func163, Try.ntmps163
    go_wp2
    go_ret2
    exact ⟨rfl, rfl⟩
  · rw [show clsN a = 2 by unfold clsN; repeat' (first | rfl | omega | split), show clsV a = a % 16 by unfold clsV; repeat' (first | rfl | omega | split)]
    have t0 : decide ((a : Int) < 128) = false := by simp; omega
    have t1 : decide (194 ≤ (a : Int)) = true := by simp; omega
    have t2 : decide ((a : Int) < 224) = false := by simp; omega
    have t3 : decide (224 ≤ (a : Int)) = true := by simp; omega
    have t4 : decide ((a : Int) < 240) = true := by simp; omega
    have t5 : decide (240 ≤ (a : Int)) = false := by simp; omega
    have t6 : decide ((a : Int) < 245) = true := by simp; omega
    clear h1
    go_enter Try.func163, Try.ntmps163
    go_wp2
    go_ret2
    exact ⟨rfl, rfl⟩
  · rw [show clsN a = 3 by unfold clsN; repeat' (first | rfl | omega | split), show clsV a = a % 8 by unfold clsV; repeat' (first | rfl | omega | split)]
    have t0 : decide ((a : Int) < 128) = false := by simp; omega
    have t1 : decide (194 ≤ (a : Int)) = true := by simp; omega
    have t2 : decide ((a : Int) < 224) = false := by simp; omega
    have t3 : decide (224 ≤ (a : Int)) = true := by simp; omega
    have t4 : decide ((a : Int) < 240) = false := by simp; omega
    have t5 : decide (240 ≤ (a : Int)) = true := by simp; omega
    have t6 : decide ((a : Int) < 245) = true := by simp; omega
    clear h1
    go_enter Try.func163, Try.ntmps163
    go_wp2
    go_ret2
    exact ⟨rfl, rfl⟩
  · rw [show clsN a = -1 by unfold clsN; repeat' (first | rfl | omega | split), show clsV a = 0 by unfold clsV; repeat' (first | rfl | omega | split)]
    have t0 : decide ((a : Int) < 128) = false := by simp; omega
    have t1 : decide (194 ≤ (a : Int)) = true := by simp; omega
    have t2 : decide ((a : Int) < 224) = false := by simp; omega
    have t3 : decide (224 ≤ (a : Int)) = true := by simp; omega
    have t4 : decide ((a : Int) < 240) = false := by simp; omega
    have t5 : decide (240 ≤ (a : Int)) = true := by simp; omega
    have t6 : decide ((a : Int) < 245) = false := by simp; omega
    clear h1
    go_enter Try.func163, Try.ntmps163
    go_wp2
    go_ret2
    exact ⟨rfl, rfl⟩

/-- The bits behind k bytes more. -/
def vK (l : List Nat) : Nat → Nat
  | 0 => clsV (l.getD 0 0)
  | k + 1 => vK l k * 64 + l.getD (k + 1) 0 % 64
def follB (l : List Nat) (k : Nat) : Bool := (List.range k).all fun j => decide (l.getD (j + 1) 0 / 64 = 2)
theorem follB_succ (l : List Nat) (k : Nat) : follB l (k + 1) = (follB l k && decide (l.getD (k + 1) 0 / 64 = 2)) := by simp [follB, List.range_succ, List.all_append]

theorem follB_le {l : List Nat} {k m : Nat} (h : k ≤ m) (hf : follB l k = false) : follB l m = false := by
  induction m with
  | zero =>
    obtain rfl : k = 0 := by omega
    exact hf
  | succ m ih =>
    by_cases hk : k = m + 1
    · rw [← hk]; exact hf
    · rw [follB_succ, ih (by omega)]; rfl

/-- As the program does it. -/
def firstQ (l : List Nat) : Nat × Nat :=
  if l = [] then (0, 0) else if clsN (l.getD 0 0) < 0 ∨ (l.length : Int) ≤ clsN (l.getD 0 0) then (0, 0) else
  if follB l (clsN (l.getD 0 0)).toNat = false then (0, 0) else
  if clsN (l.getD 0 0) = 2 ∧ (vK l 2 < 2048 ∨ vK l 2 / 2048 = 27) then (0, 0) else
  if clsN (l.getD 0 0) = 3 ∧ (vK l 3 < 65536 ∨ 1114111 < vK l 3) then (0, 0) else (vK l (clsN (l.getD 0 0)).toNat, (clsN (l.getD 0 0)).toNat + 1)

theorem cls_cases (a : Nat) : (a < 128 ∧ clsN a = 0 ∧ clsV a = a) ∨ ((194 ≤ a ∧ a < 224) ∧ clsN a = 1 ∧ clsV a = a % 32) ∨ ((224 ≤ a ∧ a < 240) ∧ clsN a = 2 ∧ clsV a = a % 16) ∨ ((240 ≤ a ∧ a < 245) ∧ clsN a = 3 ∧ clsV a = a % 8) ∨ ((128 ≤ a ∧ a < 194 ∨ 245 ≤ a) ∧ clsN a = -1 ∧ clsV a = 0) := by
  unfold clsN clsV
  by_cases h1 : a < 128
  · simp [h1]
  · by_cases h2 : 194 ≤ a ∧ a < 224
    · simp [h1, h2]
    · by_cases h3 : 224 ≤ a ∧ a < 240
      · simp [h1, h2, h3]
      · by_cases h4 : 240 ≤ a ∧ a < 245
        · simp [h1, h2, h3, h4]
        · simp [h1, h2, h3, h4]; omega

theorem ut_or32 (A B : Nat) (hA : A < 2 ^ 32) (hB : B < 2 ^ 32) : bits .or .u32 A B = ((A ||| B : Nat) : Int) := by
  have h : (BitVec.ofInt 32 (A : Int) ||| BitVec.ofInt 32 (B : Int)).toNat = A ||| B := by
    rw [BitVec.toNat_or, BitVec.ofInt_natCast, BitVec.ofInt_natCast, BitVec.toNat_ofNat, BitVec.toNat_ofNat, Nat.mod_eq_of_lt hA, Nat.mod_eq_of_lt hB]
  have hw : ∀ n : Int, IntKind.u32.wrap n = n % 4294967296 := fun n => by unfold IntKind.wrap; simp [IntKind.bits, IntKind.signed]
  show IntKind.u32.wrap ((BitVec.ofInt 32 (A : Int) ||| BitVec.ofInt 32 (B : Int)).toNat : Int) = _
  rw [h, hw]
  have := Nat.or_lt_two_pow hA hB
  omega

theorem or6 (u y : Nat) (hu : u < 33554432) : bits BinOp.or IntKind.u32 ((u : Int) * 64 % 4294967296) ((y : Int) % 64) = ((u * 64 + y % 64 : Nat) : Int) := by
  have e1 : (u : Int) * 64 % 4294967296 = ((u * 64 : Nat) : Int) := by omega
  have e2 : (y : Int) % 64 = ((y % 64 : Nat) : Int) := by omega
  have hlt : y % 64 < 2 ^ 6 := Nat.mod_lt _ (by decide)
  rw [e1, e2, ut_or32 _ _ (by omega) (by omega), Nat.mul_comm u 64, ← Nat.two_pow_add_eq_or_of_lt (i := 6) hlt u]

theorem firstQ_eq (l : List Nat) : firstQ l = firstP l := by
  cases l with
  | nil => rfl
  | cons a l =>
    unfold firstQ
    rw [if_neg (by simp)]
    simp only [List.getD_cons_zero, List.length_cons]
    rcases cls_cases a with ⟨h, e1, e2⟩ | ⟨h, e1, e2⟩ | ⟨h, e1, e2⟩ | ⟨h, e1, e2⟩ | ⟨h, e1, e2⟩
    · simp only [firstP]
      rw [if_pos h, e1, if_neg (by omega)]
      simp [follB, vK, e2]
    · rw [e1]
      cases l with
      | nil => simp [firstP, show ¬ a < 128 by omega, h]
      | cons b l =>
        simp only [firstP]
        rw [if_neg (show ¬ a < 128 by omega), if_pos (show 194 ≤ a ∧ a < 224 from h), if_neg (by simp; omega)]
        by_cases h3 : b / 64 = 2 <;> simp [follB, vK, e2, h3, List.range_succ]
    · rw [e1]
      match l with
      | [] => simp [firstP, show ¬ a < 128 by omega, show ¬ (194 ≤ a ∧ a < 224) by omega, h]
      | [b] => simp [firstP, show ¬ a < 128 by omega, show ¬ (194 ≤ a ∧ a < 224) by omega, h]
      | b :: c :: l =>
        simp only [firstP]
        rw [if_neg (show ¬ a < 128 by omega), if_neg (show ¬ (194 ≤ a ∧ a < 224) by omega), if_pos (show 224 ≤ a ∧ a < 240 from h), if_neg (by simp; omega)]
        by_cases h3 : b / 64 = 2 <;> by_cases h4 : c / 64 = 2 <;> simp [follB, vK, e2, h3, h4, List.range_succ]
    · rw [e1]
      match l with
      | [] => simp [firstP, show ¬ a < 128 by omega, show ¬ (194 ≤ a ∧ a < 224) by omega, h]
      | [b] => simp [firstP, show ¬ a < 128 by omega, show ¬ (194 ≤ a ∧ a < 224) by omega, h]
      | [b, c] => simp [firstP, show ¬ a < 128 by omega, show ¬ (194 ≤ a ∧ a < 224) by omega, show ¬ (224 ≤ a ∧ a < 240) by omega, h]
      | b :: c :: d :: l =>
        simp only [firstP]
        rw [if_neg (show ¬ a < 128 by omega), if_neg (show ¬ (194 ≤ a ∧ a < 224) by omega), if_neg (show ¬ (224 ≤ a ∧ a < 240) by omega), if_pos (show 240 ≤ a ∧ a < 245 from h), if_neg (by simp; omega)]
        by_cases h3 : b / 64 = 2 <;> by_cases h4 : c / 64 = 2 <;> by_cases h5 : d / 64 = 2 <;> simp [follB, vK, e2, h3, h4, h5, List.range_succ]
    · rw [e1, if_pos (by omega)]
      simp only [firstP]
      rw [if_neg (show ¬ a < 128 by omega), if_neg (show ¬ (194 ≤ a ∧ a < 224) by omega), if_neg (show ¬ (224 ≤ a ∧ a < 240) by omega), if_neg (show ¬ (240 ≤ a ∧ a < 245) by omega)]

theorem vK_lt (l : List Nat) (h : l.getD 0 0 < 256) : ∀ k, vK l k < 128 * 64 ^ k
  | 0 => by
    have := cls_cases (l.getD 0 0)
    simp only [vK]
    omega
  | k + 1 => by
    have := vK_lt l h k
    simp only [vK, Nat.pow_succ]
    have h2 : l.getD (k + 1) 0 % 64 < 64 := Nat.mod_lt _ (by decide)
    omega

set_option maxHeartbeats 1000000 in
set_option maxRecDepth 100000 in
theorem first_any (l : List Nat) (a : Option Addr) (c : Nat) (w : World) (hl : ∀ x ∈ l, x < 256) (hr : RdN w a l) (hlc : l.length ≤ c) (hlm : l.length ≤ 9223372036854775807) : Calls Try.prog 155 #[.slice a l.length c] w fun e w' => e = .returned (.tuple #[.int .i32 (firstP l).1, .int .i64 (firstP l).2]) ∧ w = w' := by
  rw [← firstQ_eq]
  by_cases h0 : l = []
  · subst h0
    go_enter Try.func155, Try.ntmps155
    go_wp2
    go_ret2
    exact ⟨rfl, rfl⟩
  · have hpos : 0 < l.length := List.length_pos_iff.2 h0
    obtain ⟨b, off, rfl, hc0, hb⟩ := hr 0 hpos
    have hcell : ∀ j, j < l.length → w.cell? ⟨b, off + j, none⟩ = some (.int .u8 (l.getD j 0 : Nat)) := by
      intro j hj
      obtain ⟨b', off', e, hc, _⟩ := hr j hj
      simp at e
      obtain ⟨rfl, rfl⟩ := e
      exact hc
    rw [Nat.add_zero] at hc0
    have ha : l.getD 0 0 < 256 := by
      rw [List.getD_eq_getElem?_getD, List.getElem?_eq_getElem hpos]
      exact hl _ (List.getElem_mem hpos)
    obtain ⟨p, hQ⟩ : ∃ p, firstQ l = p := ⟨_, rfl⟩
    rw [hQ]
    unfold firstQ at hQ
    rw [if_neg h0] at hQ
    have t0 : ((l.length : Int) == 0) = false := beq_eq_false_iff_ne.2 (by omega)
    have hv := vK_lt l ha
    generalize hg : l.getD 0 0 = x at *
    obtain ⟨n, hn⟩ : ∃ n, clsN x = n := ⟨_, rfl⟩
    have hnr : -1 ≤ n ∧ n ≤ 3 := by have := cls_cases x; omega
    rw [hn] at hQ
    have hv0 : vK l 0 = clsV x := by rw [← hg]; rfl
    have HQ := hid hQ; have Hc := hid hcell; have Hv := hid hv; have Hv0 := hid hv0
    have Hn := hid hn; have Hg := hid hg; have Hl := hid hl
    clear hQ hcell hv hr h0 hn hv0 hg hl
    by_cases hbad : n < 0 ∨ (l.length : Int) ≤ n
    · have hQ := HQ.out
      rw [if_pos hbad] at hQ
      subst hQ
      clear HQ
      by_cases h1 : n < 0
      · have t1 : decide (n < 0) = true := by simp [h1]
        clear hbad
        go_enter Try.func155, Try.ntmps155
        go_wp2_with fail
        refine (class_any x ha w).mono ?_
        rintro e w' ⟨rfl, rfl⟩
        rw [Hn.out]
        go_wp2
        go_ret2
        exact ⟨rfl, rfl⟩
      · have t1 : decide (n < 0) = false := by simp [h1]
        have t2 : decide ((l.length : Int) ≤ n) = true := by simp; omega
        clear hbad
        go_enter Try.func155, Try.ntmps155
        go_wp2_with fail
        refine (class_any x ha w).mono ?_
        rintro e w' ⟨rfl, rfl⟩
        rw [Hn.out]
        go_wp2
        go_ret2
        exact ⟨rfl, rfl⟩
    · have hQ := HQ.out
      rw [if_neg hbad] at hQ
      obtain ⟨m, rfl⟩ := Int.eq_ofNat_of_zero_le (show 0 ≤ n by omega)
      rw [Int.toNat_natCast] at hQ
      have HQ2 := hid hQ
      have t1 : decide ((m : Int) < 0) = false := by simp
      have t2 : decide ((l.length : Int) ≤ m) = false := by simp; omega
      have hm3 : m ≤ 3 := by omega
      have hml : m < l.length := by omega
      clear hbad hQ HQ hnr
      by_cases hc1 : c = 1
      · obtain rfl : m = 0 := by omega
        have hQ := HQ2.out
        rw [if_neg (by simp [follB]), if_neg (by omega), if_neg (by omega)] at hQ
        rw [Hv0.out] at hQ
        have hvx : clsV x < 128 := by have := cls_cases x; omega
        have hi32 : IntKind.i32.wrap (clsV x : Int) = clsV x := by unfold IntKind.wrap; simp [IntKind.bits, IntKind.signed]; omega
        clear HQ2 hvx
        obtain ⟨u, hu⟩ : ∃ u, clsV x = u := ⟨_, rfl⟩
        rw [hu] at hQ hi32
        have Hu := hid hu
        clear hu
        subst hQ
        subst hc1
        have hl1 : l.length = 1 := by omega
        have hne : (l = []) = False := by simp; intro h; rw [h] at hl1; simp at hl1
        go_enter Try.func155, Try.ntmps155
        go_wp2_with fail
        refine (class_any x ha w).mono ?_
        rintro e w' ⟨rfl, rfl⟩
        rw [Hn.out, Hu.out]
        go_wp2
        go_loop [5, 7, 31] (fun v _ i => i = .int .i64 0 ∧ v = .int .u32 u) (fun _ _ _ => 0)
        case atStart => exact ⟨rfl, rfl⟩
        case round =>
          obtain ⟨rfl, rfl⟩ := hrel
          go_wp2
          go_ret2
          exact ⟨rfl, rfl⟩
      · go_enter Try.func155, Try.ntmps155
        go_wp2_with fail
        refine (class_any x ha w).mono ?_
        rintro e w' ⟨rfl, rfl⟩
        rw [Hn.out]
        have hv00 := Hv0.out
        go_wp2
        go_loop [5, 7, 31] (fun v _ i => ∃ k : Nat, k ≤ m ∧ i = .int .i64 k ∧ v = .int .u32 (vK l k) ∧ follB l k = true) (fun _ _ i => m - (intOf i).toNat)
        case atStart => exact ⟨0, Nat.zero_le _, rfl, by rw [hv00], rfl⟩
        case round =>
          obtain ⟨k, hk, rfl, rfl, hfo⟩ := hrel
          clear hv00
          have Hfo := hid hfo; clear hfo
          by_cases hkm : k < m
          · have hce := Hc.out (k + 1) (by omega)
            rw [show off + (k + 1) = off + 1 + k by omega] at hce
            have hy : l.getD (k + 1) 0 < 256 := by
              rw [List.getD_eq_getElem?_getD, List.getElem?_eq_getElem (by omega)]
              exact Hl.out _ (List.getElem_mem _)
            have hvs : vK l (k + 1) = vK l k * 64 + l.getD (k + 1) 0 % 64 := rfl
            have hfs := follB_succ l k
            have hvb := Hv.out k
            generalize l.getD (k + 1) 0 = y at *
            have Hvs := hid hvs; have Hfs := hid hfs; have Hvb := hid hvb
            clear hvs hfs hvb
            generalize vK l k = u at *
            by_cases hy2 : y / 64 = 2
            · have t3 : (((y : Int) / 64) != 2) = false := by simp; omega
              have hor := or6 u y (by have := Hvb.out; have : 64 ^ k ≤ 64 ^ 3 := Nat.pow_le_pow_right (by decide) (by omega); omega)
              have Hor := hid hor
              clear hor
              go_wp2
              go_round
              case rel => exact ⟨k + 1, by omega, by go_num, by rw [Hor.out, Hvs.out], by rw [Hfs.out, Hfo.out]; simp [hy2]⟩
              case measure => simp [intOf]; omega
            · have t3 : (((y : Int) / 64) != 2) = true := by simp; omega
              have hQ := HQ2.out
              have hf0 : follB l m = false := by
                have : follB l (k + 1) = false := by rw [Hfs.out]; simp [hy2]
                exact follB_le (by omega) this
              rw [if_pos hf0] at hQ
              clear hf0 hy2
              subst hQ
              go_wp2
              go_ret2
              exact ⟨rfl, rfl⟩
          · obtain rfl : k = m := by omega
            have hQ := HQ2.out
            rw [if_neg (by rw [Hfo.out]; simp)] at hQ
            by_cases hk2 : k = 2
            · subst hk2
              rw [if_neg (show ¬ (((2 : Nat) : Int) = 3 ∧ (vK l 3 < 65536 ∨ 1114111 < vK l 3)) by omega)] at hQ
              by_cases q1 : vK l 2 < 2048
              · rw [if_pos ⟨by omega, .inl q1⟩] at hQ
                have t3 : decide ((vK l 2 : Int) < 2048) = true := by simp; omega
                clear q1
                clear HQ2
                generalize vK l 2 = u at *
                subst hQ
                go_wp2
                go_ret2
                exact ⟨rfl, rfl⟩
              · have t3 : decide ((vK l 2 : Int) < 2048) = false := by simp; omega
                by_cases q2 : vK l 2 / 2048 = 27
                · rw [if_pos ⟨by omega, .inr q2⟩] at hQ
                  have t4 : (((vK l 2 : Int) / 2048) == 27) = true := by simp; omega
                  clear q1 q2
                  clear HQ2
                  generalize vK l 2 = u at *
                  subst hQ
                  go_wp2
                  go_ret2
                  exact ⟨rfl, rfl⟩
                · rw [if_neg (by omega)] at hQ
                  have t4 : (((vK l 2 : Int) / 2048) == 27) = false := by simp; omega
                  have hvb := Hv.out 2
                  have hi32 : IntKind.i32.wrap (vK l 2 : Int) = vK l 2 := by unfold IntKind.wrap; simp [IntKind.bits, IntKind.signed]; omega
                  clear q1 q2 hvb
                  clear HQ2
                  generalize vK l 2 = u at *
                  subst hQ
                  go_wp2
                  go_ret2
                  exact ⟨rfl, rfl⟩
            · by_cases hk3 : k = 3
              · subst hk3
                rw [if_neg (show ¬ (((3 : Nat) : Int) = 2 ∧ (vK l 2 < 2048 ∨ vK l 2 / 2048 = 27)) by omega)] at hQ
                by_cases q1 : vK l 3 < 65536
                · rw [if_pos ⟨by omega, .inl q1⟩] at hQ
                  have t3 : decide ((vK l 3 : Int) < 65536) = true := by simp; omega
                  clear q1
                  clear HQ2
                  generalize vK l 3 = u at *
                  subst hQ
                  go_wp2
                  go_ret2
                  exact ⟨rfl, rfl⟩
                · have t3 : decide ((vK l 3 : Int) < 65536) = false := by simp; omega
                  by_cases q2 : 1114111 < vK l 3
                  · rw [if_pos ⟨by omega, .inr q2⟩] at hQ
                    have t4 : decide ((vK l 3 : Int) > 1114111) = true := by simp; omega
                    clear q1 q2
                    clear HQ2
                    generalize vK l 3 = u at *
                    subst hQ
                    go_wp2
                    go_ret2
                    exact ⟨rfl, rfl⟩
                  · rw [if_neg (by omega)] at hQ
                    have t4 : decide ((vK l 3 : Int) > 1114111) = false := by simp; omega
                    have hvb := Hv.out 3
                    have hi32 : IntKind.i32.wrap (vK l 3 : Int) = vK l 3 := by unfold IntKind.wrap; simp [IntKind.bits, IntKind.signed]; omega
                    clear q1 q2 hvb
                    clear HQ2
                    generalize vK l 3 = u at *
                    subst hQ
                    go_wp2
                    go_ret2
                    exact ⟨rfl, rfl⟩
              · rw [if_neg (by omega), if_neg (by omega)] at hQ
                have t3 : ((k : Int) == 2) = false := beq_eq_false_iff_ne.2 (by omega)
                have t4 : ((k : Int) == 3) = false := beq_eq_false_iff_ne.2 (by omega)
                have hvb := Hv.out k
                have hk1 : 64 ^ k ≤ 64 ^ 3 := Nat.pow_le_pow_right (by decide) (by omega)
                have hi32 : IntKind.i32.wrap (vK l k : Int) = vK l k := by unfold IntKind.wrap; simp [IntKind.bits, IntKind.signed]; omega
                clear hk2 hk3 HQ2 hvb hk1
                generalize vK l k = u at *
                subst hQ
                go_wp2
                go_ret2
                exact ⟨rfl, rfl⟩
end Go.Proofs.Ytcmdajkkdognfaa.Ut

namespace Go.Proofs.Ytcmdajkkdognfaa.Ut
open Go.RowKit
set_option linter.unusedVariables false
set_option linter.unusedSimpArgs false

theorem ret_bool {a b : Bool} (h : a = b) : Ending.returned (.bool a) = .returned (.bool b) := by rw [h]
theorem ret_i64 {a b : Int} (h : a = b) : Ending.returned (.int .i64 a) = .returned (.int .i64 b) := by rw [h]

def lenOfV : Value → Nat
  | .slice _ n _ => n
  | .string s => s.size
  | _ => 0

/-- The state of the bytes that are left. -/
def LeftN (w : World) (v : Value) (r : List Nat) : Prop := ∃ a c, v = .slice a r.length c ∧ RdN w a r ∧ r.length ≤ c ∧ ∀ x ∈ r, x < 256

theorem LeftN.cut {w : World} {a : Option Addr} {c b off : Nat} {r : List Nat} {n : Nat} (ha : a = some ⟨b, off, none⟩) (hr : RdN w a r) (hc : r.length ≤ c) (hx : ∀ x ∈ r, x < 256) (hn : n ≤ r.length) :
    (¬ c = n → LeftN w (.slice (some ⟨b, off + n, none⟩) (r.length - n) (c - n)) (r.drop n)) ∧ (c = n → ∀ a', LeftN w (.slice a' 0 0) (r.drop n)) := by
  refine ⟨fun h => ⟨_, c - n, by rw [List.length_drop], fun j hj => ?_, by rw [List.length_drop]; omega, fun x hxm => hx x (List.mem_of_mem_drop hxm)⟩, fun h a' => ?_⟩
  · rw [List.length_drop] at hj
    obtain ⟨b', off', e, hcell, hb⟩ := hr (n + j) (by omega)
    rw [ha] at e
    simp at e
    obtain ⟨rfl, rfl⟩ := e
    refine ⟨b, off + n, rfl, ?_, hb⟩
    rw [Nat.add_assoc, hcell]
    simp [List.getD_eq_getElem?_getD, List.getElem?_drop]
  · have : r.drop n = [] := List.drop_eq_nil_of_le (by omega)
    rw [this]
    exact ⟨a', 0, rfl, fun j hj => absurd hj (by simp), Nat.le_refl _, fun x h => by cases h⟩

theorem rdN_some {w : World} {a : Option Addr} {r : List Nat} (hr : RdN w a r) (h : 0 < r.length) : ∃ b off, a = some ⟨b, off, none⟩ := by
  obtain ⟨b, off, e, _⟩ := hr 0 h
  exact ⟨b, off, e⟩

set_option maxHeartbeats 1000000 in
set_option maxRecDepth 100000 in
theorem right_any (l : List Nat) (v : Value) (w : World) (h : LeftN w v l) (hlm : l.length ≤ 9223372036854775807) : Calls Try.prog 147 #[v] w fun e w' => e = .returned (.bool (decide (0 ≤ cnt l))) ∧ w = w' := by
  obtain ⟨a, c, rfl, hr, hc, hx⟩ := h
  have H0 : Hid (LeftN w (.slice a l.length c) l) := hid ⟨a, c, rfl, hr, hc, hx⟩
  clear hr hc hx
  go_enter Try.func147, Try.ntmps147
  go_wp2
  go_loop [0, 3, 4] (fun s _ _ => ∃ r : List Nat, Hid (LeftN w s r) ∧ r.length ≤ l.length ∧ Hid (decide (0 ≤ cnt l) = decide (0 ≤ cnt r))) (fun s _ _ => lenOfV s)
  case atStart => exact ⟨l, H0, Nat.le_refl _, hid rfl⟩
  case round =>
    obtain ⟨r, HL, hle, He⟩ := hrel
    obtain ⟨a', c', rfl, hr, hc, hx⟩ := HL.out
    clear HL
    by_cases h0 : r.length = 0
    · have he := He.out
      have hr0 : r = [] := List.eq_nil_of_length_eq_zero h0
      rw [hr0, show decide (0 ≤ cnt []) = true from rfl] at he
      have Hres := hid he
      have t : decide ((r.length : Int) > 0) = false := by simp; omega
      have t' : decide ((0 : Int) < r.length) = false := by simp; omega
      clear hr hx hr0 he
      go_wp2
      go_ret
      exact ⟨ret_bool Hres.out.symm, rfl⟩
    · have t' : decide ((0 : Int) < r.length) = true := by simp; omega
      have hne : r ≠ [] := fun e => h0 (by rw [e]; rfl)
      obtain ⟨b, off, ha⟩ := rdN_some hr (by omega)
      have hsnd := first_snd r
      have Hcut := hid (LeftN.cut (n := (firstP r).2) ha hr hc hx hsnd)
      have Hf := hid (first_any r a' c' w hx hr hc (by omega))
      have Hbad := hid (fun h => cnt_bad hne h)
      have Hst := hid (fun h => cnt_step hne h)
      subst ha
      clear hr hx hne
      obtain ⟨p, hp⟩ : ∃ p, firstP r = p := ⟨_, rfl⟩
      rw [hp] at Hcut Hf Hbad Hst hsnd
      obtain ⟨v, n⟩ := p
      simp only at Hcut Hf Hbad Hst hsnd
      clear hp
      go_wp2_with fail
      refine Hf.out.mono ?_
      rintro e w' ⟨rfl, rfl⟩
      by_cases hn : n = 0
      · subst hn
        have he := He.out
        rw [Hbad.out rfl] at he
        rw [show decide (0 ≤ (-1 : Int)) = false from rfl] at he
        have Hres := hid he
        clear he
        go_wp2
        go_ret
        exact ⟨ret_bool Hres.out.symm, rfl⟩
      · have t2 : ((n : Int) == 0) = false := beq_eq_false_iff_ne.2 (by omega)
        have hst := Hst.out hn
        have he2 : decide (0 ≤ cnt r) = decide (0 ≤ cnt (r.drop n)) := by
          rw [hst]
          have := cnt_ge (r.drop n)
          by_cases q : cnt (r.drop n) < 0
          · rw [if_pos q]; simp; omega
          · rw [if_neg q]; simp; omega
        have He2 : Hid (decide (0 ≤ cnt l) = decide (0 ≤ cnt (r.drop n))) := hid (He.out.trans he2)
        have Hlen : Hid ((r.drop n).length ≤ l.length) := hid (by rw [List.length_drop]; omega)
        clear hst he2 Hst Hbad
        by_cases hcn : c' = n
        · have hc2 := Hcut.out.2 hcn
          have Hc2 := hid hc2
          have hrn : r.length - n = 0 := by omega
          clear hc2
          subst hcn
          go_wp2
          go_round
          case rel => exact ⟨_, hid (Hc2.out _), Hlen.out, He2⟩
          case measure => simp [lenOfV]; omega
        · have Hc2 := hid (Hcut.out.1 hcn)
          go_wp2
          go_round
          case rel => exact ⟨_, hid Hc2.out, Hlen.out, He2⟩
          case measure => simp [lenOfV]; omega
end Go.Proofs.Ytcmdajkkdognfaa.Ut

namespace Go.Proofs.Ytcmdajkkdognfaa.Ut
open Go.RowKit
set_option linter.unusedVariables false
set_option linter.unusedSimpArgs false

/-- A string's bytes. -/
def bl (s : ByteArray) : List Nat := s.data.toList.map UInt8.toNat
theorem bl_length (s : ByteArray) : (bl s).length = s.size := by unfold bl; rw [List.length_map, Array.length_toList]; rfl
theorem bl_lt (s : ByteArray) : ∀ x ∈ bl s, x < 256 := by
  intro x hx
  obtain ⟨u, _, rfl⟩ := List.mem_map.1 hx
  exact UInt8.toNat_lt u
theorem bl_getD (s : ByteArray) (j : Nat) (h : j < s.size) : (bl s).getD j 0 = (s.data.toList.getD j 0).toNat := by
  have : j < s.data.toList.length := by rw [Array.length_toList]; exact h
  simp [bl, List.getD_eq_getElem?_getD, List.getElem?_map, List.getElem?_eq_getElem this]
theorem bl_inj {s t : ByteArray} (h : bl s = bl t) : s = t := by
  unfold bl at h
  have h2 := (List.map_inj_right (f := UInt8.toNat) (fun a b hab => UInt8.toNat_inj.1 hab)).1 h
  cases s; cases t
  simp at h2
  rw [h2]

end Go.Proofs.Ytcmdajkkdognfaa.Ut

namespace Go.Proofs.Ytcmdajkkdognfaa
open Go.RowKit
set_option linter.unusedVariables false
set_option linter.unusedSimpArgs false

def inS (L : List ByteArray) (s : ByteArray) : Bool := L.any fun x => decide (x = s)
/-- Block b of w is a map that holds true at the strings of L, and nothing else. -/
def SetM (P : Program) (k e : TypeId) (w : World) (b : Nat) (L : List ByteArray) : Prop :=
  ∃ D n, w.ownsMap (H := Unit) P k (plainElem P e) b n D ∧ n ≤ L.length ∧ Maps.IsMap D ∧ ∀ s : ByteArray, s.size ≤ maxLen → D.atKey (.string s.data.toList) (.lit (.bool false)) = .lit (.bool (inS L s))
section
variable {P : Program} {L : List (Nat × Value)} {w : World} {d : Option Tmp} {ty : TypeId} {ps : String} {af : Array Edge} {gu : Option (Nat × Bool)} {t k e : TypeId} {b : Nat} {S : List ByteArray}
theorem SetM.ext {w' : World} (h : SetM P k e w b S) (hb : Below w.heap.size w w') : SetM P k e w' b S := by
  obtain ⟨D, n, h1, h2, h3⟩ := h
  exact ⟨D, n, h1.kept (below_grown (r := none) hb) (by simp), h2, h3⟩
theorem SetM.grown {w' : World} {c : Nat} (h : SetM P k e w b S) (hg : w.grownBy w' (some c)) (hne : b ≠ c) : SetM P k e w' b S := by
  obtain ⟨D, n, h1, h2, h3⟩ := h
  exact ⟨D, n, h1.kept hg (fun e => hne (Option.some.inj e)), h2, h3⟩
theorem SetM.lt (h : SetM P k e w b S) : b < w.heap.size := by
  obtain ⟨D, n, h1, h2, h3⟩ := h
  exact h1.lt
end
end Go.Proofs.Ytcmdajkkdognfaa

namespace Go.Proofs.Ytcmdajkkdognfaa
open Go.RowKit
set_option linter.unusedVariables false
set_option linter.unusedSimpArgs false

/-- Below B nothing but block b is another. -/
structure KB (b B : Nat) (w w' : World) : Prop where
  os : w'.os = w.os
  tape : w'.tape = w.tape
  output : w'.output = w.output
  size : w.heap.size ≤ w'.heap.size
  block : ∀ k, k < B → k ≠ b → w'.heap[k]? = w.heap[k]?
section
variable {b B : Nat} {w w1 w2 : World}
theorem KB.refl (b B : Nat) (w : World) : KB b B w w := ⟨rfl, rfl, rfl, Nat.le_refl _, fun _ _ _ => rfl⟩
theorem KB.trans (h : KB b B w w1) (h2 : Below B w1 w2) : KB b B w w2 := ⟨h2.os.trans h.os, h2.tape.trans h.tape, h2.output.trans h.output, Nat.le_trans h.size h2.size, fun k hk hne => (h2.block k hk).trans (h.block k hk hne)⟩
theorem KB.wrote (h : KB b B w w1) (hg : w1.grownBy w2 (some b)) (hB : B ≤ w1.heap.size) : KB b B w w2 :=
  ⟨hg.os.trans h.os, hg.tape.trans h.tape, hg.output.trans h.output, Nat.le_trans h.size hg.size, fun k hk hne => (hg.block k (Nat.lt_of_lt_of_le hk hB) (fun e => hne (Option.some.inj e))).trans (h.block k hk hne)⟩
theorem KB.grown (h : KB b w.heap.size w w1) : w.grownBy w1 (some b) := ⟨h.os, h.tape, h.output, h.size, fun k hk hne => h.block k hk (fun e => hne (by rw [e]))⟩
end
section
variable {P : Program} {L : List (Nat × Value)} {w : World} {d : Option Tmp} {ty : TypeId} {ps : String} {af : Array Edge} {gu : Option (Nat × Bool)}
theorem r_nilCheck {x : Operand} {p : Addr} (hx : evO L x = some (.pointer (some p))) : Runs P L ⟨d, .nilCheck x, ty, ps, af, gu⟩ w (.pointer (some p)) w := by
  intro ρ hρ
  simp [execOp, hρ _ _ hx]
theorem d_callW {f : FuncId} {xs : Array Operand} {tys : Array TypeId} {vs : List Value} {fn : Func} {v : Value} {b T : Nat} {cs : Array Value} (hv : xs.toList.map (evO L) = vs.map some) (hf : P.funcs[f]? = some fn) (hb : fn.body.isNone = false) (hn : (fn.name == "runtime.NumGoroutine") = false)
    (hc : Calls P f vs.toArray w (fun e w' => e = .returned v ∧ Wrote w b cs T w')) : Does P L ⟨d, .call { callee := .value (.func f), args := xs, argTypes := tys }, ty, ps, af, gu⟩ w (fun u w' => u = v ∧ Wrote w b cs T w') :=
  d_callX hv hf hb hn (hc.mono (fun e w' h => ⟨v, h.1, rfl, h.2⟩))
end
end Go.Proofs.Ytcmdajkkdognfaa

namespace Go.Proofs.Ytcmdajkkdognfaa
open Go.RowKit
set_option linter.unusedVariables false
set_option linter.unusedSimpArgs false

/-- Below B nothing but the blocks of a list are others. -/
structure KS (S : List Nat) (B : Nat) (w w' : World) : Prop where
  os : w'.os = w.os
  tape : w'.tape = w.tape
  output : w'.output = w.output
  size : w.heap.size ≤ w'.heap.size
  block : ∀ k, k < B → k ∉ S → w'.heap[k]? = w.heap[k]?
section
variable {S S2 : List Nat} {b B : Nat} {w w1 w2 w' : World}
theorem KS.refl (S : List Nat) (B : Nat) (w : World) : KS S B w w := ⟨rfl, rfl, rfl, Nat.le_refl _, fun _ _ _ => rfl⟩
theorem KS.many (h : KS S B w w1) (h2 : KS S2 w1.heap.size w1 w2) (hs : ∀ b ∈ S2, b ∈ S ∨ B ≤ b) (hB : B ≤ w1.heap.size) : KS S B w w2 :=
  ⟨h2.os.trans h.os, h2.tape.trans h.tape, h2.output.trans h.output, Nat.le_trans h.size h2.size, fun k hk hne => (h2.block k (Nat.lt_of_lt_of_le hk hB) (fun hm => (hs k hm).elim hne (fun h => by omega))).trans (h.block k hk hne)⟩
theorem KS.trans (h : KS S B w w1) (h2 : Below B w1 w2) : KS S B w w2 := ⟨h2.os.trans h.os, h2.tape.trans h.tape, h2.output.trans h.output, Nat.le_trans h.size h2.size, fun k hk hne => (h2.block k hk).trans (h.block k hk hne)⟩
theorem KS.wrote (h : KS S B w w1) (hg : w1.grownBy w2 (some b)) (hB : B ≤ w1.heap.size) (hm : b ∈ S ∨ B ≤ b) : KS S B w w2 :=
  ⟨hg.os.trans h.os, hg.tape.trans h.tape, hg.output.trans h.output, Nat.le_trans h.size hg.size, fun k hk hne => (hg.block k (Nat.lt_of_lt_of_le hk hB) (fun e => by cases e; exact hm.elim hne (fun h => by omega))).trans (h.block k hk hne)⟩
theorem KS.of_belowB (h : Below B w w') : KS S B w w' := ⟨h.os, h.tape, h.output, h.size, fun k hk _ => h.block k hk⟩
theorem KS.of_below (h : Below w.heap.size w w') : KS S w.heap.size w w' := ⟨h.os, h.tape, h.output, h.size, fun k hk _ => h.block k hk⟩
theorem KS.grown1 (h : KS [b] w.heap.size w w') : w.grownBy w' (some b) := ⟨h.os, h.tape, h.output, h.size, fun k hk hne => h.block k hk (fun e => hne (by rw [List.mem_singleton.1 e]))⟩
theorem KS.below (h : KS [] B w w') : Below B w w' := ⟨h.os, h.tape, h.output, h.size, fun k hk => h.block k hk (by simp)⟩
theorem KS.sub (h : KS S B w w') (hs : ∀ b ∈ S, b ∈ S2) : KS S2 B w w' := ⟨h.os, h.tape, h.output, h.size, fun k hk hne => h.block k hk (fun hm => hne (hs k hm))⟩
theorem blk_ks {o : Obj} (hb : w.heap[b]? = some o) (h : KS S w.heap.size w w') (hn : b ∉ S) : w'.heap[b]? = some o := (h.block b (Array.getElem?_eq_some_iff.1 hb).1 hn).trans hb
theorem Row.ks {α : Type} {k e base : Nat} {V : α → List Value} {v : Value} {l : List α} (h : Row k V e base w v l) (hk : KS S w.heap.size w w') (hn : ∀ b ∈ S, v.ownBlock ≠ Option.some b) : Row k V e base w' v l := by
  refine ⟨h.1, ?_⟩
  rcases h.2 with hz | ⟨g, cap, cur, rfl, hb, hgg, rest⟩
  · exact .inl hz
  · exact .inr ⟨g, cap, cur, rfl, hb, blk_ks hgg hk (fun hm => hn g hm rfl), rest⟩
end
theorem Row.base_le {α : Type} {k e base n c : Nat} {V : α → List Value} {w : World} {a : Option Addr} {l : List α} (h : Row k V e base w (.slice a n c) l) (h0 : 0 < l.length) : base ≤ w.heap.size := by
  obtain ⟨g, _, h1, h2⟩ := h.some h0
  omega
/-- Nothing but block b and a row's own block is another. -/
structure GO (w : World) (b : Nat) (v : Value) (w' : World) : Prop where
  os : w'.os = w.os
  tape : w'.tape = w.tape
  output : w'.output = w.output
  size : w.heap.size ≤ w'.heap.size
  block : ∀ k, k < w.heap.size → k ≠ b → some k ≠ v.ownBlock → w'.heap[k]? = w.heap[k]?
section
variable {w w1 w2 : World} {b : Nat} {v : Value}
theorem GO.refl (w : World) (b : Nat) (v : Value) : GO w b v w := ⟨rfl, rfl, rfl, Nat.le_refl _, fun _ _ _ _ => rfl⟩
theorem GO.below (h : GO w b v w1) (h2 : Below w1.heap.size w1 w2) : GO w b v w2 := ⟨h2.os.trans h.os, h2.tape.trans h.tape, h2.output.trans h.output, Nat.le_trans h.size h2.size, fun k hk h3 h4 => (h2.block k (Nat.lt_of_lt_of_le hk h.size)).trans (h.block k hk h3 h4)⟩
theorem GO.call (h : GO w b v w1) (hg : w1.grownBy w2 (some b)) : GO w b v w2 := ⟨hg.os.trans h.os, hg.tape.trans h.tape, hg.output.trans h.output, Nat.le_trans h.size hg.size, fun k hk h3 h4 => (hg.block k (Nat.lt_of_lt_of_le hk h.size) (fun e => h3 (Option.some.inj e))).trans (h.block k hk h3 h4)⟩
end
theorem evs_of {L : List (Nat × Value)} {xs : Array Operand} {vs : List Value} (hv : xs.toList.map (evO L) = vs.map some) {ρ : Operand → Value} (ha : ∀ x v, evO L x = some v → ρ x = v) : xs.map ρ = vs.toArray := by
  apply Array.ext'
  simp only [Array.toList_map]
  have : ∀ (l : List Operand) (us : List Value), l.map (evO L) = us.map some → l.map ρ = us := by
    intro l
    induction l with
    | nil => intro us h; cases us with | nil => rfl | cons u us => simp at h
    | cons x l ih =>
      intro us h
      cases us with
      | nil => simp at h
      | cons u us =>
        simp only [List.map_cons, List.cons.injEq] at h ⊢
        exact ⟨ha x u h.1, ih us h.2⟩
  exact this _ _ hv
section
variable {P : Program} {L : List (Nat × Value)} {w : World} {d : Option Tmp} {ty : TypeId} {ps : String} {af : Array Edge} {gu : Option (Nat × Bool)}
/-- The bytes of a string, of a block. -/
def StrC (cs : Array Value) (s : ByteArray) : Prop := ∀ j, j < s.size → cs[j]? = some (.int .u8 ((sbt s j : Nat) : Int))
theorem StrC.rd {b e : Nat} {cs : Array Value} {fr : Nat × Nat} {s : ByteArray} (hb : w.heap[b]? = some (.cells cs e fr)) (h : StrC cs s) : RdS 1 (vInt .u8) w (some ⟨b, 0, none⟩) (nums s) := by
  intro j x hx
  have hj : j < s.size := by rw [← nums_len]; exact (List.getElem?_eq_some_iff.1 hx).1
  refine ⟨b, 0, rfl, blk_lt hb, fun i u hu => ?_⟩
  rw [nums_get hj] at hx
  cases hx
  cases i with
  | zero => cases hu; exact cell_blk hb (by rw [Nat.zero_add, Nat.mul_one]; exact h j hj)
  | succ i => cases hu
theorem d_callR {f : FuncId} {xs : Array Operand} {tys : Array TypeId} {vs : List Value} {fn : Func} {v : Value} {R0 : World → Prop} (hv : xs.toList.map (evO L) = vs.map some) (hf : P.funcs[f]? = some fn) (hb : fn.body.isNone = false) (hn : (fn.name == "runtime.NumGoroutine") = false)
    (hc : Calls P f vs.toArray w (fun e w' => e = .returned v ∧ R0 w')) : Does P L ⟨d, .call { callee := .value (.func f), args := xs, argTypes := tys }, ty, ps, af, gu⟩ w (fun u w' => u = v ∧ R0 w') :=
  d_callX hv hf hb hn (hc.mono fun e w' h => ⟨v, h.1, rfl, h.2⟩)
theorem r_makeFunc {k : FuncId} {xs : Array Operand} {vs : List Value} (hv : xs.toList.map (evO L) = vs.map some) : Runs P L ⟨d, .makeFunc (.func k) #[] xs, ty, ps, af, gu⟩ w (.func (.func k) #[] vs.toArray) w := by
  intro ρ hρ
  simp only [execOp, evs_of hv hρ]
  simp [Instr.makeFunc]
/-- A function value that can be entered. -/
def Enters (P : Program) (k : FuncId) : Prop := ∀ (args : Array Value) (w : World), (callFunc k args).run P w = .ok (.enter k args) w
theorem enters {k : FuncId} {fn : Func} (hf : P.funcs[k]? = some fn) (hb : fn.body.isNone = false) (hn : (fn.name == "runtime.NumGoroutine") = false) : Enters P k := fun args w => callee_ok hf hb hn args
theorem d_callF {k : FuncId} {x : Operand} {xs : Array Operand} {tys : Array TypeId} {vs : List Value} {caps ags : Array Value} {R : Value → World → Prop} (hx : evO L x = some (.func (.func k) #[] caps)) (hv : xs.toList.map (evO L) = vs.map some) (has : vs.toArray ++ caps = ags) (hin : Enters P k)
    (hc : Calls P k ags w (fun e w' => ∃ v, e = .returned v ∧ R v w')) : Does P L ⟨d, .call { callee := .value x, args := xs, argTypes := tys }, ty, ps, af, gu⟩ w R := by
  intro a K Q ha hK
  unfold Oper.wp
  have he := evs_of hv ha
  have hr : (execOp a.eval ⟨d, .call { callee := .value x, args := xs, argTypes := tys }, ty, ps, af, gu⟩).run P w = .ok (.enter k ags) w := by
    have h3 := ha x _ hx
    have h4 := hin ags w
    simp only [execOp, resolve, he, h3, Deferred.ofValue]
    simp [invoke, has, h4]
  rw [hr]
  simp only [Oper.upon]
  refine Calls.mono hc fun e w' he => ?_
  obtain ⟨v, rfl, h⟩ := he
  exact hK v w' h
end
/-- Where a part of a slice lies. -/
def slAt (a : Option Addr) (c l k : Nat) : Option Addr := if c = l then a else a.map (·.add (l * k))
theorem slAt_nocap {a : Option Addr} {c l k : Nat} (h : a = none → c = 0) : slAt a c l k = none → c - l = 0 := by
  unfold slAt
  split
  · intro _; omega
  · cases a with
    | none => intro _; have := h rfl; omega
    | some x => intro h; cases h
theorem slAt_rd {α : Type} {k e base n c l : Nat} {V : α → List Value} {w : World} {a : Option Addr} {L X : List α} (hk : ∀ x, (V x).length = k) (h : Row k V e base w (.slice a n c) L) (hX : (L.drop l).take X.length = X) (hl : l + X.length ≤ L.length) : RdS k V w (slAt a c l k) X := by
  rcases Nat.eq_zero_or_pos X.length with h0 | h0
  · rw [List.length_eq_zero_iff.1 h0]; exact RdS.nil
  · obtain ⟨b, rfl, _, _⟩ := h.some (by omega)
    have hc := h.caps
    have he : slAt (some ⟨b, 0, none⟩) c l k = some ⟨b, 0 + l * k, none⟩ := by
      unfold slAt
      rw [if_neg (by omega)]
      simp [Addr.add]
      intro h; exact h.symm
    rw [he, ← hX]
    exact ((Row.rd hk h).drop l).take _
section
variable {P : Program} {L : List (Nat × Value)} {w : World} {d : Option Tmp} {ty : TypeId} {ps : String} {af : Array Edge} {gu : Option (Nat × Bool)}
theorem r_slab {t e : TypeId} {x lo hi : Operand} {k k2 : IntKind} {A B : Int} {a : Option Addr} {n c l h sz : Nat} (hx : evO L x = some (.slice a n c)) (hlo : evO L lo = some (.int k A)) (hhi : evO L hi = some (.int k2 B)) (ht : P.underlying t = some (.slice e)) (hs : (P.info? e).map (fun i => i.size) = some sz) (hA : A = l) (hB : B = h) (h1 : l ≤ h) (h2 : h ≤ c) :
    Runs P L ⟨d, .slice t x (some lo) (some hi) none, ty, ps, af, gu⟩ w (.slice (slAt a c l sz) (h - l) (c - l)) w := by
  intro ρ hρ
  obtain ⟨ii, hii, hsz⟩ : ∃ ii, P.info? e = some ii ∧ ii.size = sz := by
    cases hq : P.info? e with
    | none => rw [hq] at hs; cases hs
    | some ii => exact ⟨ii, rfl, by rw [hq] at hs; simpa using hs⟩
  have he : P.elem t = e := by simp [Program.elem, ht]
  subst hA hB hsz
  have h1' := run_sliceAt_slice (P := P) w t (.slice a n c) (some (.int k (l : Int))) (some (.int k2 (h : Int))) none (by rw [he]; exact ht)
  have h2' := run_slice_lh (P := P) w t a n c (by rw [he]; exact ht) k k2 l h (by omega) (by omega) (by omega)
  simp only [execOp, hρ x _ hx, Option.map_none, Option.map_some, hρ lo _ hlo, hρ hi _ hhi]
  simp only [Sem.run_bind, h1', h2', he, sizeOf, typeInfo]
  simp [hii, sliced, slAt]
end
section
variable {P : Program} {fn : Func} {R : Ending → World → Prop} {a : Act} {N : Nat} {L : List (Nat × Value)} {w : World}
theorem retTC {s p : Tmp} {T T2 : TypeId} {b : Nat} {cs : Array Value} {fr : Nat × Nat} {td : TypeDesc} {u : Value} (hf : Fr N a L) (hr : fn.results = #[.tmp s, .cell p T]) (hs : lk L s = some u) (hp : lk L p = some (.pointer (some ⟨b, 0, none⟩)))
    (hb : w.heap[b]? = some (.cells cs T2 fr)) (hu : P.underlying T = some td) (hd : plainT td = false) (hi : (P.info? T).map (·.size) = some cs.size) (hR : R (.returned (.tuple #[u, .agg cs])) w) : bodyPost P fn R .ret a w := by
  refine bodyPost_ret (v := .tuple #[u, .agg cs]) ?_ hf.defers hR
  simp [results, hr, hf.has s _ hs, hf.has p _ hp, asAddr, load_cell hb hu hd hi]
end
end Go.Proofs.Ytcmdajkkdognfaa

namespace Go.Proofs.Ytcmdajkkdognfaa
open Go.RowKit
set_option linter.unusedVariables false
set_option linter.unusedSimpArgs false
abbrev MSr := (Int × ByteArray × ByteArray × Int × Unit)
def vMSr : MSr → List Value := (fun d => (vInt .i64) d.1 ++ (fun d => vStr d.1 ++ (fun d => vStr d.1 ++ (fun d => (vInt .i64) d.1 ++ (fun _ => []) d.2) d.2) d.2) d.2)
theorem oneMSr : ∀ x, ∀ u ∈ vMSr x, u.oneCell' = true := by
  intro x u hu
  have hu : u ∈ [(.int .i64 x.1), (.string x.2.1), (.string x.2.2.1), (.int .i64 x.2.2.2.1)] := hu
  simp only [List.mem_cons, List.not_mem_nil, or_false] at hu
  rcases hu with rfl | rfl | rfl | rfl <;> rfl
/-- A section in memory whose bytes can be read. -/
structure SecG (w : World) (x : MSec) : Prop where
  id : 0 ≤ x.1 ∧ x.1 < 256
  rd : RdS 1 (vInt .u8) w x.2.2.1.at' x.2.2.1.list
  rng : ∀ y ∈ x.2.2.1.list, 0 ≤ y ∧ y < (256 : Int)
  cap : x.2.2.1.len ≤ x.2.2.1.cap
  nil : x.2.2.1.at' = none → x.2.2.1.cap = 0
theorem SecG.ext {w w' : World} {x : MSec} (h : SecG w x) (hb : Below w.heap.size w w') : SecG w' x := ⟨h.id, RdS.ext h.rd hb, h.rng, h.cap, h.nil⟩
/-- What is behind a section's number and length. -/
def secB (id : Int) (nm : ByteArray) (bd : List Int) : List Int := if id = 0 then (uL nm.size ++ nums nm) ++ bd else bd
def encX (id : Int) (nm : ByteArray) (bd : List Int) : List Int := ([id] ++ uL (secB id nm bd).length) ++ secB id nm bd
def encS (x : MSec) : List Int := encX x.1 x.2.1 x.2.2.1.list
theorem secB_len (id : Int) (nm : ByteArray) (bd : List Int) (h : nm.size ≤ 1000000) : (secB id nm bd).length ≤ 10 + nm.size + bd.length := by
  unfold secB
  split
  · have := uL_len nm.size (by omega)
    rw [List.length_append, List.length_append, nums_len]; omega
  · omega
theorem encX_len (id : Int) (nm : ByteArray) (bd : List Int) (h : nm.size ≤ 1000000) (h2 : bd.length ≤ 1000000) : 2 ≤ (encX id nm bd).length ∧ (encX id nm bd).length ≤ 21 + nm.size + bd.length := by
  have a := secB_len id nm bd h
  have b := uL_len (secB id nm bd).length (by omega)
  unfold encX
  rw [List.length_append, List.length_append, List.length_singleton]; omega
theorem encX_rng (id : Int) (nm : ByteArray) (bd : List Int) (h : 0 ≤ id ∧ id < 256) (hb : ∀ y ∈ bd, 0 ≤ y ∧ y < (256 : Int)) : ∀ y ∈ encX id nm bd, 0 ≤ y ∧ y < 256 := by
  have hs : ∀ y ∈ secB id nm bd, 0 ≤ y ∧ y < (256 : Int) := by
    intro y hy
    unfold secB at hy
    split at hy
    · rcases List.mem_append.1 hy with hy | hy
      · rcases List.mem_append.1 hy with hy | hy
        · exact uL_rng _ y hy
        · exact nums_rng _ y hy
      · exact hb y hy
    · exact hb y hy
  intro y hy
  unfold encX at hy
  rcases List.mem_append.1 hy with hy | hy
  · rcases List.mem_append.1 hy with hy | hy
    · rw [List.mem_singleton] at hy; subst hy; exact h
    · exact uL_rng _ y hy
  · exact hs y hy
def secRef (x : MSec) : MSr := (x.1, x.2.1, strOfNums x.2.2.1.list, 0, ())
/-- The document's bytes of a section. -/
def secR (y : MSr) : ByteArray := if y.1 = 0 then (cntS y.2.1.size ++ y.2.1) ++ y.2.2.1 else y.2.2.1
def encR (y : MSr) : ByteArray := (strOfNums [y.1] ++ cntS (secR y).size) ++ secR y
theorem encR_ref (x : MSec) : encR (secRef x) = strOfNums (encS x) := by
  have h : secR (secRef x) = strOfNums (secB x.1 x.2.1 x.2.2.1.list) := by
    unfold secR secB secRef
    by_cases c : x.1 = 0
    · rw [if_pos c, if_pos c, strOfNums_app, strOfNums_app, strOfNums_nums]; rfl
    · rw [if_neg c, if_neg c]
  unfold encR
  rw [h, strOfNums_size]
  unfold encS encX cntS
  rw [strOfNums_app, strOfNums_app]; rfl
theorem secR_len (y : MSr) (h : y.2.1.size ≤ 1000000) : (secR y).size ≤ 10 + y.2.1.size + y.2.2.1.size := by
  unfold secR
  split
  · have := cntS_le (n := y.2.1.size) (by omega)
    rw [ByteArray.size_append, ByteArray.size_append]; omega
  · omega
theorem encR_len (y : MSr) (h : y.2.1.size ≤ 1000000) (h2 : y.2.2.1.size ≤ 1000000) : (encR y).size ≤ 21 + y.2.1.size + y.2.2.1.size := by
  have a := secR_len y h
  have b := cntS_le (n := (secR y).size) (by omega)
  have c := strOfNums_size [y.1]
  rw [List.length_singleton] at c
  unfold encR
  rw [ByteArray.size_append, ByteArray.size_append]; omega
def headL : List Int := [(0 : Int), 97, 115, 109, 1, 0, 0, 0]
def joinL (l : List MSec) : List Int := l.foldl (fun a x => a ++ encS x) headL
def joinR (l : List MSr) : ByteArray := l.foldl (fun a y => a ++ encR y) (⟨#[0, 97, 115, 109, 1, 0, 0, 0]⟩ : ByteArray)
theorem foldl_str (l : List MSec) : ∀ (a : List Int), (l.map secRef).foldl (fun a y => a ++ encR y) (strOfNums a) = strOfNums (l.foldl (fun a x => a ++ encS x) a) := by
  induction l with
  | nil => intro a; rfl
  | cons x l ih =>
    intro a
    show (l.map secRef).foldl _ (strOfNums a ++ encR (secRef x)) = strOfNums (l.foldl _ (a ++ encS x))
    rw [encR_ref, ← strOfNums_app]
    exact ih _
theorem joinR_ref (l : List MSec) : joinR (l.map secRef) = strOfNums (joinL l) := foldl_str l headL
theorem foldl_take {α : Type} (f : α → List Int) (l : List α) (a : List Int) {k : Nat} {x : α} (h : l[k]? = some x) : (l.take (k + 1)).foldl (fun a x => a ++ f x) a = (l.take k).foldl (fun a x => a ++ f x) a ++ f x := by
  rw [List.take_add_one, h, List.foldl_append]; rfl
theorem foldl_takeR (l : List MSr) (a : ByteArray) {k : Nat} {x : MSr} (h : l[k]? = some x) : (l.take (k + 1)).foldl (fun a x => a ++ encR x) a = (l.take k).foldl (fun a x => a ++ encR x) a ++ encR x := by
  rw [List.take_add_one, h, List.foldl_append]; rfl
theorem foldl_len {α : Type} (f : α → List Int) (B : Nat) (l : List α) (h : ∀ x ∈ l, (f x).length ≤ B) : ∀ a : List Int, (l.foldl (fun a x => a ++ f x) a).length ≤ a.length + l.length * B := by
  induction l with
  | nil => intro a; simp
  | cons x l ih =>
    intro a
    have h1 := ih (fun y hy => h y (List.mem_cons_of_mem _ hy)) (a ++ f x)
    have h2 := h x (List.mem_cons_self ..)
    rw [List.foldl_cons, List.length_cons, Nat.succ_mul]
    rw [List.length_append] at h1
    omega
theorem foldl_lenR (B : Nat) (l : List MSr) (h : ∀ x ∈ l, (encR x).size ≤ B) : ∀ a : ByteArray, (l.foldl (fun a x => a ++ encR x) a).size ≤ a.size + l.length * B := by
  induction l with
  | nil => intro a; simp
  | cons x l ih =>
    intro a
    have h1 := ih (fun y hy => h y (List.mem_cons_of_mem _ hy)) (a ++ encR x)
    have h2 := h x (List.mem_cons_self ..)
    rw [List.foldl_cons, List.length_cons, Nat.succ_mul]
    rw [ByteArray.size_append] at h1
    omega
theorem uint_rowN (N n : Nat) (h : N = n) (h2 : N < 4611686018427387904) (w : World) : Calls Try.prog 110 #[.int .u64 ((n : Nat) : Int)] w fun e w' => ∃ v, e = .returned v ∧ Row 1 (vInt .u8) 5 w.heap.size w' v (uL N) ∧ Below w.heap.size w w' := by
  subst h
  exact uint_row N (by omega) w

set_option maxHeartbeats 1000000 in
set_option maxRecDepth 100000 in
theorem sput_any (xs : MSec) (w : World) (g : SecG w xs) (h1 : xs.2.1.size ≤ 1000) (h2 : xs.2.2.1.len ≤ 1000) : Calls Try.prog 82 #[(.agg #[(.int .u8 xs.1), (.string xs.2.1), (.slice xs.2.2.1.at' xs.2.2.1.len xs.2.2.1.cap), (.int .i64 xs.2.2.2.1)])] w fun e w' => ∃ v, e = .returned v ∧ Row 1 (vInt .u8) 5 w.heap.size w' v (encS xs) ∧ Below w.heap.size w w' := by
  have hbl := Sl.list_length xs.2.2.1
  have hsb := secB_len xs.1 xs.2.1 xs.2.2.1.list (by omega)
  have hu1 := uL_len xs.2.1.size (by omega)
  have hu2 := uL_len (secB xs.1 xs.2.1 xs.2.2.1.list).length (by omega)
  have hcp := g.cap
  refine sx_enter (L := [(0, (.agg #[(.int .u8 xs.1), (.string xs.2.1), (.slice xs.2.2.1.at' xs.2.2.1.len xs.2.2.1.cap), (.int .i64 xs.2.2.2.1)]))]) Try.func82 rfl rfl rfl rfl (fun fa hf => ?_)
  have hb : Below w.heap.size w w := Below.refl _ _
  refine wp_seq_k (fun K1 hK1 => ?_)
  refine wp_region_lit ?_
  refine sqdt hf (d_box (cs := #[(.int .u8 xs.1), (.string xs.2.1), (.slice xs.2.2.1.at' xs.2.2.1.len xs.2.2.1.cap), (.int .i64 xs.2.2.2.1)]) rfl rfl) rfl rfl rfl ?_; clear hf fa; rintro fa _ w1 ⟨b1, rfl, hle1, hk1, he1⟩ hf
  have hBb1 : w.heap.size ≤ b1 := Nat.le_trans hb.size hle1
  replace hb := hb.trans (Below.mono he1 hb.size)
  refine sqv hf (r_assign rfl) rfl rfl rfl ?_; clear hf fa; intro fa hf
  apply wpList_nil
  (try simp only [Exit.then, Exit.inBlock, ↓reduceIte, Nat.reduceEqDiff])
  refine hK1 _ _ ?_
  refine wp_seq_k (fun K2 hK2 => ?_)
  refine wp_region_lit ?_
  refine sqv hf (r_fa rfl Try.underlying119 (f := 2) (q := 2) rfl (by kernel_rfl) rfl) rfl rfl rfl ?_; clear hf fa; intro fa hf
  refine sqv hf (r_load (v := (.slice xs.2.2.1.at' xs.2.2.1.len xs.2.2.1.cap)) rfl Try.underlying47 rfl (cell_blk hk1 rfl)) rfl rfl rfl ?_; clear hf fa; intro fa hf
  refine sqv hf (r_assign rfl) rfl rfl rfl ?_; clear hf fa; intro fa hf
  apply wpList_nil
  (try simp only [Exit.then, Exit.inBlock, ↓reduceIte, Nat.reduceEqDiff])
  refine hK2 _ _ ?_
  refine wp_seq_k (fun K3 hK3 => ?_)
  refine wp_seq_k (fun K4 hK4 => ?_)
  refine wp_region_lit ?_
  refine sqv hf (r_fa rfl Try.underlying119 (f := 0) (q := 0) rfl (by kernel_rfl) rfl) rfl rfl rfl ?_; clear hf fa; intro fa hf
  refine sqv hf (r_load (v := (.int .u8 xs.1)) rfl Try.underlying5 rfl (cell_blk hk1 rfl)) rfl rfl rfl ?_; clear hf fa; intro fa hf
  refine sqv hf (r_eq rfl rfl) rfl rfl rfl ?_; clear hf fa; intro fa hf
  apply wpList_nil
  (try simp only [Exit.then, Exit.inBlock, ↓reduceIte, Nat.reduceEqDiff])
  refine hK4 _ _ ?_
  refine wp_cond_split (t := (decide (xs.1 = (0 : Int)))) (hf.ev rfl) (fun hqt9_1 => ?_) (fun hqt9_1 => ?_)
  · have hqt9_1b := hqt9_1
    try simp only [decide_eq_true_eq, Bool.and_eq_true, Bool.or_eq_true, Bool.not_eq_true', decide_eq_false_iff_not, ne_eq, Bool.not_eq_true] at hqt9_1
    refine wp_region_vnT 11 (fun _ wq => Below w1.heap.size w1 wq)
      (fun V S => [(fun x _ => x = (.pointer (some ⟨b1, 1, none⟩))), (fun x _ => x = (.string xs.2.1)), (fun x _ => x = (.int .i64 ((xs.2.1.size : Nat) : Int))), (fun x _ => x = (.int .u64 ((xs.2.1.size : Nat) : Int))), (fun x wq => ∃ b, (∃ c, x = .slice (some ⟨b, 0, none⟩) (((uL xs.2.1.size)).length) c) ∧ w1.heap.size ≤ b ∧ (¬ S 7 → Row 1 (vInt .u8) 5 w1.heap.size wq x (uL xs.2.1.size))), (fun x _ => x = (.pointer (some ⟨b1, 1, none⟩))), (fun x _ => x = (.string xs.2.1)), (fun x wq => ∃ b, (∃ c, x = .slice (some ⟨b, 0, none⟩) ((uL xs.2.1.size) ++ (nums xs.2.1)).length c) ∧ w1.heap.size ≤ b ∧ (¬ S 10 → Row 1 (vInt .u8) 5 w1.heap.size wq x ((uL xs.2.1.size) ++ (nums xs.2.1)))), (fun x _ => x = (.pointer (some ⟨b1, 2, none⟩))), (fun x _ => x = (.slice xs.2.2.1.at' xs.2.2.1.len xs.2.2.1.cap)), (fun x wq => ∃ b, (∃ c, x = .slice (some ⟨b, 0, none⟩) (((uL xs.2.1.size) ++ (nums xs.2.1)) ++ xs.2.2.1.list).length c) ∧ w1.heap.size ≤ b ∧ Row 1 (vInt .u8) 5 w1.heap.size wq x (((uL xs.2.1.size) ++ (nums xs.2.1)) ++ xs.2.2.1.list))])
      [4]
      [[], [0], [1], [2], [3], [], [5], [4, 6], [], [8], [7, 9], []]
      hf (by kernel_rfl) (by kernel_rfl) (by kernel_rfl) (fun _ _ => rfl) (fun _ hS_ => (Below.refl _ _).drew) (fun _ _ _ _ _ _ => rfl) ?_ ?_
    · skip
      intro V
      have hKP : ∀ (i : Nat) (S : Nat → Prop) (wk : World), (∀ q ∈ ([7, 10] : List Nat), q ≠ i) → ∀ j v w', (((fun (S : Nat → Prop) => ([(fun x _ => x = (.pointer (some ⟨b1, 1, none⟩))), (fun x _ => x = (.string xs.2.1)), (fun x _ => x = (.int .i64 ((xs.2.1.size : Nat) : Int))), (fun x _ => x = (.int .u64 ((xs.2.1.size : Nat) : Int))), (fun x wq => ∃ b, (∃ c, x = .slice (some ⟨b, 0, none⟩) (((uL xs.2.1.size)).length) c) ∧ w1.heap.size ≤ b ∧ (¬ S 7 → Row 1 (vInt .u8) 5 w1.heap.size wq x (uL xs.2.1.size))), (fun x _ => x = (.pointer (some ⟨b1, 1, none⟩))), (fun x _ => x = (.string xs.2.1)), (fun x wq => ∃ b, (∃ c, x = .slice (some ⟨b, 0, none⟩) ((uL xs.2.1.size) ++ (nums xs.2.1)).length c) ∧ w1.heap.size ≤ b ∧ (¬ S 10 → Row 1 (vInt .u8) 5 w1.heap.size wq x ((uL xs.2.1.size) ++ (nums xs.2.1)))), (fun x _ => x = (.pointer (some ⟨b1, 2, none⟩))), (fun x _ => x = (.slice xs.2.2.1.at' xs.2.2.1.len xs.2.2.1.cap)), (fun x wq => ∃ b, (∃ c, x = .slice (some ⟨b, 0, none⟩) (((uL xs.2.1.size) ++ (nums xs.2.1)) ++ xs.2.2.1.list).length c) ∧ w1.heap.size ≤ b ∧ Row 1 (vInt .u8) 5 w1.heap.size wq x (((uL xs.2.1.size) ++ (nums xs.2.1)) ++ xs.2.2.1.list))] : List (Value → World → Prop))) S).getD j (fun _ _ => True)) v wk → Below wk.heap.size wk w' → (((fun (S : Nat → Prop) => ([(fun x _ => x = (.pointer (some ⟨b1, 1, none⟩))), (fun x _ => x = (.string xs.2.1)), (fun x _ => x = (.int .i64 ((xs.2.1.size : Nat) : Int))), (fun x _ => x = (.int .u64 ((xs.2.1.size : Nat) : Int))), (fun x wq => ∃ b, (∃ c, x = .slice (some ⟨b, 0, none⟩) (((uL xs.2.1.size)).length) c) ∧ w1.heap.size ≤ b ∧ (¬ S 7 → Row 1 (vInt .u8) 5 w1.heap.size wq x (uL xs.2.1.size))), (fun x _ => x = (.pointer (some ⟨b1, 1, none⟩))), (fun x _ => x = (.string xs.2.1)), (fun x wq => ∃ b, (∃ c, x = .slice (some ⟨b, 0, none⟩) ((uL xs.2.1.size) ++ (nums xs.2.1)).length c) ∧ w1.heap.size ≤ b ∧ (¬ S 10 → Row 1 (vInt .u8) 5 w1.heap.size wq x ((uL xs.2.1.size) ++ (nums xs.2.1)))), (fun x _ => x = (.pointer (some ⟨b1, 2, none⟩))), (fun x _ => x = (.slice xs.2.2.1.at' xs.2.2.1.len xs.2.2.1.cap)), (fun x wq => ∃ b, (∃ c, x = .slice (some ⟨b, 0, none⟩) (((uL xs.2.1.size) ++ (nums xs.2.1)) ++ xs.2.2.1.list).length c) ∧ w1.heap.size ≤ b ∧ Row 1 (vInt .u8) 5 w1.heap.size wq x (((uL xs.2.1.size) ++ (nums xs.2.1)) ++ xs.2.2.1.list))] : List (Value → World → Prop))) (ad i S)).getD j (fun _ _ => True)) v w' := by
        intro i S wk hi j v w' h hB
        match j with
        | 0 =>
          exact h
        | 1 =>
          exact h
        | 2 =>
          exact h
        | 3 =>
          exact h
        | 4 =>
          obtain ⟨b, e1, e2, e3⟩ := h
          exact ⟨b, e1, e2, fun hn => Row.ext (e3 (fun hs => hn (.inr hs))) hB⟩
        | 5 =>
          exact h
        | 6 =>
          exact h
        | 7 =>
          obtain ⟨b, e1, e2, e3⟩ := h
          exact ⟨b, e1, e2, fun hn => Row.ext (e3 (fun hs => hn (.inr hs))) hB⟩
        | 8 =>
          exact h
        | 9 =>
          exact h
        | 10 =>
          obtain ⟨b, e1, e2, e3⟩ := h
          exact ⟨b, e1, e2, Row.ext e3 hB⟩
        | _ + 11 => trivial
      refine ⟨fun S wu0 hC hS hd hi => ?_, ?_⟩
      · skip
        replace hC : Below w1.heap.size w1 wu0 := hC
        refine uv_plain (C := (fun _ wq => Below w1.heap.size w1 wq)) (hKP 0 S wu0 (by decide)) (fun _ h1 h2 => Below.trans h1 (Below.mono h2 (Below.size h1))) hC hS ?_
        replace hb := hb.trans (hC.mono hb.size)
        replace hk1 := blk_ext hk1 hC
        exact Runs.does (r_fa rfl Try.underlying119 (f := 1) (q := 1) rfl (by kernel_rfl) rfl) ⟨Below.refl _ _, rfl, nofr rfl⟩
      refine ⟨fun S wu1 hC hS hd hi => ?_, ?_⟩
      · skip
        replace hC : Below w1.heap.size w1 wu1 := hC
        refine uv_plain (C := (fun _ wq => Below w1.heap.size w1 wq)) (hKP 1 S wu1 (by decide)) (fun _ h1 h2 => Below.trans h1 (Below.mono h2 (Below.size h1))) hC hS ?_
        have h0 := hS.post 0 (hd 0 (by decide))
        replace h0 : V 0 = (.pointer (some ⟨b1, 1, none⟩)) := h0
        replace hb := hb.trans (hC.mono hb.size)
        replace hk1 := blk_ext hk1 hC
        exact Runs.does (r_load (v := (.string xs.2.1)) (congrArg some h0) Try.underlying9 rfl (cell_blk hk1 rfl)) ⟨Below.refl _ _, rfl, nofr rfl⟩
      refine ⟨fun S wu2 hC hS hd hi => ?_, ?_⟩
      · skip
        replace hC : Below w1.heap.size w1 wu2 := hC
        refine uv_plain (C := (fun _ wq => Below w1.heap.size w1 wq)) (hKP 2 S wu2 (by decide)) (fun _ h1 h2 => Below.trans h1 (Below.mono h2 (Below.size h1))) hC hS ?_
        have h1 := hS.post 1 (hd 1 (by decide))
        replace h1 : V 1 = (.string xs.2.1) := h1
        replace hb := hb.trans (hC.mono hb.size)
        replace hk1 := blk_ext hk1 hC
        exact Runs.does (r_lens (congrArg some h1) Try.underlying9) ⟨Below.refl _ _, rfl, nofr rfl⟩
      refine ⟨fun S wu3 hC hS hd hi => ?_, ?_⟩
      · skip
        replace hC : Below w1.heap.size w1 wu3 := hC
        refine uv_plain (C := (fun _ wq => Below w1.heap.size w1 wq)) (hKP 3 S wu3 (by decide)) (fun _ h1 h2 => Below.trans h1 (Below.mono h2 (Below.size h1))) hC hS ?_
        have h2 := hS.post 2 (hd 2 (by decide))
        replace h2 : V 2 = (.int .i64 ((xs.2.1.size : Nat) : Int)) := h2
        replace hb := hb.trans (hC.mono hb.size)
        replace hk1 := blk_ext hk1 hC
        exact Runs.does (r_conv (C := ((xs.2.1.size : Nat) : Int)) (congrArg some h2) Try.underlying3 Try.underlying55 (by rw [IntKind.wrap_u64]; omega)) ⟨Below.refl _ _, rfl, nofr rfl⟩
      refine ⟨fun S wu4 hC hS hd hi => ?_, ?_⟩
      · skip
        replace hC : Below w1.heap.size w1 wu4 := hC
        refine uv_plain (C := (fun _ wq => Below w1.heap.size w1 wq)) (hKP 4 S wu4 (by decide)) (fun _ h1 h2 => Below.trans h1 (Below.mono h2 (Below.size h1))) hC hS ?_
        have h3 := hS.post 3 (hd 3 (by decide))
        replace h3 : V 3 = (.int .u64 ((xs.2.1.size : Nat) : Int)) := h3
        replace hb := hb.trans (hC.mono hb.size)
        replace hk1 := blk_ext hk1 hC
        refine Does.mono (d_callX (vs := [(.int .u64 ((xs.2.1.size : Nat) : Int))]) (show [some (V 3)] = [some (.int .u64 ((xs.2.1.size : Nat) : Int))] from by rw [h3]) Try.func110 (by kernel_rfl) (by kernel_rfl) (uint_row xs.2.1.size (by omega) _)) ?_
        rintro _ w' ⟨hF2, hF3⟩
        obtain ⟨ra, rc, rfl, _, _⟩ := Row.slice hF2
        obtain ⟨b, rfl, hF, hF4⟩ := Row.some hF2 (by first | omega | (simp only [Sl.list_length, List.length_set, List.length_take, List.length_append, List.length_replicate, List.length_cons, List.length_nil, List.length_map, nums_len]; omega))
        exact ⟨hF3, ⟨b, ⟨rc, rfl⟩, Nat.le_trans hC.size hF, fun _ => hF2.rebase hC.size⟩, isfr rfl hF (Row.lt hF2 _ rfl).2⟩
      refine ⟨fun S wu5 hC hS hd hi => ?_, ?_⟩
      · skip
        replace hC : Below w1.heap.size w1 wu5 := hC
        refine uv_plain (C := (fun _ wq => Below w1.heap.size w1 wq)) (hKP 5 S wu5 (by decide)) (fun _ h1 h2 => Below.trans h1 (Below.mono h2 (Below.size h1))) hC hS ?_
        replace hb := hb.trans (hC.mono hb.size)
        replace hk1 := blk_ext hk1 hC
        exact Runs.does (r_fa rfl Try.underlying119 (f := 1) (q := 1) rfl (by kernel_rfl) rfl) ⟨Below.refl _ _, rfl, nofr rfl⟩
      refine ⟨fun S wu6 hC hS hd hi => ?_, ?_⟩
      · skip
        replace hC : Below w1.heap.size w1 wu6 := hC
        refine uv_plain (C := (fun _ wq => Below w1.heap.size w1 wq)) (hKP 6 S wu6 (by decide)) (fun _ h1 h2 => Below.trans h1 (Below.mono h2 (Below.size h1))) hC hS ?_
        have h5 := hS.post 5 (hd 5 (by decide))
        replace h5 : V 5 = (.pointer (some ⟨b1, 1, none⟩)) := h5
        replace hb := hb.trans (hC.mono hb.size)
        replace hk1 := blk_ext hk1 hC
        exact Runs.does (r_load (v := (.string xs.2.1)) (congrArg some h5) Try.underlying9 rfl (cell_blk hk1 rfl)) ⟨Below.refl _ _, rfl, nofr rfl⟩
      refine ⟨fun S wu7 hC hS hd hi => ?_, ?_⟩
      · skip
        replace hC : Below w1.heap.size w1 wu7 := hC
        have h4 := hS.post 4 (hd 4 (by decide))
        obtain ⟨mb1, ⟨mc1, h4⟩, hle2, hr1⟩ := h4
        replace hr1 := hr1 hi
        rw [h4] at hr1
        have h6 := hS.post 6 (hd 6 (by decide))
        replace h6 : V 6 = (.string xs.2.1) := h6
        replace hb := hb.trans (hC.mono hb.size)
        replace hk1 := blk_ext hk1 hC
        refine Does.mono (d_appendS (base := w1.heap.size) (l := (uL xs.2.1.size)) (congrArg some h4) (congrArg some h6) Try.underlying47 Try.underlying9 (by kernel_rfl) hr1 (by first | omega | (simp only [List.length_cons, List.length_nil, List.length_append, nums_len]; omega)) hC.size) ?_
        rintro v' wz ⟨hY, hgY⟩
        obtain ⟨ra, rc, rfl, _, _⟩ := Row.slice hY
        obtain ⟨br, rfl, hbr, _⟩ := Row.some hY (by first | omega | (simp only [Sl.list_length, List.length_set, List.length_take, List.length_append, List.length_replicate, List.length_cons, List.length_nil, List.length_map, nums_len]; omega))
        refine ⟨⟨hC.trans (row_below hr1 hgY hC.size (Nat.le_refl _)), fun j hj => ?_, hgY.size⟩, ⟨br, ⟨rc, rfl⟩, hbr, fun _ => hY⟩, nofr rfl⟩
        match j with
        | 0 =>
          exact hS.post 0 hj
        | 1 =>
          exact hS.post 1 hj
        | 2 =>
          exact hS.post 2 hj
        | 3 =>
          exact hS.post 3 hj
        | 4 =>
          exact ⟨mb1, ⟨mc1, h4⟩, hle2, fun hn => absurd (.inl rfl) hn⟩
        | 5 =>
          exact hS.post 5 hj
        | 6 =>
          exact hS.post 6 hj
        | 7 =>
          exact absurd hj hi
        | 8 =>
          exact hS.post 8 hj
        | 9 =>
          exact hS.post 9 hj
        | 10 =>
          exact absurd (hS.down 10 hj 7 (by decide)) hi
        | _ + 11 => trivial
      refine ⟨fun S wu8 hC hS hd hi => ?_, ?_⟩
      · skip
        replace hC : Below w1.heap.size w1 wu8 := hC
        refine uv_plain (C := (fun _ wq => Below w1.heap.size w1 wq)) (hKP 8 S wu8 (by decide)) (fun _ h1 h2 => Below.trans h1 (Below.mono h2 (Below.size h1))) hC hS ?_
        replace hb := hb.trans (hC.mono hb.size)
        replace hk1 := blk_ext hk1 hC
        exact Runs.does (r_fa rfl Try.underlying119 (f := 2) (q := 2) rfl (by kernel_rfl) rfl) ⟨Below.refl _ _, rfl, nofr rfl⟩
      refine ⟨fun S wu9 hC hS hd hi => ?_, ?_⟩
      · skip
        replace hC : Below w1.heap.size w1 wu9 := hC
        refine uv_plain (C := (fun _ wq => Below w1.heap.size w1 wq)) (hKP 9 S wu9 (by decide)) (fun _ h1 h2 => Below.trans h1 (Below.mono h2 (Below.size h1))) hC hS ?_
        have h8 := hS.post 8 (hd 8 (by decide))
        replace h8 : V 8 = (.pointer (some ⟨b1, 2, none⟩)) := h8
        replace hb := hb.trans (hC.mono hb.size)
        replace hk1 := blk_ext hk1 hC
        exact Runs.does (r_load (v := (.slice xs.2.2.1.at' xs.2.2.1.len xs.2.2.1.cap)) (congrArg some h8) Try.underlying47 rfl (cell_blk hk1 rfl)) ⟨Below.refl _ _, rfl, nofr rfl⟩
      refine ⟨fun S wu10 hC hS hd hi => ?_, ?_⟩
      · skip
        replace hC : Below w1.heap.size w1 wu10 := hC
        have h7 := hS.post 7 (hd 7 (by decide))
        obtain ⟨mb2, ⟨mc2, h7⟩, hle3, hr2⟩ := h7
        replace hr2 := hr2 hi
        rw [h7] at hr2
        have h9 := hS.post 9 (hd 9 (by decide))
        replace h9 : V 9 = (.slice xs.2.2.1.at' xs.2.2.1.len xs.2.2.1.cap) := h9
        replace hb := hb.trans (hC.mono hb.size)
        replace hk1 := blk_ext hk1 hC
        refine Does.mono (d_append (V := (vInt .u8)) (k := 1) (e := 5) (bytes := 1) (z := (.int .u8 (0 : Int))) (news := xs.2.2.1.list) (base := w1.heap.size) (by intros; rfl) (by intro x u hu; simp only [vInt, List.mem_singleton] at hu; subst hu; rfl) (congrArg some h7) (congrArg some h9) Try.underlying47 (by kernel_rfl) rfl rfl rfl hr2 (RdS.ext g.rd hb) (by omega) g.nil (by first | omega | (simp only [List.length_cons, List.length_nil, List.length_append, nums_len]; omega)) hC.size) ?_
        rintro v' wz ⟨hY, hgY⟩
        obtain ⟨ra, rc, rfl, _, _⟩ := Row.slice hY
        obtain ⟨br, rfl, hbr, _⟩ := Row.some hY (by first | omega | (simp only [Sl.list_length, List.length_set, List.length_take, List.length_append, List.length_replicate, List.length_cons, List.length_nil, List.length_map, nums_len]; omega))
        refine ⟨⟨hC.trans (row_below hr2 hgY hC.size (Nat.le_refl _)), fun j hj => ?_, hgY.size⟩, ⟨br, ⟨rc, rfl⟩, hbr, hY⟩, nofr rfl⟩
        match j with
        | 0 =>
          exact hS.post 0 hj
        | 1 =>
          exact hS.post 1 hj
        | 2 =>
          exact hS.post 2 hj
        | 3 =>
          exact hS.post 3 hj
        | 4 =>
          obtain ⟨c, e1, e2, e3⟩ := hS.post 4 hj
          exact ⟨c, e1, e2, fun hn => absurd (.inr (hd 7 (by decide))) hn⟩
        | 5 =>
          exact hS.post 5 hj
        | 6 =>
          exact hS.post 6 hj
        | 7 =>
          exact ⟨mb2, ⟨mc2, h7⟩, hle3, fun hn => absurd (.inl rfl) hn⟩
        | 8 =>
          exact hS.post 8 hj
        | 9 =>
          exact hS.post 9 hj
        | 10 =>
          exact absurd hj hi
        | _ + 11 => trivial
      trivial
    · skip
      clear hf fa; intro V S w2 fa hall he2 hp hnb hf
      have hv0 := postsHold_at hp 0 rfl
      replace hv0 : V 0 = (.pointer (some ⟨b1, 1, none⟩)) := hv0
      have hv1 := postsHold_at hp 1 rfl
      replace hv1 : V 1 = (.string xs.2.1) := hv1
      have hv2 := postsHold_at hp 2 rfl
      replace hv2 : V 2 = (.int .i64 ((xs.2.1.size : Nat) : Int)) := hv2
      have hv3 := postsHold_at hp 3 rfl
      replace hv3 : V 3 = (.int .u64 ((xs.2.1.size : Nat) : Int)) := hv3
      have hv4 := postsHold_at hp 4 rfl
      obtain ⟨mb1, ⟨mc1, hv4⟩, hle2, hr1⟩ := hv4
      clear hr1
      have hBmb1 : w.heap.size ≤ mb1 := Nat.le_trans hb.size hle2
      have hv5 := postsHold_at hp 5 rfl
      replace hv5 : V 5 = (.pointer (some ⟨b1, 1, none⟩)) := hv5
      have hv6 := postsHold_at hp 6 rfl
      replace hv6 : V 6 = (.string xs.2.1) := hv6
      have hv7 := postsHold_at hp 7 rfl
      obtain ⟨mb2, ⟨mc2, hv7⟩, hle3, hr2⟩ := hv7
      clear hr2
      have hBmb2 : w.heap.size ≤ mb2 := Nat.le_trans hb.size hle3
      have hv8 := postsHold_at hp 8 rfl
      replace hv8 : V 8 = (.pointer (some ⟨b1, 2, none⟩)) := hv8
      have hv9 := postsHold_at hp 9 rfl
      replace hv9 : V 9 = (.slice xs.2.2.1.at' xs.2.2.1.len xs.2.2.1.cap) := hv9
      have hv10 := postsHold_at hp 10 rfl
      obtain ⟨mb3, ⟨mc3, hv10⟩, hle4, hr3⟩ := hv10
      rw [hv10] at hr3
      replace hr3 := Row.rebase hr3 hb.size
      have hcmc3 := Row.caps hr3
      have hBmb3 : w.heap.size ≤ mb3 := Nat.le_trans hb.size hle4
      simp only [List.take_succ_cons, List.take_zero, insAll, ins, hv0, hv1, hv2, hv3, hv4, hv5, hv6, hv7, hv8, hv9, hv10] at hf
      have : b1 < mb1 := Nat.lt_of_lt_of_le (blk_lt hk1) hle2
      clear hp hnb hall hv0 hv1 hv2 hv3 hv4 hv5 hv6 hv7 hv8 hv9 hv10
      replace hk1 := blk_ext hk1 he2
      replace hb := hb.trans (Below.mono he2 hb.size)
      simp only [List.drop_succ_cons, List.drop_zero]
      refine sqv hf (r_assign rfl) rfl rfl rfl ?_; clear hf fa; intro fa hf
      apply wpList_nil
      (try simp only [Exit.then, Exit.inBlock, ↓reduceIte, Nat.reduceEqDiff])
      refine hK3 _ _ ?_
      refine wp_seq_k (fun K5 hK5 => ?_)
      have hS : secB xs.1 xs.2.1 xs.2.2.1.list = (uL xs.2.1.size ++ nums xs.2.1) ++ xs.2.2.1.list := by unfold secB; rw [if_pos hqt9_1]
      rw [hS] at hu2 hsb
      obtain ⟨NN, hNN⟩ : ∃ NN, NN = ((uL xs.2.1.size ++ nums xs.2.1) ++ xs.2.2.1.list).length := ⟨_, rfl⟩
      rw [← hNN] at hu2 hsb
      refine wp_region_vnT 8 (fun _ wq => Below w2.heap.size w2 wq)
        (fun V S => [(fun x _ => x = (.pointer (some ⟨b1, 0, none⟩))), (fun x _ => x = (.int .u8 xs.1)), (fun x wq => ∃ b, x = .slice (some ⟨b, 0, none⟩) 1 1 ∧ w2.heap.size ≤ b ∧ (¬ S 7 → wq.heap[b]? = some (.cells #[(.int .u8 xs.1)] 5 (0, 0)))), (fun x _ => x = (.slice (some ⟨mb3, 0, none⟩) ((((uL xs.2.1.size) ++ (nums xs.2.1)) ++ xs.2.2.1.list).length) mc3)), (fun x _ => x = (.int .i64 (((((uL xs.2.1.size) ++ (nums xs.2.1)) ++ xs.2.2.1.list).length : Nat) : Int))), (fun x _ => x = (.int .u64 (((((uL xs.2.1.size) ++ (nums xs.2.1)) ++ xs.2.2.1.list).length : Nat) : Int))), (fun x wq => ∃ b, (∃ c, x = .slice (some ⟨b, 0, none⟩) (((uL NN)).length) c) ∧ w2.heap.size ≤ b ∧ (¬ S 7 → Row 1 (vInt .u8) 5 w2.heap.size wq x (uL NN))), (fun x wq => ∃ b, (∃ c, x = .slice (some ⟨b, 0, none⟩) ([xs.1] ++ (uL NN)).length c) ∧ w2.heap.size ≤ b ∧ Row 1 (vInt .u8) 5 w2.heap.size wq x ([xs.1] ++ (uL NN)))])
        [2, 6]
        [[], [0], [1], [], [3], [4], [5], [2, 6], []]
        hf (by kernel_rfl) (by kernel_rfl) (by kernel_rfl) (fun _ _ => rfl) (fun _ hS_ => (Below.refl _ _).drew) (fun _ _ _ _ _ _ => rfl) ?_ ?_
      · skip
        intro V
        have hKP : ∀ (i : Nat) (S : Nat → Prop) (wk : World), (∀ q ∈ ([7] : List Nat), q ≠ i) → ∀ j v w', (((fun (S : Nat → Prop) => ([(fun x _ => x = (.pointer (some ⟨b1, 0, none⟩))), (fun x _ => x = (.int .u8 xs.1)), (fun x wq => ∃ b, x = .slice (some ⟨b, 0, none⟩) 1 1 ∧ w2.heap.size ≤ b ∧ (¬ S 7 → wq.heap[b]? = some (.cells #[(.int .u8 xs.1)] 5 (0, 0)))), (fun x _ => x = (.slice (some ⟨mb3, 0, none⟩) ((((uL xs.2.1.size) ++ (nums xs.2.1)) ++ xs.2.2.1.list).length) mc3)), (fun x _ => x = (.int .i64 (((((uL xs.2.1.size) ++ (nums xs.2.1)) ++ xs.2.2.1.list).length : Nat) : Int))), (fun x _ => x = (.int .u64 (((((uL xs.2.1.size) ++ (nums xs.2.1)) ++ xs.2.2.1.list).length : Nat) : Int))), (fun x wq => ∃ b, (∃ c, x = .slice (some ⟨b, 0, none⟩) (((uL NN)).length) c) ∧ w2.heap.size ≤ b ∧ (¬ S 7 → Row 1 (vInt .u8) 5 w2.heap.size wq x (uL NN))), (fun x wq => ∃ b, (∃ c, x = .slice (some ⟨b, 0, none⟩) ([xs.1] ++ (uL NN)).length c) ∧ w2.heap.size ≤ b ∧ Row 1 (vInt .u8) 5 w2.heap.size wq x ([xs.1] ++ (uL NN)))] : List (Value → World → Prop))) S).getD j (fun _ _ => True)) v wk → Below wk.heap.size wk w' → (((fun (S : Nat → Prop) => ([(fun x _ => x = (.pointer (some ⟨b1, 0, none⟩))), (fun x _ => x = (.int .u8 xs.1)), (fun x wq => ∃ b, x = .slice (some ⟨b, 0, none⟩) 1 1 ∧ w2.heap.size ≤ b ∧ (¬ S 7 → wq.heap[b]? = some (.cells #[(.int .u8 xs.1)] 5 (0, 0)))), (fun x _ => x = (.slice (some ⟨mb3, 0, none⟩) ((((uL xs.2.1.size) ++ (nums xs.2.1)) ++ xs.2.2.1.list).length) mc3)), (fun x _ => x = (.int .i64 (((((uL xs.2.1.size) ++ (nums xs.2.1)) ++ xs.2.2.1.list).length : Nat) : Int))), (fun x _ => x = (.int .u64 (((((uL xs.2.1.size) ++ (nums xs.2.1)) ++ xs.2.2.1.list).length : Nat) : Int))), (fun x wq => ∃ b, (∃ c, x = .slice (some ⟨b, 0, none⟩) (((uL NN)).length) c) ∧ w2.heap.size ≤ b ∧ (¬ S 7 → Row 1 (vInt .u8) 5 w2.heap.size wq x (uL NN))), (fun x wq => ∃ b, (∃ c, x = .slice (some ⟨b, 0, none⟩) ([xs.1] ++ (uL NN)).length c) ∧ w2.heap.size ≤ b ∧ Row 1 (vInt .u8) 5 w2.heap.size wq x ([xs.1] ++ (uL NN)))] : List (Value → World → Prop))) (ad i S)).getD j (fun _ _ => True)) v w' := by
          intro i S wk hi j v w' h hB
          match j with
          | 0 =>
            exact h
          | 1 =>
            exact h
          | 2 =>
            obtain ⟨b, e1, e2, e3⟩ := h
            exact ⟨b, e1, e2, fun hn => blk_ext (e3 (fun hs => hn (.inr hs))) hB⟩
          | 3 =>
            exact h
          | 4 =>
            exact h
          | 5 =>
            exact h
          | 6 =>
            obtain ⟨b, e1, e2, e3⟩ := h
            exact ⟨b, e1, e2, fun hn => Row.ext (e3 (fun hs => hn (.inr hs))) hB⟩
          | 7 =>
            obtain ⟨b, e1, e2, e3⟩ := h
            exact ⟨b, e1, e2, Row.ext e3 hB⟩
          | _ + 8 => trivial
        refine ⟨fun S wu0 hC hS hd hi => ?_, ?_⟩
        · skip
          replace hC : Below w2.heap.size w2 wu0 := hC
          refine uv_plain (C := (fun _ wq => Below w2.heap.size w2 wq)) (hKP 0 S wu0 (by decide)) (fun _ h1 h2 => Below.trans h1 (Below.mono h2 (Below.size h1))) hC hS ?_
          replace hb := hb.trans (hC.mono hb.size)
          replace hk1 := blk_ext hk1 hC
          replace hr3 := Row.ext hr3 hC
          exact Runs.does (r_fa rfl Try.underlying119 (f := 0) (q := 0) rfl (by kernel_rfl) rfl) ⟨Below.refl _ _, rfl, nofr rfl⟩
        refine ⟨fun S wu1 hC hS hd hi => ?_, ?_⟩
        · skip
          replace hC : Below w2.heap.size w2 wu1 := hC
          refine uv_plain (C := (fun _ wq => Below w2.heap.size w2 wq)) (hKP 1 S wu1 (by decide)) (fun _ h1 h2 => Below.trans h1 (Below.mono h2 (Below.size h1))) hC hS ?_
          have h0 := hS.post 0 (hd 0 (by decide))
          replace h0 : V 0 = (.pointer (some ⟨b1, 0, none⟩)) := h0
          replace hb := hb.trans (hC.mono hb.size)
          replace hk1 := blk_ext hk1 hC
          replace hr3 := Row.ext hr3 hC
          exact Runs.does (r_load (v := (.int .u8 xs.1)) (congrArg some h0) Try.underlying5 rfl (cell_blk hk1 rfl)) ⟨Below.refl _ _, rfl, nofr rfl⟩
        refine ⟨fun S wu2 hC hS hd hi => ?_, ?_⟩
        · skip
          replace hC : Below w2.heap.size w2 wu2 := hC
          refine uv_plain (C := (fun _ wq => Below w2.heap.size w2 wq)) (hKP 2 S wu2 (by decide)) (fun _ h1 h2 => Below.trans h1 (Below.mono h2 (Below.size h1))) hC hS ?_
          have h1 := hS.post 1 (hd 1 (by decide))
          replace h1 : V 1 = (.int .u8 xs.1) := h1
          replace hb := hb.trans (hC.mono hb.size)
          replace hk1 := blk_ext hk1 hC
          replace hr3 := Row.ext hr3 hC
          refine Does.mono (d_bslice (z := (.int .u8 (0 : Int))) (sz := 1) (vs := [(0, (.int .u8 xs.1))]) (cs := #[(.int .u8 xs.1)]) (show [(0, some (V 1))] = [(0, some (.int .u8 xs.1))] from by rw [h1]) Try.underlying47 (by kernel_rfl) rfl (by kernel_rfl)) ?_
          rintro _ w' ⟨b, rfl, hF⟩
          exact ⟨hF.2.2, ⟨b, rfl, Nat.le_trans hC.size hF.1, fun _ => hF.2.1⟩, isfr rfl hF.1 (blk_lt hF.2.1)⟩
        refine ⟨fun S wu3 hC hS hd hi => ?_, ?_⟩
        · skip
          replace hC : Below w2.heap.size w2 wu3 := hC
          refine uv_plain (C := (fun _ wq => Below w2.heap.size w2 wq)) (hKP 3 S wu3 (by decide)) (fun _ h1 h2 => Below.trans h1 (Below.mono h2 (Below.size h1))) hC hS ?_
          replace hb := hb.trans (hC.mono hb.size)
          replace hk1 := blk_ext hk1 hC
          replace hr3 := Row.ext hr3 hC
          exact Runs.does (r_move rfl) ⟨Below.refl _ _, rfl, nofr rfl⟩
        refine ⟨fun S wu4 hC hS hd hi => ?_, ?_⟩
        · skip
          replace hC : Below w2.heap.size w2 wu4 := hC
          refine uv_plain (C := (fun _ wq => Below w2.heap.size w2 wq)) (hKP 4 S wu4 (by decide)) (fun _ h1 h2 => Below.trans h1 (Below.mono h2 (Below.size h1))) hC hS ?_
          have h3 := hS.post 3 (hd 3 (by decide))
          replace h3 : V 3 = (.slice (some ⟨mb3, 0, none⟩) ((((uL xs.2.1.size) ++ (nums xs.2.1)) ++ xs.2.2.1.list).length) mc3) := h3
          replace hb := hb.trans (hC.mono hb.size)
          replace hk1 := blk_ext hk1 hC
          replace hr3 := Row.ext hr3 hC
          exact Runs.does (r_lensl (congrArg some h3) Try.underlying47) ⟨Below.refl _ _, rfl, nofr rfl⟩
        refine ⟨fun S wu5 hC hS hd hi => ?_, ?_⟩
        · skip
          replace hC : Below w2.heap.size w2 wu5 := hC
          refine uv_plain (C := (fun _ wq => Below w2.heap.size w2 wq)) (hKP 5 S wu5 (by decide)) (fun _ h1 h2 => Below.trans h1 (Below.mono h2 (Below.size h1))) hC hS ?_
          have h4 := hS.post 4 (hd 4 (by decide))
          replace h4 : V 4 = (.int .i64 (((((uL xs.2.1.size) ++ (nums xs.2.1)) ++ xs.2.2.1.list).length : Nat) : Int)) := h4
          replace hb := hb.trans (hC.mono hb.size)
          replace hk1 := blk_ext hk1 hC
          replace hr3 := Row.ext hr3 hC
          exact Runs.does (r_conv (C := (((((uL xs.2.1.size) ++ (nums xs.2.1)) ++ xs.2.2.1.list).length : Nat) : Int)) (congrArg some h4) Try.underlying3 Try.underlying55 (by rw [IntKind.wrap_u64]; omega)) ⟨Below.refl _ _, rfl, nofr rfl⟩
        refine ⟨fun S wu6 hC hS hd hi => ?_, ?_⟩
        · skip
          replace hC : Below w2.heap.size w2 wu6 := hC
          refine uv_plain (C := (fun _ wq => Below w2.heap.size w2 wq)) (hKP 6 S wu6 (by decide)) (fun _ h1 h2 => Below.trans h1 (Below.mono h2 (Below.size h1))) hC hS ?_
          have h5 := hS.post 5 (hd 5 (by decide))
          replace h5 : V 5 = (.int .u64 (((((uL xs.2.1.size) ++ (nums xs.2.1)) ++ xs.2.2.1.list).length : Nat) : Int)) := h5
          replace hb := hb.trans (hC.mono hb.size)
          replace hk1 := blk_ext hk1 hC
          replace hr3 := Row.ext hr3 hC
          refine Does.mono (d_callX (vs := [(.int .u64 (((((uL xs.2.1.size) ++ (nums xs.2.1)) ++ xs.2.2.1.list).length : Nat) : Int))]) (show [some (V 5)] = [some (.int .u64 (((((uL xs.2.1.size) ++ (nums xs.2.1)) ++ xs.2.2.1.list).length : Nat) : Int))] from by rw [h5]) Try.func110 (by kernel_rfl) (by kernel_rfl) (uint_rowN NN ((((uL xs.2.1.size) ++ (nums xs.2.1)) ++ xs.2.2.1.list).length) (by omega) (by omega) _)) ?_
          rintro _ w' ⟨hF2, hF3⟩
          obtain ⟨ra, rc, rfl, _, _⟩ := Row.slice hF2
          obtain ⟨b, rfl, hF, hF4⟩ := Row.some hF2 (by first | omega | (simp only [Sl.list_length, List.length_set, List.length_take, List.length_append, List.length_replicate, List.length_cons, List.length_nil, List.length_map, nums_len]; omega))
          exact ⟨hF3, ⟨b, ⟨rc, rfl⟩, Nat.le_trans hC.size hF, fun _ => hF2.rebase hC.size⟩, isfr rfl hF (Row.lt hF2 _ rfl).2⟩
        refine ⟨fun S wu7 hC hS hd hi => ?_, ?_⟩
        · skip
          replace hC : Below w2.heap.size w2 wu7 := hC
          have h2 := hS.post 2 (hd 2 (by decide))
          obtain ⟨b2, h2, hle5, hk2⟩ := h2
          replace hk2 := hk2 hi
          have h6 := hS.post 6 (hd 6 (by decide))
          obtain ⟨mb4, ⟨mc4, h6⟩, hle6, hr4⟩ := h6
          replace hr4 := hr4 hi
          rw [h6] at hr4
          replace hb := hb.trans (hC.mono hb.size)
          replace hk1 := blk_ext hk1 hC
          replace hr3 := Row.ext hr3 hC
          have hrA := Row.of_new (k := 1) (V := (vInt .u8)) (l := [xs.1]) (base := w2.heap.size) hk2 hle5 rfl rfl (Nat.le_of_ble_eq_true rfl)
          refine Does.mono (d_append (V := (vInt .u8)) (k := 1) (e := 5) (bytes := 1) (z := (.int .u8 (0 : Int))) (news := (uL NN)) (base := w2.heap.size) (by intros; rfl) (by intro x u hu; simp only [vInt, List.mem_singleton] at hu; subst hu; rfl) (congrArg some h2) (congrArg some h6) Try.underlying47 (by kernel_rfl) rfl rfl rfl hrA (Row.rd (by intros; rfl) hr4) rfl (fun h => by cases h) (by first | omega | (simp only [List.length_cons, List.length_nil, List.length_append, nums_len]; omega)) hC.size) ?_
          rintro v' wz ⟨hY, hgY⟩
          obtain ⟨ra, rc, rfl, _, _⟩ := Row.slice hY
          obtain ⟨br, rfl, hbr, _⟩ := Row.some hY (by first | omega | (simp only [Sl.list_length, List.length_set, List.length_take, List.length_append, List.length_replicate, List.length_cons, List.length_nil, List.length_map, nums_len]; omega))
          refine ⟨⟨hC.trans (row_below hrA hgY hC.size (Nat.le_refl _)), fun j hj => ?_, hgY.size⟩, ⟨br, ⟨rc, rfl⟩, hbr, hY⟩, nofr rfl⟩
          match j with
          | 0 =>
            exact hS.post 0 hj
          | 1 =>
            exact hS.post 1 hj
          | 2 =>
            exact ⟨b2, h2, hle5, fun hn => absurd (.inl rfl) hn⟩
          | 3 =>
            exact hS.post 3 hj
          | 4 =>
            exact hS.post 4 hj
          | 5 =>
            exact hS.post 5 hj
          | 6 =>
            exact ⟨mb4, ⟨mc4, h6⟩, hle6, fun hn => absurd (.inl rfl) hn⟩
          | 7 =>
            exact absurd hj hi
          | _ + 8 => trivial
        trivial
      · skip
        clear hf fa; intro V S w3 fa hall he3 hp hnb hf
        have hv0 := postsHold_at hp 0 rfl
        replace hv0 : V 0 = (.pointer (some ⟨b1, 0, none⟩)) := hv0
        have hv1 := postsHold_at hp 1 rfl
        replace hv1 : V 1 = (.int .u8 xs.1) := hv1
        have hv2 := postsHold_at hp 2 rfl
        obtain ⟨b2, hv2, hle5, hk2⟩ := hv2
        clear hk2
        have hBb2 : w.heap.size ≤ b2 := Nat.le_trans hb.size hle5
        have hv3 := postsHold_at hp 3 rfl
        replace hv3 : V 3 = (.slice (some ⟨mb3, 0, none⟩) ((((uL xs.2.1.size) ++ (nums xs.2.1)) ++ xs.2.2.1.list).length) mc3) := hv3
        have hv4 := postsHold_at hp 4 rfl
        replace hv4 : V 4 = (.int .i64 (((((uL xs.2.1.size) ++ (nums xs.2.1)) ++ xs.2.2.1.list).length : Nat) : Int)) := hv4
        have hv5 := postsHold_at hp 5 rfl
        replace hv5 : V 5 = (.int .u64 (((((uL xs.2.1.size) ++ (nums xs.2.1)) ++ xs.2.2.1.list).length : Nat) : Int)) := hv5
        have hv6 := postsHold_at hp 6 rfl
        obtain ⟨mb4, ⟨mc4, hv6⟩, hle6, hr4⟩ := hv6
        clear hr4
        have hBmb4 : w.heap.size ≤ mb4 := Nat.le_trans hb.size hle6
        have hv7 := postsHold_at hp 7 rfl
        obtain ⟨mb5, ⟨mc5, hv7⟩, hle7, hr5⟩ := hv7
        rw [hv7] at hr5
        replace hr5 := Row.rebase hr5 hb.size
        have hcmc5 := Row.caps hr5
        have hBmb5 : w.heap.size ≤ mb5 := Nat.le_trans hb.size hle7
        simp only [List.take_succ_cons, List.take_zero, insAll, ins, hv0, hv1, hv2, hv3, hv4, hv5, hv6, hv7] at hf
        have : b2 ≠ mb4 := two_blk (i := 2) (j := 6) hnb rfl rfl rfl rfl rfl (by rw [hv2]; rfl) (by rw [hv6]; rfl)
        have : b1 < b2 := Nat.lt_of_lt_of_le (blk_lt hk1) hle5
        have : b1 < mb4 := Nat.lt_of_lt_of_le (blk_lt hk1) hle6
        clear hp hnb hall hv0 hv1 hv2 hv3 hv4 hv5 hv6 hv7
        replace hk1 := blk_ext hk1 he3
        replace hr3 := Row.ext hr3 he3
        replace hb := hb.trans (Below.mono he3 hb.size)
        simp only [List.drop_succ_cons, List.drop_zero]
        refine sqv hf (r_assign rfl) rfl rfl rfl ?_; clear hf fa; intro fa hf
        apply wpList_nil
        (try simp only [Exit.then, Exit.inBlock, ↓reduceIte, Nat.reduceEqDiff])
        refine hK5 _ _ ?_
        refine wp_seq_k (fun K6 hK6 => ?_)
        refine wp_region_lit ?_
        refine sqv hf (r_move rfl) rfl rfl rfl ?_; clear hf fa; intro fa hf
        refine sqv hf (r_move rfl) rfl rfl rfl ?_; clear hf fa; intro fa hf
        refine sqdt hf (d_append (V := (vInt .u8)) (k := 1) (e := 5) (bytes := 1) (z := (.int .u8 (0 : Int))) (news := (((uL xs.2.1.size) ++ (nums xs.2.1)) ++ xs.2.2.1.list)) (base := w.heap.size) (by intros; rfl) (by intro x u hu; simp only [vInt, List.mem_singleton] at hu; subst hu; rfl) rfl rfl Try.underlying47 (by kernel_rfl) rfl rfl rfl hr5 (Row.rd (by intros; rfl) hr3) rfl (fun h => Row.nocap hr3 h) (by first | omega | (simp only [List.length_cons, List.length_nil, List.length_append, nums_len]; omega)) (by have := hb.size; omega)) rfl rfl rfl ?_; clear hf fa; rintro fa v w4 ⟨hr6, hg1⟩ hf; obtain ⟨ra1, rc1, rfl, hcrc1, hmrc1⟩ := Row.slice hr6
        replace hk1 := blk_row' hk1 hg1 (Row.ne_type hr5 hk1 rfl)
        replace hb := hb.trans (row_below hr5 hg1 hb.size (by have := hb.size; omega))
        refine sqv hf (r_assign rfl) rfl rfl rfl ?_; clear hf fa; intro fa hf
        apply wpList_nil
        (try simp only [Exit.then, Exit.inBlock, ↓reduceIte, Nat.reduceEqDiff])
        refine hK6 _ _ ?_
        refine wp_ret ?_
        (try simp only [Exit.then, Exit.inBlock])
        refine ret1 hf rfl rfl ?_
        refine ⟨_, rfl, ?_, hb⟩
        unfold encS encX
        rw [hS, ← hNN]
        exact hr6
  · have hqt9_1b := hqt9_1
    replace hqt9_1 := Bool.eq_false_iff.1 hqt9_1
    try simp only [ne_eq, decide_eq_true_eq, Bool.and_eq_true, Bool.or_eq_true, Bool.not_eq_true', decide_eq_false_iff_not] at hqt9_1
    refine wp_skip ?_
    (try simp only [Exit.then, Exit.inBlock, ↓reduceIte, Nat.reduceEqDiff])
    refine hK3 _ _ ?_
    refine wp_seq_k (fun K7 hK7 => ?_)
    have hS : secB xs.1 xs.2.1 xs.2.2.1.list = xs.2.2.1.list := by unfold secB; rw [if_neg hqt9_1]
    rw [hS] at hu2 hsb
    obtain ⟨NN, hNN⟩ : ∃ NN, NN = (xs.2.2.1.list).length := ⟨_, rfl⟩
    rw [← hNN] at hu2 hsb
    refine wp_region_vnT 8 (fun _ wq => Below w1.heap.size w1 wq)
      (fun V S => [(fun x _ => x = (.pointer (some ⟨b1, 0, none⟩))), (fun x _ => x = (.int .u8 xs.1)), (fun x wq => ∃ b, x = .slice (some ⟨b, 0, none⟩) 1 1 ∧ w1.heap.size ≤ b ∧ (¬ S 7 → wq.heap[b]? = some (.cells #[(.int .u8 xs.1)] 5 (0, 0)))), (fun x _ => x = (.slice xs.2.2.1.at' xs.2.2.1.len xs.2.2.1.cap)), (fun x _ => x = (.int .i64 ((xs.2.2.1.len : Nat) : Int))), (fun x _ => x = (.int .u64 ((xs.2.2.1.len : Nat) : Int))), (fun x wq => ∃ b, (∃ c, x = .slice (some ⟨b, 0, none⟩) (((uL NN)).length) c) ∧ w1.heap.size ≤ b ∧ (¬ S 7 → Row 1 (vInt .u8) 5 w1.heap.size wq x (uL NN))), (fun x wq => ∃ b, (∃ c, x = .slice (some ⟨b, 0, none⟩) ([xs.1] ++ (uL NN)).length c) ∧ w1.heap.size ≤ b ∧ Row 1 (vInt .u8) 5 w1.heap.size wq x ([xs.1] ++ (uL NN)))])
      [2, 6]
      [[], [0], [1], [], [3], [4], [5], [2, 6], []]
      hf (by kernel_rfl) (by kernel_rfl) (by kernel_rfl) (fun _ _ => rfl) (fun _ hS_ => (Below.refl _ _).drew) (fun _ _ _ _ _ _ => rfl) ?_ ?_
    · skip
      intro V
      have hKP : ∀ (i : Nat) (S : Nat → Prop) (wk : World), (∀ q ∈ ([7] : List Nat), q ≠ i) → ∀ j v w', (((fun (S : Nat → Prop) => ([(fun x _ => x = (.pointer (some ⟨b1, 0, none⟩))), (fun x _ => x = (.int .u8 xs.1)), (fun x wq => ∃ b, x = .slice (some ⟨b, 0, none⟩) 1 1 ∧ w1.heap.size ≤ b ∧ (¬ S 7 → wq.heap[b]? = some (.cells #[(.int .u8 xs.1)] 5 (0, 0)))), (fun x _ => x = (.slice xs.2.2.1.at' xs.2.2.1.len xs.2.2.1.cap)), (fun x _ => x = (.int .i64 ((xs.2.2.1.len : Nat) : Int))), (fun x _ => x = (.int .u64 ((xs.2.2.1.len : Nat) : Int))), (fun x wq => ∃ b, (∃ c, x = .slice (some ⟨b, 0, none⟩) (((uL NN)).length) c) ∧ w1.heap.size ≤ b ∧ (¬ S 7 → Row 1 (vInt .u8) 5 w1.heap.size wq x (uL NN))), (fun x wq => ∃ b, (∃ c, x = .slice (some ⟨b, 0, none⟩) ([xs.1] ++ (uL NN)).length c) ∧ w1.heap.size ≤ b ∧ Row 1 (vInt .u8) 5 w1.heap.size wq x ([xs.1] ++ (uL NN)))] : List (Value → World → Prop))) S).getD j (fun _ _ => True)) v wk → Below wk.heap.size wk w' → (((fun (S : Nat → Prop) => ([(fun x _ => x = (.pointer (some ⟨b1, 0, none⟩))), (fun x _ => x = (.int .u8 xs.1)), (fun x wq => ∃ b, x = .slice (some ⟨b, 0, none⟩) 1 1 ∧ w1.heap.size ≤ b ∧ (¬ S 7 → wq.heap[b]? = some (.cells #[(.int .u8 xs.1)] 5 (0, 0)))), (fun x _ => x = (.slice xs.2.2.1.at' xs.2.2.1.len xs.2.2.1.cap)), (fun x _ => x = (.int .i64 ((xs.2.2.1.len : Nat) : Int))), (fun x _ => x = (.int .u64 ((xs.2.2.1.len : Nat) : Int))), (fun x wq => ∃ b, (∃ c, x = .slice (some ⟨b, 0, none⟩) (((uL NN)).length) c) ∧ w1.heap.size ≤ b ∧ (¬ S 7 → Row 1 (vInt .u8) 5 w1.heap.size wq x (uL NN))), (fun x wq => ∃ b, (∃ c, x = .slice (some ⟨b, 0, none⟩) ([xs.1] ++ (uL NN)).length c) ∧ w1.heap.size ≤ b ∧ Row 1 (vInt .u8) 5 w1.heap.size wq x ([xs.1] ++ (uL NN)))] : List (Value → World → Prop))) (ad i S)).getD j (fun _ _ => True)) v w' := by
        intro i S wk hi j v w' h hB
        match j with
        | 0 =>
          exact h
        | 1 =>
          exact h
        | 2 =>
          obtain ⟨b, e1, e2, e3⟩ := h
          exact ⟨b, e1, e2, fun hn => blk_ext (e3 (fun hs => hn (.inr hs))) hB⟩
        | 3 =>
          exact h
        | 4 =>
          exact h
        | 5 =>
          exact h
        | 6 =>
          obtain ⟨b, e1, e2, e3⟩ := h
          exact ⟨b, e1, e2, fun hn => Row.ext (e3 (fun hs => hn (.inr hs))) hB⟩
        | 7 =>
          obtain ⟨b, e1, e2, e3⟩ := h
          exact ⟨b, e1, e2, Row.ext e3 hB⟩
        | _ + 8 => trivial
      refine ⟨fun S wu0 hC hS hd hi => ?_, ?_⟩
      · skip
        replace hC : Below w1.heap.size w1 wu0 := hC
        refine uv_plain (C := (fun _ wq => Below w1.heap.size w1 wq)) (hKP 0 S wu0 (by decide)) (fun _ h1 h2 => Below.trans h1 (Below.mono h2 (Below.size h1))) hC hS ?_
        replace hb := hb.trans (hC.mono hb.size)
        replace hk1 := blk_ext hk1 hC
        exact Runs.does (r_fa rfl Try.underlying119 (f := 0) (q := 0) rfl (by kernel_rfl) rfl) ⟨Below.refl _ _, rfl, nofr rfl⟩
      refine ⟨fun S wu1 hC hS hd hi => ?_, ?_⟩
      · skip
        replace hC : Below w1.heap.size w1 wu1 := hC
        refine uv_plain (C := (fun _ wq => Below w1.heap.size w1 wq)) (hKP 1 S wu1 (by decide)) (fun _ h1 h2 => Below.trans h1 (Below.mono h2 (Below.size h1))) hC hS ?_
        have h0 := hS.post 0 (hd 0 (by decide))
        replace h0 : V 0 = (.pointer (some ⟨b1, 0, none⟩)) := h0
        replace hb := hb.trans (hC.mono hb.size)
        replace hk1 := blk_ext hk1 hC
        exact Runs.does (r_load (v := (.int .u8 xs.1)) (congrArg some h0) Try.underlying5 rfl (cell_blk hk1 rfl)) ⟨Below.refl _ _, rfl, nofr rfl⟩
      refine ⟨fun S wu2 hC hS hd hi => ?_, ?_⟩
      · skip
        replace hC : Below w1.heap.size w1 wu2 := hC
        refine uv_plain (C := (fun _ wq => Below w1.heap.size w1 wq)) (hKP 2 S wu2 (by decide)) (fun _ h1 h2 => Below.trans h1 (Below.mono h2 (Below.size h1))) hC hS ?_
        have h1 := hS.post 1 (hd 1 (by decide))
        replace h1 : V 1 = (.int .u8 xs.1) := h1
        replace hb := hb.trans (hC.mono hb.size)
        replace hk1 := blk_ext hk1 hC
        refine Does.mono (d_bslice (z := (.int .u8 (0 : Int))) (sz := 1) (vs := [(0, (.int .u8 xs.1))]) (cs := #[(.int .u8 xs.1)]) (show [(0, some (V 1))] = [(0, some (.int .u8 xs.1))] from by rw [h1]) Try.underlying47 (by kernel_rfl) rfl (by kernel_rfl)) ?_
        rintro _ w' ⟨b, rfl, hF⟩
        exact ⟨hF.2.2, ⟨b, rfl, Nat.le_trans hC.size hF.1, fun _ => hF.2.1⟩, isfr rfl hF.1 (blk_lt hF.2.1)⟩
      refine ⟨fun S wu3 hC hS hd hi => ?_, ?_⟩
      · skip
        replace hC : Below w1.heap.size w1 wu3 := hC
        refine uv_plain (C := (fun _ wq => Below w1.heap.size w1 wq)) (hKP 3 S wu3 (by decide)) (fun _ h1 h2 => Below.trans h1 (Below.mono h2 (Below.size h1))) hC hS ?_
        replace hb := hb.trans (hC.mono hb.size)
        replace hk1 := blk_ext hk1 hC
        exact Runs.does (r_move rfl) ⟨Below.refl _ _, rfl, nofr rfl⟩
      refine ⟨fun S wu4 hC hS hd hi => ?_, ?_⟩
      · skip
        replace hC : Below w1.heap.size w1 wu4 := hC
        refine uv_plain (C := (fun _ wq => Below w1.heap.size w1 wq)) (hKP 4 S wu4 (by decide)) (fun _ h1 h2 => Below.trans h1 (Below.mono h2 (Below.size h1))) hC hS ?_
        have h3 := hS.post 3 (hd 3 (by decide))
        replace h3 : V 3 = (.slice xs.2.2.1.at' xs.2.2.1.len xs.2.2.1.cap) := h3
        replace hb := hb.trans (hC.mono hb.size)
        replace hk1 := blk_ext hk1 hC
        exact Runs.does (r_lensl (congrArg some h3) Try.underlying47) ⟨Below.refl _ _, rfl, nofr rfl⟩
      refine ⟨fun S wu5 hC hS hd hi => ?_, ?_⟩
      · skip
        replace hC : Below w1.heap.size w1 wu5 := hC
        refine uv_plain (C := (fun _ wq => Below w1.heap.size w1 wq)) (hKP 5 S wu5 (by decide)) (fun _ h1 h2 => Below.trans h1 (Below.mono h2 (Below.size h1))) hC hS ?_
        have h4 := hS.post 4 (hd 4 (by decide))
        replace h4 : V 4 = (.int .i64 ((xs.2.2.1.len : Nat) : Int)) := h4
        replace hb := hb.trans (hC.mono hb.size)
        replace hk1 := blk_ext hk1 hC
        exact Runs.does (r_conv (C := ((xs.2.2.1.len : Nat) : Int)) (congrArg some h4) Try.underlying3 Try.underlying55 (by rw [IntKind.wrap_u64]; omega)) ⟨Below.refl _ _, rfl, nofr rfl⟩
      refine ⟨fun S wu6 hC hS hd hi => ?_, ?_⟩
      · skip
        replace hC : Below w1.heap.size w1 wu6 := hC
        refine uv_plain (C := (fun _ wq => Below w1.heap.size w1 wq)) (hKP 6 S wu6 (by decide)) (fun _ h1 h2 => Below.trans h1 (Below.mono h2 (Below.size h1))) hC hS ?_
        have h5 := hS.post 5 (hd 5 (by decide))
        replace h5 : V 5 = (.int .u64 ((xs.2.2.1.len : Nat) : Int)) := h5
        replace hb := hb.trans (hC.mono hb.size)
        replace hk1 := blk_ext hk1 hC
        refine Does.mono (d_callX (vs := [(.int .u64 ((xs.2.2.1.len : Nat) : Int))]) (show [some (V 5)] = [some (.int .u64 ((xs.2.2.1.len : Nat) : Int))] from by rw [h5]) Try.func110 (by kernel_rfl) (by kernel_rfl) (uint_rowN NN xs.2.2.1.len (by omega) (by omega) _)) ?_
        rintro _ w' ⟨hF2, hF3⟩
        obtain ⟨ra, rc, rfl, _, _⟩ := Row.slice hF2
        obtain ⟨b, rfl, hF, hF4⟩ := Row.some hF2 (by first | omega | (simp only [Sl.list_length, List.length_set, List.length_take, List.length_append, List.length_replicate, List.length_cons, List.length_nil, List.length_map, nums_len]; omega))
        exact ⟨hF3, ⟨b, ⟨rc, rfl⟩, Nat.le_trans hC.size hF, fun _ => hF2.rebase hC.size⟩, isfr rfl hF (Row.lt hF2 _ rfl).2⟩
      refine ⟨fun S wu7 hC hS hd hi => ?_, ?_⟩
      · skip
        replace hC : Below w1.heap.size w1 wu7 := hC
        have h2 := hS.post 2 (hd 2 (by decide))
        obtain ⟨b3, h2, hle8, hk3⟩ := h2
        replace hk3 := hk3 hi
        have h6 := hS.post 6 (hd 6 (by decide))
        obtain ⟨mb6, ⟨mc6, h6⟩, hle9, hr7⟩ := h6
        replace hr7 := hr7 hi
        rw [h6] at hr7
        replace hb := hb.trans (hC.mono hb.size)
        replace hk1 := blk_ext hk1 hC
        have hrA := Row.of_new (k := 1) (V := (vInt .u8)) (l := [xs.1]) (base := w1.heap.size) hk3 hle8 rfl rfl (Nat.le_of_ble_eq_true rfl)
        refine Does.mono (d_append (V := (vInt .u8)) (k := 1) (e := 5) (bytes := 1) (z := (.int .u8 (0 : Int))) (news := (uL NN)) (base := w1.heap.size) (by intros; rfl) (by intro x u hu; simp only [vInt, List.mem_singleton] at hu; subst hu; rfl) (congrArg some h2) (congrArg some h6) Try.underlying47 (by kernel_rfl) rfl rfl rfl hrA (Row.rd (by intros; rfl) hr7) rfl (fun h => by cases h) (by first | omega | (simp only [List.length_cons, List.length_nil, List.length_append, nums_len]; omega)) hC.size) ?_
        rintro v' wz ⟨hY, hgY⟩
        obtain ⟨ra, rc, rfl, _, _⟩ := Row.slice hY
        obtain ⟨br, rfl, hbr, _⟩ := Row.some hY (by first | omega | (simp only [Sl.list_length, List.length_set, List.length_take, List.length_append, List.length_replicate, List.length_cons, List.length_nil, List.length_map, nums_len]; omega))
        refine ⟨⟨hC.trans (row_below hrA hgY hC.size (Nat.le_refl _)), fun j hj => ?_, hgY.size⟩, ⟨br, ⟨rc, rfl⟩, hbr, hY⟩, nofr rfl⟩
        match j with
        | 0 =>
          exact hS.post 0 hj
        | 1 =>
          exact hS.post 1 hj
        | 2 =>
          exact ⟨b3, h2, hle8, fun hn => absurd (.inl rfl) hn⟩
        | 3 =>
          exact hS.post 3 hj
        | 4 =>
          exact hS.post 4 hj
        | 5 =>
          exact hS.post 5 hj
        | 6 =>
          exact ⟨mb6, ⟨mc6, h6⟩, hle9, fun hn => absurd (.inl rfl) hn⟩
        | 7 =>
          exact absurd hj hi
        | _ + 8 => trivial
      trivial
    · skip
      clear hf fa; intro V S w5 fa hall he4 hp hnb hf
      have hv0 := postsHold_at hp 0 rfl
      replace hv0 : V 0 = (.pointer (some ⟨b1, 0, none⟩)) := hv0
      have hv1 := postsHold_at hp 1 rfl
      replace hv1 : V 1 = (.int .u8 xs.1) := hv1
      have hv2 := postsHold_at hp 2 rfl
      obtain ⟨b3, hv2, hle8, hk3⟩ := hv2
      clear hk3
      have hBb3 : w.heap.size ≤ b3 := Nat.le_trans hb.size hle8
      have hv3 := postsHold_at hp 3 rfl
      replace hv3 : V 3 = (.slice xs.2.2.1.at' xs.2.2.1.len xs.2.2.1.cap) := hv3
      have hv4 := postsHold_at hp 4 rfl
      replace hv4 : V 4 = (.int .i64 ((xs.2.2.1.len : Nat) : Int)) := hv4
      have hv5 := postsHold_at hp 5 rfl
      replace hv5 : V 5 = (.int .u64 ((xs.2.2.1.len : Nat) : Int)) := hv5
      have hv6 := postsHold_at hp 6 rfl
      obtain ⟨mb6, ⟨mc6, hv6⟩, hle9, hr7⟩ := hv6
      clear hr7
      have hBmb6 : w.heap.size ≤ mb6 := Nat.le_trans hb.size hle9
      have hv7 := postsHold_at hp 7 rfl
      obtain ⟨mb7, ⟨mc7, hv7⟩, hle10, hr8⟩ := hv7
      rw [hv7] at hr8
      replace hr8 := Row.rebase hr8 hb.size
      have hcmc7 := Row.caps hr8
      have hBmb7 : w.heap.size ≤ mb7 := Nat.le_trans hb.size hle10
      simp only [List.take_succ_cons, List.take_zero, insAll, ins, hv0, hv1, hv2, hv3, hv4, hv5, hv6, hv7] at hf
      have : b3 ≠ mb6 := two_blk (i := 2) (j := 6) hnb rfl rfl rfl rfl rfl (by rw [hv2]; rfl) (by rw [hv6]; rfl)
      have : b1 < b3 := Nat.lt_of_lt_of_le (blk_lt hk1) hle8
      have : b1 < mb6 := Nat.lt_of_lt_of_le (blk_lt hk1) hle9
      clear hp hnb hall hv0 hv1 hv2 hv3 hv4 hv5 hv6 hv7
      replace hk1 := blk_ext hk1 he4
      replace hb := hb.trans (Below.mono he4 hb.size)
      simp only [List.drop_succ_cons, List.drop_zero]
      refine sqv hf (r_assign rfl) rfl rfl rfl ?_; clear hf fa; intro fa hf
      apply wpList_nil
      (try simp only [Exit.then, Exit.inBlock, ↓reduceIte, Nat.reduceEqDiff])
      refine hK7 _ _ ?_
      refine wp_seq_k (fun K8 hK8 => ?_)
      refine wp_region_lit ?_
      refine sqv hf (r_move rfl) rfl rfl rfl ?_; clear hf fa; intro fa hf
      refine sqv hf (r_move rfl) rfl rfl rfl ?_; clear hf fa; intro fa hf
      refine sqdt hf (d_append (V := (vInt .u8)) (k := 1) (e := 5) (bytes := 1) (z := (.int .u8 (0 : Int))) (news := xs.2.2.1.list) (base := w.heap.size) (by intros; rfl) (by intro x u hu; simp only [vInt, List.mem_singleton] at hu; subst hu; rfl) rfl rfl Try.underlying47 (by kernel_rfl) rfl rfl rfl hr8 (RdS.ext g.rd hb) (by omega) g.nil (by first | omega | (simp only [List.length_cons, List.length_nil, List.length_append, nums_len]; omega)) (by have := hb.size; omega)) rfl rfl rfl ?_; clear hf fa; rintro fa v w6 ⟨hr9, hg2⟩ hf; obtain ⟨ra2, rc2, rfl, hcrc2, hmrc2⟩ := Row.slice hr9
      replace hk1 := blk_row' hk1 hg2 (Row.ne_type hr8 hk1 rfl)
      replace hb := hb.trans (row_below hr8 hg2 hb.size (by have := hb.size; omega))
      refine sqv hf (r_assign rfl) rfl rfl rfl ?_; clear hf fa; intro fa hf
      apply wpList_nil
      (try simp only [Exit.then, Exit.inBlock, ↓reduceIte, Nat.reduceEqDiff])
      refine hK8 _ _ ?_
      refine wp_ret ?_
      (try simp only [Exit.then, Exit.inBlock])
      refine ret1 hf rfl rfl ?_
      refine ⟨_, rfl, ?_, hb⟩
      unfold encS encX
      rw [hS, ← hNN]
      exact hr9
end Go.Proofs.Ytcmdajkkdognfaa

namespace Go.Proofs.Ytcmdajkkdognfaa
open Go.RowKit
set_option linter.unusedVariables false
set_option linter.unusedSimpArgs false

set_option maxHeartbeats 1000000 in
set_option maxRecDepth 100000 in
theorem unless_any (b : Bool) (y t : Int) (w : World) (hbt : b = true) : Calls Try.prog 118 #[(.bool b), (.int .i64 y), (.int .i64 t)] w fun e w' => e = .returned (.tuple #[]) ∧ Below w.heap.size w w' := by
  subst hbt
  refine sx_enter (L := [(0, (.bool true)), (1, (.int .i64 y)), (2, (.int .i64 t))]) Try.func118 rfl rfl rfl rfl (fun fa hf => ?_)
  have hb : Below w.heap.size w w := Below.refl _ _
  refine wp_seq_k (fun K1 hK1 => ?_)
  refine wp_region_lit ?_
  refine sqv hf (r_move rfl) rfl rfl rfl ?_; clear hf fa; intro fa hf
  refine sqv hf (Runs.veq (v' := (.bool false)) (r_not rfl) rfl) rfl rfl rfl ?_; clear hf fa; intro fa hf
  apply wpList_nil
  (try simp only [Exit.then, Exit.inBlock, ↓reduceIte, Nat.reduceEqDiff])
  refine hK1 _ _ ?_
  refine wp_cond_false (hf.ev rfl) ?_
  refine wp_skip ?_
  (try simp only [Exit.then, Exit.inBlock])
  refine end0 hf rfl ?_
  exact ⟨rfl, hb⟩

set_option maxHeartbeats 1000000 in
set_option maxRecDepth 100000 in
theorem left_any (bs base p : Nat) (a : Option Addr) (c : Nat) (l : List Int) (w : World) (hks : w.heap[bs]? = some (.cells #[(.slice a l.length c), (.int .i64 ((p : Nat) : Int))] 161 (0, 0))) (hr0 : Row 1 (vInt .u8) 5 base w (.slice a l.length c) l) (hp : p ≤ l.length)  : Calls Try.prog 67 #[(.pointer (some ⟨bs, 0, none⟩))] w fun e w' => e = .returned (.int .i64 (((l.length : Nat) : Int) - ((p : Nat) : Int))) ∧ Below w.heap.size w w' := by
  have hcap := Row.caps hr0; have hR0lt := fun q hq => (Row.lt hr0 q hq).2
  refine sx_enter (L := [(0, (.pointer (some ⟨bs, 0, none⟩)))]) Try.func67 rfl rfl rfl rfl (fun fa hf => ?_)
  have hb : Below w.heap.size w w := Below.refl _ _
  refine wp_seq_k (fun K1 hK1 => ?_)
  refine wp_region_lit ?_
  refine sqv hf (r_assign rfl) rfl rfl rfl ?_; clear hf fa; intro fa hf
  apply wpList_nil
  (try simp only [Exit.then, Exit.inBlock, ↓reduceIte, Nat.reduceEqDiff])
  refine hK1 _ _ ?_
  refine wp_seq_k (fun K2 hK2 => ?_)
  refine wp_region_un (fun wq => Below w.heap.size w wq) (fun w w' => Below w.heap.size w w')
    (fun V => [(fun x _ => x = (.pointer (some ⟨bs, 0, none⟩))), (fun x _ => x = (.pointer (some ⟨bs, 0, none⟩))), (fun x _ => x = (.pointer (some ⟨bs, 0, none⟩))), (fun x _ => x = (.slice a l.length c)), (fun x _ => x = (.int .i64 ((l.length : Nat) : Int))), (fun x _ => x = (.pointer (some ⟨bs, 0, none⟩))), (fun x _ => x = (.pointer (some ⟨bs, 0, none⟩))), (fun x _ => x = (.pointer (some ⟨bs, 1, none⟩))), (fun x _ => x = (.int .i64 ((p : Nat) : Int))), (fun x _ => x = (.int .i64 (((l.length : Nat) : Int) - ((p : Nat) : Int)))), (fun x _ => x = (.int .i64 (((l.length : Nat) : Int) - ((p : Nat) : Int))))])
    []
    [[], [0], [1], [2], [3], [], [5], [6], [7], [4, 8], [0, 1, 2, 3, 4, 5, 6, 7, 8, 9]]
    hf (by kernel_rfl) (by kernel_rfl) (fun _ => rfl) ((Below.refl _ _).drew) (fun a b h1 h2 => h1.trans (h2.mono h1.size)) (fun _ _ h => h.size) (fun V => ⟨kept_eq, kept_eq, kept_eq, kept_eq, kept_eq, kept_eq, kept_eq, kept_eq, kept_eq, kept_eq, kept_eq, trivial⟩) (fun _ _ _ _ _ => rfl) ?_ ?_
  · skip
    intro V
    refine ⟨fun wu0 hC hd => ?_, ?_⟩
    · clear hd
      replace hb := hb.trans (hC.mono hb.size)
      replace hks := blk_ext hks hC
      replace hr0 := Row.ext hr0 hC
      exact Runs.does (r_move rfl) ⟨Below.refl _ _, rfl, nofr rfl⟩
    refine ⟨fun wu1 hC hd => ?_, ?_⟩
    · obtain ⟨h0, _⟩ := hd
      skip
      replace h0 : V 0 = (.pointer (some ⟨bs, 0, none⟩)) := h0
      replace hb := hb.trans (hC.mono hb.size)
      replace hks := blk_ext hks hC
      replace hr0 := Row.ext hr0 hC
      exact Runs.does (r_nilCheck (congrArg some h0)) ⟨Below.refl _ _, rfl, nofr rfl⟩
    refine ⟨fun wu2 hC hd => ?_, ?_⟩
    · obtain ⟨h1, _⟩ := hd
      skip
      replace h1 : V 1 = (.pointer (some ⟨bs, 0, none⟩)) := h1
      replace hb := hb.trans (hC.mono hb.size)
      replace hks := blk_ext hks hC
      replace hr0 := Row.ext hr0 hC
      exact Runs.does (r_fa (congrArg some h1) Try.underlying161 (f := 0) (q := 0) rfl (by kernel_rfl) rfl) ⟨Below.refl _ _, rfl, nofr rfl⟩
    refine ⟨fun wu3 hC hd => ?_, ?_⟩
    · obtain ⟨h2, _⟩ := hd
      skip
      replace h2 : V 2 = (.pointer (some ⟨bs, 0, none⟩)) := h2
      replace hb := hb.trans (hC.mono hb.size)
      replace hks := blk_ext hks hC
      replace hr0 := Row.ext hr0 hC
      exact Runs.does (r_load (v := (.slice a l.length c)) (congrArg some h2) Try.underlying47 rfl (cell_blk hks rfl)) ⟨Below.refl _ _, rfl, nofr rfl⟩
    refine ⟨fun wu4 hC hd => ?_, ?_⟩
    · obtain ⟨h3, _⟩ := hd
      skip
      replace h3 : V 3 = (.slice a l.length c) := h3
      replace hb := hb.trans (hC.mono hb.size)
      replace hks := blk_ext hks hC
      replace hr0 := Row.ext hr0 hC
      exact Runs.does (r_lensl (congrArg some h3) Try.underlying47) ⟨Below.refl _ _, rfl, nofr rfl⟩
    refine ⟨fun wu5 hC hd => ?_, ?_⟩
    · clear hd
      replace hb := hb.trans (hC.mono hb.size)
      replace hks := blk_ext hks hC
      replace hr0 := Row.ext hr0 hC
      exact Runs.does (r_move rfl) ⟨Below.refl _ _, rfl, nofr rfl⟩
    refine ⟨fun wu6 hC hd => ?_, ?_⟩
    · obtain ⟨h5, _⟩ := hd
      skip
      replace h5 : V 5 = (.pointer (some ⟨bs, 0, none⟩)) := h5
      replace hb := hb.trans (hC.mono hb.size)
      replace hks := blk_ext hks hC
      replace hr0 := Row.ext hr0 hC
      exact Runs.does (r_nilCheck (congrArg some h5)) ⟨Below.refl _ _, rfl, nofr rfl⟩
    refine ⟨fun wu7 hC hd => ?_, ?_⟩
    · obtain ⟨h6, _⟩ := hd
      skip
      replace h6 : V 6 = (.pointer (some ⟨bs, 0, none⟩)) := h6
      replace hb := hb.trans (hC.mono hb.size)
      replace hks := blk_ext hks hC
      replace hr0 := Row.ext hr0 hC
      exact Runs.does (r_fa (congrArg some h6) Try.underlying161 (f := 1) (q := 1) rfl (by kernel_rfl) rfl) ⟨Below.refl _ _, rfl, nofr rfl⟩
    refine ⟨fun wu8 hC hd => ?_, ?_⟩
    · obtain ⟨h7, _⟩ := hd
      skip
      replace h7 : V 7 = (.pointer (some ⟨bs, 1, none⟩)) := h7
      replace hb := hb.trans (hC.mono hb.size)
      replace hks := blk_ext hks hC
      replace hr0 := Row.ext hr0 hC
      exact Runs.does (r_load (v := (.int .i64 ((p : Nat) : Int))) (congrArg some h7) Try.underlying3 rfl (cell_blk hks rfl)) ⟨Below.refl _ _, rfl, nofr rfl⟩
    refine ⟨fun wu9 hC hd => ?_, ?_⟩
    · obtain ⟨h4, h8, _⟩ := hd
      skip
      skip
      replace h4 : V 4 = (.int .i64 ((l.length : Nat) : Int)) := h4
      replace h8 : V 8 = (.int .i64 ((p : Nat) : Int)) := h8
      replace hb := hb.trans (hC.mono hb.size)
      replace hks := blk_ext hks hC
      replace hr0 := Row.ext hr0 hC
      exact Runs.does (r_sub (C := (((l.length : Nat) : Int) - ((p : Nat) : Int))) (congrArg some h4) (congrArg some h8) (by rw [IntKind.wrap_i64]; omega)) ⟨Below.refl _ _, rfl, nofr rfl⟩
    refine ⟨fun wu10 hC hd => ?_, ?_⟩
    · obtain ⟨h0, h1, h2, h3, h4, h5, h6, h7, h8, h9, _⟩ := hd
      skip
      skip
      skip
      skip
      skip
      skip
      skip
      skip
      skip
      skip
      replace h0 : V 0 = (.pointer (some ⟨bs, 0, none⟩)) := h0
      replace h1 : V 1 = (.pointer (some ⟨bs, 0, none⟩)) := h1
      replace h2 : V 2 = (.pointer (some ⟨bs, 0, none⟩)) := h2
      replace h3 : V 3 = (.slice a l.length c) := h3
      replace h4 : V 4 = (.int .i64 ((l.length : Nat) : Int)) := h4
      replace h5 : V 5 = (.pointer (some ⟨bs, 0, none⟩)) := h5
      replace h6 : V 6 = (.pointer (some ⟨bs, 0, none⟩)) := h6
      replace h7 : V 7 = (.pointer (some ⟨bs, 1, none⟩)) := h7
      replace h8 : V 8 = (.int .i64 ((p : Nat) : Int)) := h8
      replace h9 : V 9 = (.int .i64 (((l.length : Nat) : Int) - ((p : Nat) : Int))) := h9
      replace hb := hb.trans (hC.mono hb.size)
      replace hks := blk_ext hks hC
      replace hr0 := Row.ext hr0 hC
      exact Runs.does (r_assign (congrArg some h9)) ⟨Below.refl _ _, rfl, nofr rfl⟩
    trivial
  · skip
    clear hf fa; intro V w1 fa he1 hp hnb hf
    have hv0 : V 0 = (.pointer (some ⟨bs, 0, none⟩)) := postsHold_at hp 0 rfl
    have hv1 : V 1 = (.pointer (some ⟨bs, 0, none⟩)) := postsHold_at hp 1 rfl
    have hv2 : V 2 = (.pointer (some ⟨bs, 0, none⟩)) := postsHold_at hp 2 rfl
    have hv3 : V 3 = (.slice a l.length c) := postsHold_at hp 3 rfl
    have hv4 : V 4 = (.int .i64 ((l.length : Nat) : Int)) := postsHold_at hp 4 rfl
    have hv5 : V 5 = (.pointer (some ⟨bs, 0, none⟩)) := postsHold_at hp 5 rfl
    have hv6 : V 6 = (.pointer (some ⟨bs, 0, none⟩)) := postsHold_at hp 6 rfl
    have hv7 : V 7 = (.pointer (some ⟨bs, 1, none⟩)) := postsHold_at hp 7 rfl
    have hv8 : V 8 = (.int .i64 ((p : Nat) : Int)) := postsHold_at hp 8 rfl
    have hv9 : V 9 = (.int .i64 (((l.length : Nat) : Int) - ((p : Nat) : Int))) := postsHold_at hp 9 rfl
    have hv10 : V 10 = (.int .i64 (((l.length : Nat) : Int) - ((p : Nat) : Int))) := postsHold_at hp 10 rfl
    simp only [List.take_succ_cons, List.take_zero, insAll, ins, hv0, hv1, hv2, hv3, hv4, hv5, hv6, hv7, hv8, hv9, hv10] at hf
    clear hp hnb hv0 hv1 hv2 hv3 hv4 hv5 hv6 hv7 hv8 hv9 hv10
    replace hks := blk_ext hks he1
    replace hr0 := Row.ext hr0 he1
    replace hb := hb.trans (Below.mono he1 hb.size)
    (try simp only [Exit.then, Exit.inBlock, ↓reduceIte, Nat.reduceEqDiff])
    refine hK2 _ _ ?_
    refine wp_ret ?_
    (try simp only [Exit.then, Exit.inBlock])
    refine ret1 hf rfl rfl ?_
    exact ⟨rfl, hb⟩

set_option maxHeartbeats 1000000 in
set_option maxRecDepth 100000 in
theorem done_any (bs base p : Nat) (a : Option Addr) (c : Nat) (l : List Int) (w : World) (hks : w.heap[bs]? = some (.cells #[(.slice a l.length c), (.int .i64 ((p : Nat) : Int))] 161 (0, 0))) (hr0 : Row 1 (vInt .u8) 5 base w (.slice a l.length c) l) (hp : p ≤ l.length)  : Calls Try.prog 116 #[(.pointer (some ⟨bs, 0, none⟩))] w fun e w' => e = .returned (.bool (decide (((l.length : Nat) : Int) - ((p : Nat) : Int) = (0 : Int)))) ∧ Below w.heap.size w w' := by
  have hcap := Row.caps hr0; have hR0lt := fun q hq => (Row.lt hr0 q hq).2
  refine sx_enter (L := [(0, (.pointer (some ⟨bs, 0, none⟩)))]) Try.func116 rfl rfl rfl rfl (fun fa hf => ?_)
  have hb : Below w.heap.size w w := Below.refl _ _
  refine wp_seq_k (fun K1 hK1 => ?_)
  refine wp_region_lit ?_
  refine sqv hf (r_assign rfl) rfl rfl rfl ?_; clear hf fa; intro fa hf
  apply wpList_nil
  (try simp only [Exit.then, Exit.inBlock, ↓reduceIte, Nat.reduceEqDiff])
  refine hK1 _ _ ?_
  refine wp_seq_k (fun K2 hK2 => ?_)
  refine wp_region_lit ?_
  refine sqv hf (r_move rfl) rfl rfl rfl ?_; clear hf fa; intro fa hf
  refine sqdt hf (d_callB (vs := [(.pointer (some ⟨bs, 0, none⟩))]) rfl Try.func67 (by kernel_rfl) (by kernel_rfl) (left_any bs base p a c l _ hks hr0 (by omega))) rfl rfl rfl ?_; clear hf fa; rintro fa _ w1 ⟨rfl, he1⟩ hf
  replace hks := blk_ext hks he1
  replace hr0 := Row.ext hr0 he1
  replace hb := hb.trans (Below.mono he1 hb.size)
  refine sqv hf (r_eq rfl rfl) rfl rfl rfl ?_; clear hf fa; intro fa hf
  refine sqv hf (r_assign rfl) rfl rfl rfl ?_; clear hf fa; intro fa hf
  apply wpList_nil
  (try simp only [Exit.then, Exit.inBlock, ↓reduceIte, Nat.reduceEqDiff])
  refine hK2 _ _ ?_
  refine wp_ret ?_
  (try simp only [Exit.then, Exit.inBlock])
  refine ret1 hf rfl rfl ?_
  exact ⟨rfl, hb⟩

set_option maxHeartbeats 1000000 in
set_option maxRecDepth 100000 in
theorem at_any (bs base p : Nat) (a : Option Addr) (c : Nat) (l : List Int) (w : World) (hks : w.heap[bs]? = some (.cells #[(.slice a l.length c), (.int .i64 ((p : Nat) : Int))] 161 (0, 0))) (hr0 : Row 1 (vInt .u8) 5 base w (.slice a l.length c) l) (hp : p ≤ l.length)  : Calls Try.prog 126 #[(.pointer (some ⟨bs, 0, none⟩))] w fun e w' => e = .returned (.int .i64 ((p : Nat) : Int)) ∧ Below w.heap.size w w' := by
  have hcap := Row.caps hr0; have hR0lt := fun q hq => (Row.lt hr0 q hq).2
  refine sx_enter (L := [(0, (.pointer (some ⟨bs, 0, none⟩)))]) Try.func126 rfl rfl rfl rfl (fun fa hf => ?_)
  have hb : Below w.heap.size w w := Below.refl _ _
  refine wp_seq_k (fun K1 hK1 => ?_)
  refine wp_region_lit ?_
  refine sqv hf (r_assign rfl) rfl rfl rfl ?_; clear hf fa; intro fa hf
  apply wpList_nil
  (try simp only [Exit.then, Exit.inBlock, ↓reduceIte, Nat.reduceEqDiff])
  refine hK1 _ _ ?_
  refine wp_seq_k (fun K2 hK2 => ?_)
  refine wp_region_lit ?_
  refine sqv hf (r_move rfl) rfl rfl rfl ?_; clear hf fa; intro fa hf
  refine sqv hf (r_nilCheck rfl) rfl rfl rfl ?_; clear hf fa; intro fa hf
  refine sqv hf (r_fa rfl Try.underlying161 (f := 1) (q := 1) rfl (by kernel_rfl) rfl) rfl rfl rfl ?_; clear hf fa; intro fa hf
  refine sqv hf (r_load (v := (.int .i64 ((p : Nat) : Int))) rfl Try.underlying3 rfl (cell_blk hks rfl)) rfl rfl rfl ?_; clear hf fa; intro fa hf
  refine sqv hf (r_assign rfl) rfl rfl rfl ?_; clear hf fa; intro fa hf
  apply wpList_nil
  (try simp only [Exit.then, Exit.inBlock, ↓reduceIte, Nat.reduceEqDiff])
  refine hK2 _ _ ?_
  refine wp_ret ?_
  (try simp only [Exit.then, Exit.inBlock])
  refine ret1 hf rfl rfl ?_
  exact ⟨rfl, hb⟩

set_option maxHeartbeats 1000000 in
set_option maxRecDepth 100000 in
theorem sbyte_any (bs base p : Nat) (a : Option Addr) (c : Nat) (l : List Int) (w : World) (hks : w.heap[bs]? = some (.cells #[(.slice a l.length c), (.int .i64 ((p : Nat) : Int))] 161 (0, 0))) (hr0 : Row 1 (vInt .u8) 5 base w (.slice a l.length c) l) (hp : p ≤ l.length) (bx : Int) (hx : l[p]? = some bx) : Calls Try.prog 61 #[(.pointer (some ⟨bs, 0, none⟩))] w fun e w' => e = .returned (.int .u8 bx) ∧ Wrote w bs #[(.slice a l.length c), (.int .i64 (((p + 1) : Nat) : Int))] 161 w' := by
  have hcap := Row.caps hr0; have hR0lt := fun q hq => (Row.lt hr0 q hq).2; have hpl := (List.getElem?_eq_some_iff.1 hx).1
  refine sx_enter (L := [(0, (.pointer (some ⟨bs, 0, none⟩)))]) Try.func61 rfl rfl rfl rfl (fun fa hf => ?_)
  have hb : KB bs w.heap.size w w := KB.refl _ _ _
  refine wp_seq_k (fun K1 hK1 => ?_)
  refine wp_region_lit ?_
  refine sqv hf (r_assign rfl) rfl rfl rfl ?_; clear hf fa; intro fa hf
  apply wpList_nil
  (try simp only [Exit.then, Exit.inBlock, ↓reduceIte, Nat.reduceEqDiff])
  refine hK1 _ _ ?_
  refine wp_seq_k (fun K2 hK2 => ?_)
  refine wp_region_un (fun wq => Below w.heap.size w wq) (fun w w' => Below w.heap.size w w')
    (fun V => [(fun x _ => x = (.pointer (some ⟨bs, 0, none⟩))), (fun x _ => x = (.int .i64 (((l.length : Nat) : Int) - ((p : Nat) : Int)))), (fun x _ => x = (.bool (decide ((0 : Int) < (((l.length : Nat) : Int) - ((p : Nat) : Int)))))), (fun x _ => x = (.pointer (some ⟨bs, 0, none⟩))), (fun x _ => x = (.pointer (some ⟨bs, 0, none⟩))), (fun x _ => x = (.pointer (some ⟨bs, 1, none⟩))), (fun x _ => x = (.int .i64 ((p : Nat) : Int))), (fun x _ => x = (.tuple #[]))])
    []
    [[], [0], [1], [], [3], [4], [5], [1, 2, 6]]
    hf (by kernel_rfl) (by kernel_rfl) (fun _ => rfl) ((Below.refl _ _).drew) (fun a b h1 h2 => h1.trans (h2.mono h1.size)) (fun _ _ h => h.size) (fun V => ⟨kept_eq, kept_eq, kept_eq, kept_eq, kept_eq, kept_eq, kept_eq, kept_eq, trivial⟩) (fun _ _ _ _ _ => rfl) ?_ ?_
  · skip
    intro V
    refine ⟨fun wu0 hC hd => ?_, ?_⟩
    · clear hd
      replace hb := hb.trans (hC.mono hb.size)
      replace hks := blk_ext hks hC
      replace hr0 := Row.ext hr0 hC
      exact Runs.does (r_move rfl) ⟨Below.refl _ _, rfl, nofr rfl⟩
    refine ⟨fun wu1 hC hd => ?_, ?_⟩
    · obtain ⟨h0, _⟩ := hd
      skip
      replace h0 : V 0 = (.pointer (some ⟨bs, 0, none⟩)) := h0
      replace hb := hb.trans (hC.mono hb.size)
      replace hks := blk_ext hks hC
      replace hr0 := Row.ext hr0 hC
      refine Does.mono (d_callB (vs := [(.pointer (some ⟨bs, 0, none⟩))]) (show [some (V 0)] = [some (.pointer (some ⟨bs, 0, none⟩))] from by rw [h0]) Try.func67 (by kernel_rfl) (by kernel_rfl) (left_any bs base p a c l _ hks hr0 (by omega))) (fun _ _ h => ⟨h.2, h.1, nofr rfl⟩)
    refine ⟨fun wu2 hC hd => ?_, ?_⟩
    · obtain ⟨h1, _⟩ := hd
      skip
      replace h1 : V 1 = (.int .i64 (((l.length : Nat) : Int) - ((p : Nat) : Int))) := h1
      replace hb := hb.trans (hC.mono hb.size)
      replace hks := blk_ext hks hC
      replace hr0 := Row.ext hr0 hC
      exact Runs.does (r_gt (congrArg some h1) rfl) ⟨Below.refl _ _, rfl, nofr rfl⟩
    refine ⟨fun wu3 hC hd => ?_, ?_⟩
    · clear hd
      replace hb := hb.trans (hC.mono hb.size)
      replace hks := blk_ext hks hC
      replace hr0 := Row.ext hr0 hC
      exact Runs.does (r_move rfl) ⟨Below.refl _ _, rfl, nofr rfl⟩
    refine ⟨fun wu4 hC hd => ?_, ?_⟩
    · obtain ⟨h3, _⟩ := hd
      skip
      replace h3 : V 3 = (.pointer (some ⟨bs, 0, none⟩)) := h3
      replace hb := hb.trans (hC.mono hb.size)
      replace hks := blk_ext hks hC
      replace hr0 := Row.ext hr0 hC
      exact Runs.does (r_nilCheck (congrArg some h3)) ⟨Below.refl _ _, rfl, nofr rfl⟩
    refine ⟨fun wu5 hC hd => ?_, ?_⟩
    · obtain ⟨h4, _⟩ := hd
      skip
      replace h4 : V 4 = (.pointer (some ⟨bs, 0, none⟩)) := h4
      replace hb := hb.trans (hC.mono hb.size)
      replace hks := blk_ext hks hC
      replace hr0 := Row.ext hr0 hC
      exact Runs.does (r_fa (congrArg some h4) Try.underlying161 (f := 1) (q := 1) rfl (by kernel_rfl) rfl) ⟨Below.refl _ _, rfl, nofr rfl⟩
    refine ⟨fun wu6 hC hd => ?_, ?_⟩
    · obtain ⟨h5, _⟩ := hd
      skip
      replace h5 : V 5 = (.pointer (some ⟨bs, 1, none⟩)) := h5
      replace hb := hb.trans (hC.mono hb.size)
      replace hks := blk_ext hks hC
      replace hr0 := Row.ext hr0 hC
      exact Runs.does (r_load (v := (.int .i64 ((p : Nat) : Int))) (congrArg some h5) Try.underlying3 rfl (cell_blk hks rfl)) ⟨Below.refl _ _, rfl, nofr rfl⟩
    refine ⟨fun wu7 hC hd => ?_, ?_⟩
    · obtain ⟨h1, h2, h6, _⟩ := hd
      skip
      skip
      skip
      replace h1 : V 1 = (.int .i64 (((l.length : Nat) : Int) - ((p : Nat) : Int))) := h1
      replace h2 : V 2 = (.bool (decide ((0 : Int) < (((l.length : Nat) : Int) - ((p : Nat) : Int))))) := h2
      replace h6 : V 6 = (.int .i64 ((p : Nat) : Int)) := h6
      replace hb := hb.trans (hC.mono hb.size)
      replace hks := blk_ext hks hC
      replace hr0 := Row.ext hr0 hC
      refine Does.mono (d_callB (vs := [(.bool (decide ((0 : Int) < (((l.length : Nat) : Int) - ((p : Nat) : Int))))), (.int .i64 (2 : Int)), (.int .i64 ((p : Nat) : Int))]) (show [some (V 2), some (.int .i64 (2 : Int)), some (V 6)] = [some (.bool (decide ((0 : Int) < (((l.length : Nat) : Int) - ((p : Nat) : Int))))), some (.int .i64 (2 : Int)), some (.int .i64 ((p : Nat) : Int))] from by rw [h2, h6]) Try.func118 (by kernel_rfl) (by kernel_rfl) (unless_any (decide ((0 : Int) < (((l.length : Nat) : Int) - ((p : Nat) : Int)))) (2 : Int) ((p : Nat) : Int) _ (by first | rfl | assumption | (simp; done) | (simp; omega)))) (fun _ _ h => ⟨h.2, h.1, nofr rfl⟩)
    trivial
  · skip
    clear hf fa; intro V w1 fa he1 hp hnb hf
    have hv0 : V 0 = (.pointer (some ⟨bs, 0, none⟩)) := postsHold_at hp 0 rfl
    have hv1 : V 1 = (.int .i64 (((l.length : Nat) : Int) - ((p : Nat) : Int))) := postsHold_at hp 1 rfl
    have hv2 : V 2 = (.bool (decide ((0 : Int) < (((l.length : Nat) : Int) - ((p : Nat) : Int))))) := postsHold_at hp 2 rfl
    have hv3 : V 3 = (.pointer (some ⟨bs, 0, none⟩)) := postsHold_at hp 3 rfl
    have hv4 : V 4 = (.pointer (some ⟨bs, 0, none⟩)) := postsHold_at hp 4 rfl
    have hv5 : V 5 = (.pointer (some ⟨bs, 1, none⟩)) := postsHold_at hp 5 rfl
    have hv6 : V 6 = (.int .i64 ((p : Nat) : Int)) := postsHold_at hp 6 rfl
    have hv7 : V 7 = (.tuple #[]) := postsHold_at hp 7 rfl
    simp only [List.take_succ_cons, List.take_zero, insAll, ins, hv0, hv1, hv2, hv3, hv4, hv5, hv6, hv7] at hf
    clear hp hnb hv0 hv1 hv2 hv3 hv4 hv5 hv6 hv7
    replace hks := blk_ext hks he1
    replace hr0 := Row.ext hr0 he1
    replace hb := hb.trans (Below.mono he1 hb.size)
    (try simp only [Exit.then, Exit.inBlock, ↓reduceIte, Nat.reduceEqDiff])
    refine hK2 _ _ ?_
    refine wp_seq_k (fun K3 hK3 => ?_)
    refine wp_region_lit ?_
    refine sqv hf (r_move rfl) rfl rfl rfl ?_; clear hf fa; intro fa hf
    refine sqv hf (r_nilCheck rfl) rfl rfl rfl ?_; clear hf fa; intro fa hf
    refine sqv hf (r_fa rfl Try.underlying161 (f := 1) (q := 1) rfl (by kernel_rfl) rfl) rfl rfl rfl ?_; clear hf fa; intro fa hf
    refine sqv hf (r_load (v := (.int .i64 ((p : Nat) : Int))) rfl Try.underlying3 rfl (cell_blk hks rfl)) rfl rfl rfl ?_; clear hf fa; intro fa hf
    refine sqv hf (r_add (C := (((p + 1) : Nat) : Int)) rfl rfl (by rw [IntKind.wrap_i64]; omega)) rfl rfl rfl ?_; clear hf fa; intro fa hf
    refine sqv hf (r_nilCheck rfl) rfl rfl rfl ?_; clear hf fa; intro fa hf
    refine sqv hf (r_fa rfl Try.underlying161 (f := 1) (q := 1) rfl (by kernel_rfl) rfl) rfl rfl rfl ?_; clear hf fa; intro fa hf
    refine sqn hf (d_storeK (T := 161) (v := (.int .i64 (((p + 1) : Nat) : Int))) (cs := #[(.slice a l.length c), (.int .i64 ((p : Nat) : Int))]) (cs' := #[(.slice a l.length c), (.int .i64 (((p + 1) : Nat) : Int))]) rfl rfl (by kernel_rfl) (by kernel_rfl) hks (by kernel_rfl) (by kernel_rfl)) rfl rfl ?_; clear hf fa; rintro fa _ w2 ⟨hk1, hg1⟩ hf
    replace hr0 := Row.grown hr0 hg1 (Row.ne_type hr0 hks rfl)
    replace hb := hb.wrote hg1 hb.size
    apply wpList_nil
    (try simp only [Exit.then, Exit.inBlock, ↓reduceIte, Nat.reduceEqDiff])
    refine hK3 _ _ ?_
    refine wp_seq_k (fun K4 hK4 => ?_)
    obtain ⟨rb1, rfl, hbbrb1, hlbrb1⟩ := Row.some hr0 (by first | omega | (simp only [Sl.list_length, List.length_set, List.length_take, List.length_append, List.length_replicate, List.length_cons, List.length_nil, List.length_map, nums_len]; omega))
    have hy1 : (l)[(((p + 1)) - 1)]? = some bx := (by rw [Nat.add_sub_cancel]; exact hx)
    have hel1 := RdS.at (Row.rd (by intros; rfl) hr0) hy1
    obtain ⟨_, _, hab, hlr1, hel1⟩ := hel1
    cases hab
    refine wp_region_un (fun wq => Below w2.heap.size w2 wq) (fun w w' => Below w.heap.size w w')
      (fun V => [(fun x _ => x = (.pointer (some ⟨bs, 0, none⟩))), (fun x _ => x = (.pointer (some ⟨bs, 0, none⟩))), (fun x _ => x = (.pointer (some ⟨bs, 0, none⟩))), (fun x _ => x = (.slice (some ⟨rb1, 0, none⟩) l.length c)), (fun x _ => x = (.pointer (some ⟨bs, 0, none⟩))), (fun x _ => x = (.pointer (some ⟨bs, 0, none⟩))), (fun x _ => x = (.pointer (some ⟨bs, 1, none⟩))), (fun x _ => x = (.int .i64 (((p + 1) : Nat) : Int))), (fun x _ => x = (.int .i64 ((((p + 1) : Nat) : Int) - (1 : Int)))), (fun x _ => x = (.pointer (some ⟨rb1, (0 + (((p + 1)) - 1) * 1), none⟩))), (fun x _ => x = (.int .u8 bx)), (fun x _ => x = (.int .u8 bx))])
      []
      [[], [0], [1], [2], [], [4], [5], [6], [7], [3, 8], [9], [0, 1, 2, 3, 4, 5, 6, 7, 8, 9, 10]]
      hf (by kernel_rfl) (by kernel_rfl) (fun _ => rfl) ((Below.refl _ _).drew) (fun a b h1 h2 => h1.trans (h2.mono h1.size)) (fun _ _ h => h.size) (fun V => ⟨kept_eq, kept_eq, kept_eq, kept_eq, kept_eq, kept_eq, kept_eq, kept_eq, kept_eq, kept_eq, kept_eq, kept_eq, trivial⟩) (fun _ _ _ _ _ => rfl) ?_ ?_
    · skip
      intro V
      refine ⟨fun wu0 hC hd => ?_, ?_⟩
      · clear hd
        replace hb := hb.trans (hC.mono hb.size)
        replace hk1 := blk_ext hk1 hC
        replace hr0 := Row.ext hr0 hC
        exact Runs.does (r_move rfl) ⟨Below.refl _ _, rfl, nofr rfl⟩
      refine ⟨fun wu1 hC hd => ?_, ?_⟩
      · obtain ⟨h0, _⟩ := hd
        skip
        replace h0 : V 0 = (.pointer (some ⟨bs, 0, none⟩)) := h0
        replace hb := hb.trans (hC.mono hb.size)
        replace hk1 := blk_ext hk1 hC
        replace hr0 := Row.ext hr0 hC
        exact Runs.does (r_nilCheck (congrArg some h0)) ⟨Below.refl _ _, rfl, nofr rfl⟩
      refine ⟨fun wu2 hC hd => ?_, ?_⟩
      · obtain ⟨h1, _⟩ := hd
        skip
        replace h1 : V 1 = (.pointer (some ⟨bs, 0, none⟩)) := h1
        replace hb := hb.trans (hC.mono hb.size)
        replace hk1 := blk_ext hk1 hC
        replace hr0 := Row.ext hr0 hC
        exact Runs.does (r_fa (congrArg some h1) Try.underlying161 (f := 0) (q := 0) rfl (by kernel_rfl) rfl) ⟨Below.refl _ _, rfl, nofr rfl⟩
      refine ⟨fun wu3 hC hd => ?_, ?_⟩
      · obtain ⟨h2, _⟩ := hd
        skip
        replace h2 : V 2 = (.pointer (some ⟨bs, 0, none⟩)) := h2
        replace hb := hb.trans (hC.mono hb.size)
        replace hk1 := blk_ext hk1 hC
        replace hr0 := Row.ext hr0 hC
        exact Runs.does (r_load (v := (.slice (some ⟨rb1, 0, none⟩) l.length c)) (congrArg some h2) Try.underlying47 rfl (cell_blk hk1 rfl)) ⟨Below.refl _ _, rfl, nofr rfl⟩
      refine ⟨fun wu4 hC hd => ?_, ?_⟩
      · clear hd
        replace hb := hb.trans (hC.mono hb.size)
        replace hk1 := blk_ext hk1 hC
        replace hr0 := Row.ext hr0 hC
        exact Runs.does (r_move rfl) ⟨Below.refl _ _, rfl, nofr rfl⟩
      refine ⟨fun wu5 hC hd => ?_, ?_⟩
      · obtain ⟨h4, _⟩ := hd
        skip
        replace h4 : V 4 = (.pointer (some ⟨bs, 0, none⟩)) := h4
        replace hb := hb.trans (hC.mono hb.size)
        replace hk1 := blk_ext hk1 hC
        replace hr0 := Row.ext hr0 hC
        exact Runs.does (r_nilCheck (congrArg some h4)) ⟨Below.refl _ _, rfl, nofr rfl⟩
      refine ⟨fun wu6 hC hd => ?_, ?_⟩
      · obtain ⟨h5, _⟩ := hd
        skip
        replace h5 : V 5 = (.pointer (some ⟨bs, 0, none⟩)) := h5
        replace hb := hb.trans (hC.mono hb.size)
        replace hk1 := blk_ext hk1 hC
        replace hr0 := Row.ext hr0 hC
        exact Runs.does (r_fa (congrArg some h5) Try.underlying161 (f := 1) (q := 1) rfl (by kernel_rfl) rfl) ⟨Below.refl _ _, rfl, nofr rfl⟩
      refine ⟨fun wu7 hC hd => ?_, ?_⟩
      · obtain ⟨h6, _⟩ := hd
        skip
        replace h6 : V 6 = (.pointer (some ⟨bs, 1, none⟩)) := h6
        replace hb := hb.trans (hC.mono hb.size)
        replace hk1 := blk_ext hk1 hC
        replace hr0 := Row.ext hr0 hC
        exact Runs.does (r_load (v := (.int .i64 (((p + 1) : Nat) : Int))) (congrArg some h6) Try.underlying3 rfl (cell_blk hk1 rfl)) ⟨Below.refl _ _, rfl, nofr rfl⟩
      refine ⟨fun wu8 hC hd => ?_, ?_⟩
      · obtain ⟨h7, _⟩ := hd
        skip
        replace h7 : V 7 = (.int .i64 (((p + 1) : Nat) : Int)) := h7
        replace hb := hb.trans (hC.mono hb.size)
        replace hk1 := blk_ext hk1 hC
        replace hr0 := Row.ext hr0 hC
        exact Runs.does (r_sub (C := ((((p + 1) : Nat) : Int) - (1 : Int))) (congrArg some h7) rfl (by rw [IntKind.wrap_i64]; omega)) ⟨Below.refl _ _, rfl, nofr rfl⟩
      refine ⟨fun wu9 hC hd => ?_, ?_⟩
      · obtain ⟨h3, h8, _⟩ := hd
        skip
        skip
        replace h3 : V 3 = (.slice (some ⟨rb1, 0, none⟩) l.length c) := h3
        replace h8 : V 8 = (.int .i64 ((((p + 1) : Nat) : Int) - (1 : Int))) := h8
        replace hb := hb.trans (hC.mono hb.size)
        replace hk1 := blk_ext hk1 hC
        replace hr0 := Row.ext hr0 hC
        exact Runs.does (r_ixa (sz := 1) (j := (((p + 1)) - 1)) (congrArg some h3) (congrArg some h8) Try.underlying47 (by kernel_rfl) (by omega) (by omega) rfl) ⟨Below.refl _ _, rfl, nofr rfl⟩
      refine ⟨fun wu10 hC hd => ?_, ?_⟩
      · obtain ⟨h9, _⟩ := hd
        skip
        replace h9 : V 9 = (.pointer (some ⟨rb1, (0 + (((p + 1)) - 1) * 1), none⟩)) := h9
        replace hb := hb.trans (hC.mono hb.size)
        replace hk1 := blk_ext hk1 hC
        replace hr0 := Row.ext hr0 hC
        exact Runs.does (r_load (v := (.int .u8 bx)) (congrArg some h9) Try.underlying5 rfl (cellsAt_cell (cellsAt_below hel1 hC hlr1) (i := 0) rfl rfl)) ⟨Below.refl _ _, rfl, nofr rfl⟩
      refine ⟨fun wu11 hC hd => ?_, ?_⟩
      · obtain ⟨h0, h1, h2, h3, h4, h5, h6, h7, h8, h9, h10, _⟩ := hd
        skip
        skip
        skip
        skip
        skip
        skip
        skip
        skip
        skip
        skip
        skip
        replace h0 : V 0 = (.pointer (some ⟨bs, 0, none⟩)) := h0
        replace h1 : V 1 = (.pointer (some ⟨bs, 0, none⟩)) := h1
        replace h2 : V 2 = (.pointer (some ⟨bs, 0, none⟩)) := h2
        replace h3 : V 3 = (.slice (some ⟨rb1, 0, none⟩) l.length c) := h3
        replace h4 : V 4 = (.pointer (some ⟨bs, 0, none⟩)) := h4
        replace h5 : V 5 = (.pointer (some ⟨bs, 0, none⟩)) := h5
        replace h6 : V 6 = (.pointer (some ⟨bs, 1, none⟩)) := h6
        replace h7 : V 7 = (.int .i64 (((p + 1) : Nat) : Int)) := h7
        replace h8 : V 8 = (.int .i64 ((((p + 1) : Nat) : Int) - (1 : Int))) := h8
        replace h9 : V 9 = (.pointer (some ⟨rb1, (0 + (((p + 1)) - 1) * 1), none⟩)) := h9
        replace h10 : V 10 = (.int .u8 bx) := h10
        replace hb := hb.trans (hC.mono hb.size)
        replace hk1 := blk_ext hk1 hC
        replace hr0 := Row.ext hr0 hC
        exact Runs.does (r_assign (congrArg some h10)) ⟨Below.refl _ _, rfl, nofr rfl⟩
      trivial
    · skip
      clear hf fa; intro V w3 fa he2 hp hnb hf
      have hv0 : V 0 = (.pointer (some ⟨bs, 0, none⟩)) := postsHold_at hp 0 rfl
      have hv1 : V 1 = (.pointer (some ⟨bs, 0, none⟩)) := postsHold_at hp 1 rfl
      have hv2 : V 2 = (.pointer (some ⟨bs, 0, none⟩)) := postsHold_at hp 2 rfl
      have hv3 : V 3 = (.slice (some ⟨rb1, 0, none⟩) l.length c) := postsHold_at hp 3 rfl
      have hv4 : V 4 = (.pointer (some ⟨bs, 0, none⟩)) := postsHold_at hp 4 rfl
      have hv5 : V 5 = (.pointer (some ⟨bs, 0, none⟩)) := postsHold_at hp 5 rfl
      have hv6 : V 6 = (.pointer (some ⟨bs, 1, none⟩)) := postsHold_at hp 6 rfl
      have hv7 : V 7 = (.int .i64 (((p + 1) : Nat) : Int)) := postsHold_at hp 7 rfl
      have hv8 : V 8 = (.int .i64 ((((p + 1) : Nat) : Int) - (1 : Int))) := postsHold_at hp 8 rfl
      have hv9 : V 9 = (.pointer (some ⟨rb1, (0 + (((p + 1)) - 1) * 1), none⟩)) := postsHold_at hp 9 rfl
      have hv10 : V 10 = (.int .u8 bx) := postsHold_at hp 10 rfl
      have hv11 : V 11 = (.int .u8 bx) := postsHold_at hp 11 rfl
      simp only [List.take_succ_cons, List.take_zero, insAll, ins, hv0, hv1, hv2, hv3, hv4, hv5, hv6, hv7, hv8, hv9, hv10, hv11] at hf
      clear hp hnb hv0 hv1 hv2 hv3 hv4 hv5 hv6 hv7 hv8 hv9 hv10 hv11
      replace hk1 := blk_ext hk1 he2
      replace hr0 := Row.ext hr0 he2
      replace hb := hb.trans (Below.mono he2 hb.size)
      (try simp only [Exit.then, Exit.inBlock, ↓reduceIte, Nat.reduceEqDiff])
      refine hK4 _ _ ?_
      refine wp_ret ?_
      (try simp only [Exit.then, Exit.inBlock])
      refine ret1 hf rfl rfl ?_
      exact ⟨rfl, hk1, hb.grown⟩
end Go.Proofs.Ytcmdajkkdognfaa

namespace Go.Proofs.Ytcmdajkkdognfaa
open Go.RowKit
set_option linter.unusedVariables false
set_option linter.unusedSimpArgs false

/-- The first n bytes of a slice read as f says. -/
def RdB (w : World) (a : Option Addr) (n : Nat) (f : Nat → Int) : Prop := ∀ j, j < n → ∃ b off, a = some ⟨b, off, none⟩ ∧ w.cell? ⟨b, off + j, none⟩ = some (.int .u8 (f j)) ∧ 0 ≤ f j ∧ f j < 256 ∧ b < w.heap.size

theorem RdB.ext {w w' : World} {a : Option Addr} {n : Nat} {f : Nat → Int} (h : RdB w a n f) (hb : Below w.heap.size w w') : RdB w' a n f := by
  intro j hj
  obtain ⟨b, off, ha, hc, h0, h1, hl⟩ := h j hj
  exact ⟨b, off, ha, (hb.cell (p := ⟨b, off + j, none⟩) hl).trans hc, h0, h1, Nat.lt_of_lt_of_le hl hb.size⟩

/-- Where the last byte of a number stands, or why there is none. -/
def scanG (f : Nat → Int) (avail : Nat) (n : Nat) : Nat → Nat × Int
  | 0 => (0, 3)
  | k + 1 => if avail < n then (0, 2) else if f (n - 1) < 128 then (n, 0) else scanG f avail (n + 1) k

def startB (len : Nat) (at' bits : Int) : Bool := rightB bits && decide (0 ≤ at') && decide (at' ≤ len)

set_option maxRecDepth 100000 in
theorem start_any (a : Option Addr) (len cap : Nat) (at' bits : Int) (w : World) : Calls Try.prog 166 #[.slice a len cap, .int .i64 at', .int .i64 bits] w fun e w' => e = .returned (.bool (startB len at' bits)) ∧ w = w' := by
  cases hr : rightB bits with
  | false =>
    have he : startB len at' bits = false := by simp [startB, hr]
    have Hr := hid hr; clear hr
    have He := hid he; clear he
    go_enter Try.func166, Try.ntmps166
    go_wp2_with fail
    refine (right_any bits _).mono ?_
    rintro e w' ⟨rfl, rfl⟩
    rw [Hr.out]
    go_wp2
    go_ret
    exact ⟨by rw [He.out]; rfl, rfl⟩
  | true =>
    by_cases h1 : 0 ≤ at'
    · by_cases h2 : at' ≤ len
      · have he : startB len at' bits = true := by simp [startB, hr, h1, h2]
        have Hr := hid hr; clear hr
        have He := hid he; clear he
        go_enter Try.func166, Try.ntmps166
        go_wp2_with fail
        refine (right_any bits _).mono ?_
        rintro e w' ⟨rfl, rfl⟩
        rw [Hr.out]
        go_wp2
        go_ret
        exact ⟨by rw [He.out]; simp [h2], rfl⟩
      · have he : startB len at' bits = false := by simp [startB, hr, h1, h2]
        have Hr := hid hr; clear hr
        have He := hid he; clear he
        go_enter Try.func166, Try.ntmps166
        go_wp2_with fail
        refine (right_any bits _).mono ?_
        rintro e w' ⟨rfl, rfl⟩
        rw [Hr.out]
        go_wp2
        go_ret
        exact ⟨by rw [He.out]; simp [h2]; try omega, rfl⟩
    · have he : startB len at' bits = false := by simp [startB, hr, h1]
      have h1' : at' < 0 := by omega
      have Hr := hid hr; clear hr
      have He := hid he; clear he
      go_enter Try.func166, Try.ntmps166
      go_wp2_with fail
      refine (right_any bits _).mono ?_
      rintro e w' ⟨rfl, rfl⟩
      rw [Hr.out]
      go_wp2
      go_ret
      exact ⟨by rw [He.out]; simp; try omega, rfl⟩

def GroupPost (a : Option Addr) (cap at' : Nat) (r : Nat × Int) (w : World) (e : Ending) (w' : World) : Prop :=
  w = w' ∧ ∃ s, e = .returned (.tuple #[s, .int .i64 r.2]) ∧ (r.2 ≠ 0 → s = .slice none 0 0) ∧ (r.2 = 0 → ∃ b off, a = some ⟨b, off, none⟩ ∧ s = .slice (some ⟨b, off + at', none⟩) r.1 (cap - at'))

set_option maxHeartbeats 400000 in
set_option maxRecDepth 100000 in
theorem group50_any (a : Option Addr) (len cap at' : Nat) (bits : Int) (f : Nat → Int) (w : World) (hr : rightB bits = true) (hat : at' ≤ len) (hlc : len ≤ cap) (hcm : len ≤ 1000000) (hrd : RdB w a len f) :
    Calls Try.prog 167 #[.slice a len cap, .int .i64 at', .int .i64 bits] w (GroupPost a cap at' (scanG (fun j => f (at' + j)) (len - at') 1 (mostN bits).toNat) w) := by
  have hb : 1 ≤ bits ∧ bits ≤ 64 := by simpa [rightB] using hr
  have hm : mostN bits = (bits + 6) / 7 := by simp [mostN, hr]
  have Hr := hid hr; clear hr
  obtain ⟨M, hM⟩ : ∃ M : Nat, mostN bits = M := ⟨((bits + 6) / 7).toNat, by rw [hm]; omega⟩
  have hM10 : M ≤ 10 := by omega
  rw [hM]; simp only [Int.toNat_natCast]
  have HM := hid hM; clear hM hm
  obtain ⟨hb1, hb2⟩ := hb
  have Hrd := hid hrd; clear hrd
  go_enter Try.func167, Try.ntmps167
  go_wp2
  go_loop [8] (fun x => ∃ n k : Nat, x = .int .i64 n ∧ 1 ≤ n ∧ n + k ≤ M + 1 ∧ M + 1 ≤ n + k ∧ Hid (scanG (fun j => f (at' + j)) (len - at') 1 M = scanG (fun j => f (at' + j)) (len - at') n k)) (fun x => (11 - intOf x).toNat)
  case atStart => exact ⟨1, M, rfl, by omega, by omega, by omega, rfl⟩
  case round =>
    obtain ⟨n, k, rfl, hn, hk1, hk2, Hs⟩ := hrel
    cases k with
    | zero =>
      have hgt : M < n := by omega
      go_wp2_with fail
      refine (most_any bits _).mono ?_
      rintro e w' ⟨rfl, rfl⟩
      rw [HM.out]
      go_wp2
      go_ret2
      refine ⟨rfl, .slice none 0 0, ?_, fun _ => rfl, fun h => ?_⟩
      · rw [Hs.out]; rfl
      · rw [Hs.out] at h; simp [scanG] at h
    | succ k =>
      have hle : n ≤ M := by omega
      by_cases hav : len - at' < n
      · have hs : scanG (fun j => f (at' + j)) (len - at') n (k + 1) = (0, 2) := by rw [scanG, if_pos hav]
        have Hs2 := hid (Hs.out.trans hs); clear hs
        go_wp2_with fail
        refine (most_any bits _).mono ?_
        rintro e w' ⟨rfl, rfl⟩
        rw [HM.out]
        go_wp2
        go_ret2
        refine ⟨rfl, .slice none 0 0, ?_, fun _ => rfl, fun h => ?_⟩
        · rw [Hs2.out]; rfl
        · rw [Hs2.out] at h; simp at h
      · have hj : at' + (n - 1) < len := by omega
        obtain ⟨b, off, rfl, hc, h0, h1, hbw⟩ := Hrd.out (at' + (n - 1)) hj
        have e1 : at' + (n - 1) = at' + n - 1 := by omega
        rw [e1] at hc
        have HE := hid e1; clear e1
        by_cases hlt : f (at' + (n - 1)) < 128
        · have hs : scanG (fun j => f (at' + j)) (len - at') n (k + 1) = (n, 0) := by rw [scanG, if_neg hav, if_pos hlt]
          have Hs2 := hid (Hs.out.trans hs); clear hs
          rw [HE.out] at hlt h0 h1
          go_wp2_with fail
          refine (most_any bits _).mono ?_
          rintro e w' ⟨rfl, rfl⟩
          rw [HM.out]
          go_wp2
          go_ret2
          refine ⟨rfl, _, ?_, fun h => ?_, fun _ => ⟨b, off, rfl, rfl⟩⟩
          · rw [Hs2.out]; simp
          · rw [Hs2.out] at h; simp at h
        · have hs : scanG (fun j => f (at' + j)) (len - at') n (k + 1) = scanG (fun j => f (at' + j)) (len - at') (n + 1) k := by rw [scanG, if_neg hav, if_neg hlt]
          have Hs2 := hid (Hs.out.trans hs); clear hs
          rw [HE.out] at hlt h0 h1
          go_wp2_with fail
          refine (most_any bits _).mono ?_
          rintro e w' ⟨rfl, rfl⟩
          rw [HM.out]
          go_wp2
          go_round
          case rel => exact ⟨n + 1, k, by go_num, by omega, by omega, by omega, Hs2.out⟩
          case measure => simp [intOf]; omega

theorem scan_ok (f : Nat → Int) (avail : Nat) : ∀ k n m, scanG f avail n k = (m, 0) → n ≤ m ∧ m < n + k ∧ m ≤ avail ∧ f (m - 1) < 128
  | 0, n, m, h => by simp [scanG] at h
  | k + 1, n, m, h => by
    rw [scanG] at h
    split at h
    · simp at h
    · split at h
      · rename_i h1 h2
        simp at h; subst h
        exact ⟨by omega, by omega, by omega, h2⟩
      · have := scan_ok f avail k (n + 1) m h
        exact ⟨by omega, by omega, this.2.2⟩

/-- The number that n groups of seven bits stand for. -/
def numX (f : Nat → Int) : Nat → Nat
  | 0 => 0
  | n + 1 => numX f n + (f n % 128).toNat * 128 ^ n
theorem numX_lt (f : Nat → Int) : ∀ n, numX f n < 128 ^ n
  | 0 => by simp [numX]
  | n + 1 => by
    have h1 := numX_lt f n
    have h2 : (f n % 128).toNat ≤ 127 := by omega
    have h3 : (f n % 128).toNat * 128 ^ n ≤ 127 * 128 ^ n := Nat.mul_le_mul_right _ h2
    rw [numX, Nat.pow_succ]; omega

theorem or_add {X Y s : Nat} (hX : X < 2 ^ s) : X ||| (Y * 2 ^ s) = X + Y * 2 ^ s := by
  rw [Nat.or_comm, Nat.mul_comm Y, ← Nat.two_pow_add_eq_or_of_lt hX, Nat.add_comm]

theorem mul_mod64 (y s : Nat) (hs : s ≤ 64) : y * 2 ^ s % 2 ^ 64 = y % 2 ^ (64 - s) * 2 ^ s := by
  have : (2 : Nat) ^ 64 = 2 ^ (64 - s) * 2 ^ s := by rw [← Nat.pow_add]; congr 1; omega
  rw [this, Nat.mul_mod_mul_right]

theorem pow128 (k : Nat) : 128 ^ k = 2 ^ (7 * k) := by rw [Nat.pow_mul]

/-- One group of seven bits more: the sum below 2^64. -/
theorem or_group {X k y : Nat} (hX : X < 128 ^ k) (hk : k ≤ 9) : X ||| (y * 2 ^ (7 * k) % 2 ^ 64) = (X + y * 128 ^ k) % 2 ^ 64 := by
  rw [pow128] at hX ⊢
  rw [mul_mod64 y _ (by omega), or_add hX]
  have h1 : X + y * 2 ^ (7 * k) = X + y % 2 ^ (64 - 7 * k) * 2 ^ (7 * k) + 2 ^ 64 * (y / 2 ^ (64 - 7 * k)) := by
    have e : (2 : Nat) ^ 64 = 2 ^ (64 - 7 * k) * 2 ^ (7 * k) := by rw [← Nat.pow_add]; congr 1; omega
    have := Nat.div_add_mod y (2 ^ (64 - 7 * k))
    calc X + y * 2 ^ (7 * k) = X + (2 ^ (64 - 7 * k) * (y / 2 ^ (64 - 7 * k)) + y % 2 ^ (64 - 7 * k)) * 2 ^ (7 * k) := by rw [this]
      _ = _ := by rw [e, Nat.add_mul]; simp only [Nat.mul_assoc, Nat.mul_comm, Nat.mul_left_comm]; omega
  rw [h1, Nat.add_mul_mod_self_left]
  refine (Nat.mod_eq_of_lt ?_).symm
  have h2 : y % 2 ^ (64 - 7 * k) + 1 ≤ 2 ^ (64 - 7 * k) := Nat.mod_lt _ (Nat.two_pow_pos _)
  have h3 := Nat.mul_le_mul_right (2 ^ (7 * k)) h2
  have e : (2 : Nat) ^ 64 = 2 ^ (64 - 7 * k) * 2 ^ (7 * k) := by rw [← Nat.pow_add]; congr 1; omega
  rw [e]
  rw [Nat.add_mul] at h3
  omega

theorem orU {X k : Nat} {c : Int} (hX : X < 128 ^ k) (hk : k ≤ 9) (h0 : 0 ≤ c) (h1 : c < 256) :
    bits BinOp.or .u64 ((X : Int) % 18446744073709551616) (IntKind.u64.wrap (IntKind.u64.wrap (bits BinOp.and .u8 c 127) * 2 ^ (7 * k))) = (((X + (c % 128).toNat * 128 ^ k) % 18446744073709551616 : Nat) : Int) := by
  have e1 : bits BinOp.and .u8 c 127 = ((c % 128).toNat : Nat) := by
    have := and127i c
    rw [Int.emod_eq_of_lt h0 h1] at this
    rw [this]; omega
  have h7 : 128 ^ k ≤ 128 ^ 9 := Nat.pow_le_pow_right (by decide) hk
  have h8 : (128 : Nat) ^ 9 = 9223372036854775808 := by decide
  have e0 : IntKind.u64.wrap (((c % 128).toNat : Nat) : Int) = ((c % 128).toNat : Nat) := wrap_u64 (by omega) (by omega)
  rw [e1, e0, wrap_u64_def]
  have e2 : (((c % 128).toNat : Nat) : Int) * 2 ^ (7 * k) % 18446744073709551616 = (((c % 128).toNat * 2 ^ (7 * k) % 2 ^ 64 : Nat) : Int) := by simp
  have e3 : (X : Int) % 18446744073709551616 = (X : Nat) := by omega
  rw [e2, e3, u64_or_nat _ _ (by omega) (Nat.mod_lt _ (by decide)), or_group hX hk]

theorem top_test {A c j s : Nat} (hA : A < 128 ^ j) : 2 ^ (7 * j + s) ≤ A + c * 128 ^ j ↔ 2 ^ s ≤ c := by
  rw [Nat.pow_add, ← pow128, Nat.mul_comm]
  constructor
  · intro h
    apply Nat.le_of_lt_succ
    apply Nat.lt_of_mul_lt_mul_right (a := 128 ^ j)
    rw [Nat.succ_mul]; omega
  · intro h
    have := Nat.mul_le_mul_right (128 ^ j) h
    omega

theorem over_iff {A k : Nat} {c bits : Int} (hk : 1 ≤ k) (h1 : bits < 7 * k) (h2 : 7 * k < bits + 7) (hA : A < 128 ^ (k - 1)) (h0 : 0 ≤ c) (hc : c < 128) :
    (c / 2 ^ (7 - (7 * k - bits)).toNat != 0) = true ↔ 2 ^ bits.toNat ≤ A + (c % 128).toNat * 128 ^ (k - 1) := by
  obtain ⟨c, rfl⟩ := Int.eq_ofNat_of_zero_le h0
  obtain ⟨s, hs⟩ : ∃ s : Nat, bits = 7 * (k - 1 : Nat) + s := ⟨(bits - 7 * (k - 1 : Nat)).toNat, by omega⟩
  have e1 : 7 - (7 * (k : Int) - bits) = s := by omega
  have e2 : bits.toNat = 7 * (k - 1) + s := by omega
  have e3 : ((c : Int) % 128).toNat = c := by omega
  rw [e1, e2, e3, top_test hA, Int.toNat_natCast]
  have e4 : (c : Int) / 2 ^ s = ((c / 2 ^ s : Nat) : Int) := by simp
  rw [e4, bne_iff_ne, ← Nat.not_lt, ← Nat.div_eq_zero_iff_lt (Nat.two_pow_pos s)]
  omega

theorem numX_mod {X : Nat} {b : Nat} (h : X < 2 ^ b) (hb : b ≤ 64) : X % 18446744073709551616 = X := by
  apply Nat.mod_eq_of_lt
  have := Nat.pow_le_pow_right (n := 2) (by decide) hb
  have h2 : (2 : Nat) ^ 64 = 18446744073709551616 := by decide
  omega

def readU (f : Nat → Int) (at' avail : Nat) (bits : Int) : Int × Int × Int :=
  let r := scanG f avail 1 (mostN bits).toNat
  if r.2 ≠ 0 then (0, 0, r.2)
  else if bits < 7 * r.1 ∧ 2 ^ bits.toNat ≤ numX f r.1 then (0, 0, 3)
  else ((numX f r.1 : Int), at' + r.1, 0)

set_option maxHeartbeats 1000000 in
set_option maxRecDepth 100000 in
theorem readUint_any (a : Option Addr) (len cap : Nat) (at0 bits : Int) (f : Nat → Int) (w : World) (hlc : len ≤ cap) (hcm : len ≤ 1000000) (hrd : RdB w a len f) :
    Calls Try.prog 161 #[.slice a len cap, .int .i64 at0, .int .i64 bits] w fun e w' => w = w' ∧ e = .returned (.tuple (if startB len at0 bits then
      #[.int .u64 (readU (fun j => f (at0.toNat + j)) at0.toNat (len - at0.toNat) bits).1, .int .i64 (readU (fun j => f (at0.toNat + j)) at0.toNat (len - at0.toNat) bits).2.1, .int .i64 (readU (fun j => f (at0.toNat + j)) at0.toNat (len - at0.toNat) bits).2.2] else #[.int .u64 0, .int .i64 0, .int .i64 1])) := by
  cases hst : startB len at0 bits with
  | false =>
    have Hst := hid hst; clear hst
    go_enter Try.func161, Try.ntmps161
    go_wp2_with fail
    refine (start_any a len cap at0 bits _).mono ?_
    rintro e w' ⟨rfl, rfl⟩
    rw [Hst.out]
    go_wp2
    go_ret3
    exact ⟨rfl, rfl⟩
  | true =>
    have hs : (rightB bits = true ∧ 0 ≤ at0) ∧ at0 ≤ len := by simpa [startB] using hst
    obtain ⟨⟨hr, h0⟩, hle⟩ := hs
    obtain ⟨at', rfl⟩ := Int.eq_ofNat_of_zero_le h0
    simp only [Int.toNat_natCast]
    have hle' : at' ≤ len := by omega
    have hb : 1 ≤ bits ∧ bits ≤ 64 := by simpa [rightB] using hr
    have hm : mostN bits = (bits + 6) / 7 := by simp [mostN, hr]
    obtain ⟨hb1, hb2⟩ := hb
    have hM10 : (mostN bits).toNat ≤ 10 := by omega
    have Hm := hid hm; clear hm
    have Hst := hid hst; clear hst
    have Hr := hid hr; clear hr
    have hg := group50_any a len cap at' bits f w Hr.out hle' hlc hcm hrd
    have HM10 := hid hM10; clear hM10
    have Hrd := hid hrd; clear hrd
    have HU : Hid (readU (fun j => f (at' + j)) at' (len - at') bits = readU (fun j => f (at' + j)) at' (len - at') bits) := rfl
    generalize hU : readU (fun j => f (at' + j)) at' (len - at') bits = U at HU ⊢
    unfold readU at hU
    obtain ⟨m, er, hscan⟩ : ∃ m er, scanG (fun j => f (at' + j)) (len - at') 1 (mostN bits).toNat = (m, er) := ⟨_, _, rfl⟩
    rw [hscan] at hg hU
    simp only at hU
    by_cases her : er = 0
    · subst her
      have hsc := scan_ok _ _ _ _ _ hscan
      obtain ⟨hm1, hm2, hm3, hm4⟩ := hsc
      have hm10 : m ≤ 10 := by have := HM10.out; omega
      simp only [ne_eq, not_true_eq_false, if_false] at hU
      have HU' := hid hU; clear hU HU
      have Hsc := hid hscan; clear hscan
      go_enter Try.func161, Try.ntmps161
      go_wp2_with fail
      refine (start_any a len cap at' bits _).mono ?_
      rintro e w' ⟨rfl, rfl⟩
      rw [Hst.out]
      go_wp2_with fail
      refine hg.mono ?_
      rintro e w' ⟨rfl, s, rfl, _, hs⟩
      obtain ⟨b, off, rfl, rfl⟩ := hs rfl
      clear hg hs
      go_wp2
      go_loop [11, 32] (fun v i => ∃ k : Nat, i = .int .i64 k ∧ k ≤ m ∧ v = .int .u64 ((numX (fun j => f (at' + j)) k % 18446744073709551616 : Nat) : Int)) (fun _ i => m - (intOf i).toNat)
      case atStart => exact ⟨0, rfl, by omega, rfl⟩
      case round =>
        obtain ⟨k, rfl, hk, rfl⟩ := hrel
        by_cases hkm : k < m
        · obtain ⟨b', off', hab, hc, h0, h1, hbw⟩ := Hrd.out (at' + k) (by omega)
          simp only [Option.some.injEq, Addr.mk.injEq] at hab
          obtain ⟨rfl, rfl, _⟩ := hab
          rw [← Nat.add_assoc] at hc
          have hk9 : k ≤ 9 := by omega
          have hX := numX_lt (fun j => f (at' + j)) k
          have HX := hid hX; clear hX
          have hstep : numX (fun j => f (at' + j)) (k + 1) = numX (fun j => f (at' + j)) k + (f (at' + k) % 128).toNat * 128 ^ k := rfl
          have Hstep := hid hstep; clear hstep
          generalize numX (fun j => f (at' + j)) k = X at *
          go_wp2
          go_round
          case rel => exact ⟨k + 1, by go_num, by omega, by rw [orU HX.out hk9 h0 h1, Hstep.out]⟩
          case measure => simp [intOf]; omega
        · obtain rfl : k = m := by omega
          obtain ⟨b', off', hab, hc, h0, h1, hbw⟩ := Hrd.out (at' + (k - 1)) (by omega)
          simp only [Option.some.injEq, Addr.mk.injEq] at hab
          obtain ⟨rfl, rfl, _⟩ := hab
          rw [← Nat.add_assoc] at hc
          have HK : Hid (k = k - 1 + 1) := by simp only [Hid]; omega
          have hnum : numX (fun j => f (at' + j)) k = numX (fun j => f (at' + j)) (k - 1) + (f (at' + (k - 1)) % 128).toNat * 128 ^ (k - 1) := by
            conv => lhs; rw [HK.out]
            rfl
          have hlt := numX_lt (fun j => f (at' + j)) (k - 1)
          have HN := hid hnum; clear hnum
          have HL := hid hlt; clear hlt
          have hb7 : 7 * (k : Int) < bits + 7 := by have := Hm.out; omega
          by_cases hov : bits < 7 * k
          · have hiff := over_iff (A := numX (fun j => f (at' + j)) (k - 1)) (c := f (at' + (k - 1))) hm1 hov hb7 HL.out h0 hm4
            rw [← HN.out] at hiff
            have HI := hid hiff; clear hiff
            cases hT : (f (at' + (k - 1)) / 2 ^ (7 - (7 * (k : Int) - bits)).toNat != 0)
            · have HT := hid (fun h => Bool.false_ne_true (hT.symm.trans (HI.out.2 h)))
              go_wp2
              go_ret3
              have e := HU'.out
              rw [if_neg (fun h => HT.out h.2)] at e
              refine ⟨rfl, ?_⟩
              rw [← e]
              have hm := numX_mod (Nat.lt_of_not_le HT.out) (by omega)
              have hm' : (numX (fun j => f (at' + j)) k : Int) % 18446744073709551616 = numX (fun j => f (at' + j)) k := by omega
              simp [hm']
            · have HT := hid (HI.out.1 hT)
              go_wp2
              go_ret3
              have e := HU'.out
              rw [if_pos ⟨hov, HT.out⟩] at e
              exact ⟨rfl, by rw [← e]; rfl⟩
          · go_wp2
            go_ret3
            have e := HU'.out
            rw [if_neg (fun h => absurd h.1 (by omega))] at e
            refine ⟨rfl, ?_⟩
            rw [← e]
            have hlt := numX_lt (fun j => f (at' + j)) k
            rw [pow128] at hlt
            have hm := numX_mod hlt (by omega)
            have hm' : (numX (fun j => f (at' + j)) k : Int) % 18446744073709551616 = numX (fun j => f (at' + j)) k := by omega
            simp [hm']
    · have HU' := hid hU; clear hU HU
      have Hsc := hid hscan; clear hscan
      go_enter Try.func161, Try.ntmps161
      go_wp2_with fail
      refine (start_any a len cap at' bits _).mono ?_
      rintro e w' ⟨rfl, rfl⟩
      rw [Hst.out]
      go_wp2_with fail
      refine hg.mono ?_
      rintro e w' ⟨rfl, s, rfl, hs, _⟩
      obtain rfl := hs her
      clear hg hs
      go_wp2
      go_ret3
      have e := HU'.out
      rw [if_pos her] at e
      exact ⟨rfl, by rw [← e]; rfl⟩
end Go.Proofs.Ytcmdajkkdognfaa

namespace Go.Proofs.Ytcmdajkkdognfaa
open Go.RowKit
set_option linter.unusedVariables false
set_option linter.unusedSimpArgs false

theorem uL_ps (x : Nat) : 1 ≤ (uL x).length := by
  by_cases h : x < 128
  · rw [uL_low h]; simp
  · rw [uL_high h]; simp
/-- What is read of a number's bytes from place i on. -/
theorem uL_read : ∀ (m x : Nat), x ≤ m → ∀ (F : Nat → Int) (i avail M : Nat), (∀ j, j < (uL x).length → F (i + j) = (uL x).getD j 0) → i + (uL x).length ≤ avail → (uL x).length ≤ M →
    scanG F avail (i + 1) M = (i + (uL x).length, 0) ∧ numX F (i + (uL x).length) = numX F i + x * 128 ^ i
  | m, x, hm, F, i, avail, M, hF, ha, hM => by
    by_cases h : x < 128
    · rw [uL_low h] at hF ha hM ⊢
      have h0 := hF 0 (by simp)
      simp at h0 ha hM
      obtain ⟨M', rfl⟩ : ∃ M', M = M' + 1 := ⟨M - 1, by omega⟩
      refine ⟨?_, ?_⟩
      · rw [scanG, if_neg (by omega), if_pos (by rw [show i + 1 - 1 = i from by omega, h0]; omega)]; simp
      · simp only [List.length_singleton, numX, h0]
        rw [show (((x : Int) % 128).toNat) = x from by omega]
    · rw [uL_high h] at hF ha hM ⊢
      have h0 := hF 0 (by simp)
      simp only [Nat.add_zero, List.getD_cons_zero] at h0
      simp only [List.length_cons] at ha hM ⊢
      obtain ⟨M', rfl⟩ : ∃ M', M = M' + 1 := ⟨M - 1, by omega⟩
      have hm' : 1 ≤ m := by omega
      obtain ⟨r1, r2⟩ := uL_read (m - 1) (x / 128) (by omega) F (i + 1) avail M' (fun j hj => by
        have := hF (j + 1) (by simpa using hj)
        rw [show i + 1 + j = i + (j + 1) from by omega, this]; simp) (by omega) (by omega)
      refine ⟨?_, ?_⟩
      · rw [scanG, if_neg (by omega), if_neg (by rw [show i + 1 - 1 = i from by omega, h0]; omega), r1]
        congr 1; omega
      · rw [show i + ((uL (x / 128)).length + 1) = i + 1 + (uL (x / 128)).length from by omega, r2, numX, h0]
        rw [show ((((x % 128 + 128 : Nat) : Int) % 128).toNat) = x % 128 from by omega, Nat.pow_succ]
        have := Nat.div_add_mod x 128
        generalize x / 128 = q at *
        generalize x % 128 = r at *
        subst this
        rw [Nat.add_mul, Nat.mul_comm (128 ^ i) 128, ← Nat.mul_assoc, Nat.mul_comm q 128]; omega
termination_by m => m

theorem uL_bd : ∀ (m x : Nat), x ≤ m → ((uL x).length = 1 ∨ 128 ^ ((uL x).length - 1) ≤ x) ∧ x < 128 ^ (uL x).length
  | m, x, hm => by
    by_cases h : x < 128
    · rw [uL_low h]; simp; exact h
    · rw [uL_high h]
      obtain ⟨h1, h2⟩ := uL_bd (m - 1) (x / 128) (by omega)
      have hp := uL_ps (x / 128)
      simp only [List.length_cons, Nat.add_sub_cancel]
      refine ⟨.inr ?_, ?_⟩
      · rcases h1 with h1 | h1
        · rw [h1]; omega
        · rw [show (uL (x / 128)).length = (uL (x / 128)).length - 1 + 1 from by omega, Nat.pow_succ]
          generalize 128 ^ ((uL (x / 128)).length - 1) = p at *
          omega
      · rw [Nat.pow_succ]
        generalize 128 ^ (uL (x / 128)).length = p at *
        omega
termination_by m => m
decreasing_by omega


section
variable (F : Nat → Int) (n : Nat) (hn1 : 1 ≤ n) (hn2 : n ≤ 64)
include hn1 hn2

theorem most_nat : (mostN n).toNat = (n + 6) / 7 := by unfold mostN rightB; rw [if_pos (by simp; omega)]; omega

theorem uL_most {x : Nat} (hx : x < 2 ^ n) : (uL x).length ≤ (n + 6) / 7 := by
  have h := (uL_bd x x (Nat.le_refl _)).1
  have hp := uL_ps x
  rcases h with h | h
  · omega
  · rw [pow128] at h
    have : 7 * ((uL x).length - 1) < n := (Nat.pow_lt_pow_iff_right (by decide)).1 (Nat.lt_of_le_of_lt h hx)
    omega

theorem readU_at {x avail p : Nat} (hx : x < 2 ^ n) (hF : ∀ j, j < (uL x).length → F j = (uL x).getD j 0) (ha : (uL x).length ≤ avail) : readU F p avail n = ((x : Int), ((p + (uL x).length : Nat) : Int), 0) := by
  have hM := uL_most n hn1 hn2 hx
  obtain ⟨r1, r2⟩ := uL_read x x (Nat.le_refl _) F 0 avail ((mostN n).toNat) (by simpa using hF) (by omega) (by rw [most_nat n hn1 hn2]; exact hM)
  simp only [Nat.zero_add, numX, Nat.pow_zero, Nat.mul_one] at r1 r2
  unfold readU
  rw [r1]
  simp only [ne_eq, not_true_eq_false, if_false, r2]
  rw [if_neg (fun h => by have := h.2; rw [Int.toNat_natCast] at this; omega)]
  simp
end

/-- At place p of l stand X's elements. -/
def At (l : List Int) (p : Nat) (X : List Int) : Prop := (l.drop p).take X.length = X ∧ p + X.length ≤ l.length
theorem At.le {l : List Int} {p : Nat} {X : List Int} (h : At l p X) : p + X.length ≤ l.length := h.2
theorem At.get {l : List Int} {p : Nat} {X : List Int} (h : At l p X) {j : Nat} (hj : j < X.length) : l[p + j]? = X[j]? := by
  have e : X[j]? = ((l.drop p).take X.length)[j]? := by rw [h.1]
  rw [e, List.getElem?_take_of_lt hj, List.getElem?_drop]
theorem At.head {l : List Int} {p : Nat} {b : Int} {X : List Int} (h : At l p (b :: X)) : l[p]? = some b := by
  have := h.get (j := 0) (by simp)
  simpa using this
theorem At.tail {l : List Int} {p : Nat} {b : Int} {X : List Int} (h : At l p (b :: X)) : At l (p + 1) X := by
  refine ⟨?_, by have := h.2; simp at this; omega⟩
  have := h.1
  rw [List.length_cons, List.take_add_one] at this
  have hd := congrArg (List.drop 1) h.1
  rw [List.drop_take, List.drop_drop] at hd
  simpa using hd
theorem At.fst {l : List Int} {p : Nat} {X Y : List Int} (h : At l p (X ++ Y)) : At l p X := by
  refine ⟨?_, by have := h.2; rw [List.length_append] at this; omega⟩
  have := congrArg (List.take X.length) h.1
  rw [List.take_take, List.length_append, Nat.min_eq_left (by omega), List.take_left'] at this
  · exact this
  · rfl
theorem At.snd {l : List Int} {p : Nat} {X Y : List Int} (h : At l p (X ++ Y)) : At l (p + X.length) Y := by
  refine ⟨?_, by have := h.2; rw [List.length_append] at this; omega⟩
  have := congrArg (List.drop X.length) h.1
  rw [List.drop_take, List.drop_drop, List.length_append, Nat.add_sub_cancel_left, List.drop_left'] at this
  · exact this
  · rfl
theorem readUint_at {base p c n x : Nat} {a : Option Addr} {l : List Int} {w : World} (hr : Row 1 (vInt .u8) 5 base w (.slice a l.length c) l) (hb : ∀ y ∈ l, 0 ≤ y ∧ y < 256) (hl : l.length ≤ 1000000) (hA : At l p (uL x)) (hn1 : 1 ≤ n) (hn2 : n ≤ 64) (hx : x < 2 ^ n) :
    Calls Try.prog 161 #[.slice a l.length c, .int .i64 ((p : Nat) : Int), .int .i64 ((n : Nat) : Int)] w fun e w' => e = .returned (.tuple #[.int .u64 ((x : Nat) : Int), .int .i64 ((p + (uL x).length : Nat) : Int), .int .i64 0]) ∧ w = w' := by
  have hle := hA.le
  have hcap := Row.caps hr
  have hrd : RdB w a l.length (fun j => l.getD j 0) := fun j hj => by
    obtain ⟨b, off, ha, hlt, hc⟩ := RdS.at (Row.rd (by intros; rfl) hr) (List.getElem?_eq_getElem hj)
    have hm := hb _ (List.getElem_mem hj)
    have e : l.getD j 0 = l[j] := by simp [hj]
    have h0 := hc 0 (.int .u8 (l[j])) rfl
    simp only [e]
    exact ⟨b, off, ha, by rwa [Nat.mul_one, Nat.add_zero] at h0, hm.1, hm.2, hlt⟩
  refine (readUint_any a l.length c p n (fun j => l.getD j 0) w hcap.2.1 hl hrd).mono fun e w' ⟨h1, h2⟩ => ⟨?_, h1⟩
  have hst : startB l.length p n = true := by unfold startB rightB; simp; omega
  rw [h2, hst]
  simp only [Int.toNat_natCast, if_true]
  have hF : ∀ j, j < (uL x).length → (fun j => l.getD (p + j) 0) j = (uL x).getD j 0 := fun j hj => by
    have := hA.get hj
    show l.getD (p + j) 0 = _
    rw [List.getD_eq_getElem?_getD, this, List.getD_eq_getElem?_getD]
  rw [readU_at (fun j => l.getD (p + j) 0) n hn1 hn2 hx hF (by omega)]
end Go.Proofs.Ytcmdajkkdognfaa

namespace Go.Proofs.Ytcmdajkkdognfaa
open Go.RowKit
set_option linter.unusedVariables false
set_option linter.unusedSimpArgs false
set_option maxHeartbeats 1000000 in
set_option maxRecDepth 100000 in
theorem suint_any (bs base p : Nat) (a : Option Addr) (c : Nat) (l : List Int) (w : World) (hks : w.heap[bs]? = some (.cells #[(.slice a l.length c), (.int .i64 ((p : Nat) : Int))] 161 (0, 0))) (hr0 : Row 1 (vInt .u8) 5 base w (.slice a l.length c) l) (hp : p ≤ l.length) (hb6 : ∀ y ∈ l, 0 ≤ y ∧ y < 256) (hlm : l.length ≤ 1000000) (ux n : Nat) (hA : At l p (uL ux)) (hn1 : 1 ≤ n) (hn2 : n ≤ 64) (hx : ux < 2 ^ n) : Calls Try.prog 151 #[(.pointer (some ⟨bs, 0, none⟩)), (.int .i64 ((n : Nat) : Int))] w fun e w' => e = .returned (.int .u64 ((ux : Nat) : Int)) ∧ Wrote w bs #[(.slice a l.length c), (.int .i64 (((p + (uL ux).length) : Nat) : Int))] 161 w' := by
  have hcap := Row.caps hr0; have hR0lt := fun q hq => (Row.lt hr0 q hq).2
  refine sx_enter (L := [(0, (.pointer (some ⟨bs, 0, none⟩))), (1, (.int .i64 ((n : Nat) : Int)))]) Try.func151 rfl rfl rfl rfl (fun fa hf => ?_)
  have hb : KB bs w.heap.size w w := KB.refl _ _ _
  refine wp_seq_k (fun K1 hK1 => ?_)
  refine wp_region_lit ?_
  refine sqv hf (r_assign rfl) rfl rfl rfl ?_; clear hf fa; intro fa hf
  apply wpList_nil
  (try simp only [Exit.then, Exit.inBlock, ↓reduceIte, Nat.reduceEqDiff])
  refine hK1 _ _ ?_
  refine wp_seq_k (fun K2 hK2 => ?_)
  refine wp_region_un (fun wq => Below w.heap.size w wq) (fun w w' => Below w.heap.size w w')
    (fun V => [(fun x _ => x = (.pointer (some ⟨bs, 0, none⟩))), (fun x _ => x = (.pointer (some ⟨bs, 0, none⟩))), (fun x _ => x = (.pointer (some ⟨bs, 0, none⟩))), (fun x _ => x = (.slice a l.length c)), (fun x _ => x = (.pointer (some ⟨bs, 0, none⟩))), (fun x _ => x = (.pointer (some ⟨bs, 0, none⟩))), (fun x _ => x = (.pointer (some ⟨bs, 1, none⟩))), (fun x _ => x = (.int .i64 ((p : Nat) : Int))), (fun x _ => x = (.int .i64 ((n : Nat) : Int))), (fun x _ => x = (.tuple #[(.int .u64 ((ux : Nat) : Int)), (.int .i64 (((p + (uL ux).length) : Nat) : Int)), (.int .i64 (0 : Int))])), (fun x _ => x = (.tuple #[(.int .u64 ((ux : Nat) : Int)), (.int .i64 (((p + (uL ux).length) : Nat) : Int)), (.int .i64 (0 : Int))])), (fun x _ => x = (.int .u64 ((ux : Nat) : Int))), (fun x _ => x = (.int .i64 (((p + (uL ux).length) : Nat) : Int))), (fun x _ => x = (.int .i64 (0 : Int))), (fun x _ => x = (.int .u64 ((ux : Nat) : Int))), (fun x _ => x = (.int .i64 (((p + (uL ux).length) : Nat) : Int))), (fun x _ => x = (.int .i64 (0 : Int)))])
    []
    [[], [0], [1], [2], [], [4], [5], [6], [], [3, 7, 8], [9], [10], [10], [10], [0, 1, 2, 3, 4, 5, 6, 7, 8, 9, 10, 11], [0, 1, 2, 3, 4, 5, 6, 7, 8, 9, 10, 11, 12, 14], [0, 1, 2, 3, 4, 5, 6, 7, 8, 9, 10, 11, 12, 13, 14, 15]]
    hf (by kernel_rfl) (by kernel_rfl) (fun _ => rfl) ((Below.refl _ _).drew) (fun a b h1 h2 => h1.trans (h2.mono h1.size)) (fun _ _ h => h.size) (fun V => ⟨kept_eq, kept_eq, kept_eq, kept_eq, kept_eq, kept_eq, kept_eq, kept_eq, kept_eq, kept_eq, kept_eq, kept_eq, kept_eq, kept_eq, kept_eq, kept_eq, kept_eq, trivial⟩) (fun _ _ _ _ _ => rfl) ?_ ?_
  · skip
    intro V
    refine ⟨fun wu0 hC hd => ?_, ?_⟩
    · clear hd
      replace hb := hb.trans (hC.mono hb.size)
      replace hks := blk_ext hks hC
      replace hr0 := Row.ext hr0 hC
      exact Runs.does (r_move rfl) ⟨Below.refl _ _, rfl, nofr rfl⟩
    refine ⟨fun wu1 hC hd => ?_, ?_⟩
    · obtain ⟨h0, _⟩ := hd
      skip
      replace h0 : V 0 = (.pointer (some ⟨bs, 0, none⟩)) := h0
      replace hb := hb.trans (hC.mono hb.size)
      replace hks := blk_ext hks hC
      replace hr0 := Row.ext hr0 hC
      exact Runs.does (r_nilCheck (congrArg some h0)) ⟨Below.refl _ _, rfl, nofr rfl⟩
    refine ⟨fun wu2 hC hd => ?_, ?_⟩
    · obtain ⟨h1, _⟩ := hd
      skip
      replace h1 : V 1 = (.pointer (some ⟨bs, 0, none⟩)) := h1
      replace hb := hb.trans (hC.mono hb.size)
      replace hks := blk_ext hks hC
      replace hr0 := Row.ext hr0 hC
      exact Runs.does (r_fa (congrArg some h1) Try.underlying161 (f := 0) (q := 0) rfl (by kernel_rfl) rfl) ⟨Below.refl _ _, rfl, nofr rfl⟩
    refine ⟨fun wu3 hC hd => ?_, ?_⟩
    · obtain ⟨h2, _⟩ := hd
      skip
      replace h2 : V 2 = (.pointer (some ⟨bs, 0, none⟩)) := h2
      replace hb := hb.trans (hC.mono hb.size)
      replace hks := blk_ext hks hC
      replace hr0 := Row.ext hr0 hC
      exact Runs.does (r_load (v := (.slice a l.length c)) (congrArg some h2) Try.underlying47 rfl (cell_blk hks rfl)) ⟨Below.refl _ _, rfl, nofr rfl⟩
    refine ⟨fun wu4 hC hd => ?_, ?_⟩
    · clear hd
      replace hb := hb.trans (hC.mono hb.size)
      replace hks := blk_ext hks hC
      replace hr0 := Row.ext hr0 hC
      exact Runs.does (r_move rfl) ⟨Below.refl _ _, rfl, nofr rfl⟩
    refine ⟨fun wu5 hC hd => ?_, ?_⟩
    · obtain ⟨h4, _⟩ := hd
      skip
      replace h4 : V 4 = (.pointer (some ⟨bs, 0, none⟩)) := h4
      replace hb := hb.trans (hC.mono hb.size)
      replace hks := blk_ext hks hC
      replace hr0 := Row.ext hr0 hC
      exact Runs.does (r_nilCheck (congrArg some h4)) ⟨Below.refl _ _, rfl, nofr rfl⟩
    refine ⟨fun wu6 hC hd => ?_, ?_⟩
    · obtain ⟨h5, _⟩ := hd
      skip
      replace h5 : V 5 = (.pointer (some ⟨bs, 0, none⟩)) := h5
      replace hb := hb.trans (hC.mono hb.size)
      replace hks := blk_ext hks hC
      replace hr0 := Row.ext hr0 hC
      exact Runs.does (r_fa (congrArg some h5) Try.underlying161 (f := 1) (q := 1) rfl (by kernel_rfl) rfl) ⟨Below.refl _ _, rfl, nofr rfl⟩
    refine ⟨fun wu7 hC hd => ?_, ?_⟩
    · obtain ⟨h6, _⟩ := hd
      skip
      replace h6 : V 6 = (.pointer (some ⟨bs, 1, none⟩)) := h6
      replace hb := hb.trans (hC.mono hb.size)
      replace hks := blk_ext hks hC
      replace hr0 := Row.ext hr0 hC
      exact Runs.does (r_load (v := (.int .i64 ((p : Nat) : Int))) (congrArg some h6) Try.underlying3 rfl (cell_blk hks rfl)) ⟨Below.refl _ _, rfl, nofr rfl⟩
    refine ⟨fun wu8 hC hd => ?_, ?_⟩
    · clear hd
      replace hb := hb.trans (hC.mono hb.size)
      replace hks := blk_ext hks hC
      replace hr0 := Row.ext hr0 hC
      exact Runs.does (r_move rfl) ⟨Below.refl _ _, rfl, nofr rfl⟩
    refine ⟨fun wu9 hC hd => ?_, ?_⟩
    · obtain ⟨h3, h7, h8, _⟩ := hd
      skip
      skip
      skip
      replace h3 : V 3 = (.slice a l.length c) := h3
      replace h7 : V 7 = (.int .i64 ((p : Nat) : Int)) := h7
      replace h8 : V 8 = (.int .i64 ((n : Nat) : Int)) := h8
      replace hb := hb.trans (hC.mono hb.size)
      replace hks := blk_ext hks hC
      replace hr0 := Row.ext hr0 hC
      refine Does.mono (d_callS (vs := [(.slice a l.length c), (.int .i64 ((p : Nat) : Int)), (.int .i64 ((n : Nat) : Int))]) (show [some (V 3), some (V 7), some (V 8)] = [some (.slice a l.length c), some (.int .i64 ((p : Nat) : Int)), some (.int .i64 ((n : Nat) : Int))] from by rw [h3, h7, h8]) Try.func161 (by kernel_rfl) (by kernel_rfl) (readUint_at hr0 hb6 hlm hA hn1 hn2 hx)) (fun _ _ h => ⟨h.2 ▸ Below.refl _ _, h.1, nofr rfl⟩)
    refine ⟨fun wu10 hC hd => ?_, ?_⟩
    · obtain ⟨h9, _⟩ := hd
      skip
      replace h9 : V 9 = (.tuple #[(.int .u64 ((ux : Nat) : Int)), (.int .i64 (((p + (uL ux).length) : Nat) : Int)), (.int .i64 (0 : Int))]) := h9
      replace hb := hb.trans (hC.mono hb.size)
      replace hks := blk_ext hks hC
      replace hr0 := Row.ext hr0 hC
      exact Runs.does (r_move (congrArg some h9)) ⟨Below.refl _ _, rfl, nofr rfl⟩
    refine ⟨fun wu11 hC hd => ?_, ?_⟩
    · obtain ⟨h10, _⟩ := hd
      skip
      replace h10 : V 10 = (.tuple #[(.int .u64 ((ux : Nat) : Int)), (.int .i64 (((p + (uL ux).length) : Nat) : Int)), (.int .i64 (0 : Int))]) := h10
      replace hb := hb.trans (hC.mono hb.size)
      replace hks := blk_ext hks hC
      replace hr0 := Row.ext hr0 hC
      exact Runs.does (r_extract (congrArg some h10) (i := 0) rfl) ⟨Below.refl _ _, rfl, nofr rfl⟩
    refine ⟨fun wu12 hC hd => ?_, ?_⟩
    · obtain ⟨h10, _⟩ := hd
      skip
      replace h10 : V 10 = (.tuple #[(.int .u64 ((ux : Nat) : Int)), (.int .i64 (((p + (uL ux).length) : Nat) : Int)), (.int .i64 (0 : Int))]) := h10
      replace hb := hb.trans (hC.mono hb.size)
      replace hks := blk_ext hks hC
      replace hr0 := Row.ext hr0 hC
      exact Runs.does (r_extract (congrArg some h10) (i := 1) rfl) ⟨Below.refl _ _, rfl, nofr rfl⟩
    refine ⟨fun wu13 hC hd => ?_, ?_⟩
    · obtain ⟨h10, _⟩ := hd
      skip
      replace h10 : V 10 = (.tuple #[(.int .u64 ((ux : Nat) : Int)), (.int .i64 (((p + (uL ux).length) : Nat) : Int)), (.int .i64 (0 : Int))]) := h10
      replace hb := hb.trans (hC.mono hb.size)
      replace hks := blk_ext hks hC
      replace hr0 := Row.ext hr0 hC
      exact Runs.does (r_extract (congrArg some h10) (i := 2) rfl) ⟨Below.refl _ _, rfl, nofr rfl⟩
    refine ⟨fun wu14 hC hd => ?_, ?_⟩
    · obtain ⟨h0, h1, h2, h3, h4, h5, h6, h7, h8, h9, h10, h11, _⟩ := hd
      skip
      skip
      skip
      skip
      skip
      skip
      skip
      skip
      skip
      skip
      skip
      skip
      replace h0 : V 0 = (.pointer (some ⟨bs, 0, none⟩)) := h0
      replace h1 : V 1 = (.pointer (some ⟨bs, 0, none⟩)) := h1
      replace h2 : V 2 = (.pointer (some ⟨bs, 0, none⟩)) := h2
      replace h3 : V 3 = (.slice a l.length c) := h3
      replace h4 : V 4 = (.pointer (some ⟨bs, 0, none⟩)) := h4
      replace h5 : V 5 = (.pointer (some ⟨bs, 0, none⟩)) := h5
      replace h6 : V 6 = (.pointer (some ⟨bs, 1, none⟩)) := h6
      replace h7 : V 7 = (.int .i64 ((p : Nat) : Int)) := h7
      replace h8 : V 8 = (.int .i64 ((n : Nat) : Int)) := h8
      replace h9 : V 9 = (.tuple #[(.int .u64 ((ux : Nat) : Int)), (.int .i64 (((p + (uL ux).length) : Nat) : Int)), (.int .i64 (0 : Int))]) := h9
      replace h10 : V 10 = (.tuple #[(.int .u64 ((ux : Nat) : Int)), (.int .i64 (((p + (uL ux).length) : Nat) : Int)), (.int .i64 (0 : Int))]) := h10
      replace h11 : V 11 = (.int .u64 ((ux : Nat) : Int)) := h11
      replace hb := hb.trans (hC.mono hb.size)
      replace hks := blk_ext hks hC
      replace hr0 := Row.ext hr0 hC
      exact Runs.does (r_assign (congrArg some h11)) ⟨Below.refl _ _, rfl, nofr rfl⟩
    refine ⟨fun wu15 hC hd => ?_, ?_⟩
    · obtain ⟨h0, h1, h2, h3, h4, h5, h6, h7, h8, h9, h10, h11, h12, h14, _⟩ := hd
      skip
      skip
      skip
      skip
      skip
      skip
      skip
      skip
      skip
      skip
      skip
      skip
      skip
      skip
      replace h0 : V 0 = (.pointer (some ⟨bs, 0, none⟩)) := h0
      replace h1 : V 1 = (.pointer (some ⟨bs, 0, none⟩)) := h1
      replace h2 : V 2 = (.pointer (some ⟨bs, 0, none⟩)) := h2
      replace h3 : V 3 = (.slice a l.length c) := h3
      replace h4 : V 4 = (.pointer (some ⟨bs, 0, none⟩)) := h4
      replace h5 : V 5 = (.pointer (some ⟨bs, 0, none⟩)) := h5
      replace h6 : V 6 = (.pointer (some ⟨bs, 1, none⟩)) := h6
      replace h7 : V 7 = (.int .i64 ((p : Nat) : Int)) := h7
      replace h8 : V 8 = (.int .i64 ((n : Nat) : Int)) := h8
      replace h9 : V 9 = (.tuple #[(.int .u64 ((ux : Nat) : Int)), (.int .i64 (((p + (uL ux).length) : Nat) : Int)), (.int .i64 (0 : Int))]) := h9
      replace h10 : V 10 = (.tuple #[(.int .u64 ((ux : Nat) : Int)), (.int .i64 (((p + (uL ux).length) : Nat) : Int)), (.int .i64 (0 : Int))]) := h10
      replace h11 : V 11 = (.int .u64 ((ux : Nat) : Int)) := h11
      replace h12 : V 12 = (.int .i64 (((p + (uL ux).length) : Nat) : Int)) := h12
      replace h14 : V 14 = (.int .u64 ((ux : Nat) : Int)) := h14
      replace hb := hb.trans (hC.mono hb.size)
      replace hks := blk_ext hks hC
      replace hr0 := Row.ext hr0 hC
      exact Runs.does (r_assign (congrArg some h12)) ⟨Below.refl _ _, rfl, nofr rfl⟩
    refine ⟨fun wu16 hC hd => ?_, ?_⟩
    · obtain ⟨h0, h1, h2, h3, h4, h5, h6, h7, h8, h9, h10, h11, h12, h13, h14, h15, _⟩ := hd
      skip
      skip
      skip
      skip
      skip
      skip
      skip
      skip
      skip
      skip
      skip
      skip
      skip
      skip
      skip
      skip
      replace h0 : V 0 = (.pointer (some ⟨bs, 0, none⟩)) := h0
      replace h1 : V 1 = (.pointer (some ⟨bs, 0, none⟩)) := h1
      replace h2 : V 2 = (.pointer (some ⟨bs, 0, none⟩)) := h2
      replace h3 : V 3 = (.slice a l.length c) := h3
      replace h4 : V 4 = (.pointer (some ⟨bs, 0, none⟩)) := h4
      replace h5 : V 5 = (.pointer (some ⟨bs, 0, none⟩)) := h5
      replace h6 : V 6 = (.pointer (some ⟨bs, 1, none⟩)) := h6
      replace h7 : V 7 = (.int .i64 ((p : Nat) : Int)) := h7
      replace h8 : V 8 = (.int .i64 ((n : Nat) : Int)) := h8
      replace h9 : V 9 = (.tuple #[(.int .u64 ((ux : Nat) : Int)), (.int .i64 (((p + (uL ux).length) : Nat) : Int)), (.int .i64 (0 : Int))]) := h9
      replace h10 : V 10 = (.tuple #[(.int .u64 ((ux : Nat) : Int)), (.int .i64 (((p + (uL ux).length) : Nat) : Int)), (.int .i64 (0 : Int))]) := h10
      replace h11 : V 11 = (.int .u64 ((ux : Nat) : Int)) := h11
      replace h12 : V 12 = (.int .i64 (((p + (uL ux).length) : Nat) : Int)) := h12
      replace h13 : V 13 = (.int .i64 (0 : Int)) := h13
      replace h14 : V 14 = (.int .u64 ((ux : Nat) : Int)) := h14
      replace h15 : V 15 = (.int .i64 (((p + (uL ux).length) : Nat) : Int)) := h15
      replace hb := hb.trans (hC.mono hb.size)
      replace hks := blk_ext hks hC
      replace hr0 := Row.ext hr0 hC
      exact Runs.does (r_assign (congrArg some h13)) ⟨Below.refl _ _, rfl, nofr rfl⟩
    trivial
  · skip
    clear hf fa; intro V w1 fa he1 hp hnb hf
    have hv0 : V 0 = (.pointer (some ⟨bs, 0, none⟩)) := postsHold_at hp 0 rfl
    have hv1 : V 1 = (.pointer (some ⟨bs, 0, none⟩)) := postsHold_at hp 1 rfl
    have hv2 : V 2 = (.pointer (some ⟨bs, 0, none⟩)) := postsHold_at hp 2 rfl
    have hv3 : V 3 = (.slice a l.length c) := postsHold_at hp 3 rfl
    have hv4 : V 4 = (.pointer (some ⟨bs, 0, none⟩)) := postsHold_at hp 4 rfl
    have hv5 : V 5 = (.pointer (some ⟨bs, 0, none⟩)) := postsHold_at hp 5 rfl
    have hv6 : V 6 = (.pointer (some ⟨bs, 1, none⟩)) := postsHold_at hp 6 rfl
    have hv7 : V 7 = (.int .i64 ((p : Nat) : Int)) := postsHold_at hp 7 rfl
    have hv8 : V 8 = (.int .i64 ((n : Nat) : Int)) := postsHold_at hp 8 rfl
    have hv9 : V 9 = (.tuple #[(.int .u64 ((ux : Nat) : Int)), (.int .i64 (((p + (uL ux).length) : Nat) : Int)), (.int .i64 (0 : Int))]) := postsHold_at hp 9 rfl
    have hv10 : V 10 = (.tuple #[(.int .u64 ((ux : Nat) : Int)), (.int .i64 (((p + (uL ux).length) : Nat) : Int)), (.int .i64 (0 : Int))]) := postsHold_at hp 10 rfl
    have hv11 : V 11 = (.int .u64 ((ux : Nat) : Int)) := postsHold_at hp 11 rfl
    have hv12 : V 12 = (.int .i64 (((p + (uL ux).length) : Nat) : Int)) := postsHold_at hp 12 rfl
    have hv13 : V 13 = (.int .i64 (0 : Int)) := postsHold_at hp 13 rfl
    have hv14 : V 14 = (.int .u64 ((ux : Nat) : Int)) := postsHold_at hp 14 rfl
    have hv15 : V 15 = (.int .i64 (((p + (uL ux).length) : Nat) : Int)) := postsHold_at hp 15 rfl
    have hv16 : V 16 = (.int .i64 (0 : Int)) := postsHold_at hp 16 rfl
    simp only [List.take_succ_cons, List.take_zero, insAll, ins, hv0, hv1, hv2, hv3, hv4, hv5, hv6, hv7, hv8, hv9, hv10, hv11, hv12, hv13, hv14, hv15, hv16] at hf
    clear hp hnb hv0 hv1 hv2 hv3 hv4 hv5 hv6 hv7 hv8 hv9 hv10 hv11 hv12 hv13 hv14 hv15 hv16
    replace hks := blk_ext hks he1
    replace hr0 := Row.ext hr0 he1
    replace hb := hb.trans (Below.mono he1 hb.size)
    (try simp only [Exit.then, Exit.inBlock, ↓reduceIte, Nat.reduceEqDiff])
    refine hK2 _ _ ?_
    refine wp_seq_k (fun K3 hK3 => ?_)
    refine wp_region_lit ?_
    refine sqv hf (r_move rfl) rfl rfl rfl ?_; clear hf fa; intro fa hf
    refine sqv hf (r_eq rfl rfl) rfl rfl rfl ?_; clear hf fa; intro fa hf
    refine sqv hf (r_move rfl) rfl rfl rfl ?_; clear hf fa; intro fa hf
    refine sqv hf (r_move rfl) rfl rfl rfl ?_; clear hf fa; intro fa hf
    refine sqv hf (r_nilCheck rfl) rfl rfl rfl ?_; clear hf fa; intro fa hf
    refine sqv hf (r_fa rfl Try.underlying161 (f := 1) (q := 1) rfl (by kernel_rfl) rfl) rfl rfl rfl ?_; clear hf fa; intro fa hf
    refine sqv hf (r_load (v := (.int .i64 ((p : Nat) : Int))) rfl Try.underlying3 rfl (cell_blk hks rfl)) rfl rfl rfl ?_; clear hf fa; intro fa hf
    refine sqdt hf (d_callB (vs := [(.bool (decide ((0 : Int) = (0 : Int)))), (.int .i64 (0 : Int)), (.int .i64 ((p : Nat) : Int))]) rfl Try.func118 (by kernel_rfl) (by kernel_rfl) (unless_any (decide ((0 : Int) = (0 : Int))) (0 : Int) ((p : Nat) : Int) _ (by first | rfl | assumption | (simp; done) | (simp; omega)))) rfl rfl rfl ?_; clear hf fa; rintro fa _ w2 ⟨rfl, he2⟩ hf
    replace hks := blk_ext hks he2
    replace hr0 := Row.ext hr0 he2
    replace hb := hb.trans (Below.mono he2 hb.size)
    apply wpList_nil
    (try simp only [Exit.then, Exit.inBlock, ↓reduceIte, Nat.reduceEqDiff])
    refine hK3 _ _ ?_
    refine wp_seq_k (fun K4 hK4 => ?_)
    refine wp_region_lit ?_
    refine sqv hf (r_move rfl) rfl rfl rfl ?_; clear hf fa; intro fa hf
    refine sqv hf (r_move rfl) rfl rfl rfl ?_; clear hf fa; intro fa hf
    refine sqv hf (r_nilCheck rfl) rfl rfl rfl ?_; clear hf fa; intro fa hf
    refine sqv hf (r_fa rfl Try.underlying161 (f := 1) (q := 1) rfl (by kernel_rfl) rfl) rfl rfl rfl ?_; clear hf fa; intro fa hf
    refine sqn hf (d_storeK (T := 161) (v := (.int .i64 (((p + (uL ux).length) : Nat) : Int))) (cs := #[(.slice a l.length c), (.int .i64 ((p : Nat) : Int))]) (cs' := #[(.slice a l.length c), (.int .i64 (((p + (uL ux).length) : Nat) : Int))]) rfl rfl (by kernel_rfl) (by kernel_rfl) hks (by kernel_rfl) (by kernel_rfl)) rfl rfl ?_; clear hf fa; rintro fa _ w3 ⟨hk1, hg1⟩ hf
    replace hr0 := Row.grown hr0 hg1 (Row.ne_type hr0 hks rfl)
    replace hb := hb.wrote hg1 hb.size
    apply wpList_nil
    (try simp only [Exit.then, Exit.inBlock, ↓reduceIte, Nat.reduceEqDiff])
    refine hK4 _ _ ?_
    refine wp_seq_k (fun K5 hK5 => ?_)
    refine wp_region_lit ?_
    refine sqv hf (r_move rfl) rfl rfl rfl ?_; clear hf fa; intro fa hf
    refine sqv hf (r_assign rfl) rfl rfl rfl ?_; clear hf fa; intro fa hf
    apply wpList_nil
    (try simp only [Exit.then, Exit.inBlock, ↓reduceIte, Nat.reduceEqDiff])
    refine hK5 _ _ ?_
    refine wp_ret ?_
    (try simp only [Exit.then, Exit.inBlock])
    refine ret1 hf rfl rfl ?_
    exact ⟨rfl, hk1, hb.grown⟩

set_option maxHeartbeats 1000000 in
set_option maxRecDepth 100000 in
theorem index_any (bs base p : Nat) (a : Option Addr) (c : Nat) (l : List Int) (w : World) (hks : w.heap[bs]? = some (.cells #[(.slice a l.length c), (.int .i64 ((p : Nat) : Int))] 161 (0, 0))) (hr0 : Row 1 (vInt .u8) 5 base w (.slice a l.length c) l) (hp : p ≤ l.length) (hb6 : ∀ y ∈ l, 0 ≤ y ∧ y < 256) (hlm : l.length ≤ 1000000) (ux : Nat) (hA : At l p (uL ux)) (hx : ux < 4294967296) : Calls Try.prog 121 #[(.pointer (some ⟨bs, 0, none⟩))] w fun e w' => e = .returned (.int .u32 ((ux : Nat) : Int)) ∧ Wrote w bs #[(.slice a l.length c), (.int .i64 (((p + (uL ux).length) : Nat) : Int))] 161 w' := by
  have hcap := Row.caps hr0; have hR0lt := fun q hq => (Row.lt hr0 q hq).2
  refine sx_enter (L := [(0, (.pointer (some ⟨bs, 0, none⟩)))]) Try.func121 rfl rfl rfl rfl (fun fa hf => ?_)
  have hb : KB bs w.heap.size w w := KB.refl _ _ _
  refine wp_seq_k (fun K1 hK1 => ?_)
  refine wp_region_lit ?_
  refine sqv hf (r_assign rfl) rfl rfl rfl ?_; clear hf fa; intro fa hf
  apply wpList_nil
  (try simp only [Exit.then, Exit.inBlock, ↓reduceIte, Nat.reduceEqDiff])
  refine hK1 _ _ ?_
  refine wp_seq_k (fun K2 hK2 => ?_)
  refine wp_region_lit ?_
  refine sqv hf (r_move rfl) rfl rfl rfl ?_; clear hf fa; intro fa hf
  refine sqdt hf (d_callW (v := (.int .u64 ((ux : Nat) : Int))) (b := bs) (T := 161) (cs := #[(.slice a l.length c), (.int .i64 (((p + (uL ux).length) : Nat) : Int))]) (vs := [(.pointer (some ⟨bs, 0, none⟩)), (.int .i64 (32 : Int))]) rfl Try.func151 (by kernel_rfl) (by kernel_rfl) (suint_any bs base p a c l _ hks hr0 (by omega) hb6 hlm ux 32 hA (by omega) (by omega) (by omega))) rfl rfl rfl ?_; clear hf fa; rintro fa _ w1 ⟨rfl, hk1, hg1⟩ hf
  replace hr0 := Row.grown hr0 hg1 (Row.ne_type hr0 hks rfl)
  replace hb := hb.wrote hg1 hb.size
  refine sqv hf (r_conv (C := ((ux : Nat) : Int)) rfl Try.underlying55 Try.underlying24 (by rw [IntKind.wrap_u32]; omega)) rfl rfl rfl ?_; clear hf fa; intro fa hf
  refine sqv hf (r_assign rfl) rfl rfl rfl ?_; clear hf fa; intro fa hf
  apply wpList_nil
  (try simp only [Exit.then, Exit.inBlock, ↓reduceIte, Nat.reduceEqDiff])
  refine hK2 _ _ ?_
  refine wp_ret ?_
  (try simp only [Exit.then, Exit.inBlock])
  refine ret1 hf rfl rfl ?_
  exact ⟨rfl, hk1, hb.grown⟩

end Go.Proofs.Ytcmdajkkdognfaa

namespace Go.Proofs.Ytcmdajkkdognfaa
open Go.RowKit
set_option linter.unusedVariables false
set_option linter.unusedSimpArgs false
theorem rowToT {α : Type} {k e base n c : Nat} {V : α → List Value} {w : World} {a : Option Addr} {l l' : List α} (h : Row k V e base w (.slice a n c) l) (he : l = l') : Row k V e base w (.slice a l'.length c) l' := he ▸ h.relen

end Go.Proofs.Ytcmdajkkdognfaa

namespace Go.Proofs.Ytcmdajkkdognfaa
open Go.RowKit
set_option linter.unusedVariables false
set_option linter.unusedSimpArgs false

/-- What is thrown. -/
def stopV (why at' : Int) : Value := .iface 90 (.agg #[.int .i64 why, .int .i64 at'])

set_option maxRecDepth 100000 in
theorem caught (b : Nat) (why at' : Int) (older : List PanicEntry) (w : World) (x0 x1 : Value) (hc0 : w.cell? ⟨b, 0, none⟩ = some x0) (hc1 : w.cell? ⟨b, 1, none⟩ = some x1) (hz0 : w.frozen? ⟨b, 0, none⟩ = false) (hz1 : w.frozen? ⟨b, 1, none⟩ = false) (hb : b < w.heap.size) :
    CallsD Try.prog 117 #[.pointer (some ⟨b, 0, none⟩)] (.panicking ({ v := stopV why at', recovered := false } :: older)) w fun e u' w' =>
      e = .returned (.tuple #[]) ∧ u' = .panicking ({ v := stopV why at', recovered := true } :: older) ∧ w' = ((w.setCell ⟨b, 0, none⟩ (.int .i64 why)).setCell ⟨b, 1, none⟩ (.int .i64 at')).alloc (.cells #[.int .i64 why, .int .i64 at'] 90) := by
  unfold stopV
  have hta : ∀ w : World, (Instr.typeAssert (.iface 90 (.agg #[.int .i64 why, .int .i64 at'])) 20 90 true).run Try.prog w = .ok (.tuple #[.agg #[.int .i64 why, .int .i64 at'], .bool true]) w := fun _ => by kernel_rfl
  refine callsD_of_wpS Try.func117 rfl fun c₀ cs hu => ?_
  simp only [Try.ntmps117, List.size_toArray, List.length_cons, List.length_nil, Nat.reduceAdd, Nat.reduceSub, Array.replicate_succ, Array.replicate_zero, List.push_toArray, List.append_toArray, List.nil_append, List.cons_append]
  apply wpS_seq
  apply wpS_region
  simp [wpOpsS, go_sem, recoverD, hu, Exit.thenS, hta]
  refine wpS_of_wp ?_
  go_wp2
  refine ⟨rfl, _, rfl, .tuple #[], by simp [results, Try.results117, go_sem], rfl, rfl, rfl⟩

set_option maxRecDepth 100000 in
theorem caught_none (b : Nat) (w : World) :
    CallsD Try.prog 117 #[.pointer (some ⟨b, 0, none⟩)] .returning w fun e u' w' => e = .returned (.tuple #[]) ∧ u' = .returning ∧ w' = w := by
  have hnil := fun w : World => run_eql_nil_nil (P := Try.prog) w 20 (by kernel_rfl)
  refine callsD_of_wpS Try.func117 rfl fun c₀ cs hu => ?_
  simp only [Try.ntmps117, List.size_toArray, List.length_cons, List.length_nil, Nat.reduceAdd, Nat.reduceSub, Array.replicate_succ, Array.replicate_zero, List.push_toArray, List.append_toArray, List.nil_append, List.cons_append]
  apply wpS_seq
  apply wpS_region
  simp [wpOpsS, go_sem, recoverD, hu, Exit.thenS]
  apply wpS_seq
  apply wpS_seq
  apply wpS_region
  simp [wpOpsS, go_sem, Exit.thenS, hnil]
  refine wpS_cond (t := true) (by simp [Act.eval]) ?_
  simp only [if_true]
  refine wpS_of_wp (wp_ret ?_)
  refine ⟨rfl, .returning, ?_, .tuple #[], by simp [results, Try.results117, go_sem], rfl, rfl, rfl⟩
  cases c₀
  simp_all

/-- What a call comes to that may give up: it returns, or it throws. -/
def MayStop (P : World → Prop) (S : Int → Int → World → Prop) (e : Ending) (w : World) : Prop :=
  (e = .returned (.tuple #[]) ∧ P w) ∨ ∃ why at', e = .panicked [{ v := stopV why at', recovered := false }] ∧ S why at' w

theorem now_any (why at' : Int) (w : World) : Calls Try.prog 122 #[.int .i64 why, .int .i64 at'] w fun e w' => e = .panicked [{ v := stopV why at', recovered := false }] ∧ w = w' := by
  go_enter Try.func122, Try.ntmps122
  go_wp2
  exact ⟨rfl, rfl, rfl⟩

def zstop : Array Value := #[.int .i64 0, .int .i64 0]

theorem two_cells {b : Nat} {w : World} {x0 x1 : Value} (u v : Value) (h0 : w.cell? ⟨b, 0, none⟩ = some x0) (h1 : w.cell? ⟨b, 1, none⟩ = some x1) :
    ((w.setCell ⟨b, 0, none⟩ u).setCell ⟨b, 1, none⟩ v).cell? ⟨b, 0, none⟩ = some u ∧ ((w.setCell ⟨b, 0, none⟩ u).setCell ⟨b, 1, none⟩ v).cell? ⟨b, 1, none⟩ = some v := by
  have e1 : (w.setCell ⟨b, 0, none⟩ u).cell? ⟨b, 1, none⟩ = some x1 := (World.cell?_setCell_other w ⟨b, 0, none⟩ ⟨b, 1, none⟩ u (by simp)).trans h1
  refine ⟨(World.cell?_setCell_other _ ⟨b, 1, none⟩ ⟨b, 0, none⟩ v (by simp)).trans (World.cell?_setCell_same w _ u h0), World.cell?_setCell_same _ _ v e1⟩

set_option maxHeartbeats 400000 in
set_option maxRecDepth 100000 in
/-- Out, of a function value whose call returns or gives up. -/
theorem out_of (k : FuncId) (cap : Array Value) (w : World) (R : World → Prop) (S : Int → Int → World → Prop)
    (hin : ∀ (args : Array Value) (w : World), (callFunc k args).run Try.prog w = .ok (.enter k args) w)
    (hc : Calls Try.prog k cap (w.alloc (.cells zstop 90)) fun e w' => MayStop (fun w' => w'.cell? ⟨w.heap.size, 0, none⟩ = some (.int .i64 0) ∧ w'.cell? ⟨w.heap.size, 1, none⟩ = some (.int .i64 0) ∧ w'.frozen? ⟨w.heap.size, 0, none⟩ = false ∧ w'.frozen? ⟨w.heap.size, 1, none⟩ = false ∧ w.heap.size < w'.heap.size ∧ R w')
      (fun why at' w' => w'.cell? ⟨w.heap.size, 0, none⟩ = some (.int .i64 0) ∧ w'.cell? ⟨w.heap.size, 1, none⟩ = some (.int .i64 0) ∧ w'.frozen? ⟨w.heap.size, 0, none⟩ = false ∧ w'.frozen? ⟨w.heap.size, 1, none⟩ = false ∧ w.heap.size < w'.heap.size ∧ S why at' w') e w') :
    Calls Try.prog 59 #[.func (.func k) #[] cap] w fun e w' => (e = .returned (.agg #[.int .i64 0, .int .i64 0]) ∧ ∃ w1, R w1 ∧ w' = (w1.setCell ⟨w.heap.size, 0, none⟩ (.int .i64 0)).setCell ⟨w.heap.size, 1, none⟩ (.int .i64 0)) ∨
      ∃ why at' w1, e = .returned (.agg #[.int .i64 why, .int .i64 at']) ∧ S why at' w1 ∧ w' = ((w1.setCell ⟨w.heap.size, 0, none⟩ (.int .i64 why)).setCell ⟨w.heap.size, 1, none⟩ (.int .i64 at')).alloc (.cells #[.int .i64 why, .int .i64 at'] 90) := by
  have hmf : ∀ (fn : Fn) (first cap : Array Value) (w : World), (Instr.makeFunc fn first cap).run Try.prog w = .ok (.func fn first cap) w := fun _ _ _ _ => rfl
  unfold zstop at hc
  have Hc := hid hc; clear hc
  go_enter_defers Try.func59, Try.ntmps59
  go_wp2_with fail
  have HC := Hc.out
  clear Hc
  refine HC.mono ?_
  rintro e w' (⟨rfl, h0, h1, z0, z1, hl, hR⟩ | ⟨why, at', rfl, h0, h1, z0, z1, hl, hS⟩)
  · go_wp2_with fail
    refine leaves_cons (f := 117) (args := #[.pointer (some ⟨w.heap.size, 0, none⟩)]) (by simp) (by simp [go_sem]) ?_
    refine (caught_none w.heap.size _).mono ?_
    rintro e u' w'' ⟨rfl, rfl, rfl⟩
    obtain ⟨c0, c1⟩ := two_cells (.int .i64 0) (.int .i64 0) h0 h1
    simp [Leaves, settle, results, Try.results59, go_sem, c0, c1]
    exact Or.inl ⟨w', hR, rfl⟩
  · refine leaves_cons (f := 117) (args := #[.pointer (some ⟨w.heap.size, 0, none⟩)]) (by simp) (by simp [go_sem]) ?_
    refine (caught w.heap.size why at' [] w' _ _ h0 h1 z0 z1 hl).mono ?_
    rintro e u' w'' ⟨rfl, rfl, rfl⟩
    obtain ⟨c0, c1⟩ := two_cells (.int .i64 why) (.int .i64 at') h0 h1
    have d0 : ((((w'.setCell ⟨w.heap.size, 0, none⟩ (.int .i64 why)).setCell ⟨w.heap.size, 1, none⟩ (.int .i64 at')).alloc (.cells #[.int .i64 why, .int .i64 at'] 90))).cell? ⟨w.heap.size, 0, none⟩ = some (.int .i64 why) := by
      rw [World.cell?_alloc_lt (h := by simpa [World.setCell] using hl)]; exact c0
    have d1 : ((((w'.setCell ⟨w.heap.size, 0, none⟩ (.int .i64 why)).setCell ⟨w.heap.size, 1, none⟩ (.int .i64 at')).alloc (.cells #[.int .i64 why, .int .i64 at'] 90))).cell? ⟨w.heap.size, 1, none⟩ = some (.int .i64 at') := by
      rw [World.cell?_alloc_lt (h := by simpa [World.setCell] using hl)]; exact c1
    simp [Leaves, settle, results, Try.results59, go_sem, d0, d1]
    refine Or.inr ⟨why, at', ⟨rfl, rfl⟩, w', hS, rfl⟩
end Go.Proofs.Ytcmdajkkdognfaa

namespace Go.Proofs.Ytcmdajkkdognfaa
open Go.RowKit
set_option linter.unusedVariables false
set_option linter.unusedSimpArgs false
theorem setCell_id {w : World} {b o : Nat} {cs : Array Value} {T : TypeId} {fr : Nat × Nat} {v : Value} (h : w.heap[b]? = some (.cells cs T fr)) (hv : cs[o]? = some v) : w.setCell ⟨b, o, none⟩ v = w := by
  have hc : cs.setIfInBounds o v = cs := by
    apply Array.ext_getElem?
    intro i
    rw [Array.getElem?_setIfInBounds]
    split
    · subst_vars
      obtain ⟨hlt, he⟩ := Array.getElem?_eq_some_iff.1 hv
      rw [if_pos hlt]; exact hv.symm
    · rfl
  have hh : w.heap.modify b (fun | .cells c elem frozen => .cells (if (none : Option Nat).isSome then c else c.setIfInBounds o v) elem frozen | o => o) = w.heap := by
    apply Array.ext_getElem?
    intro i
    rw [Array.getElem?_modify]
    split
    · subst_vars
      rw [h]
      simp [hc]
    · rfl
  have : w.setCell ⟨b, o, none⟩ v = { w with heap := w.heap } := by
    unfold World.setCell
    congr 1
  exact this
/-- abort.Out, of a function value that gives nothing up. -/
theorem out_ok (k : FuncId) (cap : Array Value) (w : World) (S : List Nat) (Q : Nat → World → Prop) (hin : Enters Try.prog k) (hS : ∀ b ∈ S, b < w.heap.size)
    (hc : ∀ w1, Below w.heap.size w w1 → w.heap.size < w1.heap.size → Calls Try.prog k cap w1 fun e w2 => e = .returned (.tuple #[]) ∧ KS S w1.heap.size w1 w2 ∧ Q w1.heap.size w2) :
    Calls Try.prog 59 #[.func (.func k) #[] cap] w fun e w' => e = .returned (.agg #[.int .i64 0, .int .i64 0]) ∧ KS S w.heap.size w w' ∧ ∃ B, w.heap.size < B ∧ Q B w' := by
  have hb : Below w.heap.size w (w.alloc (.cells zstop 90)) := (Below.refl _ _).alloc (Nat.le_refl _) _
  have hlt : w.heap.size < (w.alloc (.cells zstop 90)).heap.size := by simp
  have hlast : (w.alloc (.cells zstop 90)).heap[w.heap.size]? = some (.cells zstop 90 (0, 0)) := heap_alloc_last w _
  refine (out_of k cap w (fun w' => KS S w.heap.size w w' ∧ (∃ B, w.heap.size < B ∧ Q B w') ∧ w'.heap[w.heap.size]? = some (.cells zstop 90 (0, 0))) (fun _ _ _ => False) hin ((hc _ hb hlt).mono ?_)).mono ?_
  · rintro e w' ⟨rfl, hk, hq⟩
    have hz := blk_ks hlast hk (fun hm => by have := hS _ hm; omega)
    refine .inl ⟨rfl, cell_blk hz rfl, cell_blk hz rfl, ?_, ?_, Nat.lt_of_lt_of_le hlt hk.size, ?_, ⟨_, hlt, hq⟩, hz⟩
    · simp [World.frozen?, hz]
    · simp [World.frozen?, hz]
    · exact (KS.of_below hb).many hk (fun b hm => .inl hm) hb.size
  · rintro e w' (⟨rfl, w1, ⟨hk, hq, hz⟩, rfl⟩ | ⟨_, _, _, _, h, _⟩)
    · have e1 := setCell_id (o := 0) (v := .int .i64 0) hz rfl
      have e2 := setCell_id (o := 1) (v := .int .i64 0) hz rfl
      rw [e1, e2]
      exact ⟨rfl, hk, hq⟩
    · exact h.elim
end Go.Proofs.Ytcmdajkkdognfaa

namespace Go.Proofs.Ytcmdajkkdognfaa
open Go.RowKit
set_option linter.unusedVariables false
set_option linter.unusedSimpArgs false
set_option maxHeartbeats 1000000 in
set_option maxRecDepth 100000 in
theorem over_any (a : Option Addr) (c : Nat) (l : List Int) (w : World) (hl : RdS 1 (vInt .u8) w a l) (hll : l.length ≤ 1000000) (hn : a = none → c = 0) : Calls Try.prog 58 #[(.slice a l.length c)] w fun e w' => ∃ v, e = .returned v ∧ ∃ b a2 c2, v = .pointer (some ⟨b, 0, none⟩) ∧ w.heap.size ≤ b ∧ w'.heap[b]? = some (.cells #[.slice a2 l.length c2, .int .i64 ((0 : Nat) : Int)] 161 (0, 0)) ∧ Row 1 (vInt .u8) 5 w.heap.size w' (.slice a2 l.length c2) l ∧ Below w.heap.size w w' := by
  refine sx_enter (L := [(0, (.slice a l.length c))]) Try.func58 rfl rfl rfl rfl (fun fa hf => ?_)
  have hb : Below w.heap.size w w := Below.refl _ _
  refine wp_seq_k (fun K1 hK1 => ?_)
  refine wp_region_lit ?_
  refine sqv hf (r_assign rfl) rfl rfl rfl ?_; clear hf fa; intro fa hf
  apply wpList_nil
  (try simp only [Exit.then, Exit.inBlock, ↓reduceIte, Nat.reduceEqDiff])
  refine hK1 _ _ ?_
  refine wp_seq_k (fun K2 hK2 => ?_)
  refine wp_region_lit ?_
  refine sqdt hf (d_bslice0 (sz := 1) Try.underlying47 (by kernel_rfl)) rfl rfl rfl ?_; clear hf fa; rintro fa _ w1 ⟨b1, rfl, hle1, hk1, he1⟩ hf
  have hBb1 : w.heap.size ≤ b1 := Nat.le_trans hb.size hle1
  replace hb := hb.trans (Below.mono he1 hb.size)
  refine sqv hf (r_move rfl) rfl rfl rfl ?_; clear hf fa; intro fa hf
  have hr1 := Row.of_new (k := 1) (V := (vInt .u8)) (l := []) (base := w.heap.size) hk1 hBb1 rfl rfl (Nat.le_of_ble_eq_true rfl)
  refine sqdt hf (d_append (V := (vInt .u8)) (k := 1) (e := 5) (bytes := 1) (z := (.int .u8 (0 : Int))) (news := l) (base := w.heap.size) (by intros; rfl) (by intro x u hu; simp only [vInt, List.mem_singleton] at hu; subst hu; rfl) rfl rfl Try.underlying47 (by kernel_rfl) rfl rfl rfl hr1 (RdS.ext hl hb) (by omega) hn (by first | omega | (simp only [List.length_cons, List.length_nil, List.length_append, nums_len]; omega)) (by have := hb.size; omega)) rfl rfl rfl ?_; clear hf fa; rintro fa v w2 ⟨hr2, hg1⟩ hf; obtain ⟨ra1, rc1, rfl, hcrc1, hmrc1⟩ := Row.slice hr2
  replace hb := hb.trans (row_below hr1 hg1 hb.size (by have := hb.size; omega))
  simp only [List.nil_append] at hr2
  refine sqv hf (r_build (vs := [(0, (.slice ra1 ((l).length) rc1))]) (cs := #[(.slice ra1 ((l).length) rc1), (.int .i64 (0 : Int))]) rfl (fun _ => by kernel_rfl)) rfl rfl rfl ?_; clear hf fa; intro fa hf
  refine sqdt hf (d_box (cs := #[(.slice ra1 ((l).length) rc1), (.int .i64 (0 : Int))]) rfl rfl) rfl rfl rfl ?_; clear hf fa; rintro fa _ w3 ⟨b2, rfl, hle2, hk2, he2⟩ hf
  have hBb2 : w.heap.size ≤ b2 := Nat.le_trans hb.size hle2
  replace hr2 := Row.ext hr2 he2
  replace hb := hb.trans (Below.mono he2 hb.size)
  refine sqv hf (r_assign rfl) rfl rfl rfl ?_; clear hf fa; intro fa hf
  apply wpList_nil
  (try simp only [Exit.then, Exit.inBlock, ↓reduceIte, Nat.reduceEqDiff])
  refine hK2 _ _ ?_
  refine wp_ret ?_
  (try simp only [Exit.then, Exit.inBlock])
  refine ret1 hf rfl rfl ?_
  exact ⟨_, rfl, _, _, _, rfl, hBb2, hk2, Row.rebase hr2 (by omega), hb⟩

set_option maxHeartbeats 1000000 in
set_option maxRecDepth 100000 in
theorem sbytes_any (bs base p : Nat) (a : Option Addr) (c : Nat) (l : List Int) (w : World) (hks : w.heap[bs]? = some (.cells #[(.slice a l.length c), (.int .i64 ((p : Nat) : Int))] 161 (0, 0))) (hr0 : Row 1 (vInt .u8) 5 base w (.slice a l.length c) l) (hp : p ≤ l.length) (X : List Int) (hA : At l p X) (hX : X.length ≤ 1000000) : Calls Try.prog 119 #[(.pointer (some ⟨bs, 0, none⟩)), (.int .i64 ((X.length : Nat) : Int))] w fun e w' => ∃ v, e = .returned v ∧ Row 1 (vInt .u8) 5 w.heap.size w' v X ∧ Wrote w bs #[(.slice a l.length c), (.int .i64 (((p + X.length) : Nat) : Int))] 161 w' := by
  have hcap := Row.caps hr0; have hR0lt := fun q hq => (Row.lt hr0 q hq).2; have hle := hA.le
  refine sx_enter (L := [(0, (.pointer (some ⟨bs, 0, none⟩))), (1, (.int .i64 ((X.length : Nat) : Int)))]) Try.func119 rfl rfl rfl rfl (fun fa hf => ?_)
  have hb : KB bs w.heap.size w w := KB.refl _ _ _
  refine wp_seq_k (fun K1 hK1 => ?_)
  refine wp_region_lit ?_
  refine sqv hf (r_assign rfl) rfl rfl rfl ?_; clear hf fa; intro fa hf
  apply wpList_nil
  (try simp only [Exit.then, Exit.inBlock, ↓reduceIte, Nat.reduceEqDiff])
  refine hK1 _ _ ?_
  refine wp_seq_k (fun K2 hK2 => ?_)
  refine wp_region_lit ?_
  refine sqv hf (r_move rfl) rfl rfl rfl ?_; clear hf fa; intro fa hf
  refine sqv hf (r_ge rfl rfl) rfl rfl rfl ?_; clear hf fa; intro fa hf
  refine sqv hf (r_move rfl) rfl rfl rfl ?_; clear hf fa; intro fa hf
  refine sqv hf (r_nilCheck rfl) rfl rfl rfl ?_; clear hf fa; intro fa hf
  refine sqv hf (r_fa rfl Try.underlying161 (f := 1) (q := 1) rfl (by kernel_rfl) rfl) rfl rfl rfl ?_; clear hf fa; intro fa hf
  refine sqv hf (r_load (v := (.int .i64 ((p : Nat) : Int))) rfl Try.underlying3 rfl (cell_blk hks rfl)) rfl rfl rfl ?_; clear hf fa; intro fa hf
  refine sqdt hf (d_callB (vs := [(.bool (decide ((0 : Int) ≤ ((X.length : Nat) : Int)))), (.int .i64 (1 : Int)), (.int .i64 ((p : Nat) : Int))]) rfl Try.func118 (by kernel_rfl) (by kernel_rfl) (unless_any (decide ((0 : Int) ≤ ((X.length : Nat) : Int))) (1 : Int) ((p : Nat) : Int) _ (by first | rfl | assumption | (simp; done) | (simp; omega)))) rfl rfl rfl ?_; clear hf fa; rintro fa _ w1 ⟨rfl, he1⟩ hf
  replace hks := blk_ext hks he1
  replace hr0 := Row.ext hr0 he1
  replace hb := hb.trans (Below.mono he1 hb.size)
  apply wpList_nil
  (try simp only [Exit.then, Exit.inBlock, ↓reduceIte, Nat.reduceEqDiff])
  refine hK2 _ _ ?_
  refine wp_seq_k (fun K3 hK3 => ?_)
  refine wp_region_un (fun wq => Below w1.heap.size w1 wq) (fun w w' => Below w.heap.size w w')
    (fun V => [(fun x _ => x = (.int .i64 ((X.length : Nat) : Int))), (fun x _ => x = (.pointer (some ⟨bs, 0, none⟩))), (fun x _ => x = (.int .i64 (((l.length : Nat) : Int) - ((p : Nat) : Int)))), (fun x _ => x = (.bool (decide (((X.length : Nat) : Int) ≤ (((l.length : Nat) : Int) - ((p : Nat) : Int)))))), (fun x _ => x = (.pointer (some ⟨bs, 0, none⟩))), (fun x _ => x = (.pointer (some ⟨bs, 0, none⟩))), (fun x _ => x = (.pointer (some ⟨bs, 1, none⟩))), (fun x _ => x = (.int .i64 ((p : Nat) : Int))), (fun x _ => x = (.tuple #[]))])
    []
    [[], [], [1], [0, 2], [], [4], [5], [6], [2, 3, 7]]
    hf (by kernel_rfl) (by kernel_rfl) (fun _ => rfl) ((Below.refl _ _).drew) (fun a b h1 h2 => h1.trans (h2.mono h1.size)) (fun _ _ h => h.size) (fun V => ⟨kept_eq, kept_eq, kept_eq, kept_eq, kept_eq, kept_eq, kept_eq, kept_eq, kept_eq, trivial⟩) (fun _ _ _ _ _ => rfl) ?_ ?_
  · skip
    intro V
    refine ⟨fun wu0 hC hd => ?_, ?_⟩
    · clear hd
      replace hb := hb.trans (hC.mono hb.size)
      replace hks := blk_ext hks hC
      replace hr0 := Row.ext hr0 hC
      exact Runs.does (r_move rfl) ⟨Below.refl _ _, rfl, nofr rfl⟩
    refine ⟨fun wu1 hC hd => ?_, ?_⟩
    · clear hd
      replace hb := hb.trans (hC.mono hb.size)
      replace hks := blk_ext hks hC
      replace hr0 := Row.ext hr0 hC
      exact Runs.does (r_move rfl) ⟨Below.refl _ _, rfl, nofr rfl⟩
    refine ⟨fun wu2 hC hd => ?_, ?_⟩
    · obtain ⟨h1, _⟩ := hd
      skip
      replace h1 : V 1 = (.pointer (some ⟨bs, 0, none⟩)) := h1
      replace hb := hb.trans (hC.mono hb.size)
      replace hks := blk_ext hks hC
      replace hr0 := Row.ext hr0 hC
      refine Does.mono (d_callB (vs := [(.pointer (some ⟨bs, 0, none⟩))]) (show [some (V 1)] = [some (.pointer (some ⟨bs, 0, none⟩))] from by rw [h1]) Try.func67 (by kernel_rfl) (by kernel_rfl) (left_any bs base p a c l _ hks hr0 (by omega))) (fun _ _ h => ⟨h.2, h.1, nofr rfl⟩)
    refine ⟨fun wu3 hC hd => ?_, ?_⟩
    · obtain ⟨h0, h2, _⟩ := hd
      skip
      skip
      replace h0 : V 0 = (.int .i64 ((X.length : Nat) : Int)) := h0
      replace h2 : V 2 = (.int .i64 (((l.length : Nat) : Int) - ((p : Nat) : Int))) := h2
      replace hb := hb.trans (hC.mono hb.size)
      replace hks := blk_ext hks hC
      replace hr0 := Row.ext hr0 hC
      exact Runs.does (r_le (congrArg some h0) (congrArg some h2)) ⟨Below.refl _ _, rfl, nofr rfl⟩
    refine ⟨fun wu4 hC hd => ?_, ?_⟩
    · clear hd
      replace hb := hb.trans (hC.mono hb.size)
      replace hks := blk_ext hks hC
      replace hr0 := Row.ext hr0 hC
      exact Runs.does (r_move rfl) ⟨Below.refl _ _, rfl, nofr rfl⟩
    refine ⟨fun wu5 hC hd => ?_, ?_⟩
    · obtain ⟨h4, _⟩ := hd
      skip
      replace h4 : V 4 = (.pointer (some ⟨bs, 0, none⟩)) := h4
      replace hb := hb.trans (hC.mono hb.size)
      replace hks := blk_ext hks hC
      replace hr0 := Row.ext hr0 hC
      exact Runs.does (r_nilCheck (congrArg some h4)) ⟨Below.refl _ _, rfl, nofr rfl⟩
    refine ⟨fun wu6 hC hd => ?_, ?_⟩
    · obtain ⟨h5, _⟩ := hd
      skip
      replace h5 : V 5 = (.pointer (some ⟨bs, 0, none⟩)) := h5
      replace hb := hb.trans (hC.mono hb.size)
      replace hks := blk_ext hks hC
      replace hr0 := Row.ext hr0 hC
      exact Runs.does (r_fa (congrArg some h5) Try.underlying161 (f := 1) (q := 1) rfl (by kernel_rfl) rfl) ⟨Below.refl _ _, rfl, nofr rfl⟩
    refine ⟨fun wu7 hC hd => ?_, ?_⟩
    · obtain ⟨h6, _⟩ := hd
      skip
      replace h6 : V 6 = (.pointer (some ⟨bs, 1, none⟩)) := h6
      replace hb := hb.trans (hC.mono hb.size)
      replace hks := blk_ext hks hC
      replace hr0 := Row.ext hr0 hC
      exact Runs.does (r_load (v := (.int .i64 ((p : Nat) : Int))) (congrArg some h6) Try.underlying3 rfl (cell_blk hks rfl)) ⟨Below.refl _ _, rfl, nofr rfl⟩
    refine ⟨fun wu8 hC hd => ?_, ?_⟩
    · obtain ⟨h2, h3, h7, _⟩ := hd
      skip
      skip
      skip
      replace h2 : V 2 = (.int .i64 (((l.length : Nat) : Int) - ((p : Nat) : Int))) := h2
      replace h3 : V 3 = (.bool (decide (((X.length : Nat) : Int) ≤ (((l.length : Nat) : Int) - ((p : Nat) : Int))))) := h3
      replace h7 : V 7 = (.int .i64 ((p : Nat) : Int)) := h7
      replace hb := hb.trans (hC.mono hb.size)
      replace hks := blk_ext hks hC
      replace hr0 := Row.ext hr0 hC
      refine Does.mono (d_callB (vs := [(.bool (decide (((X.length : Nat) : Int) ≤ (((l.length : Nat) : Int) - ((p : Nat) : Int))))), (.int .i64 (2 : Int)), (.int .i64 ((p : Nat) : Int))]) (show [some (V 3), some (.int .i64 (2 : Int)), some (V 7)] = [some (.bool (decide (((X.length : Nat) : Int) ≤ (((l.length : Nat) : Int) - ((p : Nat) : Int))))), some (.int .i64 (2 : Int)), some (.int .i64 ((p : Nat) : Int))] from by rw [h3, h7]) Try.func118 (by kernel_rfl) (by kernel_rfl) (unless_any (decide (((X.length : Nat) : Int) ≤ (((l.length : Nat) : Int) - ((p : Nat) : Int)))) (2 : Int) ((p : Nat) : Int) _ (by first | rfl | assumption | (simp; done) | (simp; omega)))) (fun _ _ h => ⟨h.2, h.1, nofr rfl⟩)
    trivial
  · skip
    clear hf fa; intro V w2 fa he2 hp hnb hf
    have hv0 : V 0 = (.int .i64 ((X.length : Nat) : Int)) := postsHold_at hp 0 rfl
    have hv1 : V 1 = (.pointer (some ⟨bs, 0, none⟩)) := postsHold_at hp 1 rfl
    have hv2 : V 2 = (.int .i64 (((l.length : Nat) : Int) - ((p : Nat) : Int))) := postsHold_at hp 2 rfl
    have hv3 : V 3 = (.bool (decide (((X.length : Nat) : Int) ≤ (((l.length : Nat) : Int) - ((p : Nat) : Int))))) := postsHold_at hp 3 rfl
    have hv4 : V 4 = (.pointer (some ⟨bs, 0, none⟩)) := postsHold_at hp 4 rfl
    have hv5 : V 5 = (.pointer (some ⟨bs, 0, none⟩)) := postsHold_at hp 5 rfl
    have hv6 : V 6 = (.pointer (some ⟨bs, 1, none⟩)) := postsHold_at hp 6 rfl
    have hv7 : V 7 = (.int .i64 ((p : Nat) : Int)) := postsHold_at hp 7 rfl
    have hv8 : V 8 = (.tuple #[]) := postsHold_at hp 8 rfl
    simp only [List.take_succ_cons, List.take_zero, insAll, ins, hv0, hv1, hv2, hv3, hv4, hv5, hv6, hv7, hv8] at hf
    clear hp hnb hv0 hv1 hv2 hv3 hv4 hv5 hv6 hv7 hv8
    replace hks := blk_ext hks he2
    replace hr0 := Row.ext hr0 he2
    replace hb := hb.trans (Below.mono he2 hb.size)
    (try simp only [Exit.then, Exit.inBlock, ↓reduceIte, Nat.reduceEqDiff])
    refine hK3 _ _ ?_
    refine wp_seq_k (fun K4 hK4 => ?_)
    refine wp_region_lit ?_
    refine sqv hf (r_move rfl) rfl rfl rfl ?_; clear hf fa; intro fa hf
    refine sqv hf (r_nilCheck rfl) rfl rfl rfl ?_; clear hf fa; intro fa hf
    refine sqv hf (r_fa rfl Try.underlying161 (f := 1) (q := 1) rfl (by kernel_rfl) rfl) rfl rfl rfl ?_; clear hf fa; intro fa hf
    refine sqv hf (r_load (v := (.int .i64 ((p : Nat) : Int))) rfl Try.underlying3 rfl (cell_blk hks rfl)) rfl rfl rfl ?_; clear hf fa; intro fa hf
    refine sqv hf (r_move rfl) rfl rfl rfl ?_; clear hf fa; intro fa hf
    refine sqv hf (r_add (C := (((p + X.length) : Nat) : Int)) rfl rfl (by rw [IntKind.wrap_i64]; omega)) rfl rfl rfl ?_; clear hf fa; intro fa hf
    refine sqv hf (r_nilCheck rfl) rfl rfl rfl ?_; clear hf fa; intro fa hf
    refine sqv hf (r_fa rfl Try.underlying161 (f := 1) (q := 1) rfl (by kernel_rfl) rfl) rfl rfl rfl ?_; clear hf fa; intro fa hf
    refine sqn hf (d_storeK (T := 161) (v := (.int .i64 (((p + X.length) : Nat) : Int))) (cs := #[(.slice a l.length c), (.int .i64 ((p : Nat) : Int))]) (cs' := #[(.slice a l.length c), (.int .i64 (((p + X.length) : Nat) : Int))]) rfl rfl (by kernel_rfl) (by kernel_rfl) hks (by kernel_rfl) (by kernel_rfl)) rfl rfl ?_; clear hf fa; rintro fa _ w3 ⟨hk1, hg1⟩ hf
    replace hr0 := Row.grown hr0 hg1 (Row.ne_type hr0 hks rfl)
    replace hb := hb.wrote hg1 hb.size
    apply wpList_nil
    (try simp only [Exit.then, Exit.inBlock, ↓reduceIte, Nat.reduceEqDiff])
    refine hK4 _ _ ?_
    refine wp_seq_k (fun K5 hK5 => ?_)
    refine wp_region_unT 16 (fun wq => Below w3.heap.size w3 wq) (fun w w' => Below w.heap.size w w')
      (fun V => [(fun x wq => ∃ b, x = .slice (some ⟨b, 0, none⟩) 0 0 ∧ w3.heap.size ≤ b ∧ wq.heap[b]? = some (.cells #[] 5 (0, 0))), (fun x _ => x = (.pointer (some ⟨bs, 0, none⟩))), (fun x _ => x = (.pointer (some ⟨bs, 0, none⟩))), (fun x _ => x = (.pointer (some ⟨bs, 0, none⟩))), (fun x _ => x = (.slice a l.length c)), (fun x _ => x = (.pointer (some ⟨bs, 0, none⟩))), (fun x _ => x = (.pointer (some ⟨bs, 0, none⟩))), (fun x _ => x = (.pointer (some ⟨bs, 1, none⟩))), (fun x _ => x = (.int .i64 (((p + X.length) : Nat) : Int))), (fun x _ => x = (.int .i64 ((X.length : Nat) : Int))), (fun x _ => x = (.int .i64 ((p : Nat) : Int))), (fun x _ => x = (.pointer (some ⟨bs, 0, none⟩))), (fun x _ => x = (.pointer (some ⟨bs, 0, none⟩))), (fun x _ => x = (.pointer (some ⟨bs, 1, none⟩))), (fun x _ => x = (.int .i64 (((p + X.length) : Nat) : Int))), (fun x _ => x = (.slice (slAt a c p 1) ((((p + X.length)) - p)) (c - p)))])
      [0]
      [[], [], [1], [2], [3], [], [5], [6], [7], [], [8, 9], [], [11], [12], [13], [4, 10, 14], [], []]
      hf (by kernel_rfl) (by kernel_rfl) (by kernel_rfl) (fun _ => rfl) ((Below.refl _ _).drew) (fun a b h1 h2 => h1.trans (h2.mono h1.size)) (fun _ _ h => h.size) (fun V => ⟨keptB, kept_eq, kept_eq, kept_eq, kept_eq, kept_eq, kept_eq, kept_eq, kept_eq, kept_eq, kept_eq, kept_eq, kept_eq, kept_eq, kept_eq, kept_eq, trivial⟩) (fun _ _ _ _ _ => rfl) ?_ ?_
    · skip
      intro V
      refine ⟨fun wu0 hC hd => ?_, ?_⟩
      · clear hd
        replace hb := hb.trans (hC.mono hb.size)
        replace hk1 := blk_ext hk1 hC
        replace hr0 := Row.ext hr0 hC
        refine Does.mono (d_bslice0 (sz := 1) Try.underlying47 (by kernel_rfl)) ?_
        rintro _ w' ⟨b, rfl, hF⟩
        exact ⟨hF.2.2, ⟨b, rfl, Nat.le_trans hC.size hF.1, hF.2.1⟩, isfr rfl hF.1 (blk_lt hF.2.1)⟩
      refine ⟨fun wu1 hC hd => ?_, ?_⟩
      · clear hd
        replace hb := hb.trans (hC.mono hb.size)
        replace hk1 := blk_ext hk1 hC
        replace hr0 := Row.ext hr0 hC
        exact Runs.does (r_move rfl) ⟨Below.refl _ _, rfl, nofr rfl⟩
      refine ⟨fun wu2 hC hd => ?_, ?_⟩
      · obtain ⟨h1, _⟩ := hd
        skip
        replace h1 : V 1 = (.pointer (some ⟨bs, 0, none⟩)) := h1
        replace hb := hb.trans (hC.mono hb.size)
        replace hk1 := blk_ext hk1 hC
        replace hr0 := Row.ext hr0 hC
        exact Runs.does (r_nilCheck (congrArg some h1)) ⟨Below.refl _ _, rfl, nofr rfl⟩
      refine ⟨fun wu3 hC hd => ?_, ?_⟩
      · obtain ⟨h2, _⟩ := hd
        skip
        replace h2 : V 2 = (.pointer (some ⟨bs, 0, none⟩)) := h2
        replace hb := hb.trans (hC.mono hb.size)
        replace hk1 := blk_ext hk1 hC
        replace hr0 := Row.ext hr0 hC
        exact Runs.does (r_fa (congrArg some h2) Try.underlying161 (f := 0) (q := 0) rfl (by kernel_rfl) rfl) ⟨Below.refl _ _, rfl, nofr rfl⟩
      refine ⟨fun wu4 hC hd => ?_, ?_⟩
      · obtain ⟨h3, _⟩ := hd
        skip
        replace h3 : V 3 = (.pointer (some ⟨bs, 0, none⟩)) := h3
        replace hb := hb.trans (hC.mono hb.size)
        replace hk1 := blk_ext hk1 hC
        replace hr0 := Row.ext hr0 hC
        exact Runs.does (r_load (v := (.slice a l.length c)) (congrArg some h3) Try.underlying47 rfl (cell_blk hk1 rfl)) ⟨Below.refl _ _, rfl, nofr rfl⟩
      refine ⟨fun wu5 hC hd => ?_, ?_⟩
      · clear hd
        replace hb := hb.trans (hC.mono hb.size)
        replace hk1 := blk_ext hk1 hC
        replace hr0 := Row.ext hr0 hC
        exact Runs.does (r_move rfl) ⟨Below.refl _ _, rfl, nofr rfl⟩
      refine ⟨fun wu6 hC hd => ?_, ?_⟩
      · obtain ⟨h5, _⟩ := hd
        skip
        replace h5 : V 5 = (.pointer (some ⟨bs, 0, none⟩)) := h5
        replace hb := hb.trans (hC.mono hb.size)
        replace hk1 := blk_ext hk1 hC
        replace hr0 := Row.ext hr0 hC
        exact Runs.does (r_nilCheck (congrArg some h5)) ⟨Below.refl _ _, rfl, nofr rfl⟩
      refine ⟨fun wu7 hC hd => ?_, ?_⟩
      · obtain ⟨h6, _⟩ := hd
        skip
        replace h6 : V 6 = (.pointer (some ⟨bs, 0, none⟩)) := h6
        replace hb := hb.trans (hC.mono hb.size)
        replace hk1 := blk_ext hk1 hC
        replace hr0 := Row.ext hr0 hC
        exact Runs.does (r_fa (congrArg some h6) Try.underlying161 (f := 1) (q := 1) rfl (by kernel_rfl) rfl) ⟨Below.refl _ _, rfl, nofr rfl⟩
      refine ⟨fun wu8 hC hd => ?_, ?_⟩
      · obtain ⟨h7, _⟩ := hd
        skip
        replace h7 : V 7 = (.pointer (some ⟨bs, 1, none⟩)) := h7
        replace hb := hb.trans (hC.mono hb.size)
        replace hk1 := blk_ext hk1 hC
        replace hr0 := Row.ext hr0 hC
        exact Runs.does (r_load (v := (.int .i64 (((p + X.length) : Nat) : Int))) (congrArg some h7) Try.underlying3 rfl (cell_blk hk1 rfl)) ⟨Below.refl _ _, rfl, nofr rfl⟩
      refine ⟨fun wu9 hC hd => ?_, ?_⟩
      · clear hd
        replace hb := hb.trans (hC.mono hb.size)
        replace hk1 := blk_ext hk1 hC
        replace hr0 := Row.ext hr0 hC
        exact Runs.does (r_move rfl) ⟨Below.refl _ _, rfl, nofr rfl⟩
      refine ⟨fun wu10 hC hd => ?_, ?_⟩
      · obtain ⟨h8, h9, _⟩ := hd
        skip
        skip
        replace h8 : V 8 = (.int .i64 (((p + X.length) : Nat) : Int)) := h8
        replace h9 : V 9 = (.int .i64 ((X.length : Nat) : Int)) := h9
        replace hb := hb.trans (hC.mono hb.size)
        replace hk1 := blk_ext hk1 hC
        replace hr0 := Row.ext hr0 hC
        exact Runs.does (r_sub (C := ((p : Nat) : Int)) (congrArg some h8) (congrArg some h9) (by rw [IntKind.wrap_i64]; omega)) ⟨Below.refl _ _, rfl, nofr rfl⟩
      refine ⟨fun wu11 hC hd => ?_, ?_⟩
      · clear hd
        replace hb := hb.trans (hC.mono hb.size)
        replace hk1 := blk_ext hk1 hC
        replace hr0 := Row.ext hr0 hC
        exact Runs.does (r_move rfl) ⟨Below.refl _ _, rfl, nofr rfl⟩
      refine ⟨fun wu12 hC hd => ?_, ?_⟩
      · obtain ⟨h11, _⟩ := hd
        skip
        replace h11 : V 11 = (.pointer (some ⟨bs, 0, none⟩)) := h11
        replace hb := hb.trans (hC.mono hb.size)
        replace hk1 := blk_ext hk1 hC
        replace hr0 := Row.ext hr0 hC
        exact Runs.does (r_nilCheck (congrArg some h11)) ⟨Below.refl _ _, rfl, nofr rfl⟩
      refine ⟨fun wu13 hC hd => ?_, ?_⟩
      · obtain ⟨h12, _⟩ := hd
        skip
        replace h12 : V 12 = (.pointer (some ⟨bs, 0, none⟩)) := h12
        replace hb := hb.trans (hC.mono hb.size)
        replace hk1 := blk_ext hk1 hC
        replace hr0 := Row.ext hr0 hC
        exact Runs.does (r_fa (congrArg some h12) Try.underlying161 (f := 1) (q := 1) rfl (by kernel_rfl) rfl) ⟨Below.refl _ _, rfl, nofr rfl⟩
      refine ⟨fun wu14 hC hd => ?_, ?_⟩
      · obtain ⟨h13, _⟩ := hd
        skip
        replace h13 : V 13 = (.pointer (some ⟨bs, 1, none⟩)) := h13
        replace hb := hb.trans (hC.mono hb.size)
        replace hk1 := blk_ext hk1 hC
        replace hr0 := Row.ext hr0 hC
        exact Runs.does (r_load (v := (.int .i64 (((p + X.length) : Nat) : Int))) (congrArg some h13) Try.underlying3 rfl (cell_blk hk1 rfl)) ⟨Below.refl _ _, rfl, nofr rfl⟩
      refine ⟨fun wu15 hC hd => ?_, ?_⟩
      · obtain ⟨h4, h10, h14, _⟩ := hd
        skip
        skip
        skip
        replace h4 : V 4 = (.slice a l.length c) := h4
        replace h10 : V 10 = (.int .i64 ((p : Nat) : Int)) := h10
        replace h14 : V 14 = (.int .i64 (((p + X.length) : Nat) : Int)) := h14
        replace hb := hb.trans (hC.mono hb.size)
        replace hk1 := blk_ext hk1 hC
        replace hr0 := Row.ext hr0 hC
        exact Runs.does (r_slab (l := p) (h := ((p + X.length))) (sz := 1) (congrArg some h4) (congrArg some h10) (congrArg some h14) Try.underlying47 (by kernel_rfl) rfl rfl (by omega) (by omega)) ⟨Below.refl _ _, rfl, nofr rfl⟩
      trivial
    · skip
      clear hf fa; intro V w4 fa he3 hp hnb hf
      have hv0 := postsHold_at hp 0 rfl
      obtain ⟨b1, hv0, hle1, hk2⟩ := hv0
      have hBb1 : w.heap.size ≤ b1 := Nat.le_trans hb.size hle1
      have hv1 : V 1 = (.pointer (some ⟨bs, 0, none⟩)) := postsHold_at hp 1 rfl
      have hv2 : V 2 = (.pointer (some ⟨bs, 0, none⟩)) := postsHold_at hp 2 rfl
      have hv3 : V 3 = (.pointer (some ⟨bs, 0, none⟩)) := postsHold_at hp 3 rfl
      have hv4 : V 4 = (.slice a l.length c) := postsHold_at hp 4 rfl
      have hv5 : V 5 = (.pointer (some ⟨bs, 0, none⟩)) := postsHold_at hp 5 rfl
      have hv6 : V 6 = (.pointer (some ⟨bs, 0, none⟩)) := postsHold_at hp 6 rfl
      have hv7 : V 7 = (.pointer (some ⟨bs, 1, none⟩)) := postsHold_at hp 7 rfl
      have hv8 : V 8 = (.int .i64 (((p + X.length) : Nat) : Int)) := postsHold_at hp 8 rfl
      have hv9 : V 9 = (.int .i64 ((X.length : Nat) : Int)) := postsHold_at hp 9 rfl
      have hv10 : V 10 = (.int .i64 ((p : Nat) : Int)) := postsHold_at hp 10 rfl
      have hv11 : V 11 = (.pointer (some ⟨bs, 0, none⟩)) := postsHold_at hp 11 rfl
      have hv12 : V 12 = (.pointer (some ⟨bs, 0, none⟩)) := postsHold_at hp 12 rfl
      have hv13 : V 13 = (.pointer (some ⟨bs, 1, none⟩)) := postsHold_at hp 13 rfl
      have hv14 : V 14 = (.int .i64 (((p + X.length) : Nat) : Int)) := postsHold_at hp 14 rfl
      have hv15 : V 15 = (.slice (slAt a c p 1) ((((p + X.length)) - p)) (c - p)) := postsHold_at hp 15 rfl
      simp only [List.take_succ_cons, List.take_zero, insAll, ins, hv0, hv1, hv2, hv3, hv4, hv5, hv6, hv7, hv8, hv9, hv10, hv11, hv12, hv13, hv14, hv15] at hf
      have : bs < b1 := Nat.lt_of_lt_of_le (blk_lt hk1) hle1
      clear hp hnb hv0 hv1 hv2 hv3 hv4 hv5 hv6 hv7 hv8 hv9 hv10 hv11 hv12 hv13 hv14 hv15
      replace hk1 := blk_ext hk1 he3
      replace hr0 := Row.ext hr0 he3
      replace hb := hb.trans (Below.mono he3 hb.size)
      simp only [List.drop_succ_cons, List.drop_zero]
      have hr1 := Row.of_new (k := 1) (V := (vInt .u8)) (l := []) hk2 (Nat.le_refl _) rfl rfl (Nat.le_of_ble_eq_true rfl)
      refine sqdt hf (d_append (V := (vInt .u8)) (k := 1) (e := 5) (bytes := 1) (z := (.int .u8 (0 : Int))) (news := X) (base := b1) (by intros; rfl) (by intro x u hu; simp only [vInt, List.mem_singleton] at hu; subst hu; rfl) rfl rfl Try.underlying47 (by kernel_rfl) rfl rfl rfl hr1 (slAt_rd (by intros; rfl) hr0 hA.1 hA.2) (by omega) (slAt_nocap (fun h => Row.nocap hr0 h)) (by first | omega | (simp only [List.length_cons, List.length_nil, List.length_append, nums_len]; omega)) (by first | (have := hb.size; have : b1 < w4.heap.size := (Row.lt hr1 _ rfl).2; omega) | (have := Row.base_le hr1 (by first | omega | (simp only [Sl.list_length, List.length_set, List.length_take, List.length_append, List.length_replicate, List.length_cons, List.length_nil, List.length_map, nums_len]; omega)); omega))) rfl rfl rfl ?_; clear hf fa; rintro fa v w5 ⟨hr2, hg2⟩ hf; obtain ⟨ra1, rc1, rfl, hcrc1, hmrc1⟩ := Row.slice hr2
      replace hk1 := blk_row' hk1 hg2 (Row.ne_type hr1 hk1 rfl)
      replace hr0 := Row.grown' hr0 hg2 (fun q h1 h2 => Row.ne_base hr1 (show q < b1 by have := hR0lt q h1; omega) h2)
      replace hb := hb.trans (row_below hr1 hg2 hb.size (by have := hb.size; omega))
      simp only [List.nil_append] at hr2
      refine sqv hf (r_assign rfl) rfl rfl rfl ?_; clear hf fa; intro fa hf
      apply wpList_nil
      (try simp only [Exit.then, Exit.inBlock, ↓reduceIte, Nat.reduceEqDiff])
      refine hK5 _ _ ?_
      refine wp_ret ?_
      (try simp only [Exit.then, Exit.inBlock])
      refine ret1 hf rfl rfl ?_
      exact ⟨_, rfl, Row.rebase hr2 (by omega), hk1, hb.grown⟩

set_option maxHeartbeats 1000000 in
set_option maxRecDepth 100000 in
theorem ssub_any (bs base p : Nat) (a : Option Addr) (c : Nat) (l : List Int) (w : World) (hks : w.heap[bs]? = some (.cells #[(.slice a l.length c), (.int .i64 ((p : Nat) : Int))] 161 (0, 0))) (hr0 : Row 1 (vInt .u8) 5 base w (.slice a l.length c) l) (hp : p ≤ l.length) (X : List Int) (hA : At l p X) (hX : X.length ≤ 1000000) : Calls Try.prog 62 #[(.pointer (some ⟨bs, 0, none⟩)), (.int .i64 ((X.length : Nat) : Int))] w fun e w' => ∃ v, e = .returned v ∧ ∃ b a2 c2, v = .pointer (some ⟨b, 0, none⟩) ∧ w.heap.size ≤ b ∧ w'.heap[b]? = some (.cells #[.slice a2 X.length c2, .int .i64 ((0 : Nat) : Int)] 161 (0, 0)) ∧ Row 1 (vInt .u8) 5 w.heap.size w' (.slice a2 X.length c2) X ∧ Wrote w bs #[(.slice a l.length c), (.int .i64 (((p + X.length) : Nat) : Int))] 161 w' := by
  have hcap := Row.caps hr0; have hR0lt := fun q hq => (Row.lt hr0 q hq).2; have hle := hA.le
  refine sx_enter (L := [(0, (.pointer (some ⟨bs, 0, none⟩))), (1, (.int .i64 ((X.length : Nat) : Int)))]) Try.func62 rfl rfl rfl rfl (fun fa hf => ?_)
  have hb : KB bs w.heap.size w w := KB.refl _ _ _
  refine wp_seq_k (fun K1 hK1 => ?_)
  refine wp_region_lit ?_
  refine sqv hf (r_assign rfl) rfl rfl rfl ?_; clear hf fa; intro fa hf
  apply wpList_nil
  (try simp only [Exit.then, Exit.inBlock, ↓reduceIte, Nat.reduceEqDiff])
  refine hK1 _ _ ?_
  refine wp_seq_k (fun K2 hK2 => ?_)
  refine wp_region_lit ?_
  refine sqv hf (r_move rfl) rfl rfl rfl ?_; clear hf fa; intro fa hf
  refine sqv hf (r_move rfl) rfl rfl rfl ?_; clear hf fa; intro fa hf
  refine sqdt hf (d_callX (vs := [(.pointer (some ⟨bs, 0, none⟩)), (.int .i64 ((X.length : Nat) : Int))]) rfl Try.func119 (by kernel_rfl) (by kernel_rfl) (sbytes_any bs base p a c l _ hks hr0 (by omega) X hA (by omega))) rfl rfl rfl ?_; clear hf fa; rintro fa v w1 ⟨hr1, hk1, hg1⟩ hf
  obtain ⟨ra1, rc1, rfl, hcrc1, hmrc1⟩ := Row.slice hr1
  replace hr1 := Row.rebase hr1 hb.size
  replace hr0 := Row.grown hr0 hg1 (Row.ne_type hr0 hks rfl)
  replace hb := hb.wrote hg1 hb.size
  refine sqdt hf (d_callX (vs := [(.slice ra1 X.length rc1)]) rfl Try.func58 (by kernel_rfl) (by kernel_rfl) (over_any ra1 rc1 X _ (Row.rd (by intros; rfl) hr1) (by first | omega | (simp only [Sl.list_length, List.length_set, List.length_take, List.length_append, List.length_replicate, List.length_cons, List.length_nil, List.length_map, nums_len]; omega)) (fun h => Row.nocap hr1 h))) rfl rfl rfl ?_; clear hf fa; rintro fa _ w2 ⟨sb1, sa1, sc1, rfl, hle1, hk2, hr2, he1⟩ hf
  have hBsb1 : w.heap.size ≤ sb1 := Nat.le_trans hb.size hle1
  have : bs < sb1 := Nat.lt_of_lt_of_le (blk_lt hk1) hle1
  replace hr2 := Row.rebase hr2 hb.size
  replace hk1 := blk_ext hk1 he1
  replace hr0 := Row.ext hr0 he1
  replace hr1 := Row.ext hr1 he1
  replace hb := hb.trans (Below.mono he1 hb.size)
  refine sqv hf (r_assign rfl) rfl rfl rfl ?_; clear hf fa; intro fa hf
  apply wpList_nil
  (try simp only [Exit.then, Exit.inBlock, ↓reduceIte, Nat.reduceEqDiff])
  refine hK2 _ _ ?_
  refine wp_ret ?_
  (try simp only [Exit.then, Exit.inBlock])
  refine ret1 hf rfl rfl ?_
  exact ⟨_, rfl, _, _, _, rfl, hBsb1, hk2, hr2, hk1, hb.grown⟩

theorem left_of_row {k e base n c : Nat} {w : World} {a : Option Addr} {X : List Int} (h : Row 1 (vInt .u8) e base w (.slice a n c) X) (hX : ∀ x ∈ X, 0 ≤ x ∧ x < 256) : Ut.LeftN w (.slice a n c) (X.map Int.toNat) := by
  have hc := h.caps
  refine ⟨a, c, by rw [List.length_map, hc.1], fun j hj => ?_, by rw [List.length_map]; omega, fun x hx => ?_⟩
  · rw [List.length_map] at hj
    have hg := List.getElem?_eq_getElem hj
    obtain ⟨b, off, ha, hlt, hcell⟩ := RdS.at (Row.rd (by intros; rfl) h) hg
    refine ⟨b, off, ha, ?_, hlt⟩
    have h0 := hX _ (List.getElem_mem hj)
    have := cellsAt_cell hcell (i := 0) (q := off + j) (v := .int .u8 X[j]) rfl (by omega)
    rw [this]
    have : (X.map Int.toNat).getD j 0 = X[j].toNat := by rw [List.getD_eq_getElem?_getD, List.getElem?_map, hg]; rfl
    rw [this, Int.toNat_of_nonneg h0.1]
  · obtain ⟨y, hy, rfl⟩ := List.mem_map.1 hx
    have := hX y hy
    omega
def goodN (X : List Int) : Prop := (∀ x ∈ X, 0 ≤ x ∧ x < 256) ∧ 0 ≤ Ut.cnt (X.map Int.toNat)
theorem bl_nums (s : ByteArray) : Ut.bl s = (nums s).map Int.toNat := by
  unfold Ut.bl nums
  rw [List.map_map]
  rfl
set_option maxHeartbeats 1000000 in
set_option maxRecDepth 100000 in
theorem sname_any (bs base p : Nat) (a : Option Addr) (c : Nat) (l : List Int) (w : World) (hks : w.heap[bs]? = some (.cells #[(.slice a l.length c), (.int .i64 ((p : Nat) : Int))] 161 (0, 0))) (hr0 : Row 1 (vInt .u8) 5 base w (.slice a l.length c) l) (hp : p ≤ l.length) (hb6 : ∀ y ∈ l, 0 ≤ y ∧ y < 256) (hlm : l.length ≤ 1000000) (X : List Int) (hA : At l p (uL X.length ++ X)) (hX : X.length ≤ 200) (hU : goodN X) : Calls Try.prog 125 #[(.pointer (some ⟨bs, 0, none⟩))] w fun e w' => e = .returned (.string (strOfNums X)) ∧ Wrote w bs #[(.slice a l.length c), (.int .i64 (((p + (uL X.length).length + X.length) : Nat) : Int))] 161 w' := by
  have hcap := Row.caps hr0; have hR0lt := fun q hq => (Row.lt hr0 q hq).2; have hle := hA.le; simp only [List.length_append] at hle; have hU2 := decide_eq_true hU.2
  refine sx_enter (L := [(0, (.pointer (some ⟨bs, 0, none⟩)))]) Try.func125 rfl rfl rfl rfl (fun fa hf => ?_)
  have hb : KB bs w.heap.size w w := KB.refl _ _ _
  refine wp_seq_k (fun K1 hK1 => ?_)
  refine wp_region_lit ?_
  refine sqv hf (r_assign rfl) rfl rfl rfl ?_; clear hf fa; intro fa hf
  apply wpList_nil
  (try simp only [Exit.then, Exit.inBlock, ↓reduceIte, Nat.reduceEqDiff])
  refine hK1 _ _ ?_
  refine wp_seq_k (fun K2 hK2 => ?_)
  refine wp_region_lit ?_
  refine sqv hf (r_move rfl) rfl rfl rfl ?_; clear hf fa; intro fa hf
  refine sqv hf (r_nilCheck rfl) rfl rfl rfl ?_; clear hf fa; intro fa hf
  refine sqv hf (r_fa rfl Try.underlying161 (f := 1) (q := 1) rfl (by kernel_rfl) rfl) rfl rfl rfl ?_; clear hf fa; intro fa hf
  refine sqv hf (r_load (v := (.int .i64 ((p : Nat) : Int))) rfl Try.underlying3 rfl (cell_blk hks rfl)) rfl rfl rfl ?_; clear hf fa; intro fa hf
  refine sqv hf (r_assign rfl) rfl rfl rfl ?_; clear hf fa; intro fa hf
  apply wpList_nil
  (try simp only [Exit.then, Exit.inBlock, ↓reduceIte, Nat.reduceEqDiff])
  refine hK2 _ _ ?_
  refine wp_seq_k (fun K3 hK3 => ?_)
  refine wp_region_lit ?_
  refine sqv hf (r_move rfl) rfl rfl rfl ?_; clear hf fa; intro fa hf
  refine sqdt hf (d_callW (v := (.int .u32 ((X.length : Nat) : Int))) (b := bs) (T := 161) (cs := #[(.slice a l.length c), (.int .i64 (((p + (uL X.length).length) : Nat) : Int))]) (vs := [(.pointer (some ⟨bs, 0, none⟩))]) rfl Try.func121 (by kernel_rfl) (by kernel_rfl) (index_any bs base p a c l _ hks hr0 (by omega) hb6 hlm X.length (At.fst hA) (by omega))) rfl rfl rfl ?_; clear hf fa; rintro fa _ w1 ⟨rfl, hk1, hg1⟩ hf
  replace hr0 := Row.grown hr0 hg1 (Row.ne_type hr0 hks rfl)
  replace hb := hb.wrote hg1 hb.size
  refine sqv hf (r_assign rfl) rfl rfl rfl ?_; clear hf fa; intro fa hf
  apply wpList_nil
  (try simp only [Exit.then, Exit.inBlock, ↓reduceIte, Nat.reduceEqDiff])
  refine hK3 _ _ ?_
  refine wp_seq_k (fun K4 hK4 => ?_)
  refine wp_region_lit ?_
  refine sqv hf (r_move rfl) rfl rfl rfl ?_; clear hf fa; intro fa hf
  refine sqv hf (r_le rfl rfl) rfl rfl rfl ?_; clear hf fa; intro fa hf
  refine sqv hf (r_move rfl) rfl rfl rfl ?_; clear hf fa; intro fa hf
  refine sqdt hf (d_callB (vs := [(.bool (decide (((X.length : Nat) : Int) ≤ (200 : Int)))), (.int .i64 (13 : Int)), (.int .i64 ((p : Nat) : Int))]) rfl Try.func118 (by kernel_rfl) (by kernel_rfl) (unless_any (decide (((X.length : Nat) : Int) ≤ (200 : Int))) (13 : Int) ((p : Nat) : Int) _ (by first | rfl | assumption | (simp; done) | (simp; omega)))) rfl rfl rfl ?_; clear hf fa; rintro fa _ w2 ⟨rfl, he1⟩ hf
  replace hk1 := blk_ext hk1 he1
  replace hr0 := Row.ext hr0 he1
  replace hb := hb.trans (Below.mono he1 hb.size)
  apply wpList_nil
  (try simp only [Exit.then, Exit.inBlock, ↓reduceIte, Nat.reduceEqDiff])
  refine hK4 _ _ ?_
  refine wp_seq_k (fun K5 hK5 => ?_)
  refine wp_region_lit ?_
  refine sqv hf (r_move rfl) rfl rfl rfl ?_; clear hf fa; intro fa hf
  refine sqv hf (r_move rfl) rfl rfl rfl ?_; clear hf fa; intro fa hf
  refine sqv hf (r_conv (C := ((X.length : Nat) : Int)) rfl Try.underlying24 Try.underlying3 (by rw [IntKind.wrap_i64]; omega)) rfl rfl rfl ?_; clear hf fa; intro fa hf
  refine sqdt hf (d_callX (vs := [(.pointer (some ⟨bs, 0, none⟩)), (.int .i64 ((X.length : Nat) : Int))]) rfl Try.func119 (by kernel_rfl) (by kernel_rfl) (sbytes_any bs base ((p + (uL X.length).length)) a c l _ hk1 hr0 (by omega) X (At.snd hA) (by omega))) rfl rfl rfl ?_; clear hf fa; rintro fa v w3 ⟨hr1, hk2, hg2⟩ hf
  obtain ⟨ra1, rc1, rfl, hcrc1, hmrc1⟩ := Row.slice hr1
  replace hr1 := Row.rebase hr1 hb.size
  replace hr0 := Row.grown hr0 hg2 (Row.ne_type hr0 hk1 rfl)
  replace hb := hb.wrote hg2 hb.size
  refine sqv hf (r_assign rfl) rfl rfl rfl ?_; clear hf fa; intro fa hf
  apply wpList_nil
  (try simp only [Exit.then, Exit.inBlock, ↓reduceIte, Nat.reduceEqDiff])
  refine hK5 _ _ ?_
  refine wp_seq_k (fun K6 hK6 => ?_)
  refine wp_region_lit ?_
  refine sqv hf (r_move rfl) rfl rfl rfl ?_; clear hf fa; intro fa hf
  refine sqdt hf (d_callS (vs := [(.slice ra1 X.length rc1)]) rfl Try.func147 (by kernel_rfl) (by kernel_rfl) (Ut.right_any (X.map Int.toNat) _ _ (left_of_row (k := 0) hr1 hU.1) (by rw [List.length_map]; omega))) rfl rfl rfl ?_; clear hf fa; rintro fa _ _ ⟨rfl, rfl⟩ hf
  refine sqv hf (r_move rfl) rfl rfl rfl ?_; clear hf fa; intro fa hf
  refine sqdt hf (d_callB (vs := [(.bool (decide (0 ≤ Ut.cnt (X.map Int.toNat)))), (.int .i64 (4 : Int)), (.int .i64 ((p : Nat) : Int))]) rfl Try.func118 (by kernel_rfl) (by kernel_rfl) (unless_any (decide (0 ≤ Ut.cnt (X.map Int.toNat))) (4 : Int) ((p : Nat) : Int) _ (by first | rfl | assumption | (simp; done) | (simp; omega)))) rfl rfl rfl ?_; clear hf fa; rintro fa _ w4 ⟨rfl, he2⟩ hf
  replace hk2 := blk_ext hk2 he2
  replace hr0 := Row.ext hr0 he2
  replace hr1 := Row.ext hr1 he2
  replace hb := hb.trans (Below.mono he2 hb.size)
  apply wpList_nil
  (try simp only [Exit.then, Exit.inBlock, ↓reduceIte, Nat.reduceEqDiff])
  refine hK6 _ _ ?_
  refine wp_seq_k (fun K7 hK7 => ?_)
  refine wp_region_lit ?_
  refine sqv hf (r_move rfl) rfl rfl rfl ?_; clear hf fa; intro fa hf
  refine sqv hf (r_rowstr rfl Try.underlying47 Try.underlying5 Try.underlying9 hr1) rfl rfl rfl ?_; clear hf fa; intro fa hf
  refine sqv hf (r_assign rfl) rfl rfl rfl ?_; clear hf fa; intro fa hf
  apply wpList_nil
  (try simp only [Exit.then, Exit.inBlock, ↓reduceIte, Nat.reduceEqDiff])
  refine hK7 _ _ ?_
  refine wp_ret ?_
  (try simp only [Exit.then, Exit.inBlock])
  refine ret1 hf rfl rfl ?_
  exact ⟨rfl, hk2, hb.grown⟩
end Go.Proofs.Ytcmdajkkdognfaa

namespace Go.Proofs.Ytcmdajkkdognfaa
open Go.RowKit
set_option linter.unusedVariables false
set_option linter.unusedSimpArgs false
end Go.Proofs.Ytcmdajkkdognfaa

namespace Go.Proofs.Ytcmdajkkdognfaa
open Go.RowKit
set_option linter.unusedVariables false
set_option linter.unusedSimpArgs false
theorem At.mv {l : List Int} {p q : Nat} {X Y : List Int} (h : At l p X) (e : p = q) (e2 : X = Y) : At l q Y := e2 ▸ e ▸ h
theorem At.all (l : List Int) : At l 0 l := ⟨by rw [List.drop_zero, List.take_length], by omega⟩
end Go.Proofs.Ytcmdajkkdognfaa

namespace Go.Proofs.Ytcmdajkkdognfaa
open Go.RowKit
set_option linter.unusedVariables false
set_option linter.unusedSimpArgs false
section
variable {P : Program} {ops : Array Oper} {Q : Exit → Act → World → Prop} {a : Act} {w : World} {rest : List Oper} {N : Nat} {L : List (Nat × Value)} {d : Option Tmp} {ty : TypeId} {ps : String} {af : Array Edge}
/-- A call that surely gives up. -/
theorem sq_panic {f : FuncId} {xs : Array Operand} {tys : Array TypeId} {vs : List Value} {S : List PanicEntry → World → Prop} {fn : Func} (hfr : Fr N a L) (hv : xs.toList.map (evO L) = vs.map some) (hf : P.funcs[f]? = some fn) (hb : fn.body.isNone = false) (hn : (fn.name == "runtime.NumGoroutine") = false)
    (hc : Calls P f vs.toArray w (fun e w' => ∃ c, e = .panicked c ∧ S c w')) (k : ∀ c w', S c w' → Q (.panic c) a w') : wpList P ops Q (⟨d, .call { callee := .value (.func f), args := xs, argTypes := tys }, ty, ps, af, none⟩ :: rest) a w := by
  refine wpList_plain rfl fun K hK => ?_
  unfold Oper.wp
  have he : xs.map a.eval = vs.toArray := evs_of hv (fun x v e => hfr.ev e)
  have hr : (execOp a.eval ⟨d, .call { callee := .value (.func f), args := xs, argTypes := tys }, ty, ps, af, none⟩).run P w = .ok (.enter f vs.toArray) w := by
    have h3 : a.eval (.func f) = .func (.func f) #[] #[] := hfr.ev rfl
    simp only [execOp, resolve, he, h3, Deferred.ofValue]
    simp [invoke, callee_ok hf hb hn]
  rw [hr]
  simp only [Oper.upon]
  refine Calls.mono hc fun e w' he => ?_
  obtain ⟨c, rfl, h⟩ := he
  exact k c w' h
/-- The same of a function value. -/
theorem sq_panicF {kk : FuncId} {x : Operand} {xs : Array Operand} {tys : Array TypeId} {vs : List Value} {caps ags : Array Value} {S : List PanicEntry → World → Prop} (hfr : Fr N a L) (hx : evO L x = some (.func (.func kk) #[] caps)) (hv : xs.toList.map (evO L) = vs.map some) (has : vs.toArray ++ caps = ags) (hin : Enters P kk)
    (hc : Calls P kk ags w (fun e w' => ∃ c, e = .panicked c ∧ S c w')) (k : ∀ c w', S c w' → Q (.panic c) a w') : wpList P ops Q (⟨d, .call { callee := .value x, args := xs, argTypes := tys }, ty, ps, af, none⟩ :: rest) a w := by
  refine wpList_plain rfl fun K hK => ?_
  unfold Oper.wp
  have he : xs.map a.eval = vs.toArray := evs_of hv (fun x v e => hfr.ev e)
  have hr : (execOp a.eval ⟨d, .call { callee := .value x, args := xs, argTypes := tys }, ty, ps, af, none⟩).run P w = .ok (.enter kk ags) w := by
    have h3 := hfr.ev hx
    have h4 := hin ags w
    simp only [execOp, resolve, he, h3, Deferred.ofValue]
    simp [invoke, has, h4]
  rw [hr]
  simp only [Oper.upon]
  refine Calls.mono hc fun e w' he => ?_
  obtain ⟨c, rfl, h⟩ := he
  exact k c w' h
/-- '[]byte("..")' of a constant: the row gets a mark behind its last cell. -/
theorem d_conststr {t e : TypeId} {x : Operand} {C : Array Value} {b n c : Nat} {gu : Option (Nat × Bool)} (hx : evO L x = some (.slice (some ⟨b, 0, none⟩) n c)) (ht : P.underlying t = some (.slice e)) (he : P.underlying e = some (.int .u8)) (hb : w.heap[b]? = some (.cells C e (0, 0))) :
    Does P L ⟨d, .convert t t x, ty, ps, af, gu⟩ w (fun v w' => v = .slice (some ⟨b, 0, none⟩) n c ∧ w'.heap[b]? = some (.cells C e (C.size, C.size + 1)) ∧ w.grownBy w' (some b)) := by
  have hsh : w.shape? b = some (e, C.size) := by unfold World.shape?; rw [hb]
  have hlt : b < w.heap.size := blk_lt hb
  have hw : (w.freeze ⟨b, C.size, none⟩ 1).heap = w.heap.modify b (fun _ => .cells C e (C.size, C.size + 1)) := by
    unfold World.freeze
    rw [if_neg (by decide)]
    apply Array.ext
    · simp
    · intro i h1 h2
      simp only [Array.getElem_modify]
      by_cases h : b = i
      · subst h
        have e2 : w.heap[b] = .cells C e (0, 0) := by
          have := Array.getElem?_eq_some_iff.1 hb
          exact this.2
        simp [e2]
      · simp [h]
  refine Runs.does (v := .slice (some ⟨b, 0, none⟩) n c) (w' := w.freeze ⟨b, C.size, none⟩ 1) (fun ρ hρ => ?_) ⟨rfl, ?_, ?_⟩
  · simp only [execOp, hρ x _ hx]
    simp [convert, run_underlying ht, run_underlying he, markStringish, hsh]
  · rw [hw]
    simp [Array.getElem?_modify, hb]
  · refine ⟨by unfold World.freeze; rw [if_neg (by decide)], by unfold World.freeze; rw [if_neg (by decide)], by unfold World.freeze; rw [if_neg (by decide)], by rw [hw]; simp, fun k hk hne => ?_⟩
    rw [hw]
    have : b ≠ k := fun e => hne (by rw [e])
    simp [Array.getElem?_modify, this]
end
theorem rds_const {w : World} {b e : Nat} {C : Array Value} {fr : Nat × Nat} {l : List Int} (hb : w.heap[b]? = some (.cells C e fr)) (h : C.toList = l.map (fun n => .int .u8 n)) : RdS 1 (vInt .u8) w (some ⟨b, 0, none⟩) l := by
  intro j x hx
  refine ⟨b, 0, rfl, (Array.getElem?_eq_some_iff.1 hb).1, fun i u hu => ?_⟩
  match i, hu with
  | 0, hu =>
    simp only [vInt, List.getElem?_cons_zero, Option.some.injEq] at hu
    subst hu
    have hc : C[j]? = some (.int .u8 x) := by
      rw [← Array.getElem?_toList, h, List.getElem?_map, hx]; rfl
    unfold World.cell?
    simp only [hb]
    rw [show 0 + j * 1 + 0 = j by omega]
    exact hc
/-- What is thrown for a reason. -/
def Gave (c : List PanicEntry) : Prop := ∃ why at' : Int, why ≠ 0 ∧ c = [{ v := stopV why at', recovered := false }]
theorem out_bad (k : FuncId) (cap : Array Value) (w : World) (S : List Nat) (hin : Enters Try.prog k) (hS : ∀ b ∈ S, b < w.heap.size)
    (hc : ∀ w1, Below w.heap.size w w1 → w.heap.size < w1.heap.size → Calls Try.prog k cap w1 fun e w2 => ∃ c, e = .panicked c ∧ (Gave c ∧ KS S w1.heap.size w1 w2)) :
    Calls Try.prog 59 #[.func (.func k) #[] cap] w fun e w' => ∃ v, e = .returned v ∧ ∃ why at' : Int, v = .agg #[.int .i64 why, .int .i64 at'] ∧ why ≠ 0 ∧ KS S w.heap.size w w' := by
  have hb : Below w.heap.size w (w.alloc (.cells zstop 90)) := (Below.refl _ _).alloc (Nat.le_refl _) _
  have hlt : w.heap.size < (w.alloc (.cells zstop 90)).heap.size := by simp
  have hlast : (w.alloc (.cells zstop 90)).heap[w.heap.size]? = some (.cells zstop 90 (0, 0)) := heap_alloc_last w _
  refine (out_of k cap w (fun _ => False) (fun why _ w' => why ≠ 0 ∧ KS S w.heap.size w w' ∧ w'.heap[w.heap.size]? = some (.cells zstop 90 (0, 0))) hin ((hc _ hb hlt).mono ?_)).mono ?_
  · rintro e w' ⟨c, rfl, ⟨why, at', hne, rfl⟩, hk⟩
    have hz := blk_ks hlast hk (fun hm => by have := hS _ hm; omega)
    refine .inr ⟨why, at', rfl, cell_blk hz rfl, cell_blk hz rfl, ?_, ?_, Nat.lt_of_lt_of_le hlt hk.size, hne, ?_, hz⟩
    · simp [World.frozen?, hz]
    · simp [World.frozen?, hz]
    · exact (KS.of_below hb).many hk (fun b hm => .inl hm) hb.size
  · rintro e w' (⟨_, _, h, _⟩ | ⟨why, at', w1, rfl, ⟨hne, hk, hz⟩, rfl⟩)
    · exact h.elim
    · refine ⟨_, rfl, why, at', rfl, hne, ?_⟩
      have hlt1 : w.heap.size < w1.heap.size := blk_lt hz
      have b1 : Below w.heap.size w1 (w1.setCell ⟨w.heap.size, 0, none⟩ (.int .i64 why)) := Below.setCell (Below.refl _ _) (p := ⟨w.heap.size, 0, none⟩) (Nat.le_refl _) (.int .i64 why)
      have b2 : Below w.heap.size w1 ((w1.setCell ⟨w.heap.size, 0, none⟩ (.int .i64 why)).setCell ⟨w.heap.size, 1, none⟩ (.int .i64 at')) := Below.setCell b1 (p := ⟨w.heap.size, 1, none⟩) (Nat.le_refl _) (.int .i64 at')
      have b3 := Below.alloc b2 (Nat.le_of_lt (by simpa [World.setCell] using hlt1)) (.cells #[.int .i64 why, .int .i64 at'] 90)
      exact hk.trans b3
end Go.Proofs.Ytcmdajkkdognfaa
