/- What is proved here: what the functions of the document's answer for numbers as bytes come to. -/
import Derived.Test.YtcmdajkkdognfaaLuA
namespace Go.Proofs.Ytcmdajkkdognfaa
open Go.RowKit
set_option linter.unusedVariables false
set_option linter.unusedSimpArgs false

theorem Try.info4 : (Try.prog.info? 4).map (fun i => (i.zero, i.size, i.bytes)) = some (some (.bool false), 1, 1) := by kernel_rfl

def bitAt (v i : Nat) : Bool := (v / 2 ^ i) % 2 == 1
def bitsL (v n : Nat) : List Bool := (List.range n).map (bitAt v)
theorem bitsL_succ (v n : Nat) : bitsL v (n + 1) = bitsL v n ++ [bitAt v n] := by simp [bitsL, List.range_succ]
theorem bitsL_length (v n : Nat) : (bitsL v n).length = n := by simp [bitsL]

set_option maxHeartbeats 400000 in
set_option maxRecDepth 100000 in
theorem bits_any (v : Nat) (hv : v < 2 ^ 64) (w : World) :
    Calls Try.prog 156 #[.int .u64 v] w fun e w' => ∃ s, e = .returned s ∧ w'.ownsRow w.heap.size 4 1 s 64 ((bitsL v 64).map Value.bool) ∧ Below w.heap.size w w' := by
  have Hv := hid hv; clear hv
  go_enter Try.func156, Try.ntmps156
  go_wp2
  go_loopw [0, 3, 4] (fun x s i wr => ∃ (u k : Nat), x = .int .u64 u ∧ i = .int .i64 k ∧ k ≤ 64 ∧ Hid (u = v / 2 ^ k) ∧ wr.ownsRow w.heap.size 4 1 s k ((bitsL v k).map Value.bool) ∧ Below w.heap.size w wr) (fun _ _ i _ => 64 - (intOf i).toNat)
  case atStart => exact ⟨v, 0, rfl, rfl, by omega, by simp [Hid], World.ownsRow_nil _ _ _ _, Below.refl _ _⟩
  case round =>
    obtain ⟨u, k, rfl, rfl, hk, Hu, hown, hb⟩ := hrel
    have hsz := hb.size
    by_cases hlt : k < 64
    · go_wp2_with (at_builtin; refine wpList_push Try.underlying187 Try.info4 rfl (by decide) hown hsz (by omega) rfl rfl rfl rfl rfl ?_; intro v' w' hown' hb' hlt')
      go_roundw
      case rel =>
        refine ⟨u / 2, k + 1, by rw [wrap_u64 (by omega) (by have := Hv.out; have := Hu.out; have := Nat.div_le_self v (2 ^ k); omega)]; simp, by go_num, by omega, ?_, ?_, hb.trans hb'⟩
        · show _ = _
          rw [Hu.out, Nat.div_div_eq_div_mul, Nat.pow_succ]
        · rw [bitsL_succ, List.map_append]
          have e : bitAt v k = ((u : Int) % 2 == 1) := by
            have := Hu.out
            unfold bitAt; rw [← this, Bool.eq_iff_iff]; simp; omega
          rw [e]; simpa using hown'
      case measure => first | (simp [intOf]; done) | (simp [intOf]; omega)
    · obtain rfl : k = 64 := by omega
      go_wp2
      go_ret
      exact ⟨_, rfl, hown, hb⟩

/-- Of a group of seven bits those from the highest down, m of them. -/
def acc (f : Nat → Bool) (i : Nat) : Nat → Nat
  | 0 => 0
  | m + 1 => acc f i m * 2 + (f (7 * i + (6 - m))).toNat
theorem acc_lt (f : Nat → Bool) (i : Nat) : ∀ m, acc f i m < 2 ^ m
  | 0 => by simp [acc]
  | m + 1 => by
    have h1 := acc_lt f i m
    have h2 := Bool.toNat_le (f (7 * i + (6 - m)))
    simp only [acc, Nat.pow_succ]; omega
theorem acc_le (f : Nat → Bool) (i m : Nat) (h : m ≤ 7) : acc f i m < 128 :=
  Nat.lt_of_lt_of_le (acc_lt f i m) (Nat.pow_le_pow_right (by decide) (show m ≤ 7 from h))
def bitOf (ls : List Bool) (beyond : Bool) (j : Nat) : Bool := if j < ls.length then ls.getD j false else beyond
def grpB (f : Nat → Bool) (n i : Nat) : Int := (acc f i 7 + if i + 1 < n then 128 else 0 : Nat)
def grpL (f : Nat → Bool) (n k : Nat) : List Int := (List.range k).map (grpB f n)
theorem grpL_succ (f : Nat → Bool) (n k : Nat) : grpL f n (k + 1) = grpL f n k ++ [grpB f n k] := by simp [grpL, List.range_succ]

set_option maxHeartbeats 1000000 in
set_option maxRecDepth 100000 in
theorem group_any (b off cap : Nat) (ls : List Bool) (n : Nat) (beyond : Bool) (w : World) (hn : n ≤ 10) (hls : ls.length ≤ 1000000) (hb0 : b < w.heap.size)
    (hc : ∀ j, j < ls.length → w.cell? ⟨b, off + j, none⟩ = some (.bool (ls.getD j false))) :
    Calls Try.prog 157 #[.slice (some ⟨b, off, none⟩) ls.length cap, .int .i64 n, .bool beyond] w fun e w' => ∃ s, e = .returned s ∧ w'.ownsRow w.heap.size 5 1 s n ((grpL (bitOf ls beyond) n n).map (Value.int .u8)) ∧ Below w.heap.size w w' := by
  have Hc := hid hc; clear hc
  go_enter Try.func157, Try.ntmps157
  go_wp2
  go_loopw [7, 8] (fun s i wr => ∃ (k : Nat), i = .int .i64 k ∧ k ≤ n ∧ wr.ownsRow w.heap.size 5 1 s k ((grpL (bitOf ls beyond) n k).map (Value.int .u8)) ∧ Below w.heap.size w wr) (fun _ i _ => n - (intOf i).toNat)
  case atStart => exact ⟨0, rfl, by omega, World.ownsRow_nil _ _ _ _, Below.refl _ _⟩
  case round =>
    obtain ⟨i, rfl, hi, hown, hb⟩ := hrel
    have hsz := hb.size
    by_cases hlt : i < n
    · go_wp2
      go_loop [9, 10] (fun c k => ∃ m kk : Nat, m + kk = 7 ∧ c = .int .i64 (acc (bitOf ls beyond) i m) ∧ k = .int .i64 ((kk : Int) - 1)) (fun _ k => ((intOf k) + 1).toNat)
      case atStart => exact ⟨0, 7, rfl, rfl, rfl⟩
      case round =>
        obtain ⟨m, kk, hm, rfl, rfl⟩ := hrel
        have hacc := acc_le (bitOf ls beyond) i m (by omega)
        cases kk with
        | zero =>
          obtain rfl : m = 7 := by omega
          have hlast : i < n - 1 ∨ i = n - 1 := by omega
          have e : grpB (bitOf ls beyond) n i = (acc (bitOf ls beyond) i 7 : Int) + if i + 1 < n then 128 else 0 := by unfold grpB; split <;> simp
          have He := hid e; clear e
          generalize hA : acc (bitOf ls beyond) i 7 = A at *
          clear hA hm
          by_cases hl : i + 1 < n
          all_goals
            have Hl := hid hl
            go_wp2_with (at_builtin; refine wpList_push Try.underlying47 Try.info5 rfl (by decide) hown hsz (by omega) rfl rfl rfl rfl rfl ?_; intro v' w' hown' hb' hlt')
            go_roundw
            case rel =>
              refine ⟨i + 1, by go_num, by omega, ?_, hb.trans hb'⟩
              have e := He.out
              simp only [Hl.out, if_true, if_false] at e
              rw [grpL_succ, List.map_append, e]
              simpa using hown'
            case measure => first | (simp [intOf]; done) | (simp [intOf]; omega)
        | succ q =>
          have hq : q ≤ 6 := by omega
          have hmq : 6 - m = q := by omega
          have e : acc (bitOf ls beyond) i (m + 1) = acc (bitOf ls beyond) i m * 2 + (bitOf ls beyond (7 * i + q)).toNat := by rw [acc, hmq]
          have hcell := Hc.out (7 * i + q)
          have hbo : bitOf ls beyond (7 * i + q) = if 7 * i + q < ls.length then ls.getD (7 * i + q) false else beyond := rfl
          have hbi : b < w.heap.size := hb0
          have hcw : 7 * i + q < ls.length → wr.cell? ⟨b, off + (7 * i + q), none⟩ = some (.bool (ls.getD (7 * i + q) false)) := fun h => (hb.cell (p := ⟨b, off + (7 * i + q), none⟩) hb0).trans (hcell h)
          clear hcell hmq
          generalize acc (bitOf ls beyond) i m = A0 at *
          by_cases hj : 7 * i + q < ls.length
          · have hcw := hcw hj
            rw [if_pos hj] at hbo
            generalize ls.getD (7 * i + q) false = x at *
            rw [hbo] at e
            clear hbo
            have He := hid e; clear e
            cases x
            all_goals
              go_wp2
              go_round
              case rel =>
                refine ⟨m + 1, q, by omega, ?_, by simp⟩
                have e := He.out
                simp at e
                rw [e]; simp
              case measure => first | (simp [intOf]; done) | (simp [intOf]; omega)
          · clear hcw
            rw [if_neg hj] at hbo
            rw [hbo] at e
            clear hbo
            have He := hid e; clear e
            have hj' : ls.length ≤ 7 * i + q := by omega
            cases beyond
            all_goals
              go_wp2
              go_round
              case rel =>
                refine ⟨m + 1, q, by omega, ?_, by simp⟩
                have e := He.out
                simp at e
                rw [e]; simp
              case measure => first | (simp [intOf]; done) | (simp [intOf]; omega)
    · obtain rfl : i = n := by omega
      go_wp2
      go_ret
      exact ⟨_, rfl, hown, hb⟩
end Go.Proofs.Ytcmdajkkdognfaa
