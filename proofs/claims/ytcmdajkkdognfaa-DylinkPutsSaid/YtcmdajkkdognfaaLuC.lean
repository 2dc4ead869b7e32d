/- What is proved here: what the document's functions for the shortest bytes of a number come to. -/
import Derived.Test.YtcmdajkkdognfaaLuB
import Derived.Deep.QuietTactic
import Derived.BigQuiet
namespace Go.Proofs.Ytcmdajkkdognfaa
open Go.RowKit
set_option linter.unusedVariables false
set_option linter.unusedSimpArgs false

/-- One of m bits from s on. -/
def anyFrom (f : Nat → Bool) (s : Nat) : Nat → Bool
  | 0 => false
  | m + 1 => anyFrom f s m || f (s + m)

/-- The least number of groups of seven. -/
def RefRes (mo : Nat → Bool) (n : Nat) : Prop := 1 ≤ n ∧ n ≤ 10 ∧ (n < 10 → mo n = false) ∧ ∀ k, 1 ≤ k → k < n → mo k = true

def moU (f : Nat → Bool) (n : Nat) : Bool := anyFrom f (7 * n) (64 - 7 * n)
def moS (f : Nat → Bool) (n : Nat) : Bool := anyFrom (fun j => f j != f 63) (7 * n - 1) (65 - 7 * n)

def RefPost (w : World) (mo : Nat → Bool) (L : Nat → List Int) (e : Ending) (w' : World) : Prop :=
  ∃ s n, e = .returned s ∧ RefRes mo n ∧ w'.ownsRow w.heap.size 5 1 s n ((L n).map (Value.int .u8)) ∧ Below w.heap.size w w'

theorem bits_cell (v j : Nat) (h : j < 64) : ((bitsL v 64).map Value.bool)[j]? = some (.bool (bitAt v j)) := by
  simp [bitsL, h]

set_option maxHeartbeats 1000000 in
set_option maxRecDepth 100000 in
theorem refUint_any (v : Nat) (hv : v < 2 ^ 64) (w : World) :
    Calls Try.prog 148 #[.int .u64 v] w (RefPost w (moU (bitAt v)) (fun n => grpL (bitOf (bitsL v 64) false) n n)) := by
  go_enter Try.func148, Try.ntmps148
  go_wp2_with fail
  refine (bits_any v hv _).mono ?_
  rintro e w1 ⟨s, rfl, hown, hb⟩
  obtain ⟨g, cap, rfl, hbg, hgw, hcap, hcell⟩ := ownsRow_some hown (by decide)
  have Hc : Hid (∀ j, j < 64 → w1.cell? ⟨g, j, none⟩ = some (.bool (bitAt v j))) := fun j hj => (hcell j hj).trans (bits_cell v j hj)
  clear hcell hown hv
  go_wp2_with fail
  go_loop [4] (fun i => ∃ n : Nat, i = .int .i64 n ∧ 1 ≤ n ∧ n ≤ 10 ∧ Hid (∀ k, 1 ≤ k → k < n → moU (bitAt v) k = true)) (fun i => 10 - (intOf i).toNat)
  case atStart => exact ⟨1, rfl, by omega, by omega, fun k h1 h2 => by omega⟩
  case round =>
    obtain ⟨n, rfl, h1, h2, Hk⟩ := hrel
    by_cases hn : n < 10
    · go_wp2
      go_loop [5, 6] (fun mo i => ∃ m : Nat, 7 * n + m ≤ 64 ∧ i = .int .i64 (7 * n + m : Nat) ∧ mo = .bool (anyFrom (bitAt v) (7 * n) m)) (fun _ i => 64 - (intOf i).toNat)
      case atStart => exact ⟨0, by omega, by simp, rfl⟩
      case round =>
        obtain ⟨m, hm, rfl, rfl⟩ := hrel
        by_cases hlt : 7 * n + m < 64
        · have hc := Hc.out (7 * n + m) hlt
          have e : anyFrom (bitAt v) (7 * n) (m + 1) = (anyFrom (bitAt v) (7 * n) m || bitAt v (7 * n + m)) := rfl
          have He := hid e; clear e
          generalize hA : anyFrom (bitAt v) (7 * n) m = A at *
          clear hA
          cases A
          all_goals
            go_wp2
            go_round
            case rel => exact ⟨m + 1, by omega, by go_num, by rw [He.out]; rfl⟩
            case measure => simp [intOf]; omega
        · have hmn : m = 64 - 7 * n := by omega
          have e : moU (bitAt v) n = anyFrom (bitAt v) (7 * n) m := by rw [hmn]; rfl
          have He := hid e; clear e hmn
          generalize anyFrom (bitAt v) (7 * n) m = A at *
          cases A
          · go_wp2_with fail
            refine (group_any g 0 cap (bitsL v 64) n false _ (by omega) (by simp [bitsL]) hgw (fun j hj => ?_)).mono ?_
            · have hj' : j < 64 := by simpa [bitsL] using hj
              rw [Nat.zero_add, Hc.out j hj']
              simp [bitsL, hj']
            · rintro e w2 ⟨s, rfl, hown, hb2⟩
              go_wp2
              go_ret
              exact ⟨s, n, rfl, ⟨h1, h2, fun _ => He.out, Hk.out⟩, ownsRow_mono hown hb.size, hb.trans (hb2.mono hb.size)⟩
          · go_wp2
            go_round
            case rel => exact ⟨n + 1, by go_num, by omega, by omega, fun k h1 h2 => if h : k = n then h ▸ He.out else Hk.out k h1 (by omega)⟩
            case measure => simp [intOf]; omega
    · obtain rfl : n = 10 := by omega
      go_wp2_with fail
      refine (group_any g 0 cap (bitsL v 64) 10 false _ (by omega) (by simp [bitsL]) hgw (fun j hj => ?_)).mono ?_
      · have hj' : j < 64 := by simpa [bitsL] using hj
        rw [Nat.zero_add, Hc.out j hj']
        simp [bitsL, hj']
      · rintro e w2 ⟨s, rfl, hown, hb2⟩
        go_wp2
        go_ret
        exact ⟨s, 10, rfl, ⟨h1, h2, fun h => by omega, Hk.out⟩, ownsRow_mono hown hb.size, hb.trans (hb2.mono hb.size)⟩
end Go.Proofs.Ytcmdajkkdognfaa
