/- What is proved here: what the functions End and Run of the package creelref01 come to. -/
import Derived.Test.YtbaomlmannpnaaaKit
import Derived.Test.YtbaomlmannpnaaaAbP
import Derived.Deep.DeepCutAuto
namespace Go.Proofs.Ytbaomlmannpnaaa
open Go.RowKit
set_option linter.unusedVariables false
set_option linter.unusedSimpArgs false

/-- The first n steps of a slice read as g says. -/
def StR (w : World) (a : Option Addr) (n : Nat) (g : Nat → St) : Prop := ∀ j, j < n → ∃ b off, a = some ⟨b, off, none⟩ ∧ w.cell? ⟨b, off + j * 3, none⟩ = some (.int .i64 (g j).1) ∧ w.cell? ⟨b, off + j * 3 + 1, none⟩ = some (.int .i64 (g j).2.1) ∧ w.cell? ⟨b, off + j * 3 + 2, none⟩ = some (.int .i64 (g j).2.2) ∧ b < w.heap.size

theorem StR.ext {w w' : World} {a : Option Addr} {n : Nat} {g : Nat → St} (h : StR w a n g) (hb : Below w.heap.size w w') : StR w' a n g := by
  intro j hj
  obtain ⟨b, off, ha, h0, h1, h2, hl⟩ := h j hj
  exact ⟨b, off, ha, (hb.cell (p := ⟨b, off + j * 3, none⟩) hl).trans h0, (hb.cell (p := ⟨b, off + j * 3 + 1, none⟩) hl).trans h1, (hb.cell (p := ⟨b, off + j * 3 + 2, none⟩) hl).trans h2, Nat.lt_of_lt_of_le hl hb.size⟩

theorem endF_past (g : Nat → St) (n d i : Nat) (h : ¬ i < n) : endF g n d i = n := by rw [endF, if_neg h]
theorem endF_open (g : Nat → St) (n d i : Nat) (h : i < n) (k : (g i).1 = 2 ∨ (g i).1 = 3) : endF g n d i = endF g n (d + 1) (i + 1) := by
  rw [endF, if_pos h, if_pos k]
  have : (g i).1 ≠ 4 := by rcases k with k | k <;> omega
  simp [this]
theorem endF_shut0 (g : Nat → St) (n i : Nat) (h : i < n) (k : (g i).1 = 4) : endF g n 0 i = i := by
  rw [endF, if_pos h]; simp [k]
theorem endF_shut (g : Nat → St) (n d i : Nat) (h : i < n) (k : (g i).1 = 4) : endF g n (d + 1) i = endF g n d (i + 1) := by
  rw [endF, if_pos h]; simp [k]
theorem endF_pass (g : Nat → St) (n d i : Nat) (h : i < n) (k2 : (g i).1 ≠ 2) (k3 : (g i).1 ≠ 3) (k4 : (g i).1 ≠ 4) : endF g n d i = endF g n d (i + 1) := by
  rw [endF, if_pos h]; simp [k2, k3, k4]

set_option maxHeartbeats 400000 in
set_option maxRecDepth 100000 in
theorem end_any (a : Option Addr) (n cap fr : Nat) (g : Nat → St) (w : World) (hf : fr ≤ n) (hn : n ≤ 1000000) (hr : StR w a n g) :
    Calls Try.prog 41 #[.slice a n cap, .int .i64 fr] w fun e w' => e = .returned (.int .i64 (endF g n 0 fr)) ∧ w = w' := by
  obtain ⟨R, hR⟩ : ∃ R, endF g n 0 fr = R := ⟨_, rfl⟩
  rw [hR]
  have HR := hid hR; clear hR
  have Hr := hid hr; clear hr
  go_enter Try.func41, Try.ntmps41
  go_wp2
  go_loop [5, 6] (fun dv iv => ∃ d i : Nat, dv = .int .i64 d ∧ iv = .int .i64 i ∧ d ≤ i ∧ i ≤ n ∧ Hid (endF g n d i = R)) (fun _ iv => (2000000 - intOf iv).toNat)
  case atStart => exact ⟨0, fr, rfl, rfl, by omega, hf, HR⟩
  case round =>
    obtain ⟨d, i, rfl, rfl, hd, hi, He⟩ := hrel
    by_cases hin : i < n
    · obtain ⟨b, off, rfl, c0, c1, c2, hb⟩ := Hr.out i hin
      by_cases k2 : (g i).1 = 2 ∨ (g i).1 = 3
      · have e := hid ((endF_open g n d i hin k2).symm.trans He.out)
        rcases k2 with k | k
        · rw [k] at c0
          clear k
          go_wp2
          go_round
          case rel => exact ⟨d + 1, i + 1, by go_num, by go_num, by omega, by omega, e⟩
          case measure => simp [intOf]; omega
        · rw [k] at c0
          clear k
          go_wp2
          go_round
          case rel => exact ⟨d + 1, i + 1, by go_num, by go_num, by omega, by omega, e⟩
          case measure => simp [intOf]; omega
      · by_cases k4 : (g i).1 = 4
        · rw [k4] at c0
          cases d with
          | zero =>
            have e := hid ((endF_shut0 g n i hin k4).symm.trans He.out)
            clear k4 k2
            go_wp2
            go_ret
            exact ⟨by rw [e.out]; rfl, rfl⟩
          | succ d =>
            have e := hid ((endF_shut g n d i hin k4).symm.trans He.out)
            clear k4 k2
            go_wp2
            go_round
            case rel => exact ⟨d, i + 1, by go_num, by go_num, by omega, by omega, e⟩
            case measure => simp [intOf]; omega
        · have e := hid ((endF_pass g n d i hin (fun h => k2 (Or.inl h)) (fun h => k2 (Or.inr h)) k4).symm.trans He.out)
          have t2 : ((g i).1 == 2) = false := by simp; exact fun h => k2 (Or.inl h)
          have t3 : ((g i).1 == 3) = false := by simp; exact fun h => k2 (Or.inr h)
          have t4 : ((g i).1 == 4) = false := by simp; exact k4
          clear k4 k2
          go_wp2
          go_round
          case rel => exact ⟨d, i + 1, by go_num, by go_num, by omega, by omega, e⟩
          case measure => simp [intOf]; omega
    · have e := hid ((endF_past g n d i hin).symm.trans He.out)
      have t : decide ((i : Int) < n) = false := by simp; omega
      go_wp2
      go_ret
      exact ⟨by rw [← e.out]; rfl, rfl⟩
end Go.Proofs.Ytbaomlmannpnaaa
