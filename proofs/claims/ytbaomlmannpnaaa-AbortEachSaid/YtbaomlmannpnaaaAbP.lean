/- What is proved here: what steps that may give up come to, in plain numbers. -/
import Derived.Test.YtbaomlmannpnaaaKit
namespace Go.Proofs.Ytbaomlmannpnaaa
open Go.RowKit
set_option linter.unusedVariables false
set_option linter.unusedSimpArgs false

/-- A step: its kind, its code, its place. -/
abbrev St := Int × Int × Int

/-- The number of the step that shuts the block, from step i on, d blocks open. -/
def endF (g : Nat → St) (n : Nat) (d i : Nat) : Nat :=
  if i < n then
    let d1 := if (g i).1 = 2 ∨ (g i).1 = 3 then d + 1 else d
    if (g i).1 = 4 then (if d1 = 0 then i else endF g n (d1 - 1) (i + 1)) else endF g n d1 (i + 1)
  else n
termination_by n - i

theorem endF_le (g : Nat → St) (n : Nat) : ∀ (m d i : Nat), n - i ≤ m → endF g n d i ≤ n := by
  intro m
  induction m with
  | zero => intro d i h; rw [endF, if_neg (by omega)]; exact Nat.le_refl _
  | succ m ih =>
    intro d i h
    rw [endF]
    generalize (if (g i).1 = 2 ∨ (g i).1 = 3 then d + 1 else d) = d1
    by_cases hi : i < n
    · rw [if_pos hi]
      have a1 := ih (d1 - 1) (i + 1) (by omega)
      have a2 := ih d1 (i + 1) (by omega)
      dsimp only
      split
      · split <;> omega
      · omega
    · rw [if_neg hi]; exact Nat.le_refl _

theorem le_endF (g : Nat → St) (n : Nat) : ∀ (m d i : Nat), n - i ≤ m → i ≤ n → i ≤ endF g n d i := by
  intro m
  induction m with
  | zero => intro d i h hn; rw [endF, if_neg (by omega)]; exact hn
  | succ m ih =>
    intro d i h hn
    rw [endF]
    generalize (if (g i).1 = 2 ∨ (g i).1 = 3 then d + 1 else d) = d1
    by_cases hi : i < n
    · rw [if_pos hi]
      have a1 := ih (d1 - 1) (i + 1) (by omega) (by omega)
      have a2 := ih d1 (i + 1) (by omega) (by omega)
      dsimp only
      split
      · split <;> omega
      · omega
    · rw [if_neg hi]; exact hn

theorem endF_bounds (g : Nat → St) (n i : Nat) (hi : i < n) : i + 1 ≤ endF g n 0 (i + 1) ∧ endF g n 0 (i + 1) ≤ n :=
  ⟨le_endF g n n 0 (i + 1) (by omega) (by omega), endF_le g n n 0 (i + 1) (by omega)⟩

/-- What the steps from i on come to: how much was counted, why it stopped, where. -/
def simF (g : Nat → St) (n i : Nat) (c : Int) : Int × Int × Int :=
  if h : i < n then
    if (g i).1 = 0 then simF g n (i + 1) (wrap64 (c + 1))
    else if (g i).1 = 1 then (c, (g i).2.1, (g i).2.2)
    else if (g i).1 = 2 ∨ (g i).1 = 3 then
      have hb := endF_bounds g n i h
      let s := simF (fun j => g (i + 1 + j)) (endF g n 0 (i + 1) - (i + 1)) 0 0
      if s.2.1 ≠ 0 ∧ (g i).1 = 3 then (wrap64 (c + s.1), s.2.1, wrap64 (s.2.2 + (g i).2.2))
      else simF g n (endF g n 0 (i + 1) + 1) (if s.2.1 ≠ 0 then wrap64 (wrap64 (c + s.1) + 1000) else wrap64 (c + s.1))
    else simF g n (i + 1) c
  else (c, 0, 0)
termination_by n - i
decreasing_by all_goals omega

theorem simF_zero (g : Nat → St) (n : Nat) : ∀ (m i : Nat) (c : Int), n - i ≤ m → (simF g n i c).2.1 = 0 → (∀ j, j < n → (g j).2.1 ≠ 0) → (simF g n i c).2.2 = 0 := by
  intro m
  induction m with
  | zero => intro i c h h0 hc; rw [simF, dif_neg (by omega)]
  | succ m ih =>
    intro i c h h0 hc
    rw [simF] at h0 ⊢
    by_cases hi : i < n
    · rw [dif_pos hi] at h0 ⊢
      have hb := endF_bounds g n i hi
      by_cases k0 : (g i).1 = 0
      · rw [if_pos k0] at h0 ⊢; exact ih _ _ (by omega) h0 hc
      · rw [if_neg k0] at h0 ⊢
        by_cases k1 : (g i).1 = 1
        · rw [if_pos k1] at h0; exact absurd h0 (hc i hi)
        · rw [if_neg k1] at h0 ⊢
          by_cases k2 : (g i).1 = 2 ∨ (g i).1 = 3
          · rw [if_pos k2] at h0 ⊢
            simp only at h0 ⊢
            split at h0
            · rename_i hs; exact absurd h0 hs.1
            · rename_i hs; rw [if_neg hs]; exact ih _ _ (by omega) h0 hc
          · rw [if_neg k2] at h0 ⊢; exact ih _ _ (by omega) h0 hc
    · rw [dif_neg hi]

theorem wrap64_wrap (a b : Int) : wrap64 (wrap64 a + b) = wrap64 (a + b) := by unfold wrap64; omega
theorem wrap64_wrap' (a b : Int) : wrap64 (a + wrap64 b) = wrap64 (a + b) := by unfold wrap64; omega

theorem simF_shift (g : Nat → St) (n : Nat) : ∀ (m i : Nat) (c : Int), n - i ≤ m → wrap64 c = c → (simF g n i c).1 = wrap64 (c + (simF g n i 0).1) ∧ (simF g n i c).2 = (simF g n i 0).2 := by
  intro m
  induction m with
  | zero => intro i c h hc; rw [simF.eq_def g n i c, simF.eq_def g n i 0, dif_neg (by omega), dif_neg (by omega)]; simp [hc]
  | succ m ih =>
    intro i c h hc
    rw [simF, simF.eq_def g n i 0]
    by_cases hi : i < n
    · rw [dif_pos hi, dif_pos hi]
      have hb := endF_bounds g n i hi
      have key : ∀ (j : Nat) (x : Int), i < j → (simF g n j (wrap64 (c + x))).1 = wrap64 (c + (simF g n j (wrap64 x)).1) ∧ (simF g n j (wrap64 (c + x))).2 = (simF g n j (wrap64 x)).2 := by
        intro j x hj
        obtain ⟨a1, a2⟩ := ih j (wrap64 (c + x)) (by omega) (by unfold wrap64; omega)
        obtain ⟨b1, b2⟩ := ih j (wrap64 x) (by omega) (by unfold wrap64; omega)
        refine ⟨?_, a2.trans b2.symm⟩
        rw [a1, b1]; unfold wrap64; omega
      by_cases k0 : (g i).1 = 0
      · rw [if_pos k0, if_pos k0]
        have := key (i + 1) 1 (by omega)
        simpa using this
      · rw [if_neg k0, if_neg k0]
        by_cases k1 : (g i).1 = 1
        · rw [if_pos k1, if_pos k1]; simp [hc]
        · rw [if_neg k1, if_neg k1]
          by_cases k2 : (g i).1 = 2 ∨ (g i).1 = 3
          · rw [if_pos k2, if_pos k2]
            dsimp only
            generalize simF (fun j => g (i + 1 + j)) (endF g n 0 (i + 1) - (i + 1)) 0 0 = s
            by_cases hs : s.2.1 ≠ 0 ∧ (g i).1 = 3
            · rw [if_pos hs, if_pos hs]
              refine ⟨?_, rfl⟩
              dsimp only
              unfold wrap64; omega
            · rw [if_neg hs, if_neg hs]
              by_cases hs1 : s.2.1 ≠ 0
              · rw [if_pos hs1, if_pos hs1]
                have := key (endF g n 0 (i + 1) + 1) (s.1 + 1000) (by omega)
                rw [wrap64_wrap, wrap64_wrap, Int.add_assoc, Int.zero_add]
                exact this
              · rw [if_neg hs1, if_neg hs1]
                have := key (endF g n 0 (i + 1) + 1) s.1 (by omega)
                rw [Int.zero_add]
                exact this
          · rw [if_neg k2, if_neg k2]
            exact ih _ _ (by omega) hc
    · rw [dif_neg hi, dif_neg hi]; simp [hc]
end Go.Proofs.Ytbaomlmannpnaaa
