/- What is proved here: the sort by insertion sorts; blocks of sorted elements: plain. -/
import Derived.Test.YtbllifhcfgjdlaaGgW
namespace Go.Proofs.Ytbllifhcfgjdlaa
open Go.RowKit FltT
set_option linter.unusedVariables false
set_option linter.unusedSimpArgs false
theorem insL_srt (p i : Nat) : ∀ (j : Nat) (l : List Nat), p ≤ j → j ≤ i → i < l.length → Srt l p j → Srt l (j + 1) (i + 1) → (∀ x y, p ≤ x → x < j → j < y → y ≤ i → KK l x ≤ KK l y) → (∀ y, j < y → y ≤ i → KK l j ≤ KK l y) → MG p (i + 1) l (insL p j l) ∧ Srt (insL p j l) p (i + 1)
  | 0, l, h1, h2, h3, s1, s2, c1, c2 => by
    refine ⟨MG.refl _ _ _, fun x y a1 a2 a3 => ?_⟩
    show KK l x ≤ KK l y
    by_cases hx : x = 0
    · subst hx
      by_cases hy : y = 0
      · subst hy; exact Int.le_refl _
      · exact c2 y (by omega) (by omega)
    · exact s2 x y (by omega) a2 a3
  | j + 1, l, h1, h2, h3, s1, s2, c1, c2 => by
    unfold insL
    by_cases hc : p < j + 1 ∧ ordN (l.getD (j + 1) 0) (l.getD j 0) < 0
    · rw [if_pos hc]
      have hk : KK l (j + 1) < KK l j := by have := hc.2; rw [ord_kk] at this; exact this
      have hv : Via (swpT (j + 1) j) l (swL l j) := via_swap (by omega) (by omega) (by omega)
      have k1 : KK (swL l j) j = KK l (j + 1) := by rw [hv.kk]; unfold swpT; rw [if_pos rfl]
      have k2 : KK (swL l j) (j + 1) = KK l j := by rw [hv.kk]; unfold swpT; rw [if_neg (by omega), if_pos rfl]
      have k3 : ∀ x, x ≠ j → x ≠ j + 1 → KK (swL l j) x = KK l x := fun x a b => by rw [hv.kk]; unfold swpT; rw [if_neg a, if_neg b]
      have hr := insL_srt p i j (swL l j) (by omega) (by omega) (by rw [swL_len]; exact h3) (fun x y a1 a2 a3 => by rw [k3 x (by omega) (by omega), k3 y (by omega) (by omega)]; exact s1 x y a1 a2 (by omega))
        (fun x y a1 a2 a3 => by
          by_cases hx : x = j + 1
          · by_cases hy : y = j + 1
            · rw [hx, hy]; exact Int.le_refl _
            · rw [hx, k2, k3 y (by omega) hy]; exact c1 j y (by omega) (by omega) (by omega) (by omega)
          · rw [k3 x (by omega) hx, k3 y (by omega) (by omega)]; exact s2 x y (by omega) a2 a3)
        (fun x y a1 a2 a3 a4 => by
          rw [k3 x (by omega) (by omega)]
          by_cases hy : y = j + 1
          · rw [hy, k2]; exact s1 x j a1 (by omega) (by omega)
          · rw [k3 y (by omega) hy]; exact c1 x y a1 (by omega) (by omega) a4)
        (fun y a1 a2 => by
          rw [k1]
          by_cases hy : y = j + 1
          · rw [hy, k2]; omega
          · rw [k3 y (by omega) hy]; exact c2 y (by omega) a2)
      refine ⟨MG.trans ?_ hr.1, hr.2⟩
      exact MG.of_via hv (fun x hx => by unfold swpT; rw [if_neg (by omega), if_neg (by omega)]) (fun x a b => by unfold swpT; (repeat' split) <;> omega)
    · rw [if_neg hc]
      refine ⟨MG.refl _ _ _, fun x y a1 a2 a3 => ?_⟩
      have hj : p < j + 1 → KK l j ≤ KK l (j + 1) := fun hp => by
        have : ¬ KK l (j + 1) < KK l j := fun hh => hc ⟨hp, by rw [ord_kk]; exact hh⟩
        omega
      by_cases b1 : x < j + 1
      · by_cases b2 : y < j + 1
        · exact s1 x y a1 a2 b2
        · by_cases b3 : y = j + 1
          · rw [b3]
            have e1 := s1 x j a1 (by omega) (by omega)
            have e2 := hj (by omega)
            omega
          · exact c1 x y a1 b1 (by omega) (by omega)
      · by_cases b3 : x = j + 1
        · by_cases b4 : y = j + 1
          · rw [b3, b4]; exact Int.le_refl _
          · rw [b3]; exact c2 y (by omega) (by omega)
        · exact s2 x y (by omega) a2 a3
theorem insR_srt (p : Nat) : ∀ (n i : Nat) (l : List Nat), p < i → i + n ≤ l.length → Srt l p i → MG p (i + n) l (insR p n i l) ∧ Srt (insR p n i l) p (i + n)
  | 0, i, l, h1, h2, h3 => ⟨MG.refl _ _ _, h3⟩
  | n + 1, i, l, h1, h2, h3 => by
    have e := insL_srt p i i l (by omega) (Nat.le_refl _) (by omega) h3 (fun x y a1 a2 a3 => by omega) (fun x y a1 a2 a3 a4 => by omega) (fun y a1 a2 => by omega)
    have r := insR_srt p n (i + 1) (insL p i l) (by omega) (by rw [insL_len]; omega) e.2
    rw [show i + 1 + n = i + (n + 1) by omega] at r
    exact ⟨(e.1.mono (Nat.le_refl _) (by omega)).trans r.1, r.2⟩
theorem isort_srt {p q : Nat} {l : List Nat} (hq : q ≤ l.length) : MG p q l (isort p q l) ∧ Srt (isort p q l) p q := by
  unfold isort
  by_cases h : p + 1 ≤ q
  · have r := insR_srt p (q - (p + 1)) (p + 1) l (by omega) (by omega) (fun x y a1 a2 a3 => by rw [show y = x by omega]; exact Int.le_refl _)
    rw [show p + 1 + (q - (p + 1)) = q by omega] at r
    exact r
  · rw [show q - (p + 1) = 0 by omega]
    exact ⟨MG.refl _ _ _, fun x y a1 a2 a3 => by omega⟩
/-- Elements of one block of B are in order. -/
def SB (B p q : Nat) (l : List Nat) : Prop := ∀ i j, p ≤ i → i ≤ j → j < q → i / B = j / B → KK l i ≤ KK l j
theorem sb_ins {a b : Nat} {l l' : List Nat} (ha : a % 20 = 0) (hb : b ≤ a + 20) (hab : a ≤ b) (h : SB 20 0 a l) (hM : MG a b l l') (hS : Srt l' a b) : SB 20 0 b l' := by
  intro i j h1 h2 h3 h4
  by_cases c1 : j < a
  · rw [hM.kk (by omega), hM.kk (by omega)]; exact h i j h1 h2 c1 h4
  · exact hS i j (by omega) h2 h3
theorem sb_srt {B a b n : Nat} {l : List Nat} (hB : B = 20 ∨ B = 40 ∨ B = 80 ∨ B = 160) (ha : a % B = 0) (hb : b ≤ a + B) (hbn : b ≤ n) {p : Nat} (hp : p ≤ a) (h : SB B p n l) : Srt l a b := by
  intro i j h1 h2 h3
  refine h i j (by omega) h2 (by omega) ?_
  rcases hB with rfl | rfl | rfl | rfl <;> omega
theorem sb_step {B a b : Nat} {l l' : List Nat} (hB : B = 20 ∨ B = 40 ∨ B = 80 ∨ B = 160) (ha : a % (2 * B) = 0) (hb : b ≤ a + 2 * B) (hab : a ≤ b) (h1 : SB (2 * B) 0 a l) (hM : MG a b l l') (hS : Srt l' a b) : SB (2 * B) 0 b l' := by
  intro i j g1 g2 g3 g4
  by_cases c1 : j < a
  · rw [hM.kk (by omega), hM.kk (by omega)]; exact h1 i j g1 g2 c1 g4
  · refine hS i j ?_ g2 g3
    rcases hB with rfl | rfl | rfl | rfl <;> omega
theorem sb_rest {B a b n : Nat} {l l' : List Nat} (h2 : SB B a n l) (hM : MG a b l l') (hab : a ≤ b) : SB B b n l' := by
  intro i j g1 g2 g3 g4
  rw [hM.kk (by omega), hM.kk (by omega)]; exact h2 i j (by omega) g2 g3 g4
theorem sb_all {B n : Nat} {l : List Nat} (hB : B = 20 ∨ B = 40 ∨ B = 80 ∨ B = 160) (hn : n ≤ B) (h : SB B 0 n l) : Srt l 0 n := sb_srt hB (by rcases hB with rfl | rfl | rfl | rfl <;> rfl) (by omega) (Nat.le_refl _) (Nat.le_refl _) h
theorem mod_two {B a : Nat} (hB : B = 20 ∨ B = 40 ∨ B = 80 ∨ B = 160) (ha : a % (2 * B) = 0) : a % B = 0 ∧ (a + B) % B = 0 ∧ (a + 2 * B) % (2 * B) = 0 := by
  rcases hB with rfl | rfl | rfl | rfl <;> omega
end Go.Proofs.Ytbllifhcfgjdlaa
