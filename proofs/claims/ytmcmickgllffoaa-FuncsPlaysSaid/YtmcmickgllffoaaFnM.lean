/- What is proved here: functions by numbers, plain: types are kept. -/
import Derived.Test.YtmcmickgllffoaaFnE
namespace Go.Proofs.Ytmcmickgllffoaa
open Go.RowKit
set_option linter.unusedVariables false
set_option linter.unusedSimpArgs false
theorem FSt.len {B : Nat} {w : World} {p : Nat} {L : List (Option MFn)} {Sl_ : List Int} (h : FSt B w p L Sl_) : L.length = Sl_.length := by
  obtain ⟨a, b, c, d, ps, _, _, _, _, _, h6, h7⟩ := h
  exact h7.1.symm.trans h6
/-- The target of every function that lives has its type. -/
def TI (L : List (Option MFn)) (Sl_ : List Int) : Prop := ∀ (i : Nat) (x : MFn), L[i]? = some (some x) → ∃ j : Nat, Sl_[i]? = some ((j : Nat) : Int) ∧ j < L.length ∧ ∀ y : MFn, L[j]? = some (some y) → x.1 = y.1 ∧ x.2.1 = y.2.1
theorem TI.nil : TI [] [] := fun i x h => by cases h
theorem lt_of_some {α : Type} {l : List α} {i : Nat} {x : α} (h : l[i]? = some x) : i < l.length := (List.getElem?_eq_some_iff.1 h).1
theorem TI.add {L : List (Option MFn)} {Sl_ : List Int} (h : TI L Sl_) (hl : L.length = Sl_.length) (x : MFn) : TI (L ++ [some x]) (Sl_ ++ [((L.length : Nat) : Int)]) := by
  intro i y hy
  have hi := lt_of_some hy
  rw [List.length_append, List.length_singleton] at hi
  by_cases hiL : i < L.length
  · rw [List.getElem?_append_left hiL] at hy
    obtain ⟨j, h1, h2, h3⟩ := h i y hy
    refine ⟨j, by rw [List.getElem?_append_left (by omega)]; exact h1, by rw [List.length_append]; omega, fun z hz => ?_⟩
    rw [List.getElem?_append_left h2] at hz
    exact h3 z hz
  · have e : i = L.length := by omega
    subst e
    refine ⟨L.length, by rw [hl, List.getElem?_append_right (Nat.le_refl _), Nat.sub_self]; rfl, by rw [List.length_append]; simp, fun z hz => ?_⟩
    rw [hy] at hz
    injection hz with hz
    injection hz with hz
    subst hz
    exact ⟨rfl, rfl⟩
theorem liveL_in {L : List (Option MFn)} {i : Int} (h : liveL L i = true) : 0 ≤ i ∧ i < ((L.length : Nat) : Int) ∧ ∃ x, L[i.toNat]? = some (some x) ∧ gotL L i = x := by
  have h0 := h
  unfold liveL at h
  rw [Bool.and_eq_true, decide_eq_true_eq] at h
  obtain ⟨⟨h1, h2⟩, h3⟩ := h
  have hl : i.toNat < L.length := by omega
  refine ⟨h1, h2, ?_⟩
  rw [List.getD_eq_getElem?_getD, List.getElem?_eq_getElem hl] at h3
  simp only [Option.getD_some] at h3
  cases hq : L[i.toNat] with
  | none => rw [hq] at h3; simp at h3
  | some x =>
    refine ⟨x, by rw [List.getElem?_eq_getElem hl, hq], ?_⟩
    unfold gotL
    rw [if_pos h0, List.getD_eq_getElem?_getD, List.getElem?_eq_getElem hl, hq]
    rfl
theorem TI.swap {L : List (Option MFn)} {Sl_ : List Int} (h : TI L Sl_) (hl : L.length = Sl_.length) (i j : Int) : TI L (swR L Sl_ i j).2.2 := by
  unfold swR
  split
  · rename_i hlv
    split
    · rename_i hty
      obtain ⟨hi0, hi1, x, hx, gx⟩ := liveL_in hlv.1
      obtain ⟨hj0, hj1, y, hy, gy⟩ := liveL_in hlv.2
      rw [gx, gy] at hty
      intro k z hz
      show ∃ q : Nat, (Sl_.set i.toNat j)[k]? = _ ∧ _
      by_cases e : i.toNat = k
      · subst e
        rw [hx] at hz
        injection hz with hz
        injection hz with hz
        subst hz
        refine ⟨j.toNat, by rw [List.getElem?_set, if_pos rfl, if_pos (by omega), Int.toNat_of_nonneg hj0], by omega, fun u hu => ?_⟩
        rw [hy] at hu
        injection hu with hu
        injection hu with hu
        subst hu
        exact hty
      · obtain ⟨q, h1, h2, h3⟩ := h k z hz
        exact ⟨q, by rw [List.getElem?_set, if_neg e]; exact h1, h2, h3⟩
    · exact h
  · exact h
theorem TI.free {L : List (Option MFn)} {Sl_ : List Int} (h : TI L Sl_) (i : Int) : TI (frL L i) (frS L Sl_ i) := by
  unfold frL frS
  by_cases hlv : liveL L i = true
  · rw [if_pos hlv, if_pos hlv]
    intro k z hz
    rw [List.getElem?_set] at hz
    by_cases e : i.toNat = k
    · rw [if_pos e] at hz
      split at hz
      · injection hz with hz; cases hz
      · cases hz
    · rw [if_neg e] at hz
      obtain ⟨q, h1, h2, h3⟩ := h k z hz
      refine ⟨q, by rw [List.getElem?_set, if_neg e]; exact h1, by rw [List.length_set]; exact h2, fun u hu => ?_⟩
      rw [List.getElem?_set] at hu
      by_cases e2 : i.toNat = q
      · rw [if_pos e2] at hu
        split at hu
        · injection hu with hu; cases hu
        · cases hu
      · rw [if_neg e2] at hu
        exact h3 u hu
  · rw [if_neg hlv, if_neg hlv]
    exact h
theorem frL_len (L : List (Option MFn)) (i : Int) : (frL L i).length = L.length := by unfold frL; split <;> simp
theorem call_one {L : List (Option MFn)} {Sl_ : List Int} {i : Int} (h : liveL L i = false) : (callL L Sl_ i).2 = 47 := by
  have : stL L Sl_ i = (0, 47) := by unfold stL; rw [if_neg (by rw [h]; decide)]
  unfold callL
  rw [this]
  rfl
theorem call_ty {L : List (Option MFn)} {Sl_ : List Int} {i : Int} (h : TI L Sl_) (hz : (callL L Sl_ i).2 = 0) : (gotL L i).1 = (callL L Sl_ i).1.1 ∧ (gotL L i).2.1 = (callL L Sl_ i).1.2.1 := by
  cases hlv : liveL L i with
  | false => rw [call_one hlv] at hz; cases hz
  | true =>
    obtain ⟨h0, h1, x, hx, gx⟩ := liveL_in hlv
    obtain ⟨j, e1, e2, e3⟩ := h _ _ hx
    have es : stL L Sl_ i = (((j : Nat) : Int), 0) := by
      unfold stL
      rw [if_pos hlv, List.getD_eq_getElem?_getD, e1]
      rfl
    unfold callL at hz ⊢
    rw [es] at hz ⊢
    rw [if_pos rfl] at hz ⊢
    by_cases hj : liveL L ((j : Nat) : Int) = true
    · rw [if_pos hj]
      obtain ⟨_, _, y, hy, gy⟩ := liveL_in hj
      rw [Int.toNat_natCast] at hy
      rw [gx, show ((((j : Nat) : Int), (0 : Int)).1) = ((j : Nat) : Int) from rfl, gy]
      exact e3 y hy
    · rw [if_neg hj] at hz
      cases hz
end Go.Proofs.Ytmcmickgllffoaa
