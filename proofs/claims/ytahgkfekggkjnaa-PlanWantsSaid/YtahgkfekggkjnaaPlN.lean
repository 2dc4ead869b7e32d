/- What is proved here: a plan without the last import is the plan cut, as a plain law. -/
import Derived.Test.YtahgkfekggkjnaaPlC
namespace Go.Proofs.Ytahgkfekggkjnaa
open Go.RowKit
set_option linter.unusedVariables false
set_option linter.unusedSimpArgs false

theorem Sl.cut_list {α : Type} (d : Sl α) {n : Nat} (h : n ≤ d.len) : (⟨d.at', n, d.cap, d.el⟩ : Sl α).list = d.list.take n := by
  apply List.ext_getElem?
  intro j
  rw [List.getElem?_take]
  by_cases hj : j < n
  · rw [if_pos hj, Sl.list_get _ (by exact hj), Sl.list_get _ (by omega)]
  · rw [if_neg hj]
    exact List.getElem?_eq_none (by rw [Sl.list_length]; show n ≤ j; omega)
def cutM (m : MMd) : MMd := (m.1, (⟨m.2.1.at', m.2.1.len - 1, m.2.1.cap, m.2.1.el⟩ : Sl MImp), m.2.2)
theorem wantP_cut (m : MMd) (y : MImp) (i : Nat) : wantP (cutM m) y i = wantP m y i := rfl
theorem planR_cut (m : MMd) : ∀ (l : List MImp) (i : Nat), planR (cutM m) l i = planR m l i
  | [], _ => rfl
  | y :: l, i => by rw [planR, planR, wantP_cut, planR_cut m l (i + 1)]
theorem wantsR_cut (m : MMd) : ∀ (l : List MImp) (i : Nat), wantsR (cutM m) l i = wantsR m l i
  | [], _ => rfl
  | y :: l, i => by rw [wantsR, wantsR, wantP_cut, wantsR_cut m l (i + 1)]
theorem planR_take (m : MMd) : ∀ (l : List MImp) (i n : Nat), planR m l i = none → planR m (l.take n) i = none
  | [], _, n, _ => by simp [planR]
  | y :: l, i, 0, _ => by simp [planR]
  | y :: l, i, n + 1, h => by
    rw [planR] at h
    split at h
    · cases h
    · rename_i hc
      rw [List.take_succ_cons, planR, if_neg hc]
      exact planR_take m l (i + 1) n h
theorem wantsR_take (m : MMd) : ∀ (l : List MImp) (i n : Nat), wantsR m (l.take n) i = (wantsR m l i).take n
  | [], _, n => by simp [wantsR]
  | y :: l, i, 0 => by simp [wantsR]
  | y :: l, i, n + 1 => by rw [List.take_succ_cons, wantsR, wantsR, List.take_succ_cons, wantsR_take m l (i + 1) n]
theorem wantsR_len (m : MMd) : ∀ (l : List MImp) (i : Nat), (wantsR m l i).length = l.length
  | [], _ => rfl
  | y :: l, i => by rw [wantsR, List.length_cons, List.length_cons, wantsR_len m l (i + 1)]
theorem planR_ne (m : MMd) : ∀ (l : List MImp) (i : Nat) (p : Nat × Int), planR m l i = some p → p.2 ≠ 0
  | [], _, p, h => by cases h
  | y :: l, i, p, h => by
    rw [planR] at h
    split at h
    · rename_i hc
      cases h
      exact hc
    · exact planR_ne m l (i + 1) p h
theorem cond_eqs {α : Type} {b : Bool} {x y z : α} (h : cond b x y = z) (hx : x ≠ z) : b = false ∧ y = z := by
  cases b
  · exact ⟨rfl, h⟩
  · exact absurd h hx
theorem ofP_ok {m : MMd} (h : (ofP m).2.2.2.2.2.2.2 = 0) : planR m m.2.1.list 0 = none ∧ (ofP m).1 = wantsR m m.2.1.list 0 ∧ (ofP (cutM m)).2.2.2.2.2.2.2 = 0 ∧ (ofP (cutM m)).1 = wantsR m (m.2.1.list.take (m.2.1.len - 1)) 0 := by
  have hc : (cutM m).2.1.list = m.2.1.list.take (m.2.1.len - 1) := Sl.cut_list m.2.1 (Nat.sub_le _ _)
  unfold ofP at h ⊢
  rw [hc, planR_cut, wantsR_cut]
  have e : ∀ (b1 b2 : Bool) (X : List MWt × Int × Int × Int × Int × Int × Int × Int), (bif b1 then (([], 0, 0, 0, 0, 0, -1, 15) : List MWt × Int × Int × Int × Int × Int × Int × Int) else bif b2 then ([], 0, 0, 0, 0, 0, -1, 44) else X).2.2.2.2.2.2.2 = 0 → b1 = false ∧ b2 = false ∧ X.2.2.2.2.2.2.2 = 0 := by
    intro b1 b2 X hX
    cases b1 <;> cases b2
    · exact ⟨rfl, rfl, hX⟩
    all_goals (exfalso; revert hX; simp)
  obtain ⟨h1, h2, h3⟩ := e _ _ _ h
  cases hp : planR m m.2.1.list 0 with
  | some p =>
    rw [hp] at h3
    exact absurd h3 (planR_ne m _ _ _ hp)
  | none =>
    rw [planR_take m _ _ _ hp]
    refine ⟨rfl, ?_, ?_, ?_⟩
    · rw [h1, h2]; rfl
    · show (bif _ then _ else bif _ then _ else _ : List MWt × Int × Int × Int × Int × Int × Int × Int).2.2.2.2.2.2.2 = 0
      unfold cutM
      rw [h1, h2]; rfl
    · unfold cutM
      rw [h1, h2]; rfl
theorem ofP_less {m : MMd} (h : (ofP m).2.2.2.2.2.2.2 = 0) : (ofP (cutM m)).2.2.2.2.2.2.2 = 0 ∧ (ofP (cutM m)).1 = (ofP m).1.take (m.2.1.len - 1) ∧ (ofP m).1.length = m.2.1.len := by
  obtain ⟨h1, h2, h3, h4⟩ := ofP_ok h
  refine ⟨h3, ?_, ?_⟩
  · rw [h4, h2, wantsR_take]
  · rw [h2, wantsR_len, Sl.list_length]
end Go.Proofs.Ytahgkfekggkjnaa
