/- What is proved here: where a function is at last, as a plain function. -/
import Derived.Test.YtahgkfekggkjnaaBnB
namespace Go.Proofs.Ytahgkfekggkjnaa
open Go.RowKit
set_option linter.unusedVariables false
set_option linter.unusedSimpArgs false

theorem any_eq {l : List MUn} {d : Sl MMd} (nm : ByteArray) (hl : l.map modU = d.list) : anyP l nm = (((ranyP d nm).1, (ranyP d nm).2.1, ()), (ranyP d nm).2.2.1, (ranyP d nm).2.2.2) := by
  obtain ⟨h1, h2⟩ := find_rel nm l 0
  rw [hl] at h1 h2
  cases hf : (findU nm l 0).2.2 with
  | false =>
    obtain ⟨e1, e2⟩ := h2 hf
    unfold anyP ranyP
    rw [e1, e2]; rfl
  | true =>
    obtain ⟨j, k, u, e1, e2, e3, e4⟩ := h1 hf
    obtain ⟨x, hx⟩ : ∃ x, (findU nm l 0).2.1 = x := ⟨_, rfl⟩
    rw [hx] at e1 e4
    have t1 : (((0 + j : Nat) : Int)).toNat = j := by omega
    have t2 : ((k : Nat) : Int).toNat = k := rfl
    have t3 : l.getD j zMUn = u := by rw [List.getD_eq_getElem?_getD, e3]; rfl
    have t4 : d.list.getD j zMMd = modU u := by rw [← hl, List.getD_eq_getElem?_getD, List.getElem?_map, e3]; rfl
    have t5 : (modU u).2.2.2.2.2.2.1.list.getD k zMExp = x := by rw [List.getD_eq_getElem?_getD, show (modU u).2.2.2.2.2.2.1.list[k]? = some x from e4]; rfl
    unfold anyP ranyP
    rw [e1, e2]
    simp only [t1, t2, t3, t4, t5]
    unfold typeofP
    rw [show decide (((0 + j : Nat) : Int) < 0) = false from by simp only [decide_eq_false_iff_not]; omega]
    generalize decide (x.2.1 ≠ 0) = bA
    show _ = _
    generalize hB : decide (x.2.2.1.toNat < (funcsP (modU u)).length) = bB
    generalize hC : decide ((((modU u).1.len : Nat) : Int) ≤ (funcsP (modU u)).getD x.2.2.1.toNat 0) = bC
    simp only [show u.2.1 = modU u from rfl, hB, hC]
    cases bA <;> cases bB <;> cases bC <;> rfl
theorem rany_rng {w : World} {d : Sl MMd} {BYT : Nat} (g : fSlW 17 BYT vMMd fMMd w d) (nm : ByteArray) : 0 ≤ (ranyP d nm).2.1 ∧ (ranyP d nm).2.1 < 4294967296 := by
  have key : (ranyP d nm).2.1 = 0 ∨ (¬ (findRM nm d.list 0).1 < 0 ∧ (ranyP d nm).2.1 = ((expsM (d.list.getD (findRM nm d.list 0).1.toNat zMMd)).list.getD (findRM nm d.list 0).2.toNat zMExp).2.2.1) := by
    unfold ranyP
    by_cases h : (findRM nm d.list 0).1 < 0
    · rw [decide_eq_true h]; exact .inl rfl
    · rw [decide_eq_false h]
      generalize decide (_ ≠ (0 : Int)) = bA
      generalize decide (_ < (funcsP _).length) = bB
      generalize decide (((_ : Nat) : Int) ≤ _) = bC
      cases bA <;> cases bB <;> cases bC <;> first | exact .inl rfl | exact .inr ⟨h, rfl⟩
  rcases key with h | ⟨h0, h⟩
  · rw [h]; decide
  · obtain ⟨j, k, m, x, e1, e2, e3⟩ := findRM_ok (l := d.list) (i := 0) h0
    rw [h, e1]
    have t1 : (((0 + j : Nat) : Int)).toNat = j := by omega
    have t4 : d.list.getD j zMMd = m := by rw [List.getD_eq_getElem?_getD, e2]; rfl
    have t5 : (expsM m).list.getD k zMExp = x := by rw [List.getD_eq_getElem?_getD, e3]; rfl
    show 0 ≤ ((expsM (d.list.getD (((0 + j : Nat) : Int)).toNat zMMd)).list.getD k zMExp).2.2.1 ∧ ((expsM (d.list.getD (((0 + j : Nat) : Int)).toNat zMMd)).list.getD k zMExp).2.2.1 < 4294967296
    rw [t1, t4, t5]
    have gm := fSl_el g.2 e2
    exact fInt_u32 (w := w) (fSl_el (s := expsM m) gm.2.2.2.2.2.2.1.2 e3).2.2.1

def takU (d : Sl MMd) (u : Int) : List MImp := takenR (d.list.getD u.toNat zMMd).2.1.list
def chaseR (d : Sl MMd) : Nat → Int → Int → Int × Int × Int
  | 0, _, _ => (0, 0, 41)
  | f + 1, u, i => if u < 0 ∨ ((d.len : Nat) : Int) ≤ u then (0, 0, 20) else if (((takU d u).length : Nat) : Int) ≤ i then (u, i, 0)
    else if (ranyP d ((takU d u).getD i.toNat zMImp).2.1).2.2.2 ≠ 0 then (0, 0, (ranyP d ((takU d u).getD i.toNat zMImp).2.1).2.2.2) else chaseR d f (ranyP d ((takU d u).getD i.toNat zMImp).2.1).1 (ranyP d ((takU d u).getD i.toNat zMImp).2.1).2.1
theorem chase_at (d : Sl MMd) : ∀ (f : Nat) (u i : Int), (chaseR d f u i).2.2 = 0 → 0 ≤ (chaseR d f u i).1 ∧ (chaseR d f u i).1 < ((d.len : Nat) : Int) ∧ (((takU d (chaseR d f u i).1).length : Nat) : Int) ≤ (chaseR d f u i).2.1
  | 0, _, _, h => absurd (show (41 : Int) = 0 from h) (by decide)
  | f + 1, u, i, h => by
    rw [chaseR] at h ⊢
    by_cases h1 : u < 0 ∨ ((d.len : Nat) : Int) ≤ u
    · rw [if_pos h1] at h; exact absurd h (by decide)
    · rw [if_neg h1] at h ⊢
      by_cases h2 : (((takU d u).length : Nat) : Int) ≤ i
      · rw [if_pos h2]
        exact ⟨by simp only; omega, by simp only; omega, h2⟩
      · rw [if_neg h2] at h ⊢
        by_cases h3 : (ranyP d ((takU d u).getD i.toNat zMImp).2.1).2.2.2 ≠ 0
        · rw [if_pos h3] at h; exact absurd h h3
        · rw [if_neg h3] at h ⊢
          exact chase_at d f _ _ h
theorem names_at {d : Sl MMd} {u : Int} {i : Nat} (h : i < (takU d u).length) : (namesT (d.list.getD u.toNat zMMd).2.1.list).getD i (⟨#[]⟩ : ByteArray) = ((takU d u).getD i zMImp).2.1 := by
  unfold takU at h ⊢
  unfold namesT
  generalize (d.list.getD u.toNat zMMd).2.1.list = L at *
  rw [List.getD_eq_getElem?_getD, List.getD_eq_getElem?_getD, List.getElem?_map, List.getElem?_eq_getElem h]; rfl
theorem units_M {d : Sl MMd} {w : World} {BYT : Nat} (g : fSlW 17 BYT vMMd fMMd w d) (hS : ∀ m ∈ d.list, smallP m) {l : List MUn} (h1 : l.map modU = d.list) : ∀ u ∈ l, fMMd w u.2.1 ∧ smallP u.2.1 := by
  intro u hu
  have : modU u ∈ d.list := by rw [← h1]; exact List.mem_map.2 ⟨u, hu, rfl⟩
  exact ⟨fSl_mem g.2 this, hS _ this⟩
end Go.Proofs.Ytahgkfekggkjnaa
