/- What is proved here: what is wanted is what the document says is wanted, as a plain law. -/
import Derived.Test.YtahgkfekggkjnaaPwA
import Derived.Test.YtahgkfekggkjnaaPlN
namespace Go.Proofs.Ytahgkfekggkjnaa
open Go.RowKit
set_option linter.unusedVariables false
set_option linter.unusedSimpArgs false

def typW (m : MMd) (y : MImp) : MFt := if (kindP m y).1 = 1 then m.1.list.getD (y.2.2.2.1).toNat zMFt else (⟨#[]⟩, ⟨#[]⟩, ())
theorem kind_rel (m : MMd) (y : MImp) (i : Nat) (hy : 0 ≤ y.2.2.2.1) : (wantP m y i).2 = (kindP m y).2 ∧ ((kindP m y).2 = 0 → (wantP m y i).1 = (((i : Nat) : Int), (kindP m y).1, y.2.1, typW m y, y.2.2.2.2.1, ()) ∧ ((kindP m y).1 = 1 → (y.2.2.2.1).toNat < m.1.len)) := by
  by_cases h3 : y.2.2.1 = 3
  · by_cases hE : y.1 = ⟨#[101, 110, 118]⟩
    · have g1 : ¬ y.1 = ⟨#[71, 79, 84, 46, 109, 101, 109]⟩ := by rw [hE]; decide
      have g2 : ¬ y.1 = ⟨#[71, 79, 84, 46, 102, 117, 110, 99]⟩ := by rw [hE]; decide
      by_cases hB : y.2.1 = ⟨#[95, 95, 109, 101, 109, 111, 114, 121, 95, 98, 97, 115, 101]⟩
      · have hT : ¬ y.2.1 = ⟨#[95, 95, 116, 97, 98, 108, 101, 95, 98, 97, 115, 101]⟩ := by rw [hB]; decide
        unfold typW wantP kindP globalP gotP otherP
        simp only [h3, decide_eq_true hE, decide_eq_false g1, decide_eq_false g2, decide_eq_true hB, decide_eq_false hT]
        generalize decide (y.2.2.2.2.2.1.1 = 127) = bA
        generalize y.2.2.2.2.2.1.2.1 = bB
        cases bA <;> cases bB <;> simp
      · by_cases hT : y.2.1 = ⟨#[95, 95, 116, 97, 98, 108, 101, 95, 98, 97, 115, 101]⟩
        · unfold typW wantP kindP globalP gotP otherP
          simp only [h3, decide_eq_true hE, decide_eq_false g1, decide_eq_false g2, decide_eq_false hB, decide_eq_true hT]
          generalize decide (y.2.2.2.2.2.1.1 = 127) = bA
          generalize y.2.2.2.2.2.1.2.1 = bB
          cases bA <;> cases bB <;> simp
        · unfold typW wantP kindP globalP gotP otherP
          simp only [h3, decide_eq_true hE, decide_eq_false g1, decide_eq_false g2, decide_eq_false hB, decide_eq_false hT]
          simp
    · unfold typW wantP kindP globalP gotP otherP
      by_cases g1 : y.1 = ⟨#[71, 79, 84, 46, 109, 101, 109]⟩
      · simp only [h3, decide_eq_false hE, decide_eq_true g1]
        generalize decide (y.2.2.2.2.2.1.1 = 127) = bA
        generalize y.2.2.2.2.2.1.2.1 = bB
        cases bA <;> cases bB <;> simp
      · by_cases g2 : y.1 = ⟨#[71, 79, 84, 46, 102, 117, 110, 99]⟩
        · simp only [h3, decide_eq_false hE, decide_eq_false g1, decide_eq_true g2]
          generalize decide (y.2.2.2.2.2.1.1 = 127) = bA
          generalize y.2.2.2.2.2.1.2.1 = bB
          cases bA <;> cases bB <;> simp
        · simp only [h3, decide_eq_false hE, decide_eq_false g1, decide_eq_false g2]
          simp
  · unfold typW wantP kindP otherP
    by_cases hE : y.1 = ⟨#[101, 110, 118]⟩
    · have e0 : decide (y.1 ≠ (⟨#[101, 110, 118]⟩ : ByteArray)) = false := by simp [hE]
      rw [decide_eq_false h3, decide_eq_true (show y.2.2.1 ≠ 3 from h3), e0]
      simp only [cond_false, cond_true]
      by_cases h2 : y.2.2.1 = 2 ∧ y.2.1 = ⟨#[109, 101, 109, 111, 114, 121]⟩
      · rw [decide_eq_true h2.1, decide_eq_true h2.2]; simp
      · have e2 : (decide (y.2.2.1 = 2) && decide (y.2.1 = ⟨#[109, 101, 109, 111, 114, 121]⟩)) = false := by simpa using fun a => (not_and.1 h2 a)
        rw [e2]; simp only [cond_false]
        generalize (decide (y.2.2.1 = 1) && decide (y.2.1 = (⟨#[95, 95, 105, 110, 100, 105, 114, 101, 99, 116, 95, 102, 117, 110, 99, 116, 105, 111, 110, 95, 116, 97, 98, 108, 101]⟩ : ByteArray))) = b1
        cases b1
        · simp only [cond_false]
          by_cases h0 : y.2.2.1 = 0
          · have n0 : decide (y.2.2.1 ≠ 0) = false := by simp [h0]
            rw [n0, decide_eq_true h0]; simp only [cond_false, cond_true]
            by_cases ht : ((m.1.len : Nat) : Int) ≤ y.2.2.2.1
            · rw [decide_eq_true ht]; simp
            · rw [decide_eq_false ht]
              refine ⟨rfl, fun _ => ⟨?_, fun _ => by omega⟩⟩
              simp
          · rw [decide_eq_false h0, decide_eq_true (show y.2.2.1 ≠ 0 from h0)]; simp
        · simp
    · rw [decide_eq_false h3, decide_eq_true (show y.2.2.1 ≠ 3 from h3), decide_eq_true (show y.1 ≠ _ from hE)]; simp
theorem kind_small (m : MMd) (y : MImp) : (kindP m y).1 = 1 → (kindP m y).1 ≠ 5 := fun h => by omega

def cntK (m : MMd) (kd : Int) (l : List MImp) : List MImp := l.filter fun y => decide ((kindP m y).1 = kd)
def namK (m : MMd) (kd : Int) (l : List MImp) : List ByteArray := (cntK m kd l).map fun y => y.2.1
def symP (kd : Int) (l : List MWt) : List ByteArray := (l.filter fun x => decide (x.2.1 = kd)).map fun x => x.2.2.1
@[simp] theorem cntK_nil (m : MMd) (kd : Int) : cntK m kd [] = [] := rfl
@[simp] theorem namK_nil (m : MMd) (kd : Int) : namK m kd [] = [] := rfl
@[simp] theorem symP_nil (kd : Int) : symP kd [] = [] := rfl
theorem cntK_yes {m : MMd} {kd : Int} {l : List MImp} {k : Nat} {y : MImp} (hy : l[k]? = some y) (h : (kindP m y).1 = kd) : cntK m kd (l.take (k + 1)) = cntK m kd (l.take k) ++ [y] := by
  unfold cntK; rw [List.take_add_one, hy, List.filter_append]; simp [h]
theorem cntK_no {m : MMd} {kd : Int} {l : List MImp} {k : Nat} {y : MImp} (hy : l[k]? = some y) (h : ¬ (kindP m y).1 = kd) : cntK m kd (l.take (k + 1)) = cntK m kd (l.take k) := by
  unfold cntK; rw [List.take_add_one, hy, List.filter_append]; simp [h]
theorem cntK_len (m : MMd) (kd : Int) (l : List MImp) (k : Nat) : (cntK m kd (l.take k)).length ≤ k := by
  have := List.length_filter_le (fun (y : MImp) => decide ((kindP m y).1 = kd)) (l.take k)
  rw [List.length_take] at this
  unfold cntK; omega
theorem namK_yes {m : MMd} {kd : Int} {l : List MImp} {k : Nat} {y : MImp} (hy : l[k]? = some y) (h : (kindP m y).1 = kd) : namK m kd (l.take k) ++ [y.2.1] = namK m kd (l.take (k + 1)) := by
  unfold namK; rw [cntK_yes hy h, List.map_append]; rfl
theorem namK_no {m : MMd} {kd : Int} {l : List MImp} {k : Nat} {y : MImp} (hy : l[k]? = some y) (h : ¬ (kindP m y).1 = kd) : namK m kd (l.take k) = namK m kd (l.take (k + 1)) := by
  unfold namK; rw [cntK_no hy h]
theorem namK_len (m : MMd) (kd : Int) (l : List MImp) (k : Nat) : (namK m kd (l.take k)).length ≤ k := by
  unfold namK; rw [List.length_map]; exact cntK_len m kd l k
theorem symP_yes {kd : Int} {l : List MWt} {k : Nat} {y : MWt} (hy : l[k]? = some y) (h : y.2.1 = kd) : symP kd (l.take k) ++ [y.2.2.1] = symP kd (l.take (k + 1)) := by
  unfold symP; rw [List.take_add_one, hy, List.filter_append, List.map_append]; simp [h]
theorem symP_no {kd : Int} {l : List MWt} {k : Nat} {y : MWt} (hy : l[k]? = some y) (h : ¬ y.2.1 = kd) : symP kd (l.take k) = symP kd (l.take (k + 1)) := by
  unfold symP; rw [List.take_add_one, hy, List.filter_append, List.map_append]; simp [h]
theorem symP_len (kd : Int) (l : List MWt) (k : Nat) : (symP kd (l.take k)).length ≤ k := by
  have := List.length_filter_le (fun (x : MWt) => decide (x.2.1 = kd)) (l.take k)
  rw [List.length_take] at this
  unfold symP; rw [List.length_map]; omega

theorem plan_rel (m : MMd) : ∀ (l : List MImp) (i : Nat), (∀ y ∈ l, 0 ≤ y.2.2.2.1) → rplanR m l i = planR m l i ∧ (planR m l i = none →
    (∀ (j : Nat) (y : MImp), l[j]? = some y → (wantsR m l i)[j]? = some ((((i + j : Nat)) : Int), (kindP m y).1, y.2.1, typW m y, y.2.2.2.2.1, ()) ∧ ((kindP m y).1 = 1 → (y.2.2.2.1).toNat < m.1.len)) ∧
    slotsR m l i = (((cntK m 5 l).length : Nat) : Int) ∧ ∀ kd, symP kd (wantsR m l i) = namK m kd l)
  | [], _, _ => ⟨rfl, fun _ => ⟨fun j y h => by simp at h, rfl, fun _ => rfl⟩⟩
  | x :: l, i, hl => by
    have hx := kind_rel m x i (hl x List.mem_cons_self)
    obtain ⟨h1, h2⟩ := plan_rel m l (i + 1) (fun y hy => hl y (List.mem_cons_of_mem _ hy))
    rw [rplanR, planR, hx.1]
    by_cases h0 : (kindP m x).2 ≠ 0
    · rw [if_pos h0, if_pos h0]
      exact ⟨rfl, fun h => by cases h⟩
    · rw [if_neg h0, if_neg h0]
      refine ⟨h1, fun h => ?_⟩
      obtain ⟨a1, a2, a3⟩ := h2 h
      have h0' : (kindP m x).2 = 0 := by simpa using h0
      obtain ⟨b1, b2⟩ := hx.2 h0'
      refine ⟨fun j y hj => ?_, ?_, fun kd => ?_⟩
      · cases j with
        | zero =>
          cases hj
          rw [wantsR, b1]
          exact ⟨rfl, b2⟩
        | succ j =>
          rw [wantsR]
          have := a1 j y (by simpa using hj)
          rw [show i + 1 + j = i + (j + 1) by omega] at this
          simpa using this
      · rw [slotsR, a2, b1]
        unfold cntK
        by_cases h5 : (kindP m x).1 = 5
        · rw [if_pos h5, List.filter_cons_of_pos (by simp [h5])]
          simp only [List.length_cons]; omega
        · rw [if_neg h5, List.filter_cons_of_neg (by simp [h5])]
          omega
      · have := a3 kd
        unfold symP namK cntK at this ⊢
        rw [wantsR, b1]
        by_cases hk : (kindP m x).1 = kd
        · rw [List.filter_cons_of_pos (by simp [hk]), List.filter_cons_of_pos (by simp [hk])]
          simp only [List.map_cons, this]
        · rw [List.filter_cons_of_neg (by simp [hk]), List.filter_cons_of_neg (by simp [hk])]
          exact this

/-- The plan, and the document's. -/
theorem of_rel (m : MMd) (hF : ∀ y ∈ m.2.1.list, 0 ≤ y.2.2.2.1) : (rofP m).2.1 = (ofP m).2.2.2.2.2.2.1 ∧ (rofP m).2.2 = (ofP m).2.2.2.2.2.2.2 ∧
    ((ofP m).2.2.2.2.2.2.2 ≠ 0 → (ofP m).1 = [] ∧ (ofP m).2.1 = 0 ∧ (ofP m).2.2.1 = 0 ∧ (ofP m).2.2.2.2.2.1 = 0) ∧
    ((ofP m).2.2.2.2.2.2.2 = 0 → (rofP m).1 = kindsT m m.2.1.list ∧ (ofP m).1.length = m.2.1.len ∧ (∀ (j : Nat) (y : MImp), m.2.1.list[j]? = some y → (ofP m).1[j]? = some (((j : Nat) : Int), (kindP m y).1, y.2.1, typW m y, y.2.2.2.2.1, ()) ∧ ((kindP m y).1 = 1 → (y.2.2.2.1).toNat < m.1.len)) ∧
      (ofP m).2.2.2.2.2.1 = (((cntK m 5 m.2.1.list).length : Nat) : Int) ∧ (∀ kd, symP kd (ofP m).1 = namK m kd m.2.1.list) ∧
      (ofP m).2.1 = m.2.2.2.2.2.2.2.2.2.2.2.1.2.1 ∧ (ofP m).2.2.1 = m.2.2.2.2.2.2.2.2.2.2.2.1.2.2.2.1 ∧ (ofP m).2.2.2.1 = m.2.2.2.2.2.2.2.2.2.2.2.1.2.2.1 ∧ (ofP m).2.2.2.2.1 = m.2.2.2.2.2.2.2.2.2.2.2.1.2.2.2.2.1) := by
  obtain ⟨h1, h2⟩ := plan_rel m m.2.1.list 0 hF
  have hlen := wantsR_len m m.2.1.list 0
  rw [Sl.list_length] at hlen
  unfold rofP ofP
  rw [h1]
  generalize ((decide ((0 : Int) < ((m.2.2.2.2.1.len : Nat) : Int)) || decide ((0 : Int) < ((m.2.2.2.1.len : Nat) : Int))) || !m.2.2.2.2.2.2.2.2.2.2.2.1.1) = bA
  generalize (decide ((16777216 : Int) < m.2.2.2.2.2.2.2.2.2.2.2.1.2.1) || decide ((1048576 : Int) < m.2.2.2.2.2.2.2.2.2.2.2.1.2.2.2.1)) = bB
  cases bA
  · cases bB
    · cases hp : planR m m.2.1.list 0 with
      | some p =>
        have := planR_ne m _ _ _ hp
        exact ⟨rfl, rfl, fun _ => ⟨rfl, rfl, rfl, rfl⟩, fun h => absurd h this⟩
      | none =>
        obtain ⟨a1, a2, a3⟩ := h2 hp
        refine ⟨rfl, rfl, fun h => absurd rfl h, fun _ => ⟨rfl, hlen, fun j y hj => ?_, a2, a3, rfl, rfl, rfl, rfl⟩⟩
        have := a1 j y hj
        rw [Nat.zero_add] at this
        exact this
    · exact ⟨rfl, rfl, fun _ => ⟨rfl, rfl, rfl, rfl⟩, fun h => absurd (show (44 : Int) = 0 from h) (by decide)⟩
  · exact ⟨rfl, rfl, fun _ => ⟨rfl, rfl, rfl, rfl⟩, fun h => absurd (show (15 : Int) = 0 from h) (by decide)⟩
end Go.Proofs.Ytahgkfekggkjnaa
