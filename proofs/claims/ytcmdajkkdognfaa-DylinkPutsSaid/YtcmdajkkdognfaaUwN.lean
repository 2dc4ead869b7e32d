/- What is proved here: plain laws of signs and their bytes. -/
namespace Go.Proofs.Ytcmdajkkdognfaa.Ut
set_option linter.unusedVariables false
set_option linter.unusedSimpArgs false

/-- A sign's bytes. -/
def encB (c : Nat) : List Nat :=
  if 0x10ffff < c ∨ (0xd800 ≤ c ∧ c ≤ 0xdfff) then [] else if c < 0x80 then [c] else if c < 0x800 then [192 + c / 64, 128 + c % 64]
  else if c < 0x10000 then [224 + c / 4096, 128 + c / 64 % 64, 128 + c % 64] else [240 + c / 262144, 128 + c / 4096 % 64, 128 + c / 64 % 64, 128 + c % 64]

theorem encB_cases (c : Nat) : (encB c = [] ∧ (0x10ffff < c ∨ (0xd800 ≤ c ∧ c ≤ 0xdfff))) ∨ (encB c = [c] ∧ c < 0x80) ∨ (encB c = [192 + c / 64, 128 + c % 64] ∧ 0x80 ≤ c ∧ c < 0x800) ∨
    (encB c = [224 + c / 4096, 128 + c / 64 % 64, 128 + c % 64] ∧ 0x800 ≤ c ∧ c < 0x10000 ∧ ¬ (0xd800 ≤ c ∧ c ≤ 0xdfff)) ∨ (encB c = [240 + c / 262144, 128 + c / 4096 % 64, 128 + c / 64 % 64, 128 + c % 64] ∧ 0x10000 ≤ c ∧ c ≤ 0x10ffff) := by
  unfold encB
  by_cases h1 : 0x10ffff < c ∨ (0xd800 ≤ c ∧ c ≤ 0xdfff)
  · simp only [if_pos h1]; exact .inl ⟨trivial, h1⟩
  · simp only [if_neg h1]
    by_cases h2 : c < 0x80
    · simp only [if_pos h2]; exact .inr (.inl ⟨trivial, h2⟩)
    · simp only [if_neg h2]
      by_cases h3 : c < 0x800
      · simp only [if_pos h3]; exact .inr (.inr (.inl ⟨trivial, by omega, h3⟩))
      · simp only [if_neg h3]
        by_cases h4 : c < 0x10000
        · simp only [if_pos h4]; exact .inr (.inr (.inr (.inl ⟨trivial, by omega, h4, by omega⟩)))
        · simp only [if_neg h4]; exact .inr (.inr (.inr (.inr ⟨trivial, by omega, by omega⟩)))

theorem encB_one (v x : Nat) : encB v = [x] ↔ v < 128 ∧ x = v := by
  rcases encB_cases v with ⟨h, g⟩ | ⟨h, g⟩ | ⟨h, g⟩ | ⟨h, g⟩ | ⟨h, g⟩ <;> rw [h] <;> simp <;> omega
theorem encB_two (v x y : Nat) : encB v = [x, y] ↔ 128 ≤ v ∧ v < 0x800 ∧ x = 192 + v / 64 ∧ y = 128 + v % 64 := by
  rcases encB_cases v with ⟨h, g⟩ | ⟨h, g⟩ | ⟨h, g⟩ | ⟨h, g⟩ | ⟨h, g⟩ <;> rw [h] <;> simp <;> omega
theorem encB_three (v x y z : Nat) : encB v = [x, y, z] ↔ 0x800 ≤ v ∧ v < 0x10000 ∧ ¬ (0xd800 ≤ v ∧ v ≤ 0xdfff) ∧ x = 224 + v / 4096 ∧ y = 128 + v / 64 % 64 ∧ z = 128 + v % 64 := by
  rcases encB_cases v with ⟨h, g⟩ | ⟨h, g⟩ | ⟨h, g⟩ | ⟨h, g⟩ | ⟨h, g⟩ <;> rw [h] <;> simp <;> omega
theorem encB_four (v x y z u : Nat) : encB v = [x, y, z, u] ↔ 0x10000 ≤ v ∧ v ≤ 0x10ffff ∧ x = 240 + v / 262144 ∧ y = 128 + v / 4096 % 64 ∧ z = 128 + v / 64 % 64 ∧ u = 128 + v % 64 := by
  rcases encB_cases v with ⟨h, g⟩ | ⟨h, g⟩ | ⟨h, g⟩ | ⟨h, g⟩ | ⟨h, g⟩ <;> rw [h] <;> simp <;> omega

/-- The sign that bytes begin with, how many bytes: by trying. -/
def firstR : List Nat → Nat × Nat
  | [] => (0, 0)
  | a :: l =>
    if encB a = [a] then (a, 1) else
    match l with
    | [] => (0, 0)
    | b :: l =>
      if encB (a % 32 * 64 + b % 64) = [a, b] then (a % 32 * 64 + b % 64, 2) else
      match l with
      | [] => (0, 0)
      | c :: l =>
        if encB ((a % 16 * 64 + b % 64) * 64 + c % 64) = [a, b, c] then ((a % 16 * 64 + b % 64) * 64 + c % 64, 3) else
        match l with
        | [] => (0, 0)
        | d :: _ => if encB (((a % 8 * 64 + b % 64) * 64 + c % 64) * 64 + d % 64) = [a, b, c, d] then (((a % 8 * 64 + b % 64) * 64 + c % 64) * 64 + d % 64, 4) else (0, 0)

/-- The same, by the first byte. -/
def firstP : List Nat → Nat × Nat
  | [] => (0, 0)
  | a :: l =>
    if a < 0x80 then (a, 1) else
    if 0xc2 ≤ a ∧ a < 0xe0 then
      match l with
      | b :: _ => if b / 64 = 2 then (a % 32 * 64 + b % 64, 2) else (0, 0)
      | _ => (0, 0)
    else if 0xe0 ≤ a ∧ a < 0xf0 then
      match l with
      | b :: c :: _ => if b / 64 = 2 ∧ c / 64 = 2 then
          if (a % 16 * 64 + b % 64) * 64 + c % 64 < 0x800 ∨ ((a % 16 * 64 + b % 64) * 64 + c % 64) / 2048 = 0x1b then (0, 0) else ((a % 16 * 64 + b % 64) * 64 + c % 64, 3)
        else (0, 0)
      | _ => (0, 0)
    else if 0xf0 ≤ a ∧ a < 0xf5 then
      match l with
      | b :: c :: d :: _ => if b / 64 = 2 ∧ c / 64 = 2 ∧ d / 64 = 2 then
          if ((a % 8 * 64 + b % 64) * 64 + c % 64) * 64 + d % 64 < 0x10000 ∨ 0x10ffff < ((a % 8 * 64 + b % 64) * 64 + c % 64) * 64 + d % 64 then (0, 0) else (((a % 8 * 64 + b % 64) * 64 + c % 64) * 64 + d % 64, 4)
        else (0, 0)
      | _ => (0, 0)
    else (0, 0)

theorem first_one (a : Nat) (l : List Nat) (h : a < 0x80) : firstP (a :: l) = firstR (a :: l) := by
  simp only [firstP, firstR]
  rw [if_pos h, if_pos ((encB_one _ _).2 ⟨h, rfl⟩)]

theorem first_eq (l : List Nat) (h : ∀ x ∈ l, x < 256) : firstP l = firstR l := by
  cases l with
  | nil => rfl
  | cons a l =>
    have ha : a < 256 := h a (by simp)
    by_cases h1 : a < 0x80
    · exact first_one a l h1
    have n1 : ¬ encB a = [a] := fun e => h1 ((encB_one _ _).1 e).1
    cases l with
    | nil =>
      simp only [firstP, firstR]
      rw [if_neg h1, if_neg n1]
      repeat' (first | rfl | split)
    | cons b l =>
      have hb : b < 256 := h b (by simp)
      simp only [firstP, firstR]
      rw [if_neg h1, if_neg n1]
      by_cases h2 : 0xc2 ≤ a ∧ a < 0xe0
      · rw [if_pos h2]
        by_cases h3 : b / 64 = 2
        · rw [if_pos h3, if_pos ((encB_two _ _ _).2 (by omega))]
        · rw [if_neg h3, if_neg (show ¬ encB (a % 32 * 64 + b % 64) = [a, b] from fun e => by have := (encB_two _ _ _).1 e; omega)]
          cases l with
          | nil => rfl
          | cons c l =>
            have hc : c < 256 := h c (by simp)
            simp only
            rw [if_neg (show ¬ encB ((a % 16 * 64 + b % 64) * 64 + c % 64) = [a, b, c] from fun e => by have := (encB_three _ _ _ _).1 e; omega)]
            cases l with
            | nil => rfl
            | cons d l =>
              have hd : d < 256 := h d (by simp)
              simp only
              rw [if_neg (show ¬ encB (((a % 8 * 64 + b % 64) * 64 + c % 64) * 64 + d % 64) = [a, b, c, d] from fun e => by have := (encB_four _ _ _ _ _).1 e; omega)]
      · rw [if_neg h2, if_neg (show ¬ encB (a % 32 * 64 + b % 64) = [a, b] from fun e => by have := (encB_two _ _ _).1 e; omega)]
        cases l with
        | nil =>
          simp only
          repeat' (first | rfl | split)
        | cons c l =>
          have hc : c < 256 := h c (by simp)
          simp only
          by_cases h3 : 0xe0 ≤ a ∧ a < 0xf0
          · rw [if_pos h3]
            by_cases h4 : b / 64 = 2 ∧ c / 64 = 2
            · rw [if_pos h4]
              by_cases h5 : (a % 16 * 64 + b % 64) * 64 + c % 64 < 0x800 ∨ ((a % 16 * 64 + b % 64) * 64 + c % 64) / 2048 = 0x1b
              · rw [if_pos h5, if_neg (show ¬ encB ((a % 16 * 64 + b % 64) * 64 + c % 64) = [a, b, c] from fun e => by have := (encB_three _ _ _ _).1 e; omega)]
                cases l with
                | nil => rfl
                | cons d l =>
                  have hd : d < 256 := h d (by simp)
                  simp only
                  rw [if_neg (show ¬ encB (((a % 8 * 64 + b % 64) * 64 + c % 64) * 64 + d % 64) = [a, b, c, d] from fun e => by have := (encB_four _ _ _ _ _).1 e; omega)]
              · rw [if_neg h5, if_pos ((encB_three _ _ _ _).2 (by omega))]
            · rw [if_neg h4, if_neg (show ¬ encB ((a % 16 * 64 + b % 64) * 64 + c % 64) = [a, b, c] from fun e => by have := (encB_three _ _ _ _).1 e; omega)]
              cases l with
              | nil => rfl
              | cons d l =>
                have hd : d < 256 := h d (by simp)
                simp only
                rw [if_neg (show ¬ encB (((a % 8 * 64 + b % 64) * 64 + c % 64) * 64 + d % 64) = [a, b, c, d] from fun e => by have := (encB_four _ _ _ _ _).1 e; omega)]
          · rw [if_neg h3, if_neg (show ¬ encB ((a % 16 * 64 + b % 64) * 64 + c % 64) = [a, b, c] from fun e => by have := (encB_three _ _ _ _).1 e; omega)]
            cases l with
            | nil =>
              simp only
              split <;> rfl
            | cons d l =>
              have hd : d < 256 := h d (by simp)
              simp only
              by_cases h4 : 0xf0 ≤ a ∧ a < 0xf5
              · rw [if_pos h4]
                by_cases h5 : b / 64 = 2 ∧ c / 64 = 2 ∧ d / 64 = 2
                · rw [if_pos h5]
                  by_cases h6 : ((a % 8 * 64 + b % 64) * 64 + c % 64) * 64 + d % 64 < 0x10000 ∨ 0x10ffff < ((a % 8 * 64 + b % 64) * 64 + c % 64) * 64 + d % 64
                  · rw [if_pos h6, if_neg (show ¬ encB (((a % 8 * 64 + b % 64) * 64 + c % 64) * 64 + d % 64) = [a, b, c, d] from fun e => by have := (encB_four _ _ _ _ _).1 e; omega)]
                  · rw [if_neg h6, if_pos ((encB_four _ _ _ _ _).2 (by omega))]
                · rw [if_neg h5, if_neg (show ¬ encB (((a % 8 * 64 + b % 64) * 64 + c % 64) * 64 + d % 64) = [a, b, c, d] from fun e => by have := (encB_four _ _ _ _ _).1 e; omega)]
              · rw [if_neg h4, if_neg (show ¬ encB (((a % 8 * 64 + b % 64) * 64 + c % 64) * 64 + d % 64) = [a, b, c, d] from fun e => by have := (encB_four _ _ _ _ _).1 e; omega)]

/-- By trying, from n bytes on. -/
def refV (l : List Nat) : Nat → Nat → Nat
  | n, 0 => if n = 1 then l.getD 0 0 else l.getD 0 0 % 2 ^ (7 - n)
  | n, k + 1 => refV l n k * 64 + l.getD (k + 1) 0 % 64
def tryF (l : List Nat) : Nat → Nat → Nat × Nat
  | _, 0 => (0, 0)
  | n, f + 1 => if n ≤ l.length then (if encB (refV l n (n - 1)) = l.take n then (refV l n (n - 1), n) else tryF l (n + 1) f) else (0, 0)

theorem try_eq (l : List Nat) : firstR l = tryF l 1 4 := by
  match l with
  | [] => simp [firstR, tryF]
  | [a] => simp [firstR, tryF, refV]
  | [a, b] => simp [firstR, tryF, refV]
  | [a, b, c] => simp [firstR, tryF, refV]
  | a :: b :: c :: d :: l => simp [firstR, tryF, refV]

theorem first_snd (l : List Nat) : (firstP l).2 ≤ l.length := by
  match l with
  | [] => simp [firstP]
  | [a] => simp only [firstP]; repeat (first | split | simp)
  | [a, b] => simp only [firstP]; repeat (first | split | simp)
  | [a, b, c] => simp only [firstP]; repeat (first | split | simp)
  | a :: b :: c :: d :: l => simp only [firstP]; repeat (first | split | simp)

/-- How many signs; -1. -/
def cntF : Nat → List Nat → Int
  | 0, _ => 0
  | f + 1, l => if l = [] then 0 else if (firstP l).2 = 0 then -1 else if cntF f (l.drop (firstP l).2) < 0 then -1 else cntF f (l.drop (firstP l).2) + 1

theorem cntF_more : ∀ (f g : Nat) (l : List Nat), l.length ≤ f → l.length ≤ g → cntF f l = cntF g l
  | 0, 0, _, _, _ => rfl
  | 0, g + 1, l, h, _ => by
    have : l = [] := List.eq_nil_of_length_eq_zero (by omega)
    simp [cntF, this]
  | f + 1, 0, l, _, h => by
    have : l = [] := List.eq_nil_of_length_eq_zero (by omega)
    simp [cntF, this]
  | f + 1, g + 1, l, h1, h2 => by
    unfold cntF
    by_cases h : l = []
    · simp [h]
    · rw [if_neg h, if_neg h]
      by_cases h3 : (firstP l).2 = 0
      · rw [if_pos h3, if_pos h3]
      · rw [if_neg h3, if_neg h3, cntF_more f g _ (by rw [List.length_drop]; omega) (by rw [List.length_drop]; omega)]

def cnt (l : List Nat) : Int := cntF l.length l
theorem cnt_nil : cnt [] = 0 := rfl
theorem cnt_bad {l : List Nat} (h : l ≠ []) (h0 : (firstP l).2 = 0) : cnt l = -1 := by
  cases l with
  | nil => exact absurd rfl h
  | cons a l =>
    unfold cnt
    rw [show (a :: l).length = l.length + 1 from rfl, cntF, if_neg h, if_pos h0]
theorem cnt_step {l : List Nat} (h : l ≠ []) (h0 : (firstP l).2 ≠ 0) : cnt l = if cnt (l.drop (firstP l).2) < 0 then -1 else cnt (l.drop (firstP l).2) + 1 := by
  cases l with
  | nil => exact absurd rfl h
  | cons a l =>
    unfold cnt
    rw [show (a :: l).length = l.length + 1 from rfl, cntF, if_neg h, if_neg h0]
    rw [cntF_more l.length ((List.drop (firstP (a :: l)).2 (a :: l)).length) _ (by rw [List.length_drop]; simp; omega) (Nat.le_refl _)]
theorem cnt_ge (l : List Nat) : -1 ≤ cnt l := by
  unfold cnt
  generalize l.length = f
  induction f generalizing l with
  | zero => simp [cntF]
  | succ f ih =>
    unfold cntF
    have := ih (l.drop (firstP l).2)
    repeat' (first | omega | split)

/-- A sign's own bytes begin with it. -/
theorem first_enc (c : Nat) (l : List Nat) (h : encB c ≠ []) : firstP (encB c ++ l) = (c, (encB c).length) := by
  rcases encB_cases c with ⟨e, g⟩ | ⟨e, g⟩ | ⟨e, g⟩ | ⟨e, g⟩ | ⟨e, g⟩
  · exact absurd e h
  · rw [e]; simp only [List.singleton_append, firstP]; rw [if_pos g]; rfl
  · rw [e]; simp only [List.cons_append, List.nil_append, firstP]
    rw [if_neg (by omega), if_pos (by omega), if_pos (by omega)]
    simp; omega
  · rw [e]; simp only [List.cons_append, List.nil_append, firstP]
    rw [if_neg (by omega), if_neg (by omega), if_pos (by omega), if_pos (by omega), if_neg (by omega)]
    simp; omega
  · rw [e]; simp only [List.cons_append, List.nil_append, firstP]
    rw [if_neg (by omega), if_neg (by omega), if_neg (by omega), if_pos (by omega), if_pos (by omega), if_neg (by omega)]
    simp; omega
theorem encB_lt (c : Nat) : ∀ x ∈ encB c, x < 256 := by
  rcases encB_cases c with ⟨e, g⟩ | ⟨e, g⟩ | ⟨e, g⟩ | ⟨e, g⟩ | ⟨e, g⟩ <;> rw [e] <;> simp <;> omega
end Go.Proofs.Ytcmdajkkdognfaa.Ut
