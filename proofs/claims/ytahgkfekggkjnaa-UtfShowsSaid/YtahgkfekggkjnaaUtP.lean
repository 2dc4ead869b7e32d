/- What is proved here: plain laws of names shown and read. -/
namespace Go.Proofs.Ytahgkfekggkjnaa
set_option linter.unusedVariables false
set_option linter.unusedSimpArgs false

def digN (n : Nat) : Nat := if n < 10 then 48 + n else 87 + n
def sh (c : Nat) : List Nat := if 32 ≤ c ∧ c ≤ 126 ∧ c ≠ 34 ∧ c ≠ 92 then [c] else [92, digN (c / 16), digN (c % 16)]
def showL (l : List Nat) : List Nat := 34 :: (l.flatMap sh ++ [34])
theorem sh_len (c : Nat) : (sh c).length ≤ 3 ∧ 1 ≤ (sh c).length := by unfold sh; split <;> simp
theorem digN_lt (n : Nat) (h : n < 16) : digN n < 256 := by unfold digN; split <;> omega
theorem sh_lt (c : Nat) (h : c < 256) : ∀ x ∈ sh c, x < 256 := by
  intro x hx
  unfold sh at hx
  have h1 := digN_lt (c / 16) (by omega)
  have h2 := digN_lt (c % 16) (by omega)
  split at hx
  · simp at hx; omega
  · simp at hx; omega
theorem flat_len (l : List Nat) : (l.flatMap sh).length ≤ 3 * l.length := by
  induction l with
  | nil => simp
  | cons a l ih =>
    have := (sh_len a).1
    simp only [List.flatMap_cons, List.length_append, List.length_cons]; omega
theorem flat_take (l : List Nat) (k : Nat) (h : k < l.length) : (l.take (k + 1)).flatMap sh = (l.take k).flatMap sh ++ sh (l.getD k 0) := by
  rw [List.take_succ_eq_append_getElem h, List.flatMap_append]
  simp [List.getD_eq_getElem?_getD, h]
theorem showL_lt (l : List Nat) (h : ∀ x ∈ l, x < 256) : ∀ x ∈ showL l, x < 256 := by
  intro x hx
  unfold showL at hx
  simp only [List.mem_cons, List.mem_append, List.mem_flatMap] at hx
  rcases hx with rfl | ⟨a, ha, hx⟩ | rfl | hx
  · omega
  · exact sh_lt a (h a ha) x hx
  · omega
  · cases hx

/-- A digit's value; -1. -/
def valI (c : Nat) : Int := if 48 ≤ c ∧ c ≤ 57 then (c : Int) - 48 else if 97 ≤ c ∧ c ≤ 102 then (c : Int) - 87 else -1
theorem val_dig (n : Nat) (h : n < 16) : valI (digN n) = n := by
  unfold valI digN
  split
  · rw [if_pos (by omega)]; omega
  · rw [if_neg (by omega), if_pos (by omega)]; omega

/-- As the program reads what stands between the quotes. -/
def decP : Nat → List Nat → Option (List Nat)
  | 0, _ => some []
  | _, [] => some []
  | f + 1, c :: r =>
    if c ≠ 92 then (decP f r).map (c :: ·) else
    match r with
    | a :: b :: r' => if valI a < 0 ∨ valI b < 0 then none else (decP f r').map (((valI a).toNat * 16 + (valI b).toNat) :: ·)
    | _ => none

theorem decP_flat : ∀ (o : List Nat) (f : Nat), (∀ x ∈ o, x < 256) → (o.flatMap sh).length ≤ f → decP f (o.flatMap sh) = some o
  | [], 0, _, _ => rfl
  | [], _ + 1, _, _ => rfl
  | c :: o, f, h, hf => by
    have hl := sh_len c
    simp only [List.flatMap_cons, List.length_append] at hf ⊢
    obtain ⟨f, rfl⟩ : ∃ g, f = g + 1 := ⟨f - 1, by omega⟩
    have ih := decP_flat o f (fun x hx => h x (by simp [hx])) (by omega)
    have hc : c < 256 := h c (by simp)
    unfold sh
    by_cases hs : 32 ≤ c ∧ c ≤ 126 ∧ c ≠ 34 ∧ c ≠ 92
    · rw [if_pos hs]
      simp only [List.singleton_append, decP]
      rw [if_pos hs.2.2.2]
      have := ih
      unfold sh at this
      rw [this]; rfl
    · rw [if_neg hs]
      simp only [List.cons_append, List.nil_append, decP]
      rw [if_neg (by simp), val_dig _ (by omega), val_dig _ (by omega), if_neg (by omega)]
      have := ih
      unfold sh at this
      rw [this]
      simp
      omega

/-- The first sign, from c on, whose text stands ahead. -/
def findR (l : List Nat) : Nat → Nat → Option Nat
  | _, 0 => none
  | c, f + 1 => if sh c = l.take (sh c).length then some c else findR l (c + 1) f

def decR : Nat → List Nat → Option (List Nat)
  | 0, _ => some []
  | _, [] => some []
  | f + 1, l => match findR l 0 256 with
    | none => none
    | some c => (decR f (l.drop (sh c).length)).map (c :: ·)

/-- No sign's text begins another one's. -/
theorem sh_free {c d : Nat} {r : List Nat} (hc : c < 256) (hd : d < 256) (h : sh d = (sh c ++ r).take (sh d).length) : d = c := by
  unfold sh at h
  have v1 := val_dig (c / 16) (by omega); have v2 := val_dig (c % 16) (by omega)
  have v3 := val_dig (d / 16) (by omega); have v4 := val_dig (d % 16) (by omega)
  by_cases h1 : 32 ≤ c ∧ c ≤ 126 ∧ c ≠ 34 ∧ c ≠ 92
  · by_cases h2 : 32 ≤ d ∧ d ≤ 126 ∧ d ≠ 34 ∧ d ≠ 92
    · rw [if_pos h1, if_pos h2] at h
      simpa using h
    · rw [if_pos h1, if_neg h2] at h
      simp at h
      omega
  · by_cases h2 : 32 ≤ d ∧ d ≤ 126 ∧ d ≠ 34 ∧ d ≠ 92
    · rw [if_neg h1, if_pos h2] at h
      simp at h
      omega
    · rw [if_neg h1, if_neg h2] at h
      simp at h
      obtain ⟨e1, e2⟩ := h
      rw [e1, v1] at v3
      rw [e2, v2] at v4
      omega

theorem findR_at {c : Nat} {r : List Nat} (hc : c < 256) : ∀ (f k : Nat), k ≤ c → c < k + f → k + f ≤ 256 → findR (sh c ++ r) k f = some c
  | 0, k, h1, h2, _ => by omega
  | f + 1, k, h1, h2, h3 => by
    unfold findR
    by_cases h : sh k = (sh c ++ r).take (sh k).length
    · have := sh_free hc (by omega) h
      rw [if_pos h, this]
    · rw [if_neg h]
      refine findR_at hc f (k + 1) ?_ (by omega) (by omega)
      by_cases hk : k = c
      · subst hk
        exact absurd (by rw [List.take_left]) h
      · omega

theorem decR_flat : ∀ (o : List Nat) (f : Nat), (∀ x ∈ o, x < 256) → (o.flatMap sh).length ≤ f → decR f (o.flatMap sh) = some o
  | [], 0, _, _ => rfl
  | [], _ + 1, _, _ => rfl
  | c :: o, f, h, hf => by
    have hl := sh_len c
    simp only [List.flatMap_cons, List.length_append] at hf ⊢
    obtain ⟨f, rfl⟩ : ∃ g, f = g + 1 := ⟨f - 1, by omega⟩
    have ih := decR_flat o f (fun x hx => h x (by simp [hx])) (by omega)
    have hc : c < 256 := h c (by simp)
    have hne : sh c ++ o.flatMap sh ≠ [] := by
      intro e
      have := congrArg List.length e
      rw [List.length_append, List.length_nil] at this; omega
    cases hq : sh c ++ o.flatMap sh with
    | nil => exact absurd hq hne
    | cons x y =>
      simp only [decR]
      rw [← hq, findR_at hc 256 0 (by omega) (by omega) (by omega)]
      simp only
      rw [List.drop_left, ih]
      rfl

/-- What both come to. -/
def readOf (d : Option (List Nat)) (s : List Nat) : List Nat × Bool := match d with
  | some o => if showL o = s then (o, true) else ([], false)
  | none => ([], false)

def inner (s : List Nat) : List Nat := (s.drop 1).take (s.length - 2)
theorem inner_show (o : List Nat) : inner (showL o) = o.flatMap sh := by
  unfold inner showL
  simp

def goodB (s : List Nat) : Bool := decide (2 ≤ s.length) && decide (s.getD 0 0 = 34) && decide (s.getD (s.length - 1) 0 = 34)
theorem good_show (o : List Nat) : goodB (showL o) = true := by
  unfold goodB showL
  simp [List.getElem?_cons, List.getElem?_append]

def readP (s : List Nat) : List Nat × Bool := if goodB s then readOf (decP s.length (inner s)) s else ([], false)
def readR (s : List Nat) : List Nat × Bool := readOf (decR s.length (inner s)) s

theorem decP_lt : ∀ (f : Nat) (l o : List Nat), (∀ x ∈ l, x < 256) → decP f l = some o → ∀ x ∈ o, x < 256
  | 0, l, o, h, he => by simp [decP] at he; subst he; simp
  | f + 1, [], o, h, he => by simp [decP] at he; subst he; simp
  | f + 1, c :: r, o, h, he => by
    unfold decP at he
    by_cases h1 : c ≠ 92
    · rw [if_pos h1] at he
      cases hd : decP f r with
      | none => rw [hd] at he; cases he
      | some o' =>
        rw [hd] at he
        simp at he; subst he
        have := decP_lt f r o' (fun x hx => h x (by simp [hx])) hd
        intro x hx
        rcases List.mem_cons.1 hx with rfl | hx
        · exact h _ (by simp)
        · exact this x hx
    · rw [if_neg h1] at he
      match r, he with
      | a :: b :: r', he =>
        simp only at he
        by_cases h2 : valI a < 0 ∨ valI b < 0
        · rw [if_pos h2] at he; cases he
        · rw [if_neg h2] at he
          cases hd : decP f r' with
          | none => rw [hd] at he; cases he
          | some o' =>
            rw [hd] at he
            simp at he; subst he
            have := decP_lt f r' o' (fun x hx => h x (by simp [hx])) hd
            intro x hx
            rcases List.mem_cons.1 hx with rfl | hx
            · have b1 : valI a < 16 := by unfold valI; repeat' (first | omega | split)
              have b2 : valI b < 16 := by unfold valI; repeat' (first | omega | split)
              omega
            · exact this x hx
      | [], he => cases he
      | [a], he => cases he

theorem findR_lt {l : List Nat} : ∀ (f k c : Nat), findR l k f = some c → c < k + f
  | 0, _, _, h => by cases h
  | f + 1, k, c, h => by
    unfold findR at h
    split at h
    · cases h; omega
    · have := findR_lt f (k + 1) c h; omega

theorem decR_lt : ∀ (f : Nat) (l o : List Nat), decR f l = some o → ∀ x ∈ o, x < 256
  | 0, l, o, he => by simp [decR] at he; subst he; simp
  | f + 1, [], o, he => by simp [decR] at he; subst he; simp
  | f + 1, c :: r, o, he => by
    unfold decR at he
    cases hf : findR (c :: r) 0 256 with
    | none => rw [hf] at he; cases he
    | some d =>
      rw [hf] at he
      simp only at he
      cases hd : decR f ((c :: r).drop (sh d).length) with
      | none => rw [hd] at he; cases he
      | some o' =>
        rw [hd] at he
        simp at he; subst he
        have := decR_lt f _ o' hd
        have h2 := findR_lt _ _ _ hf
        intro x hx
        rcases List.mem_cons.1 hx with rfl | hx
        · omega
        · exact this x hx

theorem show_inj {a b : List Nat} (ha : ∀ x ∈ a, x < 256) (hb : ∀ x ∈ b, x < 256) (h : showL a = showL b) : a = b := by
  have h1 := decP_flat a (a.flatMap sh).length ha (Nat.le_refl _)
  have h2 := decP_flat b (b.flatMap sh).length hb (Nat.le_refl _)
  have h3 := congrArg inner h
  rw [inner_show, inner_show] at h3
  rw [h3] at h1
  rw [h1] at h2
  exact Option.some.inj h2

theorem read_show (o : List Nat) (h : ∀ x ∈ o, x < 256) : readP (showL o) = (o, true) ∧ readR (showL o) = (o, true) := by
  have hl : (o.flatMap sh).length ≤ (showL o).length := by unfold showL; rw [List.length_cons, List.length_append]; omega
  refine ⟨?_, ?_⟩
  · unfold readP
    rw [good_show, if_pos rfl, inner_show, decP_flat o _ h hl]
    simp [readOf]
  · unfold readR
    rw [inner_show, decR_flat o _ h hl]
    simp [readOf]

theorem read_eq (s : List Nat) (h : ∀ x ∈ s, x < 256) : readP s = readR s ∧ ((readP s).2 = true → showL (readP s).1 = s) := by
  by_cases hx : ∃ o, (∀ x ∈ o, x < 256) ∧ showL o = s
  · obtain ⟨o, ho, rfl⟩ := hx
    obtain ⟨h1, h2⟩ := read_show o ho
    rw [h1, h2]
    exact ⟨rfl, fun _ => rfl⟩
  · have hp : readP s = ([], false) := by
      unfold readP
      split
      · cases hd : decP s.length (inner s) with
        | none => rfl
        | some o =>
          simp only [readOf]
          rw [if_neg (fun e => hx ⟨o, decP_lt _ _ _ (fun x hx => h x (List.mem_of_mem_drop (List.mem_of_mem_take hx))) hd, e⟩)]
      · rfl
    have hr : readR s = ([], false) := by
      unfold readR
      cases hd : decR s.length (inner s) with
      | none => rfl
      | some o =>
        simp only [readOf]
        rw [if_neg (fun e => hx ⟨o, decR_lt _ _ _ hd, e⟩)]
    rw [hp, hr]
    exact ⟨rfl, fun h => by cases h⟩
end Go.Proofs.Ytahgkfekggkjnaa
