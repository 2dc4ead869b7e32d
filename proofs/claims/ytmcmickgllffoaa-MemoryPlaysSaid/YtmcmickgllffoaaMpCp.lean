/- What is proved here: a memory and the reference's cells, plain. -/
import Derived.Test.YtmcmickgllffoaaMpBp
namespace Go.Proofs.Ytmcmickgllffoaa
open Go.RowKit
set_option linter.unusedVariables false
set_option linter.unusedSimpArgs false
theorem rev_ind {α : Type} {motive : List α → Prop} (nil : motive []) (append_singleton : ∀ (l : List α) (a : α), motive l → motive (l ++ [a])) (l : List α) : motive l := by
  have key : ∀ m : List α, motive m.reverse := by
    intro m
    induction m with
    | nil => exact nil
    | cons x m ih => rw [List.reverse_cons]; exact append_singleton _ _ ih
  have := key l.reverse
  rw [List.reverse_reverse] at this
  exact this
theorem atG (l : List MCe) (i : Int) : ∀ v, l.foldl (fun v c => if c.1 = i then c.2 else v) v = if nIn l i = true then v else atP l i := by
  induction l using rev_ind with
  | nil => intro v; rfl
  | append_singleton l c ih =>
    intro v
    rw [List.foldl_append, atP_snoc]
    show (if c.1 = i then c.2 else l.foldl _ v) = _
    unfold nIn
    rw [List.all_append]
    by_cases hc : c.1 = i
    · rw [if_pos hc, if_pos hc, if_neg (by simp [hc])]
    · rw [if_neg hc, if_neg hc, ih v]
      have e : (List.all l (fun c => decide (c.1 ≠ i)) && List.all [c] (fun c => decide (c.1 ≠ i))) = nIn l i := by
        unfold nIn
        rw [List.all_cons, List.all_nil, decide_eq_true hc, Bool.and_true, Bool.and_true]
      rw [e]
theorem nIn_iff (l : List MCe) (i : Int) : nIn l i = true ↔ ∀ c ∈ l, ¬ c.1 = i := by unfold nIn; simp
theorem atP_none {l : List MCe} {i : Int} (h : nIn l i = true) : atP l i = 0 := by
  have := atG l i 0
  rw [if_pos h] at this
  exact this
theorem atP_cons (c : MCe) (r : List MCe) (i : Int) : atP (c :: r) i = atP r i + (if nIn r i = true ∧ c.1 = i then c.2 else 0) := by
  have h : atP (c :: r) i = r.foldl (fun v c => if c.1 = i then c.2 else v) (if c.1 = i then c.2 else 0) := rfl
  rw [h, atG]
  by_cases hn : nIn r i = true
  · rw [if_pos hn, atP_none hn]
    by_cases hc : c.1 = i
    · rw [if_pos hc, if_pos ⟨hn, hc⟩]; omega
    · rw [if_neg hc, if_neg (fun e => hc e.2)]; omega
  · rw [if_neg hn, if_neg (fun e => hn e.1)]; omega
theorem atP_filter {l : List MCe} {p : MCe → Bool} {i : Int} (h : ∀ c ∈ l, c.1 = i → p c = true) : atP (l.filter p) i = atP l i := by
  induction l using rev_ind with
  | nil => rfl
  | append_singleton l c ih =>
    rw [List.filter_append, atP_snoc]
    have ih2 := ih (fun d hd => h d (List.mem_append_left _ hd))
    by_cases hc : c.1 = i
    · have hp := h c (List.mem_append_right _ (List.mem_singleton.2 rfl)) hc
      rw [if_pos hc]
      simp only [List.filter_cons, hp, if_true, List.filter_nil]
      rw [atP_snoc, if_pos hc]
    · rw [if_neg hc, ← ih2]
      cases hp : p c
      · simp [hp]
      · simp only [List.filter_cons, hp, if_true, List.filter_nil]
        rw [atP_snoc, if_neg hc]
/-- Bytes and cells say the same. -/
def ML (L : List Int) (C : List MCe) : Prop := (∀ c ∈ C, (0 ≤ c.1 ∧ c.1 < ((L.length : Nat) : Int)) ∧ (0 ≤ c.2 ∧ c.2 < 256)) ∧ ∀ i : Nat, i < L.length → L[i]? = some (atP C ((i : Nat) : Int))
theorem ML.zero (n : Nat) : ML (List.replicate n 0) [] := by
  refine ⟨fun c hc => (by cases hc), fun i hi => ?_⟩
  rw [List.length_replicate] at hi
  rw [List.getElem?_replicate, if_pos hi]
  rfl
theorem ML.read {L : List Int} {C : List MCe} (h : ML L C) {k n : Nat} (hk : k + n ≤ L.length) : (L.drop k).take n = rdF C k n := by
  apply List.ext_getElem?
  intro i
  rw [List.getElem?_take]
  by_cases hi : i < n
  · rw [if_pos hi, List.getElem?_drop, h.2 (k + i) (by omega), rdF_at C k n i hi]
  · rw [if_neg hi, List.getElem?_eq_none (by rw [rdF_len]; omega)]
theorem ML.none {L : List Int} {C : List MCe} (h : ML L C) {i : Int} (hi : ((L.length : Nat) : Int) ≤ i) : atP C i = 0 := atP_none ((nIn_iff C i).2 (fun c hc e => by have := (h.1 c hc).1; omega))
theorem ML.grow {L : List Int} {C : List MCe} (h : ML L C) (m : Nat) {n : Int} (hn : n = ((L.length + m : Nat) : Int)) : ML (L ++ List.replicate m 0) (C.filter (szQ n)) := by
  have hf : C.filter (szQ n) = C := List.filter_eq_self.2 (fun c hc => by
    have := (h.1 c hc).1
    unfold szQ
    exact decide_eq_true (by omega))
  rw [hf]
  refine ⟨fun c hc => ?_, fun i hi => ?_⟩
  · have h2 := h.1 c hc
    rw [List.length_append, List.length_replicate]
    exact ⟨by omega, h2.2⟩
  · rw [List.length_append, List.length_replicate] at hi
    by_cases h1 : i < L.length
    · rw [List.getElem?_append_left h1]; exact h.2 i h1
    · rw [List.getElem?_append_right (by omega), List.getElem?_replicate, if_pos (by omega), h.none (by omega)]
theorem ML.shrink {L : List Int} {C : List MCe} (h : ML L C) {m : Nat} {n : Int} (hn : n = ((m : Nat) : Int)) (hm : m ≤ L.length) : ML (L.take m) (C.filter (szQ n)) := by
  refine ⟨fun c hc => ?_, fun i hi => ?_⟩
  · have h1 := List.mem_filter.1 hc
    have h2 := h.1 c h1.1
    have h3 : c.1 < n := by have h4 := h1.2; unfold szQ at h4; exact of_decide_eq_true h4
    rw [List.length_take]
    exact ⟨by omega, h2.2⟩
  · rw [List.length_take] at hi
    rw [List.getElem?_take, if_pos (by omega), h.2 i (by omega), atP_filter (fun c hc e => by unfold szQ; exact decide_eq_true (by omega))]
theorem atP_new (A : List MCe) (k : Nat) (s : ByteArray) (i : Nat) : ∀ n, atP (A ++ newC k s n) ((i : Nat) : Int) = if k ≤ i ∧ i < k + n then ((sbt s (i - k) : Nat) : Int) else atP A ((i : Nat) : Int)
  | 0 => by rw [newC, List.append_nil, if_neg (by omega)]
  | n + 1 => by
    rw [newC, ← List.append_assoc, atP_snoc, atP_new A k s i n]
    by_cases e : i = k + n
    · subst e
      rw [if_pos (by simp), if_pos (by omega)]
      rw [show k + n - k = n by omega]
    · rw [if_neg (by simp; omega)]
      by_cases h : k ≤ i ∧ i < k + n
      · rw [if_pos h, if_pos (by omega)]
      · rw [if_neg h, if_neg (by omega)]
theorem mem_new {k : Nat} {s : ByteArray} {c : MCe} : ∀ {n : Nat}, c ∈ newC k s n → ∃ i, i < n ∧ c = ((((k : Nat) : Int) + ((i : Nat) : Int)), ((sbt s i : Nat) : Int))
  | 0, h => by cases h
  | n + 1, h => by
    rw [newC] at h
    rcases List.mem_append.1 h with h | h
    · obtain ⟨i, hi, e⟩ := mem_new h
      exact ⟨i, by omega, e⟩
    · exact ⟨n, by omega, List.mem_singleton.1 h⟩
theorem over_at (L M : List Int) (k : Nat) (h : k + M.length ≤ L.length) (i : Nat) : (over L k M)[i]? = if k ≤ i ∧ i < k + M.length then M[i - k]? else L[i]? := by
  unfold over
  by_cases h1 : i < k
  · rw [List.getElem?_append_left (by rw [List.length_take]; omega), List.getElem?_take, if_pos h1, if_neg (by omega)]
  · rw [List.getElem?_append_right (by rw [List.length_take]; omega), List.length_take, Nat.min_eq_left (by omega)]
    by_cases h2 : i < k + M.length
    · rw [List.getElem?_append_left (by omega), if_pos (by omega)]
    · rw [List.getElem?_append_right (by omega), List.getElem?_drop, if_neg (by omega)]
      congr 1
      omega
theorem ML.over {L M : List Int} {C : List MCe} (h : ML L C) {k : Nat} {s : ByteArray} (hs : s.size = M.length) (hsb : ∀ i, i < M.length → M[i]? = some ((sbt s i : Nat) : Int)) (hM : ∀ x ∈ M, 0 ≤ x ∧ x < 256) (hk : k + M.length ≤ L.length) : ML (over L k M) (C.filter (wrQ k s.size) ++ newC k s s.size) := by
  have hol := over_length L k M hk
  refine ⟨fun c hc => ?_, fun i hi => ?_⟩
  · rw [hol]
    rcases List.mem_append.1 hc with h1 | h1
    · exact h.1 c (List.mem_filter.1 h1).1
    · obtain ⟨i, hi, e⟩ := mem_new h1
      subst e
      rw [hs] at hi
      have h2 := hM _ (List.mem_of_getElem? (hsb i hi))
      exact ⟨by show 0 ≤ ((k : Nat) : Int) + ((i : Nat) : Int) ∧ ((k : Nat) : Int) + ((i : Nat) : Int) < _; omega, h2⟩
  · rw [hol] at hi
    rw [over_at L M k hk, atP_new, hs]
    by_cases h1 : k ≤ i ∧ i < k + M.length
    · rw [if_pos h1, if_pos h1, hsb _ (by omega)]
    · rw [if_neg h1, if_neg h1, h.2 i hi, atP_filter (fun c hc e => by
        unfold wrQ
        rw [Bool.or_eq_true, decide_eq_true_eq, decide_eq_true_eq]
        omega)]
/-! The sums. -/
def sumA : List MCe → Int
  | [] => 0
  | c :: r => (if nIn r c.1 = true then cP c else 0) + sumA r
def sumT (C : List MCe) : Nat → Int
  | 0 => 0
  | i + 1 => sumT C i + (if nIn (C.drop (i + 1)) (C.getD i zCe).1 = true then cP (C.getD i zCe) else 0)
theorem sumG_T (C : List MCe) : ∀ i, sumG C i = sumT C i % 18446744073709551616
  | 0 => rfl
  | i + 1 => by
    rw [sumG, sumT]
    split
    · rw [sumG_T C i, Int.emod_add_emod]
    · rw [sumG_T C i, Int.add_zero]
theorem sumT_A (C : List MCe) : ∀ k, k ≤ C.length → sumT C k + sumA (C.drop k) = sumA C
  | 0, _ => by rw [sumT, List.drop_zero]; omega
  | k + 1, h => by
    have ih := sumT_A C k (by omega)
    have hd : C.drop k = C.getD k zCe :: C.drop (k + 1) := by
      rw [List.getD_eq_getElem?_getD, List.getElem?_eq_getElem (by omega)]
      exact List.drop_eq_getElem_cons (by omega)
    rw [hd, sumA] at ih
    rw [sumT]
    omega
def sumS (f : Nat → Int) : Nat → Int
  | 0 => 0
  | n + 1 => sumS f n + f n * (((n : Nat) : Int) + 1)
theorem sumS_add (f g h : Nat → Int) (hf : ∀ i, h i = f i + g i) : ∀ n, sumS h n = sumS f n + sumS g n
  | 0 => rfl
  | n + 1 => by
    rw [sumS, sumS, sumS, sumS_add f g h hf n, hf n, Int.add_mul]
    omega
theorem sumS_one (a : Nat) (v : Int) : ∀ n, sumS (fun i => if i = a then v else 0) n = if a < n then v * (((a : Nat) : Int) + 1) else 0
  | 0 => by rw [sumS, if_neg (by omega)]
  | n + 1 => by
    rw [sumS, sumS_one a v n]
    by_cases e : n = a
    · subst e
      rw [if_neg (by omega), if_pos (by omega)]
      simp
    · rw [if_neg e]
      by_cases h : a < n
      · rw [if_pos h, if_pos (by omega)]; omega
      · rw [if_neg h, if_neg (by omega)]; omega
theorem sumS_zero : ∀ n, sumS (fun _ => 0) n = 0
  | 0 => rfl
  | n + 1 => by rw [sumS, sumS_zero n]; omega
theorem sumS_A (n : Nat) : ∀ C : List MCe, (∀ c ∈ C, 0 ≤ c.1 ∧ c.1 < ((n : Nat) : Int)) → sumS (fun i => atP C ((i : Nat) : Int)) n = sumA C
  | [], _ => sumS_zero n
  | c :: r, h => by
    have hc := h c (List.mem_cons_self ..)
    have ih := sumS_A n r (fun d hd => h d (List.mem_cons_of_mem _ hd))
    obtain ⟨a, ha⟩ : ∃ a : Nat, c.1 = ((a : Nat) : Int) := ⟨c.1.toNat, by omega⟩
    rw [sumS_add (fun i => atP r ((i : Nat) : Int)) (fun i => if i = a then (if nIn r c.1 = true then c.2 else 0) else 0) _ (fun i => ?_) n, ih, sumS_one, if_pos (by omega), sumA]
    · unfold cP
      rw [ha]
      split
      · omega
      · simp
    · rw [atP_cons]
      by_cases e : i = a
      · subst e
        rw [if_pos rfl, ← ha]
        by_cases hn : nIn r c.1 = true
        · rw [if_pos ⟨hn, rfl⟩, if_pos hn]
        · rw [if_neg (fun e => hn e.1), if_neg hn]
      · rw [if_neg e, if_neg (fun e2 => e (by have := e2.2; omega))]
theorem sumF_S (L : List Int) (f : Nat → Int) (h : ∀ i, i < L.length → L[i]? = some (f i)) : sumF L 0 = sumS f L.length := by
  have key : ∀ n, n ≤ L.length → sumF (L.take n) 0 = sumS f n := by
    intro n
    induction n with
    | zero => intro _; rfl
    | succ n ih =>
      intro hn
      have h1 := sumF_take L n (by omega)
      rw [h1, ih (by omega), sumS, List.getD_eq_getElem?_getD, h n (by omega)]
      rfl
  have := key L.length (Nat.le_refl _)
  rw [List.take_length] at this
  exact this
theorem ML.sum {L : List Int} {C : List MCe} (h : ML L C) : sumF L 0 % 18446744073709551616 = sumG C C.length := by
  rw [sumG_T, sumF_S L _ h.2, sumS_A L.length C (fun c hc => (h.1 c hc).1)]
  have := sumT_A C C.length (Nat.le_refl _)
  rw [List.drop_length] at this
  rw [← this]
  simp [sumA]
end Go.Proofs.Ytmcmickgllffoaa
