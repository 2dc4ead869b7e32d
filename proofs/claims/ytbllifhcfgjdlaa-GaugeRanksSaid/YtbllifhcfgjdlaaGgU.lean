/- What is proved here: what a gauge tells is what the reference tells: plain. -/
import Derived.Test.YtbllifhcfgjdlaaGgT
namespace Go.Proofs.Ytbllifhcfgjdlaa
open Go.RowKit FltT
set_option linter.unusedVariables false
set_option linter.unusedSimpArgs false
def keyN (x : Nat) : Int := kindN x * 18446744073709551616 + (if kindN x = 5 then (frung x : Int) else if kindN x = 2 then -(frung x : Int) else 0)
theorem frung_lt (x : Nat) : frung x < 9223372036854775808 := Nat.mod_lt _ (by decide)
theorem ord_key (x y : Nat) : (ordN x y < 0 ↔ keyN x < keyN y) ∧ (0 < ordN x y ↔ keyN y < keyN x) := by
  have h1 := frung_lt x
  have h2 := frung_lt y
  unfold ordN cmpN keyN
  rcases Int.lt_trichotomy (kindN x) (kindN y) with h | h | h
  · rw [if_pos h]
    constructor <;> (repeat' split) <;> omega
  · rw [h]
    simp only [Int.lt_irrefl, if_false]
    by_cases h5 : kindN y = 2
    · simp only [h5, if_true, Int.reduceEq, if_false]
      constructor <;> (repeat' split) <;> omega
    · by_cases h6 : kindN y = 5
      · simp only [h6, if_true, Int.reduceEq, if_false]
        constructor <;> (repeat' split) <;> omega
      · simp only [h5, h6, if_false]
        constructor <;> omega
  · rw [if_neg (by omega), if_pos h]
    constructor <;> (repeat' split) <;> omega
theorem key_inj {x y : Nat} (hx : x < 18446744073709551616) (hy : y < 18446744073709551616) (h0 : kindN x ≠ 0) (h : keyN x = keyN y) : x = y := by
  have b1 := bits_eq hx
  have b2 := bits_eq hy
  have h1 := frung_lt x
  have h2 := frung_lt y
  have hk : kindN x = kindN y := by
    unfold keyN at h
    revert h
    repeat' split
    all_goals omega
  unfold keyN at h
  rw [← hk] at h
  have hy := kind_cases y
  rw [← hk] at hy
  rcases kind_cases x with c | c | c | c | c | c | c
  all_goals
    first
    | (exfalso; omega)
    | rw [c.1] at hy h
      simp only [Int.reduceEq, false_and, false_or, or_false, true_and, if_true, if_false] at hy h
      simp only [c, hy, if_true, if_false, Bool.false_eq_true] at b1 b2
      omega
theorem nan_kind {x : Nat} : kindN x = 0 ↔ isNan x := by
  rcases kind_cases x with c | c | c | c | c | c | c
  · exact ⟨fun _ => c.2, fun _ => c.1⟩
  all_goals
    unfold isNan
    constructor
    · intro h; omega
    · intro h; omega
theorem atN_zero {r : List Nat} {x : Nat} : ∀ {n : Nat}, (∀ i, i < n → 0 < ordN (r.getD i 0) x) → atN r x n = 0
  | 0, _ => rfl
  | n + 1, h => by
    rw [atN, if_pos (h n (by omega))]
    exact atN_zero (fun i hi => h i (by omega))
theorem atN_pos {r : List Nat} {x : Nat} (h : ¬ 0 < ordN (r.getD 0 0) x) : ∀ {n : Nat}, 0 < n → 1 ≤ atN r x n
  | n + 1, _ => by
    rw [atN]
    split
    · rename_i hc
      cases n with
      | zero => exact absurd hc h
      | succ n => exact atN_pos h (by omega)
    · omega
/-- The first is the least. -/
def HD (r : List Nat) : Prop := ∀ e ∈ r, keyN (r.getD 0 0) ≤ keyN e
theorem insS_head {r : List Nat} {x : Nat} (hr : HD r) (h0 : 0 < r.length) : (insS r x).getD 0 0 = if keyN x < keyN (r.getD 0 0) then x else r.getD 0 0 := by
  have hg : ∀ i, i < r.length → r.getD i 0 ∈ r := by
    intro i hi
    rw [List.getD_eq_getElem?_getD, List.getElem?_eq_getElem hi]
    exact List.getElem_mem hi
  unfold insS
  by_cases h : keyN x < keyN (r.getD 0 0)
  · rw [if_pos h, atN_zero (fun i hi => (ord_key _ _).2.2 (Int.lt_of_lt_of_le h (hr _ (hg i hi))))]
    rfl
  · rw [if_neg h]
    have h1 := atN_pos (r := r) (x := x) (fun hc => h ((ord_key _ _).2.1 hc)) h0
    obtain ⟨q, hq⟩ : ∃ q, atN r x r.length = q + 1 := ⟨atN r x r.length - 1, by omega⟩
    rw [hq]
    cases r with
    | nil => simp at h0
    | cons y ys => rfl
theorem insS_mem {r : List Nat} {x e : Nat} (h : e ∈ insS r x) : e = x ∨ e ∈ r := by
  unfold insS at h
  simp only [List.mem_append, List.mem_cons, List.not_mem_nil, or_false] at h
  rcases h with (h | h) | h
  · exact .inr (List.mem_of_mem_take h)
  · exact .inl h
  · exact .inr (List.mem_of_mem_drop h)
theorem insS_nil (x : Nat) : insS [] x = [x] := rfl
theorem insS_HD {r : List Nat} (x : Nat) (hr : HD r) : HD (insS r x) := by
  intro e he
  cases hl : r.length with
  | zero =>
    obtain rfl := List.eq_nil_of_length_eq_zero hl
    rw [insS_nil] at he ⊢
    simp only [List.mem_cons, List.not_mem_nil, or_false] at he
    rw [he]; exact Int.le_refl _
  | succ n =>
    rw [insS_head hr (by omega)]
    rcases insS_mem he with h | h
    · rw [h]; split <;> omega
    · have := hr e h
      split <;> omega
theorem insS_last {r : List Nat} {x : Nat} (h0 : 0 < r.length) : (insS r x).getD ((insS r x).length - 1) 0 = if 0 < ordN (r.getD (r.length - 1) 0) x then r.getD (r.length - 1) 0 else x := by
  rw [insS_len, Nat.add_sub_cancel]
  have hle := atN_le r x r.length
  obtain ⟨n, hn⟩ : ∃ n, r.length = n + 1 := ⟨r.length - 1, by omega⟩
  have hq : atN r x r.length = if 0 < ordN (r.getD n 0) x then atN r x n else n + 1 := by rw [hn, atN]
  rw [hn, Nat.add_sub_cancel]
  unfold insS
  rw [List.getD_eq_getElem?_getD]
  by_cases hc : 0 < ordN (r.getD n 0) x
  · rw [if_pos hc]
    rw [if_pos hc] at hq
    have h2 := atN_le r x n
    rw [hq]
    rw [List.getElem?_append_right (by simp only [List.length_append, List.length_take, List.length_cons, List.length_nil]; omega)]
    rw [List.getElem?_drop]
    simp only [List.length_append, List.length_take, List.length_cons, List.length_nil]
    rw [show atN r x n + (n + 1 - (min (atN r x n) r.length + (0 + 1))) = n by omega, List.getD_eq_getElem?_getD]
  · rw [if_neg hc]
    rw [if_neg hc] at hq
    rw [hq, ← hn, List.take_length, List.drop_length, List.append_nil, List.getElem?_append_right (by omega), Nat.sub_self]
    rfl
theorem fold_HD : ∀ (l r : List Nat), HD r → HD (l.foldl insS r)
  | [], _, h => h
  | x :: l, r, h => fold_HD l _ (insS_HD x h)
theorem sortP_HD (l : List Nat) : HD (sortP l) := fold_HD l [] (fun e he => by cases he)
theorem sortP_snoc (l : List Nat) (x : Nat) : sortP (l ++ [x]) = insS (sortP l) x := by unfold sortP; rw [List.foldl_append]; rfl
theorem nums_snoc (l : List Nat) (x : Nat) : numsL (l ++ [x]) = if isNan x then numsL l else numsL l ++ [x] := by
  unfold numsL
  rw [List.filter_append]
  by_cases h : isNan x
  · rw [if_pos h]; simp [nan_kind.2 h]
  · have hk : kindN x ≠ 0 := fun hk => h (nan_kind.1 hk)
    rw [if_neg h]; simp [hk]
/-- A gauge that has taken the list L. -/
structure GS (L : List Nat) (n o m M s : Nat) : Prop where
  nE : n = L.length
  oE : o + (numsL L).length = n
  mE : m < 18446744073709551616
  ME : M < 18446744073709551616
  sE : s < 18446744073709551616
  sum : SumR (numsL L) s
  least : 0 < (numsL L).length → m = (sortP (numsL L)).getD 0 0
  most : 0 < (numsL L).length → M = (sortP (numsL L)).getD ((sortP (numsL L)).length - 1) 0
theorem gs_nil : GS [] 0 0 0 0 0 := ⟨rfl, rfl, by decide, by decide, by decide, .nil, fun h => absurd h (by decide), fun h => absurd h (by decide)⟩
theorem gs_step {L : List Nat} {x n o m M s n2 o2 m2 M2 s2 : Nat} (h : GS L n o m M s) (hx : x < 18446744073709551616) (hL : allW L) (ha : AddR x n o m M s n2 o2 m2 M2 s2) : GS (L ++ [x]) n2 o2 m2 M2 s2 := by
  obtain ⟨h1, h2⟩ := ha
  have hns := nums_snoc L x
  have ho := h.oE
  by_cases hn : isNan x
  · rw [if_pos hn] at h2 hns
    obtain ⟨rfl, rfl, rfl, rfl⟩ := h2
    refine ⟨by rw [List.length_append, h1, h.nE]; rfl, by rw [hns]; omega, h.mE, h.ME, h.sE, by rw [hns]; exact h.sum, by rw [hns]; exact h.least, by rw [hns]; exact h.most⟩
  · rw [if_neg hn] at h2 hns
    obtain ⟨rfl, e2, e3, e4⟩ := h2
    have hsl := sortP_len (numsL L)
    have hnl := congrArg List.length hns
    rw [List.length_append] at hnl
    simp only [List.length_cons, List.length_nil] at hnl
    refine ⟨by rw [List.length_append, h1, h.nE]; rfl, by omega, ?_, ?_, e4.1, by rw [hns]; exact .snoc h.sum e4, fun _ => ?_, fun _ => ?_⟩
    · rw [e2]; split
      · exact hx
      · exact h.mE
    · rw [e3]; split
      · exact hx
      · exact h.ME
    · rw [hns, sortP_snoc, e2]
      by_cases h0 : 0 < (numsL L).length
      · rw [insS_head (sortP_HD _) (by omega), ← h.least h0]
        have hk := (ord_key x m).1
        by_cases hc : keyN x < keyN m
        · rw [if_pos hc, if_pos (.inr (hk.2 hc))]
        · rw [if_neg hc, if_neg (fun hd => hd.elim (fun hd => by omega) (fun hd => hc (hk.1 hd)))]
      · rw [List.eq_nil_of_length_eq_zero (show (numsL L).length = 0 by omega), if_pos (.inl (by omega))]; rfl
    · rw [hns, sortP_snoc, e3]
      by_cases h0 : 0 < (numsL L).length
      · rw [insS_last (by omega), ← h.most h0]
        have hk := (ord_key x M).2
        have hk2 := (ord_key M x).2
        by_cases hc : 0 < ordN M x
        · have := ord_anti M x
          rw [if_pos hc, if_neg (by omega)]
        · rw [if_neg hc]
          by_cases hd : 0 < ordN x M
          · rw [if_pos (.inr hd)]
          · rw [if_neg (by omega)]
            refine (key_inj hx h.ME (fun hk => hn (nan_kind.1 hk)) ?_).symm
            have a1 : ¬ keyN M < keyN x := fun hh => hd (hk.2 hh)
            have a2 : ¬ keyN x < keyN M := fun hh => hc (hk2.2 hh)
            omega
      · rw [List.eq_nil_of_length_eq_zero (show (numsL L).length = 0 by omega), if_pos (.inl (by omega))]; rfl
theorem add_nanL {x y r : Nat} (hx : isNan x) (h : FRes .add x y r) : isNan r := h.nan (by
  show D.add x y = none
  obtain ⟨s, f, e⟩ := read_nan hx
  unfold Ieee.Format.add
  rw [e]
  cases D.read y <;> rfl)
theorem sub_nanL {x y r : Nat} (hx : isNan x) (h : FRes .sub x y r) : isNan r := h.nan (by
  show D.sub x y = none
  obtain ⟨s, f, e⟩ := read_nan hx
  unfold Ieee.Format.sub
  rw [e]
  cases D.read y <;> rfl)
theorem div_nanL {x y r : Nat} (hx : isNan x) (h : FRes .quo x y r) : isNan r := h.nan (by
  show D.div x y = none
  obtain ⟨s, f, e⟩ := read_nan hx
  unfold Ieee.Format.div
  rw [e]
  cases D.read y <;> rfl)
theorem SumR.inv {L : List Nat} {r : Nat} (h : SumR L r) : (L = [] ∧ r = 0) ∨ ∃ l y s, L = l ++ [y] ∧ SumR l s ∧ FRes .add s y r := by
  cases h with
  | nil => exact .inl ⟨rfl, rfl⟩
  | snoc h1 h2 => exact .inr ⟨_, _, _, rfl, h1, h2⟩
theorem sum_det {L : List Nat} {s t : Nat} (h : SumR L s) : ∀ {t : Nat}, SumR L t → s = t ∨ (isNan s ∧ isNan t) := by
  induction h with
  | nil =>
    intro t ht
    rcases ht.inv with ⟨_, h⟩ | ⟨l, y, s, e, _⟩
    · exact .inl h.symm
    · simp at e
  | snoc h1 h2 ih =>
    intro t ht
    rcases ht.inv with ⟨e, _⟩ | ⟨l, y, s, e, h3, h4⟩
    · simp at e
    · obtain ⟨rfl, e2⟩ := List.append_inj' e rfl
      obtain rfl : _ = y := by simpa using e2
      rcases ih h3 with rfl | ⟨n1, n2⟩
      · rcases h2.2 with q | q
        · exact .inl (h4.det q).symm
        · exact .inr ⟨q.2, h4.nan q.1⟩
      · exact .inr ⟨add_nanL n1 h2, add_nanL n2 h4⟩
def NaNc : Nat := 9221120237041090561
theorem nanc : isNan 9221120237041090561 := by decide
section
variable {L : List Nat} {n o m M s : Nat}
theorem tell_least (h : GS L n o m M s) {r : Nat} (hr : LR n o m r) : sameB r (if (numsL L).length = 0 then 9221120237041090561 else (sortP (numsL L)).getD 0 0) = true := by
  have ho := h.oE
  by_cases h0 : (numsL L).length = 0
  · rw [if_pos h0]
    have h2 := hr.2; rw [if_pos (by omega)] at h2
    exact same_nan h2 nanc
  · rw [if_neg h0]
    have h2 := hr.2; rw [if_neg (by omega)] at h2
    rw [h2, h.least (by omega)]; exact same_self _
theorem tell_most (h : GS L n o m M s) {r : Nat} (hr : LR n o M r) : sameB r (if (numsL L).length = 0 then 9221120237041090561 else (sortP (numsL L)).getD ((sortP (numsL L)).length - 1) 0) = true := by
  have ho := h.oE
  by_cases h0 : (numsL L).length = 0
  · rw [if_pos h0]
    have h2 := hr.2; rw [if_pos (by omega)] at h2
    exact same_nan h2 nanc
  · rw [if_neg h0]
    have h2 := hr.2; rw [if_neg (by omega)] at h2
    rw [h2, h.most (by omega)]; exact same_self _
theorem tell_sum (h : GS L n o m M s) {t : Nat} (ht : SumR (numsL L) t) : sameB s t = true := by
  rcases sum_det (t := t) h.sum ht with rfl | ⟨h1, h2⟩
  · exact same_self _
  · exact same_nan h1 h2
theorem tell_mean (h : GS L n o m M s) {t c r1 r2 : Nat} (ht : SumR (numsL L) t) (h1 : FRes .quo s c r1) (h2 : FRes .quo t c r2) : sameB r1 r2 = true := by
  rcases sum_det (t := t) h.sum ht with rfl | ⟨h3, h4⟩
  · exact same_res h1 h2
  · exact same_nan (div_nanL h3 h1) (div_nanL h4 h2)
theorem tell_spread (h : GS L n o m M s) {fa fb r1 r2 : Nat} (ha : LR n o M fa) (hb : LR n o m fb) (h1 : FRes .sub fa fb r1)
    (h2 : FRes .sub (if (numsL L).length = 0 then 9221120237041090561 else (sortP (numsL L)).getD ((sortP (numsL L)).length - 1) 0) (if (numsL L).length = 0 then 9221120237041090561 else (sortP (numsL L)).getD 0 0) r2) : sameB r1 r2 = true := by
  have ho := h.oE
  by_cases h0 : (numsL L).length = 0
  · rw [if_pos h0] at h2
    have ha2 := ha.2; rw [if_pos (by omega)] at ha2
    exact same_nan (sub_nanL ha2 h1) (sub_nanL nanc h2)
  · rw [if_neg h0, if_neg h0] at h2
    have ha2 := ha.2; rw [if_neg (by omega)] at ha2
    have hb2 := hb.2; rw [if_neg (by omega)] at hb2
    rw [ha2, hb2, h.most (by omega), h.least (by omega)] at h1
    exact same_res h1 h2
theorem gs_zero (h : GS L n o m M s) (hL : L.length = 0) : n = o ∧ n - o = 0 ∧ s = 0 := by
  obtain rfl := List.eq_nil_of_length_eq_zero hL
  have h1 := h.nE
  have h2 := h.oE
  simp only [List.length_nil] at h1
  refine ⟨by have : (numsL []).length = 0 := rfl; omega, by omega, ?_⟩
  rcases h.sum.inv with ⟨_, h⟩ | ⟨l, y, t, e, _⟩
  · exact h
  · simp [numsL] at e
theorem tell_none {r : Nat} (h : LR n o m r) (e : n = o) : isNan r := by
  have := h.2; rw [if_pos e] at this; exact this
theorem tell_none2 {s k r : Nat} (h : FRes .quo s (floatOfInt .f64 ((k : Nat) : Int)) r) (e : k = 0) (e2 : s = 0) : isNan r := by
  subst e e2; exact h.nan (by decide +kernel)
theorem sumR_lt {L : List Nat} {r : Nat} (h : SumR L r) : r < 18446744073709551616 := by
  cases h with
  | nil => decide
  | snoc _ h2 => exact h2.1
end
end Go.Proofs.Ytbllifhcfgjdlaa
