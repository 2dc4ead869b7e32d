/- What is proved here: bars, plain. -/
import Derived.Test.YtbllifhcfgjdlaaGgK
namespace Go.Proofs.Ytbllifhcfgjdlaa
open Go.RowKit FltT
set_option linter.unusedVariables false
set_option linter.unusedSimpArgs false
/-- the bar of v of the unit interval -/
def cutI (k v : Nat) : Nat := match floatBits .mul .f64 v (floatOfInt .f64 ((k : Nat) : Int)) with
  | some r => (match floatToIntVal .f64 r .i64 with
    | some n => n.toNat
    | none => 0)
  | none => 0
def geOne (v : Nat) : Bool := ford v 4607182418800017408 == some .gt || ford v 4607182418800017408 == some .eq
def gtZero (v : Nat) : Bool := ford v 0 == some .gt
def barI (k v : Nat) : Nat := if geOne v = true then k - 1 else if gtZero v = true then (if cutI k v ≤ k - 1 then cutI k v else k - 1) else 0
def bumpL (b : List Int) (i : Nat) : List Int := b.set i (b.getD i 0 + 1)
def barsStep (k : Nat) (b : List Int) (v : Nat) : List Int := if kindN v = 0 then b else bumpL b (barI k v)
def barsP (k : Nat) (l : List Nat) : List Int := l.foldl (barsStep k) (List.replicate k 0)
theorem bump_len (b : List Int) (i : Nat) : (bumpL b i).length = b.length := by simp [bumpL]
theorem step_len (k : Nat) (b : List Int) (v : Nat) : (barsStep k b v).length = b.length := by
  unfold barsStep; split
  · rfl
  · exact bump_len _ _
theorem bars_fold_len (k : Nat) : ∀ (l : List Nat) (b : List Int), (l.foldl (barsStep k) b).length = b.length
  | [], _ => rfl
  | x :: l, b => by rw [List.foldl_cons, bars_fold_len k l, step_len]
theorem barsP_len (k : Nat) (l : List Nat) : (barsP k l).length = k := by unfold barsP; rw [bars_fold_len]; simp
theorem barsP_step {k : Nat} {l : List Nat} {i y : Nat} (h : l[i]? = some y) : barsP k (l.take (i + 1)) = barsStep k (barsP k (l.take i)) y := by
  unfold barsP
  rw [List.take_add_one, h, List.foldl_append]
  rfl
def BB (b : List Int) (i : Nat) : Prop := ∀ j, 0 ≤ b.getD j 0 ∧ b.getD j 0 ≤ (i : Int)
theorem getDi_set (b : List Int) (i j : Nat) (x : Int) : (b.set i x).getD j 0 = if j = i ∧ i < b.length then x else b.getD j 0 := by
  rw [List.getD_eq_getElem?_getD, List.getElem?_set, List.getD_eq_getElem?_getD]
  by_cases h : i = j
  · subst h
    by_cases h2 : i < b.length
    · simp [h2]
    · simp [h2]
  · rw [if_neg h, if_neg (fun hh => h hh.1.symm)]
theorem bb_step {k : Nat} {b : List Int} {v i : Nat} (h : BB b i) : BB (barsStep k b v) (i + 1) := by
  intro j
  have h1 := h j
  unfold barsStep
  split
  · omega
  · unfold bumpL
    rw [getDi_set]
    have h2 := h (barI k v)
    split <;> omega
theorem bb_bars (k : Nat) (l : List Nat) : ∀ i, BB (barsP k (l.take i)) i
  | 0 => fun j => by
    rw [List.take_zero]
    unfold barsP
    rw [List.foldl_nil, List.getD_eq_getElem?_getD, List.getElem?_replicate]
    split <;> simp
  | i + 1 => by
    by_cases hi : i < l.length
    · rw [barsP_step (List.getElem?_eq_getElem hi)]; exact bb_step (bb_bars k l i)
    · have := bb_bars k l i
      rw [List.take_of_length_le (by omega)] at this ⊢
      intro j; have := this j; omega
theorem barI_lt {k v : Nat} (hk : 0 < k) : barI k v < k := by
  unfold barI
  repeat' split
  all_goals omega
theorem sum_set (b : List Int) (i : Nat) (h : i < b.length) (x : Int) : (b.set i x).sum = b.sum - b.getD i 0 + x := by
  induction b generalizing i with
  | nil => simp at h
  | cons y ys ih =>
    cases i with
    | zero => simp [List.sum_cons]; omega
    | succ i =>
      simp only [List.set_cons_succ, List.sum_cons]
      rw [ih i (by simpa using h)]
      have : (y :: ys).getD (i + 1) 0 = ys.getD i 0 := by simp [List.getD_eq_getElem?_getD]
      rw [this]; omega
theorem sum_bars {k : Nat} (hk : 0 < k) (l : List Nat) : ∀ b : List Int, b.length = k → (l.foldl (barsStep k) b).sum = b.sum + ((numsL l).length : Nat) := by
  induction l with
  | nil => intro b _; simp [numsL]
  | cons x l ih =>
    intro b hb
    rw [List.foldl_cons, ih _ (by rw [step_len, hb])]
    unfold barsStep numsL
    by_cases h : kindN x = 0
    · rw [if_pos h]; simp [h]
    · rw [if_neg h]
      unfold bumpL
      rw [sum_set _ _ (by rw [hb]; exact barI_lt hk)]
      simp [h]
      omega
theorem sum_barsP {k : Nat} (hk : 0 < k) (l : List Nat) : (barsP k l).sum = ((numsL l).length : Nat) := by
  unfold barsP
  rw [sum_bars hk l _ (by simp)]
  have : ∀ n : Nat, (List.replicate n (0 : Int)).sum = 0 := by
    intro n; induction n with
    | zero => rfl
    | succ n ih => rw [List.replicate_succ, List.sum_cons, ih]; rfl
  rw [this]; omega
theorem unit_of {v : Nat} (h1 : ¬ isNan v) (h2 : gtZero v = true) (h3 : geOne v = false) : goodQ v = true := by
  unfold gtZero at h2
  unfold geOne at h3
  unfold goodQ
  obtain ⟨o, e⟩ := ford_some (y := 4607182418800017408) h1 (by decide)
  rw [e] at h3 ⊢
  rw [h2]
  cases o <;> first | rfl | (exfalso; revert h3; decide)
theorem cutI_eq {k v r t : Nat} (h1 : floatBits .mul .f64 v (floatOfInt .f64 ((k : Nat) : Int)) = some r) (h2 : floatToIntVal .f64 r .i64 = some ((t : Nat) : Int)) : cutI k v = t := by
  unfold cutI; rw [h1]; dsimp only; rw [h2]; rfl
theorem one_zero {v : Nat} (h : geOne v = true) : gtZero v = true := by
  unfold geOne at h
  have hn : ¬ isNan v := fun hn => by rw [ford_nan hn] at h; simp at h
  unfold gtZero
  rw [fgtz, decide_eq_true_eq]
  refine ⟨hn, ?_, ?_⟩
  · intro h0
    unfold isNan at hn
    unfold ford at h
    rw [order_fin (by omega) (by decide)] at h
    unfold fsv at h
    rw [h0, fval_zero] at h
    revert h
    cases fneg v <;> decide +kernel
  · cases hs : fneg v
    · rfl
    · exfalso
      unfold isNan at hn
      unfold ford at h
      by_cases hi : frung v = 9218868437227405312
      · rw [order_infL hi (by decide), hs] at h; simp at h
      · rw [order_fin (by omega) (by decide)] at h
        unfold fsv at h
        rw [hs] at h
        have hp : (0 : Int) < (fval (frung 4607182418800017408) : Int) := by decide +kernel
        rw [show fneg 4607182418800017408 = false from by decide] at h
        simp only [if_true, Bool.false_eq_true, if_false] at h
        generalize (fval (frung 4607182418800017408) : Int) = G at *
        unfold compare at h
        simp only [instOrdInt, compareOfLessAndEq] at h
        rw [if_pos (by omega)] at h
        simp at h
end Go.Proofs.Ytbllifhcfgjdlaa
