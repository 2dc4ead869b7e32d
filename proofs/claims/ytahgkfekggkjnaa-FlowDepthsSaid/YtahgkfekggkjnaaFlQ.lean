/- What is proved here: plain laws of blocks: depths, ends, elses; how blocks lie. -/
import Derived.Test.YtahgkfekggkjnaaFlP
namespace Go.Proofs.Ytahgkfekggkjnaa
open Go.RowKit
set_option linter.unusedVariables false
set_option linter.unusedSimpArgs false

theorem sh_last (ops : List Int) (hs : shapeP ops = 0) {n : Nat} (hn : n + 1 = ops.length) : ops.getD n 0 = 11 ∧ stN ops n = [] := by
  have hd := drop_getD (l := ops) (n := n) (by omega)
  have h := stN_sh ops hs n (by omega)
  unfold ShP at h
  rcases h with h | ⟨xs, h1, h2, h3⟩
  · omega
  · rw [hd, List.drop_eq_nil_of_le (show ops.length ≤ n + 1 by omega), shR] at h1
    split at h1
    · cases h1
    · split at h1
      · split at h1 <;> cases h1
      · split at h1
        · rename_i h11
          split at h1
          · exact ⟨h11, List.eq_nil_of_length_eq_zero (by omega)⟩
          · cases h1
        · cases h1

theorem sh_empty (ops : List Int) (hs : shapeP ops = 0) {n : Nat} (hn : n < ops.length) (ho : ops.getD n 0 = 11 ∨ ops.getD n 0 = 5) (he : stN ops n = []) : n + 1 = ops.length := by
  have hd := drop_getD (l := ops) (n := n) hn
  have h := stN_sh ops hs n (by omega)
  have hno : ¬ opensI (ops.getD n 0) = true := fun h => by have := opens_ne h; omega
  rw [he] at h
  rcases ho with ho | ho
  · have h2 := h.other hd hno (by omega) (by simp)
    unfold ShP at h h2
    rcases h with h | ⟨xs, h1, h2', h3⟩
    · omega
    · rw [hd, shR, if_neg hno, if_neg (by omega), if_pos ho, if_pos (by simp at h2'; omega)] at h1
      split at h1
      · rename_i hq; simp only [decide_eq_true_eq] at hq; omega
      · cases h1
  · have := h.pos hd hno ho
    simp at this

def closing (o : Int) : Int := if o = 11 ∨ o = 5 then 1 else 0

theorem dlR_at (ops : List Int) (hs : shapeP ops = 0) : ∀ (k n : Nat), n + k = ops.length → ∀ i, n ≤ i → i < ops.length → (dlR (ops.drop n) (stN ops n).length).getD (i - n) 0 = (stN ops i).length - closing (ops.getD i 0)
  | 0, n, hk, i, h1, h2 => by omega
  | k + 1, n, hk, i, h1, h2 => by
    have hd := drop_getD (l := ops) (n := n) (by omega)
    have ih := dlR_at ops hs k (n + 1) (by omega)
    rw [hd, dlR]
    by_cases hi : i = n
    · subst hi
      rw [Nat.sub_self]
      unfold closing
      split <;> split <;> simp
    · rw [show i - n = (i - (n + 1)) + 1 by omega]
      have ih := ih i (by omega) h2
      rw [show stN ops (n + 1) = stepS (ops.getD n 0) n (stN ops n) from rfl] at ih
      unfold stepS at ih
      by_cases ho : opensI (ops.getD n 0) = true
      · have := opens_ne ho
        rw [if_pos ho] at ih
        rw [if_neg (by omega), if_pos (.inl ho), List.getD_cons_succ]
        simpa using ih
      · rw [if_neg ho] at ih
        by_cases h5 : ops.getD n 0 = 5
        · rw [if_neg (by omega)] at ih
          rw [if_pos (.inr h5), if_pos (.inr h5), List.getD_cons_succ, show ((stN ops n).length : Int) - 1 + 1 = (stN ops n).length by omega]
          exact ih
        · by_cases h11 : ops.getD n 0 = 11
          · rw [if_pos h11, List.length_tail] at ih
            rw [if_pos (.inl h11), if_neg (show ¬ (opensI (ops.getD n 0) = true ∨ ops.getD n 0 = 5) from fun h => h.elim ho h5), List.getD_cons_succ]
            have hne : stN ops n ≠ [] := fun he => by have := sh_empty ops hs (by omega) (.inl h11) he; omega
            have := List.length_pos_iff.2 hne
            rw [show ((stN ops n).length : Int) - 1 = ((stN ops n).length - 1 : Nat) by omega]
            exact ih
          · rw [if_neg h11] at ih
            rw [if_neg (by omega), if_neg (show ¬ (opensI (ops.getD n 0) = true ∨ ops.getD n 0 = 5) from fun h => h.elim ho h5), List.getD_cons_succ]
            exact ih

open Classical in
theorem dcR_count (ops : List Int) (hs : shapeP ops = 0) (at0 : Nat) (ha : at0 < ops.length) : ∀ k, k ≤ at0 → dcR ops at0 k = ((stN ops at0).countP (fun j => decide (j < k ∧ cntB ops at0 j)) : Nat)
  | 0, _ => by
    have : (stN ops at0).countP (fun j => decide (j < 0 ∧ cntB ops at0 j)) = 0 := by
      rw [List.countP_eq_zero]; intro j _; simp
    rw [this]; rfl
  | k + 1, hk => by
    have ih := dcR_count ops hs at0 ha k (by omega)
    have hnd := stN_nodup ops at0
    have hci := cntB_iff ops hs at0 k ha (by omega)
    have split2 : (stN ops at0).countP (fun j => decide (j < k + 1 ∧ cntB ops at0 j)) = (stN ops at0).countP (fun j => decide (j < k ∧ cntB ops at0 j)) + (stN ops at0).countP (fun j => decide (j = k ∧ cntB ops at0 j)) := by
      have : ∀ l : List Nat, l.countP (fun j => decide (j < k + 1 ∧ cntB ops at0 j)) = l.countP (fun j => decide (j < k ∧ cntB ops at0 j)) + l.countP (fun j => decide (j = k ∧ cntB ops at0 j)) := by
        intro l
        induction l with
        | nil => rfl
        | cons x l ih =>
          simp only [List.countP_cons, ih, decide_eq_true_eq]
          by_cases h1 : x < k
          · have h2 : x < k + 1 := by omega
            have h3 : x ≠ k := by omega
            simp only [h1, h2, h3, true_and, false_and, if_false]; split <;> omega
          · by_cases h3 : x = k
            · subst h3
              simp only [Nat.lt_irrefl, Nat.lt_succ_self, true_and, false_and, if_false]; split <;> omega
            · have h2 : ¬ x < k + 1 := by omega
              simp only [h1, h2, h3, false_and, if_false]; omega
      exact this _
    have one : (stN ops at0).countP (fun j => decide (j = k ∧ cntB ops at0 j)) = if cntB ops at0 k then 1 else 0 := by
      split
      · rename_i hc
        have hm := (hci.1 hc).1
        have : (stN ops at0).countP (fun j => decide (j = k ∧ cntB ops at0 j)) = (stN ops at0).count k := by
          unfold List.count
          apply List.countP_congr
          intro x _
          simp only [decide_eq_true_eq, beq_iff_eq]
          exact ⟨fun h => h.1, fun h => ⟨h, by rw [h]; exact hc⟩⟩
        rw [this]; rw [hnd.count, if_pos hm]
      · rename_i hc
        rw [List.countP_eq_zero]
        intro x _
        simp only [decide_eq_true_eq]
        rintro ⟨rfl, h⟩
        exact hc h
    rw [split2, one, dcR_eq, ih]
    have e : cntB ops at0 k ↔ (opensI (ops.getD k 0) = true ∧ (at0 : Int) < (seekP ops k).1 ∧ (at0 : Int) ≠ (seekP ops k).2) := Iff.rfl
    by_cases h1 : opensI (ops.getD k 0) = true
    · by_cases h2 : (at0 : Int) < (seekP ops k).1 ∧ (at0 : Int) ≠ (seekP ops k).2
      · rw [if_pos h1, if_pos h2, if_pos (e.2 ⟨h1, h2⟩)]; omega
      · rw [if_pos h1, if_neg h2, if_neg (fun h => h2 (e.1 h).2)]; omega
    · rw [if_neg h1, if_neg (fun h => h1 (e.1 h).1)]; omega

open Classical in
theorem dcR_st (ops : List Int) (hs : shapeP ops = 0) (at0 : Nat) (ha : at0 < ops.length) : dcR ops at0 at0 = if stN ops at0 = [] then 0 else (stN ops at0).length - closing (ops.getD at0 0) := by
  rw [dcR_count ops hs at0 ha at0 (Nat.le_refl _)]
  have hnd := stN_nodup ops at0
  have hm := stN_mem ops at0
  have hci := fun j hj => cntB_iff ops hs at0 j ha hj
  generalize stN ops at0 = st at *
  cases st with
  | nil => simp
  | cons x xs =>
    rw [if_neg (by simp)]
    have hnx := List.nodup_cons.1 hnd
    have hxs : xs.countP (fun j => decide (j < at0 ∧ cntB ops at0 j)) = xs.length := by
      rw [List.countP_eq_length]
      intro j hj
      simp only [decide_eq_true_eq]
      have hj2 : j ∈ x :: xs := List.mem_cons_of_mem _ hj
      refine ⟨(hm j hj2).1, (hci j (hm j hj2).1).2 ⟨hj2, ?_⟩⟩
      rintro ⟨h1, _⟩
      simp at h1
      subst h1
      exact hnx.1 hj
    rw [List.countP_cons, hxs, List.length_cons]
    have hx := hci x (hm x (by simp)).1
    unfold closing
    by_cases hc : ops.getD at0 0 = 11 ∨ ops.getD at0 0 = 5
    · rw [if_pos hc, if_neg]
      · omega
      · simp only [decide_eq_true_eq]
        rintro ⟨_, h⟩
        exact (hx.1 h).2 ⟨rfl, hc⟩
    · rw [if_neg hc, if_pos]
      · omega
      · simp only [decide_eq_true_eq]
        exact ⟨(hm x (by simp)).1, hx.2 ⟨by simp, fun h => hc h.2⟩⟩

theorem depths_eq (ops : List Int) (hs : shapeP ops = 0) (i : Nat) (hi : i < ops.length) : (depthsP ops).getD i 0 = depthP ops i := by
  have h1 := dlR_at ops hs ops.length 0 (by omega) i (by omega) hi
  rw [List.drop_zero, Nat.sub_zero] at h1
  rw [depthsP, if_neg (by simpa using hs)]
  have h0 : ((stN ops 0).length : Int) = 0 := rfl
  rw [h0] at h1
  rw [h1, depthP, dcR_st ops hs i hi]
  by_cases hl : (i : Int) = (ops.length : Int) - 1
  · obtain ⟨h11, hst⟩ := sh_last ops hs (n := i) (by omega)
    rw [if_pos hl, if_pos hst, hst, closing, if_pos (.inl h11)]; rfl
  · rw [if_neg hl]
    by_cases hst : stN ops i = []
    · rw [if_pos hst, hst, closing, if_neg (fun hc => by have := sh_empty ops hs hi hc hst; omega)]; rfl
    · rw [if_neg hst]

/- ENDS AND ELSES. -/
theorem getD_set (l : List Int) (i j : Nat) (v : Int) (h : i < l.length) : (l.set i v).getD j 0 = if i = j then v else l.getD j 0 := by
  rw [List.getD_eq_getElem?_getD, List.getD_eq_getElem?_getD, List.getElem?_set]
  split
  · rename_i e; subst e; simp [h]
  · rename_i e; simp [e]

def OfInv (ops : List Int) (n : Nat) (en el : List Int) : Prop :=
  ∀ j, j < n → (opensI (ops.getD j 0) = true → (∀ d, (stN ops n)[d]? = some j → en.getD j 0 = -1 ∧ seekP ops j = seekR (ops.drop n) n d (el.getD j 0)) ∧ (j ∉ stN ops n → (en.getD j 0, el.getD j 0) = seekP ops j)) ∧
    (¬ opensI (ops.getD j 0) = true → en.getD j 0 = -1 ∧ el.getD j 0 = -1)

theorem stk_rev (st : List Nat) : (st.map (fun (x : Nat) => (x : Int))).reverse.length = st.length := by simp
theorem stk_top (x : Nat) (st : List Nat) : ((x :: st).map (fun (x : Nat) => (x : Int))).reverse.getD (((x :: st).map (fun (x : Nat) => (x : Int))).reverse.length - 1) 0 = x := by
  simp [List.getD_eq_getElem?_getD]
theorem stk_pop (x : Nat) (st : List Nat) : ((x :: st).map (fun (x : Nat) => (x : Int))).reverse.take (((x :: st).map (fun (x : Nat) => (x : Int))).reverse.length - 1) = (st.map (fun (x : Nat) => (x : Int))).reverse := by
  simp

theorem of_run (ops : List Int) (hs : shapeP ops = 0) : ∀ n, n ≤ ops.length → ∃ en el : List Int, en.length = ops.length ∧ el.length = ops.length ∧ ofR (ops.drop n) n ((stN ops n).map (fun (x : Nat) => (x : Int))).reverse en el = ofP ops ∧ OfInv ops n en el
  | 0, _ => ⟨_, _, List.length_replicate .., List.length_replicate .., rfl, fun j h => by omega⟩
  | n + 1, hn => by
    obtain ⟨en, el, l1, l2, hr, hi⟩ := of_run ops hs n (by omega)
    have hd := drop_getD (l := ops) (n := n) (by omega)
    have hnd := stN_nodup ops n
    have hmem := stN_mem ops n
    have hsh := stN_sh ops hs n (by omega)
    rw [hd, ofR] at hr
    have hst : stN ops (n + 1) = stepS (ops.getD n 0) n (stN ops n) := rfl
    unfold stepS at hst
    have gE := fun j => getD_set en n j (-1) (by omega)
    have gL := fun j => getD_set el n j (-1) (by omega)
    by_cases ho : opensI (ops.getD n 0) = true
    · rw [if_pos ho] at hr hst
      refine ⟨en.set n (-1), el.set n (-1), by rw [List.length_set]; exact l1, by rw [List.length_set]; exact l2, by rw [hst]; simpa using hr, fun j hj => ?_⟩
      rw [hst]
      by_cases hjn : j = n
      · subst hjn
        refine ⟨fun _ => ⟨fun d hdj => ?_, fun h => absurd (List.mem_cons_self ..) h⟩, fun h => absurd ho h⟩
        have hd0 : d = 0 := by
          cases d with
          | zero => rfl
          | succ d =>
            simp at hdj
            have := (hmem j (List.mem_of_getElem? hdj)).1
            omega
        subst hd0
        rw [gE, gL, if_pos rfl, if_pos rfl]
        exact ⟨rfl, rfl⟩
      · have hh := hi j (by omega)
        rw [gE, gL]; simp only [if_neg (show ¬ n = j from fun e => hjn e.symm)]
        refine ⟨fun hoj => ⟨fun d hdj => ?_, fun h => (hh.1 hoj).2 (fun h2 => h (List.mem_cons_of_mem _ h2))⟩, hh.2⟩
        cases d with
        | zero => simp at hdj; exact absurd hdj.symm hjn
        | succ d =>
          simp at hdj
          obtain ⟨q1, q2⟩ := (hh.1 hoj).1 d hdj
          rw [hd, seekR, if_pos ho] at q2
          exact ⟨q1, q2⟩
    · rw [if_neg ho] at hr hst
      by_cases h5 : ops.getD n 0 = 5
      · rw [if_pos h5] at hr
        rw [if_neg (by omega)] at hst
        have hpos := hsh.pos hd ho h5
        cases hs0 : stN ops n with
        | nil => rw [hs0] at hpos; simp at hpos
        | cons x xs =>
          rw [hs0, stk_top, Int.toNat_natCast] at hr
          have hx := hmem x (by rw [hs0]; simp)
          have gL2 := fun j => getD_set (el.set n (-1)) x j n (by rw [List.length_set]; omega)
          refine ⟨en.set n (-1), (el.set n (-1)).set x n, by rw [List.length_set]; exact l1, by rw [List.length_set, List.length_set]; exact l2, by rw [hst, hs0]; exact hr, fun j hj => ?_⟩
          rw [hst]
          by_cases hjn : j = n
          · subst hjn
            refine ⟨fun h => absurd h ho, fun _ => ?_⟩
            rw [gE, gL2, gL, if_pos rfl, if_neg (by omega), if_pos rfl]
            exact ⟨rfl, rfl⟩
          · have hh := hi j (by omega)
            rw [gE, gL2, gL]; simp only [if_neg (show ¬ n = j from fun e => hjn e.symm)]
            refine ⟨fun hoj => ⟨fun d hdj => ?_, fun h => ?_⟩, fun hoj => ?_⟩
            · obtain ⟨q1, q2⟩ := (hh.1 hoj).1 d hdj
              refine ⟨q1, ?_⟩
              rw [hd, seekR, if_neg ho] at q2
              by_cases hd0 : d = 0
              · subst hd0
                rw [hs0] at hdj
                simp at hdj; subst hdj
                rw [if_pos ⟨h5, rfl⟩] at q2
                rw [if_pos rfl]; exact q2
              · have hxj : x ≠ j := by
                  rintro rfl
                  rw [hs0] at hdj hnd
                  cases d with
                  | zero => exact hd0 rfl
                  | succ d => simp at hdj; exact (List.nodup_cons.1 hnd).1 (List.mem_of_getElem? hdj)
                rw [if_neg hxj]
                rw [if_neg (by omega), if_neg (by omega)] at q2
                exact q2
            · rw [if_neg (fun e => h (by rw [hs0, e]; simp))]; exact (hh.1 hoj).2 h
            · rw [if_neg (fun e => hoj (by rw [← e]; exact hx.2))]; exact hh.2 hoj
      · rw [if_neg h5] at hr
        by_cases h11 : ops.getD n 0 = 11
        · rw [if_pos h11] at hst
          cases hs0 : stN ops n with
          | nil =>
            rw [hs0, if_neg (by simp)] at hr
            rw [hs0] at hst
            refine ⟨en.set n (-1), el.set n (-1), by rw [List.length_set]; exact l1, by rw [List.length_set]; exact l2, by rw [hst]; exact hr, fun j hj => ?_⟩
            rw [hst]
            by_cases hjn : j = n
            · subst hjn
              refine ⟨fun h => absurd h ho, fun _ => ?_⟩
              rw [gE, gL, if_pos rfl, if_pos rfl]; exact ⟨rfl, rfl⟩
            · have hh := hi j (by omega)
              rw [gE, gL]; simp only [if_neg (show ¬ n = j from fun e => hjn e.symm)]
              exact ⟨fun hoj => ⟨fun d hdj => by simp at hdj, fun _ => (hh.1 hoj).2 (by rw [hs0]; simp)⟩, hh.2⟩
          | cons x xs =>
            have hx := hmem x (by rw [hs0]; simp)
            rw [hs0, if_pos ⟨h11, by simp⟩, stk_top, Int.toNat_natCast, stk_pop] at hr
            rw [hs0, List.tail_cons] at hst
            rw [hs0] at hnd
            have hnx := List.nodup_cons.1 hnd
            have gE2 := fun j => getD_set (en.set n (-1)) x j n (by rw [List.length_set]; omega)
            refine ⟨(en.set n (-1)).set x n, el.set n (-1), by rw [List.length_set, List.length_set]; exact l1, by rw [List.length_set]; exact l2, by rw [hst]; exact hr, fun j hj => ?_⟩
            rw [hst]
            by_cases hjn : j = n
            · subst hjn
              refine ⟨fun h => absurd h ho, fun _ => ?_⟩
              rw [gE2, gE, gL, if_pos rfl, if_neg (by omega), if_pos rfl]; exact ⟨rfl, rfl⟩
            · have hh := hi j (by omega)
              rw [gE2, gE, gL]; simp only [if_neg (show ¬ n = j from fun e => hjn e.symm)]
              refine ⟨fun hoj => ⟨fun d hdj => ?_, fun h => ?_⟩, fun hoj => ?_⟩
              · have hxj : x ≠ j := fun e => hnx.1 (by rw [e]; exact List.mem_of_getElem? hdj)
                rw [if_neg hxj]
                obtain ⟨q1, q2⟩ := (hh.1 hoj).1 (d + 1) (by rw [hs0]; simpa using hdj)
                rw [hd, seekR, if_neg ho, if_neg (by omega), if_pos h11, if_neg (by omega)] at q2
                exact ⟨q1, by simpa using q2⟩
              · by_cases hxj : x = j
                · subst hxj
                  rw [if_pos rfl]
                  obtain ⟨q1, q2⟩ := (hh.1 hoj).1 0 (by rw [hs0]; rfl)
                  rw [hd, seekR, if_neg ho, if_neg (by omega), if_pos h11, if_pos (show ((0 : Nat) : Int) = 0 from rfl)] at q2
                  exact q2.symm
                · rw [if_neg hxj]
                  refine (hh.1 hoj).2 ?_
                  rw [hs0, List.mem_cons]
                  rintro (e | e)
                  · exact hxj e.symm
                  · exact h e
              · rw [if_neg (fun e => hoj (by rw [← e]; exact hx.2))]; exact hh.2 hoj
        · rw [if_neg (by omega)] at hr
          rw [if_neg h11] at hst
          refine ⟨en.set n (-1), el.set n (-1), by rw [List.length_set]; exact l1, by rw [List.length_set]; exact l2, by rw [hst]; exact hr, fun j hj => ?_⟩
          rw [hst]
          by_cases hjn : j = n
          · subst hjn
            refine ⟨fun h => absurd h ho, fun _ => ?_⟩
            rw [gE, gL, if_pos rfl, if_pos rfl]; exact ⟨rfl, rfl⟩
          · have hh := hi j (by omega)
            rw [gE, gL]; simp only [if_neg (show ¬ n = j from fun e => hjn e.symm)]
            refine ⟨fun hoj => ⟨fun d hdj => ?_, (hh.1 hoj).2⟩, hh.2⟩
            obtain ⟨q1, q2⟩ := (hh.1 hoj).1 d hdj
            rw [hd, seekR, if_neg ho, if_neg (by omega), if_neg h11] at q2
            exact ⟨q1, q2⟩

theorem of_eq (ops : List Int) (hs : shapeP ops = 0) : (ofP ops).1.length = ops.length ∧ (ofP ops).2.length = ops.length ∧ ∀ i, i < ops.length → ((ofP ops).1.getD i 0, (ofP ops).2.getD i 0) = if opensI (ops.getD i 0) = true then seekP ops i else (-1, -1) := by
  obtain ⟨en, el, l1, l2, hr, hi⟩ := of_run ops hs ops.length (Nat.le_refl _)
  rw [List.drop_length, ofR] at hr
  rw [← hr]
  refine ⟨l1, l2, fun i hi2 => ?_⟩
  have h := hi i hi2
  split
  · rename_i ho
    exact (h.1 ho).2 (by rw [stN_end ops hs]; simp)
  · rename_i ho
    have := h.2 ho
    rw [this.1, this.2]

/- HOW BLOCKS LIE. -/
theorem seekR_in : ∀ (r : List Int) (n d d' : Nat) (ot ot' : Int), d' < d → 0 ≤ (seekR r n d ot).1 → (seekR r n d' ot').1 < (seekR r n d ot).1
  | [], _, _, _, _, _, _, h => by simp [seekR] at h
  | o :: r, n, d, d', ot, ot', hd, h => by
    have g1 := seekR_ge r (n + 1)
    unfold seekR at h ⊢
    split at h
    · rename_i hh; rw [if_pos hh, if_pos hh]; exact seekR_in r _ _ _ _ _ (by omega) h
    · rename_i hh; rw [if_neg hh, if_neg hh]
      rw [if_neg (by omega)] at h
      rw [if_neg (show ¬ (o = 5 ∧ (d : Int) = 0) by omega)]
      split at h
      · rename_i h11
        rw [if_neg (show ¬ (o = 5 ∧ (d' : Int) = 0) by omega), if_pos h11, if_pos h11]
        rw [if_neg (show ¬ ((d : Int) = 0) by omega)] at h ⊢
        split
        · have := g1 (d - 1) ot; simp only; omega
        · exact seekR_in r _ _ _ _ _ (by omega) h
      · rename_i h11
        rw [if_neg h11, if_neg h11]
        split
        · exact seekR_in r _ _ _ _ _ hd h
        · exact seekR_in r _ _ _ _ _ hd h

theorem nests (ops : List Int) (hs : shapeP ops = 0) {i k : Nat} (hik : i < k) (hk : k < ops.length) (hoi : opensI (ops.getD i 0) = true) (hok : opensI (ops.getD k 0) = true) (h : (k : Int) < (seekP ops i).1) : (seekP ops k).1 < (seekP ops i).1 := by
  rcases blkAt ops k (by omega) i hik hoi with ⟨d, ot, g1, g2, g3, g4⟩ | ⟨_, _, g3, _⟩
  · have hd := drop_getD (l := ops) (n := k) hk
    rw [hd, seekR, if_pos hok] at g4
    rw [g4] at h ⊢
    exact seekR_in _ _ _ _ _ _ (by omega) (by omega)
  · omega
end Go.Proofs.Ytahgkfekggkjnaa
