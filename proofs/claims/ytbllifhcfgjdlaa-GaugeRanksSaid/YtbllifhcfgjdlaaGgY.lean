/- What is proved here: two sorted lists of the same floats tell the same at every place: plain. -/
import Derived.Test.YtbllifhcfgjdlaaGgX
namespace Go.Proofs.Ytbllifhcfgjdlaa
open Go.RowKit FltT
set_option linter.unusedVariables false
set_option linter.unusedSimpArgs false
theorem insS_perm (r : List Nat) (x : Nat) : (insS r x).Perm (r ++ [x]) := by
  unfold insS
  have h : r.take (atN r x r.length) ++ r.drop (atN r x r.length) = r := List.take_append_drop _ _
  generalize r.take (atN r x r.length) = A at *
  generalize r.drop (atN r x r.length) = B at *
  subst h
  rw [List.append_assoc, List.append_assoc]
  exact List.Perm.append_left A List.perm_append_comm
theorem fold_perm : ∀ (l r : List Nat), (l.foldl insS r).Perm (r ++ l)
  | [], r => by simp
  | x :: l, r => by
    rw [List.foldl_cons]
    refine (fold_perm l (insS r x)).trans ?_
    have := (insS_perm r x).append_right l
    rw [List.append_assoc] at this
    exact this
theorem sortP_perm (l : List Nat) : (sortP l).Perm l := by
  have := fold_perm l []
  rwa [List.nil_append] at this
/-- sorted, as a relation of elements -/
def SrtL (l : List Nat) : Prop := l.Pairwise (fun x y => keyN x ≤ keyN y)
theorem srtL_of {l : List Nat} (h : Srt l 0 l.length) : SrtL l := by
  unfold SrtL
  rw [List.pairwise_iff_getElem]
  intro i j hi hj hij
  have := h i j (Nat.zero_le _) (by omega) hj
  unfold KK at this
  rw [List.getD_eq_getElem?_getD, List.getD_eq_getElem?_getD, List.getElem?_eq_getElem hi, List.getElem?_eq_getElem hj] at this
  exact this
theorem atN_spec {r : List Nat} {x : Nat} (hs : SrtL r) : (∀ e ∈ r.take (atN r x r.length), keyN e ≤ keyN x) ∧ (∀ e ∈ r.drop (atN r x r.length), keyN x ≤ keyN e) := by
  have gen : ∀ n, n ≤ r.length → (∀ e ∈ r.drop n, keyN x < keyN e) → (∀ e ∈ r.take (atN r x n), keyN e ≤ keyN x) ∧ (∀ e ∈ r.drop (atN r x n), keyN x ≤ keyN e) := by
    intro n
    induction n with
    | zero =>
      intro _ hd
      exact ⟨fun e he => by simp [atN] at he, fun e he => Int.le_of_lt (hd e he)⟩
    | succ n ih =>
      intro hn hd
      have hg : r.getD n 0 = r[n] := by rw [List.getD_eq_getElem?_getD, List.getElem?_eq_getElem (by omega)]; rfl
      rw [atN]
      by_cases hc : 0 < ordN (r.getD n 0) x
      · rw [if_pos hc]
        refine ih (by omega) (fun e he => ?_)
        rw [List.drop_eq_getElem_cons (by omega)] at he
        rcases List.mem_cons.1 he with h | h
        · rw [h, ← hg]; exact (ord_key _ _).2.1 hc
        · exact hd e h
      · rw [if_neg hc]
        refine ⟨fun e he => ?_, fun e he => Int.le_of_lt (hd e he)⟩
        have h1 : keyN r[n] ≤ keyN x := by
          have : ¬ keyN x < keyN (r.getD n 0) := fun hh => hc ((ord_key _ _).2.2 hh)
          rw [hg] at this; omega
        obtain ⟨i, hi, rfl⟩ := List.mem_take_iff_getElem.1 he
        unfold SrtL at hs
        rw [List.pairwise_iff_getElem] at hs
        by_cases hin : i = n
        · subst hin; exact h1
        · exact Int.le_trans (hs i n (by omega) (by omega) (by omega)) h1
  exact gen r.length (Nat.le_refl _) (fun e he => by simp at he)
theorem insS_srt {r : List Nat} {x : Nat} (hs : SrtL r) : SrtL (insS r x) := by
  have h := atN_spec (x := x) hs
  unfold insS SrtL
  unfold SrtL at hs
  have ht := hs.sublist (List.take_sublist (atN r x r.length) r)
  have hd := hs.sublist (List.drop_sublist (atN r x r.length) r)
  rw [List.pairwise_append, List.pairwise_append]
  refine ⟨⟨ht, List.pairwise_singleton _ _, fun a ha b hb => ?_⟩, hd, fun a ha b hb => ?_⟩
  · rw [List.mem_singleton] at hb; rw [hb]; exact h.1 a ha
  · have h2 := h.2 b hb
    rcases List.mem_append.1 ha with h3 | h3
    · exact Int.le_trans (h.1 a h3) h2
    · rw [List.mem_singleton] at h3; rw [h3]; exact h2
theorem fold_srt : ∀ (l r : List Nat), SrtL r → SrtL (l.foldl insS r)
  | [], _, h => h
  | x :: l, r, h => fold_srt l _ (insS_srt h)
theorem sortP_srt (l : List Nat) : SrtL (sortP l) := fold_srt l [] List.Pairwise.nil
/-- Two sorted lists of the same elements have the same keys. -/
theorem keys_eq {l l' : List Nat} (h : SrtL l) (h' : SrtL l') (hp : l'.Perm l) : l'.map keyN = l.map keyN := by
  refine List.Perm.eq_of_pairwise (le := fun a b => a ≤ b) (fun a b _ _ h1 h2 => Int.le_antisymm h1 h2) ?_ ?_ (hp.map keyN)
  · exact List.pairwise_map.2 h'
  · exact List.pairwise_map.2 h
theorem rank_same {l l' l'' : List Nat} (hW : allW l) (h : SrtL l') (h' : SrtL l'') (hp : l'.Perm l) (hp' : l''.Perm l) {k : Nat} (hk : k < l.length) : sameB (l'.getD k 0) (l''.getD k 0) = true := by
  have e := keys_eq h' h (hp.trans hp'.symm)
  have e1 := hp.length_eq
  have e2 := hp'.length_eq
  have g1 : l'.getD k 0 = l'[k] := by rw [List.getD_eq_getElem?_getD, List.getElem?_eq_getElem (by omega)]; rfl
  have g2 : l''.getD k 0 = l''[k] := by rw [List.getD_eq_getElem?_getD, List.getElem?_eq_getElem (by omega)]; rfl
  have hk2 : keyN l'[k] = keyN l''[k] := by
    have := congrArg (fun m => m[k]?) e
    simp only [List.getElem?_map] at this
    rw [List.getElem?_eq_getElem (by omega), List.getElem?_eq_getElem (by omega)] at this
    simpa using this
  have w1 := hW _ (hp.mem_iff.1 (List.getElem_mem (l := l') (n := k) (by omega)))
  have w2 := hW _ (hp'.mem_iff.1 (List.getElem_mem (l := l'') (n := k) (by omega)))
  rw [g1, g2]
  by_cases h0 : kindN l'[k] = 0
  · have h1 : kindN l''[k] = 0 := by
      have b1 := frung_lt l''[k]
      unfold keyN at hk2
      rw [h0] at hk2
      revert hk2
      have := kind_lt l''[k]
      repeat' split
      all_goals omega
    exact same_nan (nan_kind.1 h0) (nan_kind.1 h1)
  · rw [key_inj w1 w2 h0 hk2]; exact same_self _
end Go.Proofs.Ytbllifhcfgjdlaa
