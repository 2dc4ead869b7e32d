/-
  What is proved here: one element is appended; what else there is stays as it is. A row that is owned, read and written.
-/
import Derived.Test.YtbllifhcfgjdlaaKit3
import Derived.Laws.OwnMore
import Derived.Maps.AppendAt
namespace Go.Proofs.Ytbllifhcfgjdlaa
open Go.RowKit
set_option linter.unusedVariables false
set_option linter.unusedSimpArgs false

theorem push_keep {P : Program} {wr : World} {t e bytes : Nat} {z : Value} (ht : P.underlying t = some (.slice e)) (hinfo : (P.info? e).map (fun i => (i.zero, i.size, i.bytes)) = some (some z, 1, bytes)) (hz : z.cells.size = 1) (hb1 : 1 ≤ bytes)
    {base n : Nat} {v u : Value} {xs : List Value} (hown : wr.ownsRow base e 1 v n xs) (h1 : u.oneCell' = true) (hbytes : (n + 1) * bytes ≤ 140737488355328) (hbase : base ≤ wr.heap.size) :
    ∃ v' w', (∀ ty, (Builtin.append_ #[t, t] ty #[v, .slice (some ⟨wr.heap.size, 0, none⟩) 1 1]).run P (wr.alloc (.cells #[u] e)) = .ok v' w') ∧ w'.ownsRow base e 1 v' (n + 1) (xs ++ [u]) ∧ Below base wr w' ∧ wr.heap.size < w'.heap.size ∧ (∀ k, k < wr.heap.size → v.ownBlock ≠ some k → w'.heap[k]? = wr.heap[k]?) ∧ ∀ g, v'.ownBlock = some g → v.ownBlock = some g ∨ wr.heap.size ≤ g := by
  obtain ⟨i, hi, hz0, hs, hby⟩ := info_parts hinfo
  have hle : n + 1 ≤ (n + 1) * bytes := Nat.le_mul_of_pos_right _ hb1
  have key : ∀ ty, ∃ v' w', (Builtin.append_ #[t, t] ty #[v, .slice (some ⟨wr.heap.size, 0, none⟩) 1 1]).run P (wr.alloc (.cells #[u] e)) = .ok v' w' ∧ w'.ownsRow base e 1 v' (n + 1) (xs ++ [u]) ∧ Below base wr w' ∧ wr.heap.size < w'.heap.size ∧ (∀ k, k < wr.heap.size → v.ownBlock ≠ some k → w'.heap[k]? = wr.heap[k]?) ∧ ∀ g, v'.ownBlock = some g → v.ownBlock = some g ∨ wr.heap.size ≤ g := by
    intro ty
    obtain ⟨v', w', hr, h2, h3, _, h5⟩ := run_append_own_at (P := P) (wr.alloc (.cells #[u] e)) base t ty e i z 1 bytes ht hi hz0 hs hby hz (by decide) v n xs (hown.alloc _)
      ⟨wr.heap.size, 0, none⟩ 1 1 [u] rfl (cell_one_new _ _ _) (by simpa using h1) (by unfold maxLen; omega) hbytes (by simp; omega)
    refine ⟨v', w', hr, h2, ((Below.refl _ _).alloc hbase _).grown h3 (by simp; omega) (fun k hk => (hown.lt k hk).1), ?_, ?_, ?_⟩
    · have := h3.size
      simp at this; omega
    · intro k hk hne
      rw [h3.block k (by simp; omega) (fun h => hne h.symm)]
      exact heap_alloc_old _ _ _ hk
    · intro g hg
      rcases h5 with h5 | h5
      · left; rw [← h5]; exact hg
      · right; rw [h5] at hg; simp at hg; omega
  obtain ⟨v', w', hr, h⟩ := key 0
  refine ⟨v', w', fun ty => ?_, h⟩
  rw [← hr]; rfl

theorem wpList_pushK {P : Program} {wr : World} {t e bytes : Nat} {z : Value} (ht : P.underlying t = some (.slice e)) (hinfo : (P.info? e).map (fun i => (i.zero, i.size, i.bytes)) = some (some z, 1, bytes)) (hz : z.cells.size = 1) (hb1 : 1 ≤ bytes)
    {base n : Nat} {v u : Value} {xs : List Value} (hown : wr.ownsRow base e 1 v n xs) (hbase : base ≤ wr.heap.size) (hbytes : (n + 1) * bytes ≤ 140737488355328)
    {ops : Array Oper} {rest : List Oper} {o : Oper} {a : Act} {Q : Exit → Act → World → Prop} {s x : Operand}
    (hgd : o.guard = none) (ho : o.op = .call { callee := .builtin .append, args := #[s, x], argTypes := #[t, t] }) (hs : a.eval s = v) (hx : a.eval x = .slice (some ⟨wr.heap.size, 0, none⟩) 1 1) (h1 : u.oneCell' = true)
    (h : ∀ v' w', w'.ownsRow base e 1 v' (n + 1) (xs ++ [u]) → Below base wr w' → wr.heap.size < w'.heap.size → (∀ k, k < wr.heap.size → v.ownBlock ≠ some k → w'.heap[k]? = wr.heap[k]?) → (∀ g, v'.ownBlock = some g → v.ownBlock = some g ∨ wr.heap.size ≤ g) → wpList P ops Q rest (a.put o.dst v') w') : wpList P ops Q (o :: rest) a (wr.alloc (.cells #[u] e)) := by
  obtain ⟨v', w', hr, h2, h3, h4, h5, h6⟩ := push_keep (P := P) (u := u) ht hinfo hz hb1 hown h1 hbytes hbase
  exact wpList_app hr hgd ho hs hx (h v' w' h2 h3 h4 h5 h6)

/-- A row that is owned, as a slice. -/
theorem ownsRow_shape {w : World} {base e n : Nat} {v : Value} {xs : List Value} (h : w.ownsRow base e 1 v n xs) :
    ∃ a cap, v = .slice a n cap ∧ n ≤ cap ∧ (∀ j, j < n → ∃ g, a = some ⟨g, 0, none⟩ ∧ w.cell? ⟨g, j, none⟩ = xs[j]? ∧ w.frozen? ⟨g, j, none⟩ = false ∧ base ≤ g ∧ g < w.heap.size) := by
  obtain ⟨h1, h2⟩ := h
  rcases h2 with ⟨rfl, h0⟩ | ⟨g, cap, cur, hv, hb, hg, hc, _, _, ht⟩
  · subst h0; exact ⟨none, 0, rfl, Nat.le_refl _, fun j hj => absurd hj (by omega)⟩
  · refine ⟨_, cap, hv, hc, fun j hj => ⟨g, rfl, ?_, frozen_of_row w g j cur e hg, hb, (Array.getElem?_eq_some_iff.1 hg).1⟩⟩
    rw [cell_of_row w g j cur e (0, 0) hg, ← ht, List.getElem?_take, if_pos (by omega)]
    simp

/-- The own row's block holds elements. -/
theorem ownsRow_block {w : World} {base e n k g : Nat} {v : Value} {xs : List Value} (h : w.ownsRow base e k v n xs) (hg : v.ownBlock = some g) : ∃ cur, w.heap[g]? = some (.cells cur e (0, 0)) := by
  rcases h.2 with ⟨rfl, _⟩ | ⟨g', cap, cur, rfl, _, hgg, _⟩
  · simp [Value.ownBlock] at hg
  · simp [Value.ownBlock] at hg
    subst hg
    exact ⟨cur, hgg⟩

theorem ownsRow_other {w : World} {base e k n : Nat} {v : Value} {xs : List Value} (h : w.ownsRow base e k v n xs) (p : Addr) (u : Value) (hne : v.ownBlock ≠ some p.block) : (w.setCell p u).ownsRow base e k v n xs := by
  refine ⟨h.1, ?_⟩
  rcases h.2 with hn | ⟨g, cap, cur, rfl, hb, hg, rest⟩
  · exact .inl hn
  · exact .inr ⟨g, cap, cur, rfl, hb, (Below.heap_setCell w p u g (fun hh => hne (by rw [← hh]; rfl))).trans hg, rest⟩

theorem ownBlock_ne {w : World} {base e k n b e' : Nat} {v : Value} {xs : List Value} {cs : Array Value} (h : w.ownsRow base e k v n xs) (hb : w.heap[b]? = some (.cells cs e' (0, 0))) (hne : e ≠ e') : v.ownBlock ≠ some b := by
  intro hh
  obtain ⟨cur, hcur⟩ := ownsRow_block h hh
  rw [hb] at hcur
  simp at hcur
  exact hne hcur.2.symm
end Go.Proofs.Ytbllifhcfgjdlaa
