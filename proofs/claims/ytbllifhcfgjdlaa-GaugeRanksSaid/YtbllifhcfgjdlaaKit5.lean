/-
  What is proved here: one element of any number of cells, out of a known block, is appended; what else there is stays. A row that is cut stays owned.
-/
import Derived.Test.YtbllifhcfgjdlaaKit4
import Derived.Test.YtbllifhcfgjdlaaKitU
namespace Go.Proofs.Ytbllifhcfgjdlaa
open Go.RowKit
set_option linter.unusedVariables false
set_option linter.unusedSimpArgs false

theorem push_atK {P : Program} {w : World} {t e bytes sz : Nat} {z : Value} (ht : P.underlying t = some (.slice e)) (hinfo : (P.info? e).map (fun i => (i.zero, i.size, i.bytes)) = some (some z, sz, bytes)) (hz : z.cells.size = sz) (hs0 : 0 < sz) (hb1 : 1 ≤ bytes)
    {base n k : Nat} {v : Value} {us : Array Value} {xs : List Value} (hown : w.ownsRow base e sz v n xs) (hk : w.heap[k]? = some (.cells us e (0, 0))) (hl : us.size = sz) (h1 : ∀ u ∈ us.toList, u.oneCell' = true) (hbytes : (n + 1) * bytes ≤ 140737488355328) (hbase : base ≤ w.heap.size) :
    ∃ v' w', (∀ ty, (Builtin.append_ #[t, t] ty #[v, .slice (some ⟨k, 0, none⟩) 1 1]).run P w = .ok v' w') ∧ w'.ownsRow base e sz v' (n + 1) (xs ++ us.toList) ∧ Below base w w' ∧ w.heap.size ≤ w'.heap.size ∧ (∀ q, q < w.heap.size → v.ownBlock ≠ some q → w'.heap[q]? = w.heap[q]?) := by
  obtain ⟨i, hi, hz0, hs, hby⟩ := info_parts hinfo
  have hle : n + 1 ≤ (n + 1) * bytes := Nat.le_mul_of_pos_right _ hb1
  have key : ∀ ty, ∃ v' w', (Builtin.append_ #[t, t] ty #[v, .slice (some ⟨k, 0, none⟩) 1 1]).run P w = .ok v' w' ∧ w'.ownsRow base e sz v' (n + 1) (xs ++ us.toList) ∧ Below base w w' ∧ w.heap.size ≤ w'.heap.size ∧ (∀ q, q < w.heap.size → v.ownBlock ≠ some q → w'.heap[q]? = w.heap[q]?) := by
    intro ty
    obtain ⟨v', w', hr, h2, h3, _⟩ := run_append_own (P := P) w base t ty e i z sz bytes ht hi hz0 hs hby hz hs0 v n xs hown
      ⟨k, 0, none⟩ 1 1 us.toList (by simp [hl]) (fun j u hj => by
        rw [addr_add, cell_of_row w k j us e (0, 0) hk]
        simpa using hj) h1 (by unfold maxLen; omega) hbytes hbase
    exact ⟨v', w', hr, h2, (Below.refl _ _).grown h3 hbase (fun k hk => (hown.lt k hk).1), h3.size, fun q hq hne => h3.block q hq (fun h => hne h.symm)⟩
  obtain ⟨v', w', hr, h⟩ := key 0
  refine ⟨v', w', fun ty => ?_, h⟩
  rw [← hr]; rfl

theorem wpList_pushAtK {P : Program} {w : World} {t e bytes sz : Nat} {z : Value} (ht : P.underlying t = some (.slice e)) (hinfo : (P.info? e).map (fun i => (i.zero, i.size, i.bytes)) = some (some z, sz, bytes)) (hz : z.cells.size = sz) (hs0 : 0 < sz) (hb1 : 1 ≤ bytes)
    {base n k : Nat} {v : Value} {us : Array Value} {xs : List Value} (hown : w.ownsRow base e sz v n xs) (hk : w.heap[k]? = some (.cells us e (0, 0))) (hbase : base ≤ w.heap.size) (hbytes : (n + 1) * bytes ≤ 140737488355328)
    {ops : Array Oper} {rest : List Oper} {o : Oper} {a : Act} {Q : Exit → Act → World → Prop} {s x : Operand}
    (hgd : o.guard = none) (ho : o.op = .call { callee := .builtin .append, args := #[s, x], argTypes := #[t, t] }) (hs : a.eval s = v) (hx : a.eval x = .slice (some ⟨k, 0, none⟩) 1 1) (hl : us.size = sz) (h1 : ∀ u ∈ us.toList, u.oneCell' = true)
    (h : ∀ v' w', w'.ownsRow base e sz v' (n + 1) (xs ++ us.toList) → Below base w w' → w.heap.size ≤ w'.heap.size → (∀ q, q < w.heap.size → v.ownBlock ≠ some q → w'.heap[q]? = w.heap[q]?) → wpList P ops Q rest (a.put o.dst v') w') : wpList P ops Q (o :: rest) a w := by
  obtain ⟨v', w', hr, h2, h3, h4, h5⟩ := push_atK (P := P) (us := us) ht hinfo hz hs0 hb1 hown hk hl h1 hbytes hbase
  exact wpList_app hr hgd ho hs hx (h v' w' h2 h3 h4 h5)

/-- A row that is cut. -/
theorem ownsRow_cut {w : World} {base e k n m cap : Nat} {a : Option Addr} {xs : List Value} (h : w.ownsRow base e k (.slice a n cap) n xs) (hm : m ≤ n) (hn : 0 < n) : w.ownsRow base e k (.slice a m cap) m (xs.take (m * k)) := by
  obtain ⟨h1, h2⟩ := h
  rcases h2 with ⟨_, h0⟩ | ⟨g, cap', cur, hv, hb, hg, hc, hm', hs, ht⟩
  · omega
  · simp at hv
    obtain ⟨rfl, rfl⟩ := hv
    have hmk : m * k ≤ n * k := Nat.mul_le_mul_right k hm
    refine ⟨by rw [List.length_take, h1]; omega, .inr ⟨g, cap, cur, rfl, hb, hg, by omega, hm', hs, ?_⟩⟩
    rw [← ht, List.take_take]
    congr 1
    omega

/-- Rows of other elements stay where one row turns. -/
theorem ownsRow_keep {w w' : World} {base e k n : Nat} {v v0 : Value} {xs : List Value} (h : w.ownsRow base e k v n xs) (hne : ∀ g, v.ownBlock = some g → v0.ownBlock ≠ some g) (hk : ∀ q, q < w.heap.size → v0.ownBlock ≠ some q → w'.heap[q]? = w.heap[q]?) : w'.ownsRow base e k v n xs := by
  refine ⟨h.1, ?_⟩
  rcases h.2 with hn | ⟨g, cap, cur, rfl, hb, hg, rest⟩
  · exact .inl hn
  · exact .inr ⟨g, cap, cur, rfl, hb, (hk g (Array.getElem?_eq_some_iff.1 hg).1 (hne g rfl)).trans hg, rest⟩

theorem ownBlocks_ne {w : World} {base e e' k k' n n' : Nat} {v v' : Value} {xs xs' : List Value} (h : w.ownsRow base e k v n xs) (h' : w.ownsRow base e' k' v' n' xs') (he : e ≠ e') : ∀ g, v.ownBlock = some g → v'.ownBlock ≠ some g := by
  intro g hg hg'
  obtain ⟨c1, h1⟩ := ownsRow_block h hg
  obtain ⟨c2, h2⟩ := ownsRow_block h' hg'
  rw [h1] at h2
  simp at h2
  exact he h2.2
end Go.Proofs.Ytbllifhcfgjdlaa
