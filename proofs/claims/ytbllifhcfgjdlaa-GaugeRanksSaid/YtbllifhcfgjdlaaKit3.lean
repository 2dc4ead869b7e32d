/-
  What is proved here: one element of any number of cells is appended; the new element lies in a block that is known.
-/
import Derived.Test.YtbllifhcfgjdlaaKitT
namespace Go.Proofs.Ytbllifhcfgjdlaa
open Go.RowKit
set_option linter.unusedVariables false
set_option linter.unusedSimpArgs false

theorem heap_alloc_last (w : World) (o : Obj) : (w.alloc o).heap[w.heap.size]? = some o := by
  unfold World.alloc
  exact Array.getElem?_push_size

theorem heap_alloc_old (w : World) (o : Obj) (k : Nat) (h : k < w.heap.size) : (w.alloc o).heap[k]? = w.heap[k]? := Below.heap_alloc _ _ _ (by omega)

theorem size_alloc (w : World) (o : Obj) : (w.alloc o).heap.size = w.heap.size + 1 := by simp

theorem allocs3 (w : World) (a b c : Array Value) (ta tb tc : TypeId) : ∃ W, W = ((w.alloc (.cells a ta)).alloc (.cells b tb)).alloc (.cells c tc) ∧ W.heap.size = w.heap.size + 3 ∧ Below w.heap.size w W ∧
    W.heap[w.heap.size]? = some (.cells a ta (0, 0)) ∧ W.heap[w.heap.size + 1]? = some (.cells b tb (0, 0)) ∧ W.heap[w.heap.size + 1 + 1]? = some (.cells c tc (0, 0)) := by
  have s1 := size_alloc w (.cells a ta)
  have s2 := size_alloc (w.alloc (.cells a ta)) (.cells b tb)
  have s3 := size_alloc ((w.alloc (.cells a ta)).alloc (.cells b tb)) (.cells c tc)
  refine ⟨_, rfl, by omega, (((Below.refl _ _).alloc (Nat.le_refl _) _).alloc (by omega) _).alloc (by omega) _, ?_, ?_, ?_⟩
  · rw [heap_alloc_old _ _ _ (by omega), heap_alloc_old _ _ _ (by omega)]; exact heap_alloc_last _ _
  · rw [heap_alloc_old _ _ _ (by omega), ← s1]; exact heap_alloc_last _ _
  · rw [← s1, ← s2]; exact heap_alloc_last _ _

theorem allocs2 (w : World) (a b : Array Value) (ta tb : TypeId) : ∃ W, W = (w.alloc (.cells a ta)).alloc (.cells b tb) ∧ W.heap.size = w.heap.size + 2 ∧ Below w.heap.size w W ∧
    W.heap[w.heap.size]? = some (.cells a ta (0, 0)) ∧ W.heap[w.heap.size + 1]? = some (.cells b tb (0, 0)) := by
  have s1 := size_alloc w (.cells a ta)
  have s2 := size_alloc (w.alloc (.cells a ta)) (.cells b tb)
  refine ⟨_, rfl, by omega, ((Below.refl _ _).alloc (Nat.le_refl _) _).alloc (by omega) _, ?_, ?_⟩
  · rw [heap_alloc_old _ _ _ (by omega)]; exact heap_alloc_last _ _
  · rw [← s1]; exact heap_alloc_last _ _

theorem allocs1 (w : World) (a : Array Value) (ta : TypeId) : ∃ W, W = w.alloc (.cells a ta) ∧ W.heap.size = w.heap.size + 1 ∧ Below w.heap.size w W ∧ W.heap[w.heap.size]? = some (.cells a ta (0, 0)) :=
  ⟨_, rfl, size_alloc _ _, (Below.refl _ _).alloc (Nat.le_refl _) _, heap_alloc_last _ _⟩

theorem addr_add (b j : Nat) : (⟨b, 0, none⟩ : Addr).add j = ⟨b, j, none⟩ := by simp [Addr.add]; exact fun h => h.symm

theorem push_runs {P : Program} {wr : World} {t e bytes sz : Nat} {z : Value} (ht : P.underlying t = some (.slice e)) (hinfo : (P.info? e).map (fun i => (i.zero, i.size, i.bytes)) = some (some z, sz, bytes)) (hz : z.cells.size = sz) (hs0 : 0 < sz) (hb1 : 1 ≤ bytes)
    {base n : Nat} {v : Value} {us : Array Value} {xs : List Value} (hown : wr.ownsRow base e sz v n xs) (hl : us.size = sz) (h1 : ∀ u ∈ us.toList, u.oneCell' = true) (hbytes : (n + 1) * bytes ≤ 140737488355328) (hbase : base ≤ wr.heap.size) :
    ∃ v' w', (∀ ty, (Builtin.append_ #[t, t] ty #[v, .slice (some ⟨wr.heap.size, 0, none⟩) 1 1]).run P (wr.alloc (.cells us e)) = .ok v' w') ∧ w'.ownsRow base e sz v' (n + 1) (xs ++ us.toList) ∧ Below base wr w' ∧ wr.heap.size < w'.heap.size := by
  obtain ⟨i, hi, hz0, hs, hby⟩ := info_parts hinfo
  have hle : n + 1 ≤ (n + 1) * bytes := Nat.le_mul_of_pos_right _ hb1
  have key : ∀ ty, ∃ v' w', (Builtin.append_ #[t, t] ty #[v, .slice (some ⟨wr.heap.size, 0, none⟩) 1 1]).run P (wr.alloc (.cells us e)) = .ok v' w' ∧ w'.ownsRow base e sz v' (n + 1) (xs ++ us.toList) ∧ Below base wr w' ∧ wr.heap.size < w'.heap.size := by
    intro ty
    obtain ⟨v', w', hr, h2, h3, _⟩ := run_append_own (P := P) (wr.alloc (.cells us e)) base t ty e i z sz bytes ht hi hz0 hs hby hz hs0 v n xs (hown.alloc _)
      ⟨wr.heap.size, 0, none⟩ 1 1 us.toList (by simp [hl]) (fun j u hj => by
        rw [addr_add, cell_of_row (wr.alloc (.cells us e)) wr.heap.size j us e (0, 0) (heap_alloc_last _ _)]
        simpa using hj) h1 (by unfold maxLen; omega) hbytes (by simp; omega)
    refine ⟨v', w', hr, h2, ((Below.refl _ _).alloc hbase _).grown h3 (by simp; omega) (fun k hk => (hown.lt k hk).1), ?_⟩
    have := h3.size
    simp at this; omega
  obtain ⟨v', w', hr, h⟩ := key 0
  refine ⟨v', w', fun ty => ?_, h⟩
  rw [← hr]; rfl

theorem wpList_pushs {P : Program} {wr : World} {t e bytes sz : Nat} {z : Value} (ht : P.underlying t = some (.slice e)) (hinfo : (P.info? e).map (fun i => (i.zero, i.size, i.bytes)) = some (some z, sz, bytes)) (hz : z.cells.size = sz) (hs0 : 0 < sz) (hb1 : 1 ≤ bytes)
    {base n : Nat} {v : Value} {us : Array Value} {xs : List Value} (hown : wr.ownsRow base e sz v n xs) (hbase : base ≤ wr.heap.size) (hbytes : (n + 1) * bytes ≤ 140737488355328)
    {ops : Array Oper} {rest : List Oper} {o : Oper} {a : Act} {Q : Exit → Act → World → Prop} {s x : Operand}
    (hgd : o.guard = none) (ho : o.op = .call { callee := .builtin .append, args := #[s, x], argTypes := #[t, t] }) (hs : a.eval s = v) (hx : a.eval x = .slice (some ⟨wr.heap.size, 0, none⟩) 1 1) (hl : us.size = sz) (h1 : ∀ u ∈ us.toList, u.oneCell' = true)
    (h : ∀ v' w', w'.ownsRow base e sz v' (n + 1) (xs ++ us.toList) → Below base wr w' → wr.heap.size < w'.heap.size → wpList P ops Q rest (a.put o.dst v') w') : wpList P ops Q (o :: rest) a (wr.alloc (.cells us e)) := by
  obtain ⟨v', w', hr, h2, h3, h4⟩ := push_runs (P := P) (us := us) ht hinfo hz hs0 hb1 hown hl h1 hbytes hbase
  exact wpList_app hr hgd ho hs hx (h v' w' h2 h3 h4)

/-- A slice of one element, in a block of its own. -/
def NewB (top : Nat) (v : Value) (us : Array Value) (e : TypeId) (w : World) : Prop := ∃ k, v = .slice (some ⟨k, 0, none⟩) 1 1 ∧ top ≤ k ∧ w.heap[k]? = some (.cells us e (0, 0))

theorem newB_kept {top : Nat} {us : Array Value} {e : TypeId} : ∀ v w w', (fun v (w : World) => NewB top v us e w) v w → Below w.heap.size w w' → (fun v (w : World) => NewB top v us e w) v w' := by
  rintro v w w' ⟨k, h1, h2, h3⟩ hb
  exact ⟨k, h1, h2, (hb.block k (Array.getElem?_eq_some_iff.1 h3).1).trans h3⟩

theorem push_at {P : Program} {w : World} {t e bytes sz : Nat} {z : Value} (ht : P.underlying t = some (.slice e)) (hinfo : (P.info? e).map (fun i => (i.zero, i.size, i.bytes)) = some (some z, sz, bytes)) (hz : z.cells.size = sz) (hs0 : 0 < sz) (hb1 : 1 ≤ bytes)
    {base n k : Nat} {v : Value} {us : Array Value} {xs : List Value} (hown : w.ownsRow base e sz v n xs) (hk : w.heap[k]? = some (.cells us e (0, 0))) (hl : us.size = sz) (h1 : ∀ u ∈ us.toList, u.oneCell' = true) (hbytes : (n + 1) * bytes ≤ 140737488355328) (hbase : base ≤ w.heap.size) :
    ∃ v' w', (∀ ty, (Builtin.append_ #[t, t] ty #[v, .slice (some ⟨k, 0, none⟩) 1 1]).run P w = .ok v' w') ∧ w'.ownsRow base e sz v' (n + 1) (xs ++ us.toList) ∧ Below base w w' := by
  obtain ⟨i, hi, hz0, hs, hby⟩ := info_parts hinfo
  have hle : n + 1 ≤ (n + 1) * bytes := Nat.le_mul_of_pos_right _ hb1
  have key : ∀ ty, ∃ v' w', (Builtin.append_ #[t, t] ty #[v, .slice (some ⟨k, 0, none⟩) 1 1]).run P w = .ok v' w' ∧ w'.ownsRow base e sz v' (n + 1) (xs ++ us.toList) ∧ Below base w w' := by
    intro ty
    obtain ⟨v', w', hr, h2, h3, _⟩ := run_append_own (P := P) w base t ty e i z sz bytes ht hi hz0 hs hby hz hs0 v n xs hown
      ⟨k, 0, none⟩ 1 1 us.toList (by simp [hl]) (fun j u hj => by
        rw [addr_add, cell_of_row w k j us e (0, 0) hk]
        simpa using hj) h1 (by unfold maxLen; omega) hbytes hbase
    exact ⟨v', w', hr, h2, (Below.refl _ _).grown h3 hbase (fun k hk => (hown.lt k hk).1)⟩
  obtain ⟨v', w', hr, h⟩ := key 0
  refine ⟨v', w', fun ty => ?_, h⟩
  rw [← hr]; rfl

theorem wpList_pushAt {P : Program} {w : World} {t e bytes sz : Nat} {z : Value} (ht : P.underlying t = some (.slice e)) (hinfo : (P.info? e).map (fun i => (i.zero, i.size, i.bytes)) = some (some z, sz, bytes)) (hz : z.cells.size = sz) (hs0 : 0 < sz) (hb1 : 1 ≤ bytes)
    {base n k : Nat} {v : Value} {us : Array Value} {xs : List Value} (hown : w.ownsRow base e sz v n xs) (hk : w.heap[k]? = some (.cells us e (0, 0))) (hbase : base ≤ w.heap.size) (hbytes : (n + 1) * bytes ≤ 140737488355328)
    {ops : Array Oper} {rest : List Oper} {o : Oper} {a : Act} {Q : Exit → Act → World → Prop} {s x : Operand}
    (hgd : o.guard = none) (ho : o.op = .call { callee := .builtin .append, args := #[s, x], argTypes := #[t, t] }) (hs : a.eval s = v) (hx : a.eval x = .slice (some ⟨k, 0, none⟩) 1 1) (hl : us.size = sz) (h1 : ∀ u ∈ us.toList, u.oneCell' = true)
    (h : ∀ v' w', w'.ownsRow base e sz v' (n + 1) (xs ++ us.toList) → Below base w w' → wpList P ops Q rest (a.put o.dst v') w') : wpList P ops Q (o :: rest) a w := by
  obtain ⟨v', w', hr, h2, h3⟩ := push_at (P := P) (us := us) ht hinfo hz hs0 hb1 hown hk hl h1 hbytes hbase
  exact wpList_app hr hgd ho hs hx (h v' w' h2 h3)
end Go.Proofs.Ytbllifhcfgjdlaa
