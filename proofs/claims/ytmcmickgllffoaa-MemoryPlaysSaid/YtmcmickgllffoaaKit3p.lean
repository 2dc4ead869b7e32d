/-
  What is proved here: one element of any number of cells is appended; the new element lies in a block that is known.
-/
import Derived.Test.YtmcmickgllffoaaKitTp
namespace Go.Proofs.Ytmcmickgllffoaa
open Go.RowKit
set_option linter.unusedVariables false
set_option linter.unusedSimpArgs false

theorem heap_alloc_last (w : World) (o : Obj) : (w.alloc o).heap[w.heap.size]? = some o := by
  unfold World.alloc
  exact Array.getElem?_push_size

theorem heap_alloc_old (w : World) (o : Obj) (k : Nat) (h : k < w.heap.size) : (w.alloc o).heap[k]? = w.heap[k]? := Below.heap_alloc _ _ _ (by omega)

theorem size_alloc (w : World) (o : Obj) : (w.alloc o).heap.size = w.heap.size + 1 := by simp

theorem allocs2 (w : World) (a b : Array Value) (ta tb : TypeId) : ∃ W, W = (w.alloc (.cells a ta)).alloc (.cells b tb) ∧ W.heap.size = w.heap.size + 2 ∧ Below w.heap.size w W ∧
    W.heap[w.heap.size]? = some (.cells a ta (0, 0)) ∧ W.heap[w.heap.size + 1]? = some (.cells b tb (0, 0)) := by
  have s1 := size_alloc w (.cells a ta)
  have s2 := size_alloc (w.alloc (.cells a ta)) (.cells b tb)
  refine ⟨_, rfl, by omega, ((Below.refl _ _).alloc (Nat.le_refl _) _).alloc (by omega) _, ?_, ?_⟩
  · rw [heap_alloc_old _ _ _ (by omega)]; exact heap_alloc_last _ _
  · rw [← s1]; exact heap_alloc_last _ _

end Go.Proofs.Ytmcmickgllffoaa
