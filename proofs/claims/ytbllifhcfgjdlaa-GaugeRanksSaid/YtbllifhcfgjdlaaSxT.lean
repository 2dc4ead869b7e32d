/- What is proved here: what a call leaves alone: blocks of a type; blocks from a number on. -/
import Derived.Test.YtbllifhcfgjdlaaSxV
import Derived.Test.YtbllifhcfgjdlaaSxK
namespace Go.Proofs.Ytbllifhcfgjdlaa
open Go.RowKit
set_option linter.unusedVariables false
set_option linter.unusedSimpArgs false
/-- The blocks of a type are as they were. -/
def KT (T : Nat) (w1 w : World) : Prop := ∀ (bf : Nat) (cs : Array Value), w1.heap[bf]? = some (.cells cs T (0, 0)) → w.heap[bf]? = some (.cells cs T (0, 0))
theorem KT.refl (T : Nat) (w : World) : KT T w w := fun _ _ h => h
theorem KT.trans {T : Nat} {w w1 w2 : World} (h : KT T w w1) (h2 : KT T w1 w2) : KT T w w2 := fun b cs hb => h2 b cs (h b cs hb)
theorem KT.map {T : Nat} {w1 w w' : World} (h : KT T w1 w) (hm : ∀ (bf : Nat) (cs : Array Value), w.heap[bf]? = some (.cells cs T (0, 0)) → w'.heap[bf]? = some (.cells cs T (0, 0))) : KT T w1 w' := fun b cs hb => hm b cs (h b cs hb)
theorem KT.of_below {T : Nat} {w w' : World} (h : Below w.heap.size w w') : KT T w w' := fun _ _ hb => blk_ext hb h
theorem blk_ty {w : World} {b c T T2 : Nat} {cs cs2 : Array Value} {fr fr2 : Nat × Nat} (h1 : w.heap[b]? = some (.cells cs T fr)) (h2 : w.heap[c]? = some (.cells cs2 T2 fr2)) (h : (T == T2) = false) : b ≠ c := by
  rintro rfl
  rw [h1] at h2
  injection h2 with e
  injection e with e1 e2 e3
  subst e2
  simp at h
theorem KT.grown {T T2 b : Nat} {w w' : World} {cs : Array Value} {fr : Nat × Nat} (hg : w.grownBy w' (some b)) (hb : w.heap[b]? = some (.cells cs T2 fr)) (hne : (T == T2) = false) : KT T w w' := fun bf cs2 h => blk_grown h hg (blk_ty h hb hne)
theorem KT.app {α : Type} {T k e base : Nat} {V : α → List Value} {l : List α} {v : Value} {w w' : World} (hg : w.grownBy w' v.ownBlock) (hr : Row k V e base w v l) (hne : (e == T) = false) : KT T w w' := fun bf cs2 h => blk_row' h hg (Row.ne_type hr h hne)
theorem Row.kt {α : Type} {k e base : Nat} {V : α → List Value} {v : Value} {l : List α} {w w' : World} (h : Row k V e base w v l) (hk : KT e w w') : Row k V e base w' v l := by
  refine ⟨h.1, ?_⟩
  rcases h.2 with hz | ⟨g, cap, cur, rfl, hb, hgg, rest⟩
  · exact .inl hz
  · exact .inr ⟨g, cap, cur, rfl, hb, hk _ _ hgg, rest⟩
/-- The blocks from X on are as they were. -/
def KX (X : Nat) (w1 w : World) : Prop := ∀ (k : Nat) (o : Obj), X ≤ k → w1.heap[k]? = some o → w.heap[k]? = some o
theorem KX.refl (X : Nat) (w : World) : KX X w w := fun _ _ _ h => h
section
variable {X : Nat} {w1 w w' : World}
theorem KX.below (h : KX X w1 w) (hb : Below w.heap.size w w') : KX X w1 w' := fun k o hk ho => blk_ext (h k o hk ho) hb
theorem KX.grown {b : Nat} (h : KX X w1 w) (hg : w.grownBy w' (some b)) (hx : b < X ∨ w1.heap.size ≤ b) : KX X w1 w' := fun k o hk ho => blk_grown (h k o hk ho) hg (fun e => by have := (Array.getElem?_eq_some_iff.1 ho).1; omega)
theorem KX.app {v : Value} (h : KX X w1 w) (hg : w.grownBy w' v.ownBlock) (hx : ∀ q, v.ownBlock = some q → q < X ∨ w1.heap.size ≤ q) : KX X w1 w' := fun k o hk ho => blk_row' (h k o hk ho) hg (fun e => by have := (Array.getElem?_eq_some_iff.1 ho).1; have := hx k e; omega)
theorem KX.go {b : Nat} {v : Value} (h : KX X w1 w) (hg : GO w b v w') (hx : b < X ∨ w1.heap.size ≤ b) (hv : ∀ q, v.ownBlock = some q → q < X ∨ w1.heap.size ≤ q) : KX X w1 w' := fun k o hk ho => blk_go (h k o hk ho) hg (fun e => by have := (Array.getElem?_eq_some_iff.1 ho).1; omega) (fun e => by have := (Array.getElem?_eq_some_iff.1 ho).1; have := hv k e; omega)
end
theorem Below_go {B : Nat} {w0 w w1 : World} {b : Nat} {v : Value} (h : Below B w0 w) (h2 : GO w b v w1) (hB : B ≤ w.heap.size) (hm : B ≤ b) (hv : ∀ q, v.ownBlock = some q → B ≤ q) : Below B w0 w1 :=
  h.trans ⟨h2.os, h2.tape, h2.output, h2.size, fun k hk => h2.block k (by omega) (by rintro rfl; omega) (fun e => by have := hv k e.symm; omega)⟩
theorem Row.cutA {α : Type} {k e base : Nat} {V : α → List Value} {w : World} {l : List α} {a : Option Addr} {n c m : Nat} (hk : ∀ x, (V x).length = k) (h : Row k V e base w (.slice a n c) l) (hn : n = l.length) (hm : m ≤ n) : Row k V e base w (.slice a m c) (l.take m) := by
  rcases Nat.eq_zero_or_pos n with h0 | h0
  · have hl : l = [] := List.length_eq_zero_iff.1 (by omega)
    subst hl
    have e : m = n := by omega
    subst e
    rw [List.take_nil]
    exact h
  · exact Row.cut hk h hn h0 hm
end Go.Proofs.Ytbllifhcfgjdlaa
