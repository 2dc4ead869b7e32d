/-
  What is proved here: arguments of any plain type (numbers, strings, slices, structs, arrays, nested) are read as data of Lean, by combinators.
-/
import Derived.Test.YtmcmickgllffoaaKitp
import Derived.Deep.Slices
import Derived.OpenShut
import Derived.ChangeSame
namespace Go.Proofs.Ytmcmickgllffoaa
open Go.RowKit Go.ChangeShapes Go.WideShapes Go.Deep
set_option linter.unusedVariables false
set_option linter.unusedSimpArgs false

/-- Cells of a type read as data: which cells stand for which data, and what is known of these. -/
structure Reads (P : Program) (t : TypeId) {α : Type} (V : α → List Value) (F : World → α → Prop) : Prop where
  get : ∀ (H : Type) (enc : TypeId × Value → H) (w : World) (base : Nat) (spare : Nat → Bool) (held : Bool) (fuel : Nat) (cs : List Value) (x : DataW H × List MemPlace), DataW.trod enc P w base spare held fuel t cs = some x → ∃ d, cs = V d ∧ F w d
  kept : ∀ w w' d, Below w.heap.size w w' → F w d → F w' d

def vInt (k : IntKind) (n : Int) : List Value := [.int k n]
def fInt (k : IntKind) (_ : World) (n : Int) : Prop := (Lit.int k n).wf = true
def vBool (b : Bool) : List Value := [.bool b]
def vStr (s : ByteArray) : List Value := [.string s]
theorem reads_int {P : Program} {t : TypeId} {k : IntKind} (ht : P.underlying t = some (.int k)) : Reads P t (vInt k) (fInt k) where
  get := by
    intro H enc w base spare held fuel cs x h
    obtain ⟨n, e, _, hw⟩ := DataW.trod_int ht h
    exact ⟨n, e, hw⟩
  kept := fun _ _ _ _ h => h

/- Structs: field by field. -/
structure ReadsFs (P : Program) (fs : List Field) (o tot : Nat) {α : Type} (V : α → List Value) (F : World → α → Prop) : Prop where
  get : ∀ (H : Type) (enc : TypeId × Value → H) (w : World) (base : Nat) (spare : Nat → Bool) (held : Bool) (n : Nat) (cs : List Value) (xs : List (DataW H × List MemPlace)), cs.length = tot → xs.length = fs.length →
    (∀ (i : Nat) (f : Field), fs[i]? = some f → DataW.trod enc P w base spare held n f.type ((cs.drop f.offset).take (P.cellsOf f.type)) = xs[i]?) → ∃ d, cs.drop o = V d ∧ F w d
  kept : ∀ w w' d, Below w.heap.size w w' → F w d → F w' d

/- Arrays. -/
/- Slices. -/
structure Sl (α : Type) where
  at' : Option Addr
  len : Nat
  cap : Nat
  el : Nat → α
def vSl {α : Type} (d : Sl α) : List Value := [.slice d.at' d.len d.cap]
def fSl {α : Type} (k : Nat) (V : α → List Value) (F : World → α → Prop) (w : World) (d : Sl α) : Prop :=
  d.len ≤ d.cap ∧ d.cap ≤ maxLen ∧ (d.at' = none → d.cap = 0) ∧ ∀ j, j < d.len → F w (d.el j) ∧ ∃ b off, d.at' = some ⟨b, off, none⟩ ∧ b < w.heap.size ∧ ∀ i u, (V (d.el j))[i]? = some u → w.cell? ⟨b, off + j * k + i, none⟩ = some u

theorem cell_here {w : World} {x : Addr} {v : Value} (h : w.cell? x = some v) : x.spot = none ∧ x.block < w.heap.size := by
  unfold World.cell? at h
  split at h
  · rename_i c e fr hh
    refine ⟨?_, (Array.getElem?_eq_some_iff.1 hh).1⟩
    cases hsp : x.spot with
    | none => rfl
    | some _ => simp [hsp] at h
  · cases h

/- An argument. -/
theorem Reads.arg {P : Program} {t : TypeId} {α : Type} {V : α → List Value} {F : World → α → Prop} (R : Reads P t V F) {H : Type} {enc : TypeId × Value → H} {w : World} {base : Nat} {spare : Nat → Bool} {held : Bool} {v : Value} {d : DataW H} {p : List MemPlace}
    (h : DataW.Trod enc P w base spare held t v d p) : ∃ d, v.cells.toList = V d ∧ F w d := by
  obtain ⟨fuel, hf⟩ := h
  exact R.get H enc w base spare held fuel _ _ hf

/-- Numbers of one cell, as a list. -/
def Sl.list {α : Type} (d : Sl α) : List α := (List.range d.len).map d.el
theorem Sl.list_length {α : Type} (d : Sl α) : d.list.length = d.len := by simp [Sl.list]
theorem Sl.list_get {α : Type} (d : Sl α) {j : Nat} (h : j < d.len) : d.list[j]? = some (d.el j) := by simp [Sl.list, h]
end Go.Proofs.Ytmcmickgllffoaa
