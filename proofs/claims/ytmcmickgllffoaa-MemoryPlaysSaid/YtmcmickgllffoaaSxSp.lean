/- What is proved here: a string appended to a row of bytes; bytes as numbers and back. -/
import Derived.Test.YtmcmickgllffoaaSxGp
import Derived.Lib.AppendStr
import Derived.Test.YtmcmickgllffoaaKitOp
namespace Go.Proofs.Ytmcmickgllffoaa
open Go.RowKit
set_option linter.unusedVariables false
set_option linter.unusedSimpArgs false

/-- The bytes of a string, as numbers. -/
def nums (s : ByteArray) : List Int := s.data.toList.map fun b => ((b.toNat : Nat) : Int)
theorem nums_len (s : ByteArray) : (nums s).length = s.size := by unfold nums; rw [List.length_map, Array.length_toList]; rfl
theorem nums_str {l : List Int} (h : ∀ x ∈ l, 0 ≤ x ∧ x < 256) : nums (strOfNums l) = l := by
  unfold nums strOfNums
  rw [show (⟨(l.map fun n => UInt8.ofNat n.toNat).toArray⟩ : ByteArray).data.toList = l.map fun n => UInt8.ofNat n.toNat from by simp, List.map_map]
  conv => rhs; rw [← List.map_id l]
  apply List.map_congr_left
  intro x hx
  have := h x hx
  simp
  omega
theorem nums_rng (s : ByteArray) : ∀ x ∈ nums s, 0 ≤ x ∧ x < 256 := by
  intro x hx
  unfold nums at hx
  obtain ⟨b, _, rfl⟩ := List.mem_map.1 hx
  have := b.toNat_lt
  omega
theorem nums_get {s : ByteArray} {j : Nat} (h : j < s.size) : (nums s)[j]? = some ((sbt s j : Nat) : Int) := by
  have hl : j < s.data.toList.length := by rw [Array.length_toList]; exact h
  unfold nums sbt
  rw [List.getElem?_map, List.getElem?_eq_getElem hl, List.getD_eq_getElem?_getD, List.getElem?_eq_getElem hl]
  rfl
section
variable {P : Program} {L : List (Nat × Value)} {w : World} {d : Option Tmp} {ty : TypeId} {ps : String} {af : Array Edge} {g : Option (Nat × Bool)}
theorem retC {fn : Func} {R : Ending → World → Prop} {a : Act} {N : Nat} {p : Tmp} {T T2 : TypeId} {b : Nat} {cs : Array Value} {fr : Nat × Nat} {td : TypeDesc} (hf : Fr N a L) (hr : fn.results = #[.cell p T]) (hp : lk L p = some (.pointer (some ⟨b, 0, none⟩)))
    (hb : w.heap[b]? = some (.cells cs T2 fr)) (hu : P.underlying T = some td) (hd : plainT td = false) (hi : (P.info? T).map (·.size) = some cs.size) (hR : R (.returned (.agg cs)) w) : bodyPost P fn R .ret a w := by
  refine bodyPost_ret (v := .agg cs) ?_ hf.defers hR
  simp [results, hr, hf.has p _ hp, asAddr, load_cell hb hu hd hi]
end
end Go.Proofs.Ytmcmickgllffoaa
