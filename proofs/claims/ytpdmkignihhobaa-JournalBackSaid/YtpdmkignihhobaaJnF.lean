/- What is proved here: an argument that is rows of two small numbers, read as such. -/
import Derived.Test.YtpdmkignihhobaaJnD
import Derived.Deep.Slices
import Derived.OpenShut
import Derived.Laws.IdiomArrays
import Derived.ChangeSame
namespace Go.Proofs.Ytpdmkignihhobaa
open Go.RowKit Go.ChangeShapes Go.WideShapes Go.Deep
set_option linter.unusedVariables false
set_option linter.unusedSimpArgs false

theorem cell_here2 {w : World} {x : Addr} {v : Value} (h : w.cell? x = some v) : x.spot = none ∧ x.block < w.heap.size := by
  unfold World.cell? at h
  split at h
  · rename_i c e fr hh
    refine ⟨?_, (Array.getElem?_eq_some_iff.1 hh).1⟩
    cases hsp : x.spot with
    | none => rfl
    | some _ => simp [hsp] at h
  · cases h

theorem list4 (l : List Value) (h : l.length = 4) : ∃ a b c d, l = [a, b, c, d] := by
  match l, h with
  | [a, b, c, d], _ => exact ⟨a, b, c, d, rfl⟩

theorem u8_wf {n : Int} (h : (Lit.int .u8 n).wf = true) : 0 ≤ n ∧ n < 256 := by
  simp [Lit.wf, IntKind.min, IntKind.max, IntKind.signed, IntKind.bits] at h
  omega

section
variable {H : Type} {enc : TypeId × Value → H} {P : Program} {w : World} {base : Nat} {spare : Nat → Bool} {held : Bool}
theorem rdP_open {t s e : TypeId} {fuel : Nat} {cs : List Value} {x : DataW H × List MemPlace} (ht : P.underlying t = some (.slice s)) (hs : P.underlying s = some (.array 2 e)) (hs1 : P.cellsOf s = 2) (he1 : P.cellsOf e = 1) (he : P.underlying e = some (.int .u8))
    (h : DataW.trod enc P w base spare held fuel t cs = some x) :
    ∃ (a : Option Addr) (len cap : Nat) (g : Nat → Int × Int), cs = [.slice a len cap] ∧ len ≤ cap ∧ RdP w a len g := by
  rcases open_slice ht h with ⟨rfl, _⟩ | ⟨a, len, cap, m, n, D, Pl, rfl, hb, hlc, hm, hmm, hx, hi⟩
  · exact ⟨none, 0, 0, fun _ => (0, 0), rfl, Nat.le_refl _, fun j hj => absurd hj (by omega)⟩
  · have hml : len ≤ m := by rw [hmm]; split <;> omega
    have one : ∀ i, i < len → ∃ v0 v1 : Int, w.cell? (a.add (i * 2)) = some (.int .u8 v0) ∧ w.cell? ((a.add (i * 2)).add 1) = some (.int .u8 v1) ∧ (0 ≤ v0 ∧ v0 < 256) ∧ 0 ≤ v1 ∧ v1 < 256 := by
      intro i hil
      obtain ⟨cs', hc, ht'⟩ := hi i (by omega)
      rw [hs1] at hc
      obtain ⟨_, hcl, hat⟩ := World.cells?_some hc
      match cs', hcl with
      | [c0, c1], _ =>
        obtain ⟨xs, m', _, _, _, hxl, hxi⟩ := DataW.trod_array hs ht'
        have h0 := hxi 0 (by omega)
        have h1 := hxi 1 (by omega)
        rw [he1] at h0 h1
        rw [List.getElem?_eq_getElem (by omega)] at h0 h1
        obtain ⟨v0, e0, _, w0⟩ := DataW.trod_int he h0
        obtain ⟨v1, e1, _, w1⟩ := DataW.trod_int he h1
        simp at e0 e1
        subst e0 e1
        have a0 := hat 0 (by omega)
        have a1 := hat 1 (by omega)
        rw [show (a.add (i * 2)).add 0 = a.add (i * 2) from rfl] at a0
        exact ⟨v0, v1, by simpa using a0, by simpa using a1, u8_wf w0, u8_wf w1⟩
    have hsp : 0 < len → ∃ b off, a = ⟨b, off, none⟩ := by
      intro h0
      obtain ⟨v0, v1, c0, _⟩ := one 0 h0
      rw [Nat.zero_mul, show a.add 0 = a from rfl] at c0
      obtain ⟨s0, _⟩ := cell_here2 c0
      obtain ⟨b, off, sp⟩ := a
      simp only at s0; subst s0
      exact ⟨b, off, rfl⟩
    have key : ∀ i, ∃ s : Int × Int, i < len → ∃ b off, a = ⟨b, off, none⟩ ∧ w.cell? ⟨b, off + i * 2, none⟩ = some (.int .u8 s.1) ∧ w.cell? ⟨b, off + i * 2 + 1, none⟩ = some (.int .u8 s.2) ∧ b < w.heap.size ∧ 0 ≤ s.1 ∧ s.1 < 256 ∧ 0 ≤ s.2 ∧ s.2 < 256 := by
      intro i
      by_cases hil : i < len
      · obtain ⟨v0, v1, c0, c1, r0, r1⟩ := one i hil
        refine ⟨(v0, v1), fun _ => ?_⟩
        obtain ⟨b, off, rfl⟩ := hsp (by omega)
        have e : ∀ o k, (⟨b, o, none⟩ : Addr).add k = ⟨b, o + k, none⟩ := fun o k => by
          by_cases hk : k = 0
          · subst hk; rfl
          · unfold Addr.add; rw [if_neg hk]
        obtain ⟨_, l0⟩ := cell_here2 c0
        rw [e] at c0 c1 l0
        rw [e] at c1
        exact ⟨b, off, rfl, c0, c1, l0, r0.1, r0.2, r1.1, r1.2⟩
      · exact ⟨(0, 0), fun h => absurd h hil⟩
    refine ⟨some a, len, cap, fun i => Classical.choose (key i), rfl, hlc, fun j hj => ?_⟩
    obtain ⟨b, off, rfl, r⟩ := Classical.choose_spec (key j) hj
    exact ⟨b, off, rfl, r⟩
end
end Go.Proofs.Ytpdmkignihhobaa
