/- What is proved here: an argument that is rows of three numbers, read as such. -/
import Derived.Test.YtpdmkignihhobaaTbF
import Derived.Deep.Slices
import Derived.Laws.IdiomArrays
import Derived.ChangeSame
namespace Go.Proofs.Ytpdmkignihhobaa
open Go.RowKit Go.ChangeShapes Go.WideShapes Go.Deep
set_option linter.unusedVariables false
set_option linter.unusedSimpArgs false

theorem cell_here {w : World} {x : Addr} {v : Value} (h : w.cell? x = some v) : x.spot = none ∧ x.block < w.heap.size := by
  unfold World.cell? at h
  split at h
  · rename_i c e fr hh
    refine ⟨?_, (Array.getElem?_eq_some_iff.1 hh).1⟩
    cases hsp : x.spot with
    | none => rfl
    | some _ => simp [hsp] at h
  · cases h

section
variable {H : Type} {enc : TypeId × Value → H} {P : Program} {w : World} {base : Nat} {spare : Nat → Bool} {held : Bool}
theorem rdT_open {t s e : TypeId} {fuel : Nat} {cs : List Value} {x : DataW H × List MemPlace} (ht : P.underlying t = some (.slice s)) (hs : P.underlying s = some (.array 3 e)) (hs1 : P.cellsOf s = 3) (he1 : P.cellsOf e = 1) (he : P.underlying e = some (.int .i64))
    (h : DataW.trod enc P w base spare held fuel t cs = some x) :
    ∃ (a : Option Addr) (len cap : Nat) (g : Nat → Int × Int × Int), cs = [.slice a len cap] ∧ len ≤ cap ∧ RdT w a len g := by
  rcases open_slice ht h with ⟨rfl, _⟩ | ⟨a, len, cap, m, n, D, Pl, rfl, hb, hlc, hm, hmm, hx, hi⟩
  · exact ⟨none, 0, 0, fun _ => (0, 0, 0), rfl, Nat.le_refl _, fun j hj => absurd hj (by omega)⟩
  · have hml : len ≤ m := by rw [hmm]; split <;> omega
    have one : ∀ i, i < len → ∃ v0 v1 v2 : Int, w.cell? (a.add (i * 3)) = some (.int .i64 v0) ∧ w.cell? ((a.add (i * 3)).add 1) = some (.int .i64 v1) ∧ w.cell? ((a.add (i * 3)).add 2) = some (.int .i64 v2) := by
      intro i hil
      obtain ⟨cs', hc, ht'⟩ := hi i (by omega)
      rw [hs1] at hc
      obtain ⟨_, hcl, hat⟩ := World.cells?_some hc
      match cs', hcl with
      | [c0, c1, c2], _ =>
        obtain ⟨y0, y1, y2, n', _, h0, h1, h2⟩ := trod_array3 hs he1 ht'
        obtain ⟨v0, e0, _⟩ := DataW.trod_int he h0
        obtain ⟨v1, e1, _⟩ := DataW.trod_int he h1
        obtain ⟨v2, e2, _⟩ := DataW.trod_int he h2
        simp at e0 e1 e2
        subst e0 e1 e2
        have a0 := hat 0 (by omega)
        have a1 := hat 1 (by omega)
        have a2 := hat 2 (by omega)
        rw [show (a.add (i * 3)).add 0 = a.add (i * 3) from rfl] at a0
        exact ⟨v0, v1, v2, by simpa using a0, by simpa using a1, by simpa using a2⟩
    have hsp : 0 < len → ∃ b off, a = ⟨b, off, none⟩ := by
      intro h0
      obtain ⟨v0, v1, v2, c0, _⟩ := one 0 h0
      rw [Nat.zero_mul, show a.add 0 = a from rfl] at c0
      obtain ⟨s0, _⟩ := cell_here c0
      obtain ⟨b, off, sp⟩ := a
      simp only at s0; subst s0
      exact ⟨b, off, rfl⟩
    have key : ∀ i, ∃ s : Int × Int × Int, i < len → ∃ b off, a = ⟨b, off, none⟩ ∧ w.cell? ⟨b, off + i * 3, none⟩ = some (.int .i64 s.1) ∧ w.cell? ⟨b, off + i * 3 + 1, none⟩ = some (.int .i64 s.2.1) ∧ w.cell? ⟨b, off + i * 3 + 2, none⟩ = some (.int .i64 s.2.2) ∧ b < w.heap.size := by
      intro i
      by_cases hil : i < len
      · obtain ⟨v0, v1, v2, c0, c1, c2⟩ := one i hil
        refine ⟨(v0, v1, v2), fun _ => ?_⟩
        obtain ⟨b, off, rfl⟩ := hsp (by omega)
        have e : ∀ o k, (⟨b, o, none⟩ : Addr).add k = ⟨b, o + k, none⟩ := fun o k => by
          by_cases hk : k = 0
          · subst hk; rfl
          · unfold Addr.add; rw [if_neg hk]
        obtain ⟨_, l0⟩ := cell_here c0
        rw [e] at c0 c1 c2 l0
        rw [e] at c1 c2
        exact ⟨b, off, rfl, c0, c1, c2, l0⟩
      · exact ⟨(0, 0, 0), fun h => absurd h hil⟩
    refine ⟨some a, len, cap, fun i => Classical.choose (key i), rfl, hlc, fun j hj => ?_⟩
    obtain ⟨b, off, rfl, h0, h1, h2, hl⟩ := Classical.choose_spec (key j) hj
    exact ⟨b, off, rfl, h0, h1, h2, hl⟩
end
end Go.Proofs.Ytpdmkignihhobaa
