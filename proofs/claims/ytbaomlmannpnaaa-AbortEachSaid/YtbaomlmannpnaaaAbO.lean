/- What is proved here: an argument that is rows of steps, read as rows of steps. -/
import Derived.Test.YtbaomlmannpnaaaAbN
import Derived.Test.YtbaomlmannpnaaaAbJ
namespace Go.Proofs.Ytbaomlmannpnaaa
open Go.RowKit Go.ChangeShapes Go.WideShapes Go.Deep
set_option linter.unusedVariables false
set_option linter.unusedSimpArgs false

section
variable {H : Type} {enc : TypeId × Value → H} {P : Program} {w : World} {base : Nat} {spare : Nat → Bool} {held : Bool}
theorem rowsR_open {t s e : TypeId} {fs : Array Field} {fuel : Nat} {cs : List Value} {x : DataW H × List MemPlace} (ht : P.underlying t = some (.slice s)) (hs : P.underlying s = some (.slice e)) (hs1 : P.cellsOf s = 1) (he : P.underlying e = some (.struct fs))
    (hone : oneCellFields P fs = true) (hC : P.cellsOf e = fs.size) (h3 : fs.size = 3) (hint : ∀ (j : Nat) (f : Field), fs[j]? = some f → P.underlying f.type = some (.int .i64)) (h : DataW.trod enc P w base spare held fuel t cs = some x) :
    ∃ (a : Option Addr) (len cap : Nat) (G : RowG), cs = [.slice a len cap] ∧ len ≤ cap ∧ RowsR w a len G := by
  rcases open_slice ht h with ⟨rfl, _⟩ | ⟨a, len, cap, m, n, D, Pl, rfl, hb, hlc, hm, hmm, hx, hi⟩
  · exact ⟨none, 0, 0, fun _ => (none, 0, 0, fun _ => (0, 0, 0)), rfl, Nat.le_refl _, fun j hj => absurd hj (by omega)⟩
  · have hml : len ≤ m := by rw [hmm]; split <;> omega
    have one : ∀ i, i < len → ∃ (ra : Option Addr) (rn rc : Nat) (rg : Nat → St), w.cell? (a.add i) = some (.slice ra rn rc) ∧ rn ≤ rc ∧ StR w ra rn rg := by
      intro i hil
      obtain ⟨cs', hc, ht'⟩ := hi i (by omega)
      obtain ⟨ra, rn, rc, rg, rfl, h1, h2⟩ := stR_open hs he hone hC h3 hint ht'
      rw [hs1] at hc
      obtain ⟨_, hcl, hat⟩ := World.cells?_some hc
      have := hat 0 (by simp)
      rw [Nat.mul_one, show (a.add i).add 0 = a.add i from rfl] at this
      exact ⟨ra, rn, rc, rg, by simpa using this, h1, h2⟩
    have hsp : 0 < len → ∃ b off, a = ⟨b, off, none⟩ ∧ b < w.heap.size := by
      intro h0
      obtain ⟨ra, rn, rc, rg, hc, _⟩ := one 0 h0
      rw [show a.add 0 = a from rfl] at hc
      obtain ⟨s0, l0⟩ := cell_here hc
      obtain ⟨b, off, sp⟩ := a
      simp only at s0; subst s0
      exact ⟨b, off, rfl, l0⟩
    have key : ∀ i, ∃ s : Option Addr × Nat × Nat × (Nat → St), i < len → w.cell? (a.add i) = some (.slice s.1 s.2.1 s.2.2.1) ∧ s.2.1 ≤ s.2.2.1 ∧ StR w s.1 s.2.1 s.2.2.2 := by
      intro i
      by_cases hil : i < len
      · obtain ⟨ra, rn, rc, rg, h1, h2, h3⟩ := one i hil
        exact ⟨(ra, rn, rc, rg), fun _ => ⟨h1, h2, h3⟩⟩
      · exact ⟨(none, 0, 0, fun _ => (0, 0, 0)), fun h => absurd h hil⟩
    refine ⟨some a, len, cap, fun i => Classical.choose (key i), rfl, hlc, fun j hj => ?_⟩
    obtain ⟨b, off, rfl, hlt⟩ := hsp (by omega)
    have e : ∀ k, (⟨b, off, none⟩ : Addr).add k = ⟨b, off + k, none⟩ := fun k => by
      by_cases hk : k = 0
      · subst hk; rfl
      · unfold Addr.add; rw [if_neg hk]
    obtain ⟨h1, h2, h3⟩ := Classical.choose_spec (key j) hj
    exact ⟨b, off, rfl, hlt, (congrArg w.cell? (e j)).symm.trans h1, h2, h3⟩
end
end Go.Proofs.Ytbaomlmannpnaaa
