/- What is proved here: an argument that is a list of steps, read as steps. -/
import Derived.Test.YtbaomlmannpnaaaAbB
import Derived.Deep.Slices
import Derived.Deep.Fields
import Derived.ChangeSame
namespace Go.Proofs.Ytbaomlmannpnaaa
open Go.RowKit Go.ChangeShapes Go.WideShapes Go.Deep
set_option linter.unusedVariables false
set_option linter.unusedSimpArgs false

section
variable {H : Type} {enc : TypeId × Value → H} {P : Program} {w : World} {base : Nat} {spare : Nat → Bool} {held : Bool}
theorem open_slice_fields {t e : TypeId} {fs : Array Field} {fuel : Nat} {cs : List Value} {x : DataW H × List MemPlace} (ht : P.underlying t = some (.slice e)) (he : P.underlying e = some (.struct fs))
    (hone : oneCellFields P fs = true) (hC : P.cellsOf e = fs.size) (h : DataW.trod enc P w base spare held fuel t cs = some x) :
    (cs = [.slice none 0 0] ∧ x = (.nil, [])) ∨
    ∃ (a : Addr) (len cap m : Nat) (D : Nat → DataW H) (Pl : Nat → List MemPlace), cs = [.slice (some a) len cap] ∧ base ≤ a.block ∧ len ≤ cap ∧ cap ≤ maxLen ∧ m = (if spare a.block then cap else len) ∧
      x = (.slice ((List.range len).map D) ((List.range (m - len)).map fun j => D (len + j)), MemPlace.row a (m * fs.size) ++ (List.range m).flatMap Pl) ∧
      ∀ i, i < m → ∃ (ys : List (DataW H × List MemPlace)) (n : Nat), D i = .agg (ys.map (·.1)) ∧ Pl i = ys.flatMap (·.2) ∧ ys.length = fs.size ∧
        ∀ (j : Nat) (f : Field), fs[j]? = some f → ∃ (v : Value) (y : DataW H × List MemPlace), w.cell? (a.add (i * fs.size + j)) = some v ∧ ys[j]? = some y ∧ DataW.trod enc P w base spare held n f.type [v] = some y := by
  rcases open_slice ht h with h0 | ⟨a, len, cap, m, n, D, Pl, hcs, hb, hl, hm, hmm, hx, hi⟩
  · exact .inl h0
  · refine .inr ⟨a, len, cap, m, D, Pl, hcs, hb, hl, hm, hmm, by rw [hC] at hx; exact hx, fun i him => ?_⟩
    obtain ⟨cs', hc, ht'⟩ := hi i him
    rw [hC] at hc
    obtain ⟨ys, n', hn', hy, hlen, hyl, hf⟩ := DataW.trod_struct he ht'
    obtain ⟨_, hcl, hat⟩ := World.cells?_some hc
    simp only [Prod.mk.injEq] at hy
    refine ⟨ys, n', hy.1, hy.2, hyl, fun j f hj => ?_⟩
    obtain ⟨ho, hk⟩ := hone_of hone j f hj
    have hjl : j < fs.size := (Array.getElem?_eq_some_iff.1 hj).1
    have hcell := hat j hjl
    have hv : cs'[j]? = some (cs'[j]'(by omega)) := List.getElem?_eq_getElem (by omega)
    have h1 := hf j f hj
    rw [ho, hk] at h1
    have hone' : (cs'.drop j).take 1 = [cs'[j]'(by omega)] := by
      rw [List.drop_eq_getElem_cons (by omega)]
      rfl
    rw [hone'] at h1
    have hys : ys[j]? = some (ys[j]'(by omega)) := List.getElem?_eq_getElem (by omega)
    refine ⟨_, _, ?_, hys, h1.trans hys⟩
    rw [← Go.Deep.add_add, hcell, hv]
end

theorem cell_here {w : World} {x : Addr} {v : Value} (h : w.cell? x = some v) : x.spot = none ∧ x.block < w.heap.size := by
  unfold World.cell? at h
  split at h
  · rename_i c e fr hh
    refine ⟨?_, (Array.getElem?_eq_some_iff.1 hh).1⟩
    cases hsp : x.spot with
    | none => rfl
    | some _ => simp [hsp] at h
  · cases h

section
variable {H : Type} {enc : TypeId × Value → H} {P : Program} {w : World} {base : Nat} {spare : Nat → Bool} {held : Bool}
theorem stR_open {t e : TypeId} {fs : Array Field} {fuel : Nat} {cs : List Value} {x : DataW H × List MemPlace} (ht : P.underlying t = some (.slice e)) (he : P.underlying e = some (.struct fs))
    (hone : oneCellFields P fs = true) (hC : P.cellsOf e = fs.size) (h3 : fs.size = 3) (hint : ∀ (j : Nat) (f : Field), fs[j]? = some f → P.underlying f.type = some (.int .i64)) (h : DataW.trod enc P w base spare held fuel t cs = some x) :
    ∃ (a : Option Addr) (len cap : Nat) (g : Nat → St), cs = [.slice a len cap] ∧ len ≤ cap ∧ StR w a len g := by
  rcases open_slice_fields ht he hone hC h with ⟨rfl, _⟩ | ⟨a, len, cap, m, D, Pl, rfl, _, hlc, _, hm, _, hi⟩
  · exact ⟨none, 0, 0, fun _ => (0, 0, 0), rfl, Nat.le_refl _, fun j hj => absurd hj (by omega)⟩
  · have hml : len ≤ m := by rw [hm]; split <;> omega
    have hsp : 0 < len → ∃ b off, a = ⟨b, off, none⟩ := by
      intro h0
      obtain ⟨ys, n, _, _, _, hf⟩ := hi 0 (by omega)
      have hfj : fs[0]? = some (fs[0]'(by omega)) := Array.getElem?_eq_getElem (by omega)
      obtain ⟨v, y, hc, _, _⟩ := hf 0 _ hfj
      rw [Nat.zero_mul, show a.add (0 + 0) = a from rfl] at hc
      obtain ⟨s0, _⟩ := cell_here hc
      obtain ⟨b, off, sp⟩ := a
      simp only at s0; subst s0
      exact ⟨b, off, rfl⟩
    have key : ∀ i, ∃ s : St, i < len → ∃ b off, a = ⟨b, off, none⟩ ∧ w.cell? ⟨b, off + i * 3, none⟩ = some (.int .i64 s.1) ∧ w.cell? ⟨b, off + i * 3 + 1, none⟩ = some (.int .i64 s.2.1) ∧ w.cell? ⟨b, off + i * 3 + 2, none⟩ = some (.int .i64 s.2.2) ∧ b < w.heap.size := by
      intro i
      by_cases hil : i < len
      · obtain ⟨ys, n, _, _, _, hf⟩ := hi i (by omega)
        have one : ∀ j, j < 3 → ∃ v : Int, w.cell? (a.add (i * 3 + j)) = some (.int .i64 v) := by
          intro j hj
          have hfj : fs[j]? = some (fs[j]'(by omega)) := Array.getElem?_eq_getElem (by omega)
          obtain ⟨v, y, hc, _, ht'⟩ := hf j _ hfj
          obtain ⟨z, hv, _⟩ := DataW.trod_int (hint j _ hfj) ht'
          simp at hv
          rw [h3] at hc
          exact ⟨z, by rw [hc, hv]⟩
        obtain ⟨v0, c0⟩ := one 0 (by omega)
        obtain ⟨v1, c1⟩ := one 1 (by omega)
        obtain ⟨v2, c2⟩ := one 2 (by omega)
        refine ⟨(v0, v1, v2), fun _ => ?_⟩
        obtain ⟨b, off, rfl⟩ := hsp (by omega)
        have e : ∀ k, (⟨b, off, none⟩ : Addr).add k = ⟨b, off + k, none⟩ := by intro k; unfold Addr.add; split <;> simp_all
        obtain ⟨_, l0⟩ := cell_here c0
        rw [e] at c0 c1 c2 l0
        exact ⟨b, off, rfl, by simpa using c0, by simpa [Nat.add_assoc] using c1, by simpa [Nat.add_assoc] using c2, l0⟩
      · exact ⟨(0, 0, 0), fun h => absurd h hil⟩
    refine ⟨some a, len, cap, fun i => Classical.choose (key i), rfl, hlc, fun j hj => ?_⟩
    obtain ⟨b, off, rfl, h0, h1, h2, hl⟩ := Classical.choose_spec (key j) hj
    exact ⟨b, off, rfl, h0, h1, h2, hl⟩
end
end Go.Proofs.Ytbaomlmannpnaaa
