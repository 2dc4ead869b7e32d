/- What is proved here: places in memory, among units and among modules, are the same, as plain functions. -/
import Derived.Test.YtahgkfekggkjnaaSfB
namespace Go.Proofs.Ytahgkfekggkjnaa
open Go.RowKit
set_option linter.unusedVariables false
set_option linter.unusedSimpArgs false

theorem data_eq {l : List MUn} {d : Sl MMd} (nm : ByteArray) (hl : l.map modU = d.list) : dataP l nm = (((rdataP d nm).1, (rdataP d nm).2.1, ()), (rdataP d nm).2.2) := by
  obtain ⟨h1, h2⟩ := find_rel nm l 0
  rw [hl] at h1 h2
  cases hf : (findU nm l 0).2.2 with
  | false =>
    obtain ⟨e1, e2⟩ := h2 hf
    unfold dataP rdataP
    rw [e1, e2]; rfl
  | true =>
    obtain ⟨j, k, u, e1, e2, e3, e4⟩ := h1 hf
    obtain ⟨x, hx⟩ : ∃ x, (findU nm l 0).2.1 = x := ⟨_, rfl⟩
    rw [hx] at e1 e4
    have t1 : (((0 + j : Nat) : Int)).toNat = j := by omega
    have t2 : ((k : Nat) : Int).toNat = k := rfl
    have t3 : l.getD j zMUn = u := by rw [List.getD_eq_getElem?_getD, e3]; rfl
    have t4 : d.list.getD j zMMd = modU u := by rw [← hl, List.getD_eq_getElem?_getD, List.getElem?_map, e3]; rfl
    have t5 : (modU u).2.2.2.2.2.2.1.list.getD k zMExp = x := by rw [List.getD_eq_getElem?_getD, show (modU u).2.2.2.2.2.2.1.list[k]? = some x from e4]; rfl
    unfold dataP rdataP
    rw [e1, e2]
    simp only [t1, t2, t3, t4, t5]
    rw [show decide (((0 + j : Nat) : Int) < 0) = false from by simp only [decide_eq_false_iff_not]; omega]
    simp only [show u.2.1 = modU u from rfl, ne_eq, decide_not]
    generalize decide (x.2.1 = 3) = bA
    generalize decide (x.2.2.1.toNat < (gtypesP (modU u)).length) = bB
    generalize decide ((((gtypesP (modU u)).length : Nat) : Int) ≤ x.2.2.1) = bC
    generalize decide (x.2.2.1 < (((gtT (modU u).2.1.list).length : Nat) : Int)) = bD
    generalize decide (((gtypesP (modU u)).getD x.2.2.1.toNat zMGt).1 = 127) = bE
    generalize ((gtypesP (modU u)).getD x.2.2.1.toNat zMGt).2.1 = bF
    cases bA <;> cases bB <;> cases bC <;> cases bD <;> cases bE <;> cases bF <;> rfl
end Go.Proofs.Ytahgkfekggkjnaa
