/- What is proved here: an argument that is a list of numbers, read as numbers. -/
import Derived.Test.YtpdmkignihhobaaTbB
namespace Go.Proofs.Ytpdmkignihhobaa
open Go.RowKit
set_option linter.unusedVariables false
set_option linter.unusedSimpArgs false

theorem rdI_open {w : World} {x : Addr} {len cap : Nat} {zs : List Int} (hl : len ≤ cap) (hz : zs.length = cap) (hc : ∀ i, i < zs.length → w.cell? (x.add i) = some (.int .i64 (zs.getD i 0))) :
    ∃ f : Nat → Int, len ≤ cap ∧ RdI w (some x) len f := by
  refine ⟨fun j => zs.getD j 0, hl, fun j hj => ?_⟩
  have h := hc j (by omega)
  have hs : x.spot = none := by
    have h0 := hc 0 (by omega)
    rw [show x.add 0 = x from rfl] at h0
    unfold World.cell? at h0
    split at h0
    · cases hsp : x.spot with
      | none => rfl
      | some _ => simp [hsp] at h0
    · cases h0
  obtain ⟨b, off, sp⟩ := x
  simp only at hs; subst hs
  have e : (⟨b, off, none⟩ : Addr).add j = ⟨b, off + j, none⟩ := by unfold Addr.add; split <;> simp_all
  rw [e] at h
  refine ⟨b, off, rfl, h, ?_⟩
  unfold World.cell? at h
  split at h
  · rename_i hh; exact (Array.getElem?_eq_some_iff.1 hh).1
  · cases h
end Go.Proofs.Ytpdmkignihhobaa
