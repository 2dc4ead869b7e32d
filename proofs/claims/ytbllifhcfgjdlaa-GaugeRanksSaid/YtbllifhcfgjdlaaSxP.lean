/- What is proved here: rules for maps of the call's own whose keys are strings and whose elements are bools (sets). -/
import Derived.Test.YtbllifhcfgjdlaaSxV
import Derived.Maps.Own
import Derived.Maps.Views
import Derived.StringKeys
namespace Go.Proofs.Ytbllifhcfgjdlaa
open Go.RowKit
set_option linter.unusedVariables false
set_option linter.unusedSimpArgs false

def inS (L : List ByteArray) (s : ByteArray) : Bool := L.any fun x => decide (x = s)
/-- Block b of w is a map that holds true at the strings of L, and nothing else. -/
def SetM (P : Program) (k e : TypeId) (w : World) (b : Nat) (L : List ByteArray) : Prop :=
  ∃ D n, w.ownsMap (H := Unit) P k (plainElem P e) b n D ∧ n ≤ L.length ∧ Maps.IsMap D ∧ ∀ s : ByteArray, s.size ≤ maxLen → D.atKey (.string s.data.toList) (.lit (.bool false)) = .lit (.bool (inS L s))
section
variable {P : Program} {L : List (Nat × Value)} {w : World} {d : Option Tmp} {ty : TypeId} {ps : String} {af : Array Edge} {gu : Option (Nat × Bool)} {t k e : TypeId} {b : Nat} {S : List ByteArray}
theorem SetM.ext {w' : World} (h : SetM P k e w b S) (hb : Below w.heap.size w w') : SetM P k e w' b S := by
  obtain ⟨D, n, h1, h2, h3⟩ := h
  exact ⟨D, n, h1.kept (below_grown (r := none) hb) (by simp), h2, h3⟩
theorem SetM.grown {w' : World} {c : Nat} (h : SetM P k e w b S) (hg : w.grownBy w' (some c)) (hne : b ≠ c) : SetM P k e w' b S := by
  obtain ⟨D, n, h1, h2, h3⟩ := h
  exact ⟨D, n, h1.kept hg (fun e => hne (Option.some.inj e)), h2, h3⟩
theorem SetM.lt (h : SetM P k e w b S) : b < w.heap.size := by
  obtain ⟨D, n, h1, h2, h3⟩ := h
  exact h1.lt
theorem d_makeMap : Does P L ⟨d, .makeMap t none, ty, ps, af, gu⟩ w (fun v w' => ∃ b, v = .map (some b) ∧ w.heap.size ≤ b ∧ SetM P k e w' b [] ∧ Below w.heap.size w w') := by
  refine Runs.does (v := .map (some w.heap.size)) (w' := w.alloc (.map #[] 0)) (fun ρ hρ => ?_) ⟨_, rfl, Nat.le_refl _, ⟨.map [], 0, World.ownsMap_made _ _ _ _, Nat.le_refl _, Maps.isMap_empty, fun s hs => rfl⟩, (Below.refl _ _).alloc (Nat.le_refl _) _⟩
  simp [execOp, run_makeMap]
theorem r_lookupS {x y : Operand} {s : ByteArray} (hx : evO L x = some (.map (some b))) (hy : evO L y = some (.string s)) (h : SetM P k e w b S) (ht : P.underlying t = some (.map k e)) (hk : P.underlying k = some .string) (he : P.underlying e = some .bool)
    (hz : (P.info? e).bind (·.zero) = some (.bool false)) (hs : s.size ≤ maxLen) : Runs P L ⟨d, .lookup t x y false, ty, ps, af, gu⟩ w (.bool (inS S s)) w := by
  intro ρ hρ
  obtain ⟨D, n, h1, h2, h3, h4⟩ := h
  obtain ⟨v, q, hr, hv⟩ := h1.lookup (Maps.string_keyed hk) ht (zv_run hz w) (plainElem_bool he false) (Go.WideMaps.keyOf_string_mk hk hs)
  rw [h4 s hs] at hv
  have : v = .bool (inS S s) := by
    unfold plainElem at hv
    rw [he] at hv
    cases v <;> simp at hv
    rw [hv.1]
  subst this
  simp [execOp, hρ _ _ hx, hρ _ _ hy, hr]
theorem d_mapUpdateS {x y z : Operand} {s : ByteArray} (hx : evO L x = some (.map (some b))) (hy : evO L y = some (.string s)) (hz : evO L z = some (.bool true)) (h : SetM P k e w b S) (ht : P.underlying t = some (.map k e)) (hk : P.underlying k = some .string) (he : P.underlying e = some .bool)
    (hs : s.size ≤ maxLen) (hl : S.length < maxLen) : Does P L ⟨d, .mapUpdate t x y z, ty, ps, af, gu⟩ w (fun _ w' => SetM P k e w' b (S ++ [s]) ∧ w.grownBy w' (some b)) := by
  obtain ⟨D, n, h1, h2, h3, h4⟩ := h
  obtain ⟨w', hr, h5, h6⟩ := h1.update (Maps.string_keyed hk) ht (by omega) (Go.WideMaps.keyOf_string_mk hk hs) (plainElem_bool he true)
  intro a K Q ha hK
  unfold Oper.wp
  simp only [execOp, ha _ _ hx, ha _ _ hy, ha _ _ hz]
  simp [hr, Result.andThen]
  refine hK undef w' ⟨⟨_, _, h5, by rw [List.length_append]; simp; omega, h3.put _ _, fun u hu => ?_⟩, h6⟩
  by_cases hus : u = s
  · subst hus
    rw [Maps.atKey_put_same h3 (by trivial)]
    unfold inS; simp
  · have hne : (Lit.string u.data.toList) ≠ (Lit.string s.data.toList) := fun e => hus (by
      have e := Lit.string.inj e
      apply ByteArray.ext; exact Array.ext' e)
    rw [Maps.atKey_put_other hne, h4 u hu]
    unfold inS
    rw [List.any_append]
    simp [Ne.symm hus]
end
end Go.Proofs.Ytbllifhcfgjdlaa
