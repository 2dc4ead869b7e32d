/- What is proved here: rules for maps of the call's own whose keys and elements are ints, and that count. -/
import Derived.Test.YtmcmickgllffoaaSxP
namespace Go.Proofs.Ytmcmickgllffoaa
open Go.RowKit
set_option linter.unusedVariables false
set_option linter.unusedSimpArgs false

def cntN (L : List Int) (x : Int) : Nat := (L.filter fun y => decide (y = x)).length
theorem cntN_le (L : List Int) (x : Int) : cntN L x ≤ L.length := List.length_filter_le _ _
theorem cntN_app (L M : List Int) (x : Int) : cntN (L ++ M) x = cntN L x + cntN M x := by unfold cntN; rw [List.filter_append, List.length_append]
theorem cntN_yes {x y : Int} (h : x = y) : cntN [x] y = 1 := by unfold cntN; simp [h]
theorem cntN_no {x y : Int} (h : ¬ x = y) : cntN [x] y = 0 := by unfold cntN; simp [h]
/-- Block b of w is a map that holds, at each int, how often it stands in L. -/
def CntM (P : Program) (k e : TypeId) (w : World) (b : Nat) (L : List Int) : Prop :=
  ∃ D n, w.ownsMap (H := Unit) P k (plainElem P e) b n D ∧ n ≤ L.length ∧ Maps.IsMap D ∧ ∀ s : Int, (Lit.int .i64 s).wf = true → D.atKey (.int .i64 s) (.lit (.int .i64 0)) = .lit (.int .i64 ((cntN L s : Nat) : Int))
section
variable {P : Program} {L : List (Nat × Value)} {w : World} {d : Option Tmp} {ty : TypeId} {ps : String} {af : Array Edge} {gu : Option (Nat × Bool)} {t k e : TypeId} {b : Nat} {S : List Int}
theorem CntM.ext {w' : World} (h : CntM P k e w b S) (hb : Below w.heap.size w w') : CntM P k e w' b S := by
  obtain ⟨D, n, h1, h2, h3⟩ := h
  exact ⟨D, n, h1.kept (below_grown (r := none) hb) (by simp), h2, h3⟩
theorem CntM.grown {w' : World} {c : Nat} (h : CntM P k e w b S) (hg : w.grownBy w' (some c)) (hne : b ≠ c) : CntM P k e w' b S := by
  obtain ⟨D, n, h1, h2, h3⟩ := h
  exact ⟨D, n, h1.kept hg (fun e => hne (Option.some.inj e)), h2, h3⟩
theorem CntM.lt (h : CntM P k e w b S) : b < w.heap.size := by
  obtain ⟨D, n, h1, h2, h3⟩ := h
  exact h1.lt
theorem d_makeMapI : Does P L ⟨d, .makeMap t none, ty, ps, af, gu⟩ w (fun v w' => ∃ b, v = .map (some b) ∧ w.heap.size ≤ b ∧ CntM P k e w' b [] ∧ Below w.heap.size w w') := by
  refine Runs.does (v := .map (some w.heap.size)) (w' := w.alloc (.map #[] 0)) (fun ρ hρ => ?_) ⟨_, rfl, Nat.le_refl _, ⟨.map [], 0, World.ownsMap_made _ _ _ _, Nat.le_refl _, Maps.isMap_empty, fun s hs => rfl⟩, (Below.refl _ _).alloc (Nat.le_refl _) _⟩
  simp [execOp, run_makeMap]
theorem r_lookupI {x y : Operand} {s : Int} (hx : evO L x = some (.map (some b))) (hy : evO L y = some (.int .i64 s)) (h : CntM P k e w b S) (ht : P.underlying t = some (.map k e)) (hk : P.underlying k = some (.int .i64)) (he : P.underlying e = some (.int .i64))
    (hz : (P.info? e).bind (·.zero) = some (.int .i64 0)) (hs : (Lit.int .i64 s).wf = true) : Runs P L ⟨d, .lookup t x y false, ty, ps, af, gu⟩ w (.int .i64 ((cntN S s : Nat) : Int)) w := by
  intro ρ hρ
  obtain ⟨D, n, h1, h2, h3, h4⟩ := h
  obtain ⟨v, q, hr, hv⟩ := h1.lookup (Maps.int_keyed hk) ht (zv_run hz w) (plainElem_int he (by decide)) (Maps.keyOf_int_mk hk hs)
  rw [h4 s hs] at hv
  have : v = .int .i64 ((cntN S s : Nat) : Int) := by
    obtain ⟨a, rfl, hz2, _⟩ := plainElem_int_inv he hv
    injection hz2 with hz2 _
    injection hz2 with hz2
    injection hz2 with _ hz2
    rw [hz2]
  subst this
  simp [execOp, hρ _ _ hx, hρ _ _ hy, hr]
set_option maxRecDepth 100000 in
theorem d_mapUpdateI {x y z : Operand} {s : Int} (hx : evO L x = some (.map (some b))) (hy : evO L y = some (.int .i64 s)) (hz : evO L z = some (.int .i64 (((cntN S s : Nat) : Int) + 1))) (h : CntM P k e w b S) (ht : P.underlying t = some (.map k e)) (hk : P.underlying k = some (.int .i64)) (he : P.underlying e = some (.int .i64))
    (hs : (Lit.int .i64 s).wf = true) (hl : S.length ≤ 1000000) : Does P L ⟨d, .mapUpdate t x y z, ty, ps, af, gu⟩ w (fun _ w' => CntM P k e w' b (S ++ [s]) ∧ w.grownBy w' (some b)) := by
  obtain ⟨D, n, h1, h2, h3, h4⟩ := h
  have hcl := cntN_le S s
  have hwf : (Lit.int .i64 (((cntN S s : Nat) : Int) + 1)).wf = true := by
    simp [Lit.wf, IntKind.min, IntKind.max, IntKind.signed, IntKind.bits]
    omega
  obtain ⟨w', hr, h5, h6⟩ := h1.update (Maps.int_keyed hk) ht (by unfold maxLen; omega) (Maps.keyOf_int_mk hk hs) (plainElem_int he hwf)
  intro a K Q ha hK
  unfold Oper.wp
  simp only [execOp, ha _ _ hx, ha _ _ hy, ha _ _ hz]
  simp [hr, Result.andThen]
  refine hK undef w' ⟨⟨_, _, h5, by rw [List.length_append]; simp; omega, h3.put _ _, fun u hu => ?_⟩, h6⟩
  rw [cntN_app]
  by_cases hus : s = u
  · subst hus
    rw [cntN_yes rfl]
    have e : ((cntN S s + 1 : Nat) : Int) = ((cntN S s : Nat) : Int) + 1 := Int.natCast_succ _
    rw [e]
    exact Maps.atKey_put_same h3 (by trivial) _ _
  · have hne : (Lit.int .i64 u) ≠ (Lit.int .i64 s) := fun e => hus (Lit.int.inj e).2.symm
    rw [Maps.atKey_put_other hne, h4 u hu, cntN_no hus, Nat.add_zero]
end
end Go.Proofs.Ytmcmickgllffoaa
