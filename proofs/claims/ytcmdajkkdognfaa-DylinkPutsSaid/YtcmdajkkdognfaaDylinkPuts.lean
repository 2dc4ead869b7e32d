/- What is proved here: the statement DylinkPuts, for every input. -/
import Derived.Test.YtcmdajkkdognfaaRows
import Derived.Test.YtcmdajkkdognfaaDzE
import Derived.Test.YtcmdajkkdognfaaKitW
import Derived.ProofKit
import Derived.OpenShut
import Derived.ShutString
import Derived.ChangeOld
import Derived.Below
namespace Go.Proofs.Ytcmdajkkdognfaa.dylinkPuts
open Go.ChangeShapes Go.WideShapes Go.ChangeAt Go.RowKit
open Go.ChangeMaps (open_string shut_string)
set_option linter.unusedVariables false
set_option linter.unusedSimpArgs false

theorem own : ownKnob Try.prog.godebug = none := by kernel_rfl
theorem laidOut : laidOutB Try.prog = true := by kernel_rfl

theorem walk (d : MDy) (w : World) (h : fMDy w d) : Calls Try.prog 13 #[(.agg #[(.bool d.1), (.int .u32 d.2.1), (.int .u32 d.2.2.1), (.int .u32 d.2.2.2.1), (.int .u32 d.2.2.2.2.1), (.slice d.2.2.2.2.2.1.at' d.2.2.2.2.2.1.len d.2.2.2.2.2.1.cap)])] w fun e w' => e = .returned (.bool true) ∧ Below w.heap.size w w' := by
  obtain ⟨_, h1, h2, h3, h4, h5, _⟩ := h
  have g := h5.2
  have hdc := g.2.1; unfold maxLen at hdc
  have hdl := g.1
  have key := dylinkPuts_any d.1 d.2.1 d.2.2.1 d.2.2.2.1 d.2.2.2.2.1 d.2.2.2.2.2.1.at' d.2.2.2.2.2.1.list d.2.2.2.2.2.1.cap w (RdS.of_arg g) (by rw [Sl.list_length]; omega) (by rw [Sl.list_length]; omega) (fInt_u32 (w := w) h1) (fInt_u32 (w := w) h2) (fInt_u32 (w := w) h3) (fInt_u32 (w := w) h4)
  rw [Sl.list_length] at key
  exact key

set_option maxRecDepth 100000 in
theorem lifted (os : Os) (started : os.Started) (H : Type) (enc : TypeId × Value → H) :
    ReturnsInHanded {} Try.checked os 13 .any (Rows.dylinkPutsSpec.pre6 enc Try.prog Try.f13 Rows.dylinkPutsRow.domain false) (Rows.dylinkPutsSpec.post enc Try.prog Try.f13 false true false false) := by
  refine returnsInHanded_of_change_sized (C := Try.checked) own started (by kernel_rfl) Try.func13
    (ChangeSpec.witness6 (enc := enc) (C := Try.checked) false ⟨#[], #[.agg #[.bool false, .int .u32 0, .int .u32 0, .int .u32 0, .int .u32 0, .slice none 0 0]], []⟩ 8 (by kernel_rfl) (by kernel_rfl) (by kernel_rfl) (by kernel_rfl)) ?_
  intro W base args ds gs before hval0 hW hcnd hsz _
  have hval : ∀ (j : Nat) t v, Try.f13.params[j]? = some t → args[j]? = some v → Value.okWide Try.prog W .any base t v := hval0
  have hW' := hW
  obtain ⟨p, q, hA0, hV, rfl, hfz, hnd⟩ := hW
  have hA : DataW.TrodAll enc Try.prog W 0 (fun _ => true) true Try.f13.params.toList args.toList ds p := hA0
  rw [Try.params13] at hA hval
  obtain ⟨v0, vs0, x0, ds0, p0, q0, hargs, rfl, rfl, h0, r0⟩ := trodAll_cons hA
  obtain ⟨rfl, rfl, rfl⟩ := trodAll_nil r0
  obtain rfl : args = #[v0] := by cases args; simp_all
  obtain ⟨rfl, rfl⟩ := trodVars_none hV
  have k0 := h0
  have lt0 : ∀ x ∈ p0, x.block < W.heap.size := by obtain ⟨m, hm⟩ := k0; exact DataW.trod_lt m _ _ _ hm
  obtain ⟨cs0, rfl, _, _⟩ : ∃ cs, v0 = .agg cs ∧ cs.size = Try.prog.cellsOf 37 ∧ Row.okWide Try.prog W .any base 37 cs := by
    have := hval 0 37 v0 rfl rfl
    simpa [Value.okWide, Try.underlying37] using this
  obtain ⟨d0, e0, g0⟩ := (rdMDy).arg h0 (weights_at hsz (j := 0) (t := 37) (by kernel_rfl) rfl)
  replace e0 : cs0 = (_ : List Value).toArray := Array.ext' (by simpa [Value.cells] using e0)
  subst e0
  clear hA0 hval0
  refine (walk d0 W g0).mono fun e W' ⟨he, bel⟩ => ?_
  subst he
  exact ⟨_, rfl, _, _, _, [], _, [], hW', trodAll_mk1 (shut_bool Try.underlying4 _), (trodAll_cons_mk (Below.trod laidOut (by kernel_rfl) (of_decide_eq_true (by kernel_rfl)) k0 bel lt0) trodAll_mk0), rfl, bel.frame _, fun h => by cases h⟩

theorem over : Rows.dylinkPutsRow.holds Try.pinned (OpenSpec.ofChange Rows.dylinkPutsSpec) :=
  OpenClaim.holds_of_wide 13 Try.f13 rfl rfl rfl rfl rfl rfl rfl ⟨rfl, rfl, rfl, rfl, rfl⟩ rfl rfl rfl rfl rfl (by kernel_rfl) Try.func13 (by kernel_rfl)
    (of_decide_eq_true (by kernel_rfl)) (by unfold Func.isWrapper; first | (rw [if_pos (by decide +kernel)]; kernel_rfl) | (rw [if_neg (by decide +kernel)]; exact ⟨rfl, rfl⟩))
    (fun os started H enc _ => lifted os started H enc)

/-- The statement. -/
theorem proved : Rows.DylinkPutsSaid := over
#print axioms proved
end Go.Proofs.Ytcmdajkkdognfaa.dylinkPuts
