/- What is proved here: the statement FuncsPlays, for every input. -/
import Derived.Test.YtmcmickgllffoaaRows
import Derived.Test.YtmcmickgllffoaaFnP
import Derived.Test.YtmcmickgllffoaaKitW
import Derived.ProofKit
import Derived.OpenShut
import Derived.ShutString
import Derived.ChangeOld
import Derived.Below
namespace Go.Proofs.Ytmcmickgllffoaa.funcsPlays
open Go.ChangeShapes Go.WideShapes Go.ChangeAt Go.RowKit
open Go.ChangeMaps (open_string shut_string)
set_option linter.unusedVariables false
set_option linter.unusedSimpArgs false

theorem own : ownKnob Try.prog.godebug = none := by kernel_rfl
theorem laidOut : laidOutB Try.prog = true := by kernel_rfl

instance : Inhabited MOp := ⟨zMOp⟩
theorem rdOps : ReadsW Try.prog 22 (vSl (α := MOp)) (fSlW 6 48 vMOp fMOp) := (readsW_slice Try.underlying22 (by kernel_rfl) (by kernel_rfl) (by decide) rdMOp)
theorem walk (d : Sl MOp) (w : World) (g : fSlW 6 48 vMOp fMOp w d) : Calls Try.prog 5 #[.slice d.at' d.len d.cap] w fun e w' => e = .returned (.bool true) ∧ Below w.heap.size w w' := by
  have hdc := g.2.2.1; unfold maxLen at hdc
  have hdl := g.2.1
  have hel := g.2.2.2.2
  have key := funcsPlays_any d.at' d.list d.cap w (RdS.of_arg g.2) (by rw [Sl.list_length]; omega) (by
    intro y hy
    obtain ⟨j, hj, rfl⟩ := List.mem_map.1 hy
    have h := (hel j (List.mem_range.1 hj)).1.2.2.2.1
    simp [fInt, Lit.wf, IntKind.min, IntKind.max, IntKind.signed, IntKind.bits] at h
    omega)
  rw [Sl.list_length] at key
  exact key

set_option maxRecDepth 100000 in
theorem lifted (os : Os) (started : os.Started) (H : Type) (enc : TypeId × Value → H) :
    ReturnsInHanded {} Try.checked os 5 .any (Rows.funcsPlaysSpec.pre6 enc Try.prog Try.f5 Rows.funcsPlaysRow.domain false) (Rows.funcsPlaysSpec.post enc Try.prog Try.f5 false true false false) := by
  refine returnsInHanded_of_change_sized (C := Try.checked) own started (by kernel_rfl) Try.func5
    (ChangeSpec.witness6 (enc := enc) (C := Try.checked) false ⟨#[], #[.slice none 0 0], []⟩ 8 (by kernel_rfl) (by kernel_rfl) (by kernel_rfl) (by kernel_rfl)) ?_
  intro W base args ds gs before hval0 hW hcnd hsz _
  have hval : ∀ (j : Nat) t v, Try.f5.params[j]? = some t → args[j]? = some v → Value.okWide Try.prog W .any base t v := hval0
  have hW' := hW
  obtain ⟨p, q, hA0, hV, rfl, hfz, hnd⟩ := hW
  have hA : DataW.TrodAll enc Try.prog W 0 (fun _ => true) true Try.f5.params.toList args.toList ds p := hA0
  rw [Try.params5] at hA hval
  obtain ⟨v0, vs0, x0, ds0, p0, q0, hargs, rfl, rfl, h0, r0⟩ := trodAll_cons hA
  obtain ⟨rfl, rfl, rfl⟩ := trodAll_nil r0
  obtain rfl : args = #[v0] := by cases args; simp_all
  obtain ⟨rfl, rfl⟩ := trodVars_none hV
  have k0 := h0
  have lt0 : ∀ x ∈ p0, x.block < W.heap.size := by obtain ⟨m, hm⟩ := k0; exact DataW.trod_lt m _ _ _ hm
  obtain ⟨at0, len0, cap0, rfl⟩ := okWide_slice Try.underlying22 (hval 0 22 v0 rfl rfl)
  obtain ⟨d0, e0, g0⟩ := (rdOps).arg h0 (weights_at hsz (j := 0) (t := 22) (by kernel_rfl) rfl)
  simp [Value.cells, vSl] at e0
  obtain ⟨rfl, rfl, rfl⟩ := e0
  clear hA0 hval0
  refine (walk d0 W g0).mono fun e W' ⟨he, bel⟩ => ?_
  subst he
  exact ⟨_, rfl, _, _, _, [], _, [], hW', trodAll_mk1 (shut_bool Try.underlying4 _), (trodAll_cons_mk (Below.trod laidOut (by kernel_rfl) (of_decide_eq_true (by kernel_rfl)) k0 bel lt0) trodAll_mk0), rfl, bel.frame _, fun h => by cases h⟩

theorem over : Rows.funcsPlaysRow.holds Try.pinned (OpenSpec.ofChange Rows.funcsPlaysSpec) :=
  OpenClaim.holds_of_wide 5 Try.f5 rfl rfl rfl rfl rfl rfl rfl ⟨rfl, rfl, rfl, rfl, rfl⟩ rfl rfl rfl rfl rfl (by kernel_rfl) Try.func5 (by kernel_rfl)
    (of_decide_eq_true (by kernel_rfl)) (by unfold Func.isWrapper; first | (rw [if_pos (by decide +kernel)]; kernel_rfl) | (rw [if_neg (by decide +kernel)]; exact ⟨rfl, rfl⟩))
    (fun os started H enc _ => lifted os started H enc)

/-- The statement. -/
theorem proved : Rows.FuncsPlaysSaid := over
#print axioms proved
end Go.Proofs.Ytmcmickgllffoaa.funcsPlays
