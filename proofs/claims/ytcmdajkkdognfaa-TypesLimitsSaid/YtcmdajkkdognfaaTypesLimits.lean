/- What is proved here: the statement TypesLimits, for every input. -/
import Derived.Test.YtcmdajkkdognfaaRows
import Derived.Test.YtcmdajkkdognfaaTyM
import Derived.Test.YtcmdajkkdognfaaKitW
import Derived.ProofKit
import Derived.OpenShut
import Derived.ShutString
import Derived.ChangeOld
import Derived.Below
namespace Go.Proofs.Ytcmdajkkdognfaa.typesLimits
open Go.ChangeShapes Go.WideShapes Go.ChangeAt Go.RowKit
open Go.ChangeMaps (open_string shut_string)
set_option linter.unusedVariables false
set_option linter.unusedSimpArgs false

theorem own : ownKnob Try.prog.godebug = none := by kernel_rfl
theorem laidOut : laidOutB Try.prog = true := by kernel_rfl

instance : Inhabited MLim := ⟨zMLim⟩
set_option maxRecDepth 100000 in
theorem rdLimO : Reads Try.prog 43 vMLim fMLim := reads_struct Try.underlying43 (by kernel_rfl) (readsFs_cons (o := 0) (c := 1) rfl (by kernel_rfl) (reads_int Try.underlying24) (readsFs_cons (o := 1) (c := 1) rfl (by kernel_rfl) (reads_int Try.underlying24) (readsFs_cons (o := 2) (c := 1) rfl (by kernel_rfl) (reads_bool Try.underlying4) (readsFs_nil rfl))))
set_option maxRecDepth 100000 in
theorem rdArr : ReadsW Try.prog 44 (vArr vMLim 3) (fArr 3 fMLim) := (reads_array (c := 3) Try.underlying44 (by kernel_rfl) (by kernel_rfl) rdLimO).toW
theorem walk (d : Nat → MLim) (most : Int) (wb : (Lit.int .u32 most).wf = true) (w : World) (h : fArr 3 fMLim w d) : Calls Try.prog 5 #[.agg #[(.int .u32 ((d 0).1)), (.int .u32 ((d 0).2.1)), (.bool (d 0).2.2.1), (.int .u32 ((d 1).1)), (.int .u32 ((d 1).2.1)), (.bool (d 1).2.2.1), (.int .u32 ((d 2).1)), (.int .u32 ((d 2).2.1)), (.bool (d 2).2.2.1)], .int .u32 most] w fun e w' => e = .returned (.bool true) ∧ Below w.heap.size w w' := by
  simp [Lit.wf, IntKind.min, IntKind.max, IntKind.signed, IntKind.bits] at wb
  have h0 := h 0 (by decide)
  exact typesLimits_any (d 0) (d 1) (d 2) most w (fInt_u32 (w := w) h0.1) (fInt_u32 (w := w) h0.2.1) (by omega)

set_option maxRecDepth 100000 in
theorem lifted (os : Os) (started : os.Started) (H : Type) (enc : TypeId × Value → H) :
    ReturnsInHanded {} Try.checked os 5 .any (Rows.typesLimitsSpec.pre6 enc Try.prog Try.f5 Rows.typesLimitsRow.domain false) (Rows.typesLimitsSpec.post enc Try.prog Try.f5 false true false false) := by
  refine returnsInHanded_of_change_sized (C := Try.checked) own started (by kernel_rfl) Try.func5
    (ChangeSpec.witness6 (enc := enc) (C := Try.checked) false ⟨#[], #[.agg #[.int .u32 0, .int .u32 0, .bool false, .int .u32 0, .int .u32 0, .bool false, .int .u32 0, .int .u32 0, .bool false], .int .u32 0], []⟩ 8 (by kernel_rfl) (by kernel_rfl) (by kernel_rfl) (by kernel_rfl)) ?_
  intro W base args ds gs before hval0 hW hcnd hsz _
  have hval : ∀ (j : Nat) t v, Try.f5.params[j]? = some t → args[j]? = some v → Value.okWide Try.prog W .any base t v := hval0
  have hW' := hW
  obtain ⟨p, q, hA0, hV, rfl, hfz, hnd⟩ := hW
  have hA : DataW.TrodAll enc Try.prog W 0 (fun _ => true) true Try.f5.params.toList args.toList ds p := hA0
  rw [Try.params5] at hA hval
  obtain ⟨v0, vs0, x0, ds0, p0, q0, hargs, rfl, rfl, h0, r0⟩ := trodAll_cons hA
  obtain ⟨v1, vs1, x1, ds1, p1, q1, rfl, rfl, rfl, h1, r1⟩ := trodAll_cons r0
  obtain ⟨rfl, rfl, rfl⟩ := trodAll_nil r1
  obtain rfl : args = #[v0, v1] := by cases args; simp_all
  obtain ⟨rfl, rfl⟩ := trodVars_none hV
  have k0 := h0
  have lt0 : ∀ x ∈ p0, x.block < W.heap.size := by obtain ⟨m, hm⟩ := k0; exact DataW.trod_lt m _ _ _ hm
  obtain ⟨cs0, rfl, _, _⟩ : ∃ cs, v0 = .agg cs ∧ cs.size = Try.prog.cellsOf 44 ∧ Row.okWide Try.prog W .any base 44 cs := by
    have := hval 0 44 v0 rfl rfl
    simpa [Value.okWide, Try.underlying44] using this
  obtain ⟨d0, e0, g0⟩ := (rdArr).arg h0 (weights_at hsz (j := 0) (t := 44) (by kernel_rfl) rfl)
  replace e0 : cs0 = (_ : List Value).toArray := Array.ext' (by simpa [Value.cells] using e0)
  subst e0
  have k1 := h1
  have lt1 : ∀ x ∈ p1, x.block < W.heap.size := by obtain ⟨m, hm⟩ := k1; exact DataW.trod_lt m _ _ _ hm
  obtain ⟨a1, rfl, _, _, w1⟩ := open_int Try.underlying24 (hval 1 24 v1 rfl rfl) h1
  clear hA0 hval0
  refine (walk d0 a1 w1 W g0).mono fun e W' ⟨he, bel⟩ => ?_
  subst he
  exact ⟨_, rfl, _, _, _, [], _, [], hW', trodAll_mk1 (shut_bool Try.underlying4 _), (trodAll_cons_mk (Below.trod laidOut (by kernel_rfl) (of_decide_eq_true (by kernel_rfl)) k0 bel lt0) (trodAll_cons_mk (Below.trod laidOut (by kernel_rfl) (of_decide_eq_true (by kernel_rfl)) k1 bel lt1) trodAll_mk0)), rfl, bel.frame _, fun h => by cases h⟩

theorem over : Rows.typesLimitsRow.holds Try.pinned (OpenSpec.ofChange Rows.typesLimitsSpec) :=
  OpenClaim.holds_of_wide 5 Try.f5 rfl rfl rfl rfl rfl rfl rfl ⟨rfl, rfl, rfl, rfl, rfl⟩ rfl rfl rfl rfl rfl (by kernel_rfl) Try.func5 (by kernel_rfl)
    (of_decide_eq_true (by kernel_rfl)) (by unfold Func.isWrapper; first | (rw [if_pos (by decide +kernel)]; kernel_rfl) | (rw [if_neg (by decide +kernel)]; exact ⟨rfl, rfl⟩))
    (fun os started H enc _ => lifted os started H enc)

/-- The statement. -/
theorem proved : Rows.TypesLimitsSaid := over
#print axioms proved
end Go.Proofs.Ytcmdajkkdognfaa.typesLimits
