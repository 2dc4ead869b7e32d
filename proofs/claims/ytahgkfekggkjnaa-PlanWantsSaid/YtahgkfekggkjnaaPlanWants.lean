/- What is proved here: the statement PlanWants, for every input. -/
import Derived.Test.YtahgkfekggkjnaaRows
import Derived.Test.YtahgkfekggkjnaaPwB
import Derived.Test.YtahgkfekggkjnaaKitW
import Derived.ProofKit
import Derived.OpenShut
import Derived.ShutString
import Derived.ChangeOld
import Derived.Below
namespace Go.Proofs.Ytahgkfekggkjnaa.planWants
open Go.ChangeShapes Go.WideShapes Go.ChangeAt Go.RowKit
open Go.ChangeMaps (open_string shut_string)
set_option linter.unusedVariables false
set_option linter.unusedSimpArgs false

theorem own : ownKnob Try.prog.godebug = none := by kernel_rfl
theorem laidOut : laidOutB Try.prog = true := by kernel_rfl

theorem walk (d : MMd) (kd : Int) (w : World) (g : fMMd w d) : Calls Try.prog 12 #[(.agg #[(.slice d.1.at' d.1.len d.1.cap), (.slice d.2.1.at' d.2.1.len d.2.1.cap), (.slice d.2.2.1.at' d.2.2.1.len d.2.2.1.cap), (.slice d.2.2.2.1.at' d.2.2.2.1.len d.2.2.2.1.cap), (.slice d.2.2.2.2.1.at' d.2.2.2.2.1.len d.2.2.2.2.1.cap), (.slice d.2.2.2.2.2.1.at' d.2.2.2.2.2.1.len d.2.2.2.2.2.1.cap), (.slice d.2.2.2.2.2.2.1.at' d.2.2.2.2.2.2.1.len d.2.2.2.2.2.2.1.cap), (.int .i64 d.2.2.2.2.2.2.2.1), (.slice d.2.2.2.2.2.2.2.2.1.at' d.2.2.2.2.2.2.2.2.1.len d.2.2.2.2.2.2.2.2.1.cap), (.slice d.2.2.2.2.2.2.2.2.2.1.at' d.2.2.2.2.2.2.2.2.2.1.len d.2.2.2.2.2.2.2.2.2.1.cap), (.slice d.2.2.2.2.2.2.2.2.2.2.1.at' d.2.2.2.2.2.2.2.2.2.2.1.len d.2.2.2.2.2.2.2.2.2.2.1.cap), (.bool d.2.2.2.2.2.2.2.2.2.2.2.1.1), (.int .u32 d.2.2.2.2.2.2.2.2.2.2.2.1.2.1), (.int .u32 d.2.2.2.2.2.2.2.2.2.2.2.1.2.2.1), (.int .u32 d.2.2.2.2.2.2.2.2.2.2.2.1.2.2.2.1), (.int .u32 d.2.2.2.2.2.2.2.2.2.2.2.1.2.2.2.2.1), (.slice d.2.2.2.2.2.2.2.2.2.2.2.1.2.2.2.2.2.1.at' d.2.2.2.2.2.2.2.2.2.2.2.1.2.2.2.2.2.1.len d.2.2.2.2.2.2.2.2.2.2.2.1.2.2.2.2.2.1.cap)]), .int .i64 kd] w fun e w' => e = .returned (.bool true) ∧ Below w.heap.size w w' := planWants_any d kd w g

set_option maxRecDepth 100000 in
theorem lifted (os : Os) (started : os.Started) (H : Type) (enc : TypeId × Value → H) :
    ReturnsInHanded {} Try.checked os 12 .any (Rows.planWantsSpec.pre6 enc Try.prog Try.f12 Rows.planWantsRow.domain false) (Rows.planWantsSpec.post enc Try.prog Try.f12 false true false false) := by
  refine returnsInHanded_of_change_sized (C := Try.checked) own started (by kernel_rfl) Try.func12
    (ChangeSpec.witness6 (enc := enc) (C := Try.checked) false ⟨#[], #[.agg #[(.slice none 0 0), (.slice none 0 0), (.slice none 0 0), (.slice none 0 0), (.slice none 0 0), (.slice none 0 0), (.slice none 0 0), (.int .i64 0), (.slice none 0 0), (.slice none 0 0), (.slice none 0 0), (.bool false), (.int .u32 0), (.int .u32 0), (.int .u32 0), (.int .u32 0), (.slice none 0 0)], .int .i64 0], []⟩ 8 (by kernel_rfl) (by kernel_rfl) (by kernel_rfl) (by kernel_rfl)) ?_
  intro W base args ds gs before hval0 hW hcnd hsz _
  have hval : ∀ (j : Nat) t v, Try.f12.params[j]? = some t → args[j]? = some v → Value.okWide Try.prog W .any base t v := hval0
  have hW' := hW
  obtain ⟨p, q, hA0, hV, rfl, hfz, hnd⟩ := hW
  have hA : DataW.TrodAll enc Try.prog W 0 (fun _ => true) true Try.f12.params.toList args.toList ds p := hA0
  rw [Try.params12] at hA hval
  obtain ⟨v0, vs0, x0, ds0, p0, q0, hargs, rfl, rfl, h0, r0⟩ := trodAll_cons hA
  obtain ⟨v1, vs1, x1, ds1, p1, q1, rfl, rfl, rfl, h1, r1⟩ := trodAll_cons r0
  obtain ⟨rfl, rfl, rfl⟩ := trodAll_nil r1
  obtain rfl : args = #[v0, v1] := by cases args; simp_all
  obtain ⟨rfl, rfl⟩ := trodVars_none hV
  have k0 := h0
  have lt0 : ∀ x ∈ p0, x.block < W.heap.size := by obtain ⟨m, hm⟩ := k0; exact DataW.trod_lt m _ _ _ hm
  obtain ⟨cs0, rfl, _, _⟩ : ∃ cs, v0 = .agg cs ∧ cs.size = Try.prog.cellsOf 67 ∧ Row.okWide Try.prog W .any base 67 cs := by
    have := hval 0 67 v0 rfl rfl
    simpa [Value.okWide, Try.underlying67] using this
  obtain ⟨d0, e0, g0⟩ := (rdMMd).arg h0 (weights_at hsz (j := 0) (t := 67) (by kernel_rfl) rfl)
  replace e0 : cs0 = (_ : List Value).toArray := Array.ext' (by simpa [Value.cells] using e0)
  subst e0
  have k1 := h1
  have lt1 : ∀ x ∈ p1, x.block < W.heap.size := by obtain ⟨m, hm⟩ := k1; exact DataW.trod_lt m _ _ _ hm
  obtain ⟨a1, rfl, _, _, w1⟩ := open_int Try.underlying3 (hval 1 3 v1 rfl rfl) h1
  clear hA0 hval0
  refine (walk d0 a1 W g0).mono fun e W' ⟨he, bel⟩ => ?_
  subst he
  exact ⟨_, rfl, _, _, _, [], _, [], hW', trodAll_mk1 (shut_bool Try.underlying4 _), (trodAll_cons_mk (Below.trod laidOut (by kernel_rfl) (of_decide_eq_true (by kernel_rfl)) k0 bel lt0) (trodAll_cons_mk (Below.trod laidOut (by kernel_rfl) (of_decide_eq_true (by kernel_rfl)) k1 bel lt1) trodAll_mk0)), rfl, bel.frame _, fun h => by cases h⟩

theorem over : Rows.planWantsRow.holds Try.pinned (OpenSpec.ofChange Rows.planWantsSpec) :=
  OpenClaim.holds_of_wide 12 Try.f12 rfl rfl rfl rfl rfl rfl rfl ⟨rfl, rfl, rfl, rfl, rfl⟩ rfl rfl rfl rfl rfl (by kernel_rfl) Try.func12 (by kernel_rfl)
    (of_decide_eq_true (by kernel_rfl)) (by unfold Func.isWrapper; first | (rw [if_pos (by decide +kernel)]; kernel_rfl) | (rw [if_neg (by decide +kernel)]; exact ⟨rfl, rfl⟩))
    (fun os started H enc _ => lifted os started H enc)

/-- The statement. -/
theorem proved : Rows.PlanWantsSaid := over
#print axioms proved
end Go.Proofs.Ytahgkfekggkjnaa.planWants
