/- What is proved here: the statement FlowEnds, for every input. -/
import Derived.Test.YtahgkfekggkjnaaRows
import Derived.Test.YtahgkfekggkjnaaFlC
import Derived.Test.YtahgkfekggkjnaaKitO
import Derived.ProofKit
import Derived.OpenShut
import Derived.ShutString
import Derived.ChangeOld
import Derived.Below
namespace Go.Proofs.Ytahgkfekggkjnaa.flowEnds
open Go.ChangeShapes Go.WideShapes Go.ChangeAt Go.RowKit
open Go.ChangeMaps (open_string shut_string)
set_option linter.unusedVariables false
set_option linter.unusedSimpArgs false

theorem own : ownKnob Try.prog.godebug = none := by kernel_rfl
theorem laidOut : laidOutB Try.prog = true := by kernel_rfl

instance : Inhabited Ins := ⟨(0, 0, 0, ⟨none, 0, 0, fun _ => 0⟩, ())⟩
def fIns : World → Ins → Prop := (fun w d => (fInt .u8) w d.1 ∧ (fun w d => (fInt .u64) w d.1 ∧ (fun w d => (fInt .u64) w d.1 ∧ (fun w d => (fSl 1 (vInt .u32) (fInt .u32)) w d.1 ∧ (fun _ _ => True) w d.2) w d.2) w d.2) w d.2)
set_option maxRecDepth 100000 in
theorem rdIns : Reads Try.prog 39 vIns fIns := (reads_struct Try.underlying39 (by kernel_rfl) (readsFs_cons (o := 0) (c := 1) rfl (by kernel_rfl) (reads_int Try.underlying5) (readsFs_cons (o := 1) (c := 1) rfl (by kernel_rfl) (reads_int Try.underlying36) (readsFs_cons (o := 2) (c := 1) rfl (by kernel_rfl) (reads_int Try.underlying36) (readsFs_cons (o := 3) (c := 1) rfl (by kernel_rfl) (reads_slice Try.underlying37 (by kernel_rfl) (by decide) (reads_int Try.underlying44)) (readsFs_nil rfl))))))
theorem rdInss : Reads Try.prog 27 (vSl (α := Ins)) (fSl 4 vIns fIns) := reads_slice Try.underlying27 (by kernel_rfl) (by decide) rdIns

theorem walk (d0 : Sl Ins) (w : World) (g0 : fSl 4 vIns fIns w d0) :
    Calls Try.prog 4 #[.slice d0.at' d0.len d0.cap] w fun e w' => e = .returned (.bool true) ∧ Below w.heap.size w w' := by
  have h := flowEnds_any d0.list d0.at' d0.cap w (RdS.of_arg g0) (by rw [Sl.list_length]; exact g0.1)
  rw [Sl.list_length] at h
  exact h

set_option maxRecDepth 100000 in
theorem lifted (os : Os) (started : os.Started) (H : Type) (enc : TypeId × Value → H) :
    ReturnsInHanded {} Try.checked os 4 .any (Rows.flowEndsSpec.pre6 enc Try.prog Try.f4 Rows.flowEndsRow.domain false) (Rows.flowEndsSpec.post enc Try.prog Try.f4 false true false false) := by
  refine returnsInHanded_of_change (C := Try.checked) own started (by kernel_rfl) Try.func4
    (ChangeSpec.witness6 (enc := enc) (C := Try.checked) false ⟨#[], #[.slice none 0 0], []⟩ 8 (by kernel_rfl) (by kernel_rfl) (by kernel_rfl) (by kernel_rfl)) ?_
  intro W base args ds gs before hval0 hW hcnd _
  have hval : ∀ (j : Nat) t v, Try.f4.params[j]? = some t → args[j]? = some v → Value.okWide Try.prog W .any base t v := hval0
  have hW' := hW
  obtain ⟨p, q, hA0, hV, rfl, hfz, hnd⟩ := hW
  have hA : DataW.TrodAll enc Try.prog W 0 (fun _ => true) true Try.f4.params.toList args.toList ds p := hA0
  rw [Try.params4] at hA hval
  obtain ⟨v0, vs0, x0, ds0, p0, q0, hargs, rfl, rfl, h0, r0⟩ := trodAll_cons hA
  obtain ⟨rfl, rfl, rfl⟩ := trodAll_nil r0
  obtain rfl : args = #[v0] := by cases args; simp_all
  obtain ⟨rfl, rfl⟩ := trodVars_none hV
  have k0 := h0
  have lt0 : ∀ x ∈ p0, x.block < W.heap.size := by obtain ⟨m, hm⟩ := k0; exact DataW.trod_lt m _ _ _ hm
  obtain ⟨at0, len0, cap0, rfl⟩ := okWide_slice Try.underlying27 (hval 0 27 v0 rfl rfl)
  obtain ⟨d0, e0, g0⟩ := (rdInss).arg h0
  simp [Value.cells, vSl] at e0
  obtain ⟨rfl, rfl, rfl⟩ := e0
  clear hA0 hval0
  refine (walk d0 W g0).mono fun e W' ⟨he, bel⟩ => ?_
  subst he
  exact ⟨_, rfl, _, _, _, [], _, [], hW', trodAll_mk1 (shut_bool Try.underlying4 _), (trodAll_cons_mk (Below.trod laidOut (by kernel_rfl) (of_decide_eq_true (by kernel_rfl)) k0 bel lt0) trodAll_mk0), rfl, bel.frame _, fun h => by cases h⟩

theorem over : Rows.flowEndsRow.holds Try.pinned (OpenSpec.ofChange Rows.flowEndsSpec) :=
  OpenClaim.holds_of_wide 4 Try.f4 rfl rfl rfl rfl rfl rfl rfl ⟨rfl, rfl, rfl, rfl, rfl⟩ rfl rfl rfl rfl rfl (by kernel_rfl) Try.func4 (by kernel_rfl)
    (of_decide_eq_true (by kernel_rfl)) (by unfold Func.isWrapper; first | (rw [if_pos (by decide +kernel)]; kernel_rfl) | (rw [if_neg (by decide +kernel)]; exact ⟨rfl, rfl⟩))
    (fun os started H enc _ => lifted os started H enc)

/-- The statement. -/
theorem proved : Rows.FlowEndsSaid := over
#print axioms proved
end Go.Proofs.Ytahgkfekggkjnaa.flowEnds
