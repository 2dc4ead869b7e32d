/- What is proved here: the statement MemoryPlays, for every input. -/
import Derived.Test.YtmcmickgllffoaaRows
import Derived.Test.YtmcmickgllffoaaMpGp
import Derived.Test.YtmcmickgllffoaaKitWp
import Derived.ProofKit
import Derived.OpenShut
import Derived.ShutString
import Derived.ChangeOld
import Derived.Below
namespace Go.Proofs.Ytmcmickgllffoaa.memoryPlays
open Go.ChangeShapes Go.WideShapes Go.ChangeAt Go.RowKit
open Go.ChangeMaps (open_string shut_string)
set_option linter.unusedVariables false
set_option linter.unusedSimpArgs false

theorem own : ownKnob Try.prog.godebug = none := by kernel_rfl
theorem laidOut : laidOutB Try.prog = true := by kernel_rfl

instance : Inhabited MOq := ⟨zMOq⟩
theorem rdOps : ReadsW Try.prog 105 (vSl (α := MOq)) (fSlW 7 72 vMOq fMOq) := (readsW_slice Try.underlying105 (by kernel_rfl) (by kernel_rfl) (by decide) rdMOq)
theorem walk (a b : Int) (ha : -9223372036854775808 ≤ a ∧ a < 9223372036854775808) (d : Sl MOq) (w : World) (g : fSlW 7 72 vMOq fMOq w d) : Calls Try.prog 9 #[.int .i64 a, .int .i64 b, .slice d.at' d.len d.cap] w fun e w' => e = .returned (.bool true) ∧ Below w.heap.size w w' := by
  have hdc := g.2.2.1; unfold maxLen at hdc
  have hdl := g.2.1
  have hel := g.2.2.2.2
  have key := memoryPlays_any a b d.at' d.list d.cap w ha (RdS.of_arg g.2) (by rw [Sl.list_length]; omega) (by
    intro y hy
    obtain ⟨j, hj, rfl⟩ := List.mem_map.1 hy
    have h := (hel j (List.mem_range.1 hj)).1
    obtain ⟨h1, h2, h3, h4, h5, h6, h7, _⟩ := h
    refine ⟨?_, ?_, ?_, ?_, ?_, RdS.of_arg h7.2, ?_⟩
    · simp [fInt, Lit.wf, IntKind.min, IntKind.max, IntKind.signed, IntKind.bits] at h2; omega
    · simp [fInt, Lit.wf, IntKind.min, IntKind.max, IntKind.signed, IntKind.bits] at h3; omega
    · simp [fInt, Lit.wf, IntKind.min, IntKind.max, IntKind.signed, IntKind.bits] at h4; omega
    · simp [fInt, Lit.wf, IntKind.min, IntKind.max, IntKind.signed, IntKind.bits] at h5; omega
    · simp [fInt, Lit.wf, IntKind.min, IntKind.max, IntKind.signed, IntKind.bits] at h6; omega
    · intro x hx
      obtain ⟨i, hi, rfl⟩ := List.mem_map.1 hx
      have h8 := (h7.2.2.2.2 i (List.mem_range.1 hi)).1
      simp [fInt, Lit.wf, IntKind.min, IntKind.max, IntKind.signed, IntKind.bits] at h8
      omega)
  rw [Sl.list_length] at key
  exact key
theorem wf_i64 {a : Int} (h : (Lit.int .i64 a).wf = true) : -9223372036854775808 ≤ a ∧ a < 9223372036854775808 := by
  simp [Lit.wf, IntKind.min, IntKind.max, IntKind.signed, IntKind.bits] at h
  omega

set_option maxRecDepth 100000 in
theorem lifted (os : Os) (started : os.Started) (H : Type) (enc : TypeId × Value → H) :
    ReturnsInHanded {} Try.checked os 9 .any (Rows.memoryPlaysSpec.pre6 enc Try.prog Try.f9 Rows.memoryPlaysRow.domain false) (Rows.memoryPlaysSpec.post enc Try.prog Try.f9 false true false false) := by
  refine returnsInHanded_of_change_sized (C := Try.checked) own started (by kernel_rfl) Try.func9
    (ChangeSpec.witness6 (enc := enc) (C := Try.checked) false ⟨#[], #[.int .i64 0, .int .i64 0, .slice none 0 0], []⟩ 8 (by kernel_rfl) (by kernel_rfl) (by kernel_rfl) (by kernel_rfl)) ?_
  intro W base args ds gs before hval0 hW hcnd hsz _
  have hval : ∀ (j : Nat) t v, Try.f9.params[j]? = some t → args[j]? = some v → Value.okWide Try.prog W .any base t v := hval0
  have hW' := hW
  obtain ⟨p, q, hA0, hV, rfl, hfz, hnd⟩ := hW
  have hA : DataW.TrodAll enc Try.prog W 0 (fun _ => true) true Try.f9.params.toList args.toList ds p := hA0
  rw [Try.params9] at hA hval
  obtain ⟨v0, vs0, x0, ds0, p0, q0, hargs, rfl, rfl, h0, r0⟩ := trodAll_cons hA
  obtain ⟨v1, vs1, x1, ds1, p1, q1, rfl, rfl, rfl, h1, r1⟩ := trodAll_cons r0
  obtain ⟨v2, vs2, x2, ds2, p2, q2, rfl, rfl, rfl, h2, r2⟩ := trodAll_cons r1
  obtain ⟨rfl, rfl, rfl⟩ := trodAll_nil r2
  obtain rfl : args = #[v0, v1, v2] := by cases args; simp_all
  obtain ⟨rfl, rfl⟩ := trodVars_none hV
  have k0 := h0
  have lt0 : ∀ x ∈ p0, x.block < W.heap.size := by obtain ⟨m, hm⟩ := k0; exact DataW.trod_lt m _ _ _ hm
  obtain ⟨a0, rfl, _, _, w0⟩ := open_int Try.underlying3 (hval 0 3 v0 rfl rfl) h0
  have k1 := h1
  have lt1 : ∀ x ∈ p1, x.block < W.heap.size := by obtain ⟨m, hm⟩ := k1; exact DataW.trod_lt m _ _ _ hm
  obtain ⟨a1, rfl, _, _, w1⟩ := open_int Try.underlying3 (hval 1 3 v1 rfl rfl) h1
  have k2 := h2
  have lt2 : ∀ x ∈ p2, x.block < W.heap.size := by obtain ⟨m, hm⟩ := k2; exact DataW.trod_lt m _ _ _ hm
  obtain ⟨at2, len2, cap2, rfl⟩ := okWide_slice Try.underlying105 (hval 2 105 v2 rfl rfl)
  obtain ⟨d2, e2, g2⟩ := (rdOps).arg h2 (weights_at hsz (j := 2) (t := 105) (by kernel_rfl) rfl)
  simp [Value.cells, vSl] at e2
  obtain ⟨rfl, rfl, rfl⟩ := e2
  clear hA0 hval0
  refine (walk a0 a1 (wf_i64 w0) d2 W g2).mono fun e W' ⟨he, bel⟩ => ?_
  subst he
  exact ⟨_, rfl, _, _, _, [], _, [], hW', trodAll_mk1 (shut_bool Try.underlying4 _), (trodAll_cons_mk (Below.trod laidOut (by kernel_rfl) (of_decide_eq_true (by kernel_rfl)) k0 bel lt0) (trodAll_cons_mk (Below.trod laidOut (by kernel_rfl) (of_decide_eq_true (by kernel_rfl)) k1 bel lt1) (trodAll_cons_mk (Below.trod laidOut (by kernel_rfl) (of_decide_eq_true (by kernel_rfl)) k2 bel lt2) trodAll_mk0))), rfl, bel.frame _, fun h => by cases h⟩

theorem over : Rows.memoryPlaysRow.holds Try.pinned (OpenSpec.ofChange Rows.memoryPlaysSpec) :=
  OpenClaim.holds_of_wide 9 Try.f9 rfl rfl rfl rfl rfl rfl rfl ⟨rfl, rfl, rfl, rfl, rfl⟩ rfl rfl rfl rfl rfl (by kernel_rfl) Try.func9 (by kernel_rfl)
    (of_decide_eq_true (by kernel_rfl)) (by unfold Func.isWrapper; first | (rw [if_pos (by decide +kernel)]; kernel_rfl) | (rw [if_neg (by decide +kernel)]; exact ⟨rfl, rfl⟩))
    (fun os started H enc _ => lifted os started H enc)

/-- The statement. -/
theorem proved : Rows.MemoryPlaysSaid := over
#print axioms proved
end Go.Proofs.Ytmcmickgllffoaa.memoryPlays
