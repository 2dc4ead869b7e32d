/- What is proved here: the statement SectJoins, for every input. -/
import Derived.Test.YtcmdajkkdognfaaRows
import Derived.Test.YtcmdajkkdognfaaSectJoinsMgAE
import Derived.Test.YtcmdajkkdognfaaSectJoinsMgAA
import Derived.ProofKit
import Derived.OpenShut
import Derived.ShutString
import Derived.ChangeOld
import Derived.Below
namespace Go.Proofs.Ytcmdajkkdognfaa.sectJoins
open Go.ChangeShapes Go.WideShapes Go.ChangeAt Go.RowKit
open Go.ChangeMaps (open_string shut_string)
set_option linter.unusedVariables false
set_option linter.unusedSimpArgs false

theorem own : ownKnob Try.prog.godebug = none := by kernel_rfl
theorem laidOut : laidOutB Try.prog = true := by kernel_rfl
theorem rdL : ReadsW Try.prog 116 vSl (fSlW 4 56 vMSec fMSec) := readsW_slice Try.underlying116 (by kernel_rfl) (by kernel_rfl) (by decide) rdMSec
theorem secG_of {W : World} {x : MSec} (g : fMSec W x) : SecG W x ∧ (x.2.2.1.len ≤ 140737488351232 ∧ x.2.1.size ≤ maxLen) := by
  obtain ⟨o, nm, L, t, u⟩ := x
  obtain ⟨g1, g2, g3, g4, _⟩ := g
  have hr : ∀ y ∈ L.list, 0 ≤ y ∧ y < (256 : Int) := fun y hy => by
    obtain ⟨j, hj, rfl⟩ : ∃ j, j < L.len ∧ L.el j = y := by
      unfold Sl.list at hy
      obtain ⟨j, hj, e⟩ := List.mem_map.1 hy
      exact ⟨j, List.mem_range.1 hj, e⟩
    have hf := (g3.2.2.2.2 j hj).1
    simp [fInt, Lit.wf, IntKind.min, IntKind.max, IntKind.signed, IntKind.bits] at hf
    omega
  simp [fInt, Lit.wf, IntKind.min, IntKind.max, IntKind.signed, IntKind.bits] at g1
  refine ⟨⟨by show 0 ≤ o ∧ o < 256; omega, RdS.of_arg g3.2, hr, g3.2.1, g3.2.2.2.1⟩, by show L.len ≤ 140737488351232; have h : L.len * 1 ≤ 140737488351232 := g3.1; omega, g2⟩
theorem walk (d : Sl MSec) (n : Int) (s : ByteArray) (W : World) (g : fSlW 4 56 vMSec fMSec W d) : Calls Try.prog 12 #[.slice d.at' d.len d.cap, .int .u8 n, .string s] W fun e w' => e = .returned (.bool true) ∧ Below W.heap.size W w' := by
  have hm : ∀ y ∈ d.list, fMSec W y := fun y hy => by
    obtain ⟨j, hj, rfl⟩ : ∃ j, j < d.len ∧ d.el j = y := by
      unfold Sl.list at hy
      obtain ⟨j, hj, e⟩ := List.mem_map.1 hy
      exact ⟨j, List.mem_range.1 hj, e⟩
    exact (g.2.2.2.2 j hj).1
  have h := sectJoins_any d.list d.at' d.cap n s W (RdS.of_arg g.2) (by rw [Sl.list_length]; exact g.2.1) g.2.2.1 (fun y hy => (secG_of (hm y hy)).1) (fun y hy => (secG_of (hm y hy)).2)
  rw [Sl.list_length] at h
  exact h

set_option maxRecDepth 100000 in
theorem lifted (os : Os) (started : os.Started) (H : Type) (enc : TypeId × Value → H) :
    ReturnsInHanded {} Try.checked os 12 .any (Rows.sectJoinsSpec.pre6 enc Try.prog Try.f12 Rows.sectJoinsRow.domain false) (Rows.sectJoinsSpec.post enc Try.prog Try.f12 false true false false) := by
  refine returnsInHanded_of_change_sized (C := Try.checked) own started (by kernel_rfl) Try.func12
    (ChangeSpec.witness6 (enc := enc) (C := Try.checked) false ⟨#[], #[.slice none 0 0, .int .u8 0, .string ⟨#[]⟩], []⟩ 8 (by kernel_rfl) (by kernel_rfl) (by kernel_rfl) (by kernel_rfl)) ?_
  intro W base args ds gs before hval0 hW hcnd hsz _
  have hval : ∀ (j : Nat) t v, Try.f12.params[j]? = some t → args[j]? = some v → Value.okWide Try.prog W .any base t v := hval0
  have hW' := hW
  obtain ⟨p, q, hA0, hV, rfl, hfz, hnd⟩ := hW
  have hA : DataW.TrodAll enc Try.prog W 0 (fun _ => true) true Try.f12.params.toList args.toList ds p := hA0
  rw [Try.params12] at hA hval
  obtain ⟨v0, vs0, x0, ds0, p0, q0, hargs, rfl, rfl, h0, r0⟩ := trodAll_cons hA
  obtain ⟨v1, vs1, x1, ds1, p1, q1, rfl, rfl, rfl, h1, r1⟩ := trodAll_cons r0
  obtain ⟨v2, vs2, x2, ds2, p2, q2, rfl, rfl, rfl, h2, r2⟩ := trodAll_cons r1
  obtain ⟨rfl, rfl, rfl⟩ := trodAll_nil r2
  obtain rfl : args = #[v0, v1, v2] := by cases args; simp_all
  obtain ⟨rfl, rfl⟩ := trodVars_none hV
  have k0 := h0
  have lt0 : ∀ x ∈ p0, x.block < W.heap.size := by obtain ⟨m, hm⟩ := k0; exact DataW.trod_lt m _ _ _ hm
  obtain ⟨at0, len0, cap0, rfl⟩ := okWide_slice Try.underlying116 (hval 0 116 v0 rfl rfl)
  obtain ⟨d0, e0, g0⟩ := (rdL).arg h0 (weights_at hsz (j := 0) (t := 116) (by kernel_rfl) rfl)
  simp [Value.cells, vSl] at e0
  obtain ⟨rfl, rfl, rfl⟩ := e0
  have k1 := h1
  have lt1 : ∀ x ∈ p1, x.block < W.heap.size := by obtain ⟨m, hm⟩ := k1; exact DataW.trod_lt m _ _ _ hm
  obtain ⟨a1, rfl, _, _, w1⟩ := open_int Try.underlying5 (hval 1 5 v1 rfl rfl) h1
  have k2 := h2
  have lt2 : ∀ x ∈ p2, x.block < W.heap.size := by obtain ⟨m, hm⟩ := k2; exact DataW.trod_lt m _ _ _ hm
  obtain ⟨a2, rfl, _, _, w2⟩ := open_string Try.underlying9 (hval 2 9 v2 rfl rfl) h2
  clear hA0 hval0
  refine (walk d0 a1 a2 W g0).mono fun e W' ⟨he, bel⟩ => ?_
  subst he
  exact ⟨_, rfl, _, _, _, [], _, [], hW', trodAll_mk1 (shut_bool Try.underlying4 _), (trodAll_cons_mk (Below.trod laidOut (by kernel_rfl) (of_decide_eq_true (by kernel_rfl)) k0 bel lt0) (trodAll_cons_mk (Below.trod laidOut (by kernel_rfl) (of_decide_eq_true (by kernel_rfl)) k1 bel lt1) (trodAll_cons_mk (Below.trod laidOut (by kernel_rfl) (of_decide_eq_true (by kernel_rfl)) k2 bel lt2) trodAll_mk0))), rfl, bel.frame _, fun h => by cases h⟩

theorem over : Rows.sectJoinsRow.holds Try.pinned (OpenSpec.ofChange Rows.sectJoinsSpec) :=
  OpenClaim.holds_of_wide 12 Try.f12 rfl rfl rfl rfl rfl rfl rfl ⟨rfl, rfl, rfl, rfl, rfl⟩ rfl rfl rfl rfl rfl (by kernel_rfl) Try.func12 (by kernel_rfl)
    (of_decide_eq_true (by kernel_rfl)) (by unfold Func.isWrapper; first | (rw [if_pos (by decide +kernel)]; kernel_rfl) | (rw [if_neg (by decide +kernel)]; exact ⟨rfl, rfl⟩))
    (fun os started H enc _ => lifted os started H enc)

/-- The statement. -/
theorem proved : Rows.SectJoinsSaid := over
#print axioms proved
end Go.Proofs.Ytcmdajkkdognfaa.sectJoins
