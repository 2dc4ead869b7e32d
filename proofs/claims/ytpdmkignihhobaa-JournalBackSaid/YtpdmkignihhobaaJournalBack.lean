/- What is proved here: the statement JournalBack, for every input. -/
import Derived.Test.YtpdmkignihhobaaRows
import Derived.Test.YtpdmkignihhobaaJnF
import Derived.ProofKit
import Derived.OpenShut
import Derived.ShutString
import Derived.ChangeOld
import Derived.Below
namespace Go.Proofs.Ytpdmkignihhobaa.journalBack
open Go.ChangeShapes Go.WideShapes Go.ChangeAt Go.RowKit
open Go.ChangeMaps (open_string shut_string)
set_option linter.unusedVariables false
set_option linter.unusedSimpArgs false

theorem own : ownKnob Try.prog.godebug = none := by kernel_rfl
theorem laidOut : laidOutB Try.prog = true := by kernel_rfl

theorem walk (v0 v1 v2 v3 : Int) (a : Option Addr) (n cap : Nat) (g : Nat → Int × Int) (inner : Int) (w : World) (hv : (0 ≤ v0 ∧ v0 < 256) ∧ (0 ≤ v1 ∧ v1 < 256) ∧ (0 ≤ v2 ∧ v2 < 256) ∧ (0 ≤ v3 ∧ v3 < 256)) (hin : 0 ≤ inner ∧ inner < 256) (hlc : n ≤ cap) (hr : RdP w a n g) :
    Calls Try.prog 3 #[.agg #[.int .u8 v0, .int .u8 v1, .int .u8 v2, .int .u8 v3], .slice a n cap, .int .u8 inner] w fun e w' => e = .returned (.bool true) ∧ Below w.heap.size w w' := by
  obtain ⟨k, rfl⟩ := Int.eq_ofNat_of_zero_le hin.1
  exact jback_any v0 v1 v2 v3 a n cap g k w hv (by omega) hlc hr

set_option maxRecDepth 100000 in
theorem lifted (os : Os) (started : os.Started) (H : Type) (enc : TypeId × Value → H) :
    ReturnsInHanded {} Try.checked os 3 .any (Rows.journalBackSpec.pre6 enc Try.prog Try.f3 Rows.journalBackRow.domain false) (Rows.journalBackSpec.post enc Try.prog Try.f3 false true false false) := by
  refine returnsInHanded_of_change (C := Try.checked) own started (by kernel_rfl) Try.func3
    (ChangeSpec.witness6 (enc := enc) (C := Try.checked) false ⟨#[], #[.agg #[.int .u8 0, .int .u8 0, .int .u8 0, .int .u8 0], .slice none 0 0, .int .u8 0], []⟩ 8 (by kernel_rfl) (by kernel_rfl) (by kernel_rfl) (by kernel_rfl)) ?_
  intro W base args ds gs before hval0 hW hcnd _
  have hval : ∀ (j : Nat) t v, Try.f3.params[j]? = some t → args[j]? = some v → Value.okWide Try.prog W .any base t v := hval0
  have hW' := hW
  obtain ⟨p, q, hA0, hV, rfl, hfz, hnd⟩ := hW
  have hA : DataW.TrodAll enc Try.prog W 0 (fun _ => true) true Try.f3.params.toList args.toList ds p := hA0
  rw [Try.params3] at hA hval
  obtain ⟨v0, vs0, d0, ds0, p0, q0, hargs, rfl, rfl, h0, r0⟩ := trodAll_cons hA
  obtain ⟨v1, vs1, d1, ds1, p1, q1, rfl, rfl, rfl, h1, r1⟩ := trodAll_cons r0
  obtain ⟨v2, vs2, d2, ds2, p2, q2, rfl, rfl, rfl, h2, r2⟩ := trodAll_cons r1
  obtain ⟨rfl, rfl, rfl⟩ := trodAll_nil r2
  obtain rfl : args = #[v0, v1, v2] := by cases args; simp_all
  obtain ⟨rfl, rfl⟩ := trodVars_none hV
  have k0 := h0
  have lt0 : ∀ x ∈ p0, x.block < W.heap.size := by obtain ⟨m, hm⟩ := k0; exact DataW.trod_lt m _ _ _ hm
  obtain ⟨cs0, rfl, hsz0, _⟩ : ∃ cs, v0 = .agg cs ∧ cs.size = Try.prog.cellsOf 22 ∧ Row.okWide Try.prog W .any base 22 cs := by
    have := hval 0 22 v0 rfl rfl
    simpa [Value.okWide, Try.underlying22] using this
  have hc4 : Try.prog.cellsOf 22 = 4 := by kernel_rfl
  rw [hc4] at hsz0
  obtain ⟨l0⟩ := cs0
  obtain ⟨z0, z1, z2, z3, rfl⟩ := list4 l0 hsz0
  obtain ⟨fuel0, hf0⟩ := h0
  obtain ⟨y0, y1, y2, y3, m0, _, hy0, hy1, hy2, hy3⟩ := trod_array4 Try.underlying22 (by kernel_rfl) hf0
  obtain ⟨a00, e00, _, w00⟩ := DataW.trod_int Try.underlying5 hy0
  obtain ⟨a01, e01, _, w01⟩ := DataW.trod_int Try.underlying5 hy1
  obtain ⟨a02, e02, _, w02⟩ := DataW.trod_int Try.underlying5 hy2
  obtain ⟨a03, e03, _, w03⟩ := DataW.trod_int Try.underlying5 hy3
  simp at e00 e01 e02 e03
  subst e00 e01 e02 e03
  clear hf0 hy0 hy1 hy2 hy3
  have k1 := h1
  have lt1 : ∀ x ∈ p1, x.block < W.heap.size := by obtain ⟨m, hm⟩ := k1; exact DataW.trod_lt m _ _ _ hm
  obtain ⟨a1, len1, cap1, rfl⟩ := okWide_slice Try.underlying23 (hval 1 23 v1 rfl rfl)
  obtain ⟨g1, hlc1, hst1⟩ : ∃ g : Nat → Int × Int, len1 ≤ cap1 ∧ RdP W a1 len1 g := by
    obtain ⟨fuel, hfu⟩ := h1
    obtain ⟨x, l, c, g, hcs, hl, hg⟩ := rdP_open Try.underlying23 Try.underlying28 (by kernel_rfl) (by kernel_rfl) Try.underlying5 hfu
    simp [Value.cells] at hcs
    obtain ⟨rfl, rfl, rfl⟩ := hcs
    exact ⟨g, hl, hg⟩
  have k2 := h2
  have lt2 : ∀ x ∈ p2, x.block < W.heap.size := by obtain ⟨m, hm⟩ := k2; exact DataW.trod_lt m _ _ _ hm
  obtain ⟨a2, rfl, _, _, w2⟩ := open_int Try.underlying5 (hval 2 5 v2 rfl rfl) h2
  clear hA0 hval0
  refine (walk a00 a01 a02 a03 a1 len1 cap1 g1 a2 W ⟨u8_wf w00, u8_wf w01, u8_wf w02, u8_wf w03⟩ (u8_wf w2) hlc1 hst1).mono fun e W' ⟨he, bel⟩ => ?_
  subst he
  exact ⟨_, rfl, _, _, _, [], _, [], hW', trodAll_mk1 (shut_bool Try.underlying4 _), (trodAll_cons_mk (Below.trod laidOut (by kernel_rfl) (of_decide_eq_true (by kernel_rfl)) k0 bel lt0) (trodAll_cons_mk (Below.trod laidOut (by kernel_rfl) (of_decide_eq_true (by kernel_rfl)) k1 bel lt1) (trodAll_cons_mk (Below.trod laidOut (by kernel_rfl) (of_decide_eq_true (by kernel_rfl)) k2 bel lt2) trodAll_mk0))), rfl, bel.frame _, fun h => by cases h⟩

theorem over : Rows.journalBackRow.holds Try.pinned (OpenSpec.ofChange Rows.journalBackSpec) :=
  OpenClaim.holds_of_wide 3 Try.f3 rfl rfl rfl rfl rfl rfl rfl ⟨rfl, rfl, rfl, rfl, rfl⟩ rfl rfl rfl rfl rfl (by kernel_rfl) Try.func3 (by kernel_rfl)
    (of_decide_eq_true (by kernel_rfl)) (by unfold Func.isWrapper; first | (rw [if_pos (by decide +kernel)]; kernel_rfl) | (rw [if_neg (by decide +kernel)]; exact ⟨rfl, rfl⟩))
    (fun os started H enc _ => lifted os started H enc)

/-- The statement. -/
theorem proved : Rows.JournalBackSaid := over
#print axioms proved
end Go.Proofs.Ytpdmkignihhobaa.journalBack
