/- What is proved here: the statement MemoryBack, for every input. -/
import Derived.Test.YtpdmkignihhobaaRows
import Derived.Test.YtpdmkignihhobaaMmC
import Derived.Test.YtpdmkignihhobaaKitO
import Derived.ProofKit
import Derived.OpenShut
import Derived.ShutString
import Derived.ChangeOld
import Derived.Below
namespace Go.Proofs.Ytpdmkignihhobaa.memoryBack
open Go.ChangeShapes Go.WideShapes Go.ChangeAt Go.RowKit
open Go.ChangeMaps (open_string shut_string)
set_option linter.unusedVariables false
set_option linter.unusedSimpArgs false

theorem own : ownKnob Try.prog.godebug = none := by kernel_rfl
theorem laidOut : laidOutB Try.prog = true := by kernel_rfl

theorem rdBytes : Reads Try.prog 39 (vSl (α := Int)) (fSl 1 (vInt .u8) (fInt .u8)) := reads_slice Try.underlying39 (by kernel_rfl) (by decide) (reads_int Try.underlying5)

theorem bytes_src {w : World} {d : Sl Int} (h : fSl 1 (vInt .u8) (fInt .u8) w d) : SrcV w d.at' d.list.length (d.list.map (Value.int .u8)) ∧ ∀ x ∈ d.list, 0 ≤ x ∧ x < 256 := by
  refine ⟨⟨by simp, fun j u hj => ?_⟩, fun x hx => ?_⟩
  · have hjl : j < d.len := by
      have := (List.getElem?_eq_some_iff.1 hj).1
      simpa [Sl.list_length] using this
    rw [List.getElem?_map, Sl.list_get d hjl] at hj
    obtain ⟨_, b, off, ha, hb, hc⟩ := h.2.2.2 j hjl
    refine ⟨b, off, ha, ?_, hb⟩
    have := hc 0 u (by simpa [vInt] using hj)
    simpa using this
  · obtain ⟨j, hj, rfl⟩ := List.mem_map.1 hx
    have := bounds_u8 (h.2.2.2 j (by simpa using hj)).1
    omega

theorem rdTwo : Reads Try.prog 41 (vArr (vInt .u16) 2) (fArr 2 (fInt .u16)) := reads_array (c := 1) Try.underlying41 (by kernel_rfl) (by kernel_rfl) (reads_int Try.underlying40)

theorem walk (d0 d1 : Sl Int) (d2 : Nat → Int) (w : World) (g0 : fSl 1 (vInt .u8) (fInt .u8) w d0) (g1 : fSl 1 (vInt .u8) (fInt .u8) w d1) (g2 : fArr 2 (fInt .u16) w d2) :
    Calls Try.prog 4 #[.slice d0.at' d0.len d0.cap, .slice d1.at' d1.len d1.cap, .agg (vArr (vInt .u16) 2 d2).toArray] w fun e w' => e = .returned (.bool true) ∧ Below w.heap.size w w' := by
  have hx := bounds_u16 (g2 0 (by omega))
  have hy := bounds_u16 (g2 1 (by omega))
  obtain ⟨x, ex⟩ := Int.eq_ofNat_of_zero_le hx.1
  obtain ⟨y, ey⟩ := Int.eq_ofNat_of_zero_le hy.1
  have hv : vArr (vInt .u16) 2 d2 = [.int .u16 x, .int .u16 y] := by simp [vArr, vInt, ex, ey]
  rw [hv]
  have := mback_any d0.at' d1.at' d0.cap d1.cap x y d0.list d1.list w (by omega) (by omega) (bytes_src g0).1 (bytes_src g1).1
  rw [Sl.list_length, Sl.list_length] at this
  exact this

set_option maxRecDepth 100000 in
theorem lifted (os : Os) (started : os.Started) (H : Type) (enc : TypeId × Value → H) :
    ReturnsInHanded {} Try.checked os 4 .any (Rows.memoryBackSpec.pre6 enc Try.prog Try.f4 Rows.memoryBackRow.domain false) (Rows.memoryBackSpec.post enc Try.prog Try.f4 false true false false) := by
  refine returnsInHanded_of_change (C := Try.checked) own started (by kernel_rfl) Try.func4
    (ChangeSpec.witness6 (enc := enc) (C := Try.checked) false ⟨#[], #[.slice none 0 0, .slice none 0 0, .agg #[.int .u16 0, .int .u16 0]], []⟩ 8 (by kernel_rfl) (by kernel_rfl) (by kernel_rfl) (by kernel_rfl)) ?_
  intro W base args ds gs before hval0 hW hcnd _
  have hval : ∀ (j : Nat) t v, Try.f4.params[j]? = some t → args[j]? = some v → Value.okWide Try.prog W .any base t v := hval0
  have hW' := hW
  obtain ⟨p, q, hA0, hV, rfl, hfz, hnd⟩ := hW
  have hA : DataW.TrodAll enc Try.prog W 0 (fun _ => true) true Try.f4.params.toList args.toList ds p := hA0
  rw [Try.params4] at hA hval
  obtain ⟨v0, vs0, x0, ds0, p0, q0, hargs, rfl, rfl, h0, r0⟩ := trodAll_cons hA
  obtain ⟨v1, vs1, x1, ds1, p1, q1, rfl, rfl, rfl, h1, r1⟩ := trodAll_cons r0
  obtain ⟨v2, vs2, x2, ds2, p2, q2, rfl, rfl, rfl, h2, r2⟩ := trodAll_cons r1
  obtain ⟨rfl, rfl, rfl⟩ := trodAll_nil r2
  obtain rfl : args = #[v0, v1, v2] := by cases args; simp_all
  obtain ⟨rfl, rfl⟩ := trodVars_none hV
  have k0 := h0
  have lt0 : ∀ x ∈ p0, x.block < W.heap.size := by obtain ⟨m, hm⟩ := k0; exact DataW.trod_lt m _ _ _ hm
  obtain ⟨at0, len0, cap0, rfl⟩ := okWide_slice Try.underlying39 (hval 0 39 v0 rfl rfl)
  obtain ⟨d0, e0, g0⟩ := (rdBytes).arg h0
  simp [Value.cells, vSl] at e0
  obtain ⟨rfl, rfl, rfl⟩ := e0
  have k1 := h1
  have lt1 : ∀ x ∈ p1, x.block < W.heap.size := by obtain ⟨m, hm⟩ := k1; exact DataW.trod_lt m _ _ _ hm
  obtain ⟨at1, len1, cap1, rfl⟩ := okWide_slice Try.underlying39 (hval 1 39 v1 rfl rfl)
  obtain ⟨d1, e1, g1⟩ := (rdBytes).arg h1
  simp [Value.cells, vSl] at e1
  obtain ⟨rfl, rfl, rfl⟩ := e1
  have k2 := h2
  have lt2 : ∀ x ∈ p2, x.block < W.heap.size := by obtain ⟨m, hm⟩ := k2; exact DataW.trod_lt m _ _ _ hm
  obtain ⟨cs2, rfl, _, _⟩ : ∃ cs, v2 = .agg cs ∧ cs.size = Try.prog.cellsOf 41 ∧ Row.okWide Try.prog W .any base 41 cs := by
    have := hval 2 41 v2 rfl rfl
    simpa [Value.okWide, Try.underlying41] using this
  obtain ⟨d2, e2, g2⟩ := (rdTwo).arg h2
  replace e2 : cs2 = (_ : List Value).toArray := Array.ext' (by simpa [Value.cells] using e2)
  subst e2
  clear hA0 hval0
  refine (walk d0 d1 d2 W g0 g1 g2).mono fun e W' ⟨he, bel⟩ => ?_
  subst he
  exact ⟨_, rfl, _, _, _, [], _, [], hW', trodAll_mk1 (shut_bool Try.underlying4 _), (trodAll_cons_mk (Below.trod laidOut (by kernel_rfl) (of_decide_eq_true (by kernel_rfl)) k0 bel lt0) (trodAll_cons_mk (Below.trod laidOut (by kernel_rfl) (of_decide_eq_true (by kernel_rfl)) k1 bel lt1) (trodAll_cons_mk (Below.trod laidOut (by kernel_rfl) (of_decide_eq_true (by kernel_rfl)) k2 bel lt2) trodAll_mk0))), rfl, bel.frame _, fun h => by cases h⟩

theorem over : Rows.memoryBackRow.holds Try.pinned (OpenSpec.ofChange Rows.memoryBackSpec) :=
  OpenClaim.holds_of_wide 4 Try.f4 rfl rfl rfl rfl rfl rfl rfl ⟨rfl, rfl, rfl, rfl, rfl⟩ rfl rfl rfl rfl rfl (by kernel_rfl) Try.func4 (by kernel_rfl)
    (of_decide_eq_true (by kernel_rfl)) (by unfold Func.isWrapper; first | (rw [if_pos (by decide +kernel)]; kernel_rfl) | (rw [if_neg (by decide +kernel)]; exact ⟨rfl, rfl⟩))
    (fun os started H enc _ => lifted os started H enc)

/-- The statement. -/
theorem proved : Rows.MemoryBackSaid := over
#print axioms proved
end Go.Proofs.Ytpdmkignihhobaa.memoryBack
