/- What is proved here: what Count, and the document's Bytes, First and Count, come to. -/
import Derived.Test.YtcmdajkkdognfaaUwB
namespace Go.Proofs.Ytcmdajkkdognfaa.Ut
open Go.RowKit
set_option linter.unusedVariables false
set_option linter.unusedSimpArgs false

/-- A string's bytes. -/
def bl (s : ByteArray) : List Nat := s.data.toList.map UInt8.toNat
theorem bl_length (s : ByteArray) : (bl s).length = s.size := by unfold bl; rw [List.length_map, Array.length_toList]; rfl
theorem bl_lt (s : ByteArray) : ∀ x ∈ bl s, x < 256 := by
  intro x hx
  obtain ⟨u, _, rfl⟩ := List.mem_map.1 hx
  exact UInt8.toNat_lt u
theorem bl_getD (s : ByteArray) (j : Nat) (h : j < s.size) : (bl s).getD j 0 = (s.data.toList.getD j 0).toNat := by
  have : j < s.data.toList.length := by rw [Array.length_toList]; exact h
  simp [bl, List.getD_eq_getElem?_getD, List.getElem?_map, List.getElem?_eq_getElem this]
theorem bl_inj {s t : ByteArray} (h : bl s = bl t) : s = t := by
  unfold bl at h
  have h2 := (List.map_inj_right (f := UInt8.toNat) (fun a b hab => UInt8.toNat_inj.1 hab)).1 h
  cases s; cases t
  simp at h2
  rw [h2]

theorem below_bytes (w : World) (s : ByteArray) : Below w.heap.size w (Lib.bytesWorld w 5 s) := by
  refine ⟨?_, ?_, ?_, by rw [Lib.bytesWorld_size]; omega, fun k hk => Lib.bytesWorld_at_old w _ s k hk⟩ <;> simp [Lib.bytesWorld, World.freeze, World.alloc, World.drew, -World.alloc_eq, -World.drew_eq]

theorem left_bytes (w : World) (s : ByteArray) : LeftN (Lib.bytesWorld w 5 s) (.slice (some ⟨w.heap.size, 0, none⟩) s.size (grownCap w s.size 0 5)) (bl s) := by
  refine ⟨_, _, by rw [bl_length], fun j hj => ⟨w.heap.size, 0, rfl, ?_, by rw [Lib.bytesWorld_size]; omega⟩, by rw [bl_length]; exact grownCap_ge _ _ _ _, bl_lt s⟩
  rw [bl_length] at hj
  rw [Nat.zero_add, Lib.bytesWorld_cell w _ s j hj, bl_getD s j hj]

/-- What Check answers. -/
def checkF (s : ByteArray) : Int := if 200 < s.size then 13 else if 0 ≤ cnt (bl s) then 0 else 4

set_option maxHeartbeats 1000000 in
set_option maxRecDepth 100000 in
theorem check_any (s : ByteArray) (w : World) (hs : s.size ≤ 1000000) : Calls Try.prog 109 #[.string s] w fun e w' => e = .returned (.int .i64 (checkF s)) ∧ Below w.heap.size w w' := by
  have hcv := fun w => Lib.run_convert_string_bytes (P := Try.prog) w 9 47 5 s Try.underlying9 Try.underlying47 Try.underlying5
  have hr := right_any (bl s) _ _ (left_bytes w s) (by rw [bl_length]; omega)
  have hB := below_bytes w s
  unfold checkF
  by_cases h1 : 200 < s.size
  · rw [if_pos h1]
    have t : decide ((s.size : Int) > 200) = true := by simp; omega
    clear hcv hr hB
    go_enter Try.func109, Try.ntmps109
    go_wp2
    go_ret
    exact ⟨rfl, Below.refl _ _⟩
  · rw [if_neg h1]
    have t : decide ((s.size : Int) > 200) = false := by simp; omega
    have Hr := hid hr; have HB := hid hB
    clear hr hB h1
    by_cases h2 : 0 ≤ cnt (bl s)
    · rw [if_pos h2]
      have Hd := hid (decide_eq_true h2)
      clear h2
      go_enter Try.func109, Try.ntmps109
      go_wp2_with fail
      refine Hr.out.mono ?_
      rintro e w1 ⟨rfl, rfl⟩
      rw [Hd.out]
      go_wp2
      go_ret
      exact ⟨rfl, HB.out⟩
    · rw [if_neg h2]
      have Hd := hid (decide_eq_false h2)
      clear h2
      go_enter Try.func109, Try.ntmps109
      go_wp2_with fail
      refine Hr.out.mono ?_
      rintro e w1 ⟨rfl, rfl⟩
      rw [Hd.out]
      go_wp2
      go_ret
      exact ⟨rfl, HB.out⟩

end Go.Proofs.Ytcmdajkkdognfaa.Ut
