/- What is proved here: what Count, and the document's Bytes, First and Count, come to. -/
import Derived.Test.YtahgkfekggkjnaaUtB
namespace Go.Proofs.Ytahgkfekggkjnaa
open Go.RowKit
set_option linter.unusedVariables false
set_option linter.unusedSimpArgs false

/-- A string's bytes. -/
def bl (s : ByteArray) : List Nat := s.data.toList.map UInt8.toNat
theorem bl_length (s : ByteArray) : (bl s).length = s.size := by unfold bl; rw [List.length_map, Array.length_toList]; rfl
theorem bl_lt (s : ByteArray) : ∀ x ∈ bl s, x < 256 := by
  intro x hx
  obtain ⟨u, _, rfl⟩ := List.mem_map.1 hx
  exact UInt8.toNat_lt u
theorem bl_getD (s : ByteArray) (j : Nat) (h : j < s.size) : (bl s).getD j 0 = (s.data.toList.getD j 0).toNat := by
  have : j < s.data.toList.length := by rw [Array.length_toList]; exact h
  simp [bl, List.getD_eq_getElem?_getD, List.getElem?_map, List.getElem?_eq_getElem this]
theorem bl_inj {s t : ByteArray} (h : bl s = bl t) : s = t := by
  unfold bl at h
  have h2 := (List.map_inj_right (f := UInt8.toNat) (fun a b hab => UInt8.toNat_inj.1 hab)).1 h
  cases s; cases t
  simp at h2
  rw [h2]

theorem below_bytes (w : World) (s : ByteArray) : Below w.heap.size w (Lib.bytesWorld w 5 s) := by
  refine ⟨?_, ?_, ?_, by rw [Lib.bytesWorld_size]; omega, fun k hk => Lib.bytesWorld_at_old w _ s k hk⟩ <;> simp [Lib.bytesWorld, World.freeze, World.alloc, World.drew, -World.alloc_eq, -World.drew_eq]

theorem left_bytes (w : World) (s : ByteArray) : LeftN (Lib.bytesWorld w 5 s) (.slice (some ⟨w.heap.size, 0, none⟩) s.size (grownCap w s.size 0 5)) (bl s) := by
  refine ⟨_, _, by rw [bl_length], fun j hj => ⟨w.heap.size, 0, rfl, ?_, by rw [Lib.bytesWorld_size]; omega⟩, by rw [bl_length]; exact grownCap_ge _ _ _ _, bl_lt s⟩
  rw [bl_length] at hj
  rw [Nat.zero_add, Lib.bytesWorld_cell w _ s j hj, bl_getD s j hj]

set_option maxHeartbeats 1000000 in
set_option maxRecDepth 100000 in
theorem count_any (s : ByteArray) (w : World) (hs : s.size ≤ 1000000) : Calls Try.prog 38 #[.string s] w fun e w' => e = .returned (.int .i64 (cnt (bl s))) ∧ Below w.heap.size w w' := by
  have hcv := fun w => Lib.run_convert_string_bytes (P := Try.prog) w 9 86 5 s Try.underlying9 Try.underlying86 Try.underlying5
  have hL := left_bytes w s
  have hB := below_bytes w s
  generalize hW : Lib.bytesWorld w 5 s = W at *
  have HW := hid hW
  obtain ⟨l, hl⟩ : ∃ l, bl s = l := ⟨_, rfl⟩
  have hll : l.length = s.size := by rw [← hl, bl_length]
  rw [hl] at hL ⊢
  have HL := hid hL; have HB := hid hB
  clear hL hB hl hW
  go_enter Try.func38, Try.ntmps38
  go_wp2
  rw [HW.out]
  go_loop [3, 4, 5, 6] (fun s k _ _ => ∃ (r : List Nat) (q : Nat), Hid (LeftN W s r) ∧ r.length + q ≤ l.length ∧ k = .int .i64 q ∧ Hid (cnt l = if cnt r < 0 then -1 else cnt r + q)) (fun s _ _ _ => lenOfV s)
  case atStart => exact ⟨l, 0, HL, by simp, rfl, hid (by have := cnt_ge l; split <;> omega)⟩
  case round =>
    obtain ⟨r, q, HL, hle, rfl, He⟩ := hrel
    obtain ⟨a', c', rfl, hr, hc, hx⟩ := HL.out
    clear HL
    by_cases h0 : r.length = 0
    · have he := He.out
      have hr0 : r = [] := List.eq_nil_of_length_eq_zero h0
      rw [hr0, show cnt [] = 0 from rfl, if_neg (by omega)] at he
      have Hres : Hid (cnt l = q) := hid (by rw [he]; omega)
      have t : decide ((r.length : Int) > 0) = false := by simp; omega
      have t' : decide ((0 : Int) < r.length) = false := by simp; omega
      clear hr hx hr0 he hcv
      go_wp2
      go_ret
      exact ⟨ret_i64 Hres.out.symm, HB.out⟩
    · have t' : decide ((0 : Int) < r.length) = true := by simp; omega
      have hne : r ≠ [] := fun e => h0 (by rw [e]; rfl)
      obtain ⟨b, off, ha⟩ := rdN_some hr (by omega)
      have hsnd := first_snd r
      have Hcut := hid (LeftN.cut (n := (firstP r).2) ha hr hc hx hsnd)
      have Hf := hid (first_any r a' c' W hx hr hc (by omega))
      have Hbad := hid (fun h => cnt_bad hne h)
      have Hst := hid (fun h => cnt_step hne h)
      subst ha
      clear hr hx hne hcv
      obtain ⟨p, hp⟩ : ∃ p, firstP r = p := ⟨_, rfl⟩
      rw [hp] at Hcut Hf Hbad Hst hsnd
      obtain ⟨v, n⟩ := p
      simp only at Hcut Hf Hbad Hst hsnd
      clear hp
      go_wp2_with fail
      refine Hf.out.mono ?_
      rintro e w' ⟨rfl, rfl⟩
      by_cases hn : n = 0
      · subst hn
        have he := He.out
        rw [Hbad.out rfl, if_pos (by omega)] at he
        have Hres := hid he
        clear he
        go_wp2
        go_ret
        exact ⟨ret_i64 Hres.out.symm, HB.out⟩
      · have t2 : ((n : Int) == 0) = false := beq_eq_false_iff_ne.2 (by omega)
        have hst := Hst.out hn
        have He2 : Hid (cnt l = if cnt (r.drop n) < 0 then -1 else cnt (r.drop n) + (q + 1 : Nat)) := by
          have he := He.out
          rw [hst] at he
          have := cnt_ge (r.drop n)
          show _ = _
          rw [he]
          by_cases q1 : cnt (r.drop n) < 0
          · simp [q1]
          · simp [q1]; omega
        have Hlen : Hid ((r.drop n).length + (q + 1) ≤ l.length) := hid (by rw [List.length_drop]; omega)
        clear hst Hst Hbad
        by_cases hcn : c' = n
        · have hc2 := Hcut.out.2 hcn
          have Hc2 := hid hc2
          have hrn : r.length - n = 0 := by omega
          clear hc2
          subst hcn
          go_wp2
          go_round
          case rel => exact ⟨_, q + 1, hid (Hc2.out _), Hlen.out, by go_num, He2⟩
          case measure => simp [lenOfV]; omega
        · have Hc2 := hid (Hcut.out.1 hcn)
          go_wp2
          go_round
          case rel => exact ⟨_, q + 1, hid Hc2.out, Hlen.out, by go_num, He2⟩
          case measure => simp [lenOfV]; omega
end Go.Proofs.Ytahgkfekggkjnaa
