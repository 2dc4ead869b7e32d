/- What is proved here: the list, the places and the cut of a table. -/
import Derived.Test.YtpdmkignihhobaaTbD
namespace Go.Proofs.Ytpdmkignihhobaa
open Go.RowKit
set_option linter.unusedVariables false
set_option linter.unusedSimpArgs false

theorem TabR.rd {base : Nat} {w : World} {b : Nat} {L : List Int} {most : Int} (h : TabR base w b L most) :
    ∃ a c, w.cell? ⟨b, 0, none⟩ = some (.slice a L.length c) ∧ w.cell? ⟨b, 1, none⟩ = some (.int .i64 most) ∧ w.frozen? ⟨b, 0, none⟩ = false ∧ b < w.heap.size ∧ base ≤ b ∧ RdL w a c L ∧ (L.length = 0 → a = none → c = 0) ∧ w.heap[b]? = some (.cells #[.slice a L.length c, .int .i64 most] 151 (0, 0)) := by
  obtain ⟨h1, v, h2, h3⟩ := h
  obtain ⟨a, c, rfl, hr⟩ := RdL.of_own h3
  refine ⟨a, c, cell_of_row w b 0 _ _ _ h2, cell_of_row w b 1 _ _ _ h2, frozen_of_row w b 0 _ _ h2, (Array.getElem?_eq_some_iff.1 h2).1, h1, hr, fun _ ha => ?_, h2⟩
  rcases h3.2 with ⟨h, _⟩ | ⟨g, cap, cur, h, _⟩
  · simp at h; exact h.2.2
  · simp at h; rw [ha] at h; simp at h

set_option maxRecDepth 100000 in
theorem len_any (base b : Nat) (L : List Int) (most : Int) (w : World) (h : TabR base w b L most) :
    Calls Try.prog 53 #[.pointer (some ⟨b, 0, none⟩)] w fun e w' => e = .returned (.int .i64 L.length) ∧ w = w' := by
  obtain ⟨a, c, c0, c1, z0, hb, hbb, hr, hn, hblk⟩ := h.rd
  have Hr := hid hr
  clear h hr hblk hn
  go_enter Try.func53, Try.ntmps53
  go_wp2
  go_ret
  exact ⟨rfl, rfl⟩

set_option maxRecDepth 100000 in
theorem most_any (base b : Nat) (L : List Int) (most : Int) (w : World) (h : TabR base w b L most) :
    Calls Try.prog 54 #[.pointer (some ⟨b, 0, none⟩)] w fun e w' => e = .returned (.int .i64 most) ∧ w = w' := by
  obtain ⟨a, c, c0, c1, z0, hb, hbb, hr, hn, hblk⟩ := h.rd
  have Hr := hid hr
  clear h hr hblk hn
  go_enter Try.func54, Try.ntmps54
  go_wp2
  go_ret
  exact ⟨rfl, rfl⟩

set_option maxHeartbeats 1000000 in
set_option maxRecDepth 100000 in
theorem list_any (base b : Nat) (L : List Int) (most : Int) (w : World) (hL : L.length ≤ 2000000) (h : TabR base w b L most) :
    Calls Try.prog 60 #[.pointer (some ⟨b, 0, none⟩)] w fun e w' => ∃ s, e = .returned s ∧ w'.ownsRow w.heap.size 3 1 s L.length (L.map (Value.int .i64)) ∧ Below w.heap.size w w' := by
  obtain ⟨a, c, c0, c1, z0, hb, hbb, hr, hn, hblk⟩ := h.rd
  clear h hblk
  obtain ⟨X, hX, hszX, hbX, d0⟩ := allocs1 w #[] 3
  have own0 : X.ownsRow w.heap.size 3 1 (.slice (some ⟨w.heap.size, 0, none⟩) 0 0) 0 [] := ⟨rfl, .inr ⟨w.heap.size, 0, #[], rfl, Nat.le_refl _, d0, Nat.le_refl _, by unfold maxLen; omega, rfl, rfl⟩⟩
  obtain ⟨v', w', run, own, hbw, hsw⟩ := appends_run (P := Try.prog) (c := c) Try.underlying54 info3 rfl (by decide) own0 (by omega) (hr.ext hbX).src oneCell_ints (by omega) (fun h0 => hn h0)
  rw [List.nil_append] at own
  have Own := hid own
  have Hbw := hid (hbX.trans hbw)
  clear own hbw own0 d0 hr hn hszX hsw hbX
  subst hX
  go_enter Try.func60, Try.ntmps60
  go_wp2_with (at_builtin; refine wpList_app run rfl rfl rfl rfl ?_)
  go_ret
  exact ⟨_, rfl, by simpa using Own.out, Hbw.out⟩

set_option maxHeartbeats 1000000 in
set_option maxRecDepth 100000 in
theorem find_any (base b : Nat) (L : List Int) (most f : Int) (w : World) (hL : L.length ≤ 2000000) (h : TabR base w b L most) :
    Calls Try.prog 61 #[.pointer (some ⟨b, 0, none⟩), .int .i64 f] w fun e w' => ∃ s, e = .returned s ∧ w'.ownsRow w.heap.size 3 1 s (findL L f L.length).length ((findL L f L.length).map (Value.int .i64)) ∧ Below w.heap.size w w' := by
  obtain ⟨a, c, c0, c1, z0, hb, hbb, hr, hn, hblk⟩ := h.rd
  have H := hid hr
  clear h hr hblk hn
  go_enter Try.func61, Try.ntmps61
  go_wp2
  go_loopw [5, 13] (fun s i wr => ∃ k : Nat, i = .int .i64 k ∧ k ≤ L.length ∧ wr.ownsRow w.heap.size 3 1 s (findL L f k).length ((findL L f k).map (Value.int .i64)) ∧ Below w.heap.size w wr) (fun _ i _ => L.length - (intOf i).toNat)
  case atStart => exact ⟨0, rfl, Nat.zero_le _, World.ownsRow_nil _ _ _ _, Below.refl _ _⟩
  case round =>
    obtain ⟨k, rfl, hk, hown, hbk⟩ := hrel
    have hsz := hbk.size
    have hle := findL_le L f k
    by_cases hkn : k < L.length
    · obtain ⟨bb, off, rfl, hc, hlt⟩ := (H.out.ext hbk).2 k hkn
      by_cases he : atL L k = f
      · have e := findL_yes L f k he
        have te : (atL L k == f) = true := by simp only [he, beq_self_eq_true]
        have He := hid e; clear e he
        go_wp2_with (at_builtin; refine wpList_push Try.underlying54 info3 rfl (by decide) hown hsz (by omega) rfl rfl rfl rfl rfl ?_; intro v' w' hown' hb' hlt')
        go_roundw
        case rel => exact ⟨k + 1, by go_num, by omega, by rw [He.out, List.map_append, List.length_append]; exact hown', hbk.trans hb'⟩
        case measure => simp [intOf]; omega
      · have e := findL_no L f k he
        have te : (atL L k == f) = false := by simp only [beq_eq_false_iff_ne, ne_eq]; exact he
        have He := hid e; clear e he
        go_wp2
        go_roundw
        case rel => exact ⟨k + 1, by go_num, by omega, by rw [He.out]; exact hown, hbk⟩
        case measure => simp [intOf]; omega
    · obtain rfl : k = L.length := by omega
      go_wp2
      go_ret
      exact ⟨_, rfl, hown, hbk⟩

set_option maxHeartbeats 1000000 in
set_option maxRecDepth 100000 in
theorem cut_any (base b : Nat) (L : List Int) (most n : Int) (w : World) (hbase : base ≤ w.heap.size) (hL : L.length ≤ 2000000) (h : TabR base w b L most) :
    Calls Try.prog 58 #[.pointer (some ⟨b, 0, none⟩), .int .i64 n] w fun e w' => e = .returned (.tuple #[]) ∧ TabR base w' b (if 0 ≤ n ∧ n < L.length then sizeL L n.toNat else L) most ∧ Below base w w' ∧ TabFr b w w' := by
  have H := hid h
  obtain ⟨a, c, c0, c1, z0, hb, hbb, hr, hn, hblk⟩ := h.rd
  clear h
  by_cases hc : 0 ≤ n ∧ n < L.length
  · rw [if_pos hc]
    obtain ⟨m, rfl⟩ := Int.eq_ofNat_of_zero_le hc.1
    have hm : m < L.length := by omega
    rw [Int.toNat_natCast]
    have e1 : (sizeL L m).map (Value.int .i64) = ((L.map (Value.int .i64)).take m) := by
      apply List.ext_getElem?
      intro j
      by_cases hj : j < m
      · have : j < L.length := by omega
        simp [sizeL, atL, hj, this, List.getElem?_take]
      · simp [sizeL, hj, List.getElem?_take]
    obtain ⟨X, hX, hszX, hbX, d0⟩ := allocs1 w #[] 3
    have own0 : X.ownsRow w.heap.size 3 1 (.slice (some ⟨w.heap.size, 0, none⟩) 0 0) 0 [] := ⟨rfl, .inr ⟨w.heap.size, 0, #[], rfl, Nat.le_refl _, d0, Nat.le_refl _, by unfold maxLen; omega, rfl, rfl⟩⟩
    have hsrc := (hr.ext hbX).src
    have hsrc2 : SrcV X a m ((sizeL L m).map (Value.int .i64)) := by
      rw [e1]
      refine ⟨by simp; omega, fun j u hu => hsrc.2 j u ?_⟩
      rw [List.getElem?_take] at hu
      split at hu
      · exact hu
      · cases hu
    obtain ⟨v', w', run, own, hbw, hsw⟩ := appends_run (P := Try.prog) (c := c) Try.underlying54 info3 rfl (by decide) own0 (by omega) hsrc2 oneCell_ints (by omega) (fun h0 ha => by
      obtain ⟨b', off', ha', _⟩ := hr.2 0 (by omega)
      rw [ha] at ha'; cases ha')
    rw [List.nil_append] at own
    obtain ⟨a', c', rfl, -, -⟩ := ownsRow_shape own
    have hbw2 := hbX.trans hbw
    have hcb := (hbw2.block b hb).trans hblk
    have k0 := cell_of_row w' b 0 _ _ _ hcb
    have z1 := frozen_of_row w' b 0 _ _ hcb
    have hmc : m ≤ c := by have := hr.1; omega
    have Own := hid own
    have Hcb := hid hcb
    have Hbw := hid hbw2
    clear own hbw own0 d0 hr hn hszX hsw hbX hcb hbw2 hsrc hsrc2 e1 hblk
    subst hX
    have t1 : decide ((m : Int) < L.length) = true := by simp; omega
    go_enter Try.func58, Try.ntmps58
    go_wp2_with (at_builtin; refine wpList_app run rfl rfl rfl rfl ?_)
    go_end0
    refine ⟨rfl, ⟨hbb, .slice a' (0 + m) c', ?_, ?_⟩, (Hbw.out.mono hbase).setCell (p := ⟨b, 0, none⟩) hbb _, ?_⟩
    · have := heap_setCell_same w' b 0 _ _ (.slice a' (0 + m) c') Hcb.out
      simpa using this
    · have h1 := ownsRow_other (ownsRow_mono Own.out hbase) ⟨b, 0, none⟩ (.slice a' (0 + m) c') (ownBlock_ne Own.out Hcb.out (by decide))
      rw [sizeL_length]
      simpa using h1
    · have h1 := heap_setCell_same w' b 0 _ _ (.slice a' (0 + m) c') Hcb.out
      refine ⟨fun q hq hqb _ => ?_, fun q hq => .inr ?_, by have := Hbw.out.size; simpa [World.setCell] using this⟩
      · rw [Below.heap_setCell w' ⟨b, 0, none⟩ _ q hqb]
        exact Hbw.out.block q hq
      · have hsb' : slotB (w'.setCell ⟨b, 0, none⟩ (.slice a' (0 + m) c')) b = (Value.slice a' (0 + m) c').ownBlock := by
          unfold slotB; rw [cell_of_row _ b 0 _ _ _ h1]; rfl
        have hq2 : slotB (w'.setCell ⟨b, 0, none⟩ (.slice a' (0 + m) c')) b = some q := by simpa using hq
        exact (Own.out.lt q (hsb'.symm.trans hq2)).1
  · rw [if_neg hc]
    have Hr := hid hr
    clear hr hn hblk
    by_cases h0 : n < 0
    · have t0 : decide (n ≥ 0) = false := by simp; omega
      go_enter Try.func58, Try.ntmps58
      go_wp2
      go_end0
      exact ⟨rfl, H.out, Below.refl _ _, TabFr.refl _ _⟩
    · have t0 : decide (n ≥ 0) = true := by simp; omega
      have t1 : decide (n < L.length) = false := by simp; omega
      go_enter Try.func58, Try.ntmps58
      go_wp2
      go_end0
      exact ⟨rfl, H.out, Below.refl _ _, TabFr.refl _ _⟩
end Go.Proofs.Ytpdmkignihhobaa
