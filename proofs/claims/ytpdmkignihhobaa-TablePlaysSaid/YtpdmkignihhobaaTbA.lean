/- What is proved here: what the functions of the package table come to. -/
import Derived.Test.YtpdmkignihhobaaKit4
namespace Go.Proofs.Ytpdmkignihhobaa
open Go.RowKit
set_option linter.unusedVariables false
set_option linter.unusedSimpArgs false

theorem info3 : (Try.prog.info? 3).map (fun i => (i.zero, i.size, i.bytes)) = some (some (.int .i64 0), 1, 8) := by kernel_rfl

/-- A table: its slots and how many there may be. -/
def TabR (base : Nat) (w : World) (b : Nat) (L : List Int) (most : Int) : Prop :=
  base ≤ b ∧ ∃ v, w.heap[b]? = some (.cells #[v, .int .i64 most] 151 (0, 0)) ∧ w.ownsRow base 3 1 v L.length (L.map (Value.int .i64))

theorem TabR.ext {base : Nat} {w w' : World} {b : Nat} {L : List Int} {most : Int} (h : TabR base w b L most) (hb : Below w.heap.size w w') : TabR base w' b L most := by
  obtain ⟨h1, v, h2, h3⟩ := h
  exact ⟨h1, v, (hb.block b (Array.getElem?_eq_some_iff.1 h2).1).trans h2, ownsRow_ext h3 hb⟩

/-- A table, as the walk wants it. -/
theorem TabR.open {base : Nat} {w : World} {b : Nat} {L : List Int} {most : Int} (h : TabR base w b L most) :
    ∃ a cap, w.cell? ⟨b, 0, none⟩ = some (.slice a L.length cap) ∧ w.cell? ⟨b, 1, none⟩ = some (.int .i64 most) ∧ w.frozen? ⟨b, 0, none⟩ = false ∧ w.frozen? ⟨b, 1, none⟩ = false ∧ b < w.heap.size ∧ base ≤ b ∧ L.length ≤ cap ∧
      w.heap[b]? = some (.cells #[.slice a L.length cap, .int .i64 most] 151 (0, 0)) ∧ w.ownsRow base 3 1 (.slice a L.length cap) L.length (L.map (Value.int .i64)) ∧
      ∀ j, j < L.length → ∃ g, a = some ⟨g, 0, none⟩ ∧ w.cell? ⟨g, j, none⟩ = some (.int .i64 (L.getD j 0)) ∧ w.frozen? ⟨g, j, none⟩ = false ∧ base ≤ g ∧ g < w.heap.size ∧ g ≠ b := by
  obtain ⟨h1, v, h2, h3⟩ := h
  obtain ⟨a, cap, rfl, hc, hj⟩ := ownsRow_shape h3
  refine ⟨a, cap, cell_of_row w b 0 _ _ _ h2, cell_of_row w b 1 _ _ _ h2, frozen_of_row w b 0 _ _ h2, frozen_of_row w b 1 _ _ h2, (Array.getElem?_eq_some_iff.1 h2).1, h1, hc, h2, h3, fun j hjl => ?_⟩
  obtain ⟨g, rfl, c1, c2, c3, c4⟩ := hj j hjl
  refine ⟨g, rfl, ?_, c2, c3, c4, ?_⟩
  · rw [c1]; simp [hjl]
  · rintro rfl
    obtain ⟨cur, hcur⟩ := ownsRow_block h3 rfl
    rw [h2] at hcur
    simp at hcur

/-- The block of a table's slots. -/
def slotB (w : World) (b : Nat) : Option Nat := (w.cell? ⟨b, 0, none⟩).bind Value.ownBlock

/-- Only the table's own blocks turned; its slots lie where they lay, or in a new block. -/
def TabFr (b : Nat) (w w' : World) : Prop := (∀ k, k < w.heap.size → k ≠ b → slotB w b ≠ some k → w'.heap[k]? = w.heap[k]?) ∧ (∀ g, slotB w' b = some g → slotB w b = some g ∨ w.heap.size ≤ g) ∧ w.heap.size ≤ w'.heap.size

theorem TabFr.refl (b : Nat) (w : World) : TabFr b w w := ⟨fun _ _ _ _ => rfl, fun g h => .inl h, Nat.le_refl _⟩

theorem TabFr.trans {b : Nat} {u v w : World} (h : TabFr b u v) (k : TabFr b v w) : TabFr b u w := by
  refine ⟨fun j hj hb hs => ?_, fun g hg => ?_, Nat.le_trans h.2.2 k.2.2⟩
  · rw [k.1 j (Nat.lt_of_lt_of_le hj h.2.2) hb ?_, h.1 j hj hb hs]
    intro hv
    rcases h.2.1 j hv with h1 | h1
    · exact hs h1
    · omega
  · rcases k.2.1 g hg with h1 | h1
    · exact h.2.1 g h1
    · exact .inr (Nat.le_trans h.2.2 h1)

theorem TabFr.of_heap {b : Nat} {w w' : World} (h : w'.heap = w.heap) : TabFr b w w' := by
  have hc : slotB w' b = slotB w b := by unfold slotB World.cell?; rw [h]
  exact ⟨fun k _ _ _ => by rw [h], fun g hg => .inl (hc ▸ hg), by rw [h]; exact Nat.le_refl _⟩

/-- What Set answers and leaves. -/
def setE (L : List Int) (i f : Int) : Int := if i < 0 ∨ (L.length : Int) ≤ i then 64 else if f < -1 then 1 else 0
def setL (L : List Int) (i f : Int) : List Int := if i < 0 ∨ (L.length : Int) ≤ i then L else if f < -1 then L else L.set i.toNat f

set_option maxHeartbeats 400000 in
set_option maxRecDepth 100000 in
theorem set_any (base b : Nat) (L : List Int) (most i f : Int) (w : World) (hL : L.length ≤ 2000000) (h : TabR base w b L most) :
    Calls Try.prog 31 #[.pointer (some ⟨b, 0, none⟩), .int .i64 i, .int .i64 f] w fun e w' => e = .returned (.int .i64 (setE L i f)) ∧ TabR base w' b (setL L i f) most ∧ Below base w w' ∧ TabFr b w w' := by
  have H := hid h
  obtain ⟨a, cap, c0, c1, z0, z1, hb, hbb, hlc, hblk, hown, hrow⟩ := h.open
  unfold setE setL
  by_cases hi : i < 0 ∨ (L.length : Int) ≤ i
  · rw [if_pos hi, if_pos hi]
    clear hrow hown hblk
    by_cases h0 : i < 0
    · have t0 : decide (i < 0) = true := by simp [h0]
      go_enter Try.func31, Try.ntmps31
      go_wp2
      go_ret
      exact ⟨rfl, H.out, Below.refl _ _, TabFr.refl _ _⟩
    · have t0 : decide (i < 0) = false := by simp; omega
      have t1 : decide ((L.length : Int) ≤ i) = true := by simp; omega
      go_enter Try.func31, Try.ntmps31
      go_wp2
      go_ret
      exact ⟨rfl, H.out, Below.refl _ _, TabFr.refl _ _⟩
  · rw [if_neg hi, if_neg hi]
    obtain ⟨k, rfl⟩ := Int.eq_ofNat_of_zero_le (show 0 ≤ i by omega)
    have hk : k < L.length := by omega
    by_cases hf : f < -1
    · rw [if_pos hf, if_pos hf]
      have t2 : decide (f < -1) = true := by simp [hf]
      clear hrow hown hblk
      go_enter Try.func31, Try.ntmps31
      go_wp2
      go_ret
      exact ⟨rfl, H.out, Below.refl _ _, TabFr.refl _ _⟩
    · rw [if_neg hf, if_neg hf]
      have t2 : decide (f < -1) = false := by simp; omega
      obtain ⟨g, rfl, k1, k2, k3, k4, k5⟩ := hrow k hk
      have Hown := hid hown
      clear hrow hown
      have Hblk := hid hblk; clear hblk
      go_enter Try.func31, Try.ntmps31
      go_wp2
      go_ret
      obtain ⟨s1, s2⟩ := Hown.out.stored k (.int .i64 f)
      refine ⟨rfl, ⟨hbb, _, (Below.heap_setCell w ⟨g, k, none⟩ (.int .i64 f) b (fun h => k5 h.symm)).trans Hblk.out, ?_⟩, (Below.refl _ _).setCell (p := ⟨g, k, none⟩) k3 _, ?_⟩
      · rw [List.length_set, List.map_set]
        exact s1
      · have hsb : slotB w b = some g := by unfold slotB; rw [cell_of_row w b 0 _ _ _ Hblk.out]; rfl
        have hsb' : slotB (w.setCell ⟨g, k, none⟩ (.int .i64 f)) b = some g := by unfold slotB; rw [cell_of_row _ b 0 _ _ _ ((Below.heap_setCell w ⟨g, k, none⟩ (.int .i64 f) b (fun h => k5 h.symm)).trans Hblk.out)]; rfl
        refine ⟨fun j _ _ hj => Below.heap_setCell w ⟨g, k, none⟩ (.int .i64 f) j (fun h => hj (by rw [hsb]; rw [h])), fun q hq => .inl (by rw [hsb, ← hsb']; exact hq), by simp [World.setCell]⟩

/-- What Slot answers. -/
def slotF (L : List Int) (i : Int) : Int × Bool := if i < 0 ∨ (L.length : Int) ≤ i then (-1, false) else (L.getD i.toNat 0, true)

set_option maxHeartbeats 400000 in
set_option maxRecDepth 100000 in
theorem slot_any (base b : Nat) (L : List Int) (most i : Int) (w : World) (hL : L.length ≤ 2000000) (h : TabR base w b L most) :
    Calls Try.prog 32 #[.pointer (some ⟨b, 0, none⟩), .int .i64 i] w fun e w' => e = .returned (.tuple #[.int .i64 (slotF L i).1, .bool (slotF L i).2]) ∧ w = w' := by
  obtain ⟨a, cap, c0, c1, z0, z1, hb, hbb, hlc, hblk, hown, hrow⟩ := h.open
  clear h
  unfold slotF
  by_cases hi : i < 0 ∨ (L.length : Int) ≤ i
  · rw [if_pos hi]
    clear hrow hown hblk
    by_cases h0 : i < 0
    · have t0 : decide (i < 0) = true := by simp [h0]
      go_enter Try.func32, Try.ntmps32
      go_wp2
      go_ret2
      exact ⟨rfl, rfl⟩
    · have t0 : decide (i < 0) = false := by simp; omega
      have t1 : decide ((L.length : Int) ≤ i) = true := by simp; omega
      go_enter Try.func32, Try.ntmps32
      go_wp2
      go_ret2
      exact ⟨rfl, rfl⟩
  · rw [if_neg hi]
    obtain ⟨k, rfl⟩ := Int.eq_ofNat_of_zero_le (show 0 ≤ i by omega)
    have hk : k < L.length := by omega
    obtain ⟨g, rfl, k1, k2, k3, k4, k5⟩ := hrow k hk
    clear hrow hown hblk
    rw [Int.toNat_natCast]
    generalize L.getD k 0 = u at *
    go_enter Try.func32, Try.ntmps32
    go_wp2
    go_ret2
    exact ⟨rfl, rfl⟩

/-- What Get answers. -/
def getF (L : List Int) (i : Nat) : Int × Int := if L.length ≤ i then (0, 64) else if L.getD i 0 = -1 then (0, 65) else (L.getD i 0, 0)

set_option maxHeartbeats 400000 in
set_option maxRecDepth 100000 in
theorem get_any (base b : Nat) (L : List Int) (most : Int) (i : Nat) (w : World) (hL : L.length ≤ 2000000) (hi64 : i < 18446744073709551616) (h : TabR base w b L most) :
    Calls Try.prog 33 #[.pointer (some ⟨b, 0, none⟩), .int .u64 i] w fun e w' => e = .returned (.tuple #[.int .i64 (getF L i).1, .int .i64 (getF L i).2]) ∧ w = w' := by
  obtain ⟨a, cap, c0, c1, z0, z1, hb, hbb, hlc, hblk, hown, hrow⟩ := h.open
  clear h
  unfold getF
  have hlw : IntKind.u64.wrap (L.length : Int) = L.length := wrap_u64 (by omega) (by omega)
  by_cases hi : L.length ≤ i
  · rw [if_pos hi]
    clear hrow hown hblk
    have t1 : decide ((L.length : Int) ≤ i) = true := by simp; omega
    go_enter Try.func33, Try.ntmps33
    go_wp2
    go_ret2
    exact ⟨rfl, rfl⟩
  · rw [if_neg hi]
    have hk : i < L.length := by omega
    obtain ⟨g, rfl, k1, k2, k3, k4, k5⟩ := hrow i hk
    clear hrow hown hblk
    have t1 : decide ((L.length : Int) ≤ i) = false := by simp; omega
    generalize L.getD i 0 = u at *
    by_cases hu : u = -1
    · subst hu
      rw [if_pos rfl]
      go_enter Try.func33, Try.ntmps33
      go_wp2
      go_ret2
      exact ⟨rfl, rfl⟩
    · rw [if_neg hu]
      have t2 : (u == -1) = false := by simp [hu]
      clear hu
      go_enter Try.func33, Try.ntmps33
      go_wp2
      go_ret2
      exact ⟨rfl, rfl⟩

set_option maxHeartbeats 4000000 in
set_option maxRecDepth 100000 in
theorem grow_any (base b : Nat) (L : List Int) (most n : Int) (w : World) (hL : L.length ≤ 2000000) (hm0 : 0 ≤ most) (hmm : most ≤ 2000000) (h : TabR base w b L most) (hbase : base ≤ w.heap.size) :
    Calls Try.prog 57 #[.pointer (some ⟨b, 0, none⟩), .int .i64 n] w fun e w' => e = .returned (.bool (decide (0 ≤ n ∧ n ≤ most - L.length))) ∧ TabR base w' b (if 0 ≤ n ∧ n ≤ most - L.length then L ++ List.replicate n.toNat (-1) else L) most ∧ Below base w w' ∧ TabFr b w w' := by
  have H := hid h
  obtain ⟨a, cap, c0, c1, z0, z1, hb, hbb, hlc, hblk, hown, hrow⟩ := h.open
  clear hrow hown hblk h
  by_cases hg : 0 ≤ n ∧ n ≤ most - L.length
  · rw [if_pos hg, decide_eq_true hg]
    obtain ⟨k, rfl⟩ := Int.eq_ofNat_of_zero_le hg.1
    have t1 : decide ((k : Int) > most - L.length) = false := by simp; omega
    have hw1 : IntKind.i64.wrap (most - L.length) = most - L.length := by rw [wrap_i64_def]; omega
    rw [Int.toNat_natCast]
    go_enter Try.func57, Try.ntmps57
    have hw2 := hw1
    go_wp2
    go_quiet (fail)
    have Hw2 := hid hw2
    clear hw1 hw2 t1 c0 c1 z0 z1 hlc
    go_wp2
    · have H0 : TabR base (w.drewN nq) b (L ++ List.replicate 0 (-1)) most := by rw [List.replicate_zero, List.append_nil]; exact H.out
      have hb0 : Below base w (w.drewN nq) := below_drewN (Below.refl _ _) nq
      have hf0 : TabFr b w (w.drewN nq) := TabFr.of_heap rfl
      generalize w.drewN nq = w0 at H0 hb0 hf0 ⊢
      have H1 := hid H0; clear H0
      go_loopw [22] (fun iv wr => ∃ j : Nat, iv = .int .i64 j ∧ j ≤ k ∧ Hid (TabR base wr b (L ++ List.replicate j (-1)) most) ∧ Below base w wr ∧ TabFr b w wr) (fun iv _ => k - (intOf iv).toNat)
      case atStart => exact ⟨0, rfl, Nat.zero_le _, H1, hb0, hf0⟩
      case round =>
        obtain ⟨j, rfl, hj, Hj, hbj, hfj⟩ := hrel
        by_cases hjk : j < k
        · obtain ⟨a, cap, c0, c1, z0, z1, hb', _, hlc, hblk, hown, hrow⟩ := Hj.out.open
          have hlen : (L ++ List.replicate j (-1 : Int)).length = L.length + j := by simp
          clear hrow
          rw [hlen] at c0 hlc hblk hown
          have hsz := hbj.size
          have hne : (Value.slice a (L.length + j) cap).ownBlock ≠ some b := by
            intro h
            obtain ⟨cur, hcur⟩ := ownsRow_block hown h
            rw [hblk] at hcur
            simp at hcur
          have Hown := hid hown; clear hown
          have Hblk := hid hblk; clear hblk
          have Hne := hid hne; clear hne
          go_wp2_with (at_builtin; refine wpList_pushK Try.underlying54 info3 rfl (by decide) Hown.out (Nat.le_trans hbase hsz) (by omega) rfl rfl rfl rfl rfl ?_; intro v' w' hown' hbw' hlt' hkeep' hfr'; obtain ⟨a', cap', rfl, -, -⟩ := ownsRow_shape hown'; have hcb := (hkeep' b hb' Hne.out).trans Hblk.out; have c0' := cell_of_row w' b 0 _ _ _ hcb; have z0' := frozen_of_row w' b 0 _ _ hcb; have Hkeep' := hid hkeep'; clear hkeep'; have Hfr' := hid hfr'; clear hfr'; have Hown' := hid hown'; clear hown'; have Hcb := hid hcb; clear hcb)
          go_roundw
          case rel =>
            refine ⟨j + 1, by go_num, by omega, ?_, ?_, ?_⟩
            · refine ⟨hbb, .slice a' (L.length + j + 1) cap', ?_, ?_⟩
              · have := heap_setCell_same w' b 0 _ _ (.slice a' (L.length + j + 1) cap') Hcb.out
                simpa using this
              · have h1 := ownsRow_other Hown'.out ⟨b, 0, none⟩ (.slice a' (L.length + j + 1) cap') (ownBlock_ne Hown'.out Hcb.out (by decide))
                have e1 : (L ++ List.replicate (j + 1) (-1 : Int)).length = L.length + j + 1 := by simp; omega
                rw [e1, List.replicate_succ', ← List.append_assoc, List.map_append]
                exact h1
            · exact (hbj.trans hbw').setCell (p := ⟨b, 0, none⟩) hbb _
            · refine hfj.trans ?_
              have hsb : slotB wr b = (Value.slice a (L.length + j) cap).ownBlock := by unfold slotB; rw [cell_of_row wr b 0 _ _ _ Hblk.out]; rfl
              have hsb' : slotB (w'.setCell ⟨b, 0, none⟩ (.slice a' (L.length + j + 1) cap')) b = (Value.slice a' (L.length + j + 1) cap').ownBlock := by
                have h1 := heap_setCell_same w' b 0 _ _ (.slice a' (L.length + j + 1) cap') Hcb.out
                unfold slotB; rw [cell_of_row _ b 0 _ _ _ h1]; rfl
              refine ⟨fun q hq hqb hqs => ?_, fun q hq => ?_, by simp [World.setCell]; omega⟩
              · rw [Below.heap_setCell w' ⟨b, 0, none⟩ _ q hqb]
                exact Hkeep'.out q hq (by rw [← hsb]; exact hqs)
              · rw [hsb] 
                exact Hfr'.out q (by rw [← hsb']; exact hq)
          case measure => simp [intOf]; omega
        · obtain rfl : j = k := by omega
          go_wp2
          go_ret
          exact ⟨rfl, Hj.out, hbj, hfj⟩
  · rw [if_neg hg, decide_eq_false hg]
    by_cases h0 : n < 0
    · have t0 : decide (n < 0) = true := by simp [h0]
      go_enter Try.func57, Try.ntmps57
      go_wp2
      go_quiet (fail)
      go_wp2
      go_ret
      exact ⟨rfl, H.out, below_drewN (Below.refl _ _) _, TabFr.of_heap rfl⟩
    · have t0 : decide (n < 0) = false := by simp; omega
      have t1 : decide (n > most - L.length) = true := by simp; omega
      have hw1 : wrap64 (most - L.length) = most - L.length := by unfold wrap64; omega
      go_enter Try.func57, Try.ntmps57
      go_wp2
      go_quiet (fail)
      go_wp2
      go_ret
      exact ⟨rfl, H.out, below_drewN (Below.refl _ _) _, TabFr.of_heap rfl⟩
end Go.Proofs.Ytpdmkignihhobaa
