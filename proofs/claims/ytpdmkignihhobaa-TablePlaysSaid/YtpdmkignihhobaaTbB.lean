/- What is proved here: the law TableGets, walked. -/
import Derived.Test.YtpdmkignihhobaaTbA
namespace Go.Proofs.Ytpdmkignihhobaa
open Go.RowKit
set_option linter.unusedVariables false
set_option linter.unusedSimpArgs false

set_option maxHeartbeats 400000 in
set_option maxRecDepth 100000 in
theorem new_any (size most : Int) (w : World) (base : Nat) (hbase : base ≤ w.heap.size) :
    Calls Try.prog 30 #[.int .i64 size, .int .i64 most] w fun e w' => (if size < 0 ∨ most < size ∨ most > 1048576 then e = .returned (.tuple #[.pointer none, .int .i64 26]) ∧ w = w' else
      ∃ b, e = .returned (.tuple #[.pointer (some ⟨b, 0, none⟩), .int .i64 0]) ∧ w.heap.size ≤ b ∧ TabR base w' b (List.replicate size.toNat (-1)) most) ∧ Below base w w' := by
  by_cases hbad : size < 0 ∨ most < size ∨ most > 1048576
  · simp only [if_pos hbad]
    by_cases h0 : size < 0
    · have t0 : decide (size < 0) = true := by simp [h0]
      go_enter Try.func30, Try.ntmps30
      go_wp2
      go_ret2
      exact ⟨⟨rfl, rfl⟩, Below.refl _ _⟩
    · have t0 : decide (size < 0) = false := by simp; omega
      by_cases h1 : most < size
      · have t1 : decide (most < size) = true := by simp [h1]
        go_enter Try.func30, Try.ntmps30
        go_wp2
        go_ret2
        exact ⟨⟨rfl, rfl⟩, Below.refl _ _⟩
      · have t1 : decide (most < size) = false := by simp; omega
        have t2 : decide (most > 1048576) = true := by simp; omega
        go_enter Try.func30, Try.ntmps30
        go_wp2
        go_ret2
        exact ⟨⟨rfl, rfl⟩, Below.refl _ _⟩
  · simp only [if_neg hbad]
    have t0 : decide (size < 0) = false := by simp; omega
    have t1 : decide (most < size) = false := by simp; omega
    have t2 : decide (most > 1048576) = false := by simp; omega
    have hok : ¬ (size < 0) ∧ ¬ (most < size) ∧ ¬ (most > 1048576) := by omega
    clear hbad
    go_enter Try.func30, Try.ntmps30
    go_wp2_with fail
    obtain ⟨X, hX, hszX, hbX, d0⟩ := allocs1 w #[.slice none 0 0, .int .i64 most] 151
    rw [← hX]; clear hX
    have htab : TabR base X w.heap.size [] most := ⟨hbase, _, d0, World.ownsRow_nil _ _ _ _⟩
    have hg := grow_any base w.heap.size [] most size X (by simp) (by omega) (by omega) htab (by omega)
    rw [if_pos (by simp; omega), decide_eq_true (by simp; omega)] at hg
    have Hg := hid hg; clear hg
    refine Hg.out.mono ?_
    rintro e w' ⟨rfl, ht, hb, -⟩
    go_wp2
    go_ret2
    exact ⟨⟨w.heap.size, rfl, Nat.le_refl _, by simpa using ht⟩, (hbX.mono hbase).trans hb⟩

set_option maxHeartbeats 400000 in
set_option maxRecDepth 100000 in
theorem awake_any (w : World) : Calls Try.prog 29 #[] w fun e w' => e = .returned (.bool true) ∧ Below w.heap.size w w' := by
  have hn := new_any 2 2 w w.heap.size (Nat.le_refl _)
  simp only [show ¬ ((2 : Int) < 0 ∨ (2 : Int) < 2 ∨ (2 : Int) > 1048576) by decide, if_false] at hn
  have Hn := hid hn; clear hn
  go_enter Try.func29, Try.ntmps29
  go_wp2_with fail
  refine Hn.out.mono ?_
  rintro e w1 ⟨⟨b, rfl, hb0, ht⟩, hb1⟩
  go_wp2_with fail
  refine (set_any _ b _ 2 1 7 w1 (by simp) ht).mono ?_
  rintro e w2 ⟨rfl, ht2, hb2, -⟩
  rw [show setE (List.replicate (2 : Int).toNat (-1)) 1 7 = 0 from by decide]
  rw [show setL (List.replicate (2 : Int).toNat (-1)) 1 7 = [-1, 7] from by decide] at ht2
  have Ht := hid ht2; clear ht2
  go_wp2_with fail
  refine (get_any _ b _ 2 0 w2 (by simp) (by omega) Ht.out).mono ?_
  rintro e w3 ⟨rfl, rfl⟩
  rw [show getF [-1, 7] 0 = (0, 65) from by decide]
  go_wp2_with fail
  refine (get_any _ b _ 2 1 w2 (by simp) (by omega) Ht.out).mono ?_
  rintro e w3 ⟨rfl, rfl⟩
  rw [show getF [-1, 7] 1 = (7, 0) from by decide]
  go_wp2_with fail
  refine (get_any _ b _ 2 2 w2 (by simp) (by omega) Ht.out).mono ?_
  rintro e w3 ⟨rfl, rfl⟩
  rw [show getF [-1, 7] 2 = (0, 64) from by decide]
  go_wp2
  go_ret
  exact ⟨rfl, hb1.trans hb2⟩

/-- A row of numbers. -/
def RdI (w : World) (a : Option Addr) (len : Nat) (f : Nat → Int) : Prop := ∀ j, j < len → ∃ b off, a = some ⟨b, off, none⟩ ∧ w.cell? ⟨b, off + j, none⟩ = some (.int .i64 (f j)) ∧ b < w.heap.size

theorem RdI.ext {w w' : World} {a : Option Addr} {n : Nat} {f : Nat → Int} (h : RdI w a n f) (hb : Below w.heap.size w w') : RdI w' a n f := by
  intro j hj
  obtain ⟨b, off, ha, hc, hl⟩ := h j hj
  exact ⟨b, off, ha, (hb.cell (p := ⟨b, off + j, none⟩) hl).trans hc, Nat.lt_of_lt_of_le hl hb.size⟩

/-- The slots behind k rounds. -/
def slotsK (n k : Nat) (f : Nat → Int) : List Int := (List.range n).map fun j => if j < k then max (f j) (-1) else -1

theorem slotsK_length (n k : Nat) (f : Nat → Int) : (slotsK n k f).length = n := by simp [slotsK]
theorem slotsK_zero (n : Nat) (f : Nat → Int) : slotsK n 0 f = List.replicate n (-1) := by
  apply List.ext_getElem?
  intro j
  by_cases hj : j < n <;> simp [slotsK, hj]
theorem slotsK_set (n k : Nat) (f : Nat → Int) (h : k < n) : setL (slotsK n k f) k (max (f k) (-1)) = slotsK n (k + 1) f := by
  have h1 : ¬ ((k : Int) < 0 ∨ ((slotsK n k f).length : Int) ≤ k) := by rw [slotsK_length]; omega
  unfold setL
  rw [if_neg h1, if_neg (by omega), Int.toNat_natCast]
  apply List.ext_getElem?
  intro j
  rw [List.getElem?_set]
  by_cases hj : k = j
  · subst hj; simp [slotsK, h]
  · rw [if_neg hj]
    by_cases hjn : j < n
    · simp [slotsK, hjn]
      by_cases hjk : j < k
      · rw [if_pos hjk, if_pos (by omega)]
      · rw [if_neg hjk, if_neg (by omega)]
    · simp [slotsK, hjn]
theorem slotsK_get (n : Nat) (f : Nat → Int) (i : Nat) (h : i < n) : (slotsK n n f).getD i 0 = max (f i) (-1) := by
  simp [slotsK, h]

set_option maxHeartbeats 4000000 in
set_option maxRecDepth 100000 in
theorem gets_any (a : Option Addr) (n cap : Nat) (f : Nat → Int) (i : Int) (w : World) (hi1 : -9223372036854775808 ≤ i) (hi2 : i < 9223372036854775808) (hlc : n ≤ cap) (hr : RdI w a n f) :
    Calls Try.prog 6 #[.slice a n cap, .int .i64 i] w fun e w' => e = .returned (.bool true) ∧ Below w.heap.size w w' := by
  have Hr := hid hr; clear hr
  go_enter Try.func6, Try.ntmps6
  go_wp2_with fail
  refine (awake_any _).mono ?_
  rintro ev w1 ⟨rfl, hb1⟩
  by_cases hn : n ≤ 60
  · have t : decide ((n : Int) > 60) = false := by simp; omega
    have hnw := new_any n 100 w1 w.heap.size hb1.size
    simp only [show ¬ ((n : Int) < 0 ∨ (100 : Int) < n ∨ (100 : Int) > 1048576) by omega, if_false] at hnw
    have Hn := hid hnw; clear hnw
    go_wp2_with fail
    refine Hn.out.mono ?_
    rintro ev w2 ⟨⟨b, rfl, hb0, ht⟩, hb2⟩
    rw [Int.toNat_natCast, ← slotsK_zero n f] at ht
    have Ht := hid ht; clear ht
    have hb12 := hb1.trans hb2
    go_wp2
    go_loopw [7] (fun iv wr => ∃ k : Nat, iv = .int .i64 k ∧ k ≤ n ∧ Hid (TabR w.heap.size wr b (slotsK n k f) 100) ∧ Below w.heap.size w wr) (fun iv _ => n - (intOf iv).toNat)
    case atStart => exact ⟨0, rfl, Nat.zero_le _, Ht, hb12⟩
    case round =>
      obtain ⟨k, rfl, hk, Htk, hbk⟩ := hrel
      by_cases hkn : k < n
      · obtain ⟨ba, off, rfl, hc, hlt⟩ := (Hr.out.ext hbk) k hkn
        have hsc := fun u (hu : u = max (f k) (-1)) => (set_any w.heap.size b (slotsK n k f) 100 k u wr (by rw [slotsK_length]; omega) Htk.out).mono (fun e w' h => (⟨⟨_, h.1⟩, by have h2 := h.2.1; rw [hu, slotsK_set n k f hkn] at h2; exact h2, h.2.2.1⟩ : (∃ z, e = .returned (.int .i64 z)) ∧ TabR w.heap.size w' b (slotsK n (k + 1) f) 100 ∧ Below w.heap.size wr w'))
        have Hsc := hid hsc; clear hsc
        go_wp2_with fail
        all_goals
          refine (Hsc.out _ (by omega)).mono ?_
          rintro ev w3 ⟨⟨z, rfl⟩, ht3, hb3⟩
          have Ht3 := hid ht3; clear ht3
          go_wp2
          go_roundw
          case rel => exact ⟨k + 1, by go_num, by omega, Ht3, hbk.trans hb3⟩
          case measure => simp [intOf]; omega
      · obtain rfl : k = n := by omega
        have hs := slot_any w.heap.size b (slotsK k k f) 100 i wr (by rw [slotsK_length]; omega) Htk.out
        have hg := fun (j : Nat) (hj : j < 18446744073709551616) => get_any w.heap.size b (slotsK k k f) 100 j wr (by rw [slotsK_length]; omega) hj Htk.out
        have Hs := hid hs; clear hs
        have Hg := hid hg; clear hg
        go_wp2_with fail
        refine Hs.out.mono ?_
        rintro ev w3 ⟨rfl, rfl⟩
        obtain ⟨q, hq, hq64, hq0, hq1⟩ : ∃ q : Nat, IntKind.u64.wrap i = q ∧ q < 18446744073709551616 ∧ (0 ≤ i → (q : Int) = i) ∧ (i < 0 → 9223372036854775808 ≤ q) := by
          refine ⟨(IntKind.u64.wrap i).toNat, ?_, ?_, ?_, ?_⟩ <;> rw [wrap_u64_def] <;> omega
        have Hq := hid hq; clear hq
        by_cases hbad : i < 0 ∨ (k : Int) ≤ i
        · have hsl : slotF (slotsK k k f) i = (-1, false) := by unfold slotF; rw [slotsK_length, if_pos hbad]
          have hgl : getF (slotsK k k f) q = (0, 64) := by unfold getF; rw [slotsK_length, if_pos (by omega)]
          have Hgl := hid hgl; clear hgl
          rw [hsl]; clear hsl
          go_wp2_with fail
          rw [Hq.out]
          refine (Hg.out q hq64).mono ?_
          rintro ev w3 ⟨rfl, rfl⟩
          rw [Hgl.out]
          by_cases h0 : i < 0
          · have t0 : decide (i < 0) = true := by simp [h0]
            go_wp2
            go_ret
            exact ⟨rfl, hbk⟩
          · have t0 : decide (i < 0) = false := by simp; omega
            have t1 : decide (i ≥ (k : Int)) = true := by simp; omega
            go_wp2
            go_ret
            exact ⟨rfl, hbk⟩
        · obtain ⟨p, rfl⟩ := Int.eq_ofNat_of_zero_le (show 0 ≤ i by omega)
          have hp : p < k := by omega
          have hqp : q = p := by have := hq0 (by omega); omega
          subst hqp
          obtain ⟨M, hM⟩ : ∃ M, M = max (f q) (-1) := ⟨_, rfl⟩
          have hsl : slotF (slotsK k k f) q = (M, true) := by unfold slotF; rw [slotsK_length, if_neg hbad]; simp only [Int.toNat_natCast]; rw [slotsK_get k f q hp, ← hM]
          have hgl : getF (slotsK k k f) q = if M = -1 then (0, 65) else (M, 0) := by unfold getF; rw [slotsK_length, if_neg (by omega), slotsK_get k f q hp, ← hM]
          have HM := hid hM; clear hM
          have Hgl := hid hgl; clear hgl
          obtain ⟨ba, off, rfl, hc, hlt⟩ := (Hr.out.ext hbk) q hp
          have t0 : decide ((q : Int) < 0) = false := by simp
          have t1 : decide ((q : Int) ≥ (k : Int)) = false := by simp; omega
          rw [hsl]; clear hsl
          go_wp2_with fail
          try rw [Hq.out]
          refine (Hg.out q hq64).mono ?_
          rintro ev w3 ⟨rfl, rfl⟩
          rw [Hgl.out]
          have Hp := hid hp
          clear Hgl Hg Hn hq0 hq1 hbad hi1 hi2 hq64 Htk Hs Ht
          by_cases hm : M = -1
          · rw [if_pos hm]
            subst hm
            go_wp2
            all_goals
              first
              | (exfalso; have := HM.out; omega)
              | (go_ret
                 exact ⟨rfl, hbk⟩)
          · rw [if_neg hm]
            have hM0 : 0 ≤ M := by have := HM.out; omega
            have hMf : f q = M := by have := HM.out; omega
            rw [hMf] at hc
            have t2 : decide (M < 0) = false := by simp; omega
            have t3 : decide (M ≥ 0) = true := by simp; omega
            clear HM hMf
            go_wp2
            all_goals
              first
              | (exfalso; omega)
              | (go_ret
                 exact ⟨rfl, hbk⟩)
  · have t : decide ((n : Int) > 60) = true := by simp; omega
    go_wp2
    go_ret
    exact ⟨rfl, hb1⟩
end Go.Proofs.Ytpdmkignihhobaa
