/- What is proved here: what the document's functions for a number with a sign, and for the most bytes, come to. -/
import Derived.Test.YtbaomlmannpnaaaLebC
namespace Go.Proofs.Ytbaomlmannpnaaa
open Go.RowKit
set_option linter.unusedVariables false
set_option linter.unusedSimpArgs false

set_option maxHeartbeats 1000000 in
set_option maxRecDepth 100000 in
theorem refInt_any (v : Int) (u : Nat) (huv : IntKind.u64.wrap v = u) (hu : u < 2 ^ 64) (w : World) :
    Calls Try.prog 30 #[.int .i64 v] w (RefPost w (moS (bitAt u)) (fun n => grpL (bitOf (bitsL u 64) (bitAt u 63)) n n)) := by
  have Huv := hid huv; clear huv
  go_enter Try.func30, Try.ntmps30
  go_wp2_with fail
  rw [Huv.out]
  refine (bits_any u hu _).mono ?_
  rintro e w1 ⟨s, rfl, hown, hb⟩
  obtain ⟨g, cap, rfl, hbg, hgw, hcap, hcell⟩ := ownsRow_some hown (by decide)
  have Hc : Hid (∀ j, j < 64 → w1.cell? ⟨g, j, none⟩ = some (.bool (bitAt u j))) := fun j hj => (hcell j hj).trans (bits_cell u j hj)
  clear hcell hown hu
  go_wp2_with fail
  go_loopw [4] (fun i wr => ∃ n : Nat, i = .int .i64 n ∧ 1 ≤ n ∧ n ≤ 10 ∧ Hid (∀ k, 1 ≤ k → k < n → moS (bitAt u) k = true) ∧ Below w1.heap.size w1 wr) (fun i _ => 10 - (intOf i).toNat)
  case atStart => exact ⟨1, rfl, by omega, by omega, fun k h1 h2 => by omega, Below.refl _ _⟩
  case round =>
    obtain ⟨n, rfl, h1, h2, Hk, hb1⟩ := hrel
    obtain ⟨wo, rfl⟩ : ∃ wo : World, wo = wr := ⟨_, rfl⟩
    by_cases hn : n < 10
    · obtain ⟨s, hs1, hs2⟩ : ∃ s, s + 1 ≤ 7 * n ∧ 7 * n ≤ s + 1 := ⟨7 * n - 1, by omega, by omega⟩
      go_wp2
      go_loopw [5, 6] (fun mo i wr => ∃ m : Nat, s + m ≤ 64 ∧ i = .int .i64 (s + m : Nat) ∧ mo = .bool (anyFrom (fun j => bitAt u j != bitAt u 63) s m) ∧ Below w1.heap.size w1 wr) (fun _ i _ => 64 - (intOf i).toNat)
      case atStart => exact ⟨0, by omega, congrArg (Value.int .i64) (by omega), rfl, hb1⟩
      case round =>
        obtain ⟨m, hm, rfl, rfl, hb2⟩ := hrel
        by_cases hlt : s + m < 64
        · have hc := (hb2.cell (p := ⟨g, s + m, none⟩) hgw).trans (Hc.out (s + m) hlt)
          have hc63 := (hb2.cell (p := ⟨g, 63, none⟩) hgw).trans (Hc.out 63 (by decide))
          have e : anyFrom (fun j => bitAt u j != bitAt u 63) s (m + 1) = (anyFrom (fun j => bitAt u j != bitAt u 63) s m || (bitAt u (s + m) != bitAt u 63)) := rfl
          have He := hid e; clear e
          generalize hA : anyFrom (fun j => bitAt u j != bitAt u 63) s m = A at *
          clear hA
          generalize bitAt u (s + m) = x at *
          generalize bitAt u 63 = y at *
          have i1 : (0 : Int) ≤ (s : Int) + m := by omega
          have i2 : (s : Int) + m < 64 := by omega
          cases A <;> cases x <;> cases y
          all_goals
            go_wp2
            go_quiet (fail)
            go_wp2
            go_roundw
            case rel => exact ⟨m + 1, by omega, by go_num, by rw [He.out]; rfl, ⟨hb2.os, hb2.tape, hb2.output, hb2.size, hb2.block⟩⟩
            case measure => simp [intOf]; omega
        · have hmn : 65 - 7 * n = m := by omega
          have hsn : 7 * n - 1 = s := by omega
          have e : moS (bitAt u) n = anyFrom (fun j => bitAt u j != bitAt u 63) s m := by unfold moS; rw [hmn, hsn]
          have He := hid e; clear e hmn hsn
          have hc63 := (hb2.cell (p := ⟨g, 63, none⟩) hgw).trans (Hc.out 63 (by decide))
          generalize anyFrom (fun j => bitAt u j != bitAt u 63) s m = A at *
          cases A
          · go_wp2_with fail
            refine (group_any g 0 cap (bitsL u 64) n (bitAt u 63) _ (by omega) (by simp [bitsL]) (by have := hb2.size; omega) (fun j hj => ?_)).mono ?_
            · have hj' : j < 64 := by simpa [bitsL] using hj
              rw [Nat.zero_add, hb2.cell (p := ⟨g, j, none⟩) hgw, Hc.out j hj']
              simp [bitsL, hj']
            · rintro e w2 ⟨s, rfl, hown, hb3⟩
              go_wp2
              go_ret
              have hz1 := hb.size
              have hz2 := hb2.size
              exact ⟨s, n, rfl, ⟨h1, h2, fun _ => He.out, Hk.out⟩, ownsRow_mono hown (by omega), hb.trans ((hb2.mono hz1).trans (hb3.mono (by omega)))⟩
          · go_wp2
            go_roundw
            case rel => exact ⟨n + 1, by go_num, by omega, by omega, fun k h1 h2 => if h : k = n then h ▸ He.out else Hk.out k h1 (by omega), hb2⟩
            case measure => simp [intOf]; omega
    · obtain rfl : n = 10 := by omega
      have hc63 := (hb1.cell (p := ⟨g, 63, none⟩) hgw).trans (Hc.out 63 (by decide))
      go_wp2_with fail
      refine (group_any g 0 cap (bitsL u 64) 10 (bitAt u 63) _ (by omega) (by simp [bitsL]) (by have := hb1.size; omega) (fun j hj => ?_)).mono ?_
      · have hj' : j < 64 := by simpa [bitsL] using hj
        rw [Nat.zero_add, hb1.cell (p := ⟨g, j, none⟩) hgw, Hc.out j hj']
        simp [bitsL, hj']
      · rintro e w2 ⟨s, rfl, hown, hb3⟩
        go_wp2
        go_ret
        have hz1 := hb.size
        have hz2 := hb1.size
        exact ⟨s, 10, rfl, ⟨h1, h2, fun h => by omega, Hk.out⟩, ownsRow_mono hown (by omega), hb.trans ((hb1.mono hz1).trans (hb3.mono (by omega)))⟩

set_option maxHeartbeats 400000 in
set_option maxRecDepth 100000 in
theorem refMost_any (n : Int) (w : World) : Calls Try.prog 33 #[.int .i64 n] w fun e w' => e = .returned (.int .i64 (mostN n)) ∧ w = w' := by
  by_cases hb1 : 1 ≤ n
  · by_cases hb2 : n ≤ 64
    · have hm : mostN n = (n + 6) / 7 := by simp [mostN, rightB, hb1, hb2]
      have Hm := hid hm; clear hm
      go_enter Try.func33, Try.ntmps33
      go_wp2
      go_loop [3] (fun x => ∃ k : Nat, x = .int .i64 k ∧ (k : Int) * 7 ≤ n + 6) (fun x => (10 - intOf x).toNat)
      case atStart => exact ⟨0, rfl, by omega⟩
      case round =>
        obtain ⟨k, rfl, hk⟩ := hrel
        by_cases hlt : 7 * (k : Int) < n
        · go_wp2
          go_round
          case rel => exact ⟨k + 1, by go_num, by omega⟩
          case measure => simp [intOf]; omega
        · go_wp2
          go_ret
          refine ⟨?_, rfl⟩
          rw [Hm.out, show (n + 6) / 7 = (k : Int) from by omega]
          rfl
    · have hm : mostN n = 0 := by simp [mostN, rightB, hb1, hb2]
      have Hm := hid hm; clear hm
      have hb2' : 64 < n := by omega
      go_enter Try.func33, Try.ntmps33
      go_wp2
      refine wp_loop_rounds 1 ?_
      rw [rounds_succ]
      go_wp2
      go_ret
      exact ⟨by rw [Hm.out]; rfl, rfl⟩
  · have hm : mostN n = 0 := by simp [mostN, rightB, hb1]
    have Hm := hid hm; clear hm
    have hb2' : n < 1 := by omega
    go_enter Try.func33, Try.ntmps33
    go_wp2
    refine wp_loop_rounds 1 ?_
    rw [rounds_succ]
    go_wp2
    go_ret
    exact ⟨by rw [Hm.out]; rfl, rfl⟩
end Go.Proofs.Ytbaomlmannpnaaa
