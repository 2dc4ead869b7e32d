/- What is proved here: what the function Run of the package creelref01 comes to. -/
import Derived.Test.YtbaomlmannpnaaaAbB
namespace Go.Proofs.Ytbaomlmannpnaaa
open Go.RowKit
set_option linter.unusedVariables false
set_option linter.unusedSimpArgs false

theorem StR.sub {w : World} {b off n : Nat} {g : Nat → St} (h : StR w (some ⟨b, off, none⟩) n g) (i e : Nat) (he : e ≤ n) : StR w (some ⟨b, off + (i + 1) * 3, none⟩) (e - (i + 1)) (fun j => g (i + 1 + j)) := by
  intro j hj
  obtain ⟨b', off', ha, h0, h1, h2, hl⟩ := h (i + 1 + j) (by omega)
  simp only [Option.some.injEq, Addr.mk.injEq, and_true] at ha
  obtain ⟨rfl, rfl⟩ := ha
  refine ⟨b, off + (i + 1) * 3, rfl, ?_, ?_, ?_, hl⟩
  · rw [show off + (i + 1) * 3 + j * 3 = off + (i + 1 + j) * 3 by omega]; exact h0
  · rw [show off + (i + 1) * 3 + j * 3 = off + (i + 1 + j) * 3 by omega]; exact h1
  · rw [show off + (i + 1) * 3 + j * 3 = off + (i + 1 + j) * 3 by omega]; exact h2

theorem simF_past (g : Nat → St) (n i : Nat) (c : Int) (h : ¬ i < n) : simF g n i c = (c, 0, 0) := by rw [simF, dif_neg h]
theorem simF_k0 (g : Nat → St) (n i : Nat) (c : Int) (h : i < n) (k : (g i).1 = 0) : simF g n i c = simF g n (i + 1) (wrap64 (c + 1)) := by rw [simF, dif_pos h, if_pos k]
theorem simF_k1 (g : Nat → St) (n i : Nat) (c : Int) (h : i < n) (k : (g i).1 = 1) : simF g n i c = (c, (g i).2.1, (g i).2.2) := by rw [simF, dif_pos h, if_neg (by omega), if_pos k]
theorem simF_in (g : Nat → St) (n i : Nat) (c : Int) (h : i < n) (k : (g i).1 = 2 ∨ (g i).1 = 3) : simF g n i c =
    (if (simF (fun j => g (i + 1 + j)) (endF g n 0 (i + 1) - (i + 1)) 0 0).2.1 ≠ 0 ∧ (g i).1 = 3 then (wrap64 (c + (simF (fun j => g (i + 1 + j)) (endF g n 0 (i + 1) - (i + 1)) 0 0).1), (simF (fun j => g (i + 1 + j)) (endF g n 0 (i + 1) - (i + 1)) 0 0).2.1, wrap64 ((simF (fun j => g (i + 1 + j)) (endF g n 0 (i + 1) - (i + 1)) 0 0).2.2 + (g i).2.2))
      else simF g n (endF g n 0 (i + 1) + 1) (if (simF (fun j => g (i + 1 + j)) (endF g n 0 (i + 1) - (i + 1)) 0 0).2.1 ≠ 0 then wrap64 (wrap64 (c + (simF (fun j => g (i + 1 + j)) (endF g n 0 (i + 1) - (i + 1)) 0 0).1) + 1000) else wrap64 (c + (simF (fun j => g (i + 1 + j)) (endF g n 0 (i + 1) - (i + 1)) 0 0).1))) := by
  have h0 : (g i).1 ≠ 0 := by rcases k with k | k <;> omega
  have h1 : (g i).1 ≠ 1 := by rcases k with k | k <;> omega
  rw [simF, dif_pos h, if_neg h0, if_neg h1, if_pos k]
theorem simF_pass (g : Nat → St) (n i : Nat) (c : Int) (h : i < n) (k0 : (g i).1 ≠ 0) (k1 : (g i).1 ≠ 1) (k2 : (g i).1 ≠ 2) (k3 : (g i).1 ≠ 3) : simF g n i c = simF g n (i + 1) c := by
  rw [simF, dif_pos h, if_neg k0, if_neg k1, if_neg (by omega)]

set_option maxHeartbeats 4000000 in
set_option maxRecDepth 100000 in
theorem refRun_any : ∀ (m : Nat) (a : Option Addr) (n cap : Nat) (g : Nat → St) (w : World) (hm : n ≤ m) (hlc : n ≤ cap) (hn : n ≤ 1000000) (hr : StR w a n g),
    Calls Try.prog 10 #[.slice a n cap] w fun e w' => e = .returned (.tuple #[.int .i64 (simF g n 0 0).1, .int .i64 (simF g n 0 0).2.1, .int .i64 (simF g n 0 0).2.2]) ∧ Below w.heap.size w w' := by
  intro m
  induction m with
  | zero =>
    intro a n cap g w hm hlc hn hr
    have hn0 : n = 0 := by omega
    subst hn0
    rw [simF_past _ _ _ _ (by omega)]
    go_enter Try.func10, Try.ntmps10
    go_wp2
    go_loop [5, 6] (fun cv iv => cv = .int .i64 0 ∧ iv = .int .i64 0) (fun _ iv => 0)
    case atStart => exact ⟨rfl, rfl⟩
    case round =>
      obtain ⟨rfl, rfl⟩ := hrel
      go_wp2
      go_ret3
      exact ⟨rfl, Below.refl _ _⟩
  | succ m ih =>
    intro a n cap g w hm hlc hn hr
    obtain ⟨R, hR⟩ : ∃ R, simF g n 0 0 = R := ⟨_, rfl⟩
    rw [hR]
    have HR := hid hR; clear hR
    have Hr := hid hr; clear hr
    have IH := hid ih; clear ih
    go_enter Try.func10, Try.ntmps10
    go_wp2
    go_loopw [5, 6] (fun cv iv wr => ∃ (c : Int) (i : Nat), cv = .int .i64 c ∧ iv = .int .i64 i ∧ Hid (simF g n i c = R) ∧ i ≤ n + 1 ∧ Below w.heap.size w wr) (fun _ iv _ => (2000000 - intOf iv).toNat)
    case atStart => exact ⟨0, 0, rfl, rfl, HR, by omega, Below.refl _ _⟩
    case round =>
      obtain ⟨c, i, rfl, rfl, He, hi, hb⟩ := hrel
      by_cases hin : i < n
      · obtain ⟨b, off, rfl, c0, c1, c2, hbw⟩ := (Hr.out.ext hb) i hin
        by_cases k0 : (g i).1 = 0
        · have e := hid ((simF_k0 g n i c hin k0).symm.trans He.out)
          rw [k0] at c0
          clear k0
          go_wp2
          go_roundw
          case rel => exact ⟨wrap64 (c + 1), i + 1, by go_num, by go_num, e, by omega, hb⟩
          case measure => simp [intOf]; omega
        · by_cases k1 : (g i).1 = 1
          · have e := hid ((simF_k1 g n i c hin k1).symm.trans He.out)
            rw [k1] at c0
            clear k0 k1
            go_wp2
            go_quiet (fail)
            go_wp2
            go_ret3
            exact ⟨by rw [← e.out]; rfl, ⟨hb.os, hb.tape, hb.output, hb.size, hb.block⟩⟩
          · by_cases k2 : (g i).1 = 2 ∨ (g i).1 = 3
            · have e := hid ((simF_in g n i c hin k2).symm.trans He.out)
              obtain ⟨be1, be2⟩ := endF_bounds g n i hin
              have hend := end_any (some ⟨b, off, none⟩) n cap (i + 1) g wr (by omega) hn (Hr.out.ext hb)
              have hrs := hid ((Hr.out.ext hb).sub i (endF g n 0 (i + 1)) be2)
              generalize endF g n 0 (i + 1) = E at *
              have hrun := fun a2 c2 hs hc => IH.out a2 (E - (i + 1)) c2 (fun j => g (i + 1 + j)) wr (by omega) hc (by omega) hs
              generalize simF (fun j => g (i + 1 + j)) (E - (i + 1)) 0 0 = s at *
              push_cast at hend
              have Hend := hid hend; clear hend
              have Hrun := hid hrun; clear hrun
              have hi1 : i + 1 ≤ E := be1
              have hE : E ≤ n := be2
              obtain ⟨sc, sy, st⟩ := s
              dsimp only at e Hrun
              by_cases hy : sy = 0
              · subst hy
                simp only [ne_eq, not_true_eq_false, false_and, if_false] at e
                rcases k2 with k | k
                all_goals
                  rw [k] at c0
                  clear k k0 k1
                  go_wp2_with fail
                  refine Hend.out.mono ?_
                  rintro ev w' ⟨rfl, rfl⟩
                  go_wp2_with fail
                  all_goals
                    refine (Hrun.out _ _ (by first | exact hrs.out | (intro j hj; exact absurd hj (by omega))) (by omega)).mono ?_
                    rintro ev w2 ⟨rfl, hb2⟩
                    try subst h
                    have d0 := (hb2.cell (p := ⟨b, off + i * 3, none⟩) hbw).trans c0
                    go_wp2
                    go_roundw
                    case rel => exact ⟨wrap64 (c + sc), E + 1, rfl, by go_num, e, by omega, hb.trans (hb2.mono hb.size)⟩
                    case measure => simp [intOf]; omega
              · have t : (sy != 0) = true := by simp [hy]
                rcases k2 with k | k
                · rw [k] at c0 e
                  simp only [ne_eq, hy, not_false_eq_true, true_and, if_true, reduceIte] at e
                  simp only [Int.reduceEq, if_false] at e
                  clear k k0 k1 hy
                  go_wp2_with fail
                  refine Hend.out.mono ?_
                  rintro ev w' ⟨rfl, rfl⟩
                  go_wp2_with fail
                  all_goals
                    refine (Hrun.out _ _ (by first | exact hrs.out | (intro j hj; exact absurd hj (by omega))) (by omega)).mono ?_
                    rintro ev w2 ⟨rfl, hb2⟩
                    try subst h
                    have d0 := (hb2.cell (p := ⟨b, off + i * 3, none⟩) hbw).trans c0
                    go_wp2
                    go_roundw
                    case rel => exact ⟨wrap64 (wrap64 (c + sc) + 1000), E + 1, rfl, by go_num, e, by omega, hb.trans (hb2.mono hb.size)⟩
                    case measure => simp [intOf]; omega
                · rw [k] at c0 e
                  simp only [ne_eq, hy, not_false_eq_true, true_and, if_true, reduceIte] at e
                  clear k k0 k1 hy
                  go_wp2_with fail
                  refine Hend.out.mono ?_
                  rintro ev w' ⟨rfl, rfl⟩
                  go_wp2_with fail
                  all_goals
                    refine (Hrun.out _ _ (by first | exact hrs.out | (intro j hj; exact absurd hj (by omega))) (by omega)).mono ?_
                    rintro ev w2 ⟨rfl, hb2⟩
                    try subst h
                    have d0 := (hb2.cell (p := ⟨b, off + i * 3, none⟩) hbw).trans c0
                    have d2 := (hb2.cell (p := ⟨b, off + i * 3 + 2, none⟩) hbw).trans c2
                    go_wp2
                    go_quiet (fail)
                    go_wp2
                    go_ret3
                    have hb3 := hb.trans (hb2.mono hb.size)
                    exact ⟨by rw [← e.out]; rfl, ⟨hb3.os, hb3.tape, hb3.output, hb3.size, hb3.block⟩⟩
            · have e := hid ((simF_pass g n i c hin k0 k1 (fun h => k2 (Or.inl h)) (fun h => k2 (Or.inr h))).symm.trans He.out)
              have t0 : ((g i).1 == 0) = false := by simp; exact k0
              have t1 : ((g i).1 == 1) = false := by simp; exact k1
              have t2 : ((g i).1 == 2) = false := by simp; exact fun h => k2 (Or.inl h)
              have t3 : ((g i).1 == 3) = false := by simp; exact fun h => k2 (Or.inr h)
              clear k0 k1 k2
              go_wp2
              go_roundw
              case rel => exact ⟨c, i + 1, rfl, by go_num, e, by omega, hb⟩
              case measure => simp [intOf]; omega
      · have e := hid ((simF_past g n i c hin).symm.trans He.out)
        have t : decide ((i : Int) < n) = false := by simp; omega
        go_wp2
        go_ret3
        exact ⟨by rw [← e.out]; rfl, hb⟩
end Go.Proofs.Ytbaomlmannpnaaa
