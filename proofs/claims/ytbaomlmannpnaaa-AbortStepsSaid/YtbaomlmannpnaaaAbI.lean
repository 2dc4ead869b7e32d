/- What is proved here: the law AbortSteps, walked. -/
import Derived.Test.YtbaomlmannpnaaaAbH
namespace Go.Proofs.Ytbaomlmannpnaaa
open Go.RowKit
set_option linter.unusedVariables false
set_option linter.unusedSimpArgs false

set_option maxHeartbeats 4000000 in
set_option maxRecDepth 100000 in
theorem steps_any (a : Option Addr) (n cap : Nat) (g : Nat → St) (w : World) (hlc : n ≤ cap) (hr : StR w a n g) :
    Calls Try.prog 4 #[.slice a n cap] w fun e w' => e = .returned (.bool true) ∧ Below w.heap.size w w' := by
  have hmf : ∀ (fn : Fn) (first cap : Array Value) (w : World), (Instr.makeFunc fn first cap).run Try.prog w = .ok (.func fn first cap) w := fun _ _ _ _ => rfl
  have Hr := hid hr; clear hr
  go_enter Try.func4, Try.ntmps4
  go_wp2_with fail
  refine (awake_any _).mono ?_
  rintro ev w1 ⟨rfl, hb1⟩
  by_cases hn : n ≤ 40
  · have t : decide ((n : Int) > 40) = false := by simp; omega
    go_wp2_with fail
    refine (plain_any a n cap g w1 hlc (by omega) (Hr.out.ext hb1)).mono ?_
    rintro ev w2 ⟨a', c', rfl, hc', hr2, ha', hb2⟩
    go_wp2_with fail
    have hb3 : Below w2.heap.size w2 (w2.alloc (.cells #[.slice a' n c'] 24)) := (Below.refl _ _).alloc (Nat.le_refl _) _
    refine (refRun_any n a' n c' (plF g) _ (Nat.le_refl _) hc' (by omega) (hr2.ext hb3)).mono ?_
    rintro ev w3 ⟨rfl, hb4⟩
    go_wp2_with fail
    have hsl3 : w3.cell? ⟨w2.heap.size, 0, none⟩ = some (.slice a' n c') := (hb4.cell (p := ⟨w2.heap.size, 0, none⟩) (by simp)).trans (cell_of_row _ _ 0 _ _ _ (heap_alloc_last _ _))
    have hs32 : w2.heap.size < w3.heap.size := by have := hb4.size; simp at this; omega
    have hr3 : StR w3 a' n (plF g) := (hr2.ext hb3).ext hb4
    have hb13 : Below w1.heap.size w1 w3 := (hb2.trans (hb3.mono hb2.size)).trans (hb4.mono (by have := hb2.size; simp; omega))
    have hw12 := hb2.size
    have hb1s := hb1.size
    obtain ⟨W, hW, hszW, hbW, b0, b1⟩ := allocs2 w3 #[.int .i64 0] #[.int .i64 0] 3 3
    rw [← hW]; clear hW
    have hne : ∀ j, j < n → (plF g j).2.1 ≠ 0 := fun j _ => plF_ne g j
    have hs0 : (simF (plF g) n 0 0).2.1 = 0 → (simF (plF g) n 0 0).2.2 = 0 := fun h => simF_zero (plF g) n n 0 0 (by omega) h hne
    have hruns : ∀ q w2', q < w2'.heap.size → (∀ x, a' = some x → x.block ≠ q ∧ x.block < w2'.heap.size) → StR w2' a' n (plF g) → NC q w2' 0 → Calls Try.prog 14 #[.slice a' n c', .pointer (some ⟨q, 0, none⟩)] w2' (RunPost q w2' (simF (plF g) n 0 0)) :=
      fun q w2' hq hx hst hnc => run_any n a' n c' (plF g) w2' q 0 (Nat.le_refl _) hc' (by omega) hst hx hne hnc (by unfold wrap64; omega)
    obtain ⟨S, hS⟩ : ∃ S, S = simF (plF g) n 0 0 := ⟨_, rfl⟩
    rw [← hS] at hruns hs0 ⊢
    have HS := hid hS; clear hS
    have Hruns := hid hruns; clear hruns
    have ncn : NC w3.heap.size W 0 := ⟨cell_of_row W _ 0 _ _ _ b0, frozen_of_row W _ 0 _ _ b0, by omega⟩
    have ncm : NC (w3.heap.size + 1) W 0 := ⟨cell_of_row W _ 0 _ _ _ b1, frozen_of_row W _ 0 _ _ b1, by omega⟩
    have hslW : W.cell? ⟨w2.heap.size, 0, none⟩ = some (.slice a' n c') := (hbW.cell (p := ⟨w2.heap.size, 0, none⟩) hs32).trans hsl3
    have hbz : Below W.heap.size W (W.alloc (.cells zstop 27)) := (Below.refl _ _).alloc (Nat.le_refl _) _
    refine (out_cnt _ _ W w3.heap.size S (by omega) hs0 enter16 (in16 w2.heap.size (.slice a' n c') _ _ S ((hbz.cell (p := ⟨w2.heap.size, 0, none⟩) (Nat.lt_trans hs32 (by omega))).trans hslW)
      (Hruns.out _ _ (by simp; omega) (fun x hx => by have := ha' x hx; simp; omega) ((hr3.ext hbW).ext hbz) (ncn.ext hbz)))).mono ?_
    rintro ev w4 ⟨rfl, hr4, hn4⟩
    have lt2 : w2.heap.size < W.heap.size := by omega
    have ne2 : w2.heap.size ≠ w3.heap.size := by omega
    have lt3 : w3.heap.size + 1 < W.heap.size := by omega
    have ne3 : w3.heap.size + 1 ≠ w3.heap.size := by omega
    have hsl4 := (hr4.cell (p := ⟨w2.heap.size, 0, none⟩) lt2 ne2).trans hslW
    have ncm4 : NC (w3.heap.size + 1) w4 0 := ⟨(hr4.cell (p := ⟨w3.heap.size + 1, 0, none⟩) lt3 ne3).trans ncm.cell, (hr4.frozen (p := ⟨w3.heap.size + 1, 0, none⟩) lt3 ne3).trans ncm.loose, by have := hr4.size; omega⟩
    have hs4 := hr4.size
    have hr4' : StR w4 a' n (plF g) := (hr3.ext hbW).ran hr4 (fun x hx => by have := ha' x hx; omega)
    have hb14 : Below w1.heap.size w1 w4 := (hb13.trans (hbW.mono hb13.size)).trans ((hr4.mono (show w1.heap.size ≤ W.heap.size by omega)).below (by omega))
    obtain ⟨hcn, hln, hhn⟩ := hn4
    obtain ⟨x1, y1, t1⟩ := S
    dsimp only at hcn ⊢
    go_wp2_with fail
    obtain ⟨X, hX, hszX, hbX, d0⟩ := allocs1 w4 #[.int .i64 y1, .int .i64 t1] 27
    rw [← hX]; clear hX
    have hnX : NC w3.heap.size X x1 := NC.ext ⟨hcn, hln, hhn⟩ hbX
    have hs0' := hid hs0; clear hs0
    refine (value_any _ _ X (w3.heap.size + 1) (x1, y1, t1) (by omega) hs0'.out enter18 (fun w2' hb2' => in18 w2.heap.size (.slice a' n c') w2' _ _ ((hb2'.cell (p := ⟨w2.heap.size, 0, none⟩) (show w2.heap.size < X.heap.size by omega)).trans ((hbX.cell (p := ⟨w2.heap.size, 0, none⟩) (show w2.heap.size < w4.heap.size by omega)).trans hsl4))
      (Hruns.out _ _ (by have := hb2'.size; omega) (fun x hx => by have := ha' x hx; have := hb2'.size; omega) ((hr4'.ext hbX).ext hb2') ((ncm4.ext hbX).ext hb2')))).mono ?_
    rintro ev w6 ⟨rfl, hr6, hn6⟩
    have lt5 : w4.heap.size < X.heap.size := by omega
    have ne5 : w4.heap.size ≠ w3.heap.size + 1 := by omega
    have lt6 : w3.heap.size < X.heap.size := by omega
    have ne6 : w3.heap.size ≠ w3.heap.size + 1 := by omega
    have f0 : w6.cell? ⟨w4.heap.size, 0, none⟩ = some (.int .i64 y1) := (hr6.cell (p := ⟨w4.heap.size, 0, none⟩) lt5 ne5).trans (cell_of_row X _ 0 _ _ _ d0)
    have f1 : w6.cell? ⟨w4.heap.size, 1, none⟩ = some (.int .i64 t1) := (hr6.cell (p := ⟨w4.heap.size, 1, none⟩) lt5 ne5).trans (cell_of_row X _ 1 _ _ _ d0)
    have f2 : w6.cell? ⟨w3.heap.size, 0, none⟩ = some (.int .i64 x1) := (hr6.cell (p := ⟨w3.heap.size, 0, none⟩) lt6 ne6).trans hnX.cell
    have hb16 : Below w1.heap.size w1 w6 := (hb14.trans (hbX.mono hb14.size)).trans ((hr6.mono (show w1.heap.size ≤ X.heap.size by omega)).below (by omega))
    have lt7 : w4.heap.size < w6.heap.size := Nat.lt_of_lt_of_le lt5 hr6.size
    have lt8 : w3.heap.size < w6.heap.size := Nat.lt_of_lt_of_le lt6 hr6.size
    clear hr6 hn6 hnX d0 hbX hszX hr4' ncm4 hsl4 hr4 hslW ncm ncn b0 b1 hbW hszW hb14 hb13 hr3 hr2 hsl3 hb4 hb3 hs32 hbz hne
    by_cases hy : y1 = 0
    · have ht := hs0'.out hy
      subst hy ht
      go_wp2
      go_ret
      exact ⟨rfl, hb1.trans ((hb16.alloc (by omega) _).mono hb1s)⟩
    · have hy1 : (y1 != 0) = true := by simp [hy]
      have hy2 : (y1 == 0) = false := by simp [hy]
      go_wp2
      go_ret
      exact ⟨rfl, hb1.trans ((hb16.alloc (by omega) _).mono hb1s)⟩
  · have t : decide ((n : Int) > 40) = true := by simp; omega
    go_wp2
    go_ret
    exact ⟨rfl, hb1⟩
end Go.Proofs.Ytbaomlmannpnaaa
