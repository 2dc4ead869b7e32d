/- What is proved here: the law AbortEach, walked. -/
import Derived.Test.YtbaomlmannpnaaaAbM
namespace Go.Proofs.Ytbaomlmannpnaaa
open Go.RowKit
set_option linter.unusedVariables false
set_option linter.unusedSimpArgs false

abbrev RowG := Nat → Option Addr × Nat × Nat × (Nat → St)

/-- Rows of steps. -/
def RowsR (w : World) (a : Option Addr) (m : Nat) (G : RowG) : Prop := ∀ i, i < m → ∃ b off, a = some ⟨b, off, none⟩ ∧ b < w.heap.size ∧ w.cell? ⟨b, off + i, none⟩ = some (.slice (G i).1 (G i).2.1 (G i).2.2.1) ∧ (G i).2.1 ≤ (G i).2.2.1 ∧ StR w (G i).1 (G i).2.1 (G i).2.2.2

theorem RowsR.ext {w w' : World} {a : Option Addr} {m : Nat} {G : RowG} (h : RowsR w a m G) (hb : Below w.heap.size w w') : RowsR w' a m G := by
  intro i hi
  obtain ⟨b, off, h1, h2, h3, h4, h5⟩ := h i hi
  exact ⟨b, off, h1, Nat.lt_of_lt_of_le h2 hb.size, (hb.cell (p := ⟨b, off + i, none⟩) h2).trans h3, h4, h5.ext hb⟩

/-- What one row comes to. -/
def rowS (m : Nat) (G : RowG) (i : Nat) (c : Int) : Int × Int × Int := if i < m then simF (plF (G i).2.2.2) (G i).2.1 0 c else (c, 0, 0)

theorem rowS_in (m : Nat) (G : RowG) (i : Nat) (c : Int) (h : i < m) : rowS m G i c = simF (plF (G i).2.2.2) (G i).2.1 0 c := if_pos h
theorem rowS_out (m : Nat) (G : RowG) (i : Nat) (c : Int) (h : ¬ i < m) : rowS m G i c = (c, 0, 0) := if_neg h

theorem rowS_zero (m : Nat) (G : RowG) (i : Nat) (c : Int) : (rowS m G i c).2.1 = 0 → (rowS m G i c).2.2 = 0 := by
  unfold rowS; split
  · intro h; exact simF_zero _ _ _ 0 c (Nat.le_refl _) h (fun j _ => plF_ne _ j)
  · intro _; rfl

theorem rowS_wrap (m : Nat) (G : RowG) (i : Nat) (c : Int) (hc : wrap64 c = c) : wrap64 (rowS m G i c).1 = (rowS m G i c).1 := by
  unfold rowS; split
  · have := (simF_shift (plF (G i).2.2.2) (G i).2.1 _ 0 c (Nat.le_refl _) hc).1
    rw [this]; unfold wrap64; omega
  · exact hc

theorem rowS_shift (m : Nat) (G : RowG) (i : Nat) (c : Int) (hc : wrap64 c = c) (h : i < m) : rowS m G i c = (wrap64 (c + (simF (plF (G i).2.2.2) (G i).2.1 0 0).1), (simF (plF (G i).2.2.2) (G i).2.1 0 0).2.1, (simF (plF (G i).2.2.2) (G i).2.1 0 0).2.2) := by
  rw [rowS_in _ _ _ _ h]
  obtain ⟨h1, h2⟩ := simF_shift (plF (G i).2.2.2) (G i).2.1 _ 0 c (Nat.le_refl _) hc
  rw [← h1, ← h2]

theorem eachF_out (N m : Nat) (G : RowG) : ∀ (d i : Nat) (c : Int), N - i ≤ d → m ≤ i → eachF N (rowS m G) i c = ((N : Int), 0, 0, c) := by
  intro d
  induction d with
  | zero => intro i c hd hm; exact eachF_past _ _ _ _ (by omega)
  | succ d ih =>
    intro i c hd hm
    by_cases hi : i < N
    · rw [eachF_go _ _ _ _ hi (by rw [rowS_out _ _ _ _ (by omega)]), rowS_out _ _ _ _ (by omega)]
      exact ih (i + 1) c (by omega) (by omega)
    · exact eachF_past _ _ _ _ hi

theorem enter13 (args : Array Value) (w : World) : (callFunc 13 args).run Try.prog w = .ok (.enter 13 args) w := enterOf Try.func13 (by kernel_rfl) rfl args w

set_option maxRecDepth 100000 in
theorem in13 (x q : Nat) (a : Option Addr) (m cap : Nat) (G : RowG) (i : Nat) (c : Int) (w : World) (h0 : w.cell? ⟨x, 0, none⟩ = some (.slice a m cap)) (hmc : m ≤ 1000000) (hrr : RowsR w a m G) (hlen : ∀ j, j < m → (G j).2.1 ≤ 1000000) (hcw : wrap64 c = c) (hnc : NC q w c) :
    Calls Try.prog 13 (#[.int .i64 i] ++ #[.pointer (some ⟨x, 0, none⟩), .pointer (some ⟨q, 0, none⟩)]) w (RunPost q w (rowS m G i c)) := by
  change Calls Try.prog 13 #[.int .i64 i, .pointer (some ⟨x, 0, none⟩), .pointer (some ⟨q, 0, none⟩)] w (RunPost q w (rowS m G i c))
  by_cases him : i < m
  · obtain ⟨b, off, rfl, hbw, hcell, hlc, hst⟩ := hrr i him
    rw [rowS_in _ _ _ _ him]
    have hgn := hlen i him
    have Hst := hid hst; clear hst
    have Hnc := hid hnc; clear hnc
    have Hcw := hid hcw; clear hcw
    clear hrr hlen
    generalize hra : (G i).1 = ra at hcell Hst
    generalize hrn : (G i).2.1 = rn at hcell hlc hgn Hst ⊢
    generalize hrc : (G i).2.2.1 = rc at hcell hlc
    generalize hrg : (G i).2.2.2 = rg at Hst ⊢
    clear hra hrn hrc hrg
    have hne : ∀ j, j < rn → (plF rg j).2.1 ≠ 0 := fun j _ => plF_ne rg j
    have Hne := hid hne; clear hne
    obtain ⟨r, hre⟩ : ∃ r, simF (plF rg) rn 0 c = r := ⟨_, rfl⟩
    rw [hre]
    have Hre := hid hre; clear hre
    go_enter Try.func13, Try.ntmps13
    go_wp2_with fail
    refine (plain_any ra rn rc rg w hlc hgn Hst.out).mono ?_
    rintro ev w2 ⟨a', c', rfl, hc', hr2, ha', hb2⟩
    go_wp2_with fail
    refine (run_any rn a' rn c' (plF rg) w2 q c (Nat.le_refl _) hc' hgn hr2 (fun x hx => by have := ha' x hx; have := Hnc.out.here; omega) Hne.out (Hnc.out.ext hb2) Hcw.out).mono ?_
    rintro ev w3 ⟨rfl, hr3, hn3⟩
    rw [Hre.out] at hn3 ⊢
    have hr0 : Ran q w.heap.size w w3 := (Ran.of q hb2).trans (hr3.mono hb2.size)
    by_cases hz : r.2.1 = 0
    · have e : endOf r.2 = .returned (.tuple #[]) := if_pos hz
      rw [e]
      go_wp2
      go_end0
      exact ⟨e.symm, hr0, hn3⟩
    · have e : endOf r.2 = .panicked [{ v := stopV r.2.1 r.2.2, recovered := false }] := if_neg hz
      rw [e]
      exact ⟨rfl, e.symm, hr0, hn3⟩
  · rw [rowS_out _ _ _ _ him]
    have tt : decide ((i : Int) < m) = false := by simp; omega
    obtain ⟨hcell, hloose, hhere⟩ := hnc
    clear hrr hlen
    have Hcw := hid hcw; clear hcw
    go_enter Try.func13, Try.ntmps13
    go_wp2
    go_end0
    exact ⟨rfl, Ran.refl _ _ _, ⟨hcell, hloose, hhere⟩⟩

set_option maxHeartbeats 4000000 in
set_option maxRecDepth 100000 in
theorem each_law (a : Option Addr) (m cap : Nat) (G : RowG) (n : Int) (w : World) (hn2 : -9223372036854775808 ≤ n) (hmc : m ≤ cap) (hrr : RowsR w a m G) :
    Calls Try.prog 3 #[.slice a m cap, .int .i64 n] w fun e w' => e = .returned (.bool true) ∧ Below w.heap.size w w' := by
  have hmf : ∀ (fn : Fn) (first cap : Array Value) (w : World), (Instr.makeFunc fn first cap).run Try.prog w = .ok (.func fn first cap) w := fun _ _ _ _ => rfl
  have Hr := hid hrr; clear hrr
  go_enter Try.func3, Try.ntmps3
  go_wp2_with fail
  obtain ⟨w0, hw0, hsz0, hb0, b4⟩ := allocs1 w #[.slice a m cap] 22
  rw [← hw0]; clear hw0
  refine (awake_any _).mono ?_
  rintro ev w1 ⟨rfl, hb1'⟩
  have hb1 : Below w.heap.size w w1 := hb0.trans (hb1'.mono (by omega))
  have hb1s' := hb1'.size
  have k4 : w1.cell? ⟨w.heap.size, 0, none⟩ = some (.slice a m cap) := (hb1'.cell (p := ⟨w.heap.size, 0, none⟩) (show w.heap.size < w0.heap.size by omega)).trans (cell_of_row _ _ 0 _ _ _ b4)
  clear b4 hb1'
  by_cases hm : m ≤ 20
  · have t : decide ((m : Int) > 20) = false := by simp; omega
    by_cases hn : n ≤ 20
    · have t2 : decide (n > 20) = false := by simp; omega
      go_wp2_with fail
      go_loopw [5] (fun iv wr => ∃ i : Nat, iv = .int .i64 i ∧ i ≤ m ∧ Hid (∀ j, j < i → (G j).2.1 ≤ 30) ∧ w1 = wr) (fun iv _ => m - (intOf iv).toNat)
      case atStart => exact ⟨0, rfl, Nat.zero_le _, fun j hj => absurd hj (by omega), rfl⟩
      case round =>
        obtain ⟨i, rfl, hi, Hl, rfl⟩ := hrel
        by_cases him : i < m
        · obtain ⟨b, off, rfl, hbw, hcell', hlc, hst⟩ := Hr.out i him
          have hcell := (hb1.cell (p := ⟨b, off + i, none⟩) hbw).trans hcell'
          clear hst
          by_cases h30 : (G i).2.1 ≤ 30
          · have t3 : decide (((G i).2.1 : Int) > 30) = false := by simp; omega
            go_wp2
            go_roundw
            case rel => exact ⟨i + 1, by go_num, by omega, fun j hj => (by
              by_cases hji : j = i
              · subst hji; exact h30
              · exact Hl.out j (by omega)), trivial⟩
            case measure => simp [intOf]; omega
          · have t3 : decide (((G i).2.1 : Int) > 30) = true := by simp; omega
            go_wp2
            go_ret
            exact ⟨rfl, hb1⟩
        · obtain rfl : i = m := by omega
          have hlen : ∀ j, j < i → (G j).2.1 ≤ 1000000 := fun j hj => Nat.le_trans (Hl.out j hj) (by omega)
          have Hlen := hid hlen; clear hlen
          obtain ⟨N, hN⟩ : ∃ N : Nat, n.toNat = N := ⟨_, rfl⟩
          obtain ⟨E, hE⟩ : ∃ E, eachF N (rowS i G) 0 0 = E := ⟨_, rfl⟩
          have HE := hid hE; clear hE
          have hbs := hb1.size
          go_wp2
          all_goals
            obtain ⟨W, hW, hszW, hbW, b0, b1⟩ := allocs2 w1 #[.int .i64 0] #[.int .i64 0, .int .i64 0] 3 27
            rw [← hW]; clear hW
            have c0 : W.cell? ⟨w1.heap.size, 0, none⟩ = some (.int .i64 0) := cell_of_row W _ 0 _ _ _ b0
            have z0 := frozen_of_row W _ 0 _ _ b0
            have c1 : W.cell? ⟨w1.heap.size + 1, 0, none⟩ = some (.int .i64 0) := cell_of_row W _ 0 _ _ _ b1
            have c2 : W.cell? ⟨w1.heap.size + 1, 1, none⟩ = some (.int .i64 0) := cell_of_row W _ 1 _ _ _ b1
            have z1 := frozen_of_row W _ 0 _ _ b1
            have z2 := frozen_of_row W _ 1 _ _ b1
            clear b0 b1
            have k4W : W.cell? ⟨w.heap.size, 0, none⟩ = some (.slice a i cap) := (hbW.cell (p := ⟨w.heap.size, 0, none⟩) (show w.heap.size < w1.heap.size by omega)).trans k4
            have HrW := hid ((Hr.out.ext hb1).ext hbW)
            go_loopw [7, 9, 10] (fun wantv whv iv x => ∃ (k : Nat) (want wh y tt : Int), wantv = .int .i64 want ∧ whv = .int .i64 wh ∧ iv = .int .i64 k ∧ k ≤ i ∧ k ≤ N ∧ Below (w1.heap.size + 1) W x ∧ x.cell? ⟨w1.heap.size + 1, 0, none⟩ = some (.int .i64 y) ∧ x.cell? ⟨w1.heap.size + 1, 1, none⟩ = some (.int .i64 tt) ∧
              x.frozen? ⟨w1.heap.size + 1, 0, none⟩ = false ∧ x.frozen? ⟨w1.heap.size + 1, 1, none⟩ = false ∧ w1.heap.size + 1 < x.heap.size ∧ Hid (wrap64 want = want) ∧ Hid (y = 0 → tt = 0 ∧ wh = N ∧ eachF N (rowS i G) k want = E) ∧ Hid (y ≠ 0 → (wh, y, tt, want) = E)) (fun _ _ iv _ => N - (intOf iv).toNat)
            case atStart => exact ⟨0, 0, _, 0, 0, rfl, rfl, rfl, Nat.zero_le _, Nat.zero_le _, Below.refl _ _, c1, c2, z1, z2, by omega, by simp [Hid, wrap64], fun _ => ⟨rfl, by omega, HE.out⟩, fun h => absurd rfl h⟩
            case round =>
              obtain ⟨k, want, wh, y, tt, rfl, rfl, rfl, hki, hkN, hbx, e1, e2, y1, y2, hsx, Hww, Hy0, Hy1⟩ := hrel
              have k4x : wr.cell? ⟨w.heap.size, 0, none⟩ = some (.slice a i cap) := (hbx.cell (p := ⟨w.heap.size, 0, none⟩) (show w.heap.size < w1.heap.size + 1 by omega)).trans k4W
              by_cases hgo : y = 0 ∧ k < N ∧ k < i
              · first
                | (exfalso; omega)
                | (obtain ⟨rfl, hkN', hki'⟩ := hgo
                   obtain ⟨rfl, rfl, hE'⟩ := Hy0.out rfl
                   have HE' := hid hE'; clear hE'
                   clear Hy0 Hy1
                   have tn : decide ((k : Int) < n) = true := by simp; omega
                   have ti : decide ((k : Int) < i) = true := by simp; omega
                   have hbww : Below w.heap.size w wr := (hb1.trans (hbW.mono hbs)).trans (hbx.mono (by omega))
                   obtain ⟨b, off, rfl, hbw, hcell, hlc, hst⟩ := (Hr.out.ext hbww) k hki'
                   have hgn := Hlen.out k hki'
                   have Hst := hid hst; clear hst
                   have hsh := rowS_shift i G k want Hww.out hki'
                   generalize hra : (G k).1 = ra at hcell Hst
                   generalize hrn : (G k).2.1 = rn at hcell hlc hgn Hst hsh
                   generalize hrc : (G k).2.2.1 = rc at hcell hlc
                   generalize hrg : (G k).2.2.2 = rg at Hst hsh
                   clear hra hrn hrc hrg
                   have hz0 := rowS_zero i G k want
                   generalize hS : simF (plF rg) rn 0 0 = S at hsh
                   have HS := hid hS; clear hS
                   have Hsh := hid hsh; clear hsh
                   have Hz0 := hid hz0; clear hz0
                   go_wp2_with fail
                   refine (plain_any ra rn rc rg wr hlc hgn Hst.out).mono ?_
                   rintro ev w2 ⟨a', c', rfl, hc', hr2, ha', hb2⟩
                   go_wp2_with fail
                   refine (refRun_any rn a' rn c' (plF rg) _ (Nat.le_refl _) hc' hgn hr2).mono ?_
                   rintro ev w3 ⟨rfl, hb3⟩
                   rw [HS.out]
                   have hb4 : Below wr.heap.size wr w3 := hb2.trans (hb3.mono hb2.size)
                   have f1 := (hb4.cell (p := ⟨w1.heap.size + 1, 0, none⟩) hsx).trans e1
                   have f2 := (hb4.cell (p := ⟨w1.heap.size + 1, 1, none⟩) hsx).trans e2
                   have f3 := (hb4.frozen (p := ⟨w1.heap.size + 1, 0, none⟩) hsx).trans y1
                   have f4 := (hb4.frozen (p := ⟨w1.heap.size + 1, 1, none⟩) hsx).trans y2
                   have hs3 : w1.heap.size + 1 < w3.heap.size := Nat.lt_of_lt_of_le hsx hb4.size
                   have hbx3 : Below (w1.heap.size + 1) W w3 := hbx.trans (hb4.mono (by omega))
                   clear hb4 hb3 hb2 hr2 ha' e1 e2 y1 y2 hcell
                   obtain ⟨x1, p1, q1⟩ := S
                   have Hsh2 := hid (show rowS i G k want = (wrap64 (want + x1), p1, q1) from Hsh.out); clear Hsh
                   by_cases hz : p1 = 0
                   · have hq1 : q1 = 0 := by
                       have := Hz0.out; rw [Hsh2.out] at this; exact this hz
                     subst hz hq1
                     have He2 := hid ((eachF_go N (rowS i G) k want hkN' (by rw [Hsh2.out])).symm.trans HE'.out)
                     have Hw2 := hid (show wrap64 (wrap64 (want + x1)) = wrap64 (want + x1) by unfold wrap64; omega)
                     rw [Hsh2.out] at He2
                     clear Hz0 Hsh2
                     go_wp2
                     go_roundw
                     case rel =>
                       exact ⟨k + 1, wrap64 (want + x1), N, 0, 0, rfl, rfl, by go_num, by omega, by omega, hbx3, f1, f2, f3, f4, hs3, Hw2, fun _ => ⟨rfl, rfl, He2.out⟩, fun h => absurd rfl h⟩
                     case measure => simp [intOf]; omega
                   · have He2 := hid ((eachF_stop N (rowS i G) k want hkN' (by rw [Hsh2.out]; exact hz)).symm.trans HE'.out)
                     have Hw2 := hid (show wrap64 (wrap64 (want + x1)) = wrap64 (want + x1) by unfold wrap64; omega)
                     rw [Hsh2.out] at He2
                     have hp1 : (p1 != 0) = true := by simp [hz]
                     clear Hz0 Hsh2
                     obtain ⟨g1, g2⟩ := two_cells (.int .i64 p1) (.int .i64 q1) f1 f2
                     have g3 : ∀ o, ((w3.setCell ⟨w1.heap.size + 1, 0, none⟩ (.int .i64 p1)).setCell ⟨w1.heap.size + 1, 1, none⟩ (.int .i64 q1)).frozen? ⟨w1.heap.size + 1, o, none⟩ = w3.frozen? ⟨w1.heap.size + 1, o, none⟩ := fun o => by rw [World.frozen?_setCell, World.frozen?_setCell]
                     have hbx4 := hbx3.trans (two_below (w1.heap.size + 1) (.int .i64 p1) (.int .i64 q1) w3)
                     have Hg := hid (And.intro g1 g2); clear g1 g2
                     have Hg3 := hid g3; clear g3
                     go_wp2
                     go_roundw
                     case rel =>
                       exact ⟨k + 1, wrap64 (want + x1), k, p1, q1, rfl, rfl, by go_num, by omega, by omega, hbx4, Hg.out.1, Hg.out.2, (Hg3.out 0).trans f3, (Hg3.out 1).trans f4, by simpa [World.setCell] using hs3, Hw2, fun h => absurd h hz, fun _ => He2.out⟩
                     case measure => simp [intOf]; omega)
              · have hfin : (wh, y, tt, want) = E := by
                  by_cases hy : y = 0
                  · obtain ⟨rfl, rfl, hE'⟩ := Hy0.out hy
                    subst hy
                    rw [← hE']
                    by_cases hkn : k < N
                    · exact (eachF_out N i G _ k want (Nat.le_refl _) (by omega)).symm
                    · exact (eachF_past N _ k want hkn).symm
                  · exact Hy1.out hy
                clear Hy0 Hy1
                have Hfin := hid hfin; clear hfin
                have c0x : NC w1.heap.size wr 0 := ⟨(hbx.cell (p := ⟨w1.heap.size, 0, none⟩) (Nat.lt_succ_self _)).trans c0, (hbx.frozen (p := ⟨w1.heap.size, 0, none⟩) (Nat.lt_succ_self _)).trans z0, by omega⟩
                have hbww : Below w.heap.size w wr := (hb1.trans (hbW.mono hbs)).trans (hbx.mono (by omega))
                have hx13 := fun (i' : Nat) (c : Int) (w2 : World) (_ : (i' : Int) < n) (hcw : wrap64 c = c) (hr : Ran w1.heap.size wr.heap.size wr w2) (hc : NC w1.heap.size w2 c) =>
                  in13 w.heap.size w1.heap.size a i cap G i' c w2 ((hr.cell (p := ⟨w.heap.size, 0, none⟩) (show w.heap.size < wr.heap.size by omega) (show w.heap.size ≠ w1.heap.size by omega)).trans k4x) (by omega) (Hr.out.ext (hbww.trans ((hr.mono (show w.heap.size ≤ wr.heap.size by omega)).below (by omega)))) Hlen.out hcw hc
                have hcall := each_any 13 #[.pointer (some ⟨w.heap.size, 0, none⟩), .pointer (some ⟨w1.heap.size, 0, none⟩)] n wr w1.heap.size 0 (rowS i G) (by omega) hn2 (rowS_zero i G) (rowS_wrap i G) (by unfold wrap64; omega) enter13 hx13 c0x
                rw [hN, HE.out, ← Hfin.out] at hcall
                have Hcall := hid hcall; clear hcall hx13
                clear c0x
                have ne1 : w1.heap.size + 1 ≠ w1.heap.size := by omega
                have hfacts : ∀ w7, Ran w1.heap.size wr.heap.size wr w7 → w7.cell? ⟨w1.heap.size + 1, 0, none⟩ = some (.int .i64 y) ∧ w7.cell? ⟨w1.heap.size + 1, 1, none⟩ = some (.int .i64 tt) ∧ w1.heap.size + 1 < w7.heap.size ∧ Below w.heap.size w w7 :=
                  fun w7 hr => ⟨(hr.cell (p := ⟨w1.heap.size + 1, 0, none⟩) hsx ne1).trans e1, (hr.cell (p := ⟨w1.heap.size + 1, 1, none⟩) hsx ne1).trans e2, Nat.lt_of_lt_of_le hsx hr.size, hbww.trans ((hr.mono (show w.heap.size ≤ wr.heap.size by omega)).below (by omega))⟩
                have Hf := hid hfacts; clear hfacts
                have h3 : (y ≠ 0) ∨ (y = 0 ∧ ¬ k < N) ∨ (y = 0 ∧ k < N ∧ ¬ k < i) := by omega
                have hs1 : w1.heap.size < wr.heap.size := by omega
                clear hgo
                rcases h3 with hy | ⟨rfl, hkN'⟩ | ⟨rfl, hkN', hki'⟩
                · have ty : (y == 0) = false := by simp [hy]
                  have tn := 0
                  go_wp2_with fail
                  all_goals
                    refine Hcall.out.mono ?_
                    rintro ev w7 ⟨rfl, hr7, hn7⟩
                    obtain ⟨m1, m2, m3, m4⟩ := Hf.out w7 hr7
                    obtain ⟨n1, n2, n3⟩ := hn7
                    clear hr7
                    go_wp2
                    go_ret
                    exact ⟨rfl, m4.alloc (by omega) _⟩
                · have tn : decide ((k : Int) < n) = false := by simp; omega
                  go_wp2_with fail
                  all_goals
                    refine Hcall.out.mono ?_
                    rintro ev w7 ⟨rfl, hr7, hn7⟩
                    obtain ⟨m1, m2, m3, m4⟩ := Hf.out w7 hr7
                    obtain ⟨n1, n2, n3⟩ := hn7
                    clear hr7
                    go_wp2
                    go_ret
                    exact ⟨rfl, m4.alloc (by omega) _⟩
                · first
                  | (exfalso; omega)
                  | (have tn : decide ((k : Int) < n) = true := by simp; omega
                     have ti : decide ((k : Int) < i) = false := by simp; omega
                     go_wp2_with fail
                     all_goals
                       refine Hcall.out.mono ?_
                       rintro ev w7 ⟨rfl, hr7, hn7⟩
                       obtain ⟨m1, m2, m3, m4⟩ := Hf.out w7 hr7
                       obtain ⟨n1, n2, n3⟩ := hn7
                       clear hr7
                       go_wp2
                       go_ret
                       exact ⟨rfl, m4.alloc (by omega) _⟩)
    · have t2 : decide (n > 20) = true := by simp; omega
      go_wp2
      go_ret
      exact ⟨rfl, hb1⟩
  · have t : decide ((m : Int) > 20) = true := by simp; omega
    go_wp2
    go_ret
    exact ⟨rfl, hb1⟩
end Go.Proofs.Ytbaomlmannpnaaa
