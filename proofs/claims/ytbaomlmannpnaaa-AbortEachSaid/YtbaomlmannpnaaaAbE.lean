/- What is proved here: what the law's own function run comes to. -/
import Derived.Test.YtbaomlmannpnaaaAbF
import Derived.StillTailTactics
namespace Go.Proofs.Ytbaomlmannpnaaa
open Go.RowKit
set_option linter.unusedVariables false
set_option linter.unusedSimpArgs false

theorem meas_lt (i E n : Nat) (h1 : i + 1 ≤ E) (h2 : E ≤ n) (h3 : i < n) (h4 : n ≤ 1000000) : (2000000 - ((E : Int) + 1)).toNat < 2000000 - i := by omega

set_option maxHeartbeats 4000000 in
set_option maxRecDepth 100000 in
theorem run_any : ∀ (m : Nat) (a : Option Addr) (n cap : Nat) (g : Nat → St) (w : World) (q : Nat) (c0 : Int) (hm : n ≤ m) (hlc : n ≤ cap) (hn : n ≤ 1000000) (hr : StR w a n g) (haq : ∀ x, a = some x → x.block ≠ q ∧ x.block < w.heap.size)
    (hy : ∀ j, j < n → (g j).2.1 ≠ 0) (hc : NC q w c0) (hw0 : wrap64 c0 = c0),
    Calls Try.prog 14 #[.slice a n cap, .pointer (some ⟨q, 0, none⟩)] w (RunPost q w (simF g n 0 c0)) := by
  intro m
  induction m with
  | zero =>
    intro a n cap g w q c0 hm hlc hn hr haq hy hc hw0
    have hn0 : n = 0 := by omega
    subst hn0
    rw [simF_past _ _ _ _ (by omega)]
    have Hc := hid hc; clear hc
    go_enter Try.func14, Try.ntmps14
    go_wp2
    go_loop [4] (fun iv => iv = .int .i64 0) (fun iv => 0)
    case atStart => exact rfl
    case round =>
      cases hrel
      go_wp2
      go_end0
      exact ⟨rfl, (Ran.refl _ _ _).alloc (Nat.le_refl _) _, Hc.out.ext ((Below.refl _ _).alloc (Nat.le_refl _) _)⟩
  | succ m ih =>
    intro a n cap g w q c0 hm hlc hn hr haq hy hc hw0
    obtain ⟨R, hR⟩ : ∃ R, simF g n 0 c0 = R := ⟨_, rfl⟩
    rw [hR]
    have HR := hid hR; clear hR
    have Hr := hid hr; clear hr
    have Hy := hid hy; clear hy
    have hq0 := hc.here
    have Hc := hid hc; clear hc
    have Hw0 := hid hw0; clear hw0
    have Haq := hid haq; clear haq
    have IH := hid ih; clear ih
    go_enter Try.func14, Try.ntmps14
    go_wp2
    go_loopw [4] (fun iv wr => ∃ (c : Int) (i : Nat), iv = .int .i64 i ∧ Hid (simF g n i c = R) ∧ i ≤ n + 1 ∧ Hid (wrap64 c = c) ∧ Ran q w.heap.size w wr ∧ NC q wr c ∧ wr.cell? ⟨w.heap.size, 0, none⟩ = some (.pointer (some ⟨q, 0, none⟩)) ∧ w.heap.size < wr.heap.size) (fun iv _ => (2000000 - intOf iv).toNat)
    case atStart =>
      refine ⟨c0, 0, rfl, HR, by omega, Hw0, (Ran.refl _ _ _).alloc (Nat.le_refl _) _, Hc.out.ext ((Below.refl _ _).alloc (Nat.le_refl _) _), by simp, by simp⟩
    case round =>
      obtain ⟨c, i, rfl, He, hi, Hwc, hrn, hnc, hbx, hsz⟩ := hrel
      by_cases hin : i < n
      · obtain ⟨b, off, rfl, c1, c2, c3, hbw⟩ := (Hr.out.ran hrn (fun x hx => (Haq.out x hx).symm)) i hin
        obtain ⟨hcell, hloose, hhere⟩ := hnc
        by_cases k0 : (g i).1 = 0
        · have e := hid ((simF_k0 g n i c hin k0).symm.trans He.out)
          rw [k0] at c1
          clear k0
          go_wp2
          go_roundw
          case rel =>
            refine ⟨wrap64 (c + 1), i + 1, by go_num, e, by omega, hid (by unfold wrap64; omega), hrn.setCell _ (Or.inl rfl) _, NC.set ⟨hcell, hloose, hhere⟩ _, ?_, by simpa [World.setCell] using hsz⟩
            exact (World.cell?_setCell_other _ ⟨q, 0, none⟩ ⟨w.heap.size, 0, none⟩ _ (by intro h; cases h; omega)).trans hbx
          case measure => simp [intOf]; omega
        · by_cases k1 : (g i).1 = 1
          · have e := hid ((simF_k1 g n i c hin k1).symm.trans He.out)
            rw [k1] at c1
            clear k0 k1
            go_wp2
            go_still_tail 10, (by kernel_rfl)
            change wpList _ _ _ _ _ wr.drew
            have hbd : Below wr.heap.size wr wr.drew := (Below.refl _ _).drew
            generalize wr.drew = w2 at hbd ⊢
            go_wp2_with fail
            refine (now_any _ _ _).mono ?_
            rintro ev w' ⟨rfl, rfl⟩
            refine ⟨rfl, ?_, (hrn.below_to (hbd.mono hrn.size)), ?_⟩
            · rw [← e.out]; exact (if_neg (Hy.out i hin)).symm
            · rw [← e.out]; exact NC.ext ⟨hcell, hloose, hhere⟩ hbd
          · by_cases k2 : (g i).1 = 2 ∨ (g i).1 = 3
            · have e := hid ((simF_in g n i c hin k2).symm.trans He.out)
              obtain ⟨be1, be2⟩ := endF_bounds g n i hin
              have hstr := Hr.out.ran hrn (fun x hx => (Haq.out x hx).symm)
              have hbq := Haq.out _ rfl
              have hend := end_any (some ⟨b, off, none⟩) n cap (i + 1) g wr (by omega) hn hstr
              have hrs := hid (hstr.sub i (endF g n 0 (i + 1)) be2)
              have hsh := simF_shift (fun j => g (i + 1 + j)) (endF g n 0 (i + 1) - (i + 1)) _ 0 c (Nat.le_refl _) Hwc.out
              have hyy : ∀ j, j < endF g n 0 (i + 1) - (i + 1) → (g (i + 1 + j)).2.1 ≠ 0 := fun j hj => Hy.out _ (by omega)
              have hz0 := simF_zero (fun j => g (i + 1 + j)) (endF g n 0 (i + 1) - (i + 1)) _ 0 0 (Nat.le_refl _) 
              generalize endF g n 0 (i + 1) = E at *
              have hz := hid (fun h => hz0 h hyy)
              have hrun := fun a2 c2 w2 (hs : StR w2 a2 (E - (i + 1)) (fun j => g (i + 1 + j))) hc hqq hnc => IH.out a2 (E - (i + 1)) c2 (fun j => g (i + 1 + j)) w2 q c (by omega) hc (by omega) hs hqq hyy hnc Hwc.out
              generalize simF (fun j => g (i + 1 + j)) (E - (i + 1)) 0 0 = s at *
              generalize simF (fun j => g (i + 1 + j)) (E - (i + 1)) 0 c = s' at *
              push_cast at hend
              have Hend := hid hend; clear hend
              have Hrun := hid hrun; clear hrun
              clear hz0 hstr
              have Hyy := hid hyy; clear hyy
              have hi1 : i + 1 ≤ E := be1
              have hE : E ≤ n := be2
              obtain ⟨hs1, hs2⟩ := hsh
              have hnc : NC q wr c := ⟨hcell, hloose, hhere⟩
              have hrun2 : ∀ a2 c2, StR wr a2 (E - (i + 1)) (fun j => g (i + 1 + j)) → E - (i + 1) ≤ c2 → (∀ x, a2 = some x → x.block = b) → ∀ w2, Below wr.heap.size wr w2 → Calls Try.prog 14 #[.slice a2 (E - (i + 1) : Nat) c2, .pointer (some ⟨q, 0, none⟩)] w2 (RunPost q w2 s') := fun a2 c2 h1 h2 h3 w2 hb2 => Hrun.out a2 c2 w2 (h1.ext hb2) h2 (fun x hx => by rw [h3 x hx]; exact ⟨hbq.1, Nat.lt_of_lt_of_le hbw hb2.size⟩) (hnc.ext hb2)
              have hs' : s'.2.1 = 0 → s'.2.2 = 0 := by rw [hs2]; exact hz.out
              have hrs2 : ∀ a2 c2, (a2 = some ⟨b, off + (i + 1) * 3, none⟩ ∧ c2 = cap - (i + 1)) ∨ (a2 = some ⟨b, off, none⟩ ∧ c2 = 0 ∧ cap = i + 1) → ∀ w2, Below wr.heap.size wr w2 → Calls Try.prog 14 #[.slice a2 (E - (i + 1) : Nat) c2, .pointer (some ⟨q, 0, none⟩)] w2 (RunPost q w2 s') := by
                rintro a2 c2 (⟨rfl, rfl⟩ | ⟨rfl, rfl, hcap⟩)
                · exact hrun2 _ _ hrs.out (by omega) (fun x hx => by cases hx; rfl)
                · exact hrun2 _ _ (fun j hj => absurd hj (by omega)) (by omega) (fun x hx => by cases hx; rfl)
              have hout := fun a2 c2 h => out43 w.heap.size (.slice a2 (E - (i + 1) : Nat) c2) (.pointer (some ⟨q, 0, none⟩)) 24 wr q s' hhere hsz hbx hs' (hrs2 a2 c2 h)
              have hwith := fun a2 c2 h => within44 w.heap.size (.slice a2 (E - (i + 1) : Nat) c2) (.pointer (some ⟨q, 0, none⟩)) (g i).2.2 24 wr q s' hhere hsz hbx hs' (hrs2 a2 c2 h)
              have Hout := hid hout; clear hout
              have Hwith := hid hwith; clear hwith
              clear hrs2 hrun2
              have Hs' := hid hs'; clear hs'
              have Hs1 := hid hs1; clear hs1
              have Hs2 := hid hs2; clear hs2
              obtain ⟨x1, y1, t1⟩ := s'
              obtain ⟨x2, y2, t2⟩ := s
              have HE := Hs2.out
              simp only [Prod.mk.injEq] at HE
              obtain ⟨rfl, rfl⟩ := HE
              dsimp only at e Hout Hwith Hs' Hs1
              by_cases hy1 : y1 = 0
              · have ht1 := Hs'.out hy1
                subst hy1 ht1
                simp only [ne_eq, not_true_eq_false, false_and, if_false] at e
                rw [← Hs1.out] at e
                rcases k2 with k | k
                · rw [k] at c1
                  clear k k0 k1
                  as_aux_lemma =>
                    go_wp2_with fail
                    refine Hend.out.mono ?_
                    rintro ev w' ⟨rfl, rfl⟩
                    go_wp2_with fail
                    all_goals
                      refine (Hout.out _ _ (by first | exact Or.inl ⟨rfl, rfl⟩ | exact Or.inr ⟨rfl, rfl, by assumption⟩)).mono ?_
                      rintro ev w2 ⟨rfl, hr2, hn2⟩
                      try subst h
                      go_wp2
                      go_roundw
                      case rel => exact ⟨x1, E + 1, by go_num, e, by omega, by rw [Hs1.out]; exact hid (by unfold wrap64; omega), hrn.trans (hr2.mono hrn.size), hn2, (hr2.cell (p := ⟨w.heap.size, 0, none⟩) hsz (fun h => absurd h (Nat.ne_of_gt hq0))).trans hbx, Nat.lt_of_lt_of_le hsz hr2.size⟩
                      case measure => simp [intOf]; omega
                · rw [k] at c1
                  clear k k0 k1
                  as_aux_lemma =>
                    go_wp2_with fail
                    refine Hend.out.mono ?_
                    rintro ev w' ⟨rfl, rfl⟩
                    go_wp2_with fail
                    all_goals
                      refine (Hwith.out _ _ (by first | exact Or.inl ⟨rfl, rfl⟩ | exact Or.inr ⟨rfl, rfl, by assumption⟩)).mono ?_
                      rintro ev w2 ⟨hev, hr2, hn2⟩
                      replace hev : ev = .returned (.tuple #[]) := hev
                      subst hev
                      try subst h
                      go_wp2
                      go_roundw
                      case rel => exact ⟨x1, E + 1, by go_num, e, by omega, by rw [Hs1.out]; exact hid (by unfold wrap64; omega), hrn.trans (hr2.mono hrn.size), hn2, (hr2.cell (p := ⟨w.heap.size, 0, none⟩) hsz (fun h => absurd h (Nat.ne_of_gt hq0))).trans hbx, Nat.lt_of_lt_of_le hsz hr2.size⟩
                      case measure => simp [intOf]; omega
              · have tt : (y1 == 0) = false := by simp [hy1]
                rcases k2 with k | k
                · rw [k] at c1 e
                  simp only [ne_eq, hy1, not_false_eq_true, true_and, if_true, reduceIte] at e
                  simp only [Int.reduceEq, if_false] at e
                  rw [← Hs1.out] at e
                  clear k k0 k1
                  as_aux_lemma =>
                    go_wp2_with fail
                    refine Hend.out.mono ?_
                    rintro ev w' ⟨rfl, rfl⟩
                    go_wp2_with fail
                    all_goals
                      refine (Hout.out _ _ (by first | exact Or.inl ⟨rfl, rfl⟩ | exact Or.inr ⟨rfl, rfl, by assumption⟩)).mono ?_
                      rintro ev w2 ⟨rfl, hr2, ⟨hc2, hl2, hh2⟩⟩
                      try subst h
                      have hbx2 := (hr2.cell (p := ⟨w.heap.size, 0, none⟩) hsz (fun h => absurd h (Nat.ne_of_gt hq0))).trans hbx
                      go_wp2
                      go_roundw
                      case rel =>
                        refine ⟨wrap64 (x1 + 1000), E + 1, by go_num, e, by omega, hid (by unfold wrap64; omega), (hrn.trans (hr2.mono hrn.size)).setCell _ (Or.inl rfl) _, NC.set ⟨hc2, hl2, hh2⟩ _, ?_, by simpa [World.setCell] using Nat.lt_of_lt_of_le hsz hr2.size⟩
                        exact (World.cell?_setCell_other _ ⟨q, 0, none⟩ ⟨w.heap.size, 0, none⟩ _ (by intro h; cases h; omega)).trans hbx2
                      case measure => simp [intOf]; exact meas_lt i E n hi1 hE hin hn
                · rw [k] at c1 e
                  simp only [ne_eq, hy1, not_false_eq_true, true_and, if_true, reduceIte] at e
                  rw [← Hs1.out] at e
                  clear k k0 k1
                  as_aux_lemma =>
                    go_wp2_with fail
                    refine Hend.out.mono ?_
                    rintro ev w' ⟨rfl, rfl⟩
                    go_wp2_with fail
                    all_goals
                      refine (Hwith.out _ _ (by first | exact Or.inl ⟨rfl, rfl⟩ | exact Or.inr ⟨rfl, rfl, by assumption⟩)).mono ?_
                      rintro ev w2 ⟨rfl, hr2, hn2⟩
                      rw [show endOf (if y1 = 0 then (0, 0) else (y1, wrap64 (t1 + (g i).2.2))) = .panicked [{ v := stopV y1 (wrap64 (t1 + (g i).2.2)), recovered := false }] by rw [if_neg hy1]; exact if_neg hy1]
                      refine ⟨rfl, ?_, hrn.trans (hr2.mono hrn.size), ?_⟩
                      · rw [← e.out]; exact (if_neg hy1).symm
                      · rw [← e.out]; exact hn2
            · have e := hid ((simF_pass g n i c hin k0 k1 (fun h => k2 (Or.inl h)) (fun h => k2 (Or.inr h))).symm.trans He.out)
              have t0 : ((g i).1 == 0) = false := by simp; exact k0
              have t1 : ((g i).1 == 1) = false := by simp; exact k1
              have t2 : ((g i).1 == 2) = false := by simp; exact fun h => k2 (Or.inl h)
              have t3 : ((g i).1 == 3) = false := by simp; exact fun h => k2 (Or.inr h)
              clear k0 k1 k2
              go_wp2
              go_roundw
              case rel => exact ⟨c, i + 1, by go_num, e, by omega, Hwc, hrn, ⟨hcell, hloose, hhere⟩, hbx, hsz⟩
              case measure => simp [intOf]; omega
      · have e := hid ((simF_past g n i c hin).symm.trans He.out)
        have t : decide ((i : Int) < n) = false := by simp; omega
        go_wp2
        go_end0
        refine ⟨?_, hrn, ?_⟩
        · rw [← e.out]; rfl
        · rw [← e.out]; exact hnc
end Go.Proofs.Ytbaomlmannpnaaa
