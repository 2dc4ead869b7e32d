/- What is proved here: what Each comes to. -/
import Derived.Test.YtbaomlmannpnaaaAbH
namespace Go.Proofs.Ytbaomlmannpnaaa
open Go.RowKit
set_option linter.unusedVariables false
set_option linter.unusedSimpArgs false

/-- One behind the other, up to the first that gives up: which, why and where, and what is counted. -/
def eachF (N : Nat) (R : Nat → Int → Int × Int × Int) (i : Nat) (c : Int) : Int × Int × Int × Int :=
  if i < N then (if (R i c).2.1 = 0 then eachF N R (i + 1) (R i c).1 else ((i : Int), (R i c).2.1, (R i c).2.2, (R i c).1)) else ((N : Int), 0, 0, c)
termination_by N - i

theorem eachF_past (N : Nat) (R : Nat → Int → Int × Int × Int) (i : Nat) (c : Int) (h : ¬ i < N) : eachF N R i c = ((N : Int), 0, 0, c) := by rw [eachF, if_neg h]
theorem eachF_go (N : Nat) (R : Nat → Int → Int × Int × Int) (i : Nat) (c : Int) (h : i < N) (k : (R i c).2.1 = 0) : eachF N R i c = eachF N R (i + 1) (R i c).1 := by rw [eachF, if_pos h, if_pos k]
theorem eachF_stop (N : Nat) (R : Nat → Int → Int × Int × Int) (i : Nat) (c : Int) (h : i < N) (k : (R i c).2.1 ≠ 0) : eachF N R i c = ((i : Int), (R i c).2.1, (R i c).2.2, (R i c).1) := by rw [eachF, if_pos h, if_neg k]

theorem enter42 (args : Array Value) (w : World) : (callFunc 42 args).run Try.prog w = .ok (.enter 42 args) w := enterOf Try.func42 (by kernel_rfl) rfl args w

set_option maxRecDepth 100000 in
theorem in42 (x y : Nat) (i : Int) (k : FuncId) (cap : Array Value) (w : World) (q : Nat) (r : Int × Int × Int) (h0 : w.cell? ⟨x, 0, none⟩ = some (.func (.func k) #[] cap)) (h1 : w.cell? ⟨y, 0, none⟩ = some (.int .i64 i))
    (hin : ∀ (args : Array Value) (w : World), (callFunc k args).run Try.prog w = .ok (.enter k args) w)
    (h : Calls Try.prog k (#[.int .i64 i] ++ cap) w (RunPost q w r)) :
    Calls Try.prog 42 #[.pointer (some ⟨x, 0, none⟩), .pointer (some ⟨y, 0, none⟩)] w (RunPost q w r) := by
  have H := hid h; clear h
  go_enter Try.func42, Try.ntmps42
  go_wp2_with fail
  refine H.out.mono ?_
  rintro e w' ⟨rfl, hr, hn⟩
  by_cases hz : r.2.1 = 0
  · have e : endOf r.2 = .returned (.tuple #[]) := if_pos hz
    rw [e]
    go_wp2
    go_end0
    exact ⟨e.symm, hr, hn⟩
  · have e : endOf r.2 = .panicked [{ v := stopV r.2.1 r.2.2, recovered := false }] := if_neg hz
    rw [e]
    exact ⟨rfl, e.symm, hr, hn⟩

-- DEFS6
def postsE6 (i : Nat) (y1 t1 : Int) : List (Value → World → Prop) := [
    fun x _ => x = .int .i64 i,
    fun x _ => x = .agg #[.int .i64 y1, .int .i64 t1],
    fun x _ => x = .int .i64 i]
-- END DEFS
set_option maxHeartbeats 4000000 in
set_option maxRecDepth 100000 in
theorem each_any (k : FuncId) (cap : Array Value) (n : Int) (w : World) (q : Nat) (c0 : Int) (R : Nat → Int → Int × Int × Int) (hn : n ≤ 1000000) (hn2 : -9223372036854775808 ≤ n) (hs : ∀ i c, (R i c).2.1 = 0 → (R i c).2.2 = 0) (hR : ∀ i c, wrap64 c = c → wrap64 (R i c).1 = (R i c).1) (hw0 : wrap64 c0 = c0)
    (hin : ∀ (args : Array Value) (w : World), (callFunc k args).run Try.prog w = .ok (.enter k args) w)
    (hk : ∀ (i : Nat) (c : Int) (w2 : World), (i : Int) < n → wrap64 c = c → Ran q w.heap.size w w2 → NC q w2 c → Calls Try.prog k (#[.int .i64 i] ++ cap) w2 (RunPost q w2 (R i c)))
    (hnc : NC q w c0) :
    Calls Try.prog 12 #[.int .i64 n, .func (.func k) #[] cap] w fun e w' => e = .returned (.tuple #[.int .i64 (eachF n.toNat R 0 c0).1, .agg #[.int .i64 (eachF n.toNat R 0 c0).2.1, .int .i64 (eachF n.toNat R 0 c0).2.2.1]]) ∧ Ran q w.heap.size w w' ∧ NC q w' (eachF n.toNat R 0 c0).2.2.2 := by
  have hmf : ∀ (fn : Fn) (first cap : Array Value) (w : World), (Instr.makeFunc fn first cap).run Try.prog w = .ok (.func fn first cap) w := fun _ _ _ _ => rfl
  have hq := hnc.here
  obtain ⟨E, hE⟩ : ∃ E, eachF n.toNat R 0 c0 = E := ⟨_, rfl⟩
  rw [hE]
  have HE := hid hE; clear hE
  have Hk := hid hk; clear hk
  have Hin := hid hin; clear hin
  have Hs := hid hs; clear hs
  have HR := hid hR; clear hR
  have Hw0 := hid hw0; clear hw0
  have Hnc := hid hnc; clear hnc
  go_enter Try.func12, Try.ntmps12
  obtain ⟨N, hN⟩ : ∃ N : Nat, n.toNat = N := ⟨_, rfl⟩
  rw [hN] at HE
  go_wp2_with fail
  all_goals
    obtain ⟨W, hW, hszW, hbW, b0, b1⟩ := allocs2 w #[.func (.func k) #[] cap] #[.int .i64 0, .int .i64 0] 35 27
    rw [← hW]; clear hW
    have lt1 : w.heap.size + 1 < W.heap.size := by omega
    have ne1 : w.heap.size + 1 ≠ q := by omega
    have lt0 : w.heap.size < W.heap.size := by omega
    have ne0 : w.heap.size ≠ q := by omega
    have kb : ∀ wr, Ran q W.heap.size W wr → wr.cell? ⟨w.heap.size, 0, none⟩ = some (.func (.func k) #[] cap) ∧ wr.cell? ⟨w.heap.size + 1, 0, none⟩ = some (.int .i64 0) ∧ wr.cell? ⟨w.heap.size + 1, 1, none⟩ = some (.int .i64 0) ∧ wr.frozen? ⟨w.heap.size + 1, 0, none⟩ = false ∧ wr.frozen? ⟨w.heap.size + 1, 1, none⟩ = false ∧ w.heap.size + 1 < wr.heap.size :=
      fun wr hr => ⟨(hr.cell (p := ⟨w.heap.size, 0, none⟩) lt0 ne0).trans (cell_of_row W _ 0 _ _ _ b0), (hr.cell (p := ⟨w.heap.size + 1, 0, none⟩) lt1 ne1).trans (cell_of_row W _ 0 _ _ _ b1), (hr.cell (p := ⟨w.heap.size + 1, 1, none⟩) lt1 ne1).trans (cell_of_row W _ 1 _ _ _ b1),
        (hr.frozen (p := ⟨w.heap.size + 1, 0, none⟩) lt1 ne1).trans (frozen_of_row W _ 0 _ _ b1), (hr.frozen (p := ⟨w.heap.size + 1, 1, none⟩) lt1 ne1).trans (frozen_of_row W _ 1 _ _ b1), Nat.lt_of_lt_of_le lt1 hr.size⟩
    have Kb := hid kb; clear kb
    clear b0 b1
    go_loopw [6, 7, 10] (fun _ _ iv wr => ∃ (i : Nat) (c : Int), iv = .int .i64 i ∧ i ≤ N ∧ Hid (eachF N R i c = E) ∧ Ran q W.heap.size W wr ∧ NC q wr c ∧ Hid (wrap64 c = c)) (fun _ _ iv _ => N - (intOf iv).toNat)
    case atStart => exact ⟨0, c0, rfl, Nat.zero_le _, HE, Ran.refl _ _ _, Hnc.out.ext hbW, Hw0⟩
    case round =>
      obtain ⟨i, c, rfl, hi, He, hrn, hnr, Hcw⟩ := hrel
      have hRw := hid (HR.out i c Hcw.out)
      by_cases hin : i < N
      · first
        | (exfalso; omega)
        | (have hir : (i : Int) < n := by omega
           obtain ⟨hcell, hloose, hhere⟩ := hnr
           obtain ⟨a1, a2, a3, a4, a5, a6⟩ := Kb.out wr hrn
           have tt : decide ((i : Int) < n) = true := by simp; omega
           go_wp2_with fail
           obtain ⟨X, hX, hszX, hbX, d0⟩ := allocs1 wr #[.int .i64 i] 3
           rw [← hX]; clear hX
           have hbz : Below X.heap.size X (X.alloc (.cells zstop 27)) := (Below.refl _ _).alloc (Nat.le_refl _) _
           have hrX : Ran q W.heap.size W X := hrn.trans (Ran.of q (hbX.mono hrn.size))
           have lx : w.heap.size < X.heap.size := by omega
           have ly : wr.heap.size < X.heap.size := by omega
           have nX : NC q X c := NC.ext ⟨hcell, hloose, hhere⟩ hbX
           refine (out_cnt _ _ X q (R i c) (by omega) (Hs.out i c) enter42 (in42 w.heap.size wr.heap.size i k cap _ q (R i c) ((hbz.cell (p := ⟨w.heap.size, 0, none⟩) lx).trans (Kb.out X hrX).1) ((hbz.cell (p := ⟨wr.heap.size, 0, none⟩) ly).trans (cell_of_row X _ 0 _ _ _ d0)) Hin.out
             (Hk.out i c _ hir Hcw.out ((Ran.of q hbW).trans ((hrX.mono (show w.heap.size ≤ W.heap.size by omega)).below_to (hbz.mono (by omega)))) (nX.ext hbz)))).mono ?_
           rintro ev w' ⟨rfl, hr', hn'⟩
           have hrw : Ran q W.heap.size W w' := hrX.trans (hr'.mono hrX.size)
           obtain ⟨e1, e2, e3, e4, e5, e6⟩ := Kb.out w' hrw
           have ney : wr.heap.size ≠ q := by omega
           have ky : w'.cell? ⟨wr.heap.size, 0, none⟩ = some (.int .i64 i) := (hr'.cell (p := ⟨wr.heap.size, 0, none⟩) ly ney).trans (cell_of_row X _ 0 _ _ _ d0)
           have ly2 : wr.heap.size < w'.heap.size := Nat.lt_of_lt_of_le ly hr'.size
           clear hr' d0 hbX hbz nX hrX
           by_cases hz : (R i c).2.1 = 0
           · have e := hid ((eachF_go N R i c hin hz).symm.trans He.out)
             rw [hz, Hs.out i c hz]
             clear hz
             generalize R i c = r at hn' e hRw
             obtain ⟨x1, y1, t1⟩ := r
             dsimp only at hn' e hRw
             go_wp2
             go_roundw
             case rel => exact ⟨i + 1, x1, by go_num, by omega, e, hrw.trans (Ran.of q ((Below.refl _ _).alloc hrw.size _)), hn'.ext ((Below.refl _ _).alloc (Nat.le_refl _) _), hRw⟩
             case measure => simp [intOf]; omega
           · have e := hid ((eachF_stop N R i c hin hz).symm.trans He.out)
             generalize R i c = r at hn' e hz ⊢
             obtain ⟨x1, y1, t1⟩ := r
             dsimp only at hn' e hz ⊢
             have hy1 : (y1 != 0) = true := by simp [hz]
             obtain ⟨hcell', hloose', hhere'⟩ := hn'
             go_wp2
             obtain ⟨D, hD, f0, f1, g0, g1, z0, z1, ev, hbd⟩ := afterAlloc w' (w.heap.size + 1) wr.heap.size y1 t1 i e6 ly2 e2 e3 e4 e5 ky
             have HD := hid hD; clear hD
             -- REGION6
             refine wp_region_rg_tail 3 (fun x => x = D) (fun w w' => w' = w) (postsE6 i y1 t1)
                 [[], [], [0], []]
                 24 (by kernel_rfl) rfl (by kernel_rfl) rfl ?rg0 ?rgC ?rgP ?rgS ?rgQ
             case rgP => exact ⟨kept_eq, kept_eq, kept_eq, trivial⟩
             case rgS =>
               intro V
               refine rgGoals_cons 1 (by intro v; simp only [Act.put, List.setIfInBounds_toArray, List.set_cons_zero, List.set_cons_succ]; exact rfl) rfl (fun w hC hd K hK => ?_) ?_
               · clear hd
                 subst hC; (try go_simp); exact hK _ _ rfl rfl
               refine rgGoals_cons 2 (by intro v; simp only [Act.put, List.setIfInBounds_toArray, List.set_cons_zero, List.set_cons_succ]; exact rfl) rfl (fun w hC hd K hK => ?_) ?_
               · clear hd
                 subst hC; (try go_simp); exact hK _ _ rfl rfl
               refine rgGoals_cons 3 (by intro v; simp only [Act.put, List.setIfInBounds_toArray, List.set_cons_zero, List.set_cons_succ]; exact rfl) rfl (fun w hC hd K hK => ?_) ?_
               · obtain ⟨h0, _⟩ := hd
                 replace h0 : V 0 = .int .i64 i := h0
                 simp only [h0] at hK
                 subst hC; (try go_simp); exact hK _ _ rfl rfl
               trivial
             -- END REGION
             case rgC => rintro w1 w2 rfl rfl; rfl
             case rg0 => exact HD.out.symm
             case rgQ =>
               intro V w2 hC hp
               subst hC
               have h0 : V 0 = .int .i64 i := postsHold_at hp 0 rfl
               have h1 : V 1 = .agg #[.int .i64 y1, .int .i64 t1] := postsHold_at hp 1 rfl
               have h2 : V 2 = .int .i64 i := postsHold_at hp 2 rfl
               clear HD
               simp only [List.take_succ_cons, List.take_zero, List.drop_succ_cons, List.drop_zero, putAll, Act.put, List.setIfInBounds_toArray, List.set_cons_zero, List.set_cons_succ]
               simp only [Nat.reduceAdd, h0, h1, h2]
               go_wp2
               obtain ⟨r0, r1⟩ := two_cells (.int .i64 y1) (.int .i64 t1) g0 g1
               try simp only [Exit.inBlock, Exit.then]
               refine bodyPost_ret (v := .tuple #[.int .i64 i, .agg #[.int .i64 y1, .int .i64 t1]]) (by simp [results, Try.results12, go_sem, r0, r1]) rfl ?_
               have hb2 : Below w.heap.size w2 ((w2.setCell ⟨w.heap.size + 1, 0, none⟩ (.int .i64 y1)).setCell ⟨w.heap.size + 1, 1, none⟩ (.int .i64 t1)) := (two_below (w.heap.size + 1) (.int .i64 y1) (.int .i64 t1) w2).mono (Nat.le_succ _)
               have hrw0 : Ran q w.heap.size w w' := (Ran.of q hbW).trans (hrw.mono (by omega))
               have hb3 : Below w.heap.size w' ((w2.setCell ⟨w.heap.size + 1, 0, none⟩ (.int .i64 y1)).setCell ⟨w.heap.size + 1, 1, none⟩ (.int .i64 t1)) := (hbd.mono hrw0.size).trans hb2
               refine ⟨by rw [← e.out], hrw0.below_to hb3, ?_⟩
               rw [← e.out]
               exact ⟨(hb3.cell (p := ⟨q, 0, none⟩) hq).trans hcell', (hb3.frozen (p := ⟨q, 0, none⟩) hq).trans hloose', Nat.lt_of_lt_of_le hhere' hb3.size⟩)
      · have e := hid ((eachF_past N R i c hin).symm.trans He.out)
        obtain ⟨a1, a2, a3, a4, a5, a6⟩ := Kb.out wr hrn
        obtain ⟨hcell, hloose, hhere⟩ := hnr
        have hrw0 : Ran q w.heap.size w wr := (Ran.of q hbW).trans (hrn.mono (by omega))
        have tt : decide ((i : Int) < max n 0) = false := by simp; omega
        have tt2 : decide ((i : Int) < n) = false := by simp; omega
        go_wp2
        all_goals
          obtain ⟨r0, r1⟩ := two_cells (.int .i64 0) (.int .i64 0) a2 a3
          try simp only [Exit.inBlock, Exit.then]
          refine bodyPost_ret (v := .tuple #[.int .i64 N, .agg #[.int .i64 0, .int .i64 0]]) (by simp [results, Try.results12, go_sem, r0, r1]; try omega) rfl ?_
          have hb3 : Below w.heap.size wr ((wr.setCell ⟨w.heap.size + 1, 0, none⟩ (.int .i64 0)).setCell ⟨w.heap.size + 1, 1, none⟩ (.int .i64 0)) := (two_below (w.heap.size + 1) (.int .i64 0) (.int .i64 0) wr).mono (Nat.le_succ _)
          refine ⟨by rw [← e.out], hrw0.below_to hb3, ?_⟩
          rw [← e.out]
          exact ⟨(hb3.cell (p := ⟨q, 0, none⟩) hq).trans hcell, (hb3.frozen (p := ⟨q, 0, none⟩) hq).trans hloose, Nat.lt_of_lt_of_le hhere hb3.size⟩
end Go.Proofs.Ytbaomlmannpnaaa
