/- What is proved here: what Finally and Unless come to, and the law AbortFinally, walked. -/
import Derived.Test.YtbaomlmannpnaaaAbH
namespace Go.Proofs.Ytbaomlmannpnaaa
open Go.RowKit
set_option linter.unusedVariables false
set_option linter.unusedSimpArgs false

theorem enter19 (args : Array Value) (w : World) : (callFunc 19 args).run Try.prog w = .ok (.enter 19 args) w := enterOf Try.func19 (by kernel_rfl) rfl args w
theorem enter21 (args : Array Value) (w : World) : (callFunc 21 args).run Try.prog w = .ok (.enter 21 args) w := enterOf Try.func21 (by kernel_rfl) rfl args w
theorem enter23 (args : Array Value) (w : World) : (callFunc 23 args).run Try.prog w = .ok (.enter 23 args) w := enterOf Try.func23 (by kernel_rfl) rfl args w

set_option maxRecDepth 100000 in
theorem unless_any (b : Bool) (why at' : Int) (w : World) : Calls Try.prog 24 #[.bool b, .int .i64 why, .int .i64 at'] w fun e w' => e = (if b then .returned (.tuple #[]) else .panicked [{ v := stopV why at', recovered := false }]) ∧ w' = w := by
  cases b
  · go_enter Try.func24, Try.ntmps24
    go_wp2_with fail
    refine (now_any _ _ _).mono ?_
    rintro ev w' ⟨rfl, rfl⟩
    exact ⟨rfl, rfl, rfl⟩
  · go_enter Try.func24, Try.ntmps24
    go_wp2
    go_end0
    exact ⟨rfl, rfl⟩

/-- What is asked by the law's second call. -/
def unS (b : Bool) (c : Int) : Int × Int := if b then (0, 0) else (1 + maskI c 63, 7)

theorem unS_zero (b : Bool) (c : Int) : (unS b c).1 = 0 → (unS b c).2 = 0 := by
  cases b
  · intro h
    have := maskI_63 c
    replace h : 1 + maskI c 63 = 0 := h
    omega
  · intro _; rfl

set_option maxRecDepth 100000 in
theorem in23 (x y : Nat) (b : Bool) (c : Int) (w : World) (h0 : w.cell? ⟨x, 0, none⟩ = some (.bool b)) (h1 : w.cell? ⟨y, 0, none⟩ = some (.int .i64 c)) :
    Calls Try.prog 23 #[.pointer (some ⟨x, 0, none⟩), .pointer (some ⟨y, 0, none⟩)] w fun e w' => e = endOf (unS b c) ∧ w' = w := by
  have hm : wrap64 (1 + maskI c 63) = 1 + maskI c 63 := by have := maskI_63 c; unfold wrap64; omega
  have Hm := hid hm; clear hm
  go_enter Try.func23, Try.ntmps23
  go_wp2_with fail
  refine (unless_any b _ 7 _).mono ?_
  rintro ev w' ⟨rfl, rfl⟩
  cases b
  · have hne : ¬ (1 + maskI c 63 = 0) := by have := maskI_63 c; omega
    have e : endOf (unS false c) = .panicked [{ v := stopV (1 + maskI c 63) 7, recovered := false }] := if_neg hne
    refine ⟨rfl, ?_, rfl⟩
    rw [e]
    exact congrArg (fun x => Ending.panicked [{ v := stopV x 7, recovered := false }]) Hm.out
  · simp only [if_true]
    go_wp2
    go_end0
    exact ⟨rfl, rfl⟩

set_option maxRecDepth 100000 in
theorem in21 (x : Nat) (sl : Value) (w : World) (q : Nat) (r : Int × Int × Int) (h0 : w.cell? ⟨x, 0, none⟩ = some sl) (h : Calls Try.prog 14 #[sl, .pointer (some ⟨q, 0, none⟩)] w (RunPost q w r)) :
    Calls Try.prog 21 #[.pointer (some ⟨x, 0, none⟩), .pointer (some ⟨q, 0, none⟩)] w (RunPost q w r) := by
  have H := hid h; clear h
  go_enter Try.func21, Try.ntmps21
  go_wp2_with fail
  refine H.out.mono ?_
  rintro e w' ⟨rfl, hr, hn⟩
  by_cases hz : r.2.1 = 0
  · have e : endOf r.2 = .returned (.tuple #[]) := if_pos hz
    rw [e]
    go_wp2
    go_end0
    exact ⟨e.symm, hr, hn⟩
  · have e : endOf r.2 = .panicked [{ v := stopV r.2.1 r.2.2, recovered := false }] := if_neg hz
    rw [e]
    exact ⟨rfl, e.symm, hr, hn⟩

set_option maxRecDepth 100000 in
theorem in22 (p l : Nat) (c : Int) (v0 : Value) (u : FrameMode) (w : World) (h0 : w.cell? ⟨p, 0, none⟩ = some (.int .i64 c)) (h1 : w.cell? ⟨l, 0, none⟩ = some v0) (h2 : w.frozen? ⟨l, 0, none⟩ = false) :
    CallsD Try.prog 22 #[.pointer (some ⟨p, 0, none⟩), .pointer (some ⟨l, 0, none⟩)] u w fun e u' w' => u' = u ∧ e = .returned (.tuple #[]) ∧ w' = w.setCell ⟨l, 0, none⟩ (.int .i64 c) := by
  refine (callsD_of_wp (R := fun e w' => e = .returned (.tuple #[]) ∧ w' = w.setCell ⟨l, 0, none⟩ (.int .i64 c)) Try.func22 rfl ?_).mono (fun _ _ _ h => h)
  simp only [Try.ntmps22, List.size_toArray, List.length_cons, List.length_nil, Nat.reduceAdd, Nat.reduceSub, Array.replicate_succ, Array.replicate_zero, List.push_toArray, List.append_toArray, List.nil_append, List.cons_append]
  go_wp2
  go_end0
  exact ⟨rfl, rfl⟩

set_option maxHeartbeats 400000 in
set_option maxRecDepth 100000 in
theorem finally_any (c1 : Array Value) (q l : Nat) (v0 : Value) (w : World) (r : Int × Int × Int) (hlq : l ≠ q) (hls : l < w.heap.size) (h1 : w.cell? ⟨l, 0, none⟩ = some v0) (h2 : w.frozen? ⟨l, 0, none⟩ = false)
    (h : Calls Try.prog 21 c1 w (RunPost q w r)) :
    Calls Try.prog 20 #[.func (.func 21) #[] c1, .func (.func 22) #[] #[.pointer (some ⟨q, 0, none⟩), .pointer (some ⟨l, 0, none⟩)]] w fun e w' =>
      e = endOf r.2 ∧ ∃ w1, Ran q w.heap.size w w1 ∧ NC q w1 r.1 ∧ w' = w1.setCell ⟨l, 0, none⟩ (.int .i64 r.1) := by
  have hin := enter21
  have H := hid h; clear h
  go_enter_defers Try.func20, Try.ntmps20
  go_wp2_with fail
  refine H.out.mono ?_
  rintro e w' ⟨rfl, hr, hn⟩
  have k1 := (hr.cell (p := ⟨l, 0, none⟩) hls hlq).trans h1
  have k2 := (hr.frozen (p := ⟨l, 0, none⟩) hls hlq).trans h2
  by_cases hz : r.2.1 = 0
  · have e : endOf r.2 = .returned (.tuple #[]) := if_pos hz
    rw [e]
    go_wp2_with fail
    refine leaves_cons (f := 22) (args := #[.pointer (some ⟨q, 0, none⟩), .pointer (some ⟨l, 0, none⟩)]) (by simp) (by simp [go_sem]) ?_
    refine (in22 q l r.1 _ _ w' hn.cell k1 k2).mono ?_
    rintro e u' w'' ⟨rfl, rfl, rfl⟩
    simp [Leaves, settle, results, Try.results20, go_sem]
    exact ⟨e.symm, w', hr, hn, rfl⟩
  · have e : endOf r.2 = .panicked [{ v := stopV r.2.1 r.2.2, recovered := false }] := if_neg hz
    rw [e]
    refine leaves_cons (f := 22) (args := #[.pointer (some ⟨q, 0, none⟩), .pointer (some ⟨l, 0, none⟩)]) (by simp) (by simp [go_sem]) ?_
    refine (in22 q l r.1 _ _ w' hn.cell k1 k2).mono ?_
    rintro e u' w'' ⟨rfl, rfl, rfl⟩
    simp [Leaves, settle, results, Try.results20, go_sem]
    exact ⟨e.symm, w', hr, hn, rfl⟩

/-- A block of one cell, set. -/
def setU (v : Nat) (u : Value) (w : World) : World := w.setCell ⟨v, 0, none⟩ u

theorem setU_size (v : Nat) (u : Value) (w : World) : (setU v u w).heap.size = w.heap.size := by simp [setU, World.setCell]

theorem setU_ran {q B v : Nat} {u : Value} {a w : World} (h : Ran q B a w) : Ran q B (setU v u a) (setU v u w) := h.setBoth _ _

theorem setU_nc {q v : Nat} {u : Value} {w : World} {c : Int} (h : NC q w c) (hv : v ≠ q) : NC q (setU v u w) c :=
  ⟨(World.cell?_setCell_other w ⟨v, 0, none⟩ ⟨q, 0, none⟩ _ (by intro h; injection h with h1; exact hv h1)).trans h.cell, (World.frozen?_setCell _ _ _ _).trans h.loose, by have := h.here; simpa [setU, World.setCell] using this⟩

theorem out_set (v : Nat) (u : Value) (k : FuncId) (cap : Array Value) (w : World) (q : Nat) (r : Int × Int × Int) (hq : q < w.heap.size) (hs : r.2.1 = 0 → r.2.2 = 0) (hvq : v ≠ q) (hvs : v < w.heap.size)
    (hin : ∀ (args : Array Value) (w : World), (callFunc k args).run Try.prog w = .ok (.enter k args) w)
    (h : Calls Try.prog k cap (w.alloc (.cells zstop 27)) fun e w' => e = endOf r.2 ∧ ∃ w1, Ran q (w.alloc (.cells zstop 27)).heap.size (w.alloc (.cells zstop 27)) w1 ∧ NC q w1 r.1 ∧ w' = w1.setCell ⟨v, 0, none⟩ u) :
    Calls Try.prog 15 #[.func (.func k) #[] cap] w fun e w' => e = .returned (.agg #[.int .i64 r.2.1, .int .i64 r.2.2]) ∧ Ran q w.heap.size (setU v u w) w' ∧ NC q w' r.1 := by
  have hb : Below w.heap.size w (w.alloc (.cells zstop 27)) := (Below.refl _ _).alloc (Nat.le_refl _) _
  refine (out_of _ _ w (fun w1 => r.2.1 = 0 ∧ Ran q w.heap.size (setU v u w) w1 ∧ NC q w1 r.1 ∧ w.heap.size < w1.heap.size) (fun y t w1 => y = r.2.1 ∧ t = r.2.2 ∧ Ran q w.heap.size (setU v u w) w1 ∧ NC q w1 r.1 ∧ w.heap.size < w1.heap.size) hin (h.mono ?_)).mono ?_
  · rintro e w' ⟨rfl, w1, hr, hn, rfl⟩
    have hr2 : Ran q (w.alloc (.cells zstop 27)).heap.size (setU v u (w.alloc (.cells zstop 27))) (setU v u w1) := setU_ran hr
    have c0 : (setU v u (w.alloc (.cells zstop 27))).cell? ⟨w.heap.size, 0, none⟩ = some (.int .i64 0) :=
      (World.cell?_setCell_other _ ⟨v, 0, none⟩ ⟨w.heap.size, 0, none⟩ _ (by intro h; injection h with h1; omega)).trans (by simp [zstop])
    have c1 : (setU v u (w.alloc (.cells zstop 27))).cell? ⟨w.heap.size, 1, none⟩ = some (.int .i64 0) :=
      (World.cell?_setCell_other _ ⟨v, 0, none⟩ ⟨w.heap.size, 1, none⟩ _ (by intro h; injection h with h1; omega)).trans (by simp [zstop])
    have z0 : ∀ o, o < 2 → (setU v u (w.alloc (.cells zstop 27))).frozen? ⟨w.heap.size, o, none⟩ = false := by
      intro o ho
      have : o = 0 ∨ o = 1 := by omega
      refine (World.frozen?_setCell _ _ _ _).trans ?_
      rcases this with rfl | rfl <;> simp [zstop, go_sem]
    have hlt : w.heap.size < (w.alloc (.cells zstop 27)).heap.size := by simp
    have hqne : w.heap.size ≠ q := Nat.ne_of_gt hq
    have hsz : w.heap.size < (setU v u w1).heap.size := by rw [setU_size]; exact Nat.lt_of_lt_of_le hlt hr.size
    have hkeep : Ran q w.heap.size (setU v u w) (setU v u w1) := setU_ran ((Ran.of q hb).trans (hr.mono (Nat.le_of_lt hlt)))
    have hn2 : NC q (setU v u w1) r.1 := setU_nc hn hvq
    have f0 := (hr2.cell (p := ⟨w.heap.size, 0, none⟩) hlt hqne).trans c0
    have f1 := (hr2.cell (p := ⟨w.heap.size, 1, none⟩) hlt hqne).trans c1
    have f2 := (hr2.frozen (p := ⟨w.heap.size, 0, none⟩) hlt hqne).trans (z0 0 (by omega))
    have f3 := (hr2.frozen (p := ⟨w.heap.size, 1, none⟩) hlt hqne).trans (z0 1 (by omega))
    rw [show w1.setCell ⟨v, 0, none⟩ u = setU v u w1 from rfl]
    unfold endOf
    by_cases hz : r.2.1 = 0
    · rw [if_pos hz]
      exact Or.inl ⟨rfl, f0, f1, f2, f3, hsz, hz, hkeep, hn2, hsz⟩
    · rw [if_neg hz]
      exact Or.inr ⟨r.2.1, r.2.2, rfl, f0, f1, f2, f3, hsz, rfl, rfl, hkeep, hn2, hsz⟩
  · rintro e w' (⟨rfl, w1, ⟨hz, hkeep, hn, hsz⟩, rfl⟩ | ⟨y, t, w1, rfl, ⟨rfl, rfl, hkeep, hn, hsz⟩, rfl⟩)
    · rw [hs hz, hz]
      exact ⟨rfl, hkeep.below_to (two_below _ _ _ _), hn.ext' hq (two_below _ _ _ _)⟩
    · have hb2 : Below w.heap.size w1 (((w1.setCell ⟨w.heap.size, 0, none⟩ (.int .i64 r.2.1)).setCell ⟨w.heap.size, 1, none⟩ (.int .i64 r.2.2)).alloc (.cells #[.int .i64 r.2.1, .int .i64 r.2.2] 27)) :=
        (two_below _ _ _ _).alloc (by simp [World.setCell]; omega) _
      exact ⟨rfl, hkeep.below_to hb2, hn.ext' hq hb2⟩


set_option maxRecDepth 100000 in
theorem in19 (x q l : Nat) (sl v0 : Value) (w : World) (r : Int × Int × Int) (hlq : l ≠ q) (hls : l < w.heap.size) (h0 : w.cell? ⟨x, 0, none⟩ = some sl) (h1 : w.cell? ⟨l, 0, none⟩ = some v0) (h2 : w.frozen? ⟨l, 0, none⟩ = false) (h : Calls Try.prog 14 #[sl, .pointer (some ⟨q, 0, none⟩)] w (RunPost q w r)) :
    Calls Try.prog 19 #[.pointer (some ⟨x, 0, none⟩), .pointer (some ⟨q, 0, none⟩), .pointer (some ⟨l, 0, none⟩)] w fun e w' => e = endOf r.2 ∧ ∃ w1, Ran q w.heap.size w w1 ∧ NC q w1 r.1 ∧ w' = w1.setCell ⟨l, 0, none⟩ (.int .i64 r.1) := by
  have hmf : ∀ (fn : Fn) (first cap : Array Value) (w : World), (Instr.makeFunc fn first cap).run Try.prog w = .ok (.func fn first cap) w := fun _ _ _ _ => rfl
  have H := finally_any _ q l v0 w r hlq hls h1 h2 (in21 x sl w q r h0 h)
  have H := hid H; clear h
  go_enter Try.func19, Try.ntmps19
  go_wp2_with fail
  refine H.out.mono ?_
  rintro e w' ⟨rfl, hw⟩
  by_cases hz : r.2.1 = 0
  · have e : endOf r.2 = .returned (.tuple #[]) := if_pos hz
    rw [e]
    go_wp2
    go_end0
    exact ⟨e.symm, hw⟩
  · have e : endOf r.2 = .panicked [{ v := stopV r.2.1 r.2.2, recovered := false }] := if_neg hz
    rw [e]
    exact ⟨rfl, e.symm, hw⟩

set_option maxHeartbeats 4000000 in
set_option maxRecDepth 100000 in
theorem finally_law (a : Option Addr) (n cap : Nat) (g : Nat → St) (is : Bool) (code : Int) (w : World) (hlc : n ≤ cap) (hr : StR w a n g) :
    Calls Try.prog 5 #[.slice a n cap, .bool is, .int .i64 code] w fun e w' => e = .returned (.bool true) ∧ Below w.heap.size w w' := by
  have hmf : ∀ (fn : Fn) (first cap : Array Value) (w : World), (Instr.makeFunc fn first cap).run Try.prog w = .ok (.func fn first cap) w := fun _ _ _ _ => rfl
  have Hr := hid hr; clear hr
  go_enter Try.func5, Try.ntmps5
  go_wp2_with fail
  obtain ⟨w0, hw0, hsz0, hb0, b4, b5⟩ := allocs2 w #[.bool is] #[.int .i64 code] 4 3
  rw [← hw0]; clear hw0
  refine (awake_any _).mono ?_
  rintro ev w1 ⟨rfl, hb1'⟩
  have hb1 : Below w.heap.size w w1 := hb0.trans (hb1'.mono (by omega))
  have hb1s' := hb1'.size
  have k4 : w1.cell? ⟨w.heap.size, 0, none⟩ = some (.bool is) := (hb1'.cell (p := ⟨w.heap.size, 0, none⟩) (show w.heap.size < w0.heap.size by omega)).trans (cell_of_row _ _ 0 _ _ _ b4)
  have k5 : w1.cell? ⟨w.heap.size + 1, 0, none⟩ = some (.int .i64 code) := (hb1'.cell (p := ⟨w.heap.size + 1, 0, none⟩) (show w.heap.size + 1 < w0.heap.size by omega)).trans (cell_of_row _ _ 0 _ _ _ b5)
  clear b4 b5 hb1'
  by_cases hn : n ≤ 40
  · have t : decide ((n : Int) > 40) = false := by simp; omega
    go_wp2_with fail
    refine (plain_any a n cap g w1 hlc (by omega) (Hr.out.ext hb1)).mono ?_
    rintro ev w2 ⟨a', c', rfl, hc', hr2, ha', hb2⟩
    go_wp2_with fail
    have hb3 : Below w2.heap.size w2 (w2.alloc (.cells #[.slice a' n c'] 24)) := (Below.refl _ _).alloc (Nat.le_refl _) _
    refine (refRun_any n a' n c' (plF g) _ (Nat.le_refl _) hc' (by omega) (hr2.ext hb3)).mono ?_
    rintro ev w3 ⟨rfl, hb4⟩
    go_wp2_with fail
    have hsl3 : w3.cell? ⟨w2.heap.size, 0, none⟩ = some (.slice a' n c') := (hb4.cell (p := ⟨w2.heap.size, 0, none⟩) (by simp)).trans (cell_of_row _ _ 0 _ _ _ (heap_alloc_last _ _))
    have hs32 : w2.heap.size < w3.heap.size := by have := hb4.size; simp at this; omega
    have hr3 : StR w3 a' n (plF g) := (hr2.ext hb3).ext hb4
    have hb13 : Below w1.heap.size w1 w3 := (hb2.trans (hb3.mono hb2.size)).trans (hb4.mono (by have := hb2.size; simp; omega))
    have hw12 := hb2.size
    obtain ⟨W, hW, hszW, hbW, b0, b1⟩ := allocs2 w3 #[.int .i64 0] #[.int .i64 (-1)] 3 3
    rw [← hW]; clear hW
    have hne : ∀ j, j < n → (plF g j).2.1 ≠ 0 := fun j _ => plF_ne g j
    have hs0 : (simF (plF g) n 0 0).2.1 = 0 → (simF (plF g) n 0 0).2.2 = 0 := fun h => simF_zero (plF g) n n 0 0 (by omega) h hne
    have hruns : ∀ q w2', q < w2'.heap.size → (∀ x, a' = some x → x.block ≠ q ∧ x.block < w2'.heap.size) → StR w2' a' n (plF g) → NC q w2' 0 → Calls Try.prog 14 #[.slice a' n c', .pointer (some ⟨q, 0, none⟩)] w2' (RunPost q w2' (simF (plF g) n 0 0)) :=
      fun q w2' hq hx hst hnc => run_any n a' n c' (plF g) w2' q 0 (Nat.le_refl _) hc' (by omega) hst hx hne hnc (by unfold wrap64; omega)
    obtain ⟨S, hS⟩ : ∃ S, S = simF (plF g) n 0 0 := ⟨_, rfl⟩
    rw [← hS] at hruns hs0 ⊢
    have HS := hid hS; clear hS
    have Hruns := hid hruns; clear hruns
    have ncn : NC w3.heap.size W 0 := ⟨cell_of_row W _ 0 _ _ _ b0, frozen_of_row W _ 0 _ _ b0, by omega⟩
    have hslW : W.cell? ⟨w2.heap.size, 0, none⟩ = some (.slice a' n c') := (hbW.cell (p := ⟨w2.heap.size, 0, none⟩) hs32).trans hsl3
    have hl0 : W.cell? ⟨w3.heap.size + 1, 0, none⟩ = some (.int .i64 (-1)) := cell_of_row W _ 0 _ _ _ b1
    have hl1 := frozen_of_row W _ 0 _ _ b1
    have hbz : Below W.heap.size W (W.alloc (.cells zstop 27)) := (Below.refl _ _).alloc (Nat.le_refl _) _
    have lt3 : w3.heap.size + 1 < W.heap.size := by omega
    refine (out_set (w3.heap.size + 1) (.int .i64 S.1) _ _ W w3.heap.size S (by omega) hs0 (by omega) lt3 enter19 (in19 w2.heap.size w3.heap.size (w3.heap.size + 1) (.slice a' n c') (.int .i64 (-1)) _ S (by omega) (by simp; omega)
      ((hbz.cell (p := ⟨w2.heap.size, 0, none⟩) (Nat.lt_trans hs32 (by omega))).trans hslW) ((hbz.cell (p := ⟨w3.heap.size + 1, 0, none⟩) lt3).trans hl0) ((hbz.frozen (p := ⟨w3.heap.size + 1, 0, none⟩) lt3).trans hl1)
      (Hruns.out _ _ (by simp; omega) (fun x hx => by have := ha' x hx; simp; omega) ((hr3.ext hbW).ext hbz) (ncn.ext hbz)))).mono ?_
    rintro ev w4 ⟨rfl, hr4, hn4⟩
    have ne3 : w3.heap.size + 1 ≠ w3.heap.size := by omega
    have hlast : w4.cell? ⟨w3.heap.size + 1, 0, none⟩ = some (.int .i64 S.1) := (hr4.cell (p := ⟨w3.heap.size + 1, 0, none⟩) lt3 ne3).trans (World.cell?_setCell_same _ _ _ hl0)
    have hs4 : W.heap.size ≤ w4.heap.size := by have := hr4.size; rwa [setU_size] at this
    have hbs : Below w1.heap.size W (setU (w3.heap.size + 1) (.int .i64 S.1) W) := (Below.refl _ _).setCell (p := ⟨w3.heap.size + 1, 0, none⟩) (show w1.heap.size ≤ w3.heap.size + 1 by omega) _
    have hb14 : Below w1.heap.size w1 w4 := ((hb13.trans (hbW.mono hb13.size)).trans hbs).trans ((hr4.mono (show w1.heap.size ≤ W.heap.size by omega)).below (by omega))
    have k4' := (hb14.cell (p := ⟨w.heap.size, 0, none⟩) (show w.heap.size < w1.heap.size by omega)).trans k4
    have k5' := (hb14.cell (p := ⟨w.heap.size + 1, 0, none⟩) (show w.heap.size + 1 < w1.heap.size by omega)).trans k5
    obtain ⟨hcn, hln, hhn⟩ := hn4
    obtain ⟨x1, y1, t1⟩ := S
    dsimp only at hcn hlast ⊢
    clear hr4 hbs hl0 hl1 hslW ncn b0 b1 hne hr3 hr2 hsl3 hb3 hb4 k4 k5
    go_wp2_with fail
    obtain ⟨X, hX, hszX, hbX, d0⟩ := allocs1 w4 #[.int .i64 y1, .int .i64 t1] 27
    rw [← hX]; clear hX
    have hbz2 : Below X.heap.size X (X.alloc (.cells zstop 27)) := (Below.refl _ _).alloc (Nat.le_refl _) _
    have lt4 : w.heap.size < w4.heap.size := by omega
    have lt5 : w.heap.size + 1 < w4.heap.size := by omega
    have k4'' := (hbX.cell (p := ⟨w.heap.size, 0, none⟩) lt4).trans k4'
    have k5'' := (hbX.cell (p := ⟨w.heap.size + 1, 0, none⟩) lt5).trans k5'
    have lt4' : w.heap.size < X.heap.size := by omega
    have lt5' : w.heap.size + 1 < X.heap.size := by omega
    refine (out_pure _ _ X (unS is code) (unS_zero is code) enter23 ((in23 w.heap.size (w.heap.size + 1) is code _ ((hbz2.cell (p := ⟨w.heap.size, 0, none⟩) lt4').trans k4'') ((hbz2.cell (p := ⟨w.heap.size + 1, 0, none⟩) lt5').trans k5'')).mono (by rintro e w' ⟨rfl, rfl⟩; exact ⟨rfl, Below.refl _ _⟩))).mono ?_
    rintro ev w6 ⟨rfl, hb6⟩
    have lt6 : w4.heap.size < X.heap.size := by omega
    have lt7 : w3.heap.size + 1 < w4.heap.size := by omega
    have lt7' : w3.heap.size + 1 < X.heap.size := by omega
    have hhX : w3.heap.size < X.heap.size := by omega
    have f0 : w6.cell? ⟨w4.heap.size, 0, none⟩ = some (.int .i64 y1) := (hb6.cell (p := ⟨w4.heap.size, 0, none⟩) lt6).trans (cell_of_row X _ 0 _ _ _ d0)
    have f1 : w6.cell? ⟨w4.heap.size, 1, none⟩ = some (.int .i64 t1) := (hb6.cell (p := ⟨w4.heap.size, 1, none⟩) lt6).trans (cell_of_row X _ 1 _ _ _ d0)
    have f2 : w6.cell? ⟨w3.heap.size, 0, none⟩ = some (.int .i64 x1) := (hb6.cell (p := ⟨w3.heap.size, 0, none⟩) hhX).trans ((hbX.cell (p := ⟨w3.heap.size, 0, none⟩) hhn).trans hcn)
    have f3 : w6.cell? ⟨w3.heap.size + 1, 0, none⟩ = some (.int .i64 x1) := (hb6.cell (p := ⟨w3.heap.size + 1, 0, none⟩) lt7').trans ((hbX.cell (p := ⟨w3.heap.size + 1, 0, none⟩) lt7).trans hlast)
    have f4 : w6.cell? ⟨w.heap.size, 0, none⟩ = some (.bool is) := (hb6.cell (p := ⟨w.heap.size, 0, none⟩) lt4').trans k4''
    have f5 : w6.cell? ⟨w.heap.size + 1, 0, none⟩ = some (.int .i64 code) := (hb6.cell (p := ⟨w.heap.size + 1, 0, none⟩) lt5').trans k5''
    have hs6 := hb6.size
    have l0 : w4.heap.size < w6.heap.size := by omega
    have l1 : w3.heap.size < w6.heap.size := by omega
    have l2 : w3.heap.size + 1 < w6.heap.size := by omega
    have l3 : w.heap.size < w6.heap.size := by omega
    have l4 : w.heap.size + 1 < w6.heap.size := by omega
    have hb16 : Below w1.heap.size w1 w6 := (hb14.trans (hbX.mono hb14.size)).trans (hb6.mono (by omega))
    clear hb6 hbX hb14 k4' k5' k4'' k5'' d0 hbz hbz2 hcn hlast
    have hb1s := hb1.size
    cases is
    · have hm := wrap_mask code
      have hmr := maskI_63 code
      unfold unS
      simp only [Bool.false_eq_true, if_false]
      unfold maskI at hm hmr ⊢
      obtain ⟨mk, hmk⟩ : ∃ mk, bits BinOp.and IntKind.i64 code 63 = mk := ⟨_, rfl⟩
      rw [hmk] at hm hmr ⊢
      have Hm := hid hm; clear hm
      go_wp2
      go_ret
      exact ⟨rfl, hb1.trans ((hb16.alloc (by omega) _).mono hb1s)⟩
    · unfold unS
      simp only [if_true]
      go_wp2
      go_ret
      exact ⟨rfl, hb1.trans ((hb16.alloc (by omega) _).mono hb1s)⟩
  · have t : decide ((n : Int) > 40) = true := by simp; omega
    go_wp2
    go_ret
    exact ⟨rfl, hb1⟩
end Go.Proofs.Ytbaomlmannpnaaa
