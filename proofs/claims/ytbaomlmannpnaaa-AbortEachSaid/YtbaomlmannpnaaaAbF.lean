/- What is proved here: what the closures of run, and Within, come to. -/
import Derived.Test.YtbaomlmannpnaaaAbD
namespace Go.Proofs.Ytbaomlmannpnaaa
open Go.RowKit
set_option linter.unusedVariables false
set_option linter.unusedSimpArgs false

/-- What run comes to. -/
def RunPost (q : Nat) (w : World) (r : Int × Int × Int) (e : Ending) (w' : World) : Prop := e = endOf r.2 ∧ Ran q w.heap.size w w' ∧ NC q w' r.1

theorem enterOf {P : Program} {f : FuncId} {fn : Func} {c : Code} (hf : P.funcs[f]? = some fn) (hn : (fn.name == "runtime.NumGoroutine") = false) (hb : fn.body = some c) (args : Array Value) (w : World) :
    (callFunc f args).run P w = .ok (.enter f args) w := by
  have hne : fn.name ≠ "runtime.NumGoroutine" := by simpa using hn
  simp [callFunc, hf, hne, hb]

theorem enter43 (args : Array Value) (w : World) : (callFunc 43 args).run Try.prog w = .ok (.enter 43 args) w := enterOf Try.func43 (by kernel_rfl) rfl args w
theorem enter44 (args : Array Value) (w : World) : (callFunc 44 args).run Try.prog w = .ok (.enter 44 args) w := enterOf Try.func44 (by kernel_rfl) rfl args w

set_option maxRecDepth 100000 in
theorem in43 (x y : Nat) (sl pt : Value) (w : World) (q : Nat) (r : Int × Int × Int) (h0 : w.cell? ⟨x, 0, none⟩ = some sl) (h1 : w.cell? ⟨y, 0, none⟩ = some pt) (h : Calls Try.prog 14 #[sl, pt] w (RunPost q w r)) :
    Calls Try.prog 43 #[.pointer (some ⟨x, 0, none⟩), .pointer (some ⟨y, 0, none⟩)] w (RunPost q w r) := by
  have H := hid h; clear h
  go_enter Try.func43, Try.ntmps43
  go_wp2_with fail
  refine H.out.mono ?_
  rintro e w' ⟨rfl, hr, hn⟩
  by_cases hz : r.2.1 = 0
  · have e : endOf r.2 = .returned (.tuple #[]) := if_pos hz
    rw [e]
    go_wp2
    go_end0
    exact ⟨e.symm, hr, hn⟩
  · have e : endOf r.2 = .panicked [{ v := stopV r.2.1 r.2.2, recovered := false }] := if_neg hz
    rw [e]
    exact ⟨rfl, e.symm, hr, hn⟩

set_option maxRecDepth 100000 in
theorem in44 (x y : Nat) (sl pt : Value) (w : World) (q : Nat) (r : Int × Int × Int) (h0 : w.cell? ⟨x, 0, none⟩ = some sl) (h1 : w.cell? ⟨y, 0, none⟩ = some pt) (h : Calls Try.prog 14 #[sl, pt] w (RunPost q w r)) :
    Calls Try.prog 44 #[.pointer (some ⟨x, 0, none⟩), .pointer (some ⟨y, 0, none⟩)] w (RunPost q w r) := by
  have H := hid h; clear h
  go_enter Try.func44, Try.ntmps44
  go_wp2_with fail
  refine H.out.mono ?_
  rintro e w' ⟨rfl, hr, hn⟩
  by_cases hz : r.2.1 = 0
  · have e : endOf r.2 = .returned (.tuple #[]) := if_pos hz
    rw [e]
    go_wp2
    go_end0
    exact ⟨e.symm, hr, hn⟩
  · have e : endOf r.2 = .panicked [{ v := stopV r.2.1 r.2.2, recovered := false }] := if_neg hz
    rw [e]
    exact ⟨rfl, e.symm, hr, hn⟩

theorem NC.ext' {q B : Nat} {w w' : World} {c : Int} (h : NC q w c) (hq : q < B) (hb : Below B w w') : NC q w' c :=
  ⟨(hb.cell (p := ⟨q, 0, none⟩) hq).trans h.cell, (hb.frozen (p := ⟨q, 0, none⟩) hq).trans h.loose, Nat.lt_of_lt_of_le h.here hb.size⟩

/-- Out, of a function value that counts in q. -/
theorem out_cnt (k : FuncId) (cap : Array Value) (w : World) (q : Nat) (r : Int × Int × Int) (hq : q < w.heap.size) (hs : r.2.1 = 0 → r.2.2 = 0)
    (hin : ∀ (args : Array Value) (w : World), (callFunc k args).run Try.prog w = .ok (.enter k args) w)
    (hc : Calls Try.prog k cap (w.alloc (.cells zstop 27)) (RunPost q (w.alloc (.cells zstop 27)) r)) :
    Calls Try.prog 15 #[.func (.func k) #[] cap] w fun e w' => e = .returned (.agg #[.int .i64 r.2.1, .int .i64 r.2.2]) ∧ Ran q w.heap.size w w' ∧ NC q w' r.1 := by
  refine (out_end k cap w (fun w' => NC q w' r.1) r.2 hs q (Nat.ne_of_lt hq) hin (hc.mono ?_)).mono ?_
  · rintro e w' ⟨rfl, hr, hn⟩
    exact ⟨rfl, by simpa using hr, hn⟩
  · rintro e w' ⟨rfl, w1, hn, hr, hb⟩
    refine ⟨rfl, ?_, hn.ext' hq hb⟩
    exact (((Ran.refl q _ w).alloc (Nat.le_refl _) _).trans (hr.mono (Nat.le_succ _))).below_to hb

set_option maxRecDepth 100000 in
theorem within_any (k : FuncId) (cap : Array Value) (by' y t : Int) (w : World) (P : World → Prop) (h : Calls Try.prog 15 #[.func (.func k) #[] cap] w fun e w' => e = .returned (.agg #[.int .i64 y, .int .i64 t]) ∧ P w') :
    Calls Try.prog 38 #[.int .i64 by', .func (.func k) #[] cap] w fun e w' => e = endOf (if y = 0 then (0, 0) else (y, wrap64 (t + by'))) ∧ ∃ w1, P w1 ∧ Below w1.heap.size w1 w' := by
  have H := hid h; clear h
  by_cases hy : y = 0
  · subst hy
    go_enter Try.func38, Try.ntmps38
    go_wp2_with fail
    refine H.out.mono ?_
    rintro e w1 ⟨rfl, hP⟩
    go_wp2
    go_end0
    exact ⟨rfl, w1, hP, (Below.refl _ _).alloc (Nat.le_refl _) _⟩
  · have h1 : (y != 0) = true := by simp [hy]
    have hy2 := hid hy; clear hy
    go_enter Try.func38, Try.ntmps38
    go_wp2_with fail
    refine H.out.mono ?_
    rintro e w1 ⟨rfl, hP⟩
    go_wp2_with fail
    refine (now_any _ _ _).mono ?_
    rintro ev w' ⟨rfl, rfl⟩
    refine ⟨rfl, ?_, w1, hP, ?_⟩
    · rw [if_neg hy2.out]; exact (if_neg hy2.out).symm
    · exact (Below.refl _ _).alloc (Nat.le_refl _) _

theorem out43 (y : Nat) (sl pt : Value) (T : TypeId) (wr : World) (q : Nat) (r : Int × Int × Int) (hq : q < wr.heap.size) (hy : y < wr.heap.size) (hcy : wr.cell? ⟨y, 0, none⟩ = some pt) (hs : r.2.1 = 0 → r.2.2 = 0)
    (hrun : ∀ w2, Below wr.heap.size wr w2 → Calls Try.prog 14 #[sl, pt] w2 (RunPost q w2 r)) :
    Calls Try.prog 15 #[.func (.func 43) #[] #[.pointer (some ⟨wr.heap.size, 0, none⟩), .pointer (some ⟨y, 0, none⟩)]] (wr.alloc (.cells #[sl] T)) fun e w' => e = .returned (.agg #[.int .i64 r.2.1, .int .i64 r.2.2]) ∧ Ran q wr.heap.size wr w' ∧ NC q w' r.1 := by
  have hb : Below wr.heap.size wr ((wr.alloc (.cells #[sl] T)).alloc (.cells zstop 27)) := ((Below.refl _ _).alloc (Nat.le_refl _) _).alloc (by simp) _
  refine (out_cnt _ _ _ q r (by simp; omega) hs enter43 (in43 _ _ sl pt _ q r ?_ ?_ (hrun _ hb))).mono ?_
  · rw [World.cell?_alloc_lt (h := by simp)]; simp
  · exact (hb.cell (p := ⟨y, 0, none⟩) hy).trans hcy
  · rintro e w' ⟨rfl, hr, hn⟩
    exact ⟨rfl, ((Ran.refl q _ wr).alloc (Nat.le_refl _) _).trans (hr.mono (by simp)), hn⟩

theorem within44 (y : Nat) (sl pt : Value) (by' : Int) (T : TypeId) (wr : World) (q : Nat) (r : Int × Int × Int) (hq : q < wr.heap.size) (hy : y < wr.heap.size) (hcy : wr.cell? ⟨y, 0, none⟩ = some pt) (hs : r.2.1 = 0 → r.2.2 = 0)
    (hrun : ∀ w2, Below wr.heap.size wr w2 → Calls Try.prog 14 #[sl, pt] w2 (RunPost q w2 r)) :
    Calls Try.prog 38 #[.int .i64 by', .func (.func 44) #[] #[.pointer (some ⟨wr.heap.size, 0, none⟩), .pointer (some ⟨y, 0, none⟩)]] (wr.alloc (.cells #[sl] T)) fun e w' => e = endOf (if r.2.1 = 0 then (0, 0) else (r.2.1, wrap64 (r.2.2 + by'))) ∧ Ran q wr.heap.size wr w' ∧ NC q w' r.1 := by
  have hb : Below wr.heap.size wr ((wr.alloc (.cells #[sl] T)).alloc (.cells zstop 27)) := ((Below.refl _ _).alloc (Nat.le_refl _) _).alloc (by simp) _
  refine (within_any _ _ by' r.2.1 r.2.2 _ (fun w' => Ran q wr.heap.size wr w' ∧ NC q w' r.1) ((out_cnt _ _ _ q r (by simp; omega) hs enter44 (in44 _ _ sl pt _ q r ?_ ?_ (hrun _ hb))).mono ?_)).mono ?_
  · rw [World.cell?_alloc_lt (h := by simp)]; simp
  · exact (hb.cell (p := ⟨y, 0, none⟩) hy).trans hcy
  · rintro e w' ⟨rfl, hr, hn⟩
    exact ⟨rfl, ((Ran.refl q _ wr).alloc (Nat.le_refl _) _).trans (hr.mono (by simp)), hn⟩
  · rintro e w' ⟨rfl, w1, ⟨hr, hn⟩, hb1⟩
    exact ⟨rfl, hr.below_to (hb1.mono hr.size), hn.ext hb1⟩
end Go.Proofs.Ytbaomlmannpnaaa
