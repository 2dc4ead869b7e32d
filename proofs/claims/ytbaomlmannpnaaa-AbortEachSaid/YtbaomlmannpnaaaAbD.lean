/- What is proved here: what Out comes to, of a function value that may give up; blocks that are kept but one. -/
import Derived.Test.YtbaomlmannpnaaaAbA
import Derived.Test.YtbaomlmannpnaaaAbC
namespace Go.Proofs.Ytbaomlmannpnaaa
open Go.RowKit
set_option linter.unusedVariables false
set_option linter.unusedSimpArgs false

/-- Below, but for one block. -/
structure Ran (q B : Nat) (w w' : World) : Prop where
  os : w'.os = w.os
  tape : w'.tape = w.tape
  output : w'.output = w.output
  size : w.heap.size ≤ w'.heap.size
  block : ∀ k, k < B → k ≠ q → w'.heap[k]? = w.heap[k]?

theorem Ran.refl (q B : Nat) (w : World) : Ran q B w w := ⟨rfl, rfl, rfl, Nat.le_refl _, fun _ _ _ => rfl⟩
theorem Ran.trans {q B : Nat} {a b c : World} (h : Ran q B a b) (k : Ran q B b c) : Ran q B a c :=
  ⟨k.os.trans h.os, k.tape.trans h.tape, k.output.trans h.output, Nat.le_trans h.size k.size, fun i hi hq => (k.block i hi hq).trans (h.block i hi hq)⟩
theorem Ran.mono {q B B' : Nat} {w w' : World} (h : Ran q B w w') (hB : B' ≤ B) : Ran q B' w w' := ⟨h.os, h.tape, h.output, h.size, fun k hk => h.block k (Nat.lt_of_lt_of_le hk hB)⟩
theorem Ran.of (q : Nat) {B : Nat} {w w' : World} (h : Below B w w') : Ran q B w w' := ⟨h.os, h.tape, h.output, h.size, fun k hk _ => h.block k hk⟩
theorem Ran.below {q B : Nat} {w w' : World} (h : Ran q B w w') (hq : B ≤ q) : Below B w w' := ⟨h.os, h.tape, h.output, h.size, fun k hk => h.block k hk (by omega)⟩
theorem Ran.setCell {q B : Nat} {a w : World} (h : Ran q B a w) (p : Addr) (hp : p.block = q ∨ B ≤ p.block) (u : Value) : Ran q B a (w.setCell p u) :=
  ⟨h.os, h.tape, h.output, by have := h.size; simpa [World.setCell] using this, fun k hk hq => (Below.heap_setCell w p u k (by rcases hp with hp | hp <;> omega)).trans (h.block k hk hq)⟩
theorem Ran.alloc {q B : Nat} {a w : World} (h : Ran q B a w) (hB : B ≤ w.heap.size) (o : Obj) : Ran q B a (w.alloc o) :=
  h.trans (Ran.of q ((Below.refl B w).alloc hB o))
theorem Ran.below_to {q B : Nat} {a b c : World} (h : Ran q B a b) (k : Below B b c) : Ran q B a c := h.trans (Ran.of q k)
theorem Ran.cell {q B : Nat} {w w' : World} (h : Ran q B w w') {p : Addr} (hp : p.block < B) (hq : p.block ≠ q) : w'.cell? p = w.cell? p := World.cell?_of_block (w := w) (h.block p.block hp hq)
theorem Ran.frozen {q B : Nat} {w w' : World} (h : Ran q B w w') {p : Addr} (hp : p.block < B) (hq : p.block ≠ q) : w'.frozen? p = w.frozen? p := World.frozen?_of_block (w := w) (h.block p.block hp hq)

/-- The number that is counted in. -/
structure NC (q : Nat) (w : World) (c : Int) : Prop where
  cell : w.cell? ⟨q, 0, none⟩ = some (.int .i64 c)
  loose : w.frozen? ⟨q, 0, none⟩ = false
  here : q < w.heap.size

theorem NC.ext {q : Nat} {w w' : World} {c : Int} (h : NC q w c) (hb : Below w.heap.size w w') : NC q w' c :=
  ⟨(hb.cell (p := ⟨q, 0, none⟩) h.here).trans h.cell, (hb.frozen (p := ⟨q, 0, none⟩) h.here).trans h.loose, Nat.lt_of_lt_of_le h.here hb.size⟩

theorem NC.set {q : Nat} {w : World} {c : Int} (h : NC q w c) (d : Int) : NC q (w.setCell ⟨q, 0, none⟩ (.int .i64 d)) d :=
  ⟨World.cell?_setCell_same _ _ _ h.cell, by rw [World.frozen?_setCell]; exact h.loose, by have := h.here; simpa [World.setCell] using this⟩

theorem StR.ran {q B : Nat} {w w' : World} {a : Option Addr} {n : Nat} {g : Nat → St} (h : StR w a n g) (hr : Ran q B w w') (ha : ∀ x, a = some x → x.block < B ∧ x.block ≠ q) : StR w' a n g := by
  intro j hj
  obtain ⟨b, off, rfl, h0, h1, h2, hl⟩ := h j hj
  obtain ⟨hB, hq⟩ := ha _ rfl
  exact ⟨b, off, rfl, (hr.cell (p := ⟨b, off + j * 3, none⟩) hB hq).trans h0, (hr.cell (p := ⟨b, off + j * 3 + 1, none⟩) hB hq).trans h1, (hr.cell (p := ⟨b, off + j * 3 + 2, none⟩) hB hq).trans h2, Nat.lt_of_lt_of_le hl hr.size⟩

/-- How a call ends that may give up. -/
def endOf (s : Int × Int) : Ending := if s.1 = 0 then .returned (.tuple #[]) else .panicked [{ v := stopV s.1 s.2, recovered := false }]

theorem two_below (b : Nat) (u v : Value) (w : World) : Below b w ((w.setCell ⟨b, 0, none⟩ u).setCell ⟨b, 1, none⟩ v) :=
  ((Below.refl b w).setCell (p := ⟨b, 0, none⟩) (Nat.le_refl b) u).setCell (p := ⟨b, 1, none⟩) (Nat.le_refl b) v

theorem out_end (k : FuncId) (cap : Array Value) (w : World) (R : World → Prop) (s : Int × Int) (hs : s.1 = 0 → s.2 = 0) (q : Nat) (hq : q ≠ w.heap.size)
    (hin : ∀ (args : Array Value) (w : World), (callFunc k args).run Try.prog w = .ok (.enter k args) w)
    (hc : Calls Try.prog k cap (w.alloc (.cells zstop 27)) fun e w' => e = endOf s ∧ Ran q (w.heap.size + 1) (w.alloc (.cells zstop 27)) w' ∧ R w') :
    Calls Try.prog 15 #[.func (.func k) #[] cap] w fun e w' => e = .returned (.agg #[.int .i64 s.1, .int .i64 s.2]) ∧ ∃ w1, R w1 ∧ Ran q (w.heap.size + 1) (w.alloc (.cells zstop 27)) w1 ∧ Below w.heap.size w1 w' := by
  have facts : ∀ w', Ran q (w.heap.size + 1) (w.alloc (.cells zstop 27)) w' → Below (w.heap.size + 1) (w.alloc (.cells zstop 27)) (w.alloc (.cells zstop 27)) ∧ w'.cell? ⟨w.heap.size, 0, none⟩ = some (.int .i64 0) ∧ w'.cell? ⟨w.heap.size, 1, none⟩ = some (.int .i64 0) ∧ w'.frozen? ⟨w.heap.size, 0, none⟩ = false ∧ w'.frozen? ⟨w.heap.size, 1, none⟩ = false ∧ w.heap.size < w'.heap.size := by
    intro w' hr
    refine ⟨Below.refl _ _, (hr.cell (p := ⟨w.heap.size, 0, none⟩) (by simp) (by simp; omega)).trans (by simp [zstop]), (hr.cell (p := ⟨w.heap.size, 1, none⟩) (by simp) (by simp; omega)).trans (by simp [zstop]), (hr.frozen (p := ⟨w.heap.size, 0, none⟩) (by simp) (by simp; omega)).trans (by simp [zstop, go_sem]), (hr.frozen (p := ⟨w.heap.size, 1, none⟩) (by simp) (by simp; omega)).trans (by simp [zstop, go_sem]), ?_⟩
    have := hr.size
    simp at this
    omega
  refine (out_of k cap w (fun w' => s.1 = 0 ∧ R w' ∧ Ran q (w.heap.size + 1) (w.alloc (.cells zstop 27)) w') (fun y t w' => y = s.1 ∧ t = s.2 ∧ R w' ∧ Ran q (w.heap.size + 1) (w.alloc (.cells zstop 27)) w') hin (hc.mono ?_)).mono ?_
  · rintro e w' ⟨rfl, hr, hR⟩
    obtain ⟨-, f0, f1, f2, f3, f4⟩ := facts w' hr
    unfold endOf
    by_cases h0 : s.1 = 0
    · rw [if_pos h0]
      exact Or.inl ⟨rfl, f0, f1, f2, f3, f4, h0, hR, hr⟩
    · rw [if_neg h0]
      exact Or.inr ⟨s.1, s.2, rfl, f0, f1, f2, f3, f4, rfl, rfl, hR, hr⟩
  · rintro e w' (⟨rfl, w1, ⟨h0, hR, hr⟩, rfl⟩ | ⟨y, t, w1, rfl, ⟨rfl, rfl, hR, hr⟩, rfl⟩)
    · rw [hs h0, h0]
      exact ⟨rfl, w1, hR, hr, two_below _ _ _ _⟩
    · refine ⟨rfl, w1, hR, hr, (two_below _ _ _ _).alloc ?_ _⟩
      have := hr.size
      simp at this
      simp [World.setCell]; omega
end Go.Proofs.Ytbaomlmannpnaaa
