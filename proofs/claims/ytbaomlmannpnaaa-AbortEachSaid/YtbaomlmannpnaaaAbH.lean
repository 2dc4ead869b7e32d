/- What is proved here: what Value comes to, and the closures of the law AbortSteps. -/
import Derived.Test.YtbaomlmannpnaaaAbG
namespace Go.Proofs.Ytbaomlmannpnaaa
open Go.RowKit
set_option linter.unusedVariables false
set_option linter.unusedSimpArgs false

theorem enter16 (args : Array Value) (w : World) : (callFunc 16 args).run Try.prog w = .ok (.enter 16 args) w := enterOf Try.func16 (by kernel_rfl) rfl args w
theorem enter18 (args : Array Value) (w : World) : (callFunc 18 args).run Try.prog w = .ok (.enter 18 args) w := enterOf Try.func18 (by kernel_rfl) rfl args w
theorem enter46 (args : Array Value) (w : World) : (callFunc 46 args).run Try.prog w = .ok (.enter 46 args) w := enterOf Try.func46 (by kernel_rfl) rfl args w

set_option maxRecDepth 100000 in
theorem in16 (x : Nat) (sl : Value) (w : World) (q : Nat) (r : Int × Int × Int) (h0 : w.cell? ⟨x, 0, none⟩ = some sl) (h : Calls Try.prog 14 #[sl, .pointer (some ⟨q, 0, none⟩)] w (RunPost q w r)) :
    Calls Try.prog 16 #[.pointer (some ⟨x, 0, none⟩), .pointer (some ⟨q, 0, none⟩)] w (RunPost q w r) := by
  have H := hid h; clear h
  go_enter Try.func16, Try.ntmps16
  go_wp2_with fail
  refine H.out.mono ?_
  rintro e w' ⟨rfl, hr, hn⟩
  by_cases hz : r.2.1 = 0
  · have e : endOf r.2 = .returned (.tuple #[]) := if_pos hz
    rw [e]
    go_wp2
    go_end0
    exact ⟨e.symm, hr, hn⟩
  · have e : endOf r.2 = .panicked [{ v := stopV r.2.1 r.2.2, recovered := false }] := if_neg hz
    rw [e]
    exact ⟨rfl, e.symm, hr, hn⟩

/-- How the function value of Value ends. -/
def valEnd (r : Int × Int × Int) : Ending := if r.2.1 = 0 then .returned (.int .i64 (wrap64 (r.1 + 1))) else .panicked [{ v := stopV r.2.1 r.2.2, recovered := false }]

set_option maxRecDepth 100000 in
theorem in18 (x : Nat) (sl : Value) (w : World) (q : Nat) (r : Int × Int × Int) (h0 : w.cell? ⟨x, 0, none⟩ = some sl) (h : Calls Try.prog 14 #[sl, .pointer (some ⟨q, 0, none⟩)] w (RunPost q w r)) :
    Calls Try.prog 18 #[.pointer (some ⟨x, 0, none⟩), .pointer (some ⟨q, 0, none⟩)] w fun e w' => e = valEnd r ∧ Ran q w.heap.size w w' ∧ NC q w' r.1 := by
  have H := hid h; clear h
  go_enter Try.func18, Try.ntmps18
  go_wp2_with fail
  refine H.out.mono ?_
  rintro e w' ⟨rfl, hr, hn⟩
  obtain ⟨hcell, hloose, hhere⟩ := hn
  by_cases hz : r.2.1 = 0
  · have e : endOf r.2 = .returned (.tuple #[]) := if_pos hz
    have e2 : valEnd r = .returned (.int .i64 (wrap64 (r.1 + 1))) := if_pos hz
    rw [e]
    go_wp2
    go_ret
    exact ⟨e2.symm, hr, ⟨hcell, hloose, hhere⟩⟩
  · have e : endOf r.2 = .panicked [{ v := stopV r.2.1 r.2.2, recovered := false }] := if_neg hz
    have e2 : valEnd r = .panicked [{ v := stopV r.2.1 r.2.2, recovered := false }] := if_neg hz
    rw [e]
    exact ⟨rfl, e2.symm, hr, ⟨hcell, hloose, hhere⟩⟩

set_option maxRecDepth 100000 in
theorem in46 (x v : Nat) (k : FuncId) (cap : Array Value) (w : World) (q : Nat) (r : Int × Int × Int) (h0 : w.cell? ⟨x, 0, none⟩ = some (.func (.func k) #[] cap)) (hv : w.cell? ⟨v, 0, none⟩ = some (.int .i64 0)) (hf : w.frozen? ⟨v, 0, none⟩ = false) (hvq : v ≠ q) (hvs : v < w.heap.size)
    (hin : ∀ (args : Array Value) (w : World), (callFunc k args).run Try.prog w = .ok (.enter k args) w)
    (h : Calls Try.prog k cap w fun e w' => e = valEnd r ∧ Ran q w.heap.size w w' ∧ NC q w' r.1) :
    Calls Try.prog 46 #[.pointer (some ⟨x, 0, none⟩), .pointer (some ⟨v, 0, none⟩)] w fun e w' => e = endOf r.2 ∧ ∃ w1, Ran q w.heap.size w w1 ∧ NC q w1 r.1 ∧ w' = if r.2.1 = 0 then w1.setCell ⟨v, 0, none⟩ (.int .i64 (wrap64 (r.1 + 1))) else w1 := by
  have H := hid h; clear h
  go_enter Try.func46, Try.ntmps46
  go_wp2_with fail
  refine H.out.mono ?_
  rintro e w' ⟨rfl, hr, hn⟩
  have hv2 := (hr.cell (p := ⟨v, 0, none⟩) hvs hvq).trans hv
  have hf2 := (hr.frozen (p := ⟨v, 0, none⟩) hvs hvq).trans hf
  by_cases hz : r.2.1 = 0
  · have e2 : valEnd r = .returned (.int .i64 (wrap64 (r.1 + 1))) := if_pos hz
    rw [e2]
    go_wp2
    go_end0
    exact ⟨by first | rfl | exact (if_pos hz).symm, w', hr, hn, by first | rfl | exact (if_pos hz).symm⟩
  · have e2 : valEnd r = .panicked [{ v := stopV r.2.1 r.2.2, recovered := false }] := if_neg hz
    rw [e2]
    exact ⟨rfl, (if_neg hz).symm, w', hr, hn, (if_neg hz).symm⟩

theorem Ran.setBoth {q B : Nat} {a w : World} (h : Ran q B a w) (p : Addr) (u : Value) : Ran q B (a.setCell p u) (w.setCell p u) := by
  refine ⟨h.os, h.tape, h.output, by have := h.size; simpa [World.setCell] using this, fun k hk hq => ?_⟩
  have e := h.block k hk hq
  simp only [World.setCell, Array.getElem?_modify]
  split
  · rw [e]
  · exact e

/-- What Value's own function leaves. -/
def vSet (v : Nat) (r : Int × Int × Int) (w : World) : World := if r.2.1 = 0 then w.setCell ⟨v, 0, none⟩ (.int .i64 (wrap64 (r.1 + 1))) else w

theorem vSet_size (v : Nat) (r : Int × Int × Int) (w : World) : (vSet v r w).heap.size = w.heap.size := by
  unfold vSet; split <;> simp [World.setCell]

theorem vSet_ran {q B v : Nat} {r : Int × Int × Int} {a w : World} (h : Ran q B a w) : Ran q B (vSet v r a) (vSet v r w) := by
  unfold vSet; split
  · exact h.setBoth _ _
  · exact h

theorem vSet_nc {q v : Nat} {r : Int × Int × Int} {w : World} {c : Int} (h : NC q w c) (hv : v ≠ q) : NC q (vSet v r w) c := by
  unfold vSet; split
  · exact ⟨(World.cell?_setCell_other w ⟨v, 0, none⟩ ⟨q, 0, none⟩ _ (by intro h; cases h; exact hv rfl)).trans h.cell, by rw [World.frozen?_setCell]; exact h.loose, by have := h.here; simpa [World.setCell] using this⟩
  · exact h

theorem out46 (x v : Nat) (k : FuncId) (cap : Array Value) (w : World) (q : Nat) (r : Int × Int × Int) (hq : q < w.heap.size) (hs : r.2.1 = 0 → r.2.2 = 0) (h0 : w.cell? ⟨x, 0, none⟩ = some (.func (.func k) #[] cap)) (hxs : x < w.heap.size) (hv : w.cell? ⟨v, 0, none⟩ = some (.int .i64 0)) (hf : w.frozen? ⟨v, 0, none⟩ = false) (hvq : v ≠ q) (hvs : v < w.heap.size)
    (hin : ∀ (args : Array Value) (w : World), (callFunc k args).run Try.prog w = .ok (.enter k args) w)
    (h : Calls Try.prog k cap (w.alloc (.cells zstop 27)) fun e w' => e = valEnd r ∧ Ran q (w.alloc (.cells zstop 27)).heap.size (w.alloc (.cells zstop 27)) w' ∧ NC q w' r.1) :
    Calls Try.prog 15 #[.func (.func 46) #[] #[.pointer (some ⟨x, 0, none⟩), .pointer (some ⟨v, 0, none⟩)]] w fun e w' => e = .returned (.agg #[.int .i64 r.2.1, .int .i64 r.2.2]) ∧ Ran q w.heap.size (vSet v r w) w' ∧ NC q w' r.1 := by
  have hb : Below w.heap.size w (w.alloc (.cells zstop 27)) := (Below.refl _ _).alloc (Nat.le_refl _) _
  refine (out_of _ _ w (fun w1 => r.2.1 = 0 ∧ Ran q w.heap.size (vSet v r w) w1 ∧ NC q w1 r.1 ∧ w.heap.size < w1.heap.size) (fun y t w1 => y = r.2.1 ∧ t = r.2.2 ∧ Ran q w.heap.size (vSet v r w) w1 ∧ NC q w1 r.1 ∧ w.heap.size < w1.heap.size) enter46 ((in46 x v k cap _ q r ((hb.cell (p := ⟨x, 0, none⟩) hxs).trans h0) ((hb.cell (p := ⟨v, 0, none⟩) hvs).trans hv) ((hb.frozen (p := ⟨v, 0, none⟩) hvs).trans hf) hvq (by simp; omega) hin h).mono ?_)).mono ?_
  · rintro e w' ⟨rfl, w1, hr, hn, rfl⟩
    have hr2 : Ran q (w.alloc (.cells zstop 27)).heap.size (vSet v r (w.alloc (.cells zstop 27))) (vSet v r w1) := vSet_ran hr
    have c0 : (vSet v r (w.alloc (.cells zstop 27))).cell? ⟨w.heap.size, 0, none⟩ = some (.int .i64 0) := by
      unfold vSet; split
      · exact (World.cell?_setCell_other _ ⟨v, 0, none⟩ ⟨w.heap.size, _, none⟩ _ (by intro h; cases h; omega)).trans (by simp [zstop])
      · simp [zstop]
    have c1 : (vSet v r (w.alloc (.cells zstop 27))).cell? ⟨w.heap.size, 1, none⟩ = some (.int .i64 0) := by
      unfold vSet; split
      · exact (World.cell?_setCell_other _ ⟨v, 0, none⟩ ⟨w.heap.size, _, none⟩ _ (by intro h; cases h)).trans (by simp [zstop])
      · simp [zstop]
    have z0 : ∀ o, o < 2 → (vSet v r (w.alloc (.cells zstop 27))).frozen? ⟨w.heap.size, o, none⟩ = false := by
      intro o ho
      have : o = 0 ∨ o = 1 := by omega
      unfold vSet; split
      · rw [World.frozen?_setCell]; rcases this with rfl | rfl <;> simp [zstop, go_sem]
      · rcases this with rfl | rfl <;> simp [zstop, go_sem]
    have hlt : w.heap.size < (w.alloc (.cells zstop 27)).heap.size := by simp
    have hqne : w.heap.size ≠ q := Nat.ne_of_gt hq
    have hsz : w.heap.size < (vSet v r w1).heap.size := by rw [vSet_size]; exact Nat.lt_of_lt_of_le hlt hr.size
    have hkeep : Ran q w.heap.size (vSet v r w) (vSet v r w1) := vSet_ran ((Ran.of q hb).trans (hr.mono (Nat.le_of_lt hlt)))
    have hn2 : NC q (vSet v r w1) r.1 := vSet_nc hn hvq
    have f0 := (hr2.cell (p := ⟨w.heap.size, 0, none⟩) hlt hqne).trans c0
    have f1 := (hr2.cell (p := ⟨w.heap.size, 1, none⟩) hlt hqne).trans c1
    have f2 := (hr2.frozen (p := ⟨w.heap.size, 0, none⟩) hlt hqne).trans (z0 0 (by omega))
    have f3 := (hr2.frozen (p := ⟨w.heap.size, 1, none⟩) hlt hqne).trans (z0 1 (by omega))
    have ev : (if r.2.1 = 0 then w1.setCell ⟨v, 0, none⟩ (.int .i64 (wrap64 (r.1 + 1))) else w1) = vSet v r w1 := rfl
    rw [ev]
    unfold endOf
    by_cases hz : r.2.1 = 0
    · rw [if_pos hz]
      exact Or.inl ⟨rfl, f0, f1, f2, f3, hsz, hz, hkeep, hn2, hsz⟩
    · rw [if_neg hz]
      exact Or.inr ⟨r.2.1, r.2.2, rfl, f0, f1, f2, f3, hsz, rfl, rfl, hkeep, hn2, hsz⟩
  · rintro e w' (⟨rfl, w1, ⟨hz, hkeep, hn, hsz⟩, rfl⟩ | ⟨y, t, w1, rfl, ⟨rfl, rfl, hkeep, hn, hsz⟩, rfl⟩)
    · rw [hs hz, hz]
      exact ⟨rfl, hkeep.below_to (two_below _ _ _ _), hn.ext' hq (two_below _ _ _ _)⟩
    · have hb2 : Below w.heap.size w1 (((w1.setCell ⟨w.heap.size, 0, none⟩ (.int .i64 r.2.1)).setCell ⟨w.heap.size, 1, none⟩ (.int .i64 r.2.2)).alloc (.cells #[.int .i64 r.2.1, .int .i64 r.2.2] 27)) :=
        (two_below _ _ _ _).alloc (by simp [World.setCell]; omega) _
      exact ⟨rfl, hkeep.below_to hb2, hn.ext' hq hb2⟩

theorem afterAlloc (w : World) (b v : Nat) (y t c : Int) (hb : b < w.heap.size) (hv : v < w.heap.size) (k0 : w.cell? ⟨b, 0, none⟩ = some (.int .i64 0)) (k1 : w.cell? ⟨b, 1, none⟩ = some (.int .i64 0)) (z0 : w.frozen? ⟨b, 0, none⟩ = false) (z1 : w.frozen? ⟨b, 1, none⟩ = false) (kv : w.cell? ⟨v, 0, none⟩ = some (.int .i64 c)) :
    ∃ D, D = (w.alloc (.cells #[.int .i64 y, .int .i64 t] 27)).drew ∧ D.cell? ⟨w.heap.size, 0, none⟩ = some (.int .i64 y) ∧ D.cell? ⟨w.heap.size, 1, none⟩ = some (.int .i64 t) ∧
      D.cell? ⟨b, 0, none⟩ = some (.int .i64 0) ∧ D.cell? ⟨b, 1, none⟩ = some (.int .i64 0) ∧ D.frozen? ⟨b, 0, none⟩ = false ∧ D.frozen? ⟨b, 1, none⟩ = false ∧ D.cell? ⟨v, 0, none⟩ = some (.int .i64 c) ∧ Below w.heap.size w D := by
  have hd : Below w.heap.size w (w.alloc (.cells #[.int .i64 y, .int .i64 t] 27)).drew := ((Below.refl _ _).alloc (Nat.le_refl _) _).drew
  refine ⟨_, rfl, cell_of_row _ _ 0 _ _ _ (heap_alloc_last w _), cell_of_row _ _ 1 _ _ _ (heap_alloc_last w _), (hd.cell (p := ⟨b, 0, none⟩) hb).trans k0, (hd.cell (p := ⟨b, 1, none⟩) hb).trans k1, (hd.frozen (p := ⟨b, 0, none⟩) hb).trans z0, (hd.frozen (p := ⟨b, 1, none⟩) hb).trans z1, (hd.cell (p := ⟨v, 0, none⟩) hv).trans kv, hd⟩

-- DEFS6
def postsV6 (y1 t1 c1 : Int) : List (Value → World → Prop) := [
    fun x _ => x = .int .i64 c1,
    fun x _ => x = .agg #[.int .i64 0, .int .i64 0],
    fun x _ => x = .int .i64 c1]
-- END DEFS
-- DEFS5
def postsV5 (y1 t1 c1 : Int) : List (Value → World → Prop) := [
    fun x _ => x = .int .i64 0,
    fun x _ => x = .agg #[.int .i64 y1, .int .i64 t1],
    fun x _ => x = .int .i64 0]
-- END DEFS
set_option maxHeartbeats 4000000 in
set_option maxRecDepth 100000 in
theorem value_any (k : FuncId) (cap : Array Value) (w : World) (q : Nat) (r : Int × Int × Int) (hq : q < w.heap.size) (hs : r.2.1 = 0 → r.2.2 = 0)
    (hin : ∀ (args : Array Value) (w : World), (callFunc k args).run Try.prog w = .ok (.enter k args) w)
    (hk : ∀ w2, Below w.heap.size w w2 → Calls Try.prog k cap w2 fun e w' => e = valEnd r ∧ Ran q w2.heap.size w2 w' ∧ NC q w' r.1) :
    Calls Try.prog 17 #[.func (.func k) #[] cap] w fun e w' => e = .returned (.tuple #[.int .i64 (if r.2.1 = 0 then wrap64 (r.1 + 1) else 0), .agg #[.int .i64 r.2.1, .int .i64 r.2.2]]) ∧ Ran q w.heap.size w w' ∧ NC q w' r.1 := by
  have hmf : ∀ (fn : Fn) (first cap : Array Value) (w : World), (Instr.makeFunc fn first cap).run Try.prog w = .ok (.func fn first cap) w := fun _ _ _ _ => rfl
  have Hk := hid hk; clear hk
  have Hin := hid hin; clear hin
  have Hs := hid hs; clear hs
  go_enter Try.func17, Try.ntmps17
  go_wp2_with fail
  obtain ⟨W, hW, hszW, hbW, b0, b1, b2⟩ := allocs3 w #[.func (.func k) #[] cap] #[.int .i64 0, .int .i64 0] #[.int .i64 0] 39 27 3
  rw [← hW]; clear hW
  have cb : W.cell? ⟨w.heap.size, 0, none⟩ = some (.func (.func k) #[] cap) := cell_of_row W _ 0 _ _ _ b0
  have cv : W.cell? ⟨w.heap.size + 1 + 1, 0, none⟩ = some (.int .i64 0) := cell_of_row W _ 0 _ _ _ b2
  have cf := frozen_of_row W _ 0 _ _ b2
  refine (out46 w.heap.size (w.heap.size + 1 + 1) k cap W q r (by omega) Hs.out cb (by omega) cv cf (by omega) (by omega) Hin.out ((Hk.out _ (hbW.alloc (by omega) _)).mono fun _ _ h => h)).mono ?_
  rintro e w' ⟨rfl, hr, hn⟩
  have lt1 : w.heap.size + 1 < W.heap.size := by omega
  have ne1 : w.heap.size + 1 ≠ q := by omega
  have lt2 : w.heap.size + 1 + 1 < W.heap.size := by omega
  have ne2 : w.heap.size + 1 + 1 ≠ q := by omega
  have le2 : w.heap.size ≤ w.heap.size + 1 + 1 := by omega
  have k3 : ∀ o, w'.cell? ⟨w.heap.size + 1, o, none⟩ = (#[.int .i64 0, .int .i64 0] : Array Value)[o]? := fun o => (hr.cell (p := ⟨w.heap.size + 1, o, none⟩) lt1 ne1).trans ((by
    unfold vSet; split
    · exact World.cell?_setCell_other W ⟨w.heap.size + 1 + 1, 0, none⟩ ⟨w.heap.size + 1, o, none⟩ _ (by intro h; injection h with h1; omega)
    · rfl : _ = W.cell? ⟨w.heap.size + 1, o, none⟩).trans (cell_of_row W _ o _ _ _ b1))
  have k30 : w'.cell? ⟨w.heap.size + 1, 0, none⟩ = some (.int .i64 0) := k3 0
  have k31 : w'.cell? ⟨w.heap.size + 1, 1, none⟩ = some (.int .i64 0) := k3 1
  have z3 : ∀ o, w'.frozen? ⟨w.heap.size + 1, o, none⟩ = false := fun o => (hr.frozen (p := ⟨w.heap.size + 1, o, none⟩) lt1 ne1).trans ((by
    unfold vSet; split
    · exact World.frozen?_setCell _ _ _ _
    · rfl : _ = W.frozen? ⟨w.heap.size + 1, o, none⟩).trans (frozen_of_row W _ o _ _ b1))
  have z30 := z3 0
  have z31 := z3 1
  have kv : w'.cell? ⟨w.heap.size + 1 + 1, 0, none⟩ = some (.int .i64 (if r.2.1 = 0 then wrap64 (r.1 + 1) else 0)) := (hr.cell (p := ⟨w.heap.size + 1 + 1, 0, none⟩) lt2 ne2).trans (by
    unfold vSet; split
    · exact World.cell?_setCell_same _ _ _ cv
    · exact cv)
  have hsz' : w.heap.size + 3 ≤ w'.heap.size := by have := hr.size; rw [vSet_size] at this; omega
  have hran : Ran q w.heap.size w w' := (Ran.of q hbW).trans (((by
    unfold vSet; split
    · exact (Below.refl _ _).setCell (p := ⟨w.heap.size + 1 + 1, 0, none⟩) le2 _
    · exact Below.refl _ _ : Below w.heap.size W (vSet (w.heap.size + 1 + 1) r W)) |> Ran.of q).trans (hr.mono (by omega)))
  clear k3 lt1 lt2 ne1 ne2 le2 z3 hr b0 b1 b2 cb cv cf hbW hszW
  obtain ⟨hcell, hloose, hhere⟩ := hn
  generalize hc1 : wrap64 (r.1 + 1) = c1 at kv ⊢
  obtain ⟨x1, y1, t1⟩ := r
  dsimp only at kv hcell ⊢
  have Hs2 := hid (show y1 = 0 → t1 = 0 from Hs.out); clear Hs Hk Hin
  by_cases hz : y1 = 0
  · have ht := Hs2.out hz
    rw [if_pos hz] at kv
    subst hz ht
    go_wp2
    obtain ⟨D, hD, d0, d1, e0, e1, z0, z1, ev, hbd⟩ := afterAlloc w' (w.heap.size + 1) (w.heap.size + 1 + 1) 0 0 c1 (by omega) (by omega) k30 k31 z30 z31 kv
    have HD := hid hD; clear hD
    -- REGION6
    refine wp_region_rg_tail 3 (fun x => x = D) (fun w w' => w' = w) (postsV6 0 0 c1)
        [[], [], [0], []]
        16 (by kernel_rfl) rfl (by kernel_rfl) rfl ?rg0 ?rgC ?rgP ?rgS ?rgQ
    case rgP => exact ⟨kept_eq, kept_eq, kept_eq, trivial⟩
    case rgS =>
      intro V
      refine rgGoals_cons 1 (by intro v; simp only [Act.put, List.setIfInBounds_toArray, List.set_cons_zero, List.set_cons_succ]; exact rfl) rfl (fun w hC hd K hK => ?_) ?_
      · clear hd
        subst hC; (try go_simp); exact hK _ _ rfl rfl
      refine rgGoals_cons 2 (by intro v; simp only [Act.put, List.setIfInBounds_toArray, List.set_cons_zero, List.set_cons_succ]; exact rfl) rfl (fun w hC hd K hK => ?_) ?_
      · clear hd
        subst hC; (try go_simp); exact hK _ _ rfl rfl
      refine rgGoals_cons 3 (by intro v; simp only [Act.put, List.setIfInBounds_toArray, List.set_cons_zero, List.set_cons_succ]; exact rfl) rfl (fun w hC hd K hK => ?_) ?_
      · obtain ⟨h0, _⟩ := hd
        replace h0 : V 0 = .int .i64 c1 := h0
        simp only [h0] at hK
        subst hC; (try go_simp); exact hK _ _ rfl rfl
      trivial
    -- END REGION
    case rgC => rintro w1 w2 rfl rfl; rfl
    case rg0 => exact HD.out.symm
    case rgQ =>
      intro V w2 hC hp
      subst hC
      have h0 : V 0 = .int .i64 c1 := postsHold_at hp 0 rfl
      have h1 : V 1 = .agg #[.int .i64 0, .int .i64 0] := postsHold_at hp 1 rfl
      have h2 : V 2 = .int .i64 c1 := postsHold_at hp 2 rfl
      clear HD
      simp only [List.take_succ_cons, List.take_zero, List.drop_succ_cons, List.drop_zero, putAll, Act.put, List.setIfInBounds_toArray, List.set_cons_zero, List.set_cons_succ]
      simp only [Nat.reduceAdd, h0, h1, h2]
      go_wp2
      obtain ⟨r0, r1⟩ := two_cells (.int .i64 0) (.int .i64 0) e0 e1
      try simp only [Exit.inBlock, Exit.then]
      refine bodyPost_ret (v := .tuple #[.int .i64 c1, .agg #[.int .i64 0, .int .i64 0]]) (by simp [results, Try.results17, go_sem, r0, r1]) rfl ?_
      have hb2 : Below w.heap.size w2 ((w2.setCell ⟨w.heap.size + 1, 0, none⟩ (.int .i64 0)).setCell ⟨w.heap.size + 1, 1, none⟩ (.int .i64 0)) := (two_below (w.heap.size + 1) (.int .i64 0) (.int .i64 0) w2).mono (Nat.le_succ _)
      have hb3 : Below w.heap.size w' ((w2.setCell ⟨w.heap.size + 1, 0, none⟩ (.int .i64 0)).setCell ⟨w.heap.size + 1, 1, none⟩ (.int .i64 0)) := (hbd.mono hran.size).trans hb2
      refine ⟨by simp [hc1], hran.below_to hb3, ?_⟩
      exact ⟨(hb3.cell (p := ⟨q, 0, none⟩) hq).trans hcell, (hb3.frozen (p := ⟨q, 0, none⟩) hq).trans hloose, Nat.lt_of_lt_of_le hhere hb3.size⟩
  · rw [if_neg hz] at kv
    have hy1 : (y1 != 0) = true := by simp [hz]
    go_wp2
    obtain ⟨D, hD, d0, d1, e0, e1, z0, z1, ev, hbd⟩ := afterAlloc w' (w.heap.size + 1) (w.heap.size + 1 + 1) y1 t1 0 (by omega) (by omega) k30 k31 z30 z31 kv
    have HD := hid hD; clear hD
    -- REGION5
    refine wp_region_rg_tail 3 (fun x => x = D) (fun w w' => w' = w) (postsV5 y1 t1 0)
        [[], [], [0], []]
        16 (by kernel_rfl) rfl (by kernel_rfl) rfl ?rg0 ?rgC ?rgP ?rgS ?rgQ
    case rgP => exact ⟨kept_eq, kept_eq, kept_eq, trivial⟩
    case rgS =>
      intro V
      refine rgGoals_cons 1 (by intro v; simp only [Act.put, List.setIfInBounds_toArray, List.set_cons_zero, List.set_cons_succ]; exact rfl) rfl (fun w hC hd K hK => ?_) ?_
      · clear hd
        subst hC; (try go_simp); exact hK _ _ rfl rfl
      refine rgGoals_cons 2 (by intro v; simp only [Act.put, List.setIfInBounds_toArray, List.set_cons_zero, List.set_cons_succ]; exact rfl) rfl (fun w hC hd K hK => ?_) ?_
      · clear hd
        subst hC; (try go_simp); exact hK _ _ rfl rfl
      refine rgGoals_cons 3 (by intro v; simp only [Act.put, List.setIfInBounds_toArray, List.set_cons_zero, List.set_cons_succ]; exact rfl) rfl (fun w hC hd K hK => ?_) ?_
      · obtain ⟨h0, _⟩ := hd
        replace h0 : V 0 = .int .i64 0 := h0
        simp only [h0] at hK
        subst hC; (try go_simp); exact hK _ _ rfl rfl
      trivial
    -- END REGION
    case rgC => rintro w1 w2 rfl rfl; rfl
    case rg0 => exact HD.out.symm
    case rgQ =>
      intro V w2 hC hp
      subst hC
      have h0 : V 0 = .int .i64 0 := postsHold_at hp 0 rfl
      have h1 : V 1 = .agg #[.int .i64 y1, .int .i64 t1] := postsHold_at hp 1 rfl
      have h2 : V 2 = .int .i64 0 := postsHold_at hp 2 rfl
      clear HD
      simp only [List.take_succ_cons, List.take_zero, List.drop_succ_cons, List.drop_zero, putAll, Act.put, List.setIfInBounds_toArray, List.set_cons_zero, List.set_cons_succ]
      simp only [Nat.reduceAdd, h0, h1, h2]
      go_wp2
      obtain ⟨r0, r1⟩ := two_cells (.int .i64 y1) (.int .i64 t1) e0 e1
      try simp only [Exit.inBlock, Exit.then]
      refine bodyPost_ret (v := .tuple #[.int .i64 0, .agg #[.int .i64 y1, .int .i64 t1]]) (by simp [results, Try.results17, go_sem, r0, r1]) rfl ?_
      have hb2 : Below w.heap.size w2 ((w2.setCell ⟨w.heap.size + 1, 0, none⟩ (.int .i64 y1)).setCell ⟨w.heap.size + 1, 1, none⟩ (.int .i64 t1)) := (two_below (w.heap.size + 1) (.int .i64 y1) (.int .i64 t1) w2).mono (Nat.le_succ _)
      have hb3 : Below w.heap.size w' ((w2.setCell ⟨w.heap.size + 1, 0, none⟩ (.int .i64 y1)).setCell ⟨w.heap.size + 1, 1, none⟩ (.int .i64 t1)) := (hbd.mono hran.size).trans hb2
      refine ⟨by simp [hz], hran.below_to hb3, ?_⟩
      exact ⟨(hb3.cell (p := ⟨q, 0, none⟩) hq).trans hcell, (hb3.frozen (p := ⟨q, 0, none⟩) hq).trans hloose, Nat.lt_of_lt_of_le hhere hb3.size⟩
end Go.Proofs.Ytbaomlmannpnaaa
