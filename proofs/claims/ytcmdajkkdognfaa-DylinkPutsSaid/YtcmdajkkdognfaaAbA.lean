/- What is proved here: what the functions of the package abort come to. -/
import Derived.Test.YtcmdajkkdognfaaKit
import Derived.Defers
import Derived.Recover
import Derived.Laws.Pointers
namespace Go.Proofs.Ytcmdajkkdognfaa
open Go.RowKit
set_option linter.unusedVariables false
set_option linter.unusedSimpArgs false

/-- What is thrown. -/
def stopV (why at' : Int) : Value := .iface 90 (.agg #[.int .i64 why, .int .i64 at'])

set_option maxRecDepth 100000 in
theorem caught (b : Nat) (why at' : Int) (older : List PanicEntry) (w : World) (x0 x1 : Value) (hc0 : w.cell? ⟨b, 0, none⟩ = some x0) (hc1 : w.cell? ⟨b, 1, none⟩ = some x1) (hz0 : w.frozen? ⟨b, 0, none⟩ = false) (hz1 : w.frozen? ⟨b, 1, none⟩ = false) (hb : b < w.heap.size) :
    CallsD Try.prog 117 #[.pointer (some ⟨b, 0, none⟩)] (.panicking ({ v := stopV why at', recovered := false } :: older)) w fun e u' w' =>
      e = .returned (.tuple #[]) ∧ u' = .panicking ({ v := stopV why at', recovered := true } :: older) ∧ w' = ((w.setCell ⟨b, 0, none⟩ (.int .i64 why)).setCell ⟨b, 1, none⟩ (.int .i64 at')).alloc (.cells #[.int .i64 why, .int .i64 at'] 90) := by
  unfold stopV
  have hta : ∀ w : World, (Instr.typeAssert (.iface 90 (.agg #[.int .i64 why, .int .i64 at'])) 20 90 true).run Try.prog w = .ok (.tuple #[.agg #[.int .i64 why, .int .i64 at'], .bool true]) w := fun _ => by kernel_rfl
  refine callsD_of_wpS Try.func117 rfl fun c₀ cs hu => ?_
  simp only [Try.ntmps117, List.size_toArray, List.length_cons, List.length_nil, Nat.reduceAdd, Nat.reduceSub, Array.replicate_succ, Array.replicate_zero, List.push_toArray, List.append_toArray, List.nil_append, List.cons_append]
  apply wpS_seq
  apply wpS_region
  simp [wpOpsS, go_sem, recoverD, hu, Exit.thenS, hta]
  refine wpS_of_wp ?_
  go_wp2
  refine ⟨rfl, _, rfl, .tuple #[], by simp [results, Try.results117, go_sem], rfl, rfl, rfl⟩

set_option maxRecDepth 100000 in
theorem caught_none (b : Nat) (w : World) :
    CallsD Try.prog 117 #[.pointer (some ⟨b, 0, none⟩)] .returning w fun e u' w' => e = .returned (.tuple #[]) ∧ u' = .returning ∧ w' = w := by
  have hnil := fun w : World => run_eql_nil_nil (P := Try.prog) w 20 (by kernel_rfl)
  refine callsD_of_wpS Try.func117 rfl fun c₀ cs hu => ?_
  simp only [Try.ntmps117, List.size_toArray, List.length_cons, List.length_nil, Nat.reduceAdd, Nat.reduceSub, Array.replicate_succ, Array.replicate_zero, List.push_toArray, List.append_toArray, List.nil_append, List.cons_append]
  apply wpS_seq
  apply wpS_region
  simp [wpOpsS, go_sem, recoverD, hu, Exit.thenS]
  apply wpS_seq
  apply wpS_seq
  apply wpS_region
  simp [wpOpsS, go_sem, Exit.thenS, hnil]
  refine wpS_cond (t := true) (by simp [Act.eval]) ?_
  simp only [if_true]
  refine wpS_of_wp (wp_ret ?_)
  refine ⟨rfl, .returning, ?_, .tuple #[], by simp [results, Try.results117, go_sem], rfl, rfl, rfl⟩
  cases c₀
  simp_all

/-- What a call comes to that may give up: it returns, or it throws. -/
def MayStop (P : World → Prop) (S : Int → Int → World → Prop) (e : Ending) (w : World) : Prop :=
  (e = .returned (.tuple #[]) ∧ P w) ∨ ∃ why at', e = .panicked [{ v := stopV why at', recovered := false }] ∧ S why at' w

theorem now_any (why at' : Int) (w : World) : Calls Try.prog 122 #[.int .i64 why, .int .i64 at'] w fun e w' => e = .panicked [{ v := stopV why at', recovered := false }] ∧ w = w' := by
  go_enter Try.func122, Try.ntmps122
  go_wp2
  exact ⟨rfl, rfl, rfl⟩

def zstop : Array Value := #[.int .i64 0, .int .i64 0]

theorem two_cells {b : Nat} {w : World} {x0 x1 : Value} (u v : Value) (h0 : w.cell? ⟨b, 0, none⟩ = some x0) (h1 : w.cell? ⟨b, 1, none⟩ = some x1) :
    ((w.setCell ⟨b, 0, none⟩ u).setCell ⟨b, 1, none⟩ v).cell? ⟨b, 0, none⟩ = some u ∧ ((w.setCell ⟨b, 0, none⟩ u).setCell ⟨b, 1, none⟩ v).cell? ⟨b, 1, none⟩ = some v := by
  have e1 : (w.setCell ⟨b, 0, none⟩ u).cell? ⟨b, 1, none⟩ = some x1 := (World.cell?_setCell_other w ⟨b, 0, none⟩ ⟨b, 1, none⟩ u (by simp)).trans h1
  refine ⟨(World.cell?_setCell_other _ ⟨b, 1, none⟩ ⟨b, 0, none⟩ v (by simp)).trans (World.cell?_setCell_same w _ u h0), World.cell?_setCell_same _ _ v e1⟩

set_option maxHeartbeats 400000 in
set_option maxRecDepth 100000 in
/-- Out, of a function value whose call returns or gives up. -/
theorem out_of (k : FuncId) (cap : Array Value) (w : World) (R : World → Prop) (S : Int → Int → World → Prop)
    (hin : ∀ (args : Array Value) (w : World), (callFunc k args).run Try.prog w = .ok (.enter k args) w)
    (hc : Calls Try.prog k cap (w.alloc (.cells zstop 90)) fun e w' => MayStop (fun w' => w'.cell? ⟨w.heap.size, 0, none⟩ = some (.int .i64 0) ∧ w'.cell? ⟨w.heap.size, 1, none⟩ = some (.int .i64 0) ∧ w'.frozen? ⟨w.heap.size, 0, none⟩ = false ∧ w'.frozen? ⟨w.heap.size, 1, none⟩ = false ∧ w.heap.size < w'.heap.size ∧ R w')
      (fun why at' w' => w'.cell? ⟨w.heap.size, 0, none⟩ = some (.int .i64 0) ∧ w'.cell? ⟨w.heap.size, 1, none⟩ = some (.int .i64 0) ∧ w'.frozen? ⟨w.heap.size, 0, none⟩ = false ∧ w'.frozen? ⟨w.heap.size, 1, none⟩ = false ∧ w.heap.size < w'.heap.size ∧ S why at' w') e w') :
    Calls Try.prog 59 #[.func (.func k) #[] cap] w fun e w' => (e = .returned (.agg #[.int .i64 0, .int .i64 0]) ∧ ∃ w1, R w1 ∧ w' = (w1.setCell ⟨w.heap.size, 0, none⟩ (.int .i64 0)).setCell ⟨w.heap.size, 1, none⟩ (.int .i64 0)) ∨
      ∃ why at' w1, e = .returned (.agg #[.int .i64 why, .int .i64 at']) ∧ S why at' w1 ∧ w' = ((w1.setCell ⟨w.heap.size, 0, none⟩ (.int .i64 why)).setCell ⟨w.heap.size, 1, none⟩ (.int .i64 at')).alloc (.cells #[.int .i64 why, .int .i64 at'] 90) := by
  have hmf : ∀ (fn : Fn) (first cap : Array Value) (w : World), (Instr.makeFunc fn first cap).run Try.prog w = .ok (.func fn first cap) w := fun _ _ _ _ => rfl
  unfold zstop at hc
  have Hc := hid hc; clear hc
  go_enter_defers Try.func59, Try.ntmps59
  go_wp2_with fail
  have HC := Hc.out
  clear Hc
  refine HC.mono ?_
  rintro e w' (⟨rfl, h0, h1, z0, z1, hl, hR⟩ | ⟨why, at', rfl, h0, h1, z0, z1, hl, hS⟩)
  · go_wp2_with fail
    refine leaves_cons (f := 117) (args := #[.pointer (some ⟨w.heap.size, 0, none⟩)]) (by simp) (by simp [go_sem]) ?_
    refine (caught_none w.heap.size _).mono ?_
    rintro e u' w'' ⟨rfl, rfl, rfl⟩
    obtain ⟨c0, c1⟩ := two_cells (.int .i64 0) (.int .i64 0) h0 h1
    simp [Leaves, settle, results, Try.results59, go_sem, c0, c1]
    exact Or.inl ⟨w', hR, rfl⟩
  · refine leaves_cons (f := 117) (args := #[.pointer (some ⟨w.heap.size, 0, none⟩)]) (by simp) (by simp [go_sem]) ?_
    refine (caught w.heap.size why at' [] w' _ _ h0 h1 z0 z1 hl).mono ?_
    rintro e u' w'' ⟨rfl, rfl, rfl⟩
    obtain ⟨c0, c1⟩ := two_cells (.int .i64 why) (.int .i64 at') h0 h1
    have d0 : ((((w'.setCell ⟨w.heap.size, 0, none⟩ (.int .i64 why)).setCell ⟨w.heap.size, 1, none⟩ (.int .i64 at')).alloc (.cells #[.int .i64 why, .int .i64 at'] 90))).cell? ⟨w.heap.size, 0, none⟩ = some (.int .i64 why) := by
      rw [World.cell?_alloc_lt (h := by simpa [World.setCell] using hl)]; exact c0
    have d1 : ((((w'.setCell ⟨w.heap.size, 0, none⟩ (.int .i64 why)).setCell ⟨w.heap.size, 1, none⟩ (.int .i64 at')).alloc (.cells #[.int .i64 why, .int .i64 at'] 90))).cell? ⟨w.heap.size, 1, none⟩ = some (.int .i64 at') := by
      rw [World.cell?_alloc_lt (h := by simpa [World.setCell] using hl)]; exact c1
    simp [Leaves, settle, results, Try.results59, go_sem, d0, d1]
    refine Or.inr ⟨why, at', ⟨rfl, rfl⟩, w', hS, rfl⟩
end Go.Proofs.Ytcmdajkkdognfaa
