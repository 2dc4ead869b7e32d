/- What is proved here: rules for functions that write one block of the old memory (a scanner), and for calls of them. -/
import Derived.Test.YtbllifhcfgjdlaaSxP
namespace Go.Proofs.Ytbllifhcfgjdlaa
open Go.RowKit
set_option linter.unusedVariables false
set_option linter.unusedSimpArgs false

/-- Below B nothing but block b is another. -/
structure KB (b B : Nat) (w w' : World) : Prop where
  os : w'.os = w.os
  tape : w'.tape = w.tape
  output : w'.output = w.output
  size : w.heap.size ≤ w'.heap.size
  block : ∀ k, k < B → k ≠ b → w'.heap[k]? = w.heap[k]?
section
variable {b B : Nat} {w w1 w2 : World}
theorem KB.refl (b B : Nat) (w : World) : KB b B w w := ⟨rfl, rfl, rfl, Nat.le_refl _, fun _ _ _ => rfl⟩
theorem KB.trans (h : KB b B w w1) (h2 : Below B w1 w2) : KB b B w w2 := ⟨h2.os.trans h.os, h2.tape.trans h.tape, h2.output.trans h.output, Nat.le_trans h.size h2.size, fun k hk hne => (h2.block k hk).trans (h.block k hk hne)⟩
theorem KB.wrote (h : KB b B w w1) (hg : w1.grownBy w2 (some b)) (hB : B ≤ w1.heap.size) : KB b B w w2 :=
  ⟨hg.os.trans h.os, hg.tape.trans h.tape, hg.output.trans h.output, Nat.le_trans h.size hg.size, fun k hk hne => (hg.block k (Nat.lt_of_lt_of_le hk hB) (fun e => hne (Option.some.inj e))).trans (h.block k hk hne)⟩
theorem KB.grown (h : KB b w.heap.size w w1) : w.grownBy w1 (some b) := ⟨h.os, h.tape, h.output, h.size, fun k hk hne => h.block k hk (fun e => hne (by rw [e]))⟩
end
section
variable {P : Program} {L : List (Nat × Value)} {w : World} {d : Option Tmp} {ty : TypeId} {ps : String} {af : Array Edge} {gu : Option (Nat × Bool)}
theorem r_nilCheck {x : Operand} {p : Addr} (hx : evO L x = some (.pointer (some p))) : Runs P L ⟨d, .nilCheck x, ty, ps, af, gu⟩ w (.pointer (some p)) w := by
  intro ρ hρ
  simp [execOp, hρ _ _ hx]
theorem d_callW {f : FuncId} {xs : Array Operand} {tys : Array TypeId} {vs : List Value} {fn : Func} {v : Value} {b T : Nat} {cs : Array Value} (hv : xs.toList.map (evO L) = vs.map some) (hf : P.funcs[f]? = some fn) (hb : fn.body.isNone = false) (hn : (fn.name == "runtime.NumGoroutine") = false)
    (hc : Calls P f vs.toArray w (fun e w' => e = .returned v ∧ Wrote w b cs T w')) : Does P L ⟨d, .call { callee := .value (.func f), args := xs, argTypes := tys }, ty, ps, af, gu⟩ w (fun u w' => u = v ∧ Wrote w b cs T w') :=
  d_callX hv hf hb hn (hc.mono (fun e w' h => ⟨v, h.1, rfl, h.2⟩))
theorem d_make0 {α : Type} {V : α → List Value} {t e bytes k m : Nat} {z : Value} {x y : Operand} {kx ky : IntKind} (hx : evO L x = some (.int kx 0)) (hy : evO L y = some (.int ky (m : Int))) (ht : P.underlying t = some (.slice e)) (hi : (P.info? e).map (fun i => (i.zero, i.size, i.bytes)) = some (some z, k, bytes)) (hz : z.cells.size = k)
    (hbytes : bytes * m ≤ 140737488355328) (h63 : m ≤ maxLen) :
    Does P L ⟨d, .makeSlice t x y, ty, ps, af, gu⟩ w (fun v w' => ∃ b, v = .slice (some ⟨b, 0, none⟩) 0 m ∧ w.heap.size ≤ b ∧ Row k V e w.heap.size w' v ([] : List α) ∧ Below w.heap.size w w') := by
  obtain ⟨i, hii, hz0, hs0, hby⟩ := info_parts hi
  have h3 : (bytes : Int) * (m : Int) ≤ 281474976710656 := by
    have h : ((bytes * m : Nat) : Int) ≤ 281474976710656 := by omega
    rwa [Int.natCast_mul] at h
  have hr := run_make (P := P) w t e i z ht hii hz0 kx ky 0 m (by omega) (by omega) (by rw [hby]; exact h3) (by simp [maxLen] at h63; omega)
  simp only [Int.toNat_natCast, hs0] at hr
  refine Runs.does (v := .slice (some ⟨w.heap.size, 0, none⟩) 0 m) (w' := w.alloc (.cells (madeCells z.cells (m * k)) e)) (fun ρ hρ => by simp only [execOp, hρ x _ hx, hρ y _ hy]; simp [hr]) ⟨_, rfl, Nat.le_refl _, ?_, (Below.refl _ _).alloc (Nat.le_refl _) _⟩
  exact World.ownsRow_made w _ m (Nat.le_refl _) h63 (by rw [size_madeCells])
end
end Go.Proofs.Ytbllifhcfgjdlaa
