/- What is proved here: what the sort by insertion does to a list of floats, plain; calls of a function value. -/
import Derived.Test.YtbllifhcfgjdlaaGgA
import Derived.Test.YtbllifhcfgjdlaaSxT
import Derived.Lib.BufferMore
namespace Go.Proofs.Ytbllifhcfgjdlaa
open Go.RowKit FltT
set_option linter.unusedVariables false
set_option linter.unusedSimpArgs false
section
variable {P : Program} {L : List (Nat × Value)} {w : World} {d : Option Tmp} {ty : TypeId} {ps : String} {af : Array Edge} {gu : Option (Nat × Bool)}
theorem d_callFB {k : FuncId} {x : Operand} {xs : Array Operand} {tys : Array TypeId} {vs : List Value} {v : Value} (hx : evO L x = some (.func (.func k) #[] #[])) (hv : xs.toList.map (evO L) = vs.map some) (hin : Enters P k)
    (hc : Calls P k vs.toArray w (fun e w' => e = .returned v ∧ Below w.heap.size w w')) : Does P L ⟨d, .call { callee := .value x, args := xs, argTypes := tys }, ty, ps, af, gu⟩ w (fun u w' => u = v ∧ Below w.heap.size w w') :=
  d_callF hx hv (by simp) hin (Calls.mono hc fun e w' h => ⟨v, h.1, rfl, h.2⟩)
theorem r_slnil {tt e : TypeId} {x y : Operand} {yt : TypeId} {p : Option Addr} {n c : Nat} (hx : evO L x = some (.slice p n c)) (hy : evO L y = some (.slice none 0 0)) (ht : P.underlying tt = some (.slice e)) : Runs P L ⟨d, .binOp .eql tt x y yt, ty, ps, af, gu⟩ w (.bool p.isNone) w :=
  r_bin hx hy (eqGuard_at_slice _ _ _ _ _ _ _ _) (by
    cases p with
    | none => exact Go.Lib.run_eql_slice_nil_nil w n c ht
    | some a => exact Go.Lib.run_eql_slice_some_nil w a n c ht)
end
/-- one step of the inner loop: the elements at j + 1 and j change places -/
def swL (l : List Nat) (j : Nat) : List Nat := (l.set (j + 1) (l.getD j 0)).set j (l.getD (j + 1) 0)
def insL (p : Nat) : Nat → List Nat → List Nat
  | 0, l => l
  | j + 1, l => if p < j + 1 ∧ ordN (l.getD (j + 1) 0) (l.getD j 0) < 0 then insL p j (swL l j) else l
def insR (p : Nat) : Nat → Nat → List Nat → List Nat
  | 0, _, l => l
  | n + 1, i, l => insR p n (i + 1) (insL p i l)
def isort (p q : Nat) (l : List Nat) : List Nat := insR p (q - (p + 1)) (p + 1) l
theorem swL_len (l : List Nat) (j : Nat) : (swL l j).length = l.length := by simp [swL]
theorem insL_len (p : Nat) : ∀ (j : Nat) (l : List Nat), (insL p j l).length = l.length
  | 0, l => rfl
  | j + 1, l => by
    unfold insL
    split
    · rw [insL_len p j, swL_len]
    · rfl
theorem insR_len (p : Nat) : ∀ (n i : Nat) (l : List Nat), (insR p n i l).length = l.length
  | 0, _, _ => rfl
  | n + 1, i, l => by rw [insR, insR_len p n, insL_len]
theorem isort_len (p q : Nat) (l : List Nat) : (isort p q l).length = l.length := insR_len _ _ _ _
/-- all are words -/
def allW (l : List Nat) : Prop := ∀ x ∈ l, x < 18446744073709551616
theorem allW_getD {l : List Nat} (h : allW l) (j : Nat) : l.getD j 0 < 18446744073709551616 := by
  rw [List.getD_eq_getElem?_getD]
  cases e : l[j]? with
  | none => simp
  | some x => exact h x (List.mem_of_getElem? e)
theorem allW_set {l : List Nat} (h : allW l) {j x : Nat} (hx : x < 18446744073709551616) : allW (l.set j x) := by
  intro y hy
  rcases List.mem_or_eq_of_mem_set hy with h1 | h1
  · exact h y h1
  · rw [h1]; exact hx
theorem allW_sw {l : List Nat} (h : allW l) (j : Nat) : allW (swL l j) := allW_set (allW_set h (allW_getD h j)) (allW_getD h (j + 1))
theorem insL_go {p j : Nat} {l : List Nat} (hp : p < j) (h : ordN (l.getD j 0) (l.getD (j - 1) 0) < 0) : insL p j l = insL p (j - 1) ((l.set j (l.getD (j - 1) 0)).set (j - 1) (l.getD j 0)) := by
  obtain ⟨k, rfl⟩ : ∃ k, j = k + 1 := ⟨j - 1, by omega⟩
  rw [insL, if_pos ⟨hp, h⟩]; rfl
theorem insL_end {p j : Nat} {l : List Nat} (h : ¬ (p < j ∧ ordN (l.getD j 0) (l.getD (j - 1) 0) < 0)) : insL p j l = l := by
  cases j with
  | zero => rfl
  | succ k => rw [Nat.add_sub_cancel] at h; rw [insL, if_neg h]
theorem allW_insL (p : Nat) : ∀ (j : Nat) (l : List Nat), allW l → allW (insL p j l)
  | 0, l, h => h
  | j + 1, l, h => by
    unfold insL
    split
    · exact allW_insL p j _ (allW_sw h j)
    · exact h
theorem allW_insR (p : Nat) : ∀ (n i : Nat) (l : List Nat), allW l → allW (insR p n i l)
  | 0, _, _, h => h
  | n + 1, i, l, h => by rw [insR]; exact allW_insR p n _ _ (allW_insL p i l h)
theorem allW_isort (p q : Nat) (l : List Nat) (h : allW l) : allW (isort p q l) := allW_insR _ _ _ _ h
end Go.Proofs.Ytbllifhcfgjdlaa
