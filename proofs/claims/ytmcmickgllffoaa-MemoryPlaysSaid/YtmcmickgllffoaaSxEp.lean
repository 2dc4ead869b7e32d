/- What is proved here: equality of structs, parts of structs in memory, and results that lie in cells. -/
import Derived.Test.YtmcmickgllffoaaSxCp
import Derived.Laws.StructEq
namespace Go.Proofs.Ytmcmickgllffoaa
open Go.RowKit
set_option linter.unusedVariables false
set_option linter.unusedSimpArgs false

/-- Two values of a type are equal, or not. -/
def EqT (P : Program) (t : TypeId) (k : Nat) (x y : Value) (b : Bool) : Prop := ∀ d w, (Op.equalIn (d + k) t x y).run P w = .ok b w
def EqF (P : Program) (k : Nat) (xs ys : Array Value) (fs : List Field) (b : Bool) : Prop := ∀ d w, (Op.eqFields (d + k) xs ys fs).run P w = .ok b w
section
variable {P : Program} {t : TypeId} {k : Nat} {xs ys : Array Value}
theorem eqt_int {kk k' : IntKind} {a b : Int} (h : P.underlying t = some (.int k')) : EqT P t (k + 1) (.int kk a) (.int kk b) (decide (a = b)) := fun d w => by
  have := run_equalIn_int (P := P) w (d + k) t kk k' a b h
  rw [show d + (k + 1) = (d + k) + 1 from rfl, this]; rfl
theorem eqt_struct {fs : Array Field} {b : Bool} (ht : P.underlying t = some (.struct fs)) (hp : P.stoodInHeld t = false) (hf : EqF P k xs ys fs.toList b) : EqT P t (k + 1) (.agg xs) (.agg ys) b := fun d w => by
  have hfo : P.fieldsOf t = fs := by unfold Program.fieldsOf; rw [ht]
  rw [show d + (k + 1) = (d + k) + 1 from rfl, run_equalIn_struct w (d + k) t xs ys (by rw [hfo]; exact ht) hp, hfo]
  exact hf d w
theorem eqf_nil : EqF P k xs ys [] true := fun d w => by simp [Op.eqFields]
theorem eqf_cons {f : Field} {fs : List Field} {x y : Value} {r rs : Bool} (hn : (f.name != "_") = true) (hx : ∀ w, (part f.type xs f.offset).run P w = .ok x w) (hy : ∀ w, (part f.type ys f.offset).run P w = .ok y w)
    (h : EqT P f.type k x y r) (hr : EqF P k xs ys fs rs) : EqF P k xs ys (f :: fs) (r && rs) := fun d w => by
  have hn' : f.name ≠ "_" := by simpa using hn
  simp only [Op.eqFields, if_pos hn', Sem.run_bind, hx, hy, Result.andThen_ok, h d w]
  cases r
  · simp
  · simpa using hr d w
theorem eqf_one {f : Field} {x y : Value} {r : Bool} (hn : (f.name != "_") = true) (hx : ∀ w, (part f.type xs f.offset).run P w = .ok x w) (hy : ∀ w, (part f.type ys f.offset).run P w = .ok y w)
    (h : EqT P f.type k x y r) : EqF P k xs ys [f] r := by
  have := eqf_cons (fs := []) hn hx hy h eqf_nil
  rwa [Bool.and_true] at this
end
section
variable {P : Program} {L : List (Nat × Value)} {w : World} {d : Option Tmp} {ty : TypeId} {ps : String} {af : Array Edge} {g : Option (Nat × Bool)}
theorem r_aeq {t yt : TypeId} {x y : Operand} {xs ys : Array Value} {k : Nat} {b : Bool} (hx : evO L x = some (.agg xs)) (hy : evO L y = some (.agg ys)) (hm : P.eqGuardType P.depth t = false) (h : EqT P t k (.agg xs) (.agg ys) b) (hk : Nat.ble k 10000 = true) :
    Runs P L ⟨d, .binOp .eql t x y yt, ty, ps, af, g⟩ w (.bool b) w := by
  intro ρ hρ
  have hk' : 10000 - k + k = 10000 := Nat.sub_add_cancel (by simpa [Nat.ble_eq] using hk)
  have h1 := h (10000 - k) w
  rw [hk'] at h1
  simp only [execOp, hρ x _ hx, hρ y _ hy]
  simp [run_eqGuard_agg (P := P) w .eql t x y xs ys hm, run_eql_struct, h1]
end

theorem evAt {L : List (Nat × Value)} {x : Operand} {a : Option Addr} {n c b off : Nat} (h : evO L x = some (.slice a n c)) (ha : a = some ⟨b, off, none⟩) : evO L x = some (.slice (some ⟨b, off, none⟩) n c) := by rw [h, ha]
section
variable {P : Program} {fn : Func} {R : Ending → World → Prop} {a : Act} {w : World} {N : Nat} {L : List (Nat × Value)}
theorem load_cell {T T2 : TypeId} {b : Nat} {cs : Array Value} {fr : Nat × Nat} {td : TypeDesc} (hb : w.heap[b]? = some (.cells cs T2 fr)) (hu : P.underlying T = some td) (hd : plainT td = false) (hi : (P.info? T).map (·.size) = some cs.size) : Sem.run P (loadVar T { block := b, off := 0 }) w = .ok (.agg cs) w :=
  run_loadVar_row (P := P) w b T2 T cs fr td hb hu (by cases td <;> simp_all [plainT]) hi
end
section
variable {P : Program} {L : List (Nat × Value)} {w : World} {d : Option Tmp} {ty : TypeId} {ps : String} {af : Array Edge} {g : Option (Nat × Bool)}
theorem d_storeK {t T : TypeId} {x y : Operand} {b o : Nat} {cs cs' : Array Value} {v : Value} (hx : evO L x = some (.pointer (some ⟨b, o, none⟩))) (hy : evO L y = some v) (hs : (P.info? t).map (·.size) = some v.cells.size) (h1 : v.cells.toList.all (·.oneCell') = true)
    (hb : w.heap[b]? = some (.cells cs T (0, 0))) (hl : Nat.ble (o + v.cells.size) cs.size = true) (hcs : setAll cs o v.cells.toList = cs') : Does P L ⟨d, .store t x y, ty, ps, af, g⟩ w (fun _ w' => Wrote w b cs' T w') :=
  d_store hx hy hs (fun u hu => List.all_eq_true.1 h1 u hu) hb (Nat.le_of_ble_eq_true hl) hcs
end
/-- A slice's rest, for reading. -/
theorem RdS.drop {α : Type} {k : Nat} {V : α → List Value} {w : World} {b off : Nat} {l : List α} (m : Nat) (h : RdS k V w (some ⟨b, off, none⟩) l) : RdS k V w (some ⟨b, off + m * k, none⟩) (l.drop m) := by
  intro j x hx
  rw [List.getElem?_drop] at hx
  obtain ⟨b', o', ha, hl, hc⟩ := h _ x hx
  cases ha
  exact ⟨_, _, rfl, hl, fun i u hu => by rw [show off + m * k + j * k + i = off + (m + j) * k + i by rw [Nat.add_mul]; omega]; exact hc i u hu⟩
theorem RdS.take {α : Type} {k : Nat} {V : α → List Value} {w : World} {a : Option Addr} {l : List α} (m : Nat) (h : RdS k V w a l) : RdS k V w a (l.take m) := by
  intro j x hx
  rw [List.getElem?_take] at hx
  split at hx
  · exact h j x hx
  · cases hx
end Go.Proofs.Ytmcmickgllffoaa
