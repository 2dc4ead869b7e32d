/- What is proved here: equality of structs, parts of structs in memory, and results that lie in cells. -/
import Derived.Test.YtbllifhcfgjdlaaSxC
import Derived.Laws.StructEq
namespace Go.Proofs.Ytbllifhcfgjdlaa
open Go.RowKit
set_option linter.unusedVariables false
set_option linter.unusedSimpArgs false

/-- Two values of a type are equal, or not. -/
def EqT (P : Program) (t : TypeId) (k : Nat) (x y : Value) (b : Bool) : Prop := ∀ d w, (Op.equalIn (d + k) t x y).run P w = .ok b w
def EqF (P : Program) (k : Nat) (xs ys : Array Value) (fs : List Field) (b : Bool) : Prop := ∀ d w, (Op.eqFields (d + k) xs ys fs).run P w = .ok b w
section
variable {P : Program} {t : TypeId} {k : Nat} {xs ys : Array Value}
theorem eqt_int {kk k' : IntKind} {a b : Int} (h : P.underlying t = some (.int k')) : EqT P t (k + 1) (.int kk a) (.int kk b) (decide (a = b)) := fun d w => by
  have := run_equalIn_int (P := P) w (d + k) t kk k' a b h
  rw [show d + (k + 1) = (d + k) + 1 from rfl, this]; rfl
theorem eqt_str {a b : ByteArray} (h : P.underlying t = some .string) : EqT P t (k + 1) (.string a) (.string b) (decide (a = b)) := fun d w => by
  rw [show d + (k + 1) = (d + k) + 1 from rfl, run_equalIn_string w (d + k) t a b h, toList_beq]
theorem eqt_bool {a b : Bool} (h : P.underlying t = some .bool) : EqT P t (k + 1) (.bool a) (.bool b) (a == b) := fun d w => by
  rw [show d + (k + 1) = (d + k) + 1 from rfl, run_equalIn_bool' w (d + k) t a b h]
theorem eqt_struct {fs : Array Field} {b : Bool} (ht : P.underlying t = some (.struct fs)) (hp : P.stoodInHeld t = false) (hf : EqF P k xs ys fs.toList b) : EqT P t (k + 1) (.agg xs) (.agg ys) b := fun d w => by
  have hfo : P.fieldsOf t = fs := by unfold Program.fieldsOf; rw [ht]
  rw [show d + (k + 1) = (d + k) + 1 from rfl, run_equalIn_struct w (d + k) t xs ys (by rw [hfo]; exact ht) hp, hfo]
  exact hf d w
theorem eqf_nil : EqF P k xs ys [] true := fun d w => by simp [Op.eqFields]
theorem eqf_cons {f : Field} {fs : List Field} {x y : Value} {r rs : Bool} (hn : (f.name != "_") = true) (hx : ∀ w, (part f.type xs f.offset).run P w = .ok x w) (hy : ∀ w, (part f.type ys f.offset).run P w = .ok y w)
    (h : EqT P f.type k x y r) (hr : EqF P k xs ys fs rs) : EqF P k xs ys (f :: fs) (r && rs) := fun d w => by
  have hn' : f.name ≠ "_" := by simpa using hn
  simp only [Op.eqFields, if_pos hn', Sem.run_bind, hx, hy, Result.andThen_ok, h d w]
  cases r
  · simp
  · simpa using hr d w
theorem eqf_one {f : Field} {x y : Value} {r : Bool} (hn : (f.name != "_") = true) (hx : ∀ w, (part f.type xs f.offset).run P w = .ok x w) (hy : ∀ w, (part f.type ys f.offset).run P w = .ok y w)
    (h : EqT P f.type k x y r) : EqF P k xs ys [f] r := by
  have := eqf_cons (fs := []) hn hx hy h eqf_nil
  rwa [Bool.and_true] at this
end
section
variable {P : Program} {L : List (Nat × Value)} {w : World} {d : Option Tmp} {ty : TypeId} {ps : String} {af : Array Edge} {g : Option (Nat × Bool)}
theorem r_aeq {t yt : TypeId} {x y : Operand} {xs ys : Array Value} {k : Nat} {b : Bool} (hx : evO L x = some (.agg xs)) (hy : evO L y = some (.agg ys)) (hm : P.eqGuardType P.depth t = false) (h : EqT P t k (.agg xs) (.agg ys) b) (hk : Nat.ble k 10000 = true) :
    Runs P L ⟨d, .binOp .eql t x y yt, ty, ps, af, g⟩ w (.bool b) w := by
  intro ρ hρ
  have hk' : 10000 - k + k = 10000 := Nat.sub_add_cancel (by simpa [Nat.ble_eq] using hk)
  have h1 := h (10000 - k) w
  rw [hk'] at h1
  simp only [execOp, hρ x _ hx, hρ y _ hy]
  simp [run_eqGuard_agg (P := P) w .eql t x y xs ys hm, run_eql_struct, h1]
theorem r_ane {t yt : TypeId} {x y : Operand} {xs ys : Array Value} {k : Nat} {b : Bool} (hx : evO L x = some (.agg xs)) (hy : evO L y = some (.agg ys)) (hm : P.eqGuardType P.depth t = false) (h : EqT P t k (.agg xs) (.agg ys) b) (hk : Nat.ble k 10000 = true) :
    Runs P L ⟨d, .binOp .neq t x y yt, ty, ps, af, g⟩ w (.bool (!b)) w := by
  intro ρ hρ
  have hk' : 10000 - k + k = 10000 := Nat.sub_add_cancel (by simpa [Nat.ble_eq] using hk)
  have h1 := h (10000 - k) w
  rw [hk'] at h1
  simp only [execOp, hρ x _ hx, hρ y _ hy]
  simp [run_eqGuard_agg (P := P) w .neq t x y xs ys hm, run_neq_struct, h1]
end

theorem evAt {L : List (Nat × Value)} {x : Operand} {a : Option Addr} {n c b off : Nat} (h : evO L x = some (.slice a n c)) (ha : a = some ⟨b, off, none⟩) : evO L x = some (.slice (some ⟨b, off, none⟩) n c) := by rw [h, ha]
/-- Cells in the midst of others. -/
theorem cellsAt_part {w : World} {b o d q n : Nat} {cs qs : List Value} (h : cellsAt w b o cs) (hq : o + d = q) (hqs : (cs.drop d).take n = qs) : cellsAt w b q qs := by
  intro j v hj
  subst hqs; subst hq
  rw [List.getElem?_take] at hj
  split at hj
  · rw [List.getElem?_drop] at hj
    have := h (d + j) v hj
    rwa [← Nat.add_assoc] at this
  · cases hj

/-- An element of an argument. -/
theorem fSl_el {α : Type} {k : Nat} {V : α → List Value} {F : World → α → Prop} {w : World} {s : Sl α} {j : Nat} {y : α} (h : fSl k V F w s) (hj : s.list[j]? = some y) : F w y := by
  have hlt : j < s.len := by
    have := (List.getElem?_eq_some_iff.1 hj).1
    rwa [Sl.list_length] at this
  rw [Sl.list_get s hlt] at hj
  cases hj
  exact (h.2.2.2 j hlt).1
theorem fSl_mem {α : Type} {k : Nat} {V : α → List Value} {F : World → α → Prop} {w : World} {s : Sl α} {y : α} (h : fSl k V F w s) (hj : y ∈ s.list) : F w y := by
  obtain ⟨j, hj⟩ := List.getElem?_of_mem hj
  exact fSl_el h hj

section
variable {P : Program} {fn : Func} {R : Ending → World → Prop} {a : Act} {w : World} {N : Nat} {L : List (Nat × Value)}
theorem load_cell {T T2 : TypeId} {b : Nat} {cs : Array Value} {fr : Nat × Nat} {td : TypeDesc} (hb : w.heap[b]? = some (.cells cs T2 fr)) (hu : P.underlying T = some td) (hd : plainT td = false) (hi : (P.info? T).map (·.size) = some cs.size) : Sem.run P (loadVar T { block := b, off := 0 }) w = .ok (.agg cs) w :=
  run_loadVar_row (P := P) w b T2 T cs fr td hb hu (by cases td <;> simp_all [plainT]) hi
theorem retTCT {s p t : Tmp} {T T2 : TypeId} {b : Nat} {cs : Array Value} {fr : Nat × Nat} {td : TypeDesc} {u v : Value} (hf : Fr N a L) (hr : fn.results = #[.tmp s, .cell p T, .tmp t]) (hs : lk L s = some u) (hp : lk L p = some (.pointer (some ⟨b, 0, none⟩)))
    (hb : w.heap[b]? = some (.cells cs T2 fr)) (hu : P.underlying T = some td) (hd : plainT td = false) (hi : (P.info? T).map (·.size) = some cs.size) (ht : lk L t = some v) (hR : R (.returned (.tuple #[u, .agg cs, v])) w) : bodyPost P fn R .ret a w := by
  refine bodyPost_ret (v := .tuple #[u, .agg cs, v]) ?_ hf.defers hR
  simp [results, hr, hf.has s _ hs, hf.has p _ hp, hf.has t _ ht, asAddr, load_cell hb hu hd hi]
theorem retCTT {p s t : Tmp} {T T2 : TypeId} {b : Nat} {cs : Array Value} {fr : Nat × Nat} {td : TypeDesc} {u v : Value} (hf : Fr N a L) (hr : fn.results = #[.cell p T, .tmp s, .tmp t]) (hp : lk L p = some (.pointer (some ⟨b, 0, none⟩)))
    (hb : w.heap[b]? = some (.cells cs T2 fr)) (hu : P.underlying T = some td) (hd : plainT td = false) (hi : (P.info? T).map (·.size) = some cs.size) (hs : lk L s = some u) (ht : lk L t = some v) (hR : R (.returned (.tuple #[.agg cs, u, v])) w) : bodyPost P fn R .ret a w := by
  refine bodyPost_ret (v := .tuple #[.agg cs, u, v]) ?_ hf.defers hR
  simp [results, hr, hf.has s _ hs, hf.has p _ hp, hf.has t _ ht, asAddr, load_cell hb hu hd hi]
theorem retCCT {p p2 t : Tmp} {T T2 U U2 : TypeId} {b b2 : Nat} {cs cs2 : Array Value} {fr fr2 : Nat × Nat} {td td2 : TypeDesc} {v : Value} (hf : Fr N a L) (hr : fn.results = #[.cell p T, .cell p2 U, .tmp t]) (hp : lk L p = some (.pointer (some ⟨b, 0, none⟩)))
    (hb : w.heap[b]? = some (.cells cs T2 fr)) (hu : P.underlying T = some td) (hd : plainT td = false) (hi : (P.info? T).map (·.size) = some cs.size)
    (hp2 : lk L p2 = some (.pointer (some ⟨b2, 0, none⟩))) (hb2 : w.heap[b2]? = some (.cells cs2 U2 fr2)) (hu2 : P.underlying U = some td2) (hd2 : plainT td2 = false) (hi2 : (P.info? U).map (·.size) = some cs2.size)
    (ht : lk L t = some v) (hR : R (.returned (.tuple #[.agg cs, .agg cs2, v])) w) : bodyPost P fn R .ret a w := by
  refine bodyPost_ret (v := .tuple #[.agg cs, .agg cs2, v]) ?_ hf.defers hR
  simp [results, hr, hf.has p _ hp, hf.has p2 _ hp2, hf.has t _ ht, asAddr, load_cell hb hu hd hi, load_cell hb2 hu2 hd2 hi2]
theorem retTTCT {r s p t : Tmp} {T T2 : TypeId} {b : Nat} {cs : Array Value} {fr : Nat × Nat} {td : TypeDesc} {z u v : Value} (hf : Fr N a L) (hr : fn.results = #[.tmp r, .tmp s, .cell p T, .tmp t]) (hz : lk L r = some z) (hs : lk L s = some u) (hp : lk L p = some (.pointer (some ⟨b, 0, none⟩)))
    (hb : w.heap[b]? = some (.cells cs T2 fr)) (hu : P.underlying T = some td) (hd : plainT td = false) (hi : (P.info? T).map (·.size) = some cs.size) (ht : lk L t = some v) (hR : R (.returned (.tuple #[z, u, .agg cs, v])) w) : bodyPost P fn R .ret a w := by
  refine bodyPost_ret (v := .tuple #[z, u, .agg cs, v]) ?_ hf.defers hR
  simp [results, hr, hf.has r _ hz, hf.has s _ hs, hf.has p _ hp, hf.has t _ ht, asAddr, load_cell hb hu hd hi]
end
section
variable {P : Program} {L : List (Nat × Value)} {w : World} {d : Option Tmp} {ty : TypeId} {ps : String} {af : Array Edge} {g : Option (Nat × Bool)}
theorem r_pickC {c x y : Operand} {b : Bool} (hc : evO L c = some (.bool b)) (hx : evO L x = some (.bool true)) (hy : evO L y = some (.bool false)) : Runs P L ⟨d, .pick c x y, ty, ps, af, g⟩ w (.bool b) w :=
  r_pick hc hx hy (by cases b <;> rfl)
theorem d_storeK {t T : TypeId} {x y : Operand} {b o : Nat} {cs cs' : Array Value} {v : Value} (hx : evO L x = some (.pointer (some ⟨b, o, none⟩))) (hy : evO L y = some v) (hs : (P.info? t).map (·.size) = some v.cells.size) (h1 : v.cells.toList.all (·.oneCell') = true)
    (hb : w.heap[b]? = some (.cells cs T (0, 0))) (hl : Nat.ble (o + v.cells.size) cs.size = true) (hcs : setAll cs o v.cells.toList = cs') : Does P L ⟨d, .store t x y, ty, ps, af, g⟩ w (fun _ w' => Wrote w b cs' T w') :=
  d_store hx hy hs (fun u hu => List.all_eq_true.1 h1 u hu) hb (Nat.le_of_ble_eq_true hl) hcs
end
/-- A slice's rest, for reading. -/
theorem RdS.drop {α : Type} {k : Nat} {V : α → List Value} {w : World} {b off : Nat} {l : List α} (m : Nat) (h : RdS k V w (some ⟨b, off, none⟩) l) : RdS k V w (some ⟨b, off + m * k, none⟩) (l.drop m) := by
  intro j x hx
  rw [List.getElem?_drop] at hx
  obtain ⟨b', o', ha, hl, hc⟩ := h _ x hx
  cases ha
  exact ⟨_, _, rfl, hl, fun i u hu => by rw [show off + m * k + j * k + i = off + (m + j) * k + i by rw [Nat.add_mul]; omega]; exact hc i u hu⟩
theorem RdS.take {α : Type} {k : Nat} {V : α → List Value} {w : World} {a : Option Addr} {l : List α} (m : Nat) (h : RdS k V w a l) : RdS k V w a (l.take m) := by
  intro j x hx
  rw [List.getElem?_take] at hx
  split at hx
  · exact h j x hx
  · cases hx
/-- Worlds that follow one another while blocks of one form are filled. -/
def GA (top : Nat) (z n : Obj) (w w' : World) : Prop := Below top w w' ∧ ∀ (b : Nat) (o : Obj), w.heap[b]? = some o → w'.heap[b]? = some o ∨ (o = z ∧ w'.heap[b]? = some n)
theorem GA_refl {top : Nat} {z n : Obj} {w : World} : GA top z n w w := ⟨Below.refl _ _, fun _ _ h => .inl h⟩
theorem GA_below {top : Nat} {z n : Obj} {w w' : World} (h : Below w.heap.size w w') (ht : top ≤ w.heap.size) : GA top z n w w' := ⟨h.mono ht, fun _ _ hb => .inl (blk_ext hb h)⟩
theorem GA_store {top b : Nat} {z n : Obj} {w w' : World} (ht : top ≤ w.heap.size) (htb : top ≤ b) (ho : w.heap[b]? = some z ∨ w.heap[b]? = some n) (hW : w'.heap[b]? = some n) (hg : w.grownBy w' (some b)) : GA top z n w w' := by
  refine ⟨grown_below hg ht htb, fun c o hc => ?_⟩
  by_cases h : c = b
  · subst h
    rcases ho with h | h
    · rw [h] at hc; cases hc; exact .inr ⟨rfl, hW⟩
    · rw [h] at hc; cases hc; exact .inl hW
  · exact .inl (blk_grown hc hg h)
theorem GA_two {top b : Nat} {z n : Obj} {w w' : World} (h : GA top z n w w') (ho : w.heap[b]? = some z ∨ w.heap[b]? = some n) : w'.heap[b]? = some z ∨ w'.heap[b]? = some n := by
  rcases ho with ho | ho
  · rcases h.2 b _ ho with h2 | h2
    · exact .inl h2
    · exact .inr h2.2
  · rcases h.2 b _ ho with h2 | h2
    · exact .inr h2
    · exact .inr h2.2
theorem GA_new {top b : Nat} {z n : Obj} {w w' : World} (h : GA top z n w w') (ho : w.heap[b]? = some n) : w'.heap[b]? = some n := by
  rcases h.2 b _ ho with h2 | h2
  · exact h2
  · exact h2.2
theorem keptA {F : Nat → Value} {top : Nat} {z n : Obj} : ∀ (v : Value) (w w' : World), (fun (x : Value) (w : World) => ∃ b, x = F b ∧ top ≤ b ∧ (w.heap[b]? = some z ∨ w.heap[b]? = some n)) v w → GA top z n w w' → (fun (x : Value) (w : World) => ∃ b, x = F b ∧ top ≤ b ∧ (w.heap[b]? = some z ∨ w.heap[b]? = some n)) v w' := by
  rintro v w w' ⟨b, h1, h2, h3⟩ hb
  exact ⟨b, h1, h2, GA_two hb h3⟩
theorem keptO {F : Nat → Value} {top : Nat} {z n o : Obj} (hne : o ≠ z) : ∀ (v : Value) (w w' : World), (fun (x : Value) (w : World) => ∃ b, x = F b ∧ top ≤ b ∧ w.heap[b]? = some o) v w → GA top z n w w' → (fun (x : Value) (w : World) => ∃ b, x = F b ∧ top ≤ b ∧ w.heap[b]? = some o) v w' := by
  rintro v w w' ⟨b, h1, h2, h3⟩ hb
  rcases hb.2 b _ h3 with h | h
  · exact ⟨b, h1, h2, h⟩
  · exact absurd h.1 hne
theorem keptE {α : Type} {k e n base : Nat} {V : α → List Value} {l : List α} : ∀ (v : Value) (w w' : World), (fun (x : Value) (w : World) => ∃ a c, x = .slice a n c ∧ Row k V e base w x l) v w → Below w.heap.size w w' → (fun (x : Value) (w : World) => ∃ a c, x = .slice a n c ∧ Row k V e base w x l) v w' := by
  rintro v w w' ⟨a, c, h1, h2⟩ hb
  exact ⟨a, c, h1, h2.ext hb⟩
theorem keptX {α : Type} {k e top base : Nat} {V : α → List Value} {l : List α} {F : Value → Nat → Prop} : ∀ (v : Value) (w w' : World), (fun (x : Value) (w : World) => ∃ b, F x b ∧ top ≤ b ∧ Row k V e base w x l) v w → Below w.heap.size w w' → (fun (x : Value) (w : World) => ∃ b, F x b ∧ top ≤ b ∧ Row k V e base w x l) v w' := by
  rintro v w w' ⟨b, h1, h2, h3⟩ hb
  exact ⟨b, h1, h2, h3.ext hb⟩
end Go.Proofs.Ytbllifhcfgjdlaa
