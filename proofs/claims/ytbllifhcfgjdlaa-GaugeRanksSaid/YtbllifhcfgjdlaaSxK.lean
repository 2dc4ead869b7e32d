/- What is proved here: rules for functions that write several blocks of the old memory, for function values, for parts of slices, for bytes of strings. -/
import Derived.Test.YtbllifhcfgjdlaaSxQ
import Derived.Test.YtbllifhcfgjdlaaSxS
import Derived.Lib.ConvBytes
import Derived.Laws.Pointers
namespace Go.Proofs.Ytbllifhcfgjdlaa
open Go.RowKit
set_option linter.unusedVariables false
set_option linter.unusedSimpArgs false

/-- Below B nothing but the blocks of a list are others. -/
structure KS (S : List Nat) (B : Nat) (w w' : World) : Prop where
  os : w'.os = w.os
  tape : w'.tape = w.tape
  output : w'.output = w.output
  size : w.heap.size ≤ w'.heap.size
  block : ∀ k, k < B → k ∉ S → w'.heap[k]? = w.heap[k]?
section
variable {S S2 : List Nat} {b B : Nat} {w w1 w2 w' : World}
theorem KS.refl (S : List Nat) (B : Nat) (w : World) : KS S B w w := ⟨rfl, rfl, rfl, Nat.le_refl _, fun _ _ _ => rfl⟩
theorem KS.many (h : KS S B w w1) (h2 : KS S2 w1.heap.size w1 w2) (hs : ∀ b ∈ S2, b ∈ S ∨ B ≤ b) (hB : B ≤ w1.heap.size) : KS S B w w2 :=
  ⟨h2.os.trans h.os, h2.tape.trans h.tape, h2.output.trans h.output, Nat.le_trans h.size h2.size, fun k hk hne => (h2.block k (Nat.lt_of_lt_of_le hk hB) (fun hm => (hs k hm).elim hne (fun h => by omega))).trans (h.block k hk hne)⟩
theorem KS.trans (h : KS S B w w1) (h2 : Below B w1 w2) : KS S B w w2 := ⟨h2.os.trans h.os, h2.tape.trans h.tape, h2.output.trans h.output, Nat.le_trans h.size h2.size, fun k hk hne => (h2.block k hk).trans (h.block k hk hne)⟩
theorem KS.wrote (h : KS S B w w1) (hg : w1.grownBy w2 (some b)) (hB : B ≤ w1.heap.size) (hm : b ∈ S ∨ B ≤ b) : KS S B w w2 :=
  ⟨hg.os.trans h.os, hg.tape.trans h.tape, hg.output.trans h.output, Nat.le_trans h.size hg.size, fun k hk hne => (hg.block k (Nat.lt_of_lt_of_le hk hB) (fun e => by cases e; exact hm.elim hne (fun h => by omega))).trans (h.block k hk hne)⟩
theorem KS.of_grown (h : w.grownBy w' (some b)) : KS [b] w.heap.size w w' := ⟨h.os, h.tape, h.output, h.size, fun k hk hne => h.block k hk (fun e => hne (by cases e; exact List.mem_singleton.2 rfl))⟩
theorem KS.of_belowB (h : Below B w w') : KS S B w w' := ⟨h.os, h.tape, h.output, h.size, fun k hk _ => h.block k hk⟩
theorem KS.of_below (h : Below w.heap.size w w') : KS S w.heap.size w w' := ⟨h.os, h.tape, h.output, h.size, fun k hk _ => h.block k hk⟩
theorem KS.grown1 (h : KS [b] w.heap.size w w') : w.grownBy w' (some b) := ⟨h.os, h.tape, h.output, h.size, fun k hk hne => h.block k hk (fun e => hne (by rw [List.mem_singleton.1 e]))⟩
theorem KS.below (h : KS [] B w w') : Below B w w' := ⟨h.os, h.tape, h.output, h.size, fun k hk => h.block k hk (by simp)⟩
theorem KS.sub (h : KS S B w w') (hs : ∀ b ∈ S, b ∈ S2) : KS S2 B w w' := ⟨h.os, h.tape, h.output, h.size, fun k hk hne => h.block k hk (fun hm => hne (hs k hm))⟩
theorem blk_ks {o : Obj} (hb : w.heap[b]? = some o) (h : KS S w.heap.size w w') (hn : b ∉ S) : w'.heap[b]? = some o := (h.block b (Array.getElem?_eq_some_iff.1 hb).1 hn).trans hb
theorem Row.ks {α : Type} {k e base : Nat} {V : α → List Value} {v : Value} {l : List α} (h : Row k V e base w v l) (hk : KS S w.heap.size w w') (hn : ∀ b ∈ S, v.ownBlock ≠ Option.some b) : Row k V e base w' v l := by
  refine ⟨h.1, ?_⟩
  rcases h.2 with hz | ⟨g, cap, cur, rfl, hb, hgg, rest⟩
  · exact .inl hz
  · exact .inr ⟨g, cap, cur, rfl, hb, blk_ks hgg hk (fun hm => hn g hm rfl), rest⟩
end
theorem Row.base_le {α : Type} {k e base n c : Nat} {V : α → List Value} {w : World} {a : Option Addr} {l : List α} (h : Row k V e base w (.slice a n c) l) (h0 : 0 < l.length) : base ≤ w.heap.size := by
  obtain ⟨g, _, h1, h2⟩ := h.some h0
  omega
/-- Nothing but block b and a row's own block is another. -/
structure GO (w : World) (b : Nat) (v : Value) (w' : World) : Prop where
  os : w'.os = w.os
  tape : w'.tape = w.tape
  output : w'.output = w.output
  size : w.heap.size ≤ w'.heap.size
  block : ∀ k, k < w.heap.size → k ≠ b → some k ≠ v.ownBlock → w'.heap[k]? = w.heap[k]?
section
variable {w w1 w2 : World} {b : Nat} {v : Value}
theorem GO.refl (w : World) (b : Nat) (v : Value) : GO w b v w := ⟨rfl, rfl, rfl, Nat.le_refl _, fun _ _ _ _ => rfl⟩
theorem GO.below (h : GO w b v w1) (h2 : Below w1.heap.size w1 w2) : GO w b v w2 := ⟨h2.os.trans h.os, h2.tape.trans h.tape, h2.output.trans h.output, Nat.le_trans h.size h2.size, fun k hk h3 h4 => (h2.block k (Nat.lt_of_lt_of_le hk h.size)).trans (h.block k hk h3 h4)⟩
theorem GO.call (h : GO w b v w1) (hg : w1.grownBy w2 (some b)) : GO w b v w2 := ⟨hg.os.trans h.os, hg.tape.trans h.tape, hg.output.trans h.output, Nat.le_trans h.size hg.size, fun k hk h3 h4 => (hg.block k (Nat.lt_of_lt_of_le hk h.size) (fun e => h3 (Option.some.inj e))).trans (h.block k hk h3 h4)⟩
theorem GO.app (h : GO w b v w1) (hg : w1.grownBy w2 v.ownBlock) : GO w b v w2 := ⟨hg.os.trans h.os, hg.tape.trans h.tape, hg.output.trans h.output, Nat.le_trans h.size hg.size, fun k hk h3 h4 => (hg.block k (Nat.lt_of_lt_of_le hk h.size) h4).trans (h.block k hk h3 h4)⟩
theorem blk_go {k : Nat} {o : Obj} (hk : w.heap[k]? = some o) (h : GO w b v w1) (h1 : k ≠ b) (h2 : v.ownBlock ≠ some k) : w1.heap[k]? = some o := (h.block k (Array.getElem?_eq_some_iff.1 hk).1 h1 (fun e => h2 e.symm)).trans hk
theorem Row.go {α : Type} {k e base : Nat} {V : α → List Value} {u : Value} {l : List α} (hr : Row k V e base w u l) (h : GO w b v w1) (h1 : u.ownBlock ≠ Option.some b) (h2 : ∀ q, u.ownBlock = Option.some q → v.ownBlock ≠ Option.some q) : Row k V e base w1 u l := by
  refine ⟨hr.1, ?_⟩
  rcases hr.2 with hz | ⟨g, cap, cur, rfl, hb, hgg, rest⟩
  · exact .inl hz
  · exact .inr ⟨g, cap, cur, rfl, hb, blk_go hgg h (fun e => h1 (by rw [← e]; rfl)) (h2 g rfl), rest⟩
theorem KS.go {S : List Nat} {B : Nat} {w0 : World} (h : KS S B w0 w) (h2 : GO w b v w1) (hB : B ≤ w.heap.size) (hm : b ∈ S ∨ B ≤ b) (hv : ∀ q, v.ownBlock = some q → B ≤ q) : KS S B w0 w1 :=
  ⟨h2.os.trans h.os, h2.tape.trans h.tape, h2.output.trans h.output, Nat.le_trans h.size h2.size, fun k hk hne => (h2.block k (Nat.lt_of_lt_of_le hk hB) (fun e => by subst e; exact hm.elim hne (fun h => by omega)) (fun e => by have := hv k e.symm; omega)).trans (h.block k hk hne)⟩
theorem keptApp {α : Type} {k e base n : Nat} {V : α → List Value} {l : List α} : ∀ (x : Value) (w w' : World), (∃ a c, x = .slice a n c ∧ Row k V e base w x l) → Below w.heap.size w w' → (∃ a c, x = .slice a n c ∧ Row k V e base w' x l) := by
  rintro x w w' ⟨a, c, h1, h2⟩ hb
  exact ⟨a, c, h1, h2.ext hb⟩
end
theorem evs_of {L : List (Nat × Value)} {xs : Array Operand} {vs : List Value} (hv : xs.toList.map (evO L) = vs.map some) {ρ : Operand → Value} (ha : ∀ x v, evO L x = some v → ρ x = v) : xs.map ρ = vs.toArray := by
  apply Array.ext'
  simp only [Array.toList_map]
  have : ∀ (l : List Operand) (us : List Value), l.map (evO L) = us.map some → l.map ρ = us := by
    intro l
    induction l with
    | nil => intro us h; cases us with | nil => rfl | cons u us => simp at h
    | cons x l ih =>
      intro us h
      cases us with
      | nil => simp at h
      | cons u us =>
        simp only [List.map_cons, List.cons.injEq] at h ⊢
        exact ⟨ha x u h.1, ih us h.2⟩
  exact this _ _ hv
section
variable {P : Program} {L : List (Nat × Value)} {w : World} {d : Option Tmp} {ty : TypeId} {ps : String} {af : Array Edge} {gu : Option (Nat × Bool)}
theorem r_pnil {tt e : TypeId} {x y : Operand} {yt : TypeId} {p : Option Addr} (hx : evO L x = some (.pointer p)) (hy : evO L y = some (.pointer none)) (ht : P.underlying tt = some (.pointer e)) : Runs P L ⟨d, .binOp .eql tt x y yt, ty, ps, af, gu⟩ w (.bool p.isNone) w :=
  r_bin hx hy (eqGuard_at_pointer _ _ _ _ _ _) (run_eql_pointer_nil _ _ _ (by simp [Program.pointee, ht]))
theorem r_pnnil {tt e : TypeId} {x y : Operand} {yt : TypeId} {p : Option Addr} (hx : evO L x = some (.pointer p)) (hy : evO L y = some (.pointer none)) (ht : P.underlying tt = some (.pointer e)) : Runs P L ⟨d, .binOp .neq tt x y yt, ty, ps, af, gu⟩ w (.bool (!p.isNone)) w :=
  r_bin hx hy (eqGuard_at_pointer _ _ _ _ _ _) (run_neq_pointer_nil _ _ _ (by simp [Program.pointee, ht]))
/-- The bytes of a string, of a block. -/
def StrC (cs : Array Value) (s : ByteArray) : Prop := ∀ j, j < s.size → cs[j]? = some (.int .u8 ((sbt s j : Nat) : Int))
theorem StrC.rd {b e : Nat} {cs : Array Value} {fr : Nat × Nat} {s : ByteArray} (hb : w.heap[b]? = some (.cells cs e fr)) (h : StrC cs s) : RdS 1 (vInt .u8) w (some ⟨b, 0, none⟩) (nums s) := by
  intro j x hx
  have hj : j < s.size := by rw [← nums_len]; exact (List.getElem?_eq_some_iff.1 hx).1
  refine ⟨b, 0, rfl, blk_lt hb, fun i u hu => ?_⟩
  rw [nums_get hj] at hx
  cases hx
  cases i with
  | zero => cases hu; exact cell_blk hb (by rw [Nat.zero_add, Nat.mul_one]; exact h j hj)
  | succ i => cases hu
theorem d_strb {src dst e : TypeId} {u : TypeDesc} {x : Operand} {s : ByteArray} (hx : evO L x = some (.string s)) (hs : P.underlying src = some u) (hd : P.underlying dst = some (.slice e)) (he : P.underlying e = some (.int .u8)) :
    Does P L ⟨d, .convert src dst x, ty, ps, af, gu⟩ w (fun v w' => ∃ b C cs fr, v = .slice (some ⟨b, 0, none⟩) s.size C ∧ w.heap.size ≤ b ∧ w'.heap[b]? = some (.cells cs e fr) ∧ StrC cs s ∧ s.size ≤ C ∧ Below w.heap.size w w') := by
  refine Runs.does (v := .slice (some ⟨w.heap.size, 0, none⟩) s.size (grownCap w s.size 0 e)) (w' := Lib.bytesWorld w e s) (fun ρ hρ => ?_) ⟨w.heap.size, _, _, _, rfl, Nat.le_refl _, Lib.bytesWorld_at_new w e s, ?_, grownCap_ge _ _ _ _, ?_⟩
  · simp only [execOp, hρ x _ hx]
    have h := Lib.run_convert_string_bytes (P := P) w src dst e s hs hd he
    simp [h]
  · intro j hj
    have h := Lib.bytesWorld_cell w e s j hj
    unfold World.cell? at h
    rw [Lib.bytesWorld_at_new w e s] at h
    exact h
  · refine ⟨?_, ?_, ?_, by rw [Lib.bytesWorld_size]; omega, fun k hk => Lib.bytesWorld_at_old w _ s k hk⟩ <;> simp [Lib.bytesWorld, World.freeze, World.alloc, World.drew, -World.alloc_eq, -World.drew_eq]
theorem keptStr {s : ByteArray} {e top : Nat} : ∀ (v : Value) (w w' : World), (fun (x : Value) (w : World) => ∃ b, (∃ C, x = .slice (some ⟨b, 0, none⟩) s.size C ∧ s.size ≤ C) ∧ top ≤ b ∧ ∃ cs fr, w.heap[b]? = some (.cells cs e fr) ∧ StrC cs s) v w → Below w.heap.size w w' → (fun (x : Value) (w : World) => ∃ b, (∃ C, x = .slice (some ⟨b, 0, none⟩) s.size C ∧ s.size ≤ C) ∧ top ≤ b ∧ ∃ cs fr, w.heap[b]? = some (.cells cs e fr) ∧ StrC cs s) v w' := by
  rintro v w w' ⟨b, h1, h2, cs, fr, h3, h4⟩ hb
  exact ⟨b, h1, h2, cs, fr, blk_ext h3 hb, h4⟩
theorem d_callR {f : FuncId} {xs : Array Operand} {tys : Array TypeId} {vs : List Value} {fn : Func} {v : Value} {R0 : World → Prop} (hv : xs.toList.map (evO L) = vs.map some) (hf : P.funcs[f]? = some fn) (hb : fn.body.isNone = false) (hn : (fn.name == "runtime.NumGoroutine") = false)
    (hc : Calls P f vs.toArray w (fun e w' => e = .returned v ∧ R0 w')) : Does P L ⟨d, .call { callee := .value (.func f), args := xs, argTypes := tys }, ty, ps, af, gu⟩ w (fun u w' => u = v ∧ R0 w') :=
  d_callX hv hf hb hn (hc.mono fun e w' h => ⟨v, h.1, rfl, h.2⟩)
theorem r_makeFunc {k : FuncId} {xs : Array Operand} {vs : List Value} (hv : xs.toList.map (evO L) = vs.map some) : Runs P L ⟨d, .makeFunc (.func k) #[] xs, ty, ps, af, gu⟩ w (.func (.func k) #[] vs.toArray) w := by
  intro ρ hρ
  simp only [execOp, evs_of hv hρ]
  simp [Instr.makeFunc]
/-- A function value that can be entered. -/
def Enters (P : Program) (k : FuncId) : Prop := ∀ (args : Array Value) (w : World), (callFunc k args).run P w = .ok (.enter k args) w
theorem enters {k : FuncId} {fn : Func} (hf : P.funcs[k]? = some fn) (hb : fn.body.isNone = false) (hn : (fn.name == "runtime.NumGoroutine") = false) : Enters P k := fun args w => callee_ok hf hb hn args
theorem d_callF {k : FuncId} {x : Operand} {xs : Array Operand} {tys : Array TypeId} {vs : List Value} {caps ags : Array Value} {R : Value → World → Prop} (hx : evO L x = some (.func (.func k) #[] caps)) (hv : xs.toList.map (evO L) = vs.map some) (has : vs.toArray ++ caps = ags) (hin : Enters P k)
    (hc : Calls P k ags w (fun e w' => ∃ v, e = .returned v ∧ R v w')) : Does P L ⟨d, .call { callee := .value x, args := xs, argTypes := tys }, ty, ps, af, gu⟩ w R := by
  intro a K Q ha hK
  unfold Oper.wp
  have he := evs_of hv ha
  have hr : (execOp a.eval ⟨d, .call { callee := .value x, args := xs, argTypes := tys }, ty, ps, af, gu⟩).run P w = .ok (.enter k ags) w := by
    have h3 := ha x _ hx
    have h4 := hin ags w
    simp only [execOp, resolve, he, h3, Deferred.ofValue]
    simp [invoke, has, h4]
  rw [hr]
  simp only [Oper.upon]
  refine Calls.mono hc fun e w' he => ?_
  obtain ⟨v, rfl, h⟩ := he
  exact hK v w' h
end
/-- Where a part of a slice lies. -/
def slAt (a : Option Addr) (c l k : Nat) : Option Addr := if c = l then a else a.map (·.add (l * k))
theorem slAt_nocap {a : Option Addr} {c l k : Nat} (h : a = none → c = 0) : slAt a c l k = none → c - l = 0 := by
  unfold slAt
  split
  · intro _; omega
  · cases a with
    | none => intro _; have := h rfl; omega
    | some x => intro h; cases h
theorem slAt_rd {α : Type} {k e base n c l : Nat} {V : α → List Value} {w : World} {a : Option Addr} {L X : List α} (hk : ∀ x, (V x).length = k) (h : Row k V e base w (.slice a n c) L) (hX : (L.drop l).take X.length = X) (hl : l + X.length ≤ L.length) : RdS k V w (slAt a c l k) X := by
  rcases Nat.eq_zero_or_pos X.length with h0 | h0
  · rw [List.length_eq_zero_iff.1 h0]; exact RdS.nil
  · obtain ⟨b, rfl, _, _⟩ := h.some (by omega)
    have hc := h.caps
    have he : slAt (some ⟨b, 0, none⟩) c l k = some ⟨b, 0 + l * k, none⟩ := by
      unfold slAt
      rw [if_neg (by omega)]
      simp [Addr.add]
      intro h; exact h.symm
    rw [he, ← hX]
    exact ((Row.rd hk h).drop l).take _
section
variable {P : Program} {L : List (Nat × Value)} {w : World} {d : Option Tmp} {ty : TypeId} {ps : String} {af : Array Edge} {gu : Option (Nat × Bool)}
theorem r_slab {t e : TypeId} {x lo hi : Operand} {k k2 : IntKind} {A B : Int} {a : Option Addr} {n c l h sz : Nat} (hx : evO L x = some (.slice a n c)) (hlo : evO L lo = some (.int k A)) (hhi : evO L hi = some (.int k2 B)) (ht : P.underlying t = some (.slice e)) (hs : (P.info? e).map (fun i => i.size) = some sz) (hA : A = l) (hB : B = h) (h1 : l ≤ h) (h2 : h ≤ c) :
    Runs P L ⟨d, .slice t x (some lo) (some hi) none, ty, ps, af, gu⟩ w (.slice (slAt a c l sz) (h - l) (c - l)) w := by
  intro ρ hρ
  obtain ⟨ii, hii, hsz⟩ : ∃ ii, P.info? e = some ii ∧ ii.size = sz := by
    cases hq : P.info? e with
    | none => rw [hq] at hs; cases hs
    | some ii => exact ⟨ii, rfl, by rw [hq] at hs; simpa using hs⟩
  have he : P.elem t = e := by simp [Program.elem, ht]
  subst hA hB hsz
  have h1' := run_sliceAt_slice (P := P) w t (.slice a n c) (some (.int k (l : Int))) (some (.int k2 (h : Int))) none (by rw [he]; exact ht)
  have h2' := run_slice_lh (P := P) w t a n c (by rw [he]; exact ht) k k2 l h (by omega) (by omega) (by omega)
  simp only [execOp, hρ x _ hx, Option.map_none, Option.map_some, hρ lo _ hlo, hρ hi _ hhi]
  simp only [Sem.run_bind, h1', h2', he, sizeOf, typeInfo]
  simp [hii, sliced, slAt]
theorem r_slfrom {t e : TypeId} {x lo : Operand} {k : IntKind} {A : Int} {a : Option Addr} {n c l sz : Nat} (hx : evO L x = some (.slice a n c)) (hlo : evO L lo = some (.int k A)) (ht : P.underlying t = some (.slice e)) (hs : (P.info? e).map (fun i => i.size) = some sz) (hA : A = l) (h1 : l ≤ n) :
    Runs P L ⟨d, .slice t x (some lo) none none, ty, ps, af, gu⟩ w (.slice (slAt a c l sz) (n - l) (c - l)) w := by
  intro ρ hρ
  obtain ⟨ii, hii, hsz⟩ : ∃ ii, P.info? e = some ii ∧ ii.size = sz := by
    cases hq : P.info? e with
    | none => rw [hq] at hs; cases hs
    | some ii => exact ⟨ii, rfl, by rw [hq] at hs; simpa using hs⟩
  have he : P.elem t = e := by simp [Program.elem, ht]
  subst hA hsz
  have h1' := run_sliceAt_slice (P := P) w t (.slice a n c) (some (.int k (l : Int))) none none (by rw [he]; exact ht)
  have h2' := run_slice_l (P := P) w t a n c (by rw [he]; exact ht) k l (by omega) (by omega)
  simp only [execOp, hρ x _ hx, Option.map_none, Option.map_some, hρ lo _ hlo]
  simp only [Sem.run_bind, h1', h2', he, sizeOf, typeInfo]
  simp [hii, sliced, slAt]
end
section
variable {P : Program} {fn : Func} {R : Ending → World → Prop} {a : Act} {N : Nat} {L : List (Nat × Value)} {w : World}
theorem retCC {p p2 : Tmp} {T T2 U U2 : TypeId} {b b2 : Nat} {cs cs2 : Array Value} {fr fr2 : Nat × Nat} {td td2 : TypeDesc} (hf : Fr N a L) (hr : fn.results = #[.cell p T, .cell p2 U]) (hp : lk L p = some (.pointer (some ⟨b, 0, none⟩)))
    (hb : w.heap[b]? = some (.cells cs T2 fr)) (hu : P.underlying T = some td) (hd : plainT td = false) (hi : (P.info? T).map (·.size) = some cs.size)
    (hp2 : lk L p2 = some (.pointer (some ⟨b2, 0, none⟩))) (hb2 : w.heap[b2]? = some (.cells cs2 U2 fr2)) (hu2 : P.underlying U = some td2) (hd2 : plainT td2 = false) (hi2 : (P.info? U).map (·.size) = some cs2.size)
    (hR : R (.returned (.tuple #[.agg cs, .agg cs2])) w) : bodyPost P fn R .ret a w := by
  refine bodyPost_ret (v := .tuple #[.agg cs, .agg cs2]) ?_ hf.defers hR
  simp [results, hr, hf.has p _ hp, hf.has p2 _ hp2, asAddr, load_cell hb hu hd hi, load_cell hb2 hu2 hd2 hi2]
theorem retTC {s p : Tmp} {T T2 : TypeId} {b : Nat} {cs : Array Value} {fr : Nat × Nat} {td : TypeDesc} {u : Value} (hf : Fr N a L) (hr : fn.results = #[.tmp s, .cell p T]) (hs : lk L s = some u) (hp : lk L p = some (.pointer (some ⟨b, 0, none⟩)))
    (hb : w.heap[b]? = some (.cells cs T2 fr)) (hu : P.underlying T = some td) (hd : plainT td = false) (hi : (P.info? T).map (·.size) = some cs.size) (hR : R (.returned (.tuple #[u, .agg cs])) w) : bodyPost P fn R .ret a w := by
  refine bodyPost_ret (v := .tuple #[u, .agg cs]) ?_ hf.defers hR
  simp [results, hr, hf.has s _ hs, hf.has p _ hp, asAddr, load_cell hb hu hd hi]
end
end Go.Proofs.Ytbllifhcfgjdlaa
