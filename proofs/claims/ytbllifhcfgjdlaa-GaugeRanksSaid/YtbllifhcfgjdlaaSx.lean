/-
  What is proved here: a logic for walks. What is known of a frame is a list of slots; each operation has a rule over known values; a region whose order is open has one rule.
-/
import Derived.Test.YtbllifhcfgjdlaaKit
import Derived.Test.YtbllifhcfgjdlaaKitT
import Derived.Test.YtbllifhcfgjdlaaKit5
import Derived.Deep.LoopGhost
import Derived.Lib.ConvBytes
namespace Go.Proofs.Ytbllifhcfgjdlaa
open Go.RowKit
set_option linter.unusedVariables false
set_option linter.unusedSimpArgs false

/- WHAT IS KNOWN OF A FRAME. -/

def lk : List (Nat × Value) → Nat → Option Value
  | [], _ => none
  | (t, v) :: l, s => cond (Nat.beq t s) (some v) (lk l s)

structure Fr (N : Nat) (a : Act) (L : List (Nat × Value)) : Prop where
  size : a.tmps.size = N
  defers : a.defers = []
  has : ∀ t v, lk L t = some v → a.tmps[t]? = some v

def evO (L : List (Nat × Value)) : Operand → Option Value
  | .tmp t => lk L t
  | .const v => some v
  | .global g => some (.pointer (some ⟨g, 0, none⟩))
  | .func f => some (.func (.func f) #[] #[])

theorem Fr.ev {N : Nat} {a : Act} {L : List (Nat × Value)} (h : Fr N a L) {x : Operand} {v : Value} (e : evO L x = some v) : a.eval x = v := by
  cases x with
  | tmp t => simp only [evO] at e; simp [Act.eval, h.has t v e]
  | _ => simp only [evO, Option.some.injEq] at e; subst e; rfl

def ins (d : Option Tmp) (v : Value) (L : List (Nat × Value)) : List (Nat × Value) :=
  match d with
  | some t => (t, v) :: L
  | none => L

def dstOk (N : Nat) (d : Option Tmp) : Bool :=
  match d with
  | some t => Nat.blt t N
  | none => true

theorem Fr.ins {N : Nat} {a : Act} {L : List (Nat × Value)} (h : Fr N a L) {d : Option Tmp} (v : Value) (ho : dstOk N d = true) : Fr N (a.put d v) (ins d v L) := by
  cases d with
  | none => exact h
  | some t =>
    have ht : t < N := by simpa [dstOk, Nat.blt_eq] using ho
    refine ⟨put_size.trans h.size, put_defers.trans h.defers, fun s u hs => ?_⟩
    simp only [Go.Proofs.Ytbllifhcfgjdlaa.ins, lk] at hs
    cases hb : Nat.beq t s with
    | true =>
      rw [hb] at hs
      simp only [cond_true, Option.some.injEq] at hs
      have := Nat.eq_of_beq_eq_true hb
      subst this hs
      exact put_get (by rw [h.size]; exact ht)
    | false =>
      rw [hb] at hs
      rw [put_get_ne (fun e => by cases e; simp [Nat.beq_eq] at hb)]
      exact h.has s u hs

/-- A list of slots that stand in another one. -/
def subL (L : List (Nat × Value)) : List (Nat × Value) → Prop
  | [] => True
  | (t, v) :: l => lk L t = some v ∧ subL L l

theorem subL_lk {L : List (Nat × Value)} : ∀ {L' : List (Nat × Value)}, subL L L' → ∀ t v, lk L' t = some v → lk L t = some v
  | [], _, _, _, h => by cases h
  | (s, u) :: l, hs, t, v, h => by
    simp only [lk] at h
    cases hb : Nat.beq s t with
    | true =>
      rw [hb] at h
      simp only [cond_true, Option.some.injEq] at h
      have := Nat.eq_of_beq_eq_true hb
      rw [← this, ← h]; exact hs.1
    | false =>
      rw [hb] at h
      exact subL_lk hs.2 t v h

theorem Fr.sub {N : Nat} {a : Act} {L L' : List (Nat × Value)} (h : Fr N a L) (hs : subL L L') : Fr N a L' := ⟨h.size, h.defers, fun t v e => h.has t v (subL_lk hs t v e)⟩

theorem some_int {k : IntKind} {x y : Int} (h : x = y) : some (Value.int k x) = some (.int k y) := by rw [h]
theorem some_bool {x y : Bool} (h : x = y) : some (Value.bool x) = some (.bool y) := by rw [h]
theorem some_str {x y : ByteArray} (h : x = y) : some (Value.string x) = some (.string y) := by rw [h]
theorem some_sl {a : Option Addr} {x y c d : Nat} (h : x = y) (h2 : c = d) : some (Value.slice a x c) = some (.slice a y d) := by rw [h, h2]

def argL : List Value → Nat → List (Nat × Value)
  | [], _ => []
  | v :: vs, i => (i, v) :: argL vs (i + 1)

theorem lk_argL : ∀ (vs : List Value) (i t : Nat) (v : Value), lk (argL vs i) t = some v → ∃ j, t = i + j ∧ vs[j]? = some v
  | [], _, _, _, h => by cases h
  | u :: vs, i, t, v, h => by
    simp only [argL, lk] at h
    cases hb : Nat.beq i t with
    | true =>
      rw [hb] at h
      simp only [cond_true, Option.some.injEq] at h
      exact ⟨0, (Nat.eq_of_beq_eq_true hb).symm, by simp [h]⟩
    | false =>
      rw [hb] at h
      obtain ⟨j, h1, h2⟩ := lk_argL vs (i + 1) t v h
      exact ⟨j + 1, by omega, by simpa using h2⟩

theorem sx_enter {P : Program} {f : FuncId} {fn : Func} {c : Code} {args : Array Value} {w : World} {R : Ending → World → Prop} {N : Nat} {L : List (Nat × Value)}
    (hf : P.funcs[f]? = some fn) (hb : fn.body = some c) (hN : fn.ntmps = N) (hs : Nat.ble args.size N = true) (hL : argL args.toList 0 = L)
    (k : ∀ a, Fr N a L → c.wp P (bodyPost P fn R) a w) : Calls P f args w R := by
  refine calls_of_wp hf hb (k _ ⟨?_, rfl, ?_⟩)
  · rw [hN]
    have := Nat.le_of_ble_eq_true hs
    simp; omega
  · intro t v h
    rw [← hL] at h
    obtain ⟨j, h1, h2⟩ := lk_argL _ _ _ _ h
    have ht : t = j := by omega
    subst ht
    rw [Array.getElem?_toList] at h2
    have := (Array.getElem?_eq_some_iff.1 h2).1
    rw [Array.getElem?_append_left (by simpa using this)]
    exact h2

/- WHAT AN OPERATION DOES. -/

def Does (P : Program) (L : List (Nat × Value)) (o : Oper) (w : World) (R : Value → World → Prop) : Prop :=
  ∀ (a : Act) (K : Act → World → Prop) (Q : Exit → Act → World → Prop), (∀ x v, evO L x = some v → a.eval x = v) → (∀ v w', R v w' → K (a.put o.dst v) w') → o.wp P a w K Q

def Runs (P : Program) (L : List (Nat × Value)) (o : Oper) (w : World) (v : Value) (w' : World) : Prop :=
  ∀ (ρ : Operand → Value), (∀ x u, evO L x = some u → ρ x = u) → (execOp ρ o).run P w = .ok (.value v) w'

theorem Runs.does {P : Program} {L : List (Nat × Value)} {o : Oper} {w w' : World} {v : Value} {R : Value → World → Prop} (h : Runs P L o w v w') (hR : R v w') : Does P L o w R := by
  intro a K Q ha hK
  unfold Oper.wp
  rw [h _ ha]
  exact hK _ _ hR

theorem Runs.veq {P : Program} {L : List (Nat × Value)} {o : Oper} {w w' : World} {v v' : Value} (h : Runs P L o w v w') (e : v = v') : Runs P L o w v' w' := e ▸ h

theorem Does.mono {P : Program} {L : List (Nat × Value)} {o : Oper} {w : World} {R R' : Value → World → Prop} (h : Does P L o w R) (hR : ∀ v w', R v w' → R' v w') : Does P L o w R' :=
  fun a K Q ha hK => h a K Q ha (fun v w' hr => hK v w' (hR v w' hr))

section
variable {P : Program} {ops : Array Oper} {Q : Exit → Act → World → Prop} {a : Act} {w w' : World} {rest : List Oper} {o : Oper} {N : Nat} {L : List (Nat × Value)} {R : Value → World → Prop} {v : Value} {t : Tmp}

theorem sqd (hf : Fr N a L) (hd : Does P L o w R) (hg : o.guard = none) (ho : dstOk N o.dst = true) (k : ∀ a' v w', R v w' → Fr N a' (ins o.dst v L) → wpList P ops Q rest a' w') : wpList P ops Q (o :: rest) a w := by
  refine wpList_plain hg fun K hK => ?_
  exact hd a K Q (fun x v e => hf.ev e) (fun v w' hr => hK _ _ (k _ v w' hr (hf.ins v ho)))

theorem sqv (hf : Fr N a L) (hr : Runs P L o w v w') (hg : o.guard = none) (hd : o.dst = some t) (ht : Nat.blt t N = true) (k : ∀ a', Fr N a' ((t, v) :: L) → wpList P ops Q rest a' w') : wpList P ops Q (o :: rest) a w := by
  refine sqd hf (R := fun u x => u = v ∧ x = w') (hr.does ⟨rfl, rfl⟩) hg (by rw [hd]; exact ht) ?_
  rintro a' u x ⟨rfl, rfl⟩ hf'
  rw [hd] at hf'
  exact k a' hf'

theorem sqdt (hf : Fr N a L) (hr : Does P L o w R) (hg : o.guard = none) (hd : o.dst = some t) (ht : Nat.blt t N = true) (k : ∀ a' v w', R v w' → Fr N a' ((t, v) :: L) → wpList P ops Q rest a' w') : wpList P ops Q (o :: rest) a w := by
  refine sqd hf hr hg (by rw [hd]; exact ht) ?_
  intro a' v w' h hf'
  rw [hd] at hf'
  exact k a' v w' h hf'
theorem sqn (hf : Fr N a L) (hr : Does P L o w R) (hg : o.guard = none) (hd : o.dst = none) (k : ∀ a' v w', R v w' → Fr N a' L → wpList P ops Q rest a' w') : wpList P ops Q (o :: rest) a w := by
  refine sqd hf hr hg (by rw [hd]; rfl) ?_
  intro a' v w' h hf'
  rw [hd] at hf'
  exact k a' v w' h hf'

/-- A value that is there where b holds. -/
def gb (b : Bool) (v : Value) : Value := cond b v undef
def yl (ops : Array Oper) (L : List (Nat × Value)) (g : Nat) : Option Value := ((ops[g]?).bind (·.dst)).bind (lk L)

theorem yielded_of (hf : Fr N a L) {g : Nat} {ag c : Bool} (hy : yl ops L g = some (gb ag (.bool c))) : yielded ops a.tmps g = if ag = true then some c else none := by
  unfold yl at hy
  unfold yielded
  cases hd : (ops[g]?).bind (·.dst) with
  | none => rw [hd] at hy; cases hy
  | some t =>
    rw [hd] at hy
    simp only [Option.bind_some] at hy ⊢
    rw [hf.has t _ hy]
    cases ag <;> simp [gb, undef]

theorem wanted_of (hf : Fr N a L) {g : Nat} {want ag c : Bool} (hg : o.guard = some (g, want)) (hy : yl ops L g = some (gb ag (.bool c))) : Region.wanted o (yielded ops a.tmps) = (ag && (c == want)) := by
  unfold Region.wanted
  rw [hg]
  simp only [yielded_of hf hy]
  cases ag <;> cases c <;> cases want <;> rfl

theorem sqgd {act : Bool} {g : Nat} {want ag c : Bool} (hf : Fr N a L) (hg : o.guard = some (g, want)) (hy : yl ops L g = some (gb ag (.bool c))) (hact : (ag && (c == want)) = act)
    (hd : act = true → Does P L o w R) (hu : act = false → R undef w) (ho : dstOk N o.dst = true) (k : ∀ a' v w', R v w' → Fr N a' (ins o.dst v L) → wpList P ops Q rest a' w') : wpList P ops Q (o :: rest) a w := by
  refine wpList_step fun K hK => ?_
  rw [wanted_of hf hg hy, hact]
  cases act with
  | true =>
    rw [if_pos rfl]
    exact hd rfl a K Q (fun x v e => hf.ev e) (fun v w' hr => hK _ _ (k _ v w' hr (hf.ins v ho)))
  | false =>
    rw [if_neg (by simp)]
    exact hK _ _ (k _ _ _ (hu rfl) (hf.ins _ ho))

theorem sqgT {act : Bool} {g : Nat} {ag c : Bool} (hf : Fr N a L) (hg : o.guard = some (g, true)) (hy : yl ops L g = some (gb ag (.bool c))) (hact : (ag && c) = act)
    (hr : act = true → Runs P L o w v w) (hd : o.dst = some t) (ht : Nat.blt t N = true) (k : ∀ a', Fr N a' ((t, gb act v) :: L) → wpList P ops Q rest a' w) : wpList P ops Q (o :: rest) a w := by
  refine sqgd (R := fun u x => u = gb act v ∧ x = w) (act := act) hf hg hy (by rw [← hact]; cases ag <;> cases c <;> rfl) (fun h => (hr h).does ⟨by rw [h]; rfl, rfl⟩) (fun h => ⟨by rw [h]; rfl, rfl⟩) (by rw [hd]; exact ht) ?_
  rintro a' u x ⟨rfl, rfl⟩ hf'
  rw [hd] at hf'
  exact k a' hf'

theorem sqgF {act : Bool} {g : Nat} {ag c : Bool} (hf : Fr N a L) (hg : o.guard = some (g, false)) (hy : yl ops L g = some (gb ag (.bool c))) (hact : (ag && !c) = act)
    (hr : act = true → Runs P L o w v w) (hd : o.dst = some t) (ht : Nat.blt t N = true) (k : ∀ a', Fr N a' ((t, gb act v) :: L) → wpList P ops Q rest a' w) : wpList P ops Q (o :: rest) a w := by
  refine sqgd (R := fun u x => u = gb act v ∧ x = w) (act := act) hf hg hy (by rw [← hact]; cases ag <;> cases c <;> rfl) (fun h => (hr h).does ⟨by rw [h]; rfl, rfl⟩) (fun h => ⟨by rw [h]; rfl, rfl⟩) (by rw [hd]; exact ht) ?_
  rintro a' u x ⟨rfl, rfl⟩ hf'
  rw [hd] at hf'
  exact k a' hf'

theorem gb_ev {act : Bool} {x : Operand} (h : act = true) (e : evO L x = some (gb act v)) : evO L x = some v := by rw [e, h]; rfl
theorem gb_ev2 {act b : Bool} {x : Operand} (h : act = true) (hb : b = true) (e : evO L x = some (gb b v)) : evO L x = some v := by rw [e, hb]; rfl
end

/- THE END OF A FUNCTION. -/
section
variable {P : Program} {fn : Func} {R : Ending → World → Prop} {a : Act} {w : World} {N : Nat} {L : List (Nat × Value)} {t t2 t3 : Tmp} {v v2 v3 : Value}

theorem fr_getD (hf : Fr N a L) (h : lk L t = some v) : a.tmps.getD t undef = v := by simp [hf.has t v h]

theorem ret1 (hf : Fr N a L) (hr : fn.results = #[.tmp t]) (hv : lk L t = some v) (hR : R (.returned v) w) : bodyPost P fn R .ret a w :=
  bodyPost_ret (v := v) (by rw [results_tmp hr, fr_getD hf hv]) hf.defers hR
theorem ret2 (hf : Fr N a L) (hr : fn.results = #[.tmp t, .tmp t2]) (hv : lk L t = some v) (hv2 : lk L t2 = some v2) (hR : R (.returned (.tuple #[v, v2])) w) : bodyPost P fn R .ret a w :=
  bodyPost_ret (v := .tuple #[v, v2]) (by rw [results_tmp2 hr, fr_getD hf hv, fr_getD hf hv2]) hf.defers hR
theorem ret3 (hf : Fr N a L) (hr : fn.results = #[.tmp t, .tmp t2, .tmp t3]) (hv : lk L t = some v) (hv2 : lk L t2 = some v2) (hv3 : lk L t3 = some v3) (hR : R (.returned (.tuple #[v, v2, v3])) w) : bodyPost P fn R .ret a w :=
  bodyPost_ret (v := .tuple #[v, v2, v3]) (by simp [results, hr, hf.has t v hv, hf.has t2 v2 hv2, hf.has t3 v3 hv3]) hf.defers hR
theorem ret0 (hf : Fr N a L) (hr : fn.results = #[]) (hR : R (.returned (.tuple #[])) w) : bodyPost P fn R .ret a w :=
  bodyPost_ret (results_none hr _ _ _) hf.defers hR
theorem end0 (hf : Fr N a L) (hr : fn.results = #[]) (hR : R (.returned (.tuple #[])) w) : bodyPost P fn R .normal a w :=
  bodyPost_end (results_none hr _ _ _) hf.defers hR
end

/-- A loop, with a number that every round lowers. -/
theorem wp_loop_k {P : Program} {Q : Exit → Act → World → Prop} {a : Act} {w : World} {c : Code} (I : Nat → Act → World → Prop) (h₀ : ∃ n, I n a w)
    (round : ∀ n a w, I n a w → ∀ (K : Act → World → Prop), (∀ n' a' w', n' < n → I n' a' w' → K a' w') → c.wp P (Exit.then K Q) a w) : (Code.loop c).wp P Q a w :=
  h₀.elim fun n₀ h₀ => wp_loop_ghost I n₀ h₀ fun n a w h => round n a w h _ fun n' _ _ h1 h2 => ⟨n', h1, h2⟩

/-- A piece of code whose ways meet again. -/
theorem wp_cut_k {P : Program} {Q : Exit → Act → World → Prop} {a : Act} {w : World} {x y : Code} (M : Act → World → Prop) (h1 : ∀ (K : Act → World → Prop), (∀ a' w', M a' w' → K a' w') → x.wp P (Exit.then K Q) a w)
    (h2 : ∀ a' w', M a' w' → y.wp P Q a' w') : (Code.seq x y).wp P Q a w := wp_seq (h1 _ h2)
end Go.Proofs.Ytbllifhcfgjdlaa
