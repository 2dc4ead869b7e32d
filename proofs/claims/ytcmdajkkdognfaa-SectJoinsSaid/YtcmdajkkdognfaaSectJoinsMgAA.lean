/- What is proved here: more rules over known values: a row of bytes as a string; guarded calls. What is proved here: equality of structs, parts of structs in memory, and results that lie in cells. What is proved here: rules for arrays behind a pointer. What is proved here: a string appended to a row of bytes; bytes as numbers and back. What is proved here: arguments read as data of Lean, with what is known of their size: no slice that came in takes more bytes than a machine has. What is proved here: modules as plain values, and how they are read. What is proved here: what the functions of the package leb that write numbers come to. What is proved here: what the functions of the document's answer for numbers as bytes come to. What is proved here: what the document's functions for the shortest bytes of a number come to. What is proved here: the shortest bytes of a number are those that the document asks for: plain, without the program. What is proved here: numbers as bytes of seven bits, by the program and by the document, as rows. What is proved here: types of functions: which may be, and their bytes, by the program and by the document. What is proved here: limits, by the program and by the document. What is proved here: plain laws of signs and their bytes. -/
import Derived.Test.YtcmdajkkdognfaaProg
import Derived.WalkKit
import Derived.WalkLawsBesides
import Derived.WalkSpells
import Derived.Outline
import Derived.Laws.BytesArg
import Derived.Deep.QuietTactic
import Derived.BigQuiet
import Derived.StillTail
import Derived.Laws.OwnMore
import Derived.Maps.AppendAt
import Derived.Deep.LoopGhost
import Derived.Lib.ConvBytes
import Derived.Great.BuildSlice
import Derived.Laws.MakeOwn
import Derived.Deep.Slices
import Derived.OpenShut
import Derived.ChangeSame
import Derived.Laws.StructEq
import Derived.Lib.AppendStr
import Derived.SizedLaws
namespace Go.Proofs.Ytcmdajkkdognfaa
open Go.RowKit
set_option linter.unusedVariables false
set_option linter.unusedSimpArgs false

theorem hid {p : Prop} (h : p) : Hid p := h

/- A STATEMENT WHOSE ORDER IS OPEN. Each operation i bears a post: a predicate on its value and a world, kept by G. dl: of each operation those that stand before it and whose posts its step may use. Whatever order is drawn, behind it all posts hold. -/

def putAll : List Oper → (Nat → Value) → Nat → Act → Act
  | [], _, _, a => a
  | o :: os, V, i, a => putAll os V (i + 1) (a.put o.dst (V i))

def depsHold (V : Nat → Value) (posts : List (Value → World → Prop)) (w : World) : List Nat → Prop
  | [] => True
  | j :: js => (posts.getD j (fun _ _ => True)) (V j) w ∧ depsHold V posts w js

def rgGoals (P : Program) (ops : Array Oper) (C : World → Prop) (G : World → World → Prop) (all : List (Value → World → Prop)) (V : Nat → Value) :
    List Oper → List (Value → World → Prop) → List (List Nat) → Nat → Act → Prop
  | o :: os, p :: ps, d :: ds, i, a =>
    (∀ w, C w → depsHold V all w d → ∀ K : Act → World → Prop, (∀ v w', G w w' → p v w' → K (a.put o.dst v) w') →
      if Region.wanted o (yielded ops a.tmps) = true then o.wp P a w K (fun _ _ _ => False) else K (a.put o.dst undef) w) ∧
    rgGoals P ops C G all V os ps ds (i + 1) (a.put o.dst (V i))
  | _, _, _, _, _ => True

def postsHold (V : Nat → Value) (w : World) : List (Value → World → Prop) → Nat → Prop
  | [], _ => True
  | p :: ps, i => p (V i) w ∧ postsHold V w ps (i + 1)

def postsKept (G : World → World → Prop) : List (Value → World → Prop) → Prop
  | [] => True
  | p :: ps => (∀ v w w', p v w → G w w' → p v w') ∧ postsKept G ps

/-- j is an operation that must come before the operation o. -/
def pre (o : Oper) (j : Nat) : Bool := o.after.any fun e => e.on == j && Region.binds .any e

def isSelect : Op → Bool
  | .select _ _ => true
  | _ => false

def rgCheckAt (ops : Array Oper) (dl : List (List Nat)) (N : Nat) (i : Nat) (o : Oper) : Bool :=
  o.after.all (fun e => !Region.binds .any e || decide (e.on < i)) &&
  (match o.dst with | some d => decide (d < N) | none => true) &&
  !isSelect o.op &&
  (List.range ops.size).all (fun j => match (ops[j]?) with
    | some oj => (j == i) ||
        (match oj.dst with
         | some t => o.dst != some t && (!(o.looksAt ops).contains t || pre o j || pre oj i)
         | none => true)
    | none => true) &&
  (match o.dst with | some t => !(o.looksAt ops).contains t | none => true) &&
  (dl.getD i []).all (fun j => pre o j)

def rgCheck (ops : Array Oper) (dl : List (List Nat)) (N : Nat) : Bool :=
  decide (dl.length = ops.size) && (List.range ops.size).all (fun i => match ops[i]? with | some o => rgCheckAt ops dl N i o | none => true)


section
variable {P : Program} {ops : Array Oper} {C : World → Prop} {G : World → World → Prop} {posts : List (Value → World → Prop)} {dl : List (List Nat)} {N : Nat} {a0 : Act}

theorem put_get_ne {a : Act} {dst : Option Tmp} {v : Value} {t : Nat} (h : dst ≠ some t) : (a.put dst v).tmps[t]? = a.tmps[t]? := by
  cases dst with
  | none => rfl
  | some d => simp only [Act.put]; exact Array.getElem?_setIfInBounds_ne (fun e => h (by rw [e]))

theorem put_size {a : Act} {dst : Option Tmp} {v : Value} : (a.put dst v).tmps.size = a.tmps.size := by
  cases dst <;> simp [Act.put]

theorem put_defers {a : Act} {dst : Option Tmp} {v : Value} : (a.put dst v).defers = a.defers := by
  cases dst <;> rfl

theorem put_get {a : Act} {v : Value} {t : Nat} (h : t < a.tmps.size) : (a.put (some t) v).tmps[t]? = some v := by
  simp only [Act.put]; exact Array.getElem?_setIfInBounds_self_of_lt h

theorem putAll_size (V : Nat → Value) : ∀ (os : List Oper) (k : Nat) (a : Act), (putAll os V k a).tmps.size = a.tmps.size
  | [], _, _ => rfl
  | o :: os, k, a => (putAll_size V os (k + 1) _).trans put_size

theorem putAll_defers (V : Nat → Value) : ∀ (os : List Oper) (k : Nat) (a : Act), (putAll os V k a).defers = a.defers
  | [], _, _ => rfl
  | o :: os, k, a => (putAll_defers V os (k + 1) _).trans put_defers

theorem putAll_get_none (V : Nat → Value) {t : Nat} : ∀ (os : List Oper) (k : Nat) (a : Act), (∀ (m : Nat) (o : Oper), os[m]? = some o → o.dst ≠ some t) → (putAll os V k a).tmps[t]? = a.tmps[t]?
  | [], _, _, _ => rfl
  | o :: os, k, a, h => (putAll_get_none V os (k + 1) _ (fun m o' hm => h (m + 1) o' (by simpa using hm))).trans (put_get_ne (h 0 o rfl))

theorem putAll_get_some (V : Nat → Value) {t : Nat} : ∀ (os : List Oper) (k : Nat) (a : Act) (m : Nat) (o : Oper), os[m]? = some o → o.dst = some t → t < a.tmps.size →
    (∀ (m' : Nat) (o' : Oper), os[m']? = some o' → m' ≠ m → o'.dst ≠ some t) → (putAll os V k a).tmps[t]? = some (V (k + m))
  | [], _, _, m, o, h, _, _, _ => by simp at h
  | o1 :: os, k, a, 0, o, h, hd, ht, hs => by
    simp at h; subst h
    refine (putAll_get_none V os (k + 1) _ (fun m o' hm => hs (m + 1) o' (by simpa using hm) (by omega))).trans ?_
    rw [hd]; exact put_get ht
  | o1 :: os, k, a, m + 1, o, h, hd, ht, hs => by
    have := putAll_get_some V os (k + 1) (a.put o1.dst (V k)) m o (by simpa using h) hd (by rw [put_size]; exact ht) (fun m' o' hm hne => hs (m' + 1) o' (by simpa using hm) (by omega))
    rw [show k + (m + 1) = k + 1 + m from by omega]; exact this

/-- The goals at number i. -/
theorem rgGoals_at {V : Nat → Value} : ∀ (os : List Oper) (ps : List (Value → World → Prop)) (ds : List (List Nat)) (k : Nat) (a : Act), rgGoals P ops C G posts V os ps ds k a →
    ∀ (m : Nat) (o : Oper) (p : Value → World → Prop) (d : List Nat), os[m]? = some o → ps[m]? = some p → ds[m]? = some d →
    ∀ w, C w → depsHold V posts w d → ∀ K : Act → World → Prop, (∀ v w', G w w' → p v w' → K ((putAll (os.take m) V k a).put o.dst v) w') →
      if Region.wanted o (yielded ops (putAll (os.take m) V k a).tmps) = true then o.wp P (putAll (os.take m) V k a) w K (fun _ _ _ => False) else K ((putAll (os.take m) V k a).put o.dst undef) w
  | [], _, _, _, _, _, m, o, p, d, h, _, _ => by simp at h
  | _ :: _, [], _, _, _, _, m, o, p, d, _, h, _ => by simp at h
  | _ :: _, _ :: _, [], _, _, _, m, o, p, d, _, _, h => by simp at h
  | o1 :: os, p1 :: ps, d1 :: ds, k, a, hg, 0, o, p, d, h1, h2, h3 => by
    simp at h1 h2 h3; subst h1 h2 h3
    exact hg.1
  | o1 :: os, p1 :: ps, d1 :: ds, k, a, hg, m + 1, o, p, d, h1, h2, h3 => by
    exact rgGoals_at os ps ds (k + 1) _ hg.2 m o p d (by simpa using h1) (by simpa using h2) (by simpa using h3)

/-- A step carried over from one frame to another that looks alike to the operation. -/
theorem wp_carry {o : Oper} {a a' : Act} {w : World} {R : Value → World → Prop} {K : Act → World → Prop} {Q : Exit → Act → World → Prop} (he : execOp a'.eval o = execOp a.eval o) (hs : a'.tmps.size = a.tmps.size)
    (h : o.wp P a w (fun b w' => ∃ v, b = a.put o.dst v ∧ R v w') (fun _ _ _ => False)) (hK : ∀ v w', R v w' → K (a'.put o.dst v) w') : o.wp P a' w K Q := by
  have key : ∀ u w', (∃ v, a.put o.dst u = a.put o.dst v ∧ R v w') → K (a'.put o.dst u) w' := by
    rintro u w' ⟨v, h1, h2⟩
    have e : a'.put o.dst u = a'.put o.dst v := by
      cases hd : o.dst with
      | none => rfl
      | some d =>
        rw [hd] at h1
        by_cases hlt : d < a.tmps.size
        · have := congrArg (fun x : Act => x.tmps[d]?) h1
          simp only [put_get hlt] at this
          rw [Option.some.inj this]
        · simp only [Act.put]; rw [Array.setIfInBounds_eq_of_size_le (by rw [hs]; exact Nat.le_of_not_lt hlt), Array.setIfInBounds_eq_of_size_le (by rw [hs]; exact Nat.le_of_not_lt hlt)]
    rw [e]; exact hK v w' h2
  unfold Oper.wp at *
  rw [he]
  generalize (execOp a.eval o).run P w = r at *
  cases r with
  | ok n w' =>
    cases n <;> simp only [Oper.upon] at h ⊢
    case value u => exact key _ _ h
    case skip => exact key _ _ h
    case defer d =>
      obtain ⟨v, h1, _⟩ := h
      have := congrArg Act.defers h1
      rw [put_defers, put_defers] at this
      simp at this
    case enter f args =>
      refine Calls.mono h (fun e w'' he => ?_)
      cases e with
      | returned v => exact key _ _ he
      | panicked c => exact he.elim
      | outgrown => obtain ⟨_, _, h⟩ := he; exact h.elim
    case row r args => exact Rows.mono h (fun v w'' he => key _ _ he)
  | halt x w' => cases x <;> simp only [Oper.upon] at h ⊢

structure RgInv (ops : Array Oper) (C : World → Prop) (posts : List (Value → World → Prop)) (a0 : Act) (V : Nat → Value) (listed : Array Bool) (a : Act) (w : World) : Prop where
  size : listed.size = ops.size
  tmps : a.tmps.size = a0.tmps.size
  defers : a.defers = a0.defers
  c : C w
  got : ∀ (j : Nat) (o : Oper), ops[j]? = some o → listed[j]? = some true → ∀ t, o.dst = some t → a.tmps[t]? = some (V j)
  post : ∀ (j : Nat) (o : Oper), ops[j]? = some o → listed[j]? = some true → (posts.getD j (fun _ _ => True)) (V j) w
  same : ∀ t, (∀ (j : Nat) (o : Oper), ops[j]? = some o → listed[j]? = some true → o.dst ≠ some t) → a.tmps[t]? = a0.tmps[t]?
  down : ∀ (j : Nat) (o : Oper), ops[j]? = some o → listed[j]? = some true → ∀ k, pre o k = true → listed[k]? = some true

theorem pre_spec {o : Oper} {e : Edge} (he : e ∈ o.after) (hb : Region.binds .any e = true) : pre o e.on = true := by
  unfold pre
  rw [Array.any_eq_true']
  exact ⟨e, he, by simp [hb]⟩

theorem pre_mem {o : Oper} {k : Nat} (h : pre o k = true) : ∃ e ∈ o.after, e.on = k ∧ Region.binds .any e = true := by
  unfold pre at h
  rw [Array.any_eq_true'] at h
  obtain ⟨e, he, h2⟩ := h
  simp at h2
  exact ⟨e, he, h2.1, h2.2⟩

structure RgOk (ops : Array Oper) (dl : List (List Nat)) (N : Nat) (i : Nat) (o : Oper) : Prop where
  lt : ∀ k, pre o k = true → k < i
  dst : ∀ d, o.dst = some d → d < N
  sel : ∀ cs b, o.op ≠ .select cs b
  one : ∀ (j : Nat) (oj : Oper), ops[j]? = some oj → j ≠ i → ∀ t, oj.dst = some t → o.dst ≠ some t
  see : ∀ (j : Nat) (oj : Oper), ops[j]? = some oj → j ≠ i → ∀ t, oj.dst = some t → t ∈ o.looksAt ops → pre o j = true ∨ pre oj i = true
  self : ∀ t, o.dst = some t → t ∉ o.looksAt ops
  dl : ∀ j ∈ dl.getD i [], pre o j = true

theorem rgOk_of_check (h : rgCheck ops dl N = true) : dl.length = ops.size ∧ ∀ i o, ops[i]? = some o → RgOk ops dl N i o := by
  unfold rgCheck at h
  simp only [Bool.and_eq_true, decide_eq_true_eq, List.all_eq_true, List.mem_range] at h
  refine ⟨h.1, fun i o ho => ?_⟩
  have hi : i < ops.size := (Array.getElem?_eq_some_iff.1 ho).1
  have hc := h.2 i hi
  rw [ho] at hc
  simp only [rgCheckAt, Bool.and_eq_true, List.all_eq_true, List.mem_range] at hc
  obtain ⟨⟨⟨⟨⟨h1, h2⟩, h3⟩, h4⟩, h5⟩, h6⟩ := hc
  refine ⟨?_, ?_, ?_, ?_, ?_, ?_, h6⟩
  · intro k hk
    obtain ⟨e, he, rfl, hb⟩ := pre_mem hk
    rw [Array.all_eq_true'] at h1
    have := h1 e he
    simpa [hb] using this
  · intro d hd; rw [hd] at h2; simpa using h2
  · intro cs b hs; rw [hs] at h3; simp [isSelect] at h3
  · intro j oj hj hne t ht
    have := h4 j (Array.getElem?_eq_some_iff.1 hj).1
    rw [hj] at this
    simp only [ht, Bool.or_eq_true, beq_iff_eq, hne, false_or, Bool.and_eq_true, bne_iff_ne, ne_eq] at this
    exact this.1
  · intro j oj hj hne t ht hm
    have := h4 j (Array.getElem?_eq_some_iff.1 hj).1
    rw [hj] at this
    simp only [ht, Bool.or_eq_true, beq_iff_eq, hne, false_or, Bool.and_eq_true] at this
    have := this.2
    rw [List.contains_iff_mem.2 hm] at this
    simpa using this
  · intro t ht; rw [ht] at h5; simpa using h5

theorem depsHold_of {V : Nat → Value} {w : World} : ∀ (d : List Nat), (∀ j ∈ d, (posts.getD j (fun _ _ => True)) (V j) w) → depsHold V posts w d
  | [], _ => trivial
  | j :: js, h => ⟨h j (by simp), depsHold_of js (fun k hk => h k (by simp [hk]))⟩

theorem postsHold_of {V : Nat → Value} {w : World} : ∀ (ps : List (Value → World → Prop)) (k : Nat), (∀ (j : Nat) (p : Value → World → Prop), ps[j]? = some p → p (V (k + j)) w) → postsHold V w ps k
  | [], _, _ => trivial
  | p :: ps, k, h => ⟨h 0 p rfl, postsHold_of ps (k + 1) (fun j p hj => by rw [show k + 1 + j = k + (j + 1) from by omega]; exact h (j + 1) p (by simpa using hj))⟩

theorem postsKept_at : ∀ (ps : List (Value → World → Prop)), postsKept G ps → ∀ j v w w', (ps.getD j (fun _ _ => True)) v w → G w w' → (ps.getD j (fun _ _ => True)) v w'
  | [], _, _, _, _, _, _, _ => by simp
  | p :: ps, h, 0, v, w, w', hp, hg => h.1 v w w' hp hg
  | p :: ps, h, j + 1, v, w, w', hp, hg => postsKept_at ps h.2 j v w w' hp hg

theorem RgInv.looks {V : Nat → Value} {listed : Array Bool} {a : Act} {w : World} (hI : RgInv ops C posts a0 V listed a w) (hN : a0.tmps.size = N) (hok : ∀ i o, ops[i]? = some o → RgOk ops dl N i o)
    {i : Nat} {o : Oper} (ho : ops[i]? = some o) (hnl : listed[i]? ≠ some true) (hpre : ∀ k, pre o k = true → listed[k]? = some true) :
    ∀ t ∈ o.looksAt ops, a.tmps[t]? = (putAll (ops.toList.take i) V 0 a0).tmps[t]? := by
  intro t ht
  have hget : ∀ m o', (ops.toList.take i)[m]? = some o' ↔ m < i ∧ ops[m]? = some o' := by
    intro m o'
    rw [List.getElem?_take]
    split <;> simp [*]
  by_cases hex : ∃ (j : Nat) (oj : Oper), ops[j]? = some oj ∧ oj.dst = some t
  · obtain ⟨j, oj, hj, hjd⟩ := hex
    have hji : j ≠ i := by
      rintro rfl
      rw [ho] at hj; cases hj
      exact (hok _ _ ho).self t hjd ht
    have huniq : ∀ (j' : Nat) (o' : Oper), ops[j']? = some o' → o'.dst = some t → j' = j := by
      intro j' o' hj' hd'
      by_cases e : j' = j
      · exact e
      · exact absurd hjd ((hok _ _ hj).one j' o' hj' e t hd')
    rcases (hok _ _ ho).see j oj hj hji t hjd ht with hp | hp
    · rw [hI.got j oj hj (hpre j hp) t hjd]
      have hlt := (hok _ _ ho).lt j hp
      rw [putAll_get_some V _ 0 a0 j oj ((hget j oj).2 ⟨hlt, hj⟩) hjd (by rw [hN]; exact (hok _ _ hj).dst t hjd)
        (fun m' o' hm' hne => fun hd' => hne (huniq m' o' ((hget m' o').1 hm').2 hd'))]
      simp
    · have hlt := (hok _ _ hj).lt i hp
      rw [hI.same t (fun j' o' hj' hl' hd' => by
        obtain rfl := huniq j' o' hj' hd'
        rw [hj] at hj'; cases hj'
        exact hnl (hI.down _ _ hj hl' i hp))]
      rw [putAll_get_none V _ 0 a0 (fun m o' hm hd' => by
        have := huniq m o' ((hget m o').1 hm).2 hd'
        have := ((hget m o').1 hm).1
        omega)]
  · rw [hI.same t (fun j' o' hj' _ hd' => hex ⟨j', o', hj', hd'⟩), putAll_get_none V _ 0 a0 (fun m o' hm hd' => hex ⟨m, o', ((hget m o').1 hm).2, hd'⟩)]

theorem eval_congr_get {a a' : Act} {x : Operand} (h : ∀ t, x = .tmp t → a'.tmps[t]? = a.tmps[t]?) : a'.eval x = a.eval x := by
  cases x with
  | tmp t => simp only [Act.eval, Array.getD_eq_getD_getElem?, h t rfl]
  | _ => rfl

theorem yielded_congr {o : Oper} {a a' : Act} (h : ∀ t ∈ o.looksAt ops, a'.tmps[t]? = a.tmps[t]?) : Region.wanted o (yielded ops a'.tmps) = Region.wanted o (yielded ops a.tmps) := by
  unfold Region.wanted
  cases hg : o.guard with
  | none => rfl
  | some gw =>
    obtain ⟨g, want⟩ := gw
    have : yielded ops a'.tmps g = yielded ops a.tmps g := by
      unfold yielded
      cases ht : (ops[g]?).bind (·.dst) with
      | none => rfl
      | some t =>
        have hm : t ∈ o.looksAt ops := by simp [Oper.looksAt, hg, ht]
        simp [h t hm]
    simp only [this]

theorem Array.get?_setTrue {listed : Array Bool} {i j : Nat} (hi : i < listed.size) : (listed.setIfInBounds i true)[j]? = some true ↔ j = i ∨ listed[j]? = some true := by
  by_cases e : j = i
  · subst e; simp [hi]
  · rw [Array.getElem?_setIfInBounds_ne (Ne.symm e)]; simp [e]

theorem rg_walk {Q : Exit → Act → World → Prop} (hN : a0.tmps.size = N) (hok : ∀ i o, ops[i]? = some o → RgOk ops dl N i o) (hdl : dl.length = ops.size) (hpl : posts.length = ops.size)
    (hC : ∀ w w', C w → G w w' → C w') (hP : postsKept G posts) (hgoals : ∀ V, rgGoals P ops C G posts V ops.toList posts dl 0 a0)
    (hQ : ∀ V w, C w → postsHold V w posts 0 → Q .normal (putAll ops.toList V 0 a0) w) :
    ∀ (fuel : Nat) (listed : Array Bool) (a : Act) (w : World) (V : Nat → Value), (List.range ops.size).countP (fun i => listed[i]? != some true) ≤ fuel → RgInv ops C posts a0 V listed a w → wpAny P .any ops Q fuel listed a w := by
  -- what stands when all is listed
  have fin : ∀ (listed : Array Bool) (a : Act) (w : World) (V : Nat → Value), RgInv ops C posts a0 V listed a w → (∀ i, i < ops.size → listed[i]? = some true) → Q .normal a w := by
    intro listed a w V hI hall
    have ha : a = putAll ops.toList V 0 a0 := by
      have h1 : a.tmps = (putAll ops.toList V 0 a0).tmps := by
        apply Array.ext_getElem?
        intro t
        by_cases hex : ∃ (j : Nat) (oj : Oper), ops[j]? = some oj ∧ oj.dst = some t
        · obtain ⟨j, oj, hj, hjd⟩ := hex
          rw [hI.got j oj hj (hall j (Array.getElem?_eq_some_iff.1 hj).1) t hjd]
          rw [putAll_get_some V _ 0 a0 j oj (by simpa using hj) hjd (by rw [hN]; exact (hok _ _ hj).dst t hjd)
            (fun m' o' hm' hne hd' => (hok _ _ hj).one m' o' (by simpa using hm') hne t hd' hjd)]
          simp
        · rw [hI.same t (fun j' o' hj' _ hd' => hex ⟨j', o', hj', hd'⟩), putAll_get_none V _ 0 a0 (fun m o' hm hd' => hex ⟨m, o', by simpa using hm, hd'⟩)]
      have h2 : a.defers = (putAll ops.toList V 0 a0).defers := hI.defers.trans (putAll_defers V _ _ _).symm
      cases a; simp only at h1 h2; subst h1 h2; rfl
    rw [ha]
    refine hQ V w hI.c (postsHold_of posts 0 (fun j p hj => ?_))
    have hlt : j < ops.size := by rw [← hpl]; exact (List.getElem?_eq_some_iff.1 hj).1
    have := hI.post j ops[j] (Array.getElem?_eq_getElem hlt) (hall j hlt)
    rw [Nat.zero_add]
    simpa [List.getD_eq_getElem?_getD, hj] using this
  -- nothing is ready: all is listed
  have done : ∀ (listed : Array Bool), listed.size = ops.size → Region.ready .any ops listed = [] → ∀ i, i < ops.size → listed[i]? = some true := by
    intro listed hsz hr i
    induction i using Nat.strongRecOn with
    | ind i ih =>
      intro hi
      by_cases h : listed[i]? = some true
      · exact h
      exfalso
      have hmem : i ∈ Region.ready .any ops listed := by
        unfold Region.ready
        rw [List.mem_filter]
        refine ⟨by simpa using hi, ?_⟩
        have hl : listed.getD i true = false := by
          rw [Array.getD_eq_getD_getElem?]
          rw [Array.getElem?_eq_getElem (by omega)] at h ⊢
          simpa using h
        rw [hl, Array.getElem?_eq_getElem hi]
        simp only [Bool.not_false, Bool.true_and, Option.map_some, Option.getD_some]
        rw [Array.all_eq_true']
        intro e he
        by_cases hb : Region.binds .any e = true
        · have hp := pre_spec he hb
          have hlt := (hok _ _ (Array.getElem?_eq_getElem hi)).lt e.on hp
          rw [Array.getD_eq_getD_getElem?, ih e.on hlt (by omega)]
          simp
        · simp [hb]
      rw [hr] at hmem
      exact absurd hmem (by simp)
  intro fuel
  induction fuel with
  | zero =>
    intro listed a w V hc hI
    have hall : ∀ i, i < ops.size → listed[i]? = some true := by
      intro i hi
      have h0 := Nat.le_zero.1 hc
      rw [List.countP_eq_zero] at h0
      simpa using h0 i (by simpa using hi)
    refine ⟨?_, fin listed a w V hI hall⟩
    unfold Region.ready
    rw [List.filter_eq_nil_iff]
    intro i hi
    have := hall i (by simpa using hi)
    rw [Array.getD_eq_getD_getElem?, this]
    simp
  | succ fuel ih =>
    intro listed a w V hc hI
    refine ⟨fun hr => fin listed a w V hI (done listed hI.size hr), fun i hi => ?_⟩
    unfold Region.ready at hi
    rw [List.mem_filter] at hi
    obtain ⟨hir, hi2⟩ := hi
    have hir : i < ops.size := by simpa using hir
    rw [Bool.and_eq_true] at hi2
    obtain ⟨hnl, haft⟩ := hi2
    have hnl' : listed[i]? = some false := by
      rw [Array.getD_eq_getD_getElem?, Array.getElem?_eq_getElem (by rw [hI.size]; exact hir)] at hnl
      rw [Array.getElem?_eq_getElem (by rw [hI.size]; exact hir)]
      simpa using hnl
    have ho : ops[i]? = some ops[i] := Array.getElem?_eq_getElem hir
    have hpre : ∀ k, pre ops[i] k = true → listed[k]? = some true := by
      intro k hk
      obtain ⟨e, he, rfl, hb⟩ := pre_mem hk
      rw [ho, Option.map_some, Option.getD_some, Array.all_eq_true'] at haft
      have := haft e he
      simp only [hb, Bool.not_true, Bool.false_or, Array.getD_eq_getD_getElem?] at this
      have hlt := (hok _ _ ho).lt e.on hk
      rw [Array.getElem?_eq_getElem (by rw [hI.size]; omega)] at this ⊢
      simpa using this
    have hilt : i < listed.size := by rw [hI.size]; exact hir
    -- the step
    have hp : posts[i]? = some (posts.getD i (fun _ _ => True)) := by
      have : i < posts.length := by omega
      simp [this]
    have hd : dl[i]? = some (dl.getD i []) := by
      have : i < dl.length := by omega
      simp [this]
    have hlook := hI.looks hN hok ho (by rw [hnl']; simp) hpre
    have hgo := rgGoals_at ops.toList posts dl 0 a0 (hgoals V) i ops[i] _ _ (by simp) hp hd w hI.c
      (depsHold_of _ (fun j hj => by
        have h1 := hpre j ((hok _ _ ho).dl j hj)
        have hlt : j < ops.size := by have := (hok _ _ ho).lt j ((hok _ _ ho).dl j hj); omega
        exact hI.post j ops[j] (Array.getElem?_eq_getElem hlt) h1))
    -- the invariant behind it
    have hnext : ∀ v w', (C w' ∧ (∀ j v, (posts.getD j (fun _ _ => True)) v w → (posts.getD j (fun _ _ => True)) v w')) → (posts.getD i (fun _ _ => True)) v w' → wpAny P .any ops Q fuel (listed.setIfInBounds i true) (a.put ops[i].dst v) w' := by
      rintro v w' ⟨hc', hkeep⟩ hpv
      refine ih _ _ _ (fun k => if k = i then v else V k) ?_ ?_
      · have hlt : (List.range ops.size).countP (fun k => (listed.setIfInBounds i true)[k]? != some true) < (List.range ops.size).countP (fun k => listed[k]? != some true) := by
          rw [List.countP_eq_length_filter, List.countP_eq_length_filter]
          have hsub : (List.range ops.size).filter (fun k => (listed.setIfInBounds i true)[k]? != some true) = ((List.range ops.size).filter (fun k => listed[k]? != some true)).erase i := by
            rw [(List.Nodup.sublist List.filter_sublist List.nodup_range).erase_eq_filter, List.filter_filter]
            apply List.filter_congr
            intro k hk
            by_cases e : k = i
            · subst e; simp [hilt]
            · rw [Array.getElem?_setIfInBounds_ne (Ne.symm e)]; simp [e]
          rw [hsub, List.length_erase_of_mem (by rw [List.mem_filter]; exact ⟨by simpa using hir, by rw [hnl']; rfl⟩)]
          have : 0 < ((List.range ops.size).filter (fun k => listed[k]? != some true)).length :=
            List.length_pos_of_mem (a := i) (by rw [List.mem_filter]; exact ⟨by simpa using hir, by rw [hnl']; rfl⟩)
          omega
        omega
      · refine ⟨by simp [hI.size], by rw [put_size, hI.tmps], by rw [put_defers, hI.defers], hc', ?_, ?_, ?_, ?_⟩
        · intro j o hj hl t ht
          rcases (Array.get?_setTrue hilt).1 hl with rfl | hl2
          · rw [ho] at hj; cases hj
            simp only [if_true]
            rw [ht]; exact put_get (by rw [hI.tmps, hN]; exact (hok _ _ ho).dst t ht)
          · have hji : j ≠ i := fun e => by rw [e, hnl'] at hl2; cases hl2
            rw [if_neg hji, put_get_ne ((hok _ _ ho).one j o hj hji t ht)]
            exact hI.got j o hj hl2 t ht
        · intro j o hj hl
          rcases (Array.get?_setTrue hilt).1 hl with rfl | hl2
          · simp only [if_true]; exact hpv
          · have hji : j ≠ i := fun e => by rw [e, hnl'] at hl2; cases hl2
            simp only [if_neg hji]
            exact hkeep j _ (hI.post j o hj hl2)
        · intro t ht
          rw [put_get_ne (ht i _ ho ((Array.get?_setTrue hilt).2 (.inl rfl)))]
          exact hI.same t (fun j o hj hl => ht j o hj ((Array.get?_setTrue hilt).2 (.inr hl)))
        · intro j o hj hl k hk
          rw [Array.get?_setTrue hilt]
          rcases (Array.get?_setTrue hilt).1 hl with rfl | hl2
          · rw [ho] at hj; cases hj
            exact .inr (hpre k hk)
          · exact .inr (hI.down j o hj hl2 k hk)
    unfold wpOp
    rw [ho]
    show if Region.wanted ops[i] (yielded ops a.tmps) = true then _ else _
    have hsel := (hok _ _ ho).sel
    have hEx : execOp a.eval ops[i] = execOp (putAll (ops.toList.take i) V 0 a0).eval ops[i] :=
      execOp_congr ops[i] hsel (fun x hx => eval_congr_get (fun t ht => hlook t (by
        subst ht
        exact List.mem_append_left _ (List.mem_filterMap.2 ⟨.tmp t, by simpa using hx, rfl⟩))))
    rw [yielded_congr hlook]
    split
    · rename_i hw
      left
      have hgo := hgo (fun b w' => ∃ v, b = (putAll (ops.toList.take i) V 0 a0).put ops[i].dst v ∧ G w w' ∧ (posts.getD i (fun _ _ => True)) v w') (fun v w' h1 h2 => ⟨v, rfl, h1, h2⟩)
      rw [if_pos hw] at hgo
      exact wp_carry (R := fun v w' => G w w' ∧ (posts.getD i (fun _ _ => True)) v w') hEx (by rw [hI.tmps, putAll_size]) hgo
        (fun v w' ⟨h1, h2⟩ => hnext v w' ⟨hC w w' hI.c h1, fun j v hj => postsKept_at posts hP j v w w' hj h1⟩ h2)
    · rename_i hw
      have hgo := hgo (fun b w' => ∃ v, b = (putAll (ops.toList.take i) V 0 a0).put ops[i].dst v ∧ (C w' ∧ (∀ j v, (posts.getD j (fun _ _ => True)) v w → (posts.getD j (fun _ _ => True)) v w')) ∧ (posts.getD i (fun _ _ => True)) v w')
        (fun v w' h1 h2 => ⟨v, rfl, ⟨hC w w' hI.c h1, fun j v hj => postsKept_at posts hP j v w w' hj h1⟩, h2⟩)
      rw [if_neg hw] at hgo
      obtain ⟨v, h1, h2, h3⟩ := hgo
      have e : a.put ops[i].dst undef = a.put ops[i].dst v := by
        cases hd : ops[i].dst with
        | none => rfl
        | some d =>
          rw [hd] at h1
          have hlt : d < (putAll (ops.toList.take i) V 0 a0).tmps.size := by rw [putAll_size, hN]; exact (hok _ _ ho).dst d hd
          have := congrArg (fun x : Act => x.tmps[d]?) h1
          simp only [put_get hlt] at this
          rw [Option.some.inj this]
      rw [e]
      exact hnext v w h2 h3

theorem wp_region_rg {id : Nat} {Q : Exit → Act → World → Prop} {w0 : World} (C : World → Prop) (G : World → World → Prop) (posts : List (Value → World → Prop)) (dl : List (List Nat)) (N : Nat)
    (hm : P.follows .mixedOrders = true) (hN : a0.tmps.size = N) (hchk : rgCheck ops dl N = true) (hpl : posts.length = ops.size)
    (hC0 : C w0.drew) (hC : ∀ w w', C w → G w w' → C w') (hP : postsKept G posts) (hgoals : ∀ V, rgGoals P ops C G posts V ops.toList posts dl 0 a0)
    (hQ : ∀ V w, C w → postsHold V w posts 0 → Q .normal (putAll ops.toList V 0 a0) w) : (Code.region id ops true).wp P Q a0 w0 := by
  obtain ⟨hdl, hok⟩ := rgOk_of_check hchk
  refine wp_region_any hm (rg_walk hN hok hdl hpl hC hP hgoals hQ ops.size _ a0 _ (fun _ => undef) ?_ ⟨by simp, rfl, rfl, hC0, ?_, ?_, fun _ _ => rfl, ?_⟩)
  · exact Nat.le_trans List.countP_le_length (by simp)
  all_goals
    intro j o hj hl
    simp [Array.getElem?_replicate] at hl
end

/- ONE ELEMENT APPENDED: a fact laid ahead of the walk. -/
theorem push_run {P : Program} {wr : World} {t e bytes : Nat} {z : Value} (ht : P.underlying t = some (.slice e)) (hinfo : (P.info? e).map (fun i => (i.zero, i.size, i.bytes)) = some (some z, 1, bytes)) (hz : z.cells.size = 1) (hb1 : 1 ≤ bytes)
    {base n : Nat} {v u : Value} {xs : List Value} (hown : wr.ownsRow base e 1 v n xs) (h1 : u.oneCell' = true) (hbytes : (n + 1) * bytes ≤ 140737488355328) (hbase : base ≤ wr.heap.size) :
    ∃ v' w', (∀ ty, (Builtin.append_ #[t, t] ty #[v, .slice (some ⟨wr.heap.size, 0, none⟩) 1 1]).run P (wr.alloc (.cells #[u] e)) = .ok v' w') ∧ w'.ownsRow base e 1 v' (n + 1) (xs ++ [u]) ∧ Below base wr w' ∧ wr.heap.size < w'.heap.size := by
  obtain ⟨i, hi, hz0, hs, hby⟩ := info_parts hinfo
  have hle : n + 1 ≤ (n + 1) * bytes := Nat.le_mul_of_pos_right _ hb1
  have key : ∀ ty, ∃ v' w', (Builtin.append_ #[t, t] ty #[v, .slice (some ⟨wr.heap.size, 0, none⟩) 1 1]).run P (wr.alloc (.cells #[u] e)) = .ok v' w' ∧ w'.ownsRow base e 1 v' (n + 1) (xs ++ [u]) ∧ Below base wr w' ∧ wr.heap.size < w'.heap.size := by
    intro ty
    obtain ⟨v', w', hr, h2, h3, _⟩ := run_append_own (P := P) (wr.alloc (.cells #[u] e)) base t ty e i z 1 bytes ht hi hz0 hs hby hz (by decide) v n xs (hown.alloc _)
      ⟨wr.heap.size, 0, none⟩ 1 1 [u] rfl (cell_one_new _ _ _) (by simpa using h1) (by unfold maxLen; omega) hbytes (by simp; omega)
    refine ⟨v', w', hr, h2, ((Below.refl _ _).alloc hbase _).grown h3 (by simp; omega) (fun k hk => (hown.lt k hk).1), ?_⟩
    have := h3.size
    simp at this; omega
  obtain ⟨v', w', hr, h⟩ := key 0
  refine ⟨v', w', fun ty => ?_, h⟩
  rw [← hr]; rfl

theorem wpList_app {P : Program} {w w' : World} {vs vx v' : Value} {t tn : TypeId} (hr : ∀ ty, (Builtin.append_ #[t, tn] ty #[vs, vx]).run P w = .ok v' w') {ops : Array Oper} {rest : List Oper} {o : Oper} {a : Act} {Q : Exit → Act → World → Prop} {s x : Operand}
    (hgd : o.guard = none) (ho : o.op = .call { callee := .builtin .append, args := #[s, x], argTypes := #[t, tn] }) (hs : a.eval s = vs) (hx : a.eval x = vx) (h : wpList P ops Q rest (a.put o.dst v') w') : wpList P ops Q (o :: rest) a w := by
  refine wpList_plain hgd fun K hK => ?_
  unfold Oper.wp execOp
  simp only [ho, resolve, invoke, builtin, Sem.run_bind, Sem.run_pure, Result.andThen_ok, List.map_toArray, List.map_cons, List.map_nil, hs, hx, hr]
  exact hK _ _ h

/- The same as a law of the walk: the element is met from the goal. -/
theorem wpList_push {P : Program} {wr : World} {t e bytes : Nat} {z : Value} (ht : P.underlying t = some (.slice e)) (hinfo : (P.info? e).map (fun i => (i.zero, i.size, i.bytes)) = some (some z, 1, bytes)) (hz : z.cells.size = 1) (hb1 : 1 ≤ bytes)
    {base n : Nat} {v u : Value} {xs : List Value} (hown : wr.ownsRow base e 1 v n xs) (hbase : base ≤ wr.heap.size) (hbytes : (n + 1) * bytes ≤ 140737488355328)
    {ops : Array Oper} {rest : List Oper} {o : Oper} {a : Act} {Q : Exit → Act → World → Prop} {s x : Operand}
    (hgd : o.guard = none) (ho : o.op = .call { callee := .builtin .append, args := #[s, x], argTypes := #[t, t] }) (hs : a.eval s = v) (hx : a.eval x = .slice (some ⟨wr.heap.size, 0, none⟩) 1 1) (h1 : u.oneCell' = true)
    (h : ∀ v' w', w'.ownsRow base e 1 v' (n + 1) (xs ++ [u]) → Below base wr w' → wr.heap.size < w'.heap.size → wpList P ops Q rest (a.put o.dst v') w') : wpList P ops Q (o :: rest) a (wr.alloc (.cells #[u] e)) := by
  obtain ⟨v', w', hr, h2, h3, h4⟩ := push_run (P := P) (u := u) ht hinfo hz hb1 hown h1 hbytes hbase
  exact wpList_app hr hgd ho hs hx (h v' w' h2 h3 h4)

/- A row that is owned and not empty, as the walk wants it. -/
theorem ownsRow_some {w : World} {base e n : Nat} {v : Value} {xs : List Value} (h : w.ownsRow base e 1 v n xs) (hn : 0 < n) :
    ∃ g cap, v = .slice (some ⟨g, 0, none⟩) n cap ∧ base ≤ g ∧ g < w.heap.size ∧ n ≤ cap ∧ ∀ j, j < n → w.cell? ⟨g, j, none⟩ = xs[j]? := by
  obtain ⟨h1, h2⟩ := h
  rcases h2 with ⟨_, h0⟩ | ⟨g, cap, cur, hv, hb, hg, hc, _, _, ht⟩
  · omega
  · refine ⟨g, cap, hv, hb, (Array.getElem?_eq_some_iff.1 hg).1, hc, fun j hj => ?_⟩
    rw [cell_of_row w g j cur e (0, 0) hg, ← ht, List.getElem?_take, if_pos (by omega)]
    simp

theorem wrap_u64 {n : Int} (h0 : 0 ≤ n) (h : n < 18446744073709551616) : IntKind.u64.wrap n = n := by
  unfold IntKind.wrap; simp [IntKind.bits, IntKind.signed]; exact Int.emod_eq_of_lt h0 h

theorem ownsRow_mono {w : World} {base base' e k n : Nat} {v : Value} {xs : List Value} (h : w.ownsRow base e k v n xs) (hb : base' ≤ base) : w.ownsRow base' e k v n xs := by
  obtain ⟨h1, h2⟩ := h
  refine ⟨h1, ?_⟩
  rcases h2 with h2 | ⟨g, cap, cur, hv, hg, r⟩
  · exact .inl h2
  · exact .inr ⟨g, cap, cur, hv, Nat.le_trans hb hg, r⟩

theorem below_drewN {B : Nat} {a w : World} (h : Below B a w) (n : Nat) : Below B a (w.drewN n) := ⟨h.os, h.tape, h.output, h.size, h.block⟩

/- A row of bytes read as a string. -/
theorem conv_row {P : Program} {w : World} {src dst e e' base n : Nat} {v : Value} {xs : List Int} (hs : P.underlying src = some (.slice e)) (he : P.underlying e = some (.int .u8)) (hd : P.underlying dst = some .string)
    (hown : w.ownsRow base e' 1 v n (xs.map (Value.int .u8))) : (convert src dst v).run P w = .ok (.string (strOfNums xs)) w := by
  obtain ⟨h1, h2⟩ := hown
  simp at h1
  rcases h2 with ⟨rfl, h0⟩ | ⟨g, cap, cur, rfl, hb, hg, hc, _, _, ht⟩
  · have : xs = [] := List.eq_nil_of_length_eq_zero (by omega)
    subst this
    exact run_convert_bytes_nil w src e hs he 0 0 dst hd
  · exact run_convert_bytes_arg w src e hs he g 0 n cap xs h1 (fun i hi => by
      rw [Nat.zero_add, cell_of_row w g i cur e' (0, 0) hg]
      have : (cur.toList.take (n * 1))[i]? = (xs.map (Value.int .u8))[i]? := by rw [ht]
      rw [List.getElem?_take, if_pos (by omega)] at this
      simp at this
      rw [this, List.getD_eq_getElem?_getD, List.getElem?_eq_getElem (by omega)]; simp) dst hd

theorem kept_eq {G : World → World → Prop} {x : Value} : ∀ v w w', (fun v (_ : World) => v = x) v w → G w w' → (fun v (_ : World) => v = x) v w' := fun _ _ _ h _ => h
theorem rgGoals_cons {P : Program} {ops : Array Oper} {C : World → Prop} {G : World → World → Prop} {all : List (Value → World → Prop)} {V : Nat → Value} {o : Oper} {os : List Oper} {p : Value → World → Prop} {ps : List (Value → World → Prop)}
    {d : List Nat} {ds : List (List Nat)} {i : Nat} (j : Nat) {a : Act} {f : Value → Act} (hf : ∀ v, a.put o.dst v = f v) (hj : i + 1 = j)
    (h1 : ∀ w, C w → depsHold V all w d → ∀ K : Act → World → Prop, (∀ v w', G w w' → p v w' → K (f v) w') →
      if Region.wanted o (yielded ops a.tmps) = true then o.wp P a w K (fun _ _ _ => False) else K (f undef) w)
    (h2 : rgGoals P ops C G all V os ps ds j (f (V i))) : rgGoals P ops C G all V (o :: os) (p :: ps) (d :: ds) i a := by
  subst hj
  obtain rfl : (fun v => a.put o.dst v) = f := funext hf
  exact ⟨h1, h2⟩

theorem postsHold_at {V : Nat → Value} {w : World} : ∀ {ps : List (Value → World → Prop)} {k : Nat}, postsHold V w ps k → ∀ (j : Nat) {p : Value → World → Prop}, ps[j]? = some p → p (V (k + j)) w
  | [], _, _, _, _, hj => by simp at hj
  | q :: ps, k, h, 0, p, hj => by simp at hj; subst hj; exact h.1
  | q :: ps, k, h, j + 1, p, hj => by rw [show k + (j + 1) = k + 1 + j from by omega]; exact postsHold_at h.2 j (by simpa using hj)

theorem wrap_u64_def (n : Int) : IntKind.u64.wrap n = n % 18446744073709551616 := by
  unfold IntKind.wrap; simp [IntKind.bits, IntKind.signed]

end Go.Proofs.Ytcmdajkkdognfaa

namespace Go.Proofs.Ytcmdajkkdognfaa
open Go.RowKit
set_option linter.unusedVariables false
set_option linter.unusedSimpArgs false

section
variable {P : Program} {ops : Array Oper} {C : World → Prop} {G : World → World → Prop} {posts : List (Value → World → Prop)} {dl : List (List Nat)} {N T : Nat} {a0 : Act}

theorem headInv_all {listed : Array Bool} (inv : HeadInv .any ops T listed) (h : ∀ i, i < T → listed[i]? = some true) (hT : T ≤ ops.size) : listed = (Array.range ops.size).map (fun i => decide (i < T)) := by
  apply Array.ext_getElem?
  intro j
  by_cases hj : j < T
  · rw [h j hj]; simp [show j < ops.size by omega, hj]
  · by_cases hjs : j < ops.size
    · have h1 := inv.tail j (by omega) hjs
      have hsz := inv.size
      rw [Array.getD_eq_getD_getElem?, Array.getElem?_eq_getElem (by omega)] at h1
      rw [Array.getElem?_eq_getElem (by omega)]
      simp at h1
      simp [hjs, hj, h1]
    · have hsz := inv.size
      rw [Array.getElem?_eq_none (by omega), Array.getElem?_eq_none (by simp; omega)]

end
end Go.Proofs.Ytcmdajkkdognfaa

namespace Go.Proofs.Ytcmdajkkdognfaa
open Go.RowKit
set_option linter.unusedVariables false
set_option linter.unusedSimpArgs false

theorem heap_alloc_last (w : World) (o : Obj) : (w.alloc o).heap[w.heap.size]? = some o := by
  unfold World.alloc
  exact Array.getElem?_push_size

end Go.Proofs.Ytcmdajkkdognfaa

namespace Go.Proofs.Ytcmdajkkdognfaa
open Go.RowKit
set_option linter.unusedVariables false
set_option linter.unusedSimpArgs false

end Go.Proofs.Ytcmdajkkdognfaa

namespace Go.Proofs.Ytcmdajkkdognfaa
open Go.RowKit
set_option linter.unusedVariables false
set_option linter.unusedSimpArgs false

section
variable {P : Program} {ops : Array Oper} {C : World → Prop} {G : World → World → Prop} {posts : List (Value → World → Prop)} {dl : List (List Nat)} {N T : Nat} {a0 : Act}

end
end Go.Proofs.Ytcmdajkkdognfaa

namespace Go.Proofs.Ytcmdajkkdognfaa
open Go.RowKit
set_option linter.unusedVariables false
set_option linter.unusedSimpArgs false

/-- A row that is cut. -/
theorem ownsRow_cut {w : World} {base e k n m cap : Nat} {a : Option Addr} {xs : List Value} (h : w.ownsRow base e k (.slice a n cap) n xs) (hm : m ≤ n) (hn : 0 < n) : w.ownsRow base e k (.slice a m cap) m (xs.take (m * k)) := by
  obtain ⟨h1, h2⟩ := h
  rcases h2 with ⟨_, h0⟩ | ⟨g, cap', cur, hv, hb, hg, hc, hm', hs, ht⟩
  · omega
  · simp at hv
    obtain ⟨rfl, rfl⟩ := hv
    have hmk : m * k ≤ n * k := Nat.mul_le_mul_right k hm
    refine ⟨by rw [List.length_take, h1]; omega, .inr ⟨g, cap, cur, rfl, hb, hg, by omega, hm', hs, ?_⟩⟩
    rw [← ht, List.take_take]
    congr 1
    omega

end Go.Proofs.Ytcmdajkkdognfaa

namespace Go.Proofs.Ytcmdajkkdognfaa
open Go.RowKit
set_option linter.unusedVariables false
set_option linter.unusedSimpArgs false

/- WHAT IS KNOWN OF A FRAME. -/

def lk : List (Nat × Value) → Nat → Option Value
  | [], _ => none
  | (t, v) :: l, s => cond (Nat.beq t s) (some v) (lk l s)

structure Fr (N : Nat) (a : Act) (L : List (Nat × Value)) : Prop where
  size : a.tmps.size = N
  defers : a.defers = []
  has : ∀ t v, lk L t = some v → a.tmps[t]? = some v

def evO (L : List (Nat × Value)) : Operand → Option Value
  | .tmp t => lk L t
  | .const v => some v
  | .global g => some (.pointer (some ⟨g, 0, none⟩))
  | .func f => some (.func (.func f) #[] #[])

theorem Fr.ev {N : Nat} {a : Act} {L : List (Nat × Value)} (h : Fr N a L) {x : Operand} {v : Value} (e : evO L x = some v) : a.eval x = v := by
  cases x with
  | tmp t => simp only [evO] at e; simp [Act.eval, h.has t v e]
  | _ => simp only [evO, Option.some.injEq] at e; subst e; rfl

def ins (d : Option Tmp) (v : Value) (L : List (Nat × Value)) : List (Nat × Value) :=
  match d with
  | some t => (t, v) :: L
  | none => L

def dstOk (N : Nat) (d : Option Tmp) : Bool :=
  match d with
  | some t => Nat.blt t N
  | none => true

theorem Fr.ins {N : Nat} {a : Act} {L : List (Nat × Value)} (h : Fr N a L) {d : Option Tmp} (v : Value) (ho : dstOk N d = true) : Fr N (a.put d v) (ins d v L) := by
  cases d with
  | none => exact h
  | some t =>
    have ht : t < N := by simpa [dstOk, Nat.blt_eq] using ho
    refine ⟨put_size.trans h.size, put_defers.trans h.defers, fun s u hs => ?_⟩
    simp only [Go.Proofs.Ytcmdajkkdognfaa.ins, lk] at hs
    cases hb : Nat.beq t s with
    | true =>
      rw [hb] at hs
      simp only [cond_true, Option.some.injEq] at hs
      have := Nat.eq_of_beq_eq_true hb
      subst this hs
      exact put_get (by rw [h.size]; exact ht)
    | false =>
      rw [hb] at hs
      rw [put_get_ne (fun e => by cases e; simp [Nat.beq_eq] at hb)]
      exact h.has s u hs

/-- A list of slots that stand in another one. -/
def subL (L : List (Nat × Value)) : List (Nat × Value) → Prop
  | [] => True
  | (t, v) :: l => lk L t = some v ∧ subL L l

theorem subL_lk {L : List (Nat × Value)} : ∀ {L' : List (Nat × Value)}, subL L L' → ∀ t v, lk L' t = some v → lk L t = some v
  | [], _, _, _, h => by cases h
  | (s, u) :: l, hs, t, v, h => by
    simp only [lk] at h
    cases hb : Nat.beq s t with
    | true =>
      rw [hb] at h
      simp only [cond_true, Option.some.injEq] at h
      have := Nat.eq_of_beq_eq_true hb
      rw [← this, ← h]; exact hs.1
    | false =>
      rw [hb] at h
      exact subL_lk hs.2 t v h

theorem Fr.sub {N : Nat} {a : Act} {L L' : List (Nat × Value)} (h : Fr N a L) (hs : subL L L') : Fr N a L' := ⟨h.size, h.defers, fun t v e => h.has t v (subL_lk hs t v e)⟩

theorem some_int {k : IntKind} {x y : Int} (h : x = y) : some (Value.int k x) = some (.int k y) := by rw [h]
theorem some_str {x y : ByteArray} (h : x = y) : some (Value.string x) = some (.string y) := by rw [h]
theorem some_sl {a : Option Addr} {x y c d : Nat} (h : x = y) (h2 : c = d) : some (Value.slice a x c) = some (.slice a y d) := by rw [h, h2]

def argL : List Value → Nat → List (Nat × Value)
  | [], _ => []
  | v :: vs, i => (i, v) :: argL vs (i + 1)

theorem lk_argL : ∀ (vs : List Value) (i t : Nat) (v : Value), lk (argL vs i) t = some v → ∃ j, t = i + j ∧ vs[j]? = some v
  | [], _, _, _, h => by cases h
  | u :: vs, i, t, v, h => by
    simp only [argL, lk] at h
    cases hb : Nat.beq i t with
    | true =>
      rw [hb] at h
      simp only [cond_true, Option.some.injEq] at h
      exact ⟨0, (Nat.eq_of_beq_eq_true hb).symm, by simp [h]⟩
    | false =>
      rw [hb] at h
      obtain ⟨j, h1, h2⟩ := lk_argL vs (i + 1) t v h
      exact ⟨j + 1, by omega, by simpa using h2⟩

theorem sx_enter {P : Program} {f : FuncId} {fn : Func} {c : Code} {args : Array Value} {w : World} {R : Ending → World → Prop} {N : Nat} {L : List (Nat × Value)}
    (hf : P.funcs[f]? = some fn) (hb : fn.body = some c) (hN : fn.ntmps = N) (hs : Nat.ble args.size N = true) (hL : argL args.toList 0 = L)
    (k : ∀ a, Fr N a L → c.wp P (bodyPost P fn R) a w) : Calls P f args w R := by
  refine calls_of_wp hf hb (k _ ⟨?_, rfl, ?_⟩)
  · rw [hN]
    have := Nat.le_of_ble_eq_true hs
    simp; omega
  · intro t v h
    rw [← hL] at h
    obtain ⟨j, h1, h2⟩ := lk_argL _ _ _ _ h
    have ht : t = j := by omega
    subst ht
    rw [Array.getElem?_toList] at h2
    have := (Array.getElem?_eq_some_iff.1 h2).1
    rw [Array.getElem?_append_left (by simpa using this)]
    exact h2

/- WHAT AN OPERATION DOES. -/

def Does (P : Program) (L : List (Nat × Value)) (o : Oper) (w : World) (R : Value → World → Prop) : Prop :=
  ∀ (a : Act) (K : Act → World → Prop) (Q : Exit → Act → World → Prop), (∀ x v, evO L x = some v → a.eval x = v) → (∀ v w', R v w' → K (a.put o.dst v) w') → o.wp P a w K Q

def Runs (P : Program) (L : List (Nat × Value)) (o : Oper) (w : World) (v : Value) (w' : World) : Prop :=
  ∀ (ρ : Operand → Value), (∀ x u, evO L x = some u → ρ x = u) → (execOp ρ o).run P w = .ok (.value v) w'

theorem Runs.does {P : Program} {L : List (Nat × Value)} {o : Oper} {w w' : World} {v : Value} {R : Value → World → Prop} (h : Runs P L o w v w') (hR : R v w') : Does P L o w R := by
  intro a K Q ha hK
  unfold Oper.wp
  rw [h _ ha]
  exact hK _ _ hR

theorem Runs.veq {P : Program} {L : List (Nat × Value)} {o : Oper} {w w' : World} {v v' : Value} (h : Runs P L o w v w') (e : v = v') : Runs P L o w v' w' := e ▸ h

theorem Does.mono {P : Program} {L : List (Nat × Value)} {o : Oper} {w : World} {R R' : Value → World → Prop} (h : Does P L o w R) (hR : ∀ v w', R v w' → R' v w') : Does P L o w R' :=
  fun a K Q ha hK => h a K Q ha (fun v w' hr => hK v w' (hR v w' hr))

section
variable {P : Program} {ops : Array Oper} {Q : Exit → Act → World → Prop} {a : Act} {w w' : World} {rest : List Oper} {o : Oper} {N : Nat} {L : List (Nat × Value)} {R : Value → World → Prop} {v : Value} {t : Tmp}

theorem sqd (hf : Fr N a L) (hd : Does P L o w R) (hg : o.guard = none) (ho : dstOk N o.dst = true) (k : ∀ a' v w', R v w' → Fr N a' (ins o.dst v L) → wpList P ops Q rest a' w') : wpList P ops Q (o :: rest) a w := by
  refine wpList_plain hg fun K hK => ?_
  exact hd a K Q (fun x v e => hf.ev e) (fun v w' hr => hK _ _ (k _ v w' hr (hf.ins v ho)))

theorem sqv (hf : Fr N a L) (hr : Runs P L o w v w') (hg : o.guard = none) (hd : o.dst = some t) (ht : Nat.blt t N = true) (k : ∀ a', Fr N a' ((t, v) :: L) → wpList P ops Q rest a' w') : wpList P ops Q (o :: rest) a w := by
  refine sqd hf (R := fun u x => u = v ∧ x = w') (hr.does ⟨rfl, rfl⟩) hg (by rw [hd]; exact ht) ?_
  rintro a' u x ⟨rfl, rfl⟩ hf'
  rw [hd] at hf'
  exact k a' hf'

theorem sqdt (hf : Fr N a L) (hr : Does P L o w R) (hg : o.guard = none) (hd : o.dst = some t) (ht : Nat.blt t N = true) (k : ∀ a' v w', R v w' → Fr N a' ((t, v) :: L) → wpList P ops Q rest a' w') : wpList P ops Q (o :: rest) a w := by
  refine sqd hf hr hg (by rw [hd]; exact ht) ?_
  intro a' v w' h hf'
  rw [hd] at hf'
  exact k a' v w' h hf'
theorem sqn (hf : Fr N a L) (hr : Does P L o w R) (hg : o.guard = none) (hd : o.dst = none) (k : ∀ a' v w', R v w' → Fr N a' L → wpList P ops Q rest a' w') : wpList P ops Q (o :: rest) a w := by
  refine sqd hf hr hg (by rw [hd]; rfl) ?_
  intro a' v w' h hf'
  rw [hd] at hf'
  exact k a' v w' h hf'

/-- A value that is there where b holds. -/
def gb (b : Bool) (v : Value) : Value := cond b v undef
def yl (ops : Array Oper) (L : List (Nat × Value)) (g : Nat) : Option Value := ((ops[g]?).bind (·.dst)).bind (lk L)

theorem yielded_of (hf : Fr N a L) {g : Nat} {ag c : Bool} (hy : yl ops L g = some (gb ag (.bool c))) : yielded ops a.tmps g = if ag = true then some c else none := by
  unfold yl at hy
  unfold yielded
  cases hd : (ops[g]?).bind (·.dst) with
  | none => rw [hd] at hy; cases hy
  | some t =>
    rw [hd] at hy
    simp only [Option.bind_some] at hy ⊢
    rw [hf.has t _ hy]
    cases ag <;> simp [gb, undef]

theorem wanted_of (hf : Fr N a L) {g : Nat} {want ag c : Bool} (hg : o.guard = some (g, want)) (hy : yl ops L g = some (gb ag (.bool c))) : Region.wanted o (yielded ops a.tmps) = (ag && (c == want)) := by
  unfold Region.wanted
  rw [hg]
  simp only [yielded_of hf hy]
  cases ag <;> cases c <;> cases want <;> rfl

theorem sqgd {act : Bool} {g : Nat} {want ag c : Bool} (hf : Fr N a L) (hg : o.guard = some (g, want)) (hy : yl ops L g = some (gb ag (.bool c))) (hact : (ag && (c == want)) = act)
    (hd : act = true → Does P L o w R) (hu : act = false → R undef w) (ho : dstOk N o.dst = true) (k : ∀ a' v w', R v w' → Fr N a' (ins o.dst v L) → wpList P ops Q rest a' w') : wpList P ops Q (o :: rest) a w := by
  refine wpList_step fun K hK => ?_
  rw [wanted_of hf hg hy, hact]
  cases act with
  | true =>
    rw [if_pos rfl]
    exact hd rfl a K Q (fun x v e => hf.ev e) (fun v w' hr => hK _ _ (k _ v w' hr (hf.ins v ho)))
  | false =>
    rw [if_neg (by simp)]
    exact hK _ _ (k _ _ _ (hu rfl) (hf.ins _ ho))

theorem sqgT {act : Bool} {g : Nat} {ag c : Bool} (hf : Fr N a L) (hg : o.guard = some (g, true)) (hy : yl ops L g = some (gb ag (.bool c))) (hact : (ag && c) = act)
    (hr : act = true → Runs P L o w v w) (hd : o.dst = some t) (ht : Nat.blt t N = true) (k : ∀ a', Fr N a' ((t, gb act v) :: L) → wpList P ops Q rest a' w) : wpList P ops Q (o :: rest) a w := by
  refine sqgd (R := fun u x => u = gb act v ∧ x = w) (act := act) hf hg hy (by rw [← hact]; cases ag <;> cases c <;> rfl) (fun h => (hr h).does ⟨by rw [h]; rfl, rfl⟩) (fun h => ⟨by rw [h]; rfl, rfl⟩) (by rw [hd]; exact ht) ?_
  rintro a' u x ⟨rfl, rfl⟩ hf'
  rw [hd] at hf'
  exact k a' hf'

theorem sqgF {act : Bool} {g : Nat} {ag c : Bool} (hf : Fr N a L) (hg : o.guard = some (g, false)) (hy : yl ops L g = some (gb ag (.bool c))) (hact : (ag && !c) = act)
    (hr : act = true → Runs P L o w v w) (hd : o.dst = some t) (ht : Nat.blt t N = true) (k : ∀ a', Fr N a' ((t, gb act v) :: L) → wpList P ops Q rest a' w) : wpList P ops Q (o :: rest) a w := by
  refine sqgd (R := fun u x => u = gb act v ∧ x = w) (act := act) hf hg hy (by rw [← hact]; cases ag <;> cases c <;> rfl) (fun h => (hr h).does ⟨by rw [h]; rfl, rfl⟩) (fun h => ⟨by rw [h]; rfl, rfl⟩) (by rw [hd]; exact ht) ?_
  rintro a' u x ⟨rfl, rfl⟩ hf'
  rw [hd] at hf'
  exact k a' hf'

theorem gb_ev {act : Bool} {x : Operand} (h : act = true) (e : evO L x = some (gb act v)) : evO L x = some v := by rw [e, h]; rfl
end

/- THE END OF A FUNCTION. -/
section
variable {P : Program} {fn : Func} {R : Ending → World → Prop} {a : Act} {w : World} {N : Nat} {L : List (Nat × Value)} {t t2 t3 : Tmp} {v v2 v3 : Value}

theorem fr_getD (hf : Fr N a L) (h : lk L t = some v) : a.tmps.getD t undef = v := by simp [hf.has t v h]

theorem ret1 (hf : Fr N a L) (hr : fn.results = #[.tmp t]) (hv : lk L t = some v) (hR : R (.returned v) w) : bodyPost P fn R .ret a w :=
  bodyPost_ret (v := v) (by rw [results_tmp hr, fr_getD hf hv]) hf.defers hR
theorem end0 (hf : Fr N a L) (hr : fn.results = #[]) (hR : R (.returned (.tuple #[])) w) : bodyPost P fn R .normal a w :=
  bodyPost_end (results_none hr _ _ _) hf.defers hR
end

/-- A loop, with a number that every round lowers. -/
theorem wp_loop_k {P : Program} {Q : Exit → Act → World → Prop} {a : Act} {w : World} {c : Code} (I : Nat → Act → World → Prop) (h₀ : ∃ n, I n a w)
    (round : ∀ n a w, I n a w → ∀ (K : Act → World → Prop), (∀ n' a' w', n' < n → I n' a' w' → K a' w') → c.wp P (Exit.then K Q) a w) : (Code.loop c).wp P Q a w :=
  h₀.elim fun n₀ h₀ => wp_loop_ghost I n₀ h₀ fun n a w h => round n a w h _ fun n' _ _ h1 h2 => ⟨n', h1, h2⟩

end Go.Proofs.Ytcmdajkkdognfaa

namespace Go.Proofs.Ytcmdajkkdognfaa
open Go.RowKit
set_option linter.unusedVariables false
set_option linter.unusedSimpArgs false

section
variable {P : Program} {L : List (Nat × Value)} {w : World} {d : Option Tmp} {ty : TypeId} {ps : String} {af : Array Edge} {g : Option (Nat × Bool)}

theorem r_move {x : Operand} {v : Value} (hx : evO L x = some v) : Runs P L ⟨d, .move x, ty, ps, af, g⟩ w v w := by
  intro ρ hρ; simp only [execOp, hρ x v hx]; rfl
theorem r_assign {x : Operand} {v : Value} (hx : evO L x = some v) : Runs P L ⟨d, .assign x, ty, ps, af, g⟩ w v w := by
  intro ρ hρ; simp only [execOp, hρ x v hx]; rfl

theorem r_bin {op : BinOp} {xt yt : TypeId} {x y : Operand} {vx vy v : Value} (hx : evO L x = some vx) (hy : evO L y = some vy) (hg : eqGuard op xt x y vx vy = pure ()) (hr : (binOp op xt vx vy).run P w = .ok v w) :
    Runs P L ⟨d, .binOp op xt x y yt, ty, ps, af, g⟩ w v w := by
  intro ρ hρ
  simp only [execOp, hρ x _ hx, hρ y _ hy, hg]
  simp [hr]

section
variable {xt yt : TypeId} {x y : Operand} {k k2 : IntKind} {A B C : Int}
theorem r_add (hx : evO L x = some (.int k A)) (hy : evO L y = some (.int k B)) (hc : k.wrap (A + B) = C) : Runs P L ⟨d, .binOp .add xt x y yt, ty, ps, af, g⟩ w (.int k C) w :=
  r_bin hx hy rfl (by rw [binOp_add]; simp [Op.intArith, hc])
theorem r_sub (hx : evO L x = some (.int k A)) (hy : evO L y = some (.int k B)) (hc : k.wrap (A - B) = C) : Runs P L ⟨d, .binOp .sub xt x y yt, ty, ps, af, g⟩ w (.int k C) w :=
  r_bin hx hy rfl (by rw [binOp_sub]; simp [Op.intArith, hc])
theorem r_eq (hx : evO L x = some (.int k A)) (hy : evO L y = some (.int k B)) : Runs P L ⟨d, .binOp .eql xt x y yt, ty, ps, af, g⟩ w (.bool (decide (A = B))) w :=
  r_bin hx hy (eqGuard_at_int _ _ _ _ _ _ _) (by rw [binOp_eql]; rfl)
theorem r_ne (hx : evO L x = some (.int k A)) (hy : evO L y = some (.int k B)) : Runs P L ⟨d, .binOp .neq xt x y yt, ty, ps, af, g⟩ w (.bool (decide (A ≠ B))) w :=
  r_bin hx hy (eqGuard_at_int _ _ _ _ _ _ _) (by
    rw [binOp_neq]
    have : (A != B) = decide (A ≠ B) := by
      by_cases h : A = B <;> simp [h]
    rw [this]; rfl)
theorem r_lt (hx : evO L x = some (.int k A)) (hy : evO L y = some (.int k B)) : Runs P L ⟨d, .binOp .lss xt x y yt, ty, ps, af, g⟩ w (.bool (decide (A < B))) w :=
  r_bin hx hy rfl (by rw [binOp_lss]; rfl)
theorem r_le (hx : evO L x = some (.int k A)) (hy : evO L y = some (.int k B)) : Runs P L ⟨d, .binOp .leq xt x y yt, ty, ps, af, g⟩ w (.bool (decide (A ≤ B))) w :=
  r_bin hx hy rfl (by rw [binOp_leq]; rfl)
theorem r_gt (hx : evO L x = some (.int k A)) (hy : evO L y = some (.int k B)) : Runs P L ⟨d, .binOp .gtr xt x y yt, ty, ps, af, g⟩ w (.bool (decide (B < A))) w :=
  r_bin hx hy rfl (by rw [binOp_gtr]; rfl)
theorem r_ge (hx : evO L x = some (.int k A)) (hy : evO L y = some (.int k B)) : Runs P L ⟨d, .binOp .geq xt x y yt, ty, ps, af, g⟩ w (.bool (decide (B ≤ A))) w :=
  r_bin hx hy rfl (by rw [binOp_geq]; rfl)
theorem r_conv {src dst : TypeId} {ds : TypeDesc} (hx : evO L x = some (.int k A)) (hs : P.underlying src = some ds) (hd : P.underlying dst = some (.int k2)) (hc : k2.wrap A = C) : Runs P L ⟨d, .convert src dst x, ty, ps, af, g⟩ w (.int k2 C) w := by
  intro ρ hρ
  simp only [execOp, hρ x _ hx]
  simp [convert, run_underlying hs, run_underlying hd, Conv.intToInt, hc]
end

theorem r_not {xt : TypeId} {x : Operand} {b : Bool} (hx : evO L x = some (.bool b)) : Runs P L ⟨d, .unOp .not xt x, ty, ps, af, g⟩ w (.bool (!b)) w := by
  intro ρ hρ; simp only [execOp, hρ x _ hx]; simp [Op.unary]
theorem r_bne {xt yt : TypeId} {x y : Operand} {b c : Bool} (ht : P.underlying xt = some .bool) (hx : evO L x = some (.bool b)) (hy : evO L y = some (.bool c)) : Runs P L ⟨d, .binOp .neq xt x y yt, ty, ps, af, g⟩ w (.bool (!(b == c))) w :=
  r_bin hx hy (eqGuard_at_bool _ _ _ _ _ _) (run_neq_bool _ _ _ _ ht)

theorem r_pick {c x y : Operand} {b : Bool} {vx vy v : Value} (hc : evO L c = some (.bool b)) (hx : evO L x = some vx) (hy : evO L y = some vy) (hv : (cond b vx vy) = v) : Runs P L ⟨d, .pick c x y, ty, ps, af, g⟩ w v w := by
  intro ρ hρ
  simp only [execOp, hρ c _ hc, hρ x _ hx, hρ y _ hy, ← hv]
  cases b <;> simp [asBool]
theorem r_pickA {c x y : Operand} {b e : Bool} (hc : evO L c = some (.bool b)) (hx : evO L x = some (gb b (.bool e))) (hy : evO L y = some (.bool false)) : Runs P L ⟨d, .pick c x y, ty, ps, af, g⟩ w (.bool (b && e)) w :=
  r_pick hc hx hy (by cases b <;> rfl)
theorem r_pickO {c x y : Operand} {b e : Bool} (hc : evO L c = some (.bool b)) (hx : evO L x = some (.bool true)) (hy : evO L y = some (gb (!b) (.bool e))) : Runs P L ⟨d, .pick c x y, ty, ps, af, g⟩ w (.bool (b || e)) w :=
  r_pick hc hx hy (by cases b <;> rfl)
theorem r_pickO2 {c x y : Operand} {b e q : Bool} (hq : q = true) (hc : evO L c = some (gb q (.bool b))) (hx : evO L x = some (.bool true)) (hy : evO L y = some (gb (q && !b) (.bool e))) : Runs P L ⟨d, .pick c x y, ty, ps, af, g⟩ w (.bool (b || e)) w := by
  subst hq
  exact r_pickO hc hx (by rw [hy]; cases b <;> rfl)

theorem r_extract {x : Operand} {i : Nat} {vs : Array Value} {v : Value} (hx : evO L x = some (.tuple vs)) (hi : vs[i]? = some v) : Runs P L ⟨d, .extract x i, ty, ps, af, g⟩ w v w := by
  intro ρ hρ; simp only [execOp, hρ x _ hx]; simp [Instr.extract, hi]

/- STRINGS. -/
theorem str_toList_data (u : ByteArray) : u.toList = u.data.toList := ByteArray.toList_eq u
theorem toList_inj {s t : ByteArray} (h : s.toList = t.toList) : s = t := by
  have e : ∀ u : ByteArray, u.toList = u.data.toList := fun u => str_toList_data u
  rw [e, e] at h
  cases s; cases t
  simp only [ByteArray.mk.injEq]
  exact Array.toList_inj.1 h
theorem toList_beq (s t : ByteArray) : (s.toList == t.toList) = decide (s = t) := by
  by_cases h : s = t
  · subst h; simp
  · rw [decide_eq_false h]
    simp only [beq_eq_false_iff_ne, ne_eq]
    exact fun e => h (toList_inj e)
section
variable {xt yt : TypeId} {x y : Operand} {s t : ByteArray}
theorem r_sadd (hx : evO L x = some (.string s)) (hy : evO L y = some (.string t)) (hs : s.size + t.size ≤ 9223372036854775807) : Runs P L ⟨d, .binOp .add xt x y yt, ty, ps, af, g⟩ w (.string (s ++ t)) w :=
  r_bin hx hy rfl (by
    simp only [binOp, Op.stringOp]
    rw [if_neg (by rw [IntKind.max_i64]; omega)]; rfl)
theorem r_seq (hx : evO L x = some (.string s)) (hy : evO L y = some (.string t)) : Runs P L ⟨d, .binOp .eql xt x y yt, ty, ps, af, g⟩ w (.bool (decide (s = t))) w :=
  r_bin hx hy (eqGuard_at_string _ _ _ _ _ _) (by simp only [binOp, Op.stringOp, toList_beq]; rfl)
theorem r_sne (hx : evO L x = some (.string s)) (hy : evO L y = some (.string t)) : Runs P L ⟨d, .binOp .neq xt x y yt, ty, ps, af, g⟩ w (.bool (decide (s ≠ t))) w :=
  r_bin hx hy (eqGuard_at_string _ _ _ _ _ _) (by
    simp only [binOp, Op.stringOp, toList_beq]
    have : (!decide (s = t)) = decide (s ≠ t) := by by_cases h : s = t <;> simp [h]
    rw [this]; rfl)
theorem r_lens {tt : TypeId} (hx : evO L x = some (.string s)) (ht : P.underlying tt = some .string) : Runs P L ⟨d, .call { callee := .builtin .len, args := #[x], argTypes := #[tt] }, ty, ps, af, g⟩ w (.int .i64 (s.size : Int)) w := by
  intro ρ hρ
  simp [execOp, resolve, invoke, builtin, hρ x _ hx, Builtin.len_, run_underlying ht, goInt]
def sbt (s : ByteArray) (j : Nat) : Nat := (s.data.toList.getD j 0).toNat
theorem sz_app (s t : ByteArray) : (s ++ t).size = s.size + t.size := ByteArray.size_append
end

/- SLICES AND MEMORY. -/
theorem r_lensl {tt e : TypeId} {x : Operand} {a : Option Addr} {n c : Nat} (hx : evO L x = some (.slice a n c)) (ht : P.underlying tt = some (.slice e)) : Runs P L ⟨d, .call { callee := .builtin .len, args := #[x], argTypes := #[tt] }, ty, ps, af, g⟩ w (.int .i64 (n : Int)) w := by
  intro ρ hρ
  simp [execOp, resolve, invoke, builtin, hρ x _ hx, Builtin.len_, run_underlying ht, goInt]

theorem r_ixa {tt e : TypeId} {x i : Operand} {k : IntKind} {I : Int} {b off n c j sz q : Nat} (hx : evO L x = some (.slice (some ⟨b, off, none⟩) n c)) (hi : evO L i = some (.int k I)) (ht : P.underlying tt = some (.slice e)) (hsz : (P.info? e).map (·.size) = some sz)
    (hj : I = j) (hlt : j < n) (hq : off + j * sz = q) : Runs P L ⟨d, .indexAddr tt x i, ty, ps, af, g⟩ w (.pointer (some ⟨b, q, none⟩)) w := by
  intro ρ hρ
  obtain ⟨ii, hii, hs⟩ : ∃ ii, P.info? e = some ii ∧ ii.size = sz := by
    cases hh : P.info? e with
    | none => rw [hh] at hsz; cases hsz
    | some ii => rw [hh] at hsz; exact ⟨ii, rfl, by simpa using hsz⟩
  subst hj hq
  simp [execOp, hρ x _ hx, hρ i _ hi, Instr.indexAt, asIntOf, run_underlying ht, hlt, sizeOf, typeInfo, hii, hs, Addr.add_lit]

theorem r_fa {tt : TypeId} {x : Operand} {fs : Array Field} {f : Nat} {fd : Field} {b off q : Nat} (hx : evO L x = some (.pointer (some ⟨b, off, none⟩))) (ht : P.underlying tt = some (.struct fs)) (hf : fs[f]? = some fd) (hn : ((P.info? fd.type).map fun i => Nat.blt 0 i.size) = some true) (hq : off + fd.offset = q) :
    Runs P L ⟨d, .fieldAddr tt x f, ty, ps, af, g⟩ w (.pointer (some ⟨b, q, none⟩)) w := by
  intro ρ hρ
  obtain ⟨ii, hii, hs⟩ : ∃ ii, P.info? fd.type = some ii ∧ 0 < ii.size := by
    cases hh : P.info? fd.type with
    | none => rw [hh] at hn; cases hn
    | some ii => rw [hh] at hn; exact ⟨ii, rfl, by simpa [Nat.blt_eq] using hn⟩
  subst hq
  have h0 : ¬ ii.size = 0 := by omega
  simp [execOp, hρ x _ hx, Instr.fieldAt, run_underlying ht, hf, Instr.sureAddr, fieldPlace, sizeOf, typeInfo, hii, Addr.add_lit]
  intro h; exact absurd h h0

def plainT : TypeDesc → Bool
  | .struct _ | .array _ _ => false
  | _ => true

theorem run_isAgg_plain {t : TypeId} {td : TypeDesc} (ht : P.underlying t = some td) (hp : plainT td = true) : (isAgg t).run P w = .ok false w := by
  unfold isAgg
  rw [Sem.run_bind, run_underlying ht w]
  cases td <;> first | rfl | (simp [plainT] at hp)

theorem r_load {t : TypeId} {td : TypeDesc} {x : Operand} {p : Addr} {v : Value} (hx : evO L x = some (.pointer (some p))) (ht : P.underlying t = some td) (hp : plainT td = true) (hc : w.cell? p = some v) : Runs P L ⟨d, .load t x, ty, ps, af, g⟩ w v w := by
  intro ρ hρ
  simp only [execOp, hρ x _ hx, Instr.loadAt, Instr.sureAddr]
  simp [loadVar, run_isAgg_plain ht hp, load, Sem.run, hc]

/-- The cells from a place on. -/
def cellsAt (w : World) (b o : Nat) (cs : List Value) : Prop := ∀ j v, cs[j]? = some v → w.cell? ⟨b, o + j, none⟩ = some v

theorem r_loadA {t : TypeId} {td : TypeDesc} {x : Operand} {b o : Nat} {cs : List Value} (hx : evO L x = some (.pointer (some ⟨b, o, none⟩))) (ht : P.underlying t = some td) (hp : plainT td = false) (hs : (P.info? t).map (·.size) = some cs.length) (hc : cellsAt w b o cs) :
    Runs P L ⟨d, .load t x, ty, ps, af, g⟩ w (.agg cs.toArray) w := by
  intro ρ hρ
  obtain ⟨ii, hii, hss⟩ : ∃ ii, P.info? t = some ii ∧ ii.size = cs.length := by
    cases hh : P.info? t with
    | none => rw [hh] at hs; cases hs
    | some ii => rw [hh] at hs; exact ⟨ii, rfl, by simpa using hs⟩
  have hl : (loadCells ⟨b, o, none⟩ cs.length).run P w = .ok cs.toArray w :=
    run_loadCells_list (P := P) w ⟨b, o, none⟩ cs (fun j v hv => by rw [Addr.add_lit]; exact hc j v hv)
  have hagg : (isAgg t).run P w = .ok true w := by
    unfold isAgg
    rw [Sem.run_bind, run_underlying ht w]
    cases td <;> simp_all [plainT]
  simp only [execOp, hρ x _ hx, Instr.loadAt, Instr.sureAddr]
  simp [loadVar, hagg, sizeOf, typeInfo, hii, hss, hl]

theorem cellsAt_blk {b : Nat} {cs : Array Value} {T : TypeId} {fr : Nat × Nat} (h : w.heap[b]? = some (.cells cs T fr)) : cellsAt w b 0 cs.toList := by
  intro j v hv
  rw [Nat.zero_add, cell_of_row w b j cs T fr h]
  simpa using hv
theorem cell_blk {b j : Nat} {cs : Array Value} {T : TypeId} {fr : Nat × Nat} {v : Value} (h : w.heap[b]? = some (.cells cs T fr)) (hv : cs[j]? = some v) : w.cell? ⟨b, j, none⟩ = some v := by
  rw [cell_of_row w b j cs T fr h]; exact hv

/- WORLDS: a fresh block; a block written. -/
theorem blk_ext {w w' : World} {b : Nat} {o : Obj} (h : w.heap[b]? = some o) (hb : Below w.heap.size w w') : w'.heap[b]? = some o := (hb.block b (Array.getElem?_eq_some_iff.1 h).1).trans h
theorem blk_lt {w : World} {b : Nat} {o : Obj} (h : w.heap[b]? = some o) : b < w.heap.size := (Array.getElem?_eq_some_iff.1 h).1
theorem blk_grown {w w' : World} {b c : Nat} {o : Obj} (h : w.heap[b]? = some o) (hg : w.grownBy w' (some c)) (hne : b ≠ c) : w'.heap[b]? = some o := (hg.block b (blk_lt h) (fun e => hne (by injection e))).trans h
theorem grown_below {w w' : World} {B c : Nat} (hg : w.grownBy w' (some c)) (hB : B ≤ w.heap.size) (hc : B ≤ c) : Below B w w' := (Below.refl B w).grown hg hB (fun k hk => by injection hk with e; omega)
theorem grownBy_refl (w : World) (r : Option Nat) : w.grownBy w r := ⟨rfl, rfl, rfl, Nat.le_refl _, fun _ _ _ => rfl⟩
theorem grownBy_trans {a b c : World} {r : Option Nat} (h : a.grownBy b r) (k : b.grownBy c r) : a.grownBy c r :=
  ⟨k.os.trans h.os, k.tape.trans h.tape, k.output.trans h.output, Nat.le_trans h.size k.size, fun i hi hr => (k.block i (Nat.lt_of_lt_of_le hi h.size) hr).trans (h.block i hi hr)⟩
theorem below_grown {a b : World} {r : Option Nat} (h : Below a.heap.size a b) : a.grownBy b r := ⟨h.os, h.tape, h.output, h.size, fun i hi _ => h.block i hi⟩
/-- A fresh block. -/
def Fresh (w : World) (cs : Array Value) (T : TypeId) (b : Nat) (w' : World) : Prop := w.heap.size ≤ b ∧ w'.heap[b]? = some (.cells cs T (0, 0)) ∧ Below w.heap.size w w'
theorem fresh_alloc (w : World) (cs : Array Value) (T : TypeId) : Fresh w cs T w.heap.size (w.alloc (.cells cs T)) := ⟨Nat.le_refl _, heap_alloc_last _ _, (Below.refl _ _).alloc (Nat.le_refl _) _⟩

theorem zv_run {T : TypeId} {z : Value} (hz : (P.info? T).bind (·.zero) = some z) (w : World) : (zeroValue T).run P w = .ok z w := by
  cases hh : P.info? T with
  | none => rw [hh] at hz; cases hz
  | some i =>
    rw [hh] at hz
    simp only [Option.bind_some] at hz
    simp [zeroValue, typeInfo, hh, hz]

theorem d_alloc {T : TypeId} {z : Value} {cs : Array Value} (hz : (P.info? T).bind (·.zero) = some z) (hcs : z.cells = cs) : Does P L ⟨d, .alloc T, ty, ps, af, g⟩ w (fun v w' => ∃ b, v = .pointer (some ⟨b, 0, none⟩) ∧ Fresh w cs T b w') := by
  subst hcs
  refine Runs.does (v := .pointer (some ⟨w.heap.size, 0, none⟩)) (w' := w.alloc (.cells z.cells T)) (fun ρ hρ => ?_) ⟨_, rfl, fresh_alloc _ _ _⟩
  simp [execOp, Instr.alloc, zv_run hz, newVar, newRow, newObj, Sem.run]
theorem d_box {T : TypeId} {x : Operand} {v : Value} {cs : Array Value} (hx : evO L x = some v) (hcs : v.cells = cs) : Does P L ⟨d, .box T x, ty, ps, af, g⟩ w (fun v w' => ∃ b, v = .pointer (some ⟨b, 0, none⟩) ∧ Fresh w cs T b w') := by
  subst hcs
  refine Runs.does (v := .pointer (some ⟨w.heap.size, 0, none⟩)) (w' := w.alloc (.cells v.cells T)) (fun ρ hρ => ?_) ⟨_, rfl, fresh_alloc _ _ _⟩
  simp [execOp, hρ x _ hx, Instr.box, newVar, newRow, newObj, Sem.run]

/-- The cells of a block with some written from a place on. -/
def setAll : Array Value → Nat → List Value → Array Value
  | cs, _, [] => cs
  | cs, i, v :: vs => setAll (cs.setIfInBounds i v) (i + 1) vs

theorem storeCells_run : ∀ (vs : List Value) (w : World) (b o i : Nat) (cs : Array Value) (T : TypeId), w.heap[b]? = some (.cells cs T (0, 0)) → o + i + vs.length ≤ cs.size → (∀ v ∈ vs, v.oneCell' = true) →
    ∃ w', (storeCells ⟨b, o, none⟩ vs i).run P w = .ok () w' ∧ w'.heap[b]? = some (.cells (setAll cs (o + i) vs) T (0, 0)) ∧ w.grownBy w' (some b)
  | [], w, b, o, i, cs, T, h, _, _ => ⟨w, by simp [storeCells], h, grownBy_refl _ _⟩
  | v :: vs, w, b, o, i, cs, T, h, hl, h1 => by
    simp only [List.length_cons] at hl
    have hc : w.cell? ⟨b, o + i, none⟩ = some cs[o + i] := cell_blk h (Array.getElem?_eq_getElem (by omega))
    have hfr := frozen_of_row w b (o + i) cs T h
    have hs : (store ⟨b, o + i, none⟩ v).run P w = .ok () (w.setCell ⟨b, o + i, none⟩ v) := by
      rw [run_store P w _ _ _ (h1 v (by simp))]
      simp [stored, hc, hfr]
    obtain ⟨w', h2, h3, h4⟩ := storeCells_run vs (w.setCell ⟨b, o + i, none⟩ v) b o (i + 1) (cs.setIfInBounds (o + i) v) T (heap_setCell_same w b (o + i) cs T v h) (by simp; omega) (fun u hu => h1 u (by simp [hu]))
    refine ⟨w', ?_, h3, grownBy_trans (b := w.setCell ⟨b, o + i, none⟩ v) ⟨rfl, rfl, rfl, by simp [World.setCell], fun k _ hk => Below.heap_setCell _ _ _ _ (fun e => hk (by rw [e]))⟩ h4⟩
    unfold storeCells
    rw [Addr.add_lit]
    simp [hs, h2]

/-- A block written from a place on. -/
def Wrote (w : World) (b : Nat) (cs : Array Value) (T : TypeId) (w' : World) : Prop := w'.heap[b]? = some (.cells cs T (0, 0)) ∧ w.grownBy w' (some b)

theorem d_store {t T : TypeId} {x y : Operand} {b o : Nat} {cs cs' : Array Value} {v : Value} (hx : evO L x = some (.pointer (some ⟨b, o, none⟩))) (hy : evO L y = some v) (hs : (P.info? t).map (·.size) = some v.cells.size) (h1 : ∀ u ∈ v.cells.toList, u.oneCell' = true)
    (hb : w.heap[b]? = some (.cells cs T (0, 0))) (hl : o + v.cells.size ≤ cs.size) (hcs : setAll cs o v.cells.toList = cs') : Does P L ⟨d, .store t x y, ty, ps, af, g⟩ w (fun _ w' => Wrote w b cs' T w') := by
  obtain ⟨ii, hii, hss⟩ : ∃ ii, P.info? t = some ii ∧ ii.size = v.cells.size := by
    cases hh : P.info? t with
    | none => rw [hh] at hs; cases hs
    | some ii => rw [hh] at hs; exact ⟨ii, rfl, by simpa using hs⟩
  obtain ⟨w', h2, h3, h4⟩ := storeCells_run (P := P) v.cells.toList w b o 0 cs T hb (by simpa using hl) h1
  rw [Nat.add_zero, hcs] at h3
  intro a K Q ha hK
  unfold Oper.wp
  have hr : (execOp a.eval ⟨d, .store t x y, ty, ps, af, g⟩).run P w = .ok .skip w' := by
    simp only [execOp, ha x _ hx, ha y _ hy, Instr.storeAt, Instr.sureAddr]
    simp [storeVar, sizeOf, typeInfo, hii, hss, h2]
  rw [hr]
  exact hK undef w' ⟨h3, h4⟩

theorem d_bslice {t e : TypeId} {n : Nat} {parts : Array (Nat × Operand)} {vs : List (Nat × Value)} {cs : Array Value} {z : Value} {sz : Nat} (hv : parts.toList.map (fun p => (p.1, evO L p.2)) = vs.map (fun p => (p.1, some p.2))) (ht : P.underlying t = some (.slice e)) (hi : (P.info? e).map (fun i => (i.zero, i.size)) = some (some z, sz))
    (hn : (Nat.ble (n * sz) 16777216 && Nat.blt 0 (n * sz)) = true) (hf : Instr.fill (fun i => some (i * sz, sz)) ((Array.range (n * sz)).map (z.cells[· % z.cells.size]!)) vs = some cs) :
    Does P L ⟨d, .buildSlice t n parts, ty, ps, af, g⟩ w (fun v w' => ∃ b, v = .slice (some ⟨b, 0, none⟩) n n ∧ Fresh w cs e b w') := by
  obtain ⟨ie, hie, hz, hs⟩ : ∃ ie, P.info? e = some ie ∧ ie.zero = some z ∧ ie.size = sz := by
    cases hh : P.info? e with
    | none => rw [hh] at hi; cases hi
    | some ie => rw [hh] at hi; simp at hi; exact ⟨ie, rfl, hi.1, hi.2⟩
  subst hs
  simp only [Bool.and_eq_true, Nat.ble_eq, Nat.blt_eq] at hn
  refine Runs.does (v := .slice (some ⟨w.heap.size, 0, none⟩) n n) (w' := w.alloc (.cells cs e)) (fun ρ hρ => ?_) ⟨_, rfl, fresh_alloc _ _ _⟩
  have he : (parts.map fun (i, x) => (i, ρ x)).toList = vs := by
    simp only [Array.toList_map]
    have : ∀ (l : List (Nat × Operand)) (us : List (Nat × Value)), l.map (fun p => (p.1, evO L p.2)) = us.map (fun p => (p.1, some p.2)) → l.map (fun (i, x) => (i, ρ x)) = us := by
      intro l
      induction l with
      | nil => intro us h; cases us with | nil => rfl | cons u us => simp at h
      | cons x l ih =>
        intro us h
        cases us with
        | nil => simp at h
        | cons u us =>
          simp only [List.map_cons, List.cons.injEq, Prod.mk.injEq] at h ⊢
          exact ⟨by rw [hρ x.2 u.2 h.1.2, h.1.1], ih us h.2⟩
    exact this _ _ hv
  have hr := run_buildSlice (P := P) w t e n (parts.map fun (i, x) => (i, ρ x)) cs ie z ht hie hz (by omega) (by omega) (by rw [he]; exact hf)
  simp only [execOp]
  simp [hr]

theorem r_build {t : TypeId} {parts : Array (Nat × Operand)} {vs : List (Nat × Value)} {cs : Array Value} (hv : parts.toList.map (fun p => (p.1, evO L p.2)) = vs.map (fun p => (p.1, some p.2))) (hr : ∀ w, (Instr.build t vs.toArray).run P w = .ok (.agg cs) w) :
    Runs P L ⟨d, .build t parts, ty, ps, af, g⟩ w (.agg cs) w := by
  intro ρ hρ
  have he : (parts.map fun (i, x) => (i, ρ x)) = vs.toArray := by
    apply Array.ext'
    simp only [Array.toList_map]
    have : ∀ (l : List (Nat × Operand)) (us : List (Nat × Value)), l.map (fun p => (p.1, evO L p.2)) = us.map (fun p => (p.1, some p.2)) → l.map (fun (i, x) => (i, ρ x)) = us := by
      intro l
      induction l with
      | nil => intro us h; cases us with | nil => rfl | cons u us => simp at h
      | cons x l ih =>
        intro us h
        cases us with
        | nil => simp at h
        | cons u us =>
          simp only [List.map_cons, List.cons.injEq, Prod.mk.injEq] at h ⊢
          exact ⟨by rw [hρ x.2 u.2 h.1.2, h.1.1], ih us h.2⟩
    exact this _ _ hv
  simp only [execOp, he]
  simp [hr]

theorem callee_ok {f : FuncId} {fn : Func} (hf : P.funcs[f]? = some fn) (hb : fn.body.isNone = false) (hn : (fn.name == "runtime.NumGoroutine") = false) (args : Array Value) : (callFunc f args).run P w = .ok (.enter f args) w := by
  have h1 : ¬ fn.name = "runtime.NumGoroutine" := by simpa using hn
  have h2 : ¬ fn.body = none := by cases h : fn.body <;> simp_all
  simp [callFunc, hf, h1, h2]

theorem d_call {f : FuncId} {xs : Array Operand} {tys : Array TypeId} {vs : List Value} {R : Value → World → Prop} {fn : Func} (hv : xs.toList.map (evO L) = vs.map some) (hf : P.funcs[f]? = some fn) (hb : fn.body.isNone = false) (hn : (fn.name == "runtime.NumGoroutine") = false)
    (hc : Calls P f vs.toArray w (fun e w' => ∃ v, e = .returned v ∧ R v w')) : Does P L ⟨d, .call { callee := .value (.func f), args := xs, argTypes := tys }, ty, ps, af, g⟩ w R := by
  intro a K Q ha hK
  unfold Oper.wp
  have he : xs.map a.eval = vs.toArray := by
    apply Array.ext'
    simp only [Array.toList_map]
    have : ∀ (l : List Operand) (us : List Value), l.map (evO L) = us.map some → l.map a.eval = us := by
      intro l
      induction l with
      | nil => intro us h; cases us with | nil => rfl | cons u us => simp at h
      | cons x l ih =>
        intro us h
        cases us with
        | nil => simp at h
        | cons u us =>
          simp only [List.map_cons, List.cons.injEq] at h ⊢
          exact ⟨ha x u h.1, ih us h.2⟩
    exact this _ _ hv
  have hr : (execOp a.eval ⟨d, .call { callee := .value (.func f), args := xs, argTypes := tys }, ty, ps, af, g⟩).run P w = .ok (.enter f vs.toArray) w := by
    have h3 := ha (.func f) _ rfl
    simp only [execOp, resolve, he, h3, Deferred.ofValue]
    simp [invoke, callee_ok hf hb hn]
  rw [hr]
  simp only [Oper.upon]
  refine Calls.mono hc fun e w' he => ?_
  obtain ⟨v, rfl, h⟩ := he
  exact hK v w' h

section
variable {f : FuncId} {xs : Array Operand} {tys : Array TypeId} {vs : List Value} {fn : Func} {v : Value}
theorem d_callX {R : Value → World → Prop} (hv : xs.toList.map (evO L) = vs.map some) (hf : P.funcs[f]? = some fn) (hb : fn.body.isNone = false) (hn : (fn.name == "runtime.NumGoroutine") = false)
    (hc : Calls P f vs.toArray w (fun e w' => ∃ v, e = .returned v ∧ R v w')) : Does P L ⟨d, .call { callee := .value (.func f), args := xs, argTypes := tys }, ty, ps, af, g⟩ w R := d_call hv hf hb hn hc
theorem d_callS (hv : xs.toList.map (evO L) = vs.map some) (hf : P.funcs[f]? = some fn) (hb : fn.body.isNone = false) (hn : (fn.name == "runtime.NumGoroutine") = false)
    (hc : Calls P f vs.toArray w (fun e w' => e = .returned v ∧ w = w')) : Does P L ⟨d, .call { callee := .value (.func f), args := xs, argTypes := tys }, ty, ps, af, g⟩ w (fun u w' => u = v ∧ w = w') :=
  d_call hv hf hb hn (Calls.mono hc fun e w' h => ⟨v, h.1, rfl, h.2⟩)
theorem d_callB (hv : xs.toList.map (evO L) = vs.map some) (hf : P.funcs[f]? = some fn) (hb : fn.body.isNone = false) (hn : (fn.name == "runtime.NumGoroutine") = false)
    (hc : Calls P f vs.toArray w (fun e w' => e = .returned v ∧ Below w.heap.size w w')) : Does P L ⟨d, .call { callee := .value (.func f), args := xs, argTypes := tys }, ty, ps, af, g⟩ w (fun u w' => u = v ∧ Below w.heap.size w w') :=
  d_call hv hf hb hn (Calls.mono hc fun e w' h => ⟨v, h.1, rfl, h.2⟩)
end
end
end Go.Proofs.Ytcmdajkkdognfaa

namespace Go.Proofs.Ytcmdajkkdognfaa
open Go.RowKit Go.ChangeShapes Go.WideShapes Go.Deep
set_option linter.unusedVariables false
set_option linter.unusedSimpArgs false

/-- Cells of a type read as data: which cells stand for which data, and what is known of these. -/
structure Reads (P : Program) (t : TypeId) {α : Type} (V : α → List Value) (F : World → α → Prop) : Prop where
  get : ∀ (H : Type) (enc : TypeId × Value → H) (w : World) (base : Nat) (spare : Nat → Bool) (held : Bool) (fuel : Nat) (cs : List Value) (x : DataW H × List MemPlace), DataW.trod enc P w base spare held fuel t cs = some x → ∃ d, cs = V d ∧ F w d
  kept : ∀ w w' d, Below w.heap.size w w' → F w d → F w' d

def vInt (k : IntKind) (n : Int) : List Value := [.int k n]
def fInt (k : IntKind) (_ : World) (n : Int) : Prop := (Lit.int k n).wf = true
def vStr (s : ByteArray) : List Value := [.string s]
def fStr (_ : World) (s : ByteArray) : Prop := s.size ≤ maxLen
theorem reads_int {P : Program} {t : TypeId} {k : IntKind} (ht : P.underlying t = some (.int k)) : Reads P t (vInt k) (fInt k) where
  get := by
    intro H enc w base spare held fuel cs x h
    obtain ⟨n, e, _, hw⟩ := DataW.trod_int ht h
    exact ⟨n, e, hw⟩
  kept := fun _ _ _ _ h => h

theorem reads_string {P : Program} {t : TypeId} (ht : P.underlying t = some .string) : Reads P t vStr fStr where
  get := by
    intro H enc w base spare held fuel cs x h
    cases fuel with
    | zero => simp [DataW.trod] at h
    | succ m =>
      unfold DataW.trod at h
      rw [ht] at h
      split at h <;> simp_all
      rename_i s
      exact ⟨s, rfl, h.1⟩
  kept := fun _ _ _ _ h => h

/- Structs: field by field. -/
structure ReadsFs (P : Program) (fs : List Field) (o tot : Nat) {α : Type} (V : α → List Value) (F : World → α → Prop) : Prop where
  get : ∀ (H : Type) (enc : TypeId × Value → H) (w : World) (base : Nat) (spare : Nat → Bool) (held : Bool) (n : Nat) (cs : List Value) (xs : List (DataW H × List MemPlace)), cs.length = tot → xs.length = fs.length →
    (∀ (i : Nat) (f : Field), fs[i]? = some f → DataW.trod enc P w base spare held n f.type ((cs.drop f.offset).take (P.cellsOf f.type)) = xs[i]?) → ∃ d, cs.drop o = V d ∧ F w d
  kept : ∀ w w' d, Below w.heap.size w w' → F w d → F w' d

/- Arrays. -/
/- Slices. -/
structure Sl (α : Type) where
  at' : Option Addr
  len : Nat
  cap : Nat
  el : Nat → α
def vSl {α : Type} (d : Sl α) : List Value := [.slice d.at' d.len d.cap]
def fSl {α : Type} (k : Nat) (V : α → List Value) (F : World → α → Prop) (w : World) (d : Sl α) : Prop :=
  d.len ≤ d.cap ∧ d.cap ≤ maxLen ∧ (d.at' = none → d.cap = 0) ∧ ∀ j, j < d.len → F w (d.el j) ∧ ∃ b off, d.at' = some ⟨b, off, none⟩ ∧ b < w.heap.size ∧ ∀ i u, (V (d.el j))[i]? = some u → w.cell? ⟨b, off + j * k + i, none⟩ = some u

theorem cell_here {w : World} {x : Addr} {v : Value} (h : w.cell? x = some v) : x.spot = none ∧ x.block < w.heap.size := by
  unfold World.cell? at h
  split at h
  · rename_i c e fr hh
    refine ⟨?_, (Array.getElem?_eq_some_iff.1 hh).1⟩
    cases hsp : x.spot with
    | none => rfl
    | some _ => simp [hsp] at h
  · cases h

/- An argument. -/
theorem Reads.arg {P : Program} {t : TypeId} {α : Type} {V : α → List Value} {F : World → α → Prop} (R : Reads P t V F) {H : Type} {enc : TypeId × Value → H} {w : World} {base : Nat} {spare : Nat → Bool} {held : Bool} {v : Value} {d : DataW H} {p : List MemPlace}
    (h : DataW.Trod enc P w base spare held t v d p) : ∃ d, v.cells.toList = V d ∧ F w d := by
  obtain ⟨fuel, hf⟩ := h
  exact R.get H enc w base spare held fuel _ _ hf

/-- Numbers of one cell, as a list. -/
def Sl.list {α : Type} (d : Sl α) : List α := (List.range d.len).map d.el
theorem Sl.list_length {α : Type} (d : Sl α) : d.list.length = d.len := by simp [Sl.list]
theorem Sl.list_get {α : Type} (d : Sl α) {j : Nat} (h : j < d.len) : d.list[j]? = some (d.el j) := by simp [Sl.list, h]
end Go.Proofs.Ytcmdajkkdognfaa

namespace Go.Proofs.Ytcmdajkkdognfaa
open Go.RowKit
set_option linter.unusedVariables false
set_option linter.unusedSimpArgs false

/-- The block that a value leads to. -/
def blkOf : Value → Option Nat
  | .slice (some a) _ _ => some a.block
  | .pointer (some a) => some a.block
  | _ => none
/-- Of the operations in A: the block is new. -/
def fr (A : List Nat) (i : Nat) (w : World) (v : Value) (w' : World) : Prop := A.contains i = true → ∃ b, blkOf v = some b ∧ w.heap.size ≤ b ∧ b < w'.heap.size

def ugGoals (P : Program) (ops : Array Oper) (C : World → Prop) (G : World → World → Prop) (all : List (Value → World → Prop)) (A : List Nat) (V : Nat → Value) :
    List Oper → List (Value → World → Prop) → List (List Nat) → Nat → Act → Prop
  | o :: os, p :: ps, d :: ds, i, a =>
    (∀ w, C w → depsHold V all w d → ∀ K : Act → World → Prop, (∀ v w', G w w' → p v w' → fr A i w v w' → K (a.put o.dst v) w') →
      if Region.wanted o (yielded ops a.tmps) = true then o.wp P a w K (fun _ _ _ => False) else K (a.put o.dst undef) w) ∧
    ugGoals P ops C G all A V os ps ds (i + 1) (a.put o.dst (V i))
  | _, _, _, _, _ => True


section
variable {P : Program} {ops : Array Oper} {C : World → Prop} {G : World → World → Prop} {posts : (Nat → Value) → List (Value → World → Prop)} {A : List Nat} {dl : List (List Nat)} {N T : Nat} {a0 : Act}

/-- The goals at number i. -/
theorem ugGoals_at {V : Nat → Value} : ∀ (os : List Oper) (ps : List (Value → World → Prop)) (ds : List (List Nat)) (k : Nat) (a : Act), ugGoals P ops C G (posts V) A V os ps ds k a →
    ∀ (m : Nat) (o : Oper) (p : Value → World → Prop) (d : List Nat), os[m]? = some o → ps[m]? = some p → ds[m]? = some d →
    ∀ w, C w → depsHold V (posts V) w d → ∀ K : Act → World → Prop, (∀ v w', G w w' → p v w' → fr A (k + m) w v w' → K ((putAll (os.take m) V k a).put o.dst v) w') →
      if Region.wanted o (yielded ops (putAll (os.take m) V k a).tmps) = true then o.wp P (putAll (os.take m) V k a) w K (fun _ _ _ => False) else K ((putAll (os.take m) V k a).put o.dst undef) w
  | [], _, _, _, _, _, m, o, p, d, h, _, _ => by simp at h
  | _ :: _, [], _, _, _, _, m, o, p, d, _, h, _ => by simp at h
  | _ :: _, _ :: _, [], _, _, _, m, o, p, d, _, _, h => by simp at h
  | o1 :: os, p1 :: ps, d1 :: ds, k, a, hg, 0, o, p, d, h1, h2, h3 => by
    simp at h1 h2 h3; subst h1 h2 h3
    exact hg.1
  | o1 :: os, p1 :: ps, d1 :: ds, k, a, hg, m + 1, o, p, d, h1, h2, h3 => by
    rw [show k + (m + 1) = k + 1 + m from by omega]
    exact ugGoals_at os ps ds (k + 1) _ hg.2 m o p d (by simpa using h1) (by simpa using h2) (by simpa using h3)

structure UgInv (ops : Array Oper) (C : World → Prop) (posts : (Nat → Value) → List (Value → World → Prop)) (A : List Nat) (a0 : Act) (V : Nat → Value) (listed : Array Bool) (a : Act) (w : World) : Prop where
  size : listed.size = ops.size
  tmps : a.tmps.size = a0.tmps.size
  defers : a.defers = a0.defers
  c : C w
  got : ∀ (j : Nat) (o : Oper), ops[j]? = some o → listed[j]? = some true → ∀ t, o.dst = some t → a.tmps[t]? = some (V j)
  post : ∀ (j : Nat) (o : Oper), ops[j]? = some o → listed[j]? = some true → ((posts V).getD j (fun _ _ => True)) (V j) w
  same : ∀ t, (∀ (j : Nat) (o : Oper), ops[j]? = some o → listed[j]? = some true → o.dst ≠ some t) → a.tmps[t]? = a0.tmps[t]?
  down : ∀ (j : Nat) (o : Oper), ops[j]? = some o → listed[j]? = some true → ∀ k, pre o k = true → listed[k]? = some true
  frA : ∀ i, A.contains i = true → listed[i]? = some true → ∃ b, blkOf (V i) = some b ∧ b < w.heap.size
  neA : ∀ i j, A.contains i = true → A.contains j = true → i ≠ j → listed[i]? = some true → listed[j]? = some true → blkOf (V i) ≠ blkOf (V j)

theorem UgInv.looks {V : Nat → Value} {listed : Array Bool} {a : Act} {w : World} (hI : UgInv ops C posts A a0 V listed a w) (hN : a0.tmps.size = N) (hok : ∀ i o, ops[i]? = some o → RgOk ops dl N i o)
    {i : Nat} {o : Oper} (ho : ops[i]? = some o) (hnl : listed[i]? ≠ some true) (hpre : ∀ k, pre o k = true → listed[k]? = some true) :
    ∀ t ∈ o.looksAt ops, a.tmps[t]? = (putAll (ops.toList.take i) V 0 a0).tmps[t]? := by
  intro t ht
  have hget : ∀ m o', (ops.toList.take i)[m]? = some o' ↔ m < i ∧ ops[m]? = some o' := by
    intro m o'
    rw [List.getElem?_take]
    split <;> simp [*]
  by_cases hex : ∃ (j : Nat) (oj : Oper), ops[j]? = some oj ∧ oj.dst = some t
  · obtain ⟨j, oj, hj, hjd⟩ := hex
    have hji : j ≠ i := by
      rintro rfl
      rw [ho] at hj; cases hj
      exact (hok _ _ ho).self t hjd ht
    have huniq : ∀ (j' : Nat) (o' : Oper), ops[j']? = some o' → o'.dst = some t → j' = j := by
      intro j' o' hj' hd'
      by_cases e : j' = j
      · exact e
      · exact absurd hjd ((hok _ _ hj).one j' o' hj' e t hd')
    rcases (hok _ _ ho).see j oj hj hji t hjd ht with hp | hp
    · rw [hI.got j oj hj (hpre j hp) t hjd]
      have hlt := (hok _ _ ho).lt j hp
      rw [putAll_get_some V _ 0 a0 j oj ((hget j oj).2 ⟨hlt, hj⟩) hjd (by rw [hN]; exact (hok _ _ hj).dst t hjd)
        (fun m' o' hm' hne => fun hd' => hne (huniq m' o' ((hget m' o').1 hm').2 hd'))]
      simp
    · have hlt := (hok _ _ hj).lt i hp
      rw [hI.same t (fun j' o' hj' hl' hd' => by
        obtain rfl := huniq j' o' hj' hd'
        rw [hj] at hj'; cases hj'
        exact hnl (hI.down _ _ hj hl' i hp))]
      rw [putAll_get_none V _ 0 a0 (fun m o' hm hd' => by
        have := huniq m o' ((hget m o').1 hm).2 hd'
        have := ((hget m o').1 hm).1
        omega)]
  · rw [hI.same t (fun j' o' hj' _ hd' => hex ⟨j', o', hj', hd'⟩), putAll_get_none V _ 0 a0 (fun m o' hm hd' => hex ⟨m, o', ((hget m o').1 hm).2, hd'⟩)]

theorem ug_walk {Q : Exit → Act → World → Prop} (hN : a0.tmps.size = N) (hok : ∀ i o, ops[i]? = some o → RgOk ops dl N i o) (hdl : dl.length = ops.size) (hpl : ∀ V, (posts V).length = ops.size)
    (hC : ∀ w w', C w → G w w' → C w') (hG : ∀ w w', G w w' → w.heap.size ≤ w'.heap.size) (hP : ∀ V, postsKept G (posts V)) (hPc : ∀ V i v j, i ∉ dl.getD j [] → (posts (fun k => if k = i then v else V k)).getD j (fun _ _ => True) = (posts V).getD j (fun _ _ => True)) (hgoals : ∀ V, ugGoals P ops C G (posts V) A V ops.toList (posts V) dl 0 a0)
    (hQ : ∀ V w, C w → postsHold V w (posts V) 0 → (∀ i j, i < (posts V).length → j < (posts V).length → A.contains i = true → A.contains j = true → i ≠ j → blkOf (V i) ≠ blkOf (V j)) → Q .normal (putAll ops.toList V 0 a0) w) :
    ∀ (fuel : Nat) (listed : Array Bool) (a : Act) (w : World) (V : Nat → Value), (List.range ops.size).countP (fun i => listed[i]? != some true) ≤ fuel → UgInv ops C posts A a0 V listed a w → wpAny P .any ops Q fuel listed a w := by
  -- what stands when all is listed
  have fin : ∀ (listed : Array Bool) (a : Act) (w : World) (V : Nat → Value), UgInv ops C posts A a0 V listed a w → (∀ i, i < ops.size → listed[i]? = some true) → Q .normal a w := by
    intro listed a w V hI hall
    have ha : a = putAll ops.toList V 0 a0 := by
      have h1 : a.tmps = (putAll ops.toList V 0 a0).tmps := by
        apply Array.ext_getElem?
        intro t
        by_cases hex : ∃ (j : Nat) (oj : Oper), ops[j]? = some oj ∧ oj.dst = some t
        · obtain ⟨j, oj, hj, hjd⟩ := hex
          rw [hI.got j oj hj (hall j (Array.getElem?_eq_some_iff.1 hj).1) t hjd]
          rw [putAll_get_some V _ 0 a0 j oj (by simpa using hj) hjd (by rw [hN]; exact (hok _ _ hj).dst t hjd)
            (fun m' o' hm' hne hd' => (hok _ _ hj).one m' o' (by simpa using hm') hne t hd' hjd)]
          simp
        · rw [hI.same t (fun j' o' hj' _ hd' => hex ⟨j', o', hj', hd'⟩), putAll_get_none V _ 0 a0 (fun m o' hm hd' => hex ⟨m, o', by simpa using hm, hd'⟩)]
      have h2 : a.defers = (putAll ops.toList V 0 a0).defers := hI.defers.trans (putAll_defers V _ _ _).symm
      cases a; simp only at h1 h2; subst h1 h2; rfl
    rw [ha]
    refine hQ V w hI.c (postsHold_of (posts V) 0 (fun j p hj => by
      have hlt : j < ops.size := by rw [← hpl V]; exact (List.getElem?_eq_some_iff.1 hj).1
      have := hI.post j ops[j] (Array.getElem?_eq_getElem hlt) (hall j hlt)
      rw [Nat.zero_add]
      simpa [List.getD_eq_getElem?_getD, hj] using this)) (fun i j hi hj h1 h2 hne => hI.neA i j h1 h2 hne (hall i (by have := hpl V; omega)) (hall j (by have := hpl V; omega)))
  -- nothing is ready: all is listed
  have done : ∀ (listed : Array Bool), listed.size = ops.size → Region.ready .any ops listed = [] → ∀ i, i < ops.size → listed[i]? = some true := by
    intro listed hsz hr i
    induction i using Nat.strongRecOn with
    | ind i ih =>
      intro hi
      by_cases h : listed[i]? = some true
      · exact h
      exfalso
      have hmem : i ∈ Region.ready .any ops listed := by
        unfold Region.ready
        rw [List.mem_filter]
        refine ⟨by simpa using hi, ?_⟩
        have hl : listed.getD i true = false := by
          rw [Array.getD_eq_getD_getElem?]
          rw [Array.getElem?_eq_getElem (by omega)] at h ⊢
          simpa using h
        rw [hl, Array.getElem?_eq_getElem hi]
        simp only [Bool.not_false, Bool.true_and, Option.map_some, Option.getD_some]
        rw [Array.all_eq_true']
        intro e he
        by_cases hb : Region.binds .any e = true
        · have hp := pre_spec he hb
          have hlt := (hok _ _ (Array.getElem?_eq_getElem hi)).lt e.on hp
          rw [Array.getD_eq_getD_getElem?, ih e.on hlt (by omega)]
          simp
        · simp [hb]
      rw [hr] at hmem
      exact absurd hmem (by simp)
  intro fuel
  induction fuel with
  | zero =>
    intro listed a w V hc hI
    have hall : ∀ i, i < ops.size → listed[i]? = some true := by
      intro i hi
      have h0 := Nat.le_zero.1 hc
      rw [List.countP_eq_zero] at h0
      simpa using h0 i (by simpa using hi)
    refine ⟨?_, fin listed a w V hI hall⟩
    unfold Region.ready
    rw [List.filter_eq_nil_iff]
    intro i hi
    have := hall i (by simpa using hi)
    rw [Array.getD_eq_getD_getElem?, this]
    simp
  | succ fuel ih =>
    intro listed a w V hc hI
    refine ⟨fun hr => fin listed a w V hI (done listed hI.size hr), fun i hi => ?_⟩
    unfold Region.ready at hi
    rw [List.mem_filter] at hi
    obtain ⟨hir, hi2⟩ := hi
    have hir : i < ops.size := by simpa using hir
    rw [Bool.and_eq_true] at hi2
    obtain ⟨hnl, haft⟩ := hi2
    have hnl' : listed[i]? = some false := by
      rw [Array.getD_eq_getD_getElem?, Array.getElem?_eq_getElem (by rw [hI.size]; exact hir)] at hnl
      rw [Array.getElem?_eq_getElem (by rw [hI.size]; exact hir)]
      simpa using hnl
    have ho : ops[i]? = some ops[i] := Array.getElem?_eq_getElem hir
    have hpre : ∀ k, pre ops[i] k = true → listed[k]? = some true := by
      intro k hk
      obtain ⟨e, he, rfl, hb⟩ := pre_mem hk
      rw [ho, Option.map_some, Option.getD_some, Array.all_eq_true'] at haft
      have := haft e he
      simp only [hb, Bool.not_true, Bool.false_or, Array.getD_eq_getD_getElem?] at this
      have hlt := (hok _ _ ho).lt e.on hk
      rw [Array.getElem?_eq_getElem (by rw [hI.size]; omega)] at this ⊢
      simpa using this
    have hilt : i < listed.size := by rw [hI.size]; exact hir
    -- the step
    have hp : (posts V)[i]? = some ((posts V).getD i (fun _ _ => True)) := by
      have : i < (posts V).length := by have := hpl V; omega
      simp [this]
    have hd : dl[i]? = some (dl.getD i []) := by
      have : i < dl.length := by omega
      simp [this]
    have hlook := hI.looks hN hok ho (by rw [hnl']; simp) hpre
    have hgo := ugGoals_at ops.toList (posts V) dl 0 a0 (hgoals V) i ops[i] _ _ (by simp) hp hd w hI.c
      (depsHold_of _ (fun j hj => by
        have h1 := hpre j ((hok _ _ ho).dl j hj)
        have hlt : j < ops.size := by have := (hok _ _ ho).lt j ((hok _ _ ho).dl j hj); omega
        exact hI.post j ops[j] (Array.getElem?_eq_getElem hlt) h1))
    -- the invariant behind it
    have hnext : ∀ v w', (C w' ∧ (∀ j v, ((posts V).getD j (fun _ _ => True)) v w → ((posts V).getD j (fun _ _ => True)) v w') ∧ w.heap.size ≤ w'.heap.size ∧ fr A i w v w') → ((posts V).getD i (fun _ _ => True)) v w' → wpAny P .any ops Q fuel (listed.setIfInBounds i true) (a.put ops[i].dst v) w' := by
      rintro v w' ⟨hc', hkeep, hsz, hfr⟩ hpv
      refine ih _ _ _ (fun k => if k = i then v else V k) ?_ ?_
      · have hlt : (List.range ops.size).countP (fun k => (listed.setIfInBounds i true)[k]? != some true) < (List.range ops.size).countP (fun k => listed[k]? != some true) := by
          rw [List.countP_eq_length_filter, List.countP_eq_length_filter]
          have hsub : (List.range ops.size).filter (fun k => (listed.setIfInBounds i true)[k]? != some true) = ((List.range ops.size).filter (fun k => listed[k]? != some true)).erase i := by
            rw [(List.Nodup.sublist List.filter_sublist List.nodup_range).erase_eq_filter, List.filter_filter]
            apply List.filter_congr
            intro k hk
            by_cases e : k = i
            · subst e; simp [hilt]
            · rw [Array.getElem?_setIfInBounds_ne (Ne.symm e)]; simp [e]
          rw [hsub, List.length_erase_of_mem (by rw [List.mem_filter]; exact ⟨by simpa using hir, by rw [hnl']; rfl⟩)]
          have : 0 < ((List.range ops.size).filter (fun k => listed[k]? != some true)).length :=
            List.length_pos_of_mem (a := i) (by rw [List.mem_filter]; exact ⟨by simpa using hir, by rw [hnl']; rfl⟩)
          omega
        omega
      · refine ⟨by simp [hI.size], by rw [put_size, hI.tmps], by rw [put_defers, hI.defers], hc', ?_, ?_, ?_, ?_, ?_, ?_⟩
        · intro j o hj hl t ht
          rcases (Array.get?_setTrue hilt).1 hl with rfl | hl2
          · rw [ho] at hj; cases hj
            simp only [if_true]
            rw [ht]; exact put_get (by rw [hI.tmps, hN]; exact (hok _ _ ho).dst t ht)
          · have hji : j ≠ i := fun e => by rw [e, hnl'] at hl2; cases hl2
            rw [if_neg hji, put_get_ne ((hok _ _ ho).one j o hj hji t ht)]
            exact hI.got j o hj hl2 t ht
        · intro j o hj hl
          rcases (Array.get?_setTrue hilt).1 hl with rfl | hl2
          · rw [hPc V _ v _ (fun hm => by
              have h1 := hpre _ ((hok _ _ ho).dl _ hm)
              rw [hnl'] at h1; cases h1)]
            simp only [if_true]; exact hpv
          · have hji : j ≠ i := fun e => by rw [e, hnl'] at hl2; cases hl2
            rw [hPc V _ v _ (fun hm => by
              have h1 := hI.down j o hj hl2 _ ((hok _ _ hj).dl _ hm)
              rw [hnl'] at h1; cases h1)]
            simp only [if_neg hji]
            exact hkeep j _ (hI.post j o hj hl2)
        · intro t ht
          rw [put_get_ne (ht i _ ho ((Array.get?_setTrue hilt).2 (.inl rfl)))]
          exact hI.same t (fun j o hj hl => ht j o hj ((Array.get?_setTrue hilt).2 (.inr hl)))
        · intro j o hj hl k hk
          rw [Array.get?_setTrue hilt]
          rcases (Array.get?_setTrue hilt).1 hl with rfl | hl2
          · rw [ho] at hj; cases hj
            exact .inr (hpre k hk)
          · exact .inr (hI.down j o hj hl2 k hk)
        · intro j hj hl
          rcases (Array.get?_setTrue hilt).1 hl with rfl | hl2
          · simp only [if_true]
            obtain ⟨b, h1, _, h3⟩ := hfr hj
            exact ⟨b, h1, h3⟩
          · have hji : j ≠ i := fun e => by rw [e, hnl'] at hl2; cases hl2
            simp only [if_neg hji]
            obtain ⟨b, h1, h2⟩ := hI.frA j hj hl2
            exact ⟨b, h1, Nat.lt_of_lt_of_le h2 hsz⟩
        · intro j j2 hj hj2 hne hl hl2
          rcases (Array.get?_setTrue hilt).1 hl with rfl | hl3
          · rcases (Array.get?_setTrue hilt).1 hl2 with rfl | hl4
            · exact absurd rfl hne
            · simp only [if_true, if_neg (Ne.symm hne)]
              obtain ⟨b, h1, h2, _⟩ := hfr hj
              obtain ⟨b2, h3, h4⟩ := hI.frA j2 hj2 hl4
              rw [h1, h3]; intro e; cases e; omega
          · have hji : j ≠ i := fun e => by rw [e, hnl'] at hl3; cases hl3
            rcases (Array.get?_setTrue hilt).1 hl2 with rfl | hl4
            · simp only [if_true, if_neg hji]
              obtain ⟨b, h1, h2, _⟩ := hfr hj2
              obtain ⟨b2, h3, h4⟩ := hI.frA j hj hl3
              rw [h1, h3]; intro e; cases e; omega
            · have hji2 : j2 ≠ i := fun e => by rw [e, hnl'] at hl4; cases hl4
              simp only [if_neg hji, if_neg hji2]
              exact hI.neA j j2 hj hj2 hne hl3 hl4
    unfold wpOp
    rw [ho]
    show if Region.wanted ops[i] (yielded ops a.tmps) = true then _ else _
    have hsel := (hok _ _ ho).sel
    have hEx : execOp a.eval ops[i] = execOp (putAll (ops.toList.take i) V 0 a0).eval ops[i] :=
      execOp_congr ops[i] hsel (fun x hx => eval_congr_get (fun t ht => hlook t (by
        subst ht
        exact List.mem_append_left _ (List.mem_filterMap.2 ⟨.tmp t, by simpa using hx, rfl⟩))))
    rw [yielded_congr hlook]
    split
    · rename_i hw
      left
      have hgo := hgo (fun b w' => ∃ v, b = (putAll (ops.toList.take i) V 0 a0).put ops[i].dst v ∧ G w w' ∧ ((posts V).getD i (fun _ _ => True)) v w' ∧ fr A i w v w') (fun v w' h1 h2 h3 => ⟨v, rfl, h1, h2, by rwa [Nat.zero_add] at h3⟩)
      rw [if_pos hw] at hgo
      exact wp_carry (R := fun v w' => G w w' ∧ ((posts V).getD i (fun _ _ => True)) v w' ∧ fr A i w v w') hEx (by rw [hI.tmps, putAll_size]) hgo
        (fun v w' ⟨h1, h2, h3⟩ => hnext v w' ⟨hC w w' hI.c h1, fun j v hj => postsKept_at (posts V) (hP V) j v w w' hj h1, hG w w' h1, h3⟩ h2)
    · rename_i hw
      have hgo := hgo (fun b w' => ∃ v, b = (putAll (ops.toList.take i) V 0 a0).put ops[i].dst v ∧ (C w' ∧ (∀ j v, ((posts V).getD j (fun _ _ => True)) v w → ((posts V).getD j (fun _ _ => True)) v w') ∧ w.heap.size ≤ w'.heap.size ∧ fr A i w v w') ∧ ((posts V).getD i (fun _ _ => True)) v w')
        (fun v w' h1 h2 h3 => ⟨v, rfl, ⟨hC w w' hI.c h1, fun j v hj => postsKept_at (posts V) (hP V) j v w w' hj h1, hG w w' h1, by rwa [Nat.zero_add] at h3⟩, h2⟩)
      rw [if_neg hw] at hgo
      obtain ⟨v, h1, h2, h3⟩ := hgo
      have e : a.put ops[i].dst undef = a.put ops[i].dst v := by
        cases hd : ops[i].dst with
        | none => rfl
        | some d =>
          rw [hd] at h1
          have hlt : d < (putAll (ops.toList.take i) V 0 a0).tmps.size := by rw [putAll_size, hN]; exact (hok _ _ ho).dst d hd
          have := congrArg (fun x : Act => x.tmps[d]?) h1
          simp only [put_get hlt] at this
          rw [Option.some.inj this]
      rw [e]
      exact hnext v w h2 h3

theorem wp_region_ug {id : Nat} {Q : Exit → Act → World → Prop} {w0 : World} (C : World → Prop) (G : World → World → Prop) (posts : (Nat → Value) → List (Value → World → Prop)) (A : List Nat) (dl : List (List Nat)) (N : Nat)
    (hm : P.follows .mixedOrders = true) (hN : a0.tmps.size = N) (hchk : rgCheck ops dl N = true) (hpl : ∀ V, (posts V).length = ops.size)
    (hC0 : C w0.drew) (hC : ∀ w w', C w → G w w' → C w') (hG : ∀ w w', G w w' → w.heap.size ≤ w'.heap.size) (hP : ∀ V, postsKept G (posts V)) (hPc : ∀ V i v j, i ∉ dl.getD j [] → (posts (fun k => if k = i then v else V k)).getD j (fun _ _ => True) = (posts V).getD j (fun _ _ => True)) (hgoals : ∀ V, ugGoals P ops C G (posts V) A V ops.toList (posts V) dl 0 a0)
    (hQ : ∀ V w, C w → postsHold V w (posts V) 0 → (∀ i j, i < (posts V).length → j < (posts V).length → A.contains i = true → A.contains j = true → i ≠ j → blkOf (V i) ≠ blkOf (V j)) → Q .normal (putAll ops.toList V 0 a0) w) : (Code.region id ops true).wp P Q a0 w0 := by
  obtain ⟨hdl, hok⟩ := rgOk_of_check hchk
  refine wp_region_any hm (ug_walk hN hok hdl hpl hC hG hP hPc hgoals hQ ops.size _ a0 _ (fun _ => undef) ?_ ⟨by simp, rfl, rfl, hC0, ?_, ?_, fun _ _ => rfl, ?_, ?_, ?_⟩)
  · exact Nat.le_trans List.countP_le_length (by simp)
  · intro j o hj hl
    simp [Array.getElem?_replicate] at hl
  · intro j o hj hl
    simp [Array.getElem?_replicate] at hl
  · intro j o hj hl
    simp [Array.getElem?_replicate] at hl
  · intro j hj hl
    simp [Array.getElem?_replicate] at hl
  · intro j j2 hj hj2 hne hl
    simp [Array.getElem?_replicate] at hl

theorem ug_walk_tail {Q : Exit → Act → World → Prop} (hN : a0.tmps.size = N) (hok : ∀ i o, ops[i]? = some o → RgOk ops dl N i o) (hdl : dl.length = ops.size) (hpl : ∀ V, (posts V).length = T) (hT : T < ops.size)
    (hs : Region.sinkB .any ops T = true) (hc : Region.chainB .any ops T = true) (hseq : Region.seqB .any ops (ops.size - T) T ((Array.range ops.size).map (fun i => decide (i < T))) = true)
    (hC : ∀ w w', C w → G w w' → C w') (hG : ∀ w w', G w w' → w.heap.size ≤ w'.heap.size) (hP : ∀ V, postsKept G (posts V)) (hPc : ∀ V i v j, i ∉ dl.getD j [] → (posts (fun k => if k = i then v else V k)).getD j (fun _ _ => True) = (posts V).getD j (fun _ _ => True)) (hgoals : ∀ V, ugGoals P ops C G (posts V) A V (ops.toList.take T) (posts V) dl 0 a0)
    (hQ : ∀ V w, C w → postsHold V w (posts V) 0 → (∀ i j, i < (posts V).length → j < (posts V).length → A.contains i = true → A.contains j = true → i ≠ j → blkOf (V i) ≠ blkOf (V j)) → wpList P ops Q (ops.toList.drop T) (putAll (ops.toList.take T) V 0 a0) w) :
    ∀ (fuel : Nat) (listed : Array Bool) (a : Act) (w : World) (V : Nat → Value), (List.range T).countP (fun i => listed[i]? != some true) = fuel → HeadInv .any ops T listed → UgInv ops C posts A a0 V listed a w → wpAny P .any ops Q (fuel + (ops.size - T)) listed a w := by
  -- what stands when the head is listed
  have fin : ∀ (listed : Array Bool) (a : Act) (w : World) (V : Nat → Value), HeadInv .any ops T listed → UgInv ops C posts A a0 V listed a w → (∀ i, i < T → listed[i]? = some true) → wpAny P .any ops Q (0 + (ops.size - T)) listed a w := by
    intro listed a w V inv hI hall
    have hnone : ∀ j, T ≤ j → listed[j]? ≠ some true := by
      intro j hj h
      by_cases hjs : j < ops.size
      · have h1 := inv.tail j hj hjs
        rw [Array.getD_eq_getD_getElem?, h] at h1
        cases h1
      · have hsz := inv.size
        rw [Array.getElem?_eq_none (by omega)] at h
        cases h
    have hmem : ∀ m o, (ops.toList.take T)[m]? = some o → m < T ∧ ops[m]? = some o := by
      intro m o hm
      rw [List.getElem?_take] at hm
      split at hm
      · exact ⟨by assumption, by simpa using hm⟩
      · cases hm
    have ha : a = putAll (ops.toList.take T) V 0 a0 := by
      have h1 : a.tmps = (putAll (ops.toList.take T) V 0 a0).tmps := by
        apply Array.ext_getElem?
        intro t
        by_cases hex : ∃ (j : Nat) (oj : Oper), ops[j]? = some oj ∧ oj.dst = some t ∧ j < T
        · obtain ⟨j, oj, hj, hjd, hjT⟩ := hex
          rw [hI.got j oj hj (hall j hjT) t hjd]
          rw [putAll_get_some V _ 0 a0 j oj (by rw [List.getElem?_take, if_pos hjT]; simpa using hj) hjd (by rw [hN]; exact (hok _ _ hj).dst t hjd)
            (fun m' o' hm' hne hd' => (hok _ _ hj).one m' o' (hmem m' o' hm').2 hne t hd' hjd)]
          simp
        · rw [hI.same t (fun j' o' hj' hl' hd' => hex ⟨j', o', hj', hd', by
            rcases Nat.lt_or_ge j' T with h | h
            · exact h
            · exact absurd hl' (hnone j' h)⟩), putAll_get_none V _ 0 a0 (fun m o' hm hd' => hex ⟨m, o', (hmem m o' hm).2, hd', (hmem m o' hm).1⟩)]
      have h2 : a.defers = (putAll (ops.toList.take T) V 0 a0).defers := hI.defers.trans (putAll_defers V _ _ _).symm
      cases a; simp only at h1 h2; subst h1 h2; rfl
    have hq := hQ V w hI.c (postsHold_of (posts V) 0 (fun j p hj => by
      have hlt : j < T := by rw [← hpl V]; exact (List.getElem?_eq_some_iff.1 hj).1
      have := hI.post j ops[j] (Array.getElem?_eq_getElem (by omega)) (hall j hlt)
      rw [Nat.zero_add]
      simpa [List.getD_eq_getElem?_getD, hj] using this)) (fun i j hi hj h1 h2 hne => hI.neA i j h1 h2 hne (hall i (by have := hpl V; omega)) (hall j (by have := hpl V; omega)))
    rw [ha]
    have hdl2 : (ops.toList.drop T).length = ops.size - T := by simp
    have hall2 := headInv_all inv hall (by omega)
    have := wpAny_of_seq (md := .any) (Q' := Q) (ops.toList.drop T) T listed _ w (fun j => by simp [List.getElem?_drop]) (by rw [hdl2, hall2]; exact hseq) hq
    rw [hdl2] at this
    rw [Nat.zero_add]
    exact this
  intro fuel
  induction fuel with
  | zero =>
    intro listed a w V hc0 inv hI
    refine fin listed a w V inv hI (fun i hi => ?_)
    rw [List.countP_eq_zero] at hc0
    simpa using hc0 i (by simpa using hi)
  | succ fuel ih =>
    intro listed a w V hc0 inv hI
    obtain ⟨i0, hi0, hun0⟩ : ∃ i0, i0 < T ∧ listed.getD i0 true = false := by
      have hpos : 0 < (List.range T).countP (fun i => listed[i]? != some true) := by omega
      rw [List.countP_pos_iff] at hpos
      obtain ⟨i0, h1, h2⟩ := hpos
      have h1 : i0 < T := by simpa using h1
      refine ⟨i0, h1, ?_⟩
      rw [Array.getD_eq_getD_getElem?]
      rw [Array.getElem?_eq_getElem (by rw [hI.size]; omega)] at h2 ⊢
      simpa using h2
    have hready := tail_waits hs hc hT inv _ i0 rfl hi0 hun0
    rw [show fuel + 1 + (ops.size - T) = (fuel + (ops.size - T)) + 1 by omega]
    refine ⟨fun hr => ?_, fun i hi => ?_⟩
    · exfalso
      have done : ∀ i, i < ops.size → listed[i]? = some true := by
        intro i
        induction i using Nat.strongRecOn with
        | ind i ih =>
          intro hi
          by_cases h : listed[i]? = some true
          · exact h
          exfalso
          have hmem : i ∈ Region.ready .any ops listed := by
            unfold Region.ready
            rw [List.mem_filter]
            refine ⟨by simpa using hi, ?_⟩
            have hl : listed.getD i true = false := by
              rw [Array.getD_eq_getD_getElem?]
              rw [Array.getElem?_eq_getElem (by rw [hI.size]; omega)] at h ⊢
              simpa using h
            rw [hl, Array.getElem?_eq_getElem hi]
            simp only [Bool.not_false, Bool.true_and, Option.map_some, Option.getD_some]
            rw [Array.all_eq_true']
            intro e he
            by_cases hb : Region.binds .any e = true
            · have hp := pre_spec he hb
              have hlt := (hok _ _ (Array.getElem?_eq_getElem hi)).lt e.on hp
              rw [Array.getD_eq_getD_getElem?, ih e.on hlt (by omega)]
              simp
            · simp [hb]
          rw [hr] at hmem
          exact absurd hmem (by simp)
      have h1 := inv.tail T (Nat.le_refl _) hT
      rw [Array.getD_eq_getD_getElem?, done T hT] at h1
      cases h1
    have hiT : i < T := by
      rcases Nat.lt_or_ge i T with h | h
      · exact h
      · exact absurd hi (hready i h)
    have inv' := inv.set hi hiT
    unfold Region.ready at hi
    rw [List.mem_filter] at hi
    obtain ⟨hir, hi2⟩ := hi
    have hir : i < ops.size := by simpa using hir
    rw [Bool.and_eq_true] at hi2
    obtain ⟨hnl, haft⟩ := hi2
    have hnl' : listed[i]? = some false := by
      rw [Array.getD_eq_getD_getElem?, Array.getElem?_eq_getElem (by rw [hI.size]; exact hir)] at hnl
      rw [Array.getElem?_eq_getElem (by rw [hI.size]; exact hir)]
      simpa using hnl
    have ho : ops[i]? = some ops[i] := Array.getElem?_eq_getElem hir
    have hpre : ∀ k, pre ops[i] k = true → listed[k]? = some true := by
      intro k hk
      obtain ⟨e, he, rfl, hb⟩ := pre_mem hk
      rw [ho, Option.map_some, Option.getD_some, Array.all_eq_true'] at haft
      have := haft e he
      simp only [hb, Bool.not_true, Bool.false_or, Array.getD_eq_getD_getElem?] at this
      have hlt := (hok _ _ ho).lt e.on hk
      rw [Array.getElem?_eq_getElem (by rw [hI.size]; omega)] at this ⊢
      simpa using this
    have hilt : i < listed.size := by rw [hI.size]; exact hir
    -- the step
    have hp : (posts V)[i]? = some ((posts V).getD i (fun _ _ => True)) := by
      have : i < (posts V).length := by have := hpl V; omega
      simp [this]
    have hd : dl[i]? = some (dl.getD i []) := by
      have : i < dl.length := by omega
      simp [this]
    have hlook := hI.looks hN hok ho (by rw [hnl']; simp) hpre
    have hgo := ugGoals_at (ops.toList.take T) (posts V) dl 0 a0 (hgoals V) i ops[i] _ _ (by rw [List.getElem?_take, if_pos hiT]; simp) hp hd w hI.c
      (depsHold_of _ (fun j hj => by
        have h1 := hpre j ((hok _ _ ho).dl j hj)
        have hlt : j < ops.size := by have := (hok _ _ ho).lt j ((hok _ _ ho).dl j hj); omega
        exact hI.post j ops[j] (Array.getElem?_eq_getElem hlt) h1))
    rw [List.take_take, Nat.min_eq_left (Nat.le_of_lt hiT)] at hgo
    -- the invariant behind it
    have hnext : ∀ v w', (C w' ∧ (∀ j v, ((posts V).getD j (fun _ _ => True)) v w → ((posts V).getD j (fun _ _ => True)) v w') ∧ w.heap.size ≤ w'.heap.size ∧ fr A i w v w') → ((posts V).getD i (fun _ _ => True)) v w' → wpAny P .any ops Q (fuel + (ops.size - T)) (listed.setIfInBounds i true) (a.put ops[i].dst v) w' := by
      rintro v w' ⟨hc', hkeep, hsz, hfr⟩ hpv
      refine ih _ _ _ (fun k => if k = i then v else V k) ?_ inv' ?_
      · have hlt : (List.range T).countP (fun k => (listed.setIfInBounds i true)[k]? != some true) + 1 = (List.range T).countP (fun k => listed[k]? != some true) := by
          rw [List.countP_eq_length_filter, List.countP_eq_length_filter]
          have hsub : (List.range T).filter (fun k => (listed.setIfInBounds i true)[k]? != some true) = ((List.range T).filter (fun k => listed[k]? != some true)).erase i := by
            rw [(List.Nodup.sublist List.filter_sublist List.nodup_range).erase_eq_filter, List.filter_filter]
            apply List.filter_congr
            intro k hk
            by_cases e : k = i
            · subst e; simp [hilt]
            · rw [Array.getElem?_setIfInBounds_ne (Ne.symm e)]; simp [e]
          rw [hsub, List.length_erase_of_mem (by rw [List.mem_filter]; exact ⟨by simpa using hiT, by rw [hnl']; rfl⟩)]
          have : 0 < ((List.range T).filter (fun k => listed[k]? != some true)).length :=
            List.length_pos_of_mem (a := i) (by rw [List.mem_filter]; exact ⟨by simpa using hiT, by rw [hnl']; rfl⟩)
          omega
        omega
      · refine ⟨by simp [hI.size], by rw [put_size, hI.tmps], by rw [put_defers, hI.defers], hc', ?_, ?_, ?_, ?_, ?_, ?_⟩
        · intro j o hj hl t ht
          rcases (Array.get?_setTrue hilt).1 hl with rfl | hl2
          · rw [ho] at hj; cases hj
            simp only [if_true]
            rw [ht]; exact put_get (by rw [hI.tmps, hN]; exact (hok _ _ ho).dst t ht)
          · have hji : j ≠ i := fun e => by rw [e, hnl'] at hl2; cases hl2
            rw [if_neg hji, put_get_ne ((hok _ _ ho).one j o hj hji t ht)]
            exact hI.got j o hj hl2 t ht
        · intro j o hj hl
          rcases (Array.get?_setTrue hilt).1 hl with rfl | hl2
          · rw [hPc V _ v _ (fun hm => by
              have h1 := hpre _ ((hok _ _ ho).dl _ hm)
              rw [hnl'] at h1; cases h1)]
            simp only [if_true]; exact hpv
          · have hji : j ≠ i := fun e => by rw [e, hnl'] at hl2; cases hl2
            rw [hPc V _ v _ (fun hm => by
              have h1 := hI.down j o hj hl2 _ ((hok _ _ hj).dl _ hm)
              rw [hnl'] at h1; cases h1)]
            simp only [if_neg hji]
            exact hkeep j _ (hI.post j o hj hl2)
        · intro t ht
          rw [put_get_ne (ht i _ ho ((Array.get?_setTrue hilt).2 (.inl rfl)))]
          exact hI.same t (fun j o hj hl => ht j o hj ((Array.get?_setTrue hilt).2 (.inr hl)))
        · intro j o hj hl k hk
          rw [Array.get?_setTrue hilt]
          rcases (Array.get?_setTrue hilt).1 hl with rfl | hl2
          · rw [ho] at hj; cases hj
            exact .inr (hpre k hk)
          · exact .inr (hI.down j o hj hl2 k hk)
        · intro j hj hl
          rcases (Array.get?_setTrue hilt).1 hl with rfl | hl2
          · simp only [if_true]
            obtain ⟨b, h1, _, h3⟩ := hfr hj
            exact ⟨b, h1, h3⟩
          · have hji : j ≠ i := fun e => by rw [e, hnl'] at hl2; cases hl2
            simp only [if_neg hji]
            obtain ⟨b, h1, h2⟩ := hI.frA j hj hl2
            exact ⟨b, h1, Nat.lt_of_lt_of_le h2 hsz⟩
        · intro j j2 hj hj2 hne hl hl2
          rcases (Array.get?_setTrue hilt).1 hl with rfl | hl3
          · rcases (Array.get?_setTrue hilt).1 hl2 with rfl | hl4
            · exact absurd rfl hne
            · simp only [if_true, if_neg (Ne.symm hne)]
              obtain ⟨b, h1, h2, _⟩ := hfr hj
              obtain ⟨b2, h3, h4⟩ := hI.frA j2 hj2 hl4
              rw [h1, h3]; intro e; cases e; omega
          · have hji : j ≠ i := fun e => by rw [e, hnl'] at hl3; cases hl3
            rcases (Array.get?_setTrue hilt).1 hl2 with rfl | hl4
            · simp only [if_true, if_neg hji]
              obtain ⟨b, h1, h2, _⟩ := hfr hj2
              obtain ⟨b2, h3, h4⟩ := hI.frA j hj hl3
              rw [h1, h3]; intro e; cases e; omega
            · have hji2 : j2 ≠ i := fun e => by rw [e, hnl'] at hl4; cases hl4
              simp only [if_neg hji, if_neg hji2]
              exact hI.neA j j2 hj hj2 hne hl3 hl4
    unfold wpOp
    rw [ho]
    show if Region.wanted ops[i] (yielded ops a.tmps) = true then _ else _
    have hsel := (hok _ _ ho).sel
    have hEx : execOp a.eval ops[i] = execOp (putAll (ops.toList.take i) V 0 a0).eval ops[i] :=
      execOp_congr ops[i] hsel (fun x hx => eval_congr_get (fun t ht => hlook t (by
        subst ht
        exact List.mem_append_left _ (List.mem_filterMap.2 ⟨.tmp t, by simpa using hx, rfl⟩))))
    rw [yielded_congr hlook]
    split
    · rename_i hw
      left
      have hgo := hgo (fun b w' => ∃ v, b = (putAll (ops.toList.take i) V 0 a0).put ops[i].dst v ∧ G w w' ∧ ((posts V).getD i (fun _ _ => True)) v w' ∧ fr A i w v w') (fun v w' h1 h2 h3 => ⟨v, rfl, h1, h2, by rwa [Nat.zero_add] at h3⟩)
      rw [if_pos hw] at hgo
      exact wp_carry (R := fun v w' => G w w' ∧ ((posts V).getD i (fun _ _ => True)) v w' ∧ fr A i w v w') hEx (by rw [hI.tmps, putAll_size]) hgo
        (fun v w' ⟨h1, h2, h3⟩ => hnext v w' ⟨hC w w' hI.c h1, fun j v hj => postsKept_at (posts V) (hP V) j v w w' hj h1, hG w w' h1, h3⟩ h2)
    · rename_i hw
      have hgo := hgo (fun b w' => ∃ v, b = (putAll (ops.toList.take i) V 0 a0).put ops[i].dst v ∧ (C w' ∧ (∀ j v, ((posts V).getD j (fun _ _ => True)) v w → ((posts V).getD j (fun _ _ => True)) v w') ∧ w.heap.size ≤ w'.heap.size ∧ fr A i w v w') ∧ ((posts V).getD i (fun _ _ => True)) v w')
        (fun v w' h1 h2 h3 => ⟨v, rfl, ⟨hC w w' hI.c h1, fun j v hj => postsKept_at (posts V) (hP V) j v w w' hj h1, hG w w' h1, by rwa [Nat.zero_add] at h3⟩, h2⟩)
      rw [if_neg hw] at hgo
      obtain ⟨v, h1, h2, h3⟩ := hgo
      have e : a.put ops[i].dst undef = a.put ops[i].dst v := by
        cases hd : ops[i].dst with
        | none => rfl
        | some d =>
          rw [hd] at h1
          have hlt : d < (putAll (ops.toList.take i) V 0 a0).tmps.size := by rw [putAll_size, hN]; exact (hok _ _ ho).dst d hd
          have := congrArg (fun x : Act => x.tmps[d]?) h1
          simp only [put_get hlt] at this
          rw [Option.some.inj this]
      rw [e]
      exact hnext v w h2 h3

theorem wp_region_ug_tail {id : Nat} {Q : Exit → Act → World → Prop} {w0 : World} (T : Nat) (C : World → Prop) (G : World → World → Prop) (posts : (Nat → Value) → List (Value → World → Prop)) (A : List Nat) (dl : List (List Nat)) (N : Nat)
    (hm : P.follows .mixedOrders = true) (hN : a0.tmps.size = N)
    (hchk : (rgCheck ops dl N && decide (T < ops.size) && Region.sinkB .any ops T && Region.chainB .any ops T && Region.seqB .any ops (ops.size - T) T ((Array.range ops.size).map (fun i => decide (i < T)))) = true) (hpl : ∀ V, (posts V).length = T)
    (hC0 : C w0.drew) (hC : ∀ w w', C w → G w w' → C w') (hG : ∀ w w', G w w' → w.heap.size ≤ w'.heap.size) (hP : ∀ V, postsKept G (posts V)) (hPc : ∀ V i v j, i ∉ dl.getD j [] → (posts (fun k => if k = i then v else V k)).getD j (fun _ _ => True) = (posts V).getD j (fun _ _ => True)) (hgoals : ∀ V, ugGoals P ops C G (posts V) A V (ops.toList.take T) (posts V) dl 0 a0)
    (hQ : ∀ V w, C w → postsHold V w (posts V) 0 → (∀ i j, i < (posts V).length → j < (posts V).length → A.contains i = true → A.contains j = true → i ≠ j → blkOf (V i) ≠ blkOf (V j)) → wpList P ops Q (ops.toList.drop T) (putAll (ops.toList.take T) V 0 a0) w) : (Code.region id ops true).wp P Q a0 w0 := by
  simp only [Bool.and_eq_true, decide_eq_true_eq] at hchk
  obtain ⟨⟨⟨⟨h1, hT⟩, h2⟩, h3⟩, h4⟩ := hchk
  obtain ⟨hdl, hok⟩ := rgOk_of_check h1
  have inv0 : HeadInv .any ops T (Array.replicate ops.size false) :=
    ⟨by simp, fun j oj _ hl => (by rw [getD_replicate_false] at hl; cases hl), fun t _ ht => getD_in (by simpa using ht) (getD_replicate_false _ _)⟩
  have hcnt : (List.range T).countP (fun i => (Array.replicate ops.size false)[i]? != some true) = T := by
    have : (List.range T).countP (fun i => (Array.replicate ops.size false)[i]? != some true) = (List.range T).length := by
      rw [List.countP_eq_length]
      intro i hi
      simp [Array.getElem?_replicate]
    rw [this]; simp
  have := ug_walk_tail (Q := Q) hN hok hdl hpl hT h2 h3 h4 hC hG hP hPc hgoals hQ T _ a0 _ (fun _ => undef) hcnt inv0 ⟨by simp, rfl, rfl, hC0, ?_, ?_, fun _ _ => rfl, ?_, ?_, ?_⟩
  · refine wp_region_any hm ?_
    rw [show T + (ops.size - T) = ops.size by omega] at this
    exact this
  · intro j o hj hl
    simp [Array.getElem?_replicate] at hl
  · intro j o hj hl
    simp [Array.getElem?_replicate] at hl
  · intro j o hj hl
    simp [Array.getElem?_replicate] at hl
  · intro j hj hl
    simp [Array.getElem?_replicate] at hl
  · intro j j2 hj hj2 hne hl
    simp [Array.getElem?_replicate] at hl
end
end Go.Proofs.Ytcmdajkkdognfaa

namespace Go.Proofs.Ytcmdajkkdognfaa
open Go.RowKit
set_option linter.unusedVariables false
set_option linter.unusedSimpArgs false

/-- A slice that can be read: its elements, of k cells each. -/
def RdS {α : Type} (k : Nat) (V : α → List Value) (w : World) (a : Option Addr) (l : List α) : Prop :=
  ∀ j x, l[j]? = some x → ∃ b off, a = some ⟨b, off, none⟩ ∧ b < w.heap.size ∧ ∀ i u, (V x)[i]? = some u → w.cell? ⟨b, off + j * k + i, none⟩ = some u

theorem RdS.ext {α : Type} {k : Nat} {V : α → List Value} {w w' : World} {a : Option Addr} {l : List α} (h : RdS k V w a l) (hb : Below w.heap.size w w') : RdS k V w' a l := by
  intro j x hx
  obtain ⟨b, off, ha, hl, hc⟩ := h j x hx
  exact ⟨b, off, ha, Nat.lt_of_lt_of_le hl hb.size, fun i u hu => (hb.cell (p := ⟨b, off + j * k + i, none⟩) hl).trans (hc i u hu)⟩

theorem RdS.nil {α : Type} {k : Nat} {V : α → List Value} {w : World} {a : Option Addr} : RdS k V w a ([] : List α) := by
  intro j x hx; cases hx

theorem RdS.of_arg {α : Type} {k : Nat} {V : α → List Value} {F : World → α → Prop} {w : World} {d : Sl α} (h : fSl k V F w d) : RdS k V w d.at' d.list := by
  intro j x hx
  have hj : j < d.len := by
    have := (List.getElem?_eq_some_iff.1 hx).1
    rwa [Sl.list_length] at this
  rw [Sl.list_get d hj] at hx
  cases hx
  obtain ⟨_, b, off, ha, hl, hc⟩ := h.2.2.2 j hj
  exact ⟨b, off, ha, hl, hc⟩

/-- One element. -/
theorem RdS.at {α : Type} {k : Nat} {V : α → List Value} {w : World} {a : Option Addr} {l : List α} (h : RdS k V w a l) {j : Nat} {x : α} (hj : l[j]? = some x) : ∃ b off, a = some ⟨b, off, none⟩ ∧ b < w.heap.size ∧ cellsAt w b (off + j * k) (V x) := by
  obtain ⟨b, off, ha, hl, hc⟩ := h j x hj
  exact ⟨b, off, ha, hl, hc⟩

theorem cellsAt_cell {w : World} {b o i q : Nat} {cs : List Value} {v : Value} (h : cellsAt w b o cs) (hi : cs[i]? = some v) (hq : o + i = q) : w.cell? ⟨b, q, none⟩ = some v := by
  subst hq; exact h i v hi
theorem cellsAt_below {w w' : World} {b o B : Nat} {cs : List Value} (h : cellsAt w b o cs) (hb : Below B w w') (hl : b < B) : cellsAt w' b o cs := fun j v hv => (hb.cell (p := ⟨b, o + j, none⟩) hl).trans (h j v hv)

theorem getElem_flatMap {α : Type} {k : Nat} {V : α → List Value} (hk : ∀ x, (V x).length = k) : ∀ (l : List α) (j i : Nat) (x : α), l[j]? = some x → i < k → (l.flatMap V)[j * k + i]? = (V x)[i]?
  | [], _, _, _, h, _ => by cases h
  | y :: l, 0, i, x, h, hi => by
    simp at h; subst h
    simp only [List.flatMap_cons]
    rw [Nat.zero_mul, Nat.zero_add, List.getElem?_append_left (by rw [hk]; exact hi)]
  | y :: l, j + 1, i, x, h, hi => by
    simp at h
    simp only [List.flatMap_cons]
    rw [List.getElem?_append_right (by rw [hk, Nat.add_mul]; omega), hk, show (j + 1) * k + i - k = j * k + i by rw [Nat.add_mul]; omega]
    exact getElem_flatMap hk l j i x h hi

theorem length_flatMap {α : Type} {k : Nat} {V : α → List Value} (hk : ∀ x, (V x).length = k) (l : List α) : (l.flatMap V).length = l.length * k := by
  induction l with
  | nil => simp
  | cons x l ih => simp only [List.flatMap_cons, List.length_append, List.length_cons, ih, hk, Nat.add_mul]; omega

/-- A row that the call owns: its elements, of k cells each. -/
def Row {α : Type} (k : Nat) (V : α → List Value) (e base : Nat) (w : World) (v : Value) (l : List α) : Prop := w.ownsRow base e k v l.length (l.flatMap V)

section
variable {α : Type} {k : Nat} {V : α → List Value} {e base : Nat} {w w' : World} {v : Value} {l : List α}

theorem Row.nil : Row k V e base w (.slice none 0 0) ([] : List α) := World.ownsRow_nil _ _ _ _
theorem Row.slice (h : Row k V e base w v l) : ∃ a c, v = .slice a l.length c ∧ l.length ≤ c ∧ c ≤ maxLen := by
  rcases h.2 with ⟨rfl, h0⟩ | ⟨g, cap, cur, rfl, _, _, hc, hm, _, _⟩
  · exact ⟨none, 0, by rw [h0], by omega, by unfold maxLen; omega⟩
  · exact ⟨_, cap, rfl, hc, hm⟩
theorem Row.some {a : Option Addr} {n c : Nat} (h : Row k V e base w (.slice a n c) l) (h0 : 0 < l.length) : ∃ g, a = some ⟨g, 0, none⟩ ∧ base ≤ g ∧ g < w.heap.size := by
  rcases h.2 with ⟨_, h1⟩ | ⟨g, cap, cur, hv, hb, hg, _⟩
  · omega
  · simp at hv; exact ⟨g, hv.1, hb, blk_lt hg⟩
theorem Row.rd {a : Option Addr} {n c : Nat} (hk : ∀ x, (V x).length = k) (h : Row k V e base w (.slice a n c) l) : RdS k V w a l := by
  intro j x hx
  have hj := (List.getElem?_eq_some_iff.1 hx).1
  rcases h.2 with ⟨_, h1⟩ | ⟨g, cap, cur, hv, hb, hg, _, _, hs, ht⟩
  · omega
  · simp at hv
    refine ⟨g, 0, hv.1, blk_lt hg, fun i u hu => ?_⟩
    have hik : i < k := by
      have := (List.getElem?_eq_some_iff.1 hu).1
      rwa [hk] at this
    rw [Nat.zero_add, cell_of_row w g _ cur e (0, 0) hg]
    have h2 := getElem_flatMap hk l j i x hx hik
    rw [hu, ← ht, List.getElem?_take] at h2
    split at h2
    · simpa using h2
    · cases h2
theorem Row.lt (h : Row k V e base w v l) : ∀ q, v.ownBlock = Option.some q → base ≤ q ∧ q < w.heap.size := World.ownsRow.lt h
theorem Row.ext (h : Row k V e base w v l) (hb : Below w.heap.size w w') : Row k V e base w' v l := h.kept (below_grown (r := none) hb) (by cases v.ownBlock <;> simp)
theorem Row.grown {c : Nat} (h : Row k V e base w v l) (hg : w.grownBy w' (Option.some c)) (hne : v.ownBlock ≠ Option.some c) : Row k V e base w' v l :=
  h.kept hg (by cases hv : v.ownBlock with | none => exact .inl rfl | some q => exact .inr (by rw [← hv]; exact hne))
theorem Row.grown' {v' : Value} (h : Row k V e base w v l) (hg : w.grownBy w' v'.ownBlock) (hne : ∀ q, v.ownBlock = Option.some q → v'.ownBlock ≠ Option.some q) : Row k V e base w' v l :=
  h.kept hg (by cases hv : v.ownBlock with | none => exact .inl rfl | some q => exact .inr (fun e => hne q hv e.symm))
theorem Row.of_new {b : Nat} {cs : Array Value} (hb : w.heap[b]? = Option.some (.cells cs e (0, 0))) (hbase : base ≤ b) (hcs : cs.toList = l.flatMap V) (hl : l.length * k = cs.size) (hm : l.length ≤ maxLen) : Row k V e base w (.slice (Option.some ⟨b, 0, none⟩) l.length l.length) l := by
  refine ⟨by rw [← hcs, hl]; simp, .inr ⟨b, l.length, cs, rfl, hbase, hb, Nat.le_refl _, hm, hl.symm, ?_⟩⟩
  rw [hl, hcs.symm, ← Array.length_toList, List.take_length]
theorem Row.cut {a : Option Addr} {n c m : Nat} (hk : ∀ x, (V x).length = k) (h : Row k V e base w (.slice a n c) l) (hn : n = l.length) (h0 : 0 < n) (hm : m ≤ n) : Row k V e base w (.slice a m c) (l.take m) := by
  subst hn
  have h2 := ownsRow_cut h hm h0
  have h3 : (l.flatMap V).take (m * k) = (l.take m).flatMap V := by
    clear h h2 h0
    induction l generalizing m with
    | nil => simp
    | cons x l ih =>
      cases m with
      | zero => simp
      | succ m =>
        simp only [List.flatMap_cons, List.take_succ_cons]
        rw [List.take_append, hk, show (m + 1) * k - k = m * k by rw [Nat.add_mul]; omega, ih (by simpa using hm), List.take_of_length_le (by rw [hk, Nat.add_mul]; omega)]
  unfold Row
  rw [List.length_take, Nat.min_eq_left hm, ← h3]
  exact h2
theorem Row.rebase {base' : Nat} (h : Row k V e base w v l) (hb : base' ≤ base) : Row k V e base' w v l :=
  ⟨h.1, h.2.imp id fun ⟨g, cap, cur, hv, hg, r⟩ => ⟨g, cap, cur, hv, Nat.le_trans hb hg, r⟩⟩
theorem Row.ne_type {b T : Nat} {cs : Array Value} (h : Row k V e base w v l) (hb : w.heap[b]? = Option.some (.cells cs T (0, 0))) (hne : (e == T) = false) : v.ownBlock ≠ Option.some b := by
  intro hv
  rcases h.2 with ⟨rfl, _⟩ | ⟨g, cap, cur, rfl, _, hg, _⟩
  · simp [Value.ownBlock] at hv
  · simp [Value.ownBlock] at hv
    subst hv
    rw [hb] at hg
    simp at hg hne
    exact hne hg.2.symm
theorem Row.ne_base {b : Nat} (h : Row k V e base w v l) (hb : b < base) : v.ownBlock ≠ Option.some b := fun hv => by have := (h.lt b hv).1; omega
theorem Row.ne_row {β : Type} {k2 e2 base2 : Nat} {V2 : β → List Value} {v2 : Value} {l2 : List β} (h : Row k V e base w v l) (h2 : Row k2 V2 e2 base2 w v2 l2) (hne : (e == e2) = false) : ∀ q, v.ownBlock = Option.some q → v2.ownBlock ≠ Option.some q := by
  intro q h1 h3
  rcases h.2 with ⟨rfl, _⟩ | ⟨g, cap, cur, rfl, _, hg, _⟩
  · simp [Value.ownBlock] at h1
  · simp [Value.ownBlock] at h1
    subst h1
    exact h2.ne_type hg (by
      simp at hne ⊢
      exact fun e => hne e.symm) h3
end

theorem blk_row' {b : Nat} {w w' : World} {v : Value} {o : Obj} (h : w.heap[b]? = some o) (hg : w.grownBy w' v.ownBlock) (hne : v.ownBlock ≠ some b) : w'.heap[b]? = some o :=
  (hg.block b (blk_lt h) (fun e => hne e.symm)).trans h
theorem Row.caps {α : Type} {k e base n c : Nat} {V : α → List Value} {w : World} {a : Option Addr} {l : List α} (h : Row k V e base w (.slice a n c) l) : n = l.length ∧ n ≤ c ∧ c ≤ 9223372036854775807 := by
  obtain ⟨a', c', hv, h1, h2⟩ := h.slice
  simp at hv
  obtain ⟨_, rfl, rfl⟩ := hv
  unfold maxLen at h2
  exact ⟨rfl, h1, by omega⟩
theorem Row.nocap {α : Type} {k e base n c : Nat} {V : α → List Value} {w : World} {a : Option Addr} {l : List α} (h : Row k V e base w (.slice a n c) l) (ha : a = none) : c = 0 := by
  rcases h.2 with ⟨hv, _⟩ | ⟨g, cap, cur, hv, _⟩
  · simp at hv; exact hv.2.2
  · simp at hv; rw [ha] at hv; cases hv.1
theorem Row.relen {α : Type} {k e base n c : Nat} {V : α → List Value} {w : World} {a : Option Addr} {l : List α} (h : Row k V e base w (.slice a n c) l) : Row k V e base w (.slice a l.length c) l := by
  obtain ⟨rfl, _⟩ := h.caps
  exact h
theorem row_below {α : Type} {k e base B : Nat} {V : α → List Value} {w w' : World} {v : Value} {l : List α} (h : Row k V e base w v l) (hg : w.grownBy w' v.ownBlock) (hB : B ≤ w.heap.size) (hb : B ≤ base) : Below B w w' :=
  (Below.refl B w).grown hg hB (fun q hq => Nat.le_trans hb (h.lt q hq).1)

section
variable {P : Program} {L : List (Nat × Value)} {w : World} {d : Option Tmp} {ty : TypeId} {ps : String} {af : Array Edge} {g : Option (Nat × Bool)}

theorem bi_run {L : List (Nat × Value)} {bi : Builtin} {xs : Array Operand} {tys : Array TypeId} {vs : List Value} {f : Array TypeId → TypeId → Array Value → Sem Value} {v : Value} {w w' : World} (hb : ∀ at_ t c vs, builtin bi at_ t c vs = (do pure (Next.value (← f at_ t vs)))) (hv : xs.toList.map (evO L) = vs.map some) (hr : (f tys ty vs.toArray).run P w = .ok v w') :
    Runs P L ⟨d, .call { callee := .builtin bi, args := xs, argTypes := tys }, ty, ps, af, g⟩ w v w' := by
  intro ρ hρ
  have he : xs.map ρ = vs.toArray := by
    apply Array.ext'
    simp only [Array.toList_map]
    have : ∀ (l : List Operand) (us : List Value), l.map (evO L) = us.map some → l.map ρ = us := by
      intro l
      induction l with
      | nil => intro us h; cases us with | nil => rfl | cons u us => simp at h
      | cons x l ih =>
        intro us h
        cases us with
        | nil => simp at h
        | cons u us =>
          simp only [List.map_cons, List.cons.injEq] at h ⊢
          exact ⟨hρ x u h.1, ih us h.2⟩
    exact this _ _ hv
  simp only [execOp, resolve, he]
  simp [invoke, hb, hr]

/-- One slice appended to a row. -/
theorem d_append {α : Type} {V : α → List Value} {t e bytes k base n m c c2 : Nat} {z : Value} {s x : Operand} {a a2 : Option Addr} {l news : List α} (hk : ∀ x, (V x).length = k) (h1 : ∀ x, ∀ u ∈ V x, u.oneCell' = true) (hs : evO L s = some (.slice a n c)) (hx : evO L x = some (.slice a2 m c2)) (ht : P.underlying t = some (.slice e))
    (hi : (P.info? e).map (fun i => (i.zero, i.size, i.bytes)) = some (some z, k, bytes)) (hz : z.cells.size = k) (h0 : Nat.blt 0 k = true) (hb1 : Nat.ble 1 bytes = true)
    (hrow : Row k V e base w (.slice a n c) l) (hrd : RdS k V w a2 news) (hm : m = news.length) (hnil : a2 = none → c2 = 0) (hbytes : (l.length + news.length) * bytes ≤ 140737488355328) (hbase : base ≤ w.heap.size) :
    Does P L ⟨d, .call { callee := .builtin .append, args := #[s, x], argTypes := #[t, t] }, ty, ps, af, g⟩ w (fun v' w' => Row k V e base w' v' (l ++ news) ∧ w.grownBy w' (Value.slice a n c).ownBlock) := by
  obtain ⟨i, hii, hz0, hs0, hby⟩ := info_parts hi
  have hk0 : 0 < k := by simpa [Nat.blt_eq] using h0
  have hb1' : 1 ≤ bytes := by simpa [Nat.ble_eq] using hb1
  have hle : l.length + news.length ≤ (l.length + news.length) * bytes := Nat.le_mul_of_pos_right _ hb1'
  have hnl : n = l.length := by
    obtain ⟨a', c', hv, _⟩ := hrow.slice
    simp at hv; exact hv.2.1
  cases a2 with
  | none =>
    have hm0 : news = [] := by
      cases news with
      | nil => rfl
      | cons y ys =>
        obtain ⟨b, off, ha, _⟩ := hrd 0 y rfl
        cases ha
    subst hm0
    obtain rfl : m = 0 := by simpa using hm
    obtain rfl : c2 = 0 := hnil rfl
    refine Runs.does (v := .slice a n c) (w' := w) (bi_run (f := Builtin.append_) (vs := [.slice a n c, .slice none 0 0]) (fun _ _ _ _ => rfl) (by simp [hs, hx]) ?_) ⟨?_, grownBy_refl _ _⟩
    · exact run_append_owned_none w base t ty e i k ht hii _ _ _ hrow
    · simpa using hrow
  | some ad =>
    cases news with
    | nil =>
      obtain rfl : m = 0 := by simpa using hm
      obtain ⟨v', w', hr, h2, h3, _⟩ := run_append_own (P := P) w base t ty e i z k bytes ht hii hz0 hs0 hby hz hk0 (.slice a n c) l.length (l.flatMap V) hrow ad 0 c2 [] (by simp) (fun j u hj => by cases hj) (by simp) (by unfold maxLen; simp at hle hbytes; omega) (by simpa using hbytes) hbase
      refine Runs.does (v := v') (w' := w') (bi_run (f := Builtin.append_) (vs := [.slice a n c, .slice (some ad) 0 c2]) (fun _ _ _ _ => rfl) (by simp [hs, hx]) hr) ⟨?_, h3⟩
      unfold Row
      simpa using h2
    | cons y ys =>
      obtain ⟨b, off, ha, hl, _⟩ := hrd 0 y rfl
      cases ha
      have hcells : ∀ j u, ((y :: ys).flatMap V)[j]? = some u → w.cell? ((⟨b, off, none⟩ : Addr).add j) = some u := by
        intro j u hj
        have hjl : j < (y :: ys).length * k := by
          have := (List.getElem?_eq_some_iff.1 hj).1
          rwa [length_flatMap hk] at this
        have hq : j / k < (y :: ys).length := Nat.div_lt_of_lt_mul (by rw [Nat.mul_comm]; exact hjl)
        have hr : j % k < k := Nat.mod_lt _ hk0
        have hjk : j / k * k + j % k = j := by rw [Nat.mul_comm]; exact Nat.div_add_mod j k
        obtain ⟨b', off', ha, _, hc⟩ := hrd (j / k) _ (List.getElem?_eq_getElem hq)
        cases ha
        rw [Addr.add_lit]
        have h2 := getElem_flatMap hk (y :: ys) (j / k) (j % k) _ (List.getElem?_eq_getElem hq) hr
        rw [hjk, hj] at h2
        have h3 := hc (j % k) u h2.symm
        rw [show off + j / k * k + j % k = off + j by omega] at h3
        exact h3
      obtain ⟨v', w', hr, h2, h3, _⟩ := run_append_own (P := P) w base t ty e i z k bytes ht hii hz0 hs0 hby hz hk0 (.slice a n c) l.length (l.flatMap V) hrow ⟨b, off, none⟩ m c2 ((y :: ys).flatMap V) (by rw [length_flatMap hk, hm]) hcells
        (fun u hu => by obtain ⟨q, _, hq⟩ := List.mem_flatMap.1 hu; exact h1 q u hq) (by unfold maxLen; omega) (by rw [hm]; exact hbytes) hbase
      refine Runs.does (v := v') (w' := w') (bi_run (f := Builtin.append_) (vs := [.slice a n c, .slice (some ⟨b, off, none⟩) m c2]) (fun _ _ _ _ => rfl) (by simp [hs, hx]) hr) ⟨?_, h3⟩
      unfold Row
      rw [List.flatMap_append, List.length_append, ← hm]
      exact h2

end

theorem retCT {P : Program} {fn : Func} {R : Ending → World → Prop} {a : Act} {w : World} {N : Nat} {L : List (Nat × Value)} {p t : Tmp} {T T2 : TypeId} {b : Nat} {cs : Array Value} {fr : Nat × Nat} {td : TypeDesc} {v : Value} (hf : Fr N a L) (hr : fn.results = #[.cell p T, .tmp t]) (hp : lk L p = some (.pointer (some ⟨b, 0, none⟩)))
    (hb : w.heap[b]? = some (.cells cs T2 fr)) (hu : P.underlying T = some td) (hd : plainT td = false) (hi : (P.info? T).map (·.size) = some cs.size) (ht : lk L t = some v) (hR : R (.returned (.tuple #[.agg cs, v])) w) : bodyPost P fn R .ret a w := by
  refine bodyPost_ret (v := .tuple #[.agg cs, v]) ?_ hf.defers hR
  have hl := run_loadVar_row (P := P) w b T2 T cs fr td hb hu (by cases td <;> simp_all [plainT]) hi
  simp [results, hr, hf.has p _ hp, hf.has t _ ht, asAddr, hl]

/- A REGION WHOSE ORDER IS OPEN. -/
section
variable {P : Program} {ops : Array Oper} {C : World → Prop} {G : World → World → Prop} {posts : (Nat → Value) → List (Value → World → Prop)} {A : List Nat} {dl : List (List Nat)} {N : Nat} {a0 : Act} {L0 : List (Nat × Value)}

def unOp (P : Program) (ops : Array Oper) (L : List (Nat × Value)) (o : Oper) (w : World) (R : Value → World → Prop) : Prop :=
  match o.guard with
  | none => Does P L o w R
  | some (g, want) => ∃ ag c, yl ops L g = some (gb ag (.bool c)) ∧ ((ag && (c == want)) = true → Does P L o w R) ∧ ((ag && (c == want)) = false → R undef w)

def unGoals (P : Program) (ops : Array Oper) (C : World → Prop) (G : World → World → Prop) (all : List (Value → World → Prop)) (A : List Nat) (V : Nat → Value) : List Oper → List (Value → World → Prop) → List (List Nat) → Nat → List (Nat × Value) → Prop
  | o :: os, p :: ps, d :: ds, i, L => (∀ w, C w → depsHold V all w d → unOp P ops L o w (fun v w' => G w w' ∧ p v w' ∧ fr A i w v w')) ∧ unGoals P ops C G all A V os ps ds (i + 1) (ins o.dst (V i) L)
  | _, _, _, _, _ => True

theorem nofr {i : Nat} {w w' : World} {v : Value} (h : A.contains i = false) : fr A i w v w' := fun h2 => by rw [h] at h2; cases h2
theorem isfr {i b : Nat} {w w' : World} {v : Value} (h : blkOf v = some b) (h1 : w.heap.size ≤ b) (h2 : b < w'.heap.size) : fr A i w v w' := fun _ => ⟨b, h, h1, h2⟩

def insAll : List Oper → (Nat → Value) → Nat → List (Nat × Value) → List (Nat × Value)
  | [], _, _, L => L
  | o :: os, V, i, L => insAll os V (i + 1) (ins o.dst (V i) L)

theorem un_rg {V : Nat → Value} : ∀ (os : List Oper) (ps : List (Value → World → Prop)) (ds : List (List Nat)) (i : Nat) (L : List (Nat × Value)) (a : Act), Fr N a L → (∀ o ∈ os, dstOk N o.dst = true) → unGoals P ops C G (posts V) A V os ps ds i L → ugGoals P ops C G (posts V) A V os ps ds i a
  | [], _, _, _, _, _, _, _, _ => trivial
  | _ :: _, [], _, _, _, _, _, _, _ => trivial
  | _ :: _, _ :: _, [], _, _, _, _, _, _ => trivial
  | o :: os, p :: ps, d :: ds, i, L, a, hf, hd, h => by
    refine ⟨fun w hC hdp K hK => ?_, un_rg os ps ds (i + 1) _ _ (hf.ins (V i) (hd o (by simp))) (fun o' ho => hd o' (by simp [ho])) h.2⟩
    have h1 := h.1 w hC hdp
    unfold unOp at h1
    cases hg : o.guard with
    | none =>
      rw [hg] at h1
      have hw : Region.wanted o (yielded ops a.tmps) = true := by simp [Region.wanted, hg]
      rw [if_pos hw]
      exact h1 a K _ (fun x v e => hf.ev e) (fun v w' hr => hK v w' hr.1 hr.2.1 hr.2.2)
    | some gw =>
      obtain ⟨g, want⟩ := gw
      rw [hg] at h1
      obtain ⟨ag, c, hy, ht, hfl⟩ := h1
      rw [wanted_of hf hg hy]
      cases hact : (ag && (c == want)) with
      | true => rw [if_pos rfl]; exact ht hact a K _ (fun x v e => hf.ev e) (fun v w' hr => hK v w' hr.1 hr.2.1 hr.2.2)
      | false => rw [if_neg (by simp)]; exact hK _ _ (hfl hact).1 (hfl hact).2.1 (hfl hact).2.2

theorem un_fr {V : Nat → Value} : ∀ (os : List Oper) (i : Nat) (L : List (Nat × Value)) (a : Act), Fr N a L → (∀ o ∈ os, dstOk N o.dst = true) → Fr N (putAll os V i a) (insAll os V i L)
  | [], _, _, _, hf, _ => hf
  | o :: os, i, L, a, hf, hd => un_fr os (i + 1) _ _ (hf.ins (V i) (hd o (by simp))) (fun o' ho => hd o' (by simp [ho]))

theorem wp_region_un {id : Nat} {Q : Exit → Act → World → Prop} {w0 : World} (C : World → Prop) (G : World → World → Prop) (posts : (Nat → Value) → List (Value → World → Prop)) (A : List Nat) (dl : List (List Nat)) (hf : Fr N a0 L0)
    (hm : P.follows .mixedOrders = true) (hchk : (rgCheck ops dl N && ops.toList.all (fun o => dstOk N o.dst)) = true) (hpl : ∀ V, (posts V).length = ops.size)
    (hC0 : C w0.drew) (hC : ∀ w w', C w → G w w' → C w') (hG : ∀ w w', G w w' → w.heap.size ≤ w'.heap.size) (hP : ∀ V, postsKept G (posts V)) (hPc : ∀ V i v j, i ∉ dl.getD j [] → (posts (fun k => if k = i then v else V k)).getD j (fun _ _ => True) = (posts V).getD j (fun _ _ => True)) (hgoals : ∀ V, unGoals P ops C G (posts V) A V ops.toList (posts V) dl 0 L0)
    (hQ : ∀ V w a, C w → postsHold V w (posts V) 0 → (∀ i j, i < (posts V).length → j < (posts V).length → A.contains i = true → A.contains j = true → i ≠ j → blkOf (V i) ≠ blkOf (V j)) → Fr N a (insAll ops.toList V 0 L0) → Q .normal a w) : (Code.region id ops true).wp P Q a0 w0 := by
  rw [Bool.and_eq_true, List.all_eq_true] at hchk
  exact wp_region_ug C G posts A dl N hm hf.size hchk.1 hpl hC0 hC hG hP hPc (fun V => un_rg _ _ _ _ _ _ hf hchk.2 (hgoals V)) (fun V w hc hp hn => hQ V w _ hc hp hn (un_fr _ _ _ _ hf hchk.2))

theorem wp_region_unT {id : Nat} {Q : Exit → Act → World → Prop} {w0 : World} (T : Nat) (C : World → Prop) (G : World → World → Prop) (posts : (Nat → Value) → List (Value → World → Prop)) (A : List Nat) (dl : List (List Nat)) (hf : Fr N a0 L0)
    (hm : P.follows .mixedOrders = true)
    (hchk : (rgCheck ops dl N && decide (T < ops.size) && Region.sinkB .any ops T && Region.chainB .any ops T && Region.seqB .any ops (ops.size - T) T ((Array.range ops.size).map (fun i => decide (i < T)))) = true) (hdst : ops.toList.all (fun o => dstOk N o.dst) = true) (hpl : ∀ V, (posts V).length = T)
    (hC0 : C w0.drew) (hC : ∀ w w', C w → G w w' → C w') (hG : ∀ w w', G w w' → w.heap.size ≤ w'.heap.size) (hP : ∀ V, postsKept G (posts V)) (hPc : ∀ V i v j, i ∉ dl.getD j [] → (posts (fun k => if k = i then v else V k)).getD j (fun _ _ => True) = (posts V).getD j (fun _ _ => True)) (hgoals : ∀ V, unGoals P ops C G (posts V) A V (ops.toList.take T) (posts V) dl 0 L0)
    (hQ : ∀ V w a, C w → postsHold V w (posts V) 0 → (∀ i j, i < (posts V).length → j < (posts V).length → A.contains i = true → A.contains j = true → i ≠ j → blkOf (V i) ≠ blkOf (V j)) → Fr N a (insAll (ops.toList.take T) V 0 L0) → wpList P ops Q (ops.toList.drop T) a w) : (Code.region id ops true).wp P Q a0 w0 := by
  rw [List.all_eq_true] at hdst
  exact wp_region_ug_tail T C G posts A dl N hm hf.size hchk hpl hC0 hC hG hP hPc (fun V => un_rg _ _ _ _ _ _ hf (fun o ho => hdst o (List.mem_of_mem_take ho)) (hgoals V)) (fun V w hc hp hn => hQ V w _ hc hp hn (un_fr _ _ _ _ hf (fun o ho => hdst o (List.mem_of_mem_take ho))))

/-- Two new blocks are two. -/
theorem two_blk {V : Nat → Value} {n i j b c : Nat} (h : ∀ i j, i < n → j < n → A.contains i = true → A.contains j = true → i ≠ j → blkOf (V i) ≠ blkOf (V j)) (hi : Nat.blt i n = true) (hj : Nat.blt j n = true) (ha : A.contains i = true) (hb : A.contains j = true) (hne : Nat.beq i j = false) (h1 : blkOf (V i) = some b) (h2 : blkOf (V j) = some c) : b ≠ c := by
  intro e
  have h3 := h i j (by simpa [Nat.blt_eq] using hi) (by simpa [Nat.blt_eq] using hj) ha hb (Nat.ne_of_beq_eq_false hne)
  rw [h1, h2, e] at h3
  exact h3 rfl

theorem keptB {F : Nat → Value} {top : Nat} {O : Obj} : ∀ (v : Value) (w w' : World), (fun (x : Value) (w : World) => ∃ b, x = F b ∧ top ≤ b ∧ w.heap[b]? = some O) v w → Below w.heap.size w w' → (fun (x : Value) (w : World) => ∃ b, x = F b ∧ top ≤ b ∧ w.heap[b]? = some O) v w' := by
  rintro v w w' ⟨b, h1, h2, h3⟩ hb
  exact ⟨b, h1, h2, blk_ext h3 hb⟩
end
end Go.Proofs.Ytcmdajkkdognfaa

namespace Go.Proofs.Ytcmdajkkdognfaa
open Go.RowKit
set_option linter.unusedVariables false
set_option linter.unusedSimpArgs false

theorem flatMap_vInt (k : IntKind) (l : List Int) : l.flatMap (vInt k) = l.map (Value.int k) := by
  induction l with
  | nil => rfl
  | cons a l ih => simp only [List.flatMap_cons, List.map_cons, ih]; rfl

theorem r_rowstr {P : Program} {L : List (Nat × Value)} {w : World} {d : Option Tmp} {ty : TypeId} {ps : String} {af : Array Edge} {g : Option (Nat × Bool)} {src dst e e' base : Nat} {x : Operand} {v : Value} {l : List Int}
    (hx : evO L x = some v) (hs : P.underlying src = some (.slice e)) (he : P.underlying e = some (.int .u8)) (hd : P.underlying dst = some .string) (hr : Row 1 (vInt .u8) e' base w v l) :
    Runs P L ⟨d, .convert src dst x, ty, ps, af, g⟩ w (.string (strOfNums l)) w := by
  intro ρ hρ
  simp only [execOp, hρ x _ hx]
  unfold Row at hr
  rw [flatMap_vInt] at hr
  simp [conv_row hs he hd hr]

theorem strOfNums_size (l : List Int) : (strOfNums l).size = l.length := by unfold strOfNums; simp [ByteArray.size]

theorem act_T (ag c : Bool) : (ag && (c == true)) = (ag && c) := by cases ag <;> cases c <;> rfl
theorem cons_ev {L : List (Nat × Value)} {x : Operand} {xs : List Operand} {v : Value} {vs : List Value} (h : evO L x = some v) (hs : xs.map (evO L) = vs.map some) : (x :: xs).map (evO L) = (v :: vs).map some := by
  rw [List.map_cons, List.map_cons, h, hs]
end Go.Proofs.Ytcmdajkkdognfaa

namespace Go.Proofs.Ytcmdajkkdognfaa
open Go.RowKit
set_option linter.unusedVariables false
set_option linter.unusedSimpArgs false

/-- Two values of a type are equal, or not. -/
def EqT (P : Program) (t : TypeId) (k : Nat) (x y : Value) (b : Bool) : Prop := ∀ d w, (Op.equalIn (d + k) t x y).run P w = .ok b w
def EqF (P : Program) (k : Nat) (xs ys : Array Value) (fs : List Field) (b : Bool) : Prop := ∀ d w, (Op.eqFields (d + k) xs ys fs).run P w = .ok b w
section
variable {P : Program} {t : TypeId} {k : Nat} {xs ys : Array Value}
theorem eqt_int {kk k' : IntKind} {a b : Int} (h : P.underlying t = some (.int k')) : EqT P t (k + 1) (.int kk a) (.int kk b) (decide (a = b)) := fun d w => by
  have := run_equalIn_int (P := P) w (d + k) t kk k' a b h
  rw [show d + (k + 1) = (d + k) + 1 from rfl, this]; rfl
theorem eqt_struct {fs : Array Field} {b : Bool} (ht : P.underlying t = some (.struct fs)) (hp : P.stoodInHeld t = false) (hf : EqF P k xs ys fs.toList b) : EqT P t (k + 1) (.agg xs) (.agg ys) b := fun d w => by
  have hfo : P.fieldsOf t = fs := by unfold Program.fieldsOf; rw [ht]
  rw [show d + (k + 1) = (d + k) + 1 from rfl, run_equalIn_struct w (d + k) t xs ys (by rw [hfo]; exact ht) hp, hfo]
  exact hf d w
theorem eqf_nil : EqF P k xs ys [] true := fun d w => by simp [Op.eqFields]
theorem eqf_cons {f : Field} {fs : List Field} {x y : Value} {r rs : Bool} (hn : (f.name != "_") = true) (hx : ∀ w, (part f.type xs f.offset).run P w = .ok x w) (hy : ∀ w, (part f.type ys f.offset).run P w = .ok y w)
    (h : EqT P f.type k x y r) (hr : EqF P k xs ys fs rs) : EqF P k xs ys (f :: fs) (r && rs) := fun d w => by
  have hn' : f.name ≠ "_" := by simpa using hn
  simp only [Op.eqFields, if_pos hn', Sem.run_bind, hx, hy, Result.andThen_ok, h d w]
  cases r
  · simp
  · simpa using hr d w
theorem eqf_one {f : Field} {x y : Value} {r : Bool} (hn : (f.name != "_") = true) (hx : ∀ w, (part f.type xs f.offset).run P w = .ok x w) (hy : ∀ w, (part f.type ys f.offset).run P w = .ok y w)
    (h : EqT P f.type k x y r) : EqF P k xs ys [f] r := by
  have := eqf_cons (fs := []) hn hx hy h eqf_nil
  rwa [Bool.and_true] at this
end
section
variable {P : Program} {L : List (Nat × Value)} {w : World} {d : Option Tmp} {ty : TypeId} {ps : String} {af : Array Edge} {g : Option (Nat × Bool)}
theorem r_aeq {t yt : TypeId} {x y : Operand} {xs ys : Array Value} {k : Nat} {b : Bool} (hx : evO L x = some (.agg xs)) (hy : evO L y = some (.agg ys)) (hm : P.eqGuardType P.depth t = false) (h : EqT P t k (.agg xs) (.agg ys) b) (hk : Nat.ble k 10000 = true) :
    Runs P L ⟨d, .binOp .eql t x y yt, ty, ps, af, g⟩ w (.bool b) w := by
  intro ρ hρ
  have hk' : 10000 - k + k = 10000 := Nat.sub_add_cancel (by simpa [Nat.ble_eq] using hk)
  have h1 := h (10000 - k) w
  rw [hk'] at h1
  simp only [execOp, hρ x _ hx, hρ y _ hy]
  simp [run_eqGuard_agg (P := P) w .eql t x y xs ys hm, run_eql_struct, h1]
end

theorem evAt {L : List (Nat × Value)} {x : Operand} {a : Option Addr} {n c b off : Nat} (h : evO L x = some (.slice a n c)) (ha : a = some ⟨b, off, none⟩) : evO L x = some (.slice (some ⟨b, off, none⟩) n c) := by rw [h, ha]
section
variable {P : Program} {fn : Func} {R : Ending → World → Prop} {a : Act} {w : World} {N : Nat} {L : List (Nat × Value)}
theorem load_cell {T T2 : TypeId} {b : Nat} {cs : Array Value} {fr : Nat × Nat} {td : TypeDesc} (hb : w.heap[b]? = some (.cells cs T2 fr)) (hu : P.underlying T = some td) (hd : plainT td = false) (hi : (P.info? T).map (·.size) = some cs.size) : Sem.run P (loadVar T { block := b, off := 0 }) w = .ok (.agg cs) w :=
  run_loadVar_row (P := P) w b T2 T cs fr td hb hu (by cases td <;> simp_all [plainT]) hi
end
section
variable {P : Program} {L : List (Nat × Value)} {w : World} {d : Option Tmp} {ty : TypeId} {ps : String} {af : Array Edge} {g : Option (Nat × Bool)}
theorem d_storeK {t T : TypeId} {x y : Operand} {b o : Nat} {cs cs' : Array Value} {v : Value} (hx : evO L x = some (.pointer (some ⟨b, o, none⟩))) (hy : evO L y = some v) (hs : (P.info? t).map (·.size) = some v.cells.size) (h1 : v.cells.toList.all (·.oneCell') = true)
    (hb : w.heap[b]? = some (.cells cs T (0, 0))) (hl : Nat.ble (o + v.cells.size) cs.size = true) (hcs : setAll cs o v.cells.toList = cs') : Does P L ⟨d, .store t x y, ty, ps, af, g⟩ w (fun _ w' => Wrote w b cs' T w') :=
  d_store hx hy hs (fun u hu => List.all_eq_true.1 h1 u hu) hb (Nat.le_of_ble_eq_true hl) hcs
end
/-- A slice's rest, for reading. -/
theorem RdS.drop {α : Type} {k : Nat} {V : α → List Value} {w : World} {b off : Nat} {l : List α} (m : Nat) (h : RdS k V w (some ⟨b, off, none⟩) l) : RdS k V w (some ⟨b, off + m * k, none⟩) (l.drop m) := by
  intro j x hx
  rw [List.getElem?_drop] at hx
  obtain ⟨b', o', ha, hl, hc⟩ := h _ x hx
  cases ha
  exact ⟨_, _, rfl, hl, fun i u hu => by rw [show off + m * k + j * k + i = off + (m + j) * k + i by rw [Nat.add_mul]; omega]; exact hc i u hu⟩
theorem RdS.take {α : Type} {k : Nat} {V : α → List Value} {w : World} {a : Option Addr} {l : List α} (m : Nat) (h : RdS k V w a l) : RdS k V w a (l.take m) := by
  intro j x hx
  rw [List.getElem?_take] at hx
  split at hx
  · exact h j x hx
  · cases hx
theorem keptX {α : Type} {k e top base : Nat} {V : α → List Value} {l : List α} {F : Value → Nat → Prop} : ∀ (v : Value) (w w' : World), (fun (x : Value) (w : World) => ∃ b, F x b ∧ top ≤ b ∧ Row k V e base w x l) v w → Below w.heap.size w w' → (fun (x : Value) (w : World) => ∃ b, F x b ∧ top ≤ b ∧ Row k V e base w x l) v w' := by
  rintro v w w' ⟨b, h1, h2, h3⟩ hb
  exact ⟨b, h1, h2, h3.ext hb⟩
end Go.Proofs.Ytcmdajkkdognfaa

namespace Go.Proofs.Ytcmdajkkdognfaa
open Go.RowKit
set_option linter.unusedVariables false
set_option linter.unusedSimpArgs false
section
variable {P : Program} {L : List (Nat × Value)} {w : World} {d : Option Tmp} {ty : TypeId} {ps : String} {af : Array Edge} {g : Option (Nat × Bool)}
end
end Go.Proofs.Ytcmdajkkdognfaa

namespace Go.Proofs.Ytcmdajkkdognfaa
open Go.RowKit
set_option linter.unusedVariables false
set_option linter.unusedSimpArgs false

/-- The bytes of a string, as numbers. -/
def nums (s : ByteArray) : List Int := s.data.toList.map fun b => ((b.toNat : Nat) : Int)
theorem nums_len (s : ByteArray) : (nums s).length = s.size := by unfold nums; rw [List.length_map, Array.length_toList]; rfl
theorem strOfNums_nums (s : ByteArray) : strOfNums (nums s) = s := by
  unfold strOfNums nums
  rw [List.map_map]
  have h : s.data.toList.map ((fun n : Int => UInt8.ofNat n.toNat) ∘ fun b : UInt8 => ((b.toNat : Nat) : Int)) = s.data.toList := by
    conv => rhs; rw [← List.map_id s.data.toList]
    apply List.map_congr_left
    intro b _
    simp
  rw [h]
theorem strOfNums_app (a b : List Int) : strOfNums (a ++ b) = strOfNums a ++ strOfNums b := by
  apply ByteArray.ext
  unfold strOfNums
  rw [ByteArray.data_append]
  simp
theorem nums_rng (s : ByteArray) : ∀ x ∈ nums s, 0 ≤ x ∧ x < 256 := by
  intro x hx
  unfold nums at hx
  obtain ⟨b, _, rfl⟩ := List.mem_map.1 hx
  have := b.toNat_lt
  omega
theorem nums_get {s : ByteArray} {j : Nat} (h : j < s.size) : (nums s)[j]? = some ((sbt s j : Nat) : Int) := by
  have hl : j < s.data.toList.length := by rw [Array.length_toList]; exact h
  unfold nums sbt
  rw [List.getElem?_map, List.getElem?_eq_getElem hl, List.getD_eq_getElem?_getD, List.getElem?_eq_getElem hl]
  rfl
theorem strCells_nums (s : ByteArray) : Lib.strCells s = (nums s).flatMap (vInt .u8) := by
  rw [flatMap_vInt]
  unfold Lib.strCells nums
  rw [List.map_map]
  rfl
section
variable {P : Program} {L : List (Nat × Value)} {w : World} {d : Option Tmp} {ty : TypeId} {ps : String} {af : Array Edge} {g : Option (Nat × Bool)}
theorem retC {fn : Func} {R : Ending → World → Prop} {a : Act} {N : Nat} {p : Tmp} {T T2 : TypeId} {b : Nat} {cs : Array Value} {fr : Nat × Nat} {td : TypeDesc} (hf : Fr N a L) (hr : fn.results = #[.cell p T]) (hp : lk L p = some (.pointer (some ⟨b, 0, none⟩)))
    (hb : w.heap[b]? = some (.cells cs T2 fr)) (hu : P.underlying T = some td) (hd : plainT td = false) (hi : (P.info? T).map (·.size) = some cs.size) (hR : R (.returned (.agg cs)) w) : bodyPost P fn R .ret a w := by
  refine bodyPost_ret (v := .agg cs) ?_ hf.defers hR
  simp [results, hr, hf.has p _ hp, asAddr, load_cell hb hu hd hi]
/-- One string appended to a row of bytes. -/
theorem d_appendS {t u e base n c : Nat} {s x : Operand} {a : Option Addr} {l : List Int} {str : ByteArray} (hs : evO L s = some (.slice a n c)) (hx : evO L x = some (.string str)) (ht : P.underlying t = some (.slice e)) (hu : P.underlying u = some .string)
    (hi : (P.info? e).map (fun i => (i.zero, i.size, i.bytes)) = some (some (.int .u8 0), 1, 1))
    (hrow : Row 1 (vInt .u8) e base w (.slice a n c) l) (hbytes : l.length + str.size ≤ 140737488355328) (hbase : base ≤ w.heap.size) :
    Does P L ⟨d, .call { callee := .builtin .append, args := #[s, x], argTypes := #[t, u] }, ty, ps, af, g⟩ w (fun v' w' => Row 1 (vInt .u8) e base w' v' (l ++ nums str) ∧ w.grownBy w' (Value.slice a n c).ownBlock) := by
  obtain ⟨i, hii, hz0, hs0, hby⟩ := info_parts hi
  obtain ⟨v', w', hr, h2, h3, _⟩ := Lib.run_append_own_string (P := P) w base t u ty e i ht hu hii hz0 hs0 hby (.slice a n c) l.length (l.flatMap (vInt .u8)) hrow str (by unfold maxLen; omega) hbytes hbase
  refine Runs.does (v := v') (w' := w') (bi_run (f := Builtin.append_) (vs := [.slice a n c, .string str]) (fun _ _ _ _ => rfl) (by simp [hs, hx]) hr) ⟨?_, h3⟩
  unfold Row
  rw [List.flatMap_append, List.length_append, nums_len, ← strCells_nums]
  exact h2
end
end Go.Proofs.Ytcmdajkkdognfaa

namespace Go.Proofs.Ytcmdajkkdognfaa
open Go.RowKit Go.ChangeShapes Go.WideShapes Go.Deep
set_option linter.unusedVariables false
set_option linter.unusedSimpArgs false

structure ReadsW (P : Program) (t : TypeId) {α : Type} (V : α → List Value) (F : World → α → Prop) : Prop where
  get : ∀ (H : Type) (enc : TypeId × Value → H) (w : World) (base : Nat) (spare : Nat → Bool) (held : Bool) (fuel : Nat) (cs : List Value) (x : DataW H × List MemPlace), DataW.trod enc P w base spare held fuel t cs = some x → (∀ n ∈ x.1.weights P t, n ≤ reachBytes) → ∃ d, cs = V d ∧ F w d
  kept : ∀ w w' d, Below w.heap.size w w' → F w d → F w' d

theorem Reads.toW {P : Program} {t : TypeId} {α : Type} {V : α → List Value} {F : World → α → Prop} (R : Reads P t V F) : ReadsW P t V F :=
  ⟨fun H enc w base spare held fuel cs x h _ => R.get H enc w base spare held fuel cs x h, R.kept⟩

structure ReadsFsW (P : Program) (fs : List Field) (o tot : Nat) {α : Type} (V : α → List Value) (F : World → α → Prop) : Prop where
  get : ∀ (H : Type) (enc : TypeId × Value → H) (w : World) (base : Nat) (spare : Nat → Bool) (held : Bool) (n : Nat) (cs : List Value) (xs : List (DataW H × List MemPlace)), cs.length = tot → xs.length = fs.length →
    (∀ (i : Nat) (f : Field), fs[i]? = some f → DataW.trod enc P w base spare held n f.type ((cs.drop f.offset).take (P.cellsOf f.type)) = xs[i]?) →
    (∀ (i : Nat) (f : Field) (x : DataW H × List MemPlace), fs[i]? = some f → xs[i]? = some x → ∀ n ∈ x.1.weights P f.type, n ≤ reachBytes) → ∃ d, cs.drop o = V d ∧ F w d
  kept : ∀ w w' d, Below w.heap.size w w' → F w d → F w' d

theorem readsFsW_nil {P : Program} {o tot : Nat} (h : o = tot) : ReadsFsW P [] o tot (fun (_ : Unit) => []) (fun _ _ => True) where
  get := by
    intro H enc w base spare held n cs xs hl hx hf hw
    exact ⟨(), List.drop_eq_nil_of_le (by omega), trivial⟩
  kept := fun _ _ _ _ h => h

theorem readsFsW_cons {P : Program} {f : Field} {fs : List Field} {o c tot : Nat} {α β : Type} {V : α → List Value} {F : World → α → Prop} {V' : β → List Value} {F' : World → β → Prop} (h0 : f.offset = o) (hc : P.cellsOf f.type = c) (R : ReadsW P f.type V F) (Rs : ReadsFsW P fs (o + c) tot V' F') :
    ReadsFsW P (f :: fs) o tot (fun (d : α × β) => V d.1 ++ V' d.2) (fun w d => F w d.1 ∧ F' w d.2) where
  get := by
    intro H enc w base spare held n cs xs hl hx hf hw
    cases xs with
    | nil => simp at hx
    | cons y ys =>
      have hh := hf 0 f rfl
      obtain ⟨d1, e1, g1⟩ := R.get H enc w base spare held n _ y (by simpa using hh) (hw 0 f y rfl rfl)
      obtain ⟨d2, e2, g2⟩ := Rs.get H enc w base spare held n cs ys hl (by simpa using hx) (fun i g hg => by simpa using hf (i + 1) g (by simpa using hg)) (fun i g x hg hx => hw (i + 1) g x (by simpa using hg) (by simpa using hx))
      refine ⟨(d1, d2), ?_, g1, g2⟩
      rw [h0, hc] at e1
      show _ = V d1 ++ V' d2
      rw [← e1, ← e2, ← List.drop_drop, List.take_append_drop]
  kept := fun w w' d hb h => ⟨R.kept w w' _ hb h.1, Rs.kept w w' _ hb h.2⟩

theorem readsW_struct {P : Program} {t : TypeId} {fs : Array Field} {tot : Nat} {α : Type} {V : α → List Value} {F : World → α → Prop} (ht : P.underlying t = some (.struct fs)) (hc : P.cellsOf t = tot) (Rs : ReadsFsW P fs.toList 0 tot V F) : ReadsW P t V F where
  get := by
    intro H enc w base spare held fuel cs x h hw
    obtain ⟨xs, n, _, hx, hl, hlen, hf⟩ := DataW.trod_struct ht h
    obtain ⟨d, e, g⟩ := Rs.get H enc w base spare held n cs xs (hl.trans hc) (by simpa using hlen) (fun i f hi => hf i f (by simpa using hi)) (fun i f y hi hy n hn => hw n (by
      rw [hx]
      simp only [DataW.weights, ht]
      exact DataW.weights_mem_each (j := i) (t := f.type) (d := y.1) (by simp [List.getElem?_map, hi]) (by simp [List.getElem?_map, hy]) n hn))
    exact ⟨d, by simpa using e, g⟩
  kept := Rs.kept

def fSlW {α : Type} (k by' : Nat) (V : α → List Value) (F : World → α → Prop) (w : World) (d : Sl α) : Prop := d.len * by' ≤ 140737488351232 ∧ fSl k V F w d

theorem weightsAll_mem {H : Type} {P : Program} {e : TypeId} : ∀ {l : List (DataW H)} {d : DataW H}, d ∈ l → ∀ n ∈ d.weights P e, n ∈ DataW.weightsAll P e l
  | a :: l, d, hd, n, hn => by
    simp only [DataW.weightsAll, List.mem_append]
    rcases List.mem_cons.1 hd with rfl | h
    · exact .inl hn
    · exact .inr (weightsAll_mem h n hn)
  | [], _, hd, _, _ => by cases hd

theorem readsW_slice {P : Program} {t e : TypeId} {k by' : Nat} {α : Type} [Inhabited α] {V : α → List Value} {F : World → α → Prop} (ht : P.underlying t = some (.slice e)) (hk : P.cellsOf e = k) (hby : P.bytesOf e = by') (h1 : 0 < k) (R : ReadsW P e V F) : ReadsW P t (vSl (α := α)) (fSlW k by' V F) where
  get := by
    intro H enc w base spare held fuel cs x h hw
    rcases open_slice ht h with ⟨rfl, _⟩ | ⟨a, len, cap, m, n, D, Pl, rfl, hb, hlc, hm, hmm, hx, hi⟩
    · exact ⟨⟨none, 0, 0, fun _ => default⟩, rfl, by simp, Nat.le_refl _, Nat.zero_le _, fun _ => rfl, fun j hj => absurd hj (by simp)⟩
    · have hml : len ≤ m := by rw [hmm]; split <;> omega
      have hwl : len * by' ≤ 140737488351232 := by
        have h2 := hw ((((List.range len).map D).length + ((List.range (m - len)).map fun j => D (len + j)).length) * P.bytesOf e) (by rw [hx]; simp [DataW.weights, ht])
        simp only [List.length_map, List.length_range, hby] at h2
        exact Nat.le_trans (Nat.mul_le_mul_right _ (Nat.le_add_right _ _)) h2
      have key : ∀ j, ∃ d, j < len → F w d ∧ ∃ b off, a = ⟨b, off, none⟩ ∧ b < w.heap.size ∧ ∀ i u, (V d)[i]? = some u → w.cell? ⟨b, off + j * k + i, none⟩ = some u := by
        intro j
        by_cases hj : j < len
        · obtain ⟨cs', hc, ht'⟩ := hi j (by omega)
          rw [hk] at hc
          obtain ⟨_, hcl, hat⟩ := World.cells?_some hc
          obtain ⟨d, e1, g⟩ := R.get H enc w base spare held n cs' _ ht' (fun n hn => hw n (by
            rw [hx]
            simp only [DataW.weights, ht]
            exact List.mem_cons_of_mem _ (List.mem_append.2 (.inl (weightsAll_mem (List.mem_map.2 ⟨j, List.mem_range.2 hj, rfl⟩) n hn)))))
          refine ⟨d, fun _ => ⟨g, ?_⟩⟩
          obtain ⟨cs0, hc0, _⟩ := hi 0 (by omega)
          rw [hk, Nat.zero_mul] at hc0
          obtain ⟨_, hcl0, hat0⟩ := World.cells?_some hc0
          have h0 := hat0 0 (by omega)
          rw [show ((a.add 0).add 0) = a from rfl] at h0
          obtain ⟨s0, l0⟩ := cell_here (w := w) (x := a) (v := cs0[0]'(by omega)) (by rw [h0]; exact List.getElem?_eq_getElem _)
          obtain ⟨b, off, sp⟩ := a
          simp only at s0
          subst s0
          have ea : ∀ o q, (⟨b, o, none⟩ : Addr).add q = ⟨b, o + q, none⟩ := fun o q => by
            by_cases hq : q = 0
            · subst hq; rfl
            · unfold Addr.add; rw [if_neg hq]
          refine ⟨b, off, rfl, l0, fun i u hu => ?_⟩
          · rw [← e1] at hu
            have hil : i < k := by
              have := (List.getElem?_eq_some_iff.1 hu).1
              omega
            have := hat i hil
            rw [ea, ea] at this
            rw [this]; exact hu
        · exact ⟨default, fun h => absurd h hj⟩
      refine ⟨⟨some a, len, cap, fun j => Classical.choose (key j)⟩, rfl, hwl, hlc, hm, (fun h => by cases h), fun j hj => ?_⟩
      obtain ⟨g, b, off, rfl, r⟩ := Classical.choose_spec (key j) hj
      exact ⟨g, b, off, rfl, r⟩
  kept := fun w w' d hb h => ⟨h.1, h.2.1, h.2.2.1, h.2.2.2.1, fun j hj => by
    obtain ⟨g, b, off, ha, hl, hc⟩ := h.2.2.2.2 j hj
    exact ⟨R.kept w w' _ hb g, b, off, ha, Nat.lt_of_lt_of_le hl hb.size, fun i u hu => (hb.cell (p := ⟨b, off + j * k + i, none⟩) hl).trans (hc i u hu)⟩⟩

theorem ReadsW.arg {P : Program} {t : TypeId} {α : Type} {V : α → List Value} {F : World → α → Prop} (R : ReadsW P t V F) {H : Type} {enc : TypeId × Value → H} {w : World} {base : Nat} {spare : Nat → Bool} {held : Bool} {v : Value} {d : DataW H} {p : List MemPlace}
    (h : DataW.Trod enc P w base spare held t v d p) (hw : ∀ n ∈ d.weights P t, n ≤ reachBytes) : ∃ d, v.cells.toList = V d ∧ F w d := by
  obtain ⟨fuel, hf⟩ := h
  exact R.get H enc w base spare held fuel _ _ hf hw
theorem weights_at {H : Type} {P : Program} {ts : List TypeId} {ds : List (DataW H)} (h : (DataW.weightsEach P ts ds).all (· ≤ reachBytes) = true) {j : Nat} {t : TypeId} {d : DataW H} (ht : ts[j]? = some t) (hd : ds[j]? = some d) : ∀ n ∈ d.weights P t, n ≤ reachBytes := fun n hn => by
  have := List.all_eq_true.1 h n (DataW.weights_mem_each ht hd n hn)
  simpa using this
end Go.Proofs.Ytcmdajkkdognfaa

namespace Go.Proofs.Ytcmdajkkdognfaa
open Go.RowKit
set_option linter.unusedVariables false
set_option linter.unusedSimpArgs false
set_option maxRecDepth 100000
instance {α : Type} [Inhabited α] : Inhabited (Sl α) := ⟨⟨none, 0, 0, fun _ => default⟩⟩
abbrev MSec := (Int × ByteArray × (Sl Int) × Int × Unit)
def zMSec : MSec := ((0 : Int), (⟨#[]⟩ : ByteArray), ⟨none, 0, 0, fun _ => default⟩, (0 : Int), ())
def vMSec : MSec → List Value := (fun d => (vInt .u8) d.1 ++ (fun d => vStr d.1 ++ (fun d => vSl d.1 ++ (fun d => (vInt .i64) d.1 ++ (fun _ => []) d.2) d.2) d.2) d.2)
def fMSec : World → MSec → Prop := (fun w d => (fInt .u8) w d.1 ∧ (fun w d => fStr w d.1 ∧ (fun w d => (fSlW 1 1 (vInt .u8) (fInt .u8)) w d.1 ∧ (fun w d => (fInt .i64) w d.1 ∧ (fun _ _ => True) w d.2) w d.2) w d.2) w d.2)
theorem rdMSec : ReadsW Try.prog 119 vMSec fMSec := (readsW_struct Try.underlying119 (by kernel_rfl) (readsFsW_cons (o := 0) (c := 1) rfl (by kernel_rfl) (reads_int Try.underlying5).toW (readsFsW_cons (o := 1) (c := 1) rfl (by kernel_rfl) (reads_string Try.underlying9).toW (readsFsW_cons (o := 2) (c := 1) rfl (by kernel_rfl) (readsW_slice Try.underlying47 (by kernel_rfl) (by kernel_rfl) (by decide) (reads_int Try.underlying5).toW) (readsFsW_cons (o := 3) (c := 1) rfl (by kernel_rfl) (reads_int Try.underlying3).toW (readsFsW_nil rfl))))))
theorem oneMSec : ∀ x, ∀ u ∈ vMSec x, u.oneCell' = true := by
  intro x u hu
  have hu : u ∈ [(.int .u8 x.1), (.string x.2.1), (.slice x.2.2.1.at' x.2.2.1.len x.2.2.1.cap), (.int .i64 x.2.2.2.1)] := hu
  simp only [List.mem_cons, List.not_mem_nil, or_false] at hu
  rcases hu with rfl | rfl | rfl | rfl <;> rfl

end Go.Proofs.Ytcmdajkkdognfaa

namespace Go.Proofs.Ytcmdajkkdognfaa
open Go.RowKit
set_option linter.unusedVariables false
set_option linter.unusedSimpArgs false

/-- The bytes of a number without a sign. -/
def uL (v : Nat) : List Int := if h : v < 128 then [(v : Int)] else ((v % 128 + 128 : Nat) : Int) :: uL (v / 128)
termination_by v
decreasing_by omega

theorem uL_low {v : Nat} (h : v < 128) : uL v = [(v : Int)] := by rw [uL, dif_pos h]
theorem uL_high {v : Nat} (h : ¬ v < 128) : uL v = ((v % 128 + 128 : Nat) : Int) :: uL (v / 128) := by rw [uL, dif_neg h]

theorem Try.info5 : (Try.prog.info? 5).map (fun i => (i.zero, i.size, i.bytes)) = some (some (.int .u8 0), 1, 1) := by kernel_rfl

theorem or128_fin : ∀ n : Fin 256, bits BinOp.or .u8 ((n.val : Nat) : Int) 128 = ((n.val % 128 + 128 : Nat) : Int) := by decide +kernel
theorem or128 (u : Nat) : bits BinOp.or .u8 ((u : Int) % 256) 128 = ((u % 128 + 128 : Nat) : Int) := by
  have := or128_fin ⟨u % 256, by omega⟩
  rw [show ((u : Int) % 256) = ((u % 256 : Nat) : Int) from by omega]
  rw [this]; simp only; omega
theorem and127_fin : ∀ n : Fin 256, bits BinOp.and .u8 ((n.val : Nat) : Int) 127 = ((n.val % 128 : Nat) : Int) := by decide +kernel
theorem and127i (u : Int) : bits BinOp.and .u8 (u % 256) 127 = u % 128 := by
  have := and127_fin ⟨(u % 256).toNat, by omega⟩
  rw [show u % 256 = (((u % 256).toNat : Nat) : Int) from by omega]
  rw [this]; simp only; omega

theorem pow_step {u v k : Nat} (h : u * 128 ^ k ≤ v) : u / 128 * 128 ^ (k + 1) ≤ v := by
  have : u / 128 * 128 ≤ u := Nat.div_mul_le_self u 128
  calc u / 128 * 128 ^ (k + 1) = (u / 128 * 128) * 128 ^ k := by rw [Nat.pow_succ, Nat.mul_comm (128 ^ k) 128, Nat.mul_assoc]
    _ ≤ u * 128 ^ k := Nat.mul_le_mul_right _ this
    _ ≤ v := h

/-- The rest of a number is smaller by the powers of 128. -/
theorem pow_lt {u v k : Nat} (hv : v < 2 ^ 64) (h : u * 128 ^ k ≤ v) (hk : k = 9) : u ≤ 1 := by
  subst hk
  have h3 : (128 : Nat) ^ 9 * 2 = 2 ^ 64 := by decide
  apply Nat.le_of_lt_succ
  apply Nat.lt_of_mul_lt_mul_right (a := 128 ^ 9)
  omega

set_option maxHeartbeats 400000 in
set_option maxRecDepth 100000 in
theorem uint_any (v : Nat) (hv : v < 2 ^ 64) (w : World) :
    Calls Try.prog 110 #[.int .u64 v] w fun e w' => ∃ s, e = .returned s ∧ w'.ownsRow w.heap.size 5 1 s (uL v).length ((uL v).map (Value.int .u8)) ∧ Below w.heap.size w w' := by
  have Hv := hid hv; clear hv
  go_enter Try.func110, Try.ntmps110
  go_wp2
  go_loopw [0, 3] (fun x s wr => ∃ (u : Nat) (l : List Int), x = .int .u64 u ∧ Hid (uL v = l ++ uL u) ∧ Hid (u * 128 ^ l.length ≤ v) ∧ l.length ≤ 9 ∧ wr.ownsRow w.heap.size 5 1 s l.length (l.map (Value.int .u8)) ∧ Below w.heap.size w wr) (fun x _ _ => (intOf x).toNat)
  case atStart => exact ⟨v, [], rfl, by simp [Hid], by simp [Hid], by simp, World.ownsRow_nil _ _ _ _, Below.refl _ _⟩
  case round =>
    obtain ⟨u, l, rfl, He, Hu, hlen, hown, hb⟩ := hrel
    have hsz := hb.size
    by_cases hlt : u < 128
    · go_wp2_with (at_builtin; refine wpList_push Try.underlying47 Try.info5 rfl (by decide) hown hsz (by omega) rfl rfl rfl rfl rfl ?_; intro v' w' hown' hb' hlt')
      go_ret
      have he := He.out
      rw [uL_low hlt] at he
      exact ⟨v', rfl, by rw [he]; simpa using hown', hb.trans hb'⟩
    · have hne : ¬ l.length = 9 := fun h => by have := pow_lt Hv.out Hu.out h; omega
      go_wp2_with (at_builtin; refine wpList_push Try.underlying47 Try.info5 rfl (by decide) hown hsz (by omega) rfl rfl rfl rfl rfl ?_; intro v' w' hown' hb' hlt')
      go_roundw
      case rel =>
        rw [or128] at hown'
        refine ⟨u / 128, l ++ [((u % 128 + 128 : Nat) : Int)], by simp, ?_, ?_, by simp; omega, by simpa using hown', hb.trans hb'⟩
        · show _ = _
          rw [He.out, uL_high hlt]; simp
        · show _ ≤ _
          simpa using pow_step Hu.out
      case measure => simp [intOf]; omega

def rightB (n : Int) : Bool := decide (1 ≤ n) && decide (n ≤ 64)

set_option maxRecDepth 100000 in
theorem right_any (n : Int) (w : World) : Calls Try.prog 170 #[.int .i64 n] w fun e w' => e = .returned (.bool (rightB n)) ∧ w = w' := by
  by_cases h1 : 1 ≤ n
  · by_cases h2 : n ≤ 64
    all_goals
      go_enter Try.func170, Try.ntmps170
      go_wp2
      go_ret
      exact ⟨by simp [rightB, *], rfl⟩
  · have h1' : n < 1 := by omega
    have h0 : n ≤ 0 := by omega
    go_enter Try.func170, Try.ntmps170
    go_wp2
    go_ret
    exact ⟨by simp [rightB]; omega, rfl⟩

def mostN (n : Int) : Int := if rightB n then (n + 6) / 7 else 0

set_option maxRecDepth 100000 in
theorem most_any (n : Int) (w : World) : Calls Try.prog 171 #[.int .i64 n] w fun e w' => e = .returned (.int .i64 (mostN n)) ∧ w = w' := by
  cases hr : rightB n with
  | true =>
    have hb : 1 ≤ n ∧ n ≤ 64 := by simpa [rightB] using hr
    obtain ⟨b1, b2⟩ := hb
    have hm : mostN n = (n + 6) / 7 := by simp [mostN, hr]
    have Hr := hid hr; clear hr
    have Hm := hid hm; clear hm
    go_enter Try.func171, Try.ntmps171
    go_wp2_with fail
    refine (right_any n _).mono ?_
    rintro e w' ⟨rfl, rfl⟩
    rw [Hr.out]
    go_wp2
    go_ret
    exact ⟨by rw [Hm.out]; rfl, rfl⟩
  | false =>
    have hm : mostN n = 0 := by simp [mostN, hr]
    have Hr := hid hr; clear hr
    have Hm := hid hm; clear hm
    go_enter Try.func171, Try.ntmps171
    go_wp2_with fail
    refine (right_any n _).mono ?_
    rintro e w' ⟨rfl, rfl⟩
    rw [Hr.out]
    go_wp2
    go_ret
    exact ⟨by rw [Hm.out]; rfl, rfl⟩
end Go.Proofs.Ytcmdajkkdognfaa

namespace Go.Proofs.Ytcmdajkkdognfaa
open Go.RowKit
set_option linter.unusedVariables false
set_option linter.unusedSimpArgs false

theorem Try.info4 : (Try.prog.info? 4).map (fun i => (i.zero, i.size, i.bytes)) = some (some (.bool false), 1, 1) := by kernel_rfl

def bitAt (v i : Nat) : Bool := (v / 2 ^ i) % 2 == 1
def bitsL (v n : Nat) : List Bool := (List.range n).map (bitAt v)
theorem bitsL_succ (v n : Nat) : bitsL v (n + 1) = bitsL v n ++ [bitAt v n] := by simp [bitsL, List.range_succ]
theorem bitsL_length (v n : Nat) : (bitsL v n).length = n := by simp [bitsL]

set_option maxHeartbeats 400000 in
set_option maxRecDepth 100000 in
theorem bits_any (v : Nat) (hv : v < 2 ^ 64) (w : World) :
    Calls Try.prog 156 #[.int .u64 v] w fun e w' => ∃ s, e = .returned s ∧ w'.ownsRow w.heap.size 4 1 s 64 ((bitsL v 64).map Value.bool) ∧ Below w.heap.size w w' := by
  have Hv := hid hv; clear hv
  go_enter Try.func156, Try.ntmps156
  go_wp2
  go_loopw [0, 3, 4] (fun x s i wr => ∃ (u k : Nat), x = .int .u64 u ∧ i = .int .i64 k ∧ k ≤ 64 ∧ Hid (u = v / 2 ^ k) ∧ wr.ownsRow w.heap.size 4 1 s k ((bitsL v k).map Value.bool) ∧ Below w.heap.size w wr) (fun _ _ i _ => 64 - (intOf i).toNat)
  case atStart => exact ⟨v, 0, rfl, rfl, by omega, by simp [Hid], World.ownsRow_nil _ _ _ _, Below.refl _ _⟩
  case round =>
    obtain ⟨u, k, rfl, rfl, hk, Hu, hown, hb⟩ := hrel
    have hsz := hb.size
    by_cases hlt : k < 64
    · go_wp2_with (at_builtin; refine wpList_push Try.underlying187 Try.info4 rfl (by decide) hown hsz (by omega) rfl rfl rfl rfl rfl ?_; intro v' w' hown' hb' hlt')
      go_roundw
      case rel =>
        refine ⟨u / 2, k + 1, by rw [wrap_u64 (by omega) (by have := Hv.out; have := Hu.out; have := Nat.div_le_self v (2 ^ k); omega)]; simp, by go_num, by omega, ?_, ?_, hb.trans hb'⟩
        · show _ = _
          rw [Hu.out, Nat.div_div_eq_div_mul, Nat.pow_succ]
        · rw [bitsL_succ, List.map_append]
          have e : bitAt v k = ((u : Int) % 2 == 1) := by
            have := Hu.out
            unfold bitAt; rw [← this, Bool.eq_iff_iff]; simp; omega
          rw [e]; simpa using hown'
      case measure => first | (simp [intOf]; done) | (simp [intOf]; omega)
    · obtain rfl : k = 64 := by omega
      go_wp2
      go_ret
      exact ⟨_, rfl, hown, hb⟩

/-- Of a group of seven bits those from the highest down, m of them. -/
def acc (f : Nat → Bool) (i : Nat) : Nat → Nat
  | 0 => 0
  | m + 1 => acc f i m * 2 + (f (7 * i + (6 - m))).toNat
theorem acc_lt (f : Nat → Bool) (i : Nat) : ∀ m, acc f i m < 2 ^ m
  | 0 => by simp [acc]
  | m + 1 => by
    have h1 := acc_lt f i m
    have h2 := Bool.toNat_le (f (7 * i + (6 - m)))
    simp only [acc, Nat.pow_succ]; omega
theorem acc_le (f : Nat → Bool) (i m : Nat) (h : m ≤ 7) : acc f i m < 128 :=
  Nat.lt_of_lt_of_le (acc_lt f i m) (Nat.pow_le_pow_right (by decide) (show m ≤ 7 from h))
def bitOf (ls : List Bool) (beyond : Bool) (j : Nat) : Bool := if j < ls.length then ls.getD j false else beyond
def grpB (f : Nat → Bool) (n i : Nat) : Int := (acc f i 7 + if i + 1 < n then 128 else 0 : Nat)
def grpL (f : Nat → Bool) (n k : Nat) : List Int := (List.range k).map (grpB f n)
theorem grpL_succ (f : Nat → Bool) (n k : Nat) : grpL f n (k + 1) = grpL f n k ++ [grpB f n k] := by simp [grpL, List.range_succ]

set_option maxHeartbeats 1000000 in
set_option maxRecDepth 100000 in
theorem group_any (b off cap : Nat) (ls : List Bool) (n : Nat) (beyond : Bool) (w : World) (hn : n ≤ 10) (hls : ls.length ≤ 1000000) (hb0 : b < w.heap.size)
    (hc : ∀ j, j < ls.length → w.cell? ⟨b, off + j, none⟩ = some (.bool (ls.getD j false))) :
    Calls Try.prog 157 #[.slice (some ⟨b, off, none⟩) ls.length cap, .int .i64 n, .bool beyond] w fun e w' => ∃ s, e = .returned s ∧ w'.ownsRow w.heap.size 5 1 s n ((grpL (bitOf ls beyond) n n).map (Value.int .u8)) ∧ Below w.heap.size w w' := by
  have Hc := hid hc; clear hc
  go_enter Try.func157, Try.ntmps157
  go_wp2
  go_loopw [7, 8] (fun s i wr => ∃ (k : Nat), i = .int .i64 k ∧ k ≤ n ∧ wr.ownsRow w.heap.size 5 1 s k ((grpL (bitOf ls beyond) n k).map (Value.int .u8)) ∧ Below w.heap.size w wr) (fun _ i _ => n - (intOf i).toNat)
  case atStart => exact ⟨0, rfl, by omega, World.ownsRow_nil _ _ _ _, Below.refl _ _⟩
  case round =>
    obtain ⟨i, rfl, hi, hown, hb⟩ := hrel
    have hsz := hb.size
    by_cases hlt : i < n
    · go_wp2
      go_loop [9, 10] (fun c k => ∃ m kk : Nat, m + kk = 7 ∧ c = .int .i64 (acc (bitOf ls beyond) i m) ∧ k = .int .i64 ((kk : Int) - 1)) (fun _ k => ((intOf k) + 1).toNat)
      case atStart => exact ⟨0, 7, rfl, rfl, rfl⟩
      case round =>
        obtain ⟨m, kk, hm, rfl, rfl⟩ := hrel
        have hacc := acc_le (bitOf ls beyond) i m (by omega)
        cases kk with
        | zero =>
          obtain rfl : m = 7 := by omega
          have hlast : i < n - 1 ∨ i = n - 1 := by omega
          have e : grpB (bitOf ls beyond) n i = (acc (bitOf ls beyond) i 7 : Int) + if i + 1 < n then 128 else 0 := by unfold grpB; split <;> simp
          have He := hid e; clear e
          generalize hA : acc (bitOf ls beyond) i 7 = A at *
          clear hA hm
          by_cases hl : i + 1 < n
          all_goals
            have Hl := hid hl
            go_wp2_with (at_builtin; refine wpList_push Try.underlying47 Try.info5 rfl (by decide) hown hsz (by omega) rfl rfl rfl rfl rfl ?_; intro v' w' hown' hb' hlt')
            go_roundw
            case rel =>
              refine ⟨i + 1, by go_num, by omega, ?_, hb.trans hb'⟩
              have e := He.out
              simp only [Hl.out, if_true, if_false] at e
              rw [grpL_succ, List.map_append, e]
              simpa using hown'
            case measure => first | (simp [intOf]; done) | (simp [intOf]; omega)
        | succ q =>
          have hq : q ≤ 6 := by omega
          have hmq : 6 - m = q := by omega
          have e : acc (bitOf ls beyond) i (m + 1) = acc (bitOf ls beyond) i m * 2 + (bitOf ls beyond (7 * i + q)).toNat := by rw [acc, hmq]
          have hcell := Hc.out (7 * i + q)
          have hbo : bitOf ls beyond (7 * i + q) = if 7 * i + q < ls.length then ls.getD (7 * i + q) false else beyond := rfl
          have hbi : b < w.heap.size := hb0
          have hcw : 7 * i + q < ls.length → wr.cell? ⟨b, off + (7 * i + q), none⟩ = some (.bool (ls.getD (7 * i + q) false)) := fun h => (hb.cell (p := ⟨b, off + (7 * i + q), none⟩) hb0).trans (hcell h)
          clear hcell hmq
          generalize acc (bitOf ls beyond) i m = A0 at *
          by_cases hj : 7 * i + q < ls.length
          · have hcw := hcw hj
            rw [if_pos hj] at hbo
            generalize ls.getD (7 * i + q) false = x at *
            rw [hbo] at e
            clear hbo
            have He := hid e; clear e
            cases x
            all_goals
              go_wp2
              go_round
              case rel =>
                refine ⟨m + 1, q, by omega, ?_, by simp⟩
                have e := He.out
                simp at e
                rw [e]; simp
              case measure => first | (simp [intOf]; done) | (simp [intOf]; omega)
          · clear hcw
            rw [if_neg hj] at hbo
            rw [hbo] at e
            clear hbo
            have He := hid e; clear e
            have hj' : ls.length ≤ 7 * i + q := by omega
            cases beyond
            all_goals
              go_wp2
              go_round
              case rel =>
                refine ⟨m + 1, q, by omega, ?_, by simp⟩
                have e := He.out
                simp at e
                rw [e]; simp
              case measure => first | (simp [intOf]; done) | (simp [intOf]; omega)
    · obtain rfl : i = n := by omega
      go_wp2
      go_ret
      exact ⟨_, rfl, hown, hb⟩
end Go.Proofs.Ytcmdajkkdognfaa

namespace Go.Proofs.Ytcmdajkkdognfaa
open Go.RowKit
set_option linter.unusedVariables false
set_option linter.unusedSimpArgs false

/-- One of m bits from s on. -/
def anyFrom (f : Nat → Bool) (s : Nat) : Nat → Bool
  | 0 => false
  | m + 1 => anyFrom f s m || f (s + m)

/-- The least number of groups of seven. -/
def RefRes (mo : Nat → Bool) (n : Nat) : Prop := 1 ≤ n ∧ n ≤ 10 ∧ (n < 10 → mo n = false) ∧ ∀ k, 1 ≤ k → k < n → mo k = true

def moU (f : Nat → Bool) (n : Nat) : Bool := anyFrom f (7 * n) (64 - 7 * n)
def RefPost (w : World) (mo : Nat → Bool) (L : Nat → List Int) (e : Ending) (w' : World) : Prop :=
  ∃ s n, e = .returned s ∧ RefRes mo n ∧ w'.ownsRow w.heap.size 5 1 s n ((L n).map (Value.int .u8)) ∧ Below w.heap.size w w'

theorem bits_cell (v j : Nat) (h : j < 64) : ((bitsL v 64).map Value.bool)[j]? = some (.bool (bitAt v j)) := by
  simp [bitsL, h]

set_option maxHeartbeats 1000000 in
set_option maxRecDepth 100000 in
theorem refUint_any (v : Nat) (hv : v < 2 ^ 64) (w : World) :
    Calls Try.prog 148 #[.int .u64 v] w (RefPost w (moU (bitAt v)) (fun n => grpL (bitOf (bitsL v 64) false) n n)) := by
  go_enter Try.func148, Try.ntmps148
  go_wp2_with fail
  refine (bits_any v hv _).mono ?_
  rintro e w1 ⟨s, rfl, hown, hb⟩
  obtain ⟨g, cap, rfl, hbg, hgw, hcap, hcell⟩ := ownsRow_some hown (by decide)
  have Hc : Hid (∀ j, j < 64 → w1.cell? ⟨g, j, none⟩ = some (.bool (bitAt v j))) := fun j hj => (hcell j hj).trans (bits_cell v j hj)
  clear hcell hown hv
  go_wp2_with fail
  go_loop [4] (fun i => ∃ n : Nat, i = .int .i64 n ∧ 1 ≤ n ∧ n ≤ 10 ∧ Hid (∀ k, 1 ≤ k → k < n → moU (bitAt v) k = true)) (fun i => 10 - (intOf i).toNat)
  case atStart => exact ⟨1, rfl, by omega, by omega, fun k h1 h2 => by omega⟩
  case round =>
    obtain ⟨n, rfl, h1, h2, Hk⟩ := hrel
    by_cases hn : n < 10
    · go_wp2
      go_loop [5, 6] (fun mo i => ∃ m : Nat, 7 * n + m ≤ 64 ∧ i = .int .i64 (7 * n + m : Nat) ∧ mo = .bool (anyFrom (bitAt v) (7 * n) m)) (fun _ i => 64 - (intOf i).toNat)
      case atStart => exact ⟨0, by omega, by simp, rfl⟩
      case round =>
        obtain ⟨m, hm, rfl, rfl⟩ := hrel
        by_cases hlt : 7 * n + m < 64
        · have hc := Hc.out (7 * n + m) hlt
          have e : anyFrom (bitAt v) (7 * n) (m + 1) = (anyFrom (bitAt v) (7 * n) m || bitAt v (7 * n + m)) := rfl
          have He := hid e; clear e
          generalize hA : anyFrom (bitAt v) (7 * n) m = A at *
          clear hA
          cases A
          all_goals
            go_wp2
            go_round
            case rel => exact ⟨m + 1, by omega, by go_num, by rw [He.out]; rfl⟩
            case measure => simp [intOf]; omega
        · have hmn : m = 64 - 7 * n := by omega
          have e : moU (bitAt v) n = anyFrom (bitAt v) (7 * n) m := by rw [hmn]; rfl
          have He := hid e; clear e hmn
          generalize anyFrom (bitAt v) (7 * n) m = A at *
          cases A
          · go_wp2_with fail
            refine (group_any g 0 cap (bitsL v 64) n false _ (by omega) (by simp [bitsL]) hgw (fun j hj => ?_)).mono ?_
            · have hj' : j < 64 := by simpa [bitsL] using hj
              rw [Nat.zero_add, Hc.out j hj']
              simp [bitsL, hj']
            · rintro e w2 ⟨s, rfl, hown, hb2⟩
              go_wp2
              go_ret
              exact ⟨s, n, rfl, ⟨h1, h2, fun _ => He.out, Hk.out⟩, ownsRow_mono hown hb.size, hb.trans (hb2.mono hb.size)⟩
          · go_wp2
            go_round
            case rel => exact ⟨n + 1, by go_num, by omega, by omega, fun k h1 h2 => if h : k = n then h ▸ He.out else Hk.out k h1 (by omega)⟩
            case measure => simp [intOf]; omega
    · obtain rfl : n = 10 := by omega
      go_wp2_with fail
      refine (group_any g 0 cap (bitsL v 64) 10 false _ (by omega) (by simp [bitsL]) hgw (fun j hj => ?_)).mono ?_
      · have hj' : j < 64 := by simpa [bitsL] using hj
        rw [Nat.zero_add, Hc.out j hj']
        simp [bitsL, hj']
      · rintro e w2 ⟨s, rfl, hown, hb2⟩
        go_wp2
        go_ret
        exact ⟨s, 10, rfl, ⟨h1, h2, fun h => by omega, Hk.out⟩, ownsRow_mono hown hb.size, hb.trans (hb2.mono hb.size)⟩
end Go.Proofs.Ytcmdajkkdognfaa

namespace Go.Proofs.Ytcmdajkkdognfaa
open Go.RowKit
set_option linter.unusedVariables false
set_option linter.unusedSimpArgs false

def bitI (v : Int) (j : Nat) : Bool := (v / 2 ^ j) % 2 == 1
def sg (s : Bool) : Int := if s then -1 else 0
def gL (v : Int) (n : Nat) : List Int := (List.range n).map fun i => v / 128 ^ i % 128 + if i + 1 < n then 128 else 0

theorem anyFrom_bottom (f : Nat → Bool) : ∀ m s, anyFrom f s (m + 1) = (f s || anyFrom f (s + 1) m)
  | 0, s => by simp [anyFrom]
  | m + 1, s => by
    rw [anyFrom, anyFrom_bottom f m s, anyFrom, Bool.or_assoc, show s + (m + 1) = s + 1 + m from by omega]

theorem div_pow_succ (v : Int) (s : Nat) : v / 2 ^ (s + 1) = v / 2 ^ s / 2 := by
  rw [Int.ediv_ediv_of_nonneg (Int.pow_nonneg (by decide)), Int.pow_succ]

theorem any_iff (v : Int) (s0 : Bool) : ∀ m s, v / 2 ^ (s + m) = sg s0 → (anyFrom (fun j => bitI v j != s0) s m = false ↔ v / 2 ^ s = sg s0)
  | 0, s, h => by simpa [anyFrom] using h
  | m + 1, s, h => by
    rw [anyFrom_bottom, Bool.or_eq_false_iff, any_iff v s0 m (s + 1) (by rw [show s + 1 + m = s + (m + 1) from by omega]; exact h), div_pow_succ]
    simp only [bitI]
    generalize v / 2 ^ s = y
    cases s0 <;> simp [sg] <;> omega

theorem gL_succ (v : Int) (n : Nat) : gL v (n + 2) = (v % 128 + 128) :: gL (v / 128) (n + 1) := by
  unfold gL
  rw [List.range_succ_eq_map, List.map_cons, List.map_map]
  congr 1
  · simp
  · apply List.map_congr_left
    intro i _
    simp only [Function.comp, Nat.succ_eq_add_one]
    rw [Int.ediv_ediv_of_nonneg (by decide), Int.pow_succ, Int.mul_comm]
    congr 1
    by_cases h : i + 1 < n + 1
    · rw [if_pos h, if_pos (by omega)]
    · rw [if_neg h, if_neg (by omega)]

theorem div_shift (v : Int) (k : Nat) : v / 2 ^ (7 + k) = v / 128 / 2 ^ k := by
  rw [Int.ediv_ediv_of_nonneg (by decide), Int.pow_add]; rfl

theorem uL_gL : ∀ (n : Nat) (v : Nat), 1 ≤ n → (v : Int) / 2 ^ (7 * n) = 0 → (∀ k, 1 ≤ k → k < n → (v : Int) / 2 ^ (7 * k) ≠ 0) → uL v = gL v n
  | 0, _, h, _, _ => by omega
  | 1, v, _, h, _ => by
    have : (2 : Int) ^ (7 * 1) = 128 := by decide
    rw [this] at h
    have hv : v < 128 := by omega
    rw [uL_low hv]
    simp [gL]; omega
  | n + 2, v, _, h, hk => by
    have h1 := hk 1 (by omega) (by omega)
    have : (2 : Int) ^ (7 * 1) = 128 := by decide
    rw [this] at h1
    rw [uL_high (by omega), gL_succ, uL_gL (n + 1) (v / 128) (by omega) ?_ ?_]
    · simp
    · rw [show 7 * (n + 2) = 7 + 7 * (n + 1) from by omega, div_shift] at h
      simpa using h
    · intro k h1 h2 h3
      refine hk (k + 1) (by omega) (by omega) ?_
      rw [show 7 * (k + 1) = 7 + 7 * k from by omega, div_shift]
      simpa using h3

theorem bit_nat (x : Int) : (((x % 2 == 1).toNat : Nat) : Int) = x % 2 := by
  rcases (show x % 2 = 0 ∨ x % 2 = 1 by omega) with h | h <;> simp [h]

theorem acc_bits (v : Int) (i : Nat) : ((acc (bitI v) i 7 : Nat) : Int) = v / 128 ^ i % 128 := by
  have e : ∀ k, v / 2 ^ (7 * i + k) = v / 128 ^ i / 2 ^ k := fun k => by
    rw [Int.ediv_ediv_of_nonneg (Int.pow_nonneg (by decide)), Int.pow_add, Int.pow_mul]; rfl
  simp only [acc, bitI, e]
  generalize v / 128 ^ i = y
  simp only [Int.natCast_add, Int.natCast_mul, bit_nat]
  simp
  omega

theorem grpL_gL (f : Nat → Bool) (v : Int) (n : Nat) (hf : ∀ j, f j = bitI v j) : grpL f n n = gL v n := by
  have : f = bitI v := funext hf
  subst this
  unfold grpL gL
  apply List.map_congr_left
  intro i _
  unfold grpB
  rw [← acc_bits]
  split <;> simp

theorem bitAt_I (v j : Nat) : bitAt v j = bitI v j := by
  unfold bitAt bitI
  rw [Bool.eq_iff_iff]
  have : ((v / 2 ^ j : Nat) : Int) = (v : Int) / 2 ^ j := by simp
  simp only [beq_iff_eq]
  rw [← this]; omega

theorem big_zero (v : Nat) (hv : v < 2 ^ 64) (j : Nat) (hj : 64 ≤ j) : (v : Int) / 2 ^ j = 0 := by
  have : v / 2 ^ j = 0 := Nat.div_eq_of_lt (Nat.lt_of_lt_of_le hv (Nat.pow_le_pow_right (by decide) hj))
  have h2 : ((v / 2 ^ j : Nat) : Int) = (v : Int) / 2 ^ j := by simp
  rw [← h2, this]; rfl

theorem bitOf_U (v : Nat) (hv : v < 2 ^ 64) (j : Nat) : bitOf (bitsL v 64) false j = bitI v j := by
  unfold bitOf
  rw [bitsL_length]
  split
  · rename_i h
    rw [← bitAt_I]; simp [bitsL, h]
  · rename_i h
    unfold bitI; rw [big_zero v hv j (by omega)]; rfl

theorem refU (v : Nat) (hv : v < 2 ^ 64) (n : Nat) (h : RefRes (moU (bitAt v)) n) : uL v = grpL (bitOf (bitsL v 64) false) n n := by
  obtain ⟨h1, h2, h3, h4⟩ := h
  rw [grpL_gL _ v n (bitOf_U v hv)]
  have key : ∀ k, 1 ≤ k → k < 10 → (moU (bitAt v) k = false ↔ (v : Int) / 2 ^ (7 * k) = 0) := by
    intro k hk1 hk2
    have := any_iff v false (64 - 7 * k) (7 * k) (by rw [show 7 * k + (64 - 7 * k) = 64 from by omega]; exact big_zero v hv 64 (by omega))
    rw [show (sg false) = 0 from rfl] at this
    rw [← this]
    unfold moU
    rw [show (fun j => bitI (v : Int) j != false) = bitAt v from funext fun j => by rw [bitAt_I]; simp]
  refine uL_gL n v h1 ?_ (fun k hk1 hk2 => ?_)
  · by_cases hn : n < 10
    · exact (key n h1 hn).1 (h3 hn)
    · exact big_zero v hv _ (by omega)
  · intro h0
    have := (key k hk1 (by omega)).2 h0
    rw [h4 k hk1 hk2] at this
    cases this

end Go.Proofs.Ytcmdajkkdognfaa

namespace Go.Proofs.Ytcmdajkkdognfaa
open Go.RowKit
set_option linter.unusedVariables false
set_option linter.unusedSimpArgs false
theorem flat_u8 (l : List Int) : l.flatMap (vInt .u8) = l.map (Value.int .u8) := by
  induction l with
  | nil => rfl
  | cons x l ih => rw [List.flatMap_cons, List.map_cons, ih]; rfl
theorem uint_row (v : Nat) (hv : v < 2 ^ 64) (w : World) : Calls Try.prog 110 #[.int .u64 ((v : Nat) : Int)] w fun e w' => ∃ s, e = .returned s ∧ Row 1 (vInt .u8) 5 w.heap.size w' s (uL v) ∧ Below w.heap.size w w' := by
  refine (uint_any v hv w).mono ?_
  rintro e w' ⟨s, h1, h2, h3⟩
  exact ⟨s, h1, by unfold Row; rw [flat_u8]; exact h2, h3⟩
theorem refUint_row (v : Nat) (hv : v < 2 ^ 64) (w : World) : Calls Try.prog 148 #[.int .u64 ((v : Nat) : Int)] w fun e w' => ∃ s, e = .returned s ∧ Row 1 (vInt .u8) 5 w.heap.size w' s (uL v) ∧ Below w.heap.size w w' := by
  refine (refUint_any v hv w).mono ?_
  rintro e w' ⟨s, n, h1, hr, h2, h3⟩
  have hn : n = (uL v).length := by
    rw [refU v hv n hr]; simp [grpL]
  refine ⟨s, h1, ?_, h3⟩
  unfold Row
  rw [flat_u8]
  have h4 : w'.ownsRow w.heap.size 5 1 s n (List.map (Value.int .u8) (grpL (bitOf (bitsL v 64) false) n n)) := h2
  rw [← refU v hv n hr, hn] at h4
  exact h4
theorem uL_len (v : Nat) (hv : v < 2 ^ 64) : 1 ≤ (uL v).length ∧ (uL v).length ≤ 10 := by
  have key : ∀ k v, v < 128 ^ (k + 1) → 1 ≤ (uL v).length ∧ (uL v).length ≤ k + 1 := by
    intro k
    induction k with
    | zero =>
      intro v h
      rw [uL_low (by omega)]; simp
    | succ k ih =>
      intro v h
      by_cases h1 : v < 128
      · rw [uL_low h1]; simp
      · rw [uL_high h1]
        have := ih (v / 128) (by rw [Nat.pow_succ] at h; omega)
        simp only [List.length_cons]; omega
  have := key 9 v (Nat.lt_of_lt_of_le hv (by decide))
  omega
theorem uL_rng (v : Nat) : ∀ x ∈ uL v, 0 ≤ x ∧ x < 256 := by
  induction v using Nat.strongRecOn with
  | ind v ih =>
    intro x hx
    by_cases h1 : v < 128
    · rw [uL_low h1] at hx
      simp at hx; omega
    · rw [uL_high h1] at hx
      rcases List.mem_cons.1 hx with h | h
      · omega
      · exact ih (v / 128) (by omega) x h
end Go.Proofs.Ytcmdajkkdognfaa

namespace Go.Proofs.Ytcmdajkkdognfaa
open Go.RowKit
set_option linter.unusedVariables false
set_option linter.unusedSimpArgs false
def cntS (n : Nat) : ByteArray := strOfNums (uL n)
theorem cntS_le {n : Nat} (h : n < 2 ^ 64) : (cntS n).size ≤ 10 := by unfold cntS; rw [strOfNums_size]; exact (uL_len n h).2
set_option maxHeartbeats 1000000 in
set_option maxRecDepth 100000 in
theorem count_any (n : Nat) (w : World) (h : n < 4611686018427387904) : Calls Try.prog 111 #[(.int .i64 ((n : Nat) : Int))] w fun e w' => e = .returned (.string (cntS n)) ∧ Below w.heap.size w w' := by
  refine sx_enter (L := [(0, (.int .i64 ((n : Nat) : Int)))]) Try.func111 rfl rfl rfl rfl (fun fa hf => ?_)
  have hb : Below w.heap.size w w := Below.refl _ _
  refine wp_seq_k (fun K1 hK1 => ?_)
  refine wp_region_lit ?_
  refine sqv hf (r_assign rfl) rfl rfl rfl ?_; clear hf fa; intro fa hf
  apply wpList_nil
  (try simp only [Exit.then, Exit.inBlock, ↓reduceIte, Nat.reduceEqDiff])
  refine hK1 _ _ ?_
  refine wp_seq_k (fun K2 hK2 => ?_)
  refine wp_region_lit ?_
  refine sqv hf (r_move rfl) rfl rfl rfl ?_; clear hf fa; intro fa hf
  refine sqv hf (r_conv (C := ((n : Nat) : Int)) rfl Try.underlying3 Try.underlying55 (by rw [IntKind.wrap_u64]; omega)) rfl rfl rfl ?_; clear hf fa; intro fa hf
  refine sqdt hf (d_callX (vs := [(.int .u64 ((n : Nat) : Int))]) rfl Try.func148 (by kernel_rfl) (by kernel_rfl) (refUint_row n (by omega) _)) rfl rfl rfl ?_; clear hf fa; rintro fa v w1 ⟨hr1, he1⟩ hf; obtain ⟨ra1, rc1, rfl, hcrc1, hmrc1⟩ := Row.slice hr1
  replace hr1 := Row.rebase hr1 hb.size
  replace hb := hb.trans (Below.mono he1 hb.size)
  have hul67438 := uL_len n (by omega)
  refine sqv hf (r_rowstr rfl Try.underlying47 Try.underlying5 Try.underlying9 hr1) rfl rfl rfl ?_; clear hf fa; intro fa hf
  refine sqv hf (r_assign rfl) rfl rfl rfl ?_; clear hf fa; intro fa hf
  apply wpList_nil
  (try simp only [Exit.then, Exit.inBlock, ↓reduceIte, Nat.reduceEqDiff])
  refine hK2 _ _ ?_
  refine wp_ret ?_
  (try simp only [Exit.then, Exit.inBlock])
  refine ret1 hf rfl rfl ?_
  exact ⟨rfl, hb⟩

end Go.Proofs.Ytcmdajkkdognfaa

namespace Go.Proofs.Ytcmdajkkdognfaa
open Go.RowKit
set_option linter.unusedVariables false
set_option linter.unusedSimpArgs false

/-- The operations that are done. -/
abbrev LS (listed : Array Bool) : Nat → Prop := fun k => listed[k]? = some true
def ad (i : Nat) (S : Nat → Prop) : Nat → Prop := fun k => k = i ∨ S k

/-- What stands of the operations in S. -/
structure UvS (all : (Nat → Prop) → List (Value → World → Prop)) (A : List Nat) (dl : List (List Nat)) (V : Nat → Value) (S : Nat → Prop) (w : World) : Prop where
  post : ∀ j, S j → ((all S).getD j (fun _ _ => True)) (V j) w
  down : ∀ j, S j → ∀ k, k ∈ dl.getD j [] → S k
  lt : ∀ i, A.contains i = true → S i → ∃ b, blkOf (V i) = some b ∧ b < w.heap.size
  ne : ∀ i j, A.contains i = true → A.contains j = true → i ≠ j → S i → S j → blkOf (V i) ≠ blkOf (V j)

def uvGoals (P : Program) (ops : Array Oper) (C : (Nat → Prop) → World → Prop) (all : (Nat → Prop) → List (Value → World → Prop)) (A : List Nat) (dl0 : List (List Nat)) (V : Nat → Value) :
    List Oper → List (List Nat) → Nat → Act → Prop
  | o :: os, d :: ds, i, a =>
    (∀ (S : Nat → Prop) w, C S w → UvS all A dl0 V S w → (∀ k, k ∈ d → S k) → ¬ S i → ∀ K : Act → World → Prop, (∀ v w', C (ad i S) w' → (∀ j, S j → ((all (ad i S)).getD j (fun _ _ => True)) (V j) w') → w.heap.size ≤ w'.heap.size → ((all (ad i S)).getD i (fun _ _ => True)) v w' → fr A i w v w' → K (a.put o.dst v) w') →
      if Region.wanted o (yielded ops a.tmps) = true then o.wp P a w K (fun _ _ _ => False) else K (a.put o.dst undef) w) ∧
    uvGoals P ops C all A dl0 V os ds (i + 1) (a.put o.dst (V i))
  | _, _, _, _ => True

structure UvInv (ops : Array Oper) (C : (Nat → Prop) → World → Prop) (posts : (Nat → Value) → (Nat → Prop) → List (Value → World → Prop)) (A : List Nat) (a0 : Act) (V : Nat → Value) (listed : Array Bool) (a : Act) (w : World) : Prop where
  size : listed.size = ops.size
  tmps : a.tmps.size = a0.tmps.size
  defers : a.defers = a0.defers
  c : C (LS listed) w
  got : ∀ (j : Nat) (o : Oper), ops[j]? = some o → listed[j]? = some true → ∀ t, o.dst = some t → a.tmps[t]? = some (V j)
  post : ∀ (j : Nat) (o : Oper), ops[j]? = some o → listed[j]? = some true → ((posts V (LS listed)).getD j (fun _ _ => True)) (V j) w
  same : ∀ t, (∀ (j : Nat) (o : Oper), ops[j]? = some o → listed[j]? = some true → o.dst ≠ some t) → a.tmps[t]? = a0.tmps[t]?
  down : ∀ (j : Nat) (o : Oper), ops[j]? = some o → listed[j]? = some true → ∀ k, pre o k = true → listed[k]? = some true
  frA : ∀ i, A.contains i = true → listed[i]? = some true → ∃ b, blkOf (V i) = some b ∧ b < w.heap.size
  neA : ∀ i j, A.contains i = true → A.contains j = true → i ≠ j → listed[i]? = some true → listed[j]? = some true → blkOf (V i) ≠ blkOf (V j)

section
variable {P : Program} {ops : Array Oper} {C : (Nat → Prop) → World → Prop} {posts : (Nat → Value) → (Nat → Prop) → List (Value → World → Prop)} {A : List Nat} {dl : List (List Nat)} {N T : Nat} {a0 : Act}

/-- As the elder law's. -/
theorem UvInv.old {V : Nat → Value} {listed : Array Bool} {a : Act} {w : World} (hI : UvInv ops C posts A a0 V listed a w) : UgInv ops (fun _ => True) (fun _ => []) A a0 V listed a w :=
  ⟨hI.size, hI.tmps, hI.defers, trivial, hI.got, fun _ _ _ _ => by simp, hI.same, hI.down, hI.frA, hI.neA⟩

theorem uvGoals_at {V : Nat → Value} {dl0 : List (List Nat)} : ∀ (os : List Oper) (ds : List (List Nat)) (k : Nat) (a : Act), uvGoals P ops C (posts V) A dl0 V os ds k a →
    ∀ (m : Nat) (o : Oper) (d : List Nat), os[m]? = some o → ds[m]? = some d →
    ∀ (S : Nat → Prop) w, C S w → UvS (posts V) A dl0 V S w → (∀ k, k ∈ d → S k) → ¬ S (k + m) → ∀ K : Act → World → Prop, (∀ v w', C (ad (k + m) S) w' → (∀ j, S j → ((posts V (ad (k + m) S)).getD j (fun _ _ => True)) (V j) w') → w.heap.size ≤ w'.heap.size → ((posts V (ad (k + m) S)).getD (k + m) (fun _ _ => True)) v w' → fr A (k + m) w v w' → K ((putAll (os.take m) V k a).put o.dst v) w') →
      if Region.wanted o (yielded ops (putAll (os.take m) V k a).tmps) = true then o.wp P (putAll (os.take m) V k a) w K (fun _ _ _ => False) else K ((putAll (os.take m) V k a).put o.dst undef) w
  | [], _, _, _, _, m, o, d, h, _ => by simp at h
  | _ :: _, [], _, _, _, m, o, d, _, h => by simp at h
  | o1 :: os, d1 :: ds, k, a, hg, 0, o, d, h1, h3 => by
    simp at h1 h3; subst h1 h3
    exact hg.1
  | o1 :: os, d1 :: ds, k, a, hg, m + 1, o, d, h1, h3 => by
    rw [show k + (m + 1) = k + 1 + m from by omega]
    exact uvGoals_at os ds (k + 1) _ hg.2 m o d (by simpa using h1) (by simpa using h3)

theorem uv_walk_tail {Q : Exit → Act → World → Prop} (hN : a0.tmps.size = N) (hok : ∀ i o, ops[i]? = some o → RgOk ops dl N i o) (hdl : dl.length = ops.size) (hpl : ∀ V S, (posts V S).length = T) (hT : T < ops.size)
    (hs : Region.sinkB .any ops T = true) (hc : Region.chainB .any ops T = true) (hseq : Region.seqB .any ops (ops.size - T) T ((Array.range ops.size).map (fun i => decide (i < T))) = true)
    (hPc : ∀ V S i v j, i ∉ dl.getD j [] → (posts (fun k => if k = i then v else V k) S).getD j (fun _ _ => True) = (posts V S).getD j (fun _ _ => True)) (hgoals : ∀ V, uvGoals P ops C (posts V) A dl V (ops.toList.take T) dl 0 a0)
    (hQ : ∀ V S w, (∀ j, j < (posts V S).length → S j) → C S w → postsHold V w (posts V S) 0 → (∀ i j, i < (posts V S).length → j < (posts V S).length → A.contains i = true → A.contains j = true → i ≠ j → blkOf (V i) ≠ blkOf (V j)) → wpList P ops Q (ops.toList.drop T) (putAll (ops.toList.take T) V 0 a0) w) :
    ∀ (fuel : Nat) (listed : Array Bool) (a : Act) (w : World) (V : Nat → Value), (List.range T).countP (fun i => listed[i]? != some true) = fuel → HeadInv .any ops T listed → UvInv ops C posts A a0 V listed a w → wpAny P .any ops Q (fuel + (ops.size - T)) listed a w := by
  -- what stands when the head is listed
  have fin : ∀ (listed : Array Bool) (a : Act) (w : World) (V : Nat → Value), HeadInv .any ops T listed → UvInv ops C posts A a0 V listed a w → (∀ i, i < T → listed[i]? = some true) → wpAny P .any ops Q (0 + (ops.size - T)) listed a w := by
    intro listed a w V inv hI hall
    have hnone : ∀ j, T ≤ j → listed[j]? ≠ some true := by
      intro j hj h
      by_cases hjs : j < ops.size
      · have h1 := inv.tail j hj hjs
        rw [Array.getD_eq_getD_getElem?, h] at h1
        cases h1
      · have hsz := inv.size
        rw [Array.getElem?_eq_none (by omega)] at h
        cases h
    have hmem : ∀ m o, (ops.toList.take T)[m]? = some o → m < T ∧ ops[m]? = some o := by
      intro m o hm
      rw [List.getElem?_take] at hm
      split at hm
      · exact ⟨by assumption, by simpa using hm⟩
      · cases hm
    have ha : a = putAll (ops.toList.take T) V 0 a0 := by
      have h1 : a.tmps = (putAll (ops.toList.take T) V 0 a0).tmps := by
        apply Array.ext_getElem?
        intro t
        by_cases hex : ∃ (j : Nat) (oj : Oper), ops[j]? = some oj ∧ oj.dst = some t ∧ j < T
        · obtain ⟨j, oj, hj, hjd, hjT⟩ := hex
          rw [hI.got j oj hj (hall j hjT) t hjd]
          rw [putAll_get_some V _ 0 a0 j oj (by rw [List.getElem?_take, if_pos hjT]; simpa using hj) hjd (by rw [hN]; exact (hok _ _ hj).dst t hjd)
            (fun m' o' hm' hne hd' => (hok _ _ hj).one m' o' (hmem m' o' hm').2 hne t hd' hjd)]
          simp
        · rw [hI.same t (fun j' o' hj' hl' hd' => hex ⟨j', o', hj', hd', by
            rcases Nat.lt_or_ge j' T with h | h
            · exact h
            · exact absurd hl' (hnone j' h)⟩), putAll_get_none V _ 0 a0 (fun m o' hm hd' => hex ⟨m, o', (hmem m o' hm).2, hd', (hmem m o' hm).1⟩)]
      have h2 : a.defers = (putAll (ops.toList.take T) V 0 a0).defers := hI.defers.trans (putAll_defers V _ _ _).symm
      cases a; simp only at h1 h2; subst h1 h2; rfl
    have hq := hQ V (LS listed) w (fun j hj => hall j (by have := hpl V (LS listed); omega)) hI.c (postsHold_of (posts V (LS listed)) 0 (fun j p hj => by
      have hlt : j < T := by rw [← hpl V (LS listed)]; exact (List.getElem?_eq_some_iff.1 hj).1
      have := hI.post j ops[j] (Array.getElem?_eq_getElem (by omega)) (hall j hlt)
      rw [Nat.zero_add]
      simpa [List.getD_eq_getElem?_getD, hj] using this)) (fun i j hi hj h1 h2 hne => hI.neA i j h1 h2 hne (hall i (by have := hpl V (LS listed); omega)) (hall j (by have := hpl V (LS listed); omega)))
    rw [ha]
    have hdl2 : (ops.toList.drop T).length = ops.size - T := by simp
    have hall2 := headInv_all inv hall (by omega)
    have := wpAny_of_seq (md := .any) (Q' := Q) (ops.toList.drop T) T listed _ w (fun j => by simp [List.getElem?_drop]) (by rw [hdl2, hall2]; exact hseq) hq
    rw [hdl2] at this
    rw [Nat.zero_add]
    exact this
  intro fuel
  induction fuel with
  | zero =>
    intro listed a w V hc0 inv hI
    refine fin listed a w V inv hI (fun i hi => ?_)
    rw [List.countP_eq_zero] at hc0
    simpa using hc0 i (by simpa using hi)
  | succ fuel ih =>
    intro listed a w V hc0 inv hI
    obtain ⟨i0, hi0, hun0⟩ : ∃ i0, i0 < T ∧ listed.getD i0 true = false := by
      have hpos : 0 < (List.range T).countP (fun i => listed[i]? != some true) := by omega
      rw [List.countP_pos_iff] at hpos
      obtain ⟨i0, h1, h2⟩ := hpos
      have h1 : i0 < T := by simpa using h1
      refine ⟨i0, h1, ?_⟩
      rw [Array.getD_eq_getD_getElem?]
      rw [Array.getElem?_eq_getElem (by rw [hI.size]; omega)] at h2 ⊢
      simpa using h2
    have hready := tail_waits hs hc hT inv _ i0 rfl hi0 hun0
    rw [show fuel + 1 + (ops.size - T) = (fuel + (ops.size - T)) + 1 by omega]
    refine ⟨fun hr => ?_, fun i hi => ?_⟩
    · exfalso
      have done : ∀ i, i < ops.size → listed[i]? = some true := by
        intro i
        induction i using Nat.strongRecOn with
        | ind i ih =>
          intro hi
          by_cases h : listed[i]? = some true
          · exact h
          exfalso
          have hmem : i ∈ Region.ready .any ops listed := by
            unfold Region.ready
            rw [List.mem_filter]
            refine ⟨by simpa using hi, ?_⟩
            have hl : listed.getD i true = false := by
              rw [Array.getD_eq_getD_getElem?]
              rw [Array.getElem?_eq_getElem (by rw [hI.size]; omega)] at h ⊢
              simpa using h
            rw [hl, Array.getElem?_eq_getElem hi]
            simp only [Bool.not_false, Bool.true_and, Option.map_some, Option.getD_some]
            rw [Array.all_eq_true']
            intro e he
            by_cases hb : Region.binds .any e = true
            · have hp := pre_spec he hb
              have hlt := (hok _ _ (Array.getElem?_eq_getElem hi)).lt e.on hp
              rw [Array.getD_eq_getD_getElem?, ih e.on hlt (by omega)]
              simp
            · simp [hb]
          rw [hr] at hmem
          exact absurd hmem (by simp)
      have h1 := inv.tail T (Nat.le_refl _) hT
      rw [Array.getD_eq_getD_getElem?, done T hT] at h1
      cases h1
    have hiT : i < T := by
      rcases Nat.lt_or_ge i T with h | h
      · exact h
      · exact absurd hi (hready i h)
    have inv' := inv.set hi hiT
    unfold Region.ready at hi
    rw [List.mem_filter] at hi
    obtain ⟨hir, hi2⟩ := hi
    have hir : i < ops.size := by simpa using hir
    rw [Bool.and_eq_true] at hi2
    obtain ⟨hnl, haft⟩ := hi2
    have hnl' : listed[i]? = some false := by
      rw [Array.getD_eq_getD_getElem?, Array.getElem?_eq_getElem (by rw [hI.size]; exact hir)] at hnl
      rw [Array.getElem?_eq_getElem (by rw [hI.size]; exact hir)]
      simpa using hnl
    have ho : ops[i]? = some ops[i] := Array.getElem?_eq_getElem hir
    have hpre : ∀ k, pre ops[i] k = true → listed[k]? = some true := by
      intro k hk
      obtain ⟨e, he, rfl, hb⟩ := pre_mem hk
      rw [ho, Option.map_some, Option.getD_some, Array.all_eq_true'] at haft
      have := haft e he
      simp only [hb, Bool.not_true, Bool.false_or, Array.getD_eq_getD_getElem?] at this
      have hlt := (hok _ _ ho).lt e.on hk
      rw [Array.getElem?_eq_getElem (by rw [hI.size]; omega)] at this ⊢
      simpa using this
    have hilt : i < listed.size := by rw [hI.size]; exact hir
    -- the step
    have hd : dl[i]? = some (dl.getD i []) := by
      have : i < dl.length := by omega
      simp [this]
    have hin : ∀ j, LS listed j → j < ops.size := fun j hj => by have h := (Array.getElem?_eq_some_iff.1 hj).1; rw [hI.size] at h; exact h
    have hLS : LS (listed.setIfInBounds i true) = ad i (LS listed) := funext fun k => propext (Array.get?_setTrue hilt)
    have hlook := hI.old.looks hN hok ho (by rw [hnl']; simp) hpre
    have hgo := uvGoals_at (ops.toList.take T) dl 0 a0 (hgoals V) i ops[i] _ (by rw [List.getElem?_take, if_pos hiT]; simp) hd (LS listed) w hI.c
      ⟨fun j hj => hI.post j _ (Array.getElem?_eq_getElem (hin j hj)) hj, fun j hj k hk => hI.down j _ (Array.getElem?_eq_getElem (hin j hj)) hj k ((hok j _ (Array.getElem?_eq_getElem (hin j hj))).dl k hk), fun i ha hs => hI.frA i ha hs, fun i j h1 h2 h3 h4 h5 => hI.neA i j h1 h2 h3 h4 h5⟩
      (fun j hj => hpre j ((hok _ _ ho).dl j hj)) (by rw [Nat.zero_add]; intro h; rw [LS, hnl'] at h; cases h)
    rw [Nat.zero_add] at hgo
    rw [List.take_take, Nat.min_eq_left (Nat.le_of_lt hiT)] at hgo
    -- the invariant behind it
    have hnext : ∀ v w', (C (ad i (LS listed)) w' ∧ (∀ j, LS listed j → ((posts V (ad i (LS listed))).getD j (fun _ _ => True)) (V j) w') ∧ w.heap.size ≤ w'.heap.size ∧ fr A i w v w') → ((posts V (ad i (LS listed))).getD i (fun _ _ => True)) v w' → wpAny P .any ops Q (fuel + (ops.size - T)) (listed.setIfInBounds i true) (a.put ops[i].dst v) w' := by
      rintro v w' ⟨hc', hkeep, hsz, hfr⟩ hpv
      refine ih _ _ _ (fun k => if k = i then v else V k) ?_ inv' ?_
      · have hlt : (List.range T).countP (fun k => (listed.setIfInBounds i true)[k]? != some true) + 1 = (List.range T).countP (fun k => listed[k]? != some true) := by
          rw [List.countP_eq_length_filter, List.countP_eq_length_filter]
          have hsub : (List.range T).filter (fun k => (listed.setIfInBounds i true)[k]? != some true) = ((List.range T).filter (fun k => listed[k]? != some true)).erase i := by
            rw [(List.Nodup.sublist List.filter_sublist List.nodup_range).erase_eq_filter, List.filter_filter]
            apply List.filter_congr
            intro k hk
            by_cases e : k = i
            · subst e; simp [hilt]
            · rw [Array.getElem?_setIfInBounds_ne (Ne.symm e)]; simp [e]
          rw [hsub, List.length_erase_of_mem (by rw [List.mem_filter]; exact ⟨by simpa using hiT, by rw [hnl']; rfl⟩)]
          have : 0 < ((List.range T).filter (fun k => listed[k]? != some true)).length :=
            List.length_pos_of_mem (a := i) (by rw [List.mem_filter]; exact ⟨by simpa using hiT, by rw [hnl']; rfl⟩)
          omega
        omega
      · refine ⟨by simp [hI.size], by rw [put_size, hI.tmps], by rw [put_defers, hI.defers], (by rw [hLS]; exact hc'), ?_, ?_, ?_, ?_, ?_, ?_⟩
        · intro j o hj hl t ht
          rcases (Array.get?_setTrue hilt).1 hl with rfl | hl2
          · rw [ho] at hj; cases hj
            simp only [if_true]
            rw [ht]; exact put_get (by rw [hI.tmps, hN]; exact (hok _ _ ho).dst t ht)
          · have hji : j ≠ i := fun e => by rw [e, hnl'] at hl2; cases hl2
            rw [if_neg hji, put_get_ne ((hok _ _ ho).one j o hj hji t ht)]
            exact hI.got j o hj hl2 t ht
        · intro j o hj hl
          rcases (Array.get?_setTrue hilt).1 hl with rfl | hl2
          · rw [hLS, hPc V _ _ v _ (fun hm => by
              have h1 := hpre _ ((hok _ _ ho).dl _ hm)
              rw [hnl'] at h1; cases h1)]
            simp only [if_true]; exact hpv
          · have hji : j ≠ i := fun e => by rw [e, hnl'] at hl2; cases hl2
            rw [hLS, hPc V _ _ v _ (fun hm => by
              have h1 := hI.down j o hj hl2 _ ((hok _ _ hj).dl _ hm)
              rw [hnl'] at h1; cases h1)]
            simp only [if_neg hji]
            exact hkeep j hl2
        · intro t ht
          rw [put_get_ne (ht i _ ho ((Array.get?_setTrue hilt).2 (.inl rfl)))]
          exact hI.same t (fun j o hj hl => ht j o hj ((Array.get?_setTrue hilt).2 (.inr hl)))
        · intro j o hj hl k hk
          rw [Array.get?_setTrue hilt]
          rcases (Array.get?_setTrue hilt).1 hl with rfl | hl2
          · rw [ho] at hj; cases hj
            exact .inr (hpre k hk)
          · exact .inr (hI.down j o hj hl2 k hk)
        · intro j hj hl
          rcases (Array.get?_setTrue hilt).1 hl with rfl | hl2
          · simp only [if_true]
            obtain ⟨b, h1, _, h3⟩ := hfr hj
            exact ⟨b, h1, h3⟩
          · have hji : j ≠ i := fun e => by rw [e, hnl'] at hl2; cases hl2
            simp only [if_neg hji]
            obtain ⟨b, h1, h2⟩ := hI.frA j hj hl2
            exact ⟨b, h1, Nat.lt_of_lt_of_le h2 hsz⟩
        · intro j j2 hj hj2 hne hl hl2
          rcases (Array.get?_setTrue hilt).1 hl with rfl | hl3
          · rcases (Array.get?_setTrue hilt).1 hl2 with rfl | hl4
            · exact absurd rfl hne
            · simp only [if_true, if_neg (Ne.symm hne)]
              obtain ⟨b, h1, h2, _⟩ := hfr hj
              obtain ⟨b2, h3, h4⟩ := hI.frA j2 hj2 hl4
              rw [h1, h3]; intro e; cases e; omega
          · have hji : j ≠ i := fun e => by rw [e, hnl'] at hl3; cases hl3
            rcases (Array.get?_setTrue hilt).1 hl2 with rfl | hl4
            · simp only [if_true, if_neg hji]
              obtain ⟨b, h1, h2, _⟩ := hfr hj2
              obtain ⟨b2, h3, h4⟩ := hI.frA j hj hl3
              rw [h1, h3]; intro e; cases e; omega
            · have hji2 : j2 ≠ i := fun e => by rw [e, hnl'] at hl4; cases hl4
              simp only [if_neg hji, if_neg hji2]
              exact hI.neA j j2 hj hj2 hne hl3 hl4
    unfold wpOp
    rw [ho]
    show if Region.wanted ops[i] (yielded ops a.tmps) = true then _ else _
    have hsel := (hok _ _ ho).sel
    have hEx : execOp a.eval ops[i] = execOp (putAll (ops.toList.take i) V 0 a0).eval ops[i] :=
      execOp_congr ops[i] hsel (fun x hx => eval_congr_get (fun t ht => hlook t (by
        subst ht
        exact List.mem_append_left _ (List.mem_filterMap.2 ⟨.tmp t, by simpa using hx, rfl⟩))))
    rw [yielded_congr hlook]
    split
    · rename_i hw
      left
      have hgo := hgo (fun b w' => ∃ v, b = (putAll (ops.toList.take i) V 0 a0).put ops[i].dst v ∧ (C (ad i (LS listed)) w' ∧ (∀ j, LS listed j → ((posts V (ad i (LS listed))).getD j (fun _ _ => True)) (V j) w') ∧ w.heap.size ≤ w'.heap.size ∧ fr A i w v w') ∧ ((posts V (ad i (LS listed))).getD i (fun _ _ => True)) v w') (fun v w' h0 h1 h2 h3 h4 => ⟨v, rfl, ⟨h0, h1, h2, h4⟩, h3⟩)
      rw [if_pos hw] at hgo
      exact wp_carry (R := fun v w' => (C (ad i (LS listed)) w' ∧ (∀ j, LS listed j → ((posts V (ad i (LS listed))).getD j (fun _ _ => True)) (V j) w') ∧ w.heap.size ≤ w'.heap.size ∧ fr A i w v w') ∧ ((posts V (ad i (LS listed))).getD i (fun _ _ => True)) v w') hEx (by rw [hI.tmps, putAll_size]) hgo (fun v w' ⟨h1, h2⟩ => hnext v w' h1 h2)
    · rename_i hw
      have hgo := hgo (fun b w' => ∃ v, b = (putAll (ops.toList.take i) V 0 a0).put ops[i].dst v ∧ (C (ad i (LS listed)) w' ∧ (∀ j, LS listed j → ((posts V (ad i (LS listed))).getD j (fun _ _ => True)) (V j) w') ∧ w.heap.size ≤ w'.heap.size ∧ fr A i w v w') ∧ ((posts V (ad i (LS listed))).getD i (fun _ _ => True)) v w')
        (fun v w' h0 h1 h2 h3 h4 => ⟨v, rfl, ⟨h0, h1, h2, h4⟩, h3⟩)
      rw [if_neg hw] at hgo
      obtain ⟨v, h1, h2, h3⟩ := hgo
      have e : a.put ops[i].dst undef = a.put ops[i].dst v := by
        cases hd : ops[i].dst with
        | none => rfl
        | some d =>
          rw [hd] at h1
          have hlt : d < (putAll (ops.toList.take i) V 0 a0).tmps.size := by rw [putAll_size, hN]; exact (hok _ _ ho).dst d hd
          have := congrArg (fun x : Act => x.tmps[d]?) h1
          simp only [put_get hlt] at this
          rw [Option.some.inj this]
      rw [e]
      exact hnext v w h2 h3

theorem wp_region_uv_tail {id : Nat} {Q : Exit → Act → World → Prop} {w0 : World} (T : Nat) (C : (Nat → Prop) → World → Prop) (posts : (Nat → Value) → (Nat → Prop) → List (Value → World → Prop)) (A : List Nat) (dl : List (List Nat)) (N : Nat)
    (hm : P.follows .mixedOrders = true) (hN : a0.tmps.size = N)
    (hchk : (rgCheck ops dl N && decide (T < ops.size) && Region.sinkB .any ops T && Region.chainB .any ops T && Region.seqB .any ops (ops.size - T) T ((Array.range ops.size).map (fun i => decide (i < T)))) = true) (hpl : ∀ V S, (posts V S).length = T)
    (hC0 : ∀ S : Nat → Prop, (∀ k, ¬ S k) → C S w0.drew) (hPc : ∀ V S i v j, i ∉ dl.getD j [] → (posts (fun k => if k = i then v else V k) S).getD j (fun _ _ => True) = (posts V S).getD j (fun _ _ => True)) (hgoals : ∀ V, uvGoals P ops C (posts V) A dl V (ops.toList.take T) dl 0 a0)
    (hQ : ∀ V S w, (∀ j, j < (posts V S).length → S j) → C S w → postsHold V w (posts V S) 0 → (∀ i j, i < (posts V S).length → j < (posts V S).length → A.contains i = true → A.contains j = true → i ≠ j → blkOf (V i) ≠ blkOf (V j)) → wpList P ops Q (ops.toList.drop T) (putAll (ops.toList.take T) V 0 a0) w) : (Code.region id ops true).wp P Q a0 w0 := by
  simp only [Bool.and_eq_true, decide_eq_true_eq] at hchk
  obtain ⟨⟨⟨⟨h1, hT⟩, h2⟩, h3⟩, h4⟩ := hchk
  obtain ⟨hdl, hok⟩ := rgOk_of_check h1
  have inv0 : HeadInv .any ops T (Array.replicate ops.size false) :=
    ⟨by simp, fun j oj _ hl => (by rw [getD_replicate_false] at hl; cases hl), fun t _ ht => getD_in (by simpa using ht) (getD_replicate_false _ _)⟩
  have hcnt : (List.range T).countP (fun i => (Array.replicate ops.size false)[i]? != some true) = T := by
    have : (List.range T).countP (fun i => (Array.replicate ops.size false)[i]? != some true) = (List.range T).length := by
      rw [List.countP_eq_length]
      intro i hi
      simp [Array.getElem?_replicate]
    rw [this]; simp
  have := uv_walk_tail (Q := Q) hN hok hdl hpl hT h2 h3 h4 hPc hgoals hQ T _ a0 _ (fun _ => undef) hcnt inv0 ⟨by simp, rfl, rfl, hC0 _ (fun k hk => by simp [LS, Array.getElem?_replicate] at hk), ?_, ?_, fun _ _ => rfl, ?_, ?_, ?_⟩
  · refine wp_region_any hm ?_
    rw [show T + (ops.size - T) = ops.size by omega] at this
    exact this
  · intro j o hj hl
    simp [Array.getElem?_replicate] at hl
  · intro j o hj hl
    simp [Array.getElem?_replicate] at hl
  · intro j o hj hl
    simp [Array.getElem?_replicate] at hl
  · intro j hj hl
    simp [Array.getElem?_replicate] at hl
  · intro j j2 hj hj2 hne hl
    simp [Array.getElem?_replicate] at hl


def uvnGoals (P : Program) (ops : Array Oper) (C : (Nat → Prop) → World → Prop) (all : (Nat → Prop) → List (Value → World → Prop)) (A : List Nat) (dl0 : List (List Nat)) (V : Nat → Value) : List Oper → List (List Nat) → Nat → List (Nat × Value) → Prop
  | o :: os, d :: ds, i, L =>
    (∀ (S : Nat → Prop) w, C S w → UvS all A dl0 V S w → (∀ k, k ∈ d → S k) → ¬ S i → unOp P ops L o w (fun v w' => (C (ad i S) w' ∧ (∀ j, S j → ((all (ad i S)).getD j (fun _ _ => True)) (V j) w') ∧ w.heap.size ≤ w'.heap.size) ∧ ((all (ad i S)).getD i (fun _ _ => True)) v w' ∧ fr A i w v w')) ∧
    uvnGoals P ops C all A dl0 V os ds (i + 1) (ins o.dst (V i) L)
  | _, _, _, _ => True

theorem uvn_rg {V : Nat → Value} {dl0 : List (List Nat)} : ∀ (os : List Oper) (ds : List (List Nat)) (i : Nat) (L : List (Nat × Value)) (a : Act), Fr N a L → (∀ o ∈ os, dstOk N o.dst = true) → uvnGoals P ops C (posts V) A dl0 V os ds i L → uvGoals P ops C (posts V) A dl0 V os ds i a
  | [], _, _, _, _, _, _, _ => trivial
  | _ :: _, [], _, _, _, _, _, _ => trivial
  | o :: os, d :: ds, i, L, a, hf, hd, h => by
    refine ⟨fun S w hC hS hdp hi K hK => ?_, uvn_rg os ds (i + 1) _ _ (hf.ins (V i) (hd o (by simp))) (fun o' ho => hd o' (by simp [ho])) h.2⟩
    have h1 := h.1 S w hC hS hdp hi
    unfold unOp at h1
    cases hg : o.guard with
    | none =>
      rw [hg] at h1
      have hw : Region.wanted o (yielded ops a.tmps) = true := by simp [Region.wanted, hg]
      rw [if_pos hw]
      exact h1 a K _ (fun x v e => hf.ev e) (fun v w' hr => hK v w' hr.1.1 hr.1.2.1 hr.1.2.2 hr.2.1 hr.2.2)
    | some gw =>
      obtain ⟨g, want⟩ := gw
      rw [hg] at h1
      obtain ⟨ag, c, hy, ht, hfl⟩ := h1
      rw [wanted_of hf hg hy]
      cases hact : (ag && (c == want)) with
      | true => rw [if_pos rfl]; exact ht hact a K _ (fun x v e => hf.ev e) (fun v w' hr => hK v w' hr.1.1 hr.1.2.1 hr.1.2.2 hr.2.1 hr.2.2)
      | false => rw [if_neg (by simp)]; exact hK _ _ (hfl hact).1.1 (hfl hact).1.2.1 (hfl hact).1.2.2 (hfl hact).2.1 (hfl hact).2.2

theorem wp_region_vnT {L0 : List (Nat × Value)} {id : Nat} {Q : Exit → Act → World → Prop} {w0 : World} (T : Nat) (C : (Nat → Prop) → World → Prop) (posts : (Nat → Value) → (Nat → Prop) → List (Value → World → Prop)) (A : List Nat) (dl : List (List Nat)) (hf : Fr N a0 L0)
    (hm : P.follows .mixedOrders = true)
    (hchk : (rgCheck ops dl N && decide (T < ops.size) && Region.sinkB .any ops T && Region.chainB .any ops T && Region.seqB .any ops (ops.size - T) T ((Array.range ops.size).map (fun i => decide (i < T)))) = true) (hdst : ops.toList.all (fun o => dstOk N o.dst) = true) (hpl : ∀ V S, (posts V S).length = T)
    (hC0 : ∀ S : Nat → Prop, (∀ k, ¬ S k) → C S w0.drew) (hPc : ∀ V S i v j, i ∉ dl.getD j [] → (posts (fun k => if k = i then v else V k) S).getD j (fun _ _ => True) = (posts V S).getD j (fun _ _ => True)) (hgoals : ∀ V, uvnGoals P ops C (posts V) A dl V (ops.toList.take T) dl 0 L0)
    (hQ : ∀ V S w a, (∀ j, j < (posts V S).length → S j) → C S w → postsHold V w (posts V S) 0 → (∀ i j, i < (posts V S).length → j < (posts V S).length → A.contains i = true → A.contains j = true → i ≠ j → blkOf (V i) ≠ blkOf (V j)) → Fr N a (insAll (ops.toList.take T) V 0 L0) → wpList P ops Q (ops.toList.drop T) a w) : (Code.region id ops true).wp P Q a0 w0 := by
  rw [List.all_eq_true] at hdst
  exact wp_region_uv_tail T C posts A dl N hm hf.size hchk hpl hC0 hPc (fun V => uvn_rg _ _ _ _ _ hf (fun o ho => hdst o (List.mem_of_mem_take ho)) (hgoals V)) (fun V S w hj hc hp hn => hQ V S w _ hj hc hp hn (un_fr _ _ _ _ hf (fun o ho => hdst o (List.mem_of_mem_take ho))))

/-- An operation that writes nothing that was there. -/
theorem uv_plain {all : (Nat → Prop) → List (Value → World → Prop)} {dl0 : List (List Nat)} {V : Nat → Value} {S : Nat → Prop} {w : World} {L : List (Nat × Value)} {o : Oper} {i : Nat} (hK : ∀ j v w', ((all S).getD j (fun _ _ => True)) v w → Below w.heap.size w w' → ((all (ad i S)).getD j (fun _ _ => True)) v w') (hCB : ∀ w', C S w → Below w.heap.size w w' → C (ad i S) w') (hC : C S w) (hS : UvS all A dl0 V S w)
    (h : unOp P ops L o w (fun v w' => Below w.heap.size w w' ∧ ((all (ad i S)).getD i (fun _ _ => True)) v w' ∧ fr A i w v w')) : unOp P ops L o w (fun v w' => (C (ad i S) w' ∧ (∀ j, S j → ((all (ad i S)).getD j (fun _ _ => True)) (V j) w') ∧ w.heap.size ≤ w'.heap.size) ∧ ((all (ad i S)).getD i (fun _ _ => True)) v w' ∧ fr A i w v w') := by
  have key : ∀ v w', (Below w.heap.size w w' ∧ ((all (ad i S)).getD i (fun _ _ => True)) v w' ∧ fr A i w v w') → ((C (ad i S) w' ∧ (∀ j, S j → ((all (ad i S)).getD j (fun _ _ => True)) (V j) w') ∧ w.heap.size ≤ w'.heap.size) ∧ ((all (ad i S)).getD i (fun _ _ => True)) v w' ∧ fr A i w v w') :=
    fun v w' h => ⟨⟨hCB w' hC h.1, fun j hj => hK j _ w' (hS.post j hj) h.1, h.1.size⟩, h.2⟩
  unfold unOp at h ⊢
  cases hg : o.guard with
  | none => rw [hg] at h; exact Does.mono h key
  | some gw =>
    rw [hg] at h
    obtain ⟨ag, c, hy, ht, hfl⟩ := h
    exact ⟨ag, c, hy, fun ha => Does.mono (ht ha) key, fun ha => key _ _ (hfl ha)⟩
end

/-- A slice's literal without elements. -/
theorem d_bslice0 {P : Program} {L : List (Nat × Value)} {w : World} {d : Option Tmp} {ty : TypeId} {ps : String} {af : Array Edge} {gu : Option (Nat × Bool)} {t e : TypeId} {sz : Nat} (ht : P.underlying t = some (.slice e)) (hi : (P.info? e).map (fun i => i.size) = some sz) :
    Does P L ⟨d, .buildSlice t 0 #[], ty, ps, af, gu⟩ w (fun v w' => ∃ b, v = .slice (some ⟨b, 0, none⟩) 0 0 ∧ Fresh w #[] e b w') := by
  obtain ⟨ie, hie⟩ : ∃ ie, P.info? e = some ie := by
    cases hh : P.info? e with
    | none => rw [hh] at hi; cases hi
    | some ie => exact ⟨ie, rfl⟩
  refine Runs.does (v := .slice (some ⟨w.heap.size, 0, none⟩) 0 0) (w' := w.alloc (.cells #[] e)) (fun ρ hρ => ?_) ⟨_, rfl, fresh_alloc _ _ _⟩
  simp [execOp, Instr.buildSlice, run_underlying ht, sizeOf, typeInfo, hie, newRow, Instr.fill]
  rw [show (Array.range 0) = #[] from by simp]; simp
end Go.Proofs.Ytcmdajkkdognfaa

namespace Go.Proofs.Ytcmdajkkdognfaa
open Go.RowKit
set_option linter.unusedVariables false
set_option linter.unusedSimpArgs false
end Go.Proofs.Ytcmdajkkdognfaa

namespace Go.Proofs.Ytcmdajkkdognfaa.Ut
set_option linter.unusedVariables false
set_option linter.unusedSimpArgs false

/-- A sign's bytes. -/
def encB (c : Nat) : List Nat :=
  if 0x10ffff < c ∨ (0xd800 ≤ c ∧ c ≤ 0xdfff) then [] else if c < 0x80 then [c] else if c < 0x800 then [192 + c / 64, 128 + c % 64]
  else if c < 0x10000 then [224 + c / 4096, 128 + c / 64 % 64, 128 + c % 64] else [240 + c / 262144, 128 + c / 4096 % 64, 128 + c / 64 % 64, 128 + c % 64]

theorem encB_cases (c : Nat) : (encB c = [] ∧ (0x10ffff < c ∨ (0xd800 ≤ c ∧ c ≤ 0xdfff))) ∨ (encB c = [c] ∧ c < 0x80) ∨ (encB c = [192 + c / 64, 128 + c % 64] ∧ 0x80 ≤ c ∧ c < 0x800) ∨
    (encB c = [224 + c / 4096, 128 + c / 64 % 64, 128 + c % 64] ∧ 0x800 ≤ c ∧ c < 0x10000 ∧ ¬ (0xd800 ≤ c ∧ c ≤ 0xdfff)) ∨ (encB c = [240 + c / 262144, 128 + c / 4096 % 64, 128 + c / 64 % 64, 128 + c % 64] ∧ 0x10000 ≤ c ∧ c ≤ 0x10ffff) := by
  unfold encB
  by_cases h1 : 0x10ffff < c ∨ (0xd800 ≤ c ∧ c ≤ 0xdfff)
  · simp only [if_pos h1]; exact .inl ⟨trivial, h1⟩
  · simp only [if_neg h1]
    by_cases h2 : c < 0x80
    · simp only [if_pos h2]; exact .inr (.inl ⟨trivial, h2⟩)
    · simp only [if_neg h2]
      by_cases h3 : c < 0x800
      · simp only [if_pos h3]; exact .inr (.inr (.inl ⟨trivial, by omega, h3⟩))
      · simp only [if_neg h3]
        by_cases h4 : c < 0x10000
        · simp only [if_pos h4]; exact .inr (.inr (.inr (.inl ⟨trivial, by omega, h4, by omega⟩)))
        · simp only [if_neg h4]; exact .inr (.inr (.inr (.inr ⟨trivial, by omega, by omega⟩)))

theorem encB_one (v x : Nat) : encB v = [x] ↔ v < 128 ∧ x = v := by
  rcases encB_cases v with ⟨h, g⟩ | ⟨h, g⟩ | ⟨h, g⟩ | ⟨h, g⟩ | ⟨h, g⟩ <;> rw [h] <;> simp <;> omega
theorem encB_two (v x y : Nat) : encB v = [x, y] ↔ 128 ≤ v ∧ v < 0x800 ∧ x = 192 + v / 64 ∧ y = 128 + v % 64 := by
  rcases encB_cases v with ⟨h, g⟩ | ⟨h, g⟩ | ⟨h, g⟩ | ⟨h, g⟩ | ⟨h, g⟩ <;> rw [h] <;> simp <;> omega
theorem encB_three (v x y z : Nat) : encB v = [x, y, z] ↔ 0x800 ≤ v ∧ v < 0x10000 ∧ ¬ (0xd800 ≤ v ∧ v ≤ 0xdfff) ∧ x = 224 + v / 4096 ∧ y = 128 + v / 64 % 64 ∧ z = 128 + v % 64 := by
  rcases encB_cases v with ⟨h, g⟩ | ⟨h, g⟩ | ⟨h, g⟩ | ⟨h, g⟩ | ⟨h, g⟩ <;> rw [h] <;> simp <;> omega
theorem encB_four (v x y z u : Nat) : encB v = [x, y, z, u] ↔ 0x10000 ≤ v ∧ v ≤ 0x10ffff ∧ x = 240 + v / 262144 ∧ y = 128 + v / 4096 % 64 ∧ z = 128 + v / 64 % 64 ∧ u = 128 + v % 64 := by
  rcases encB_cases v with ⟨h, g⟩ | ⟨h, g⟩ | ⟨h, g⟩ | ⟨h, g⟩ | ⟨h, g⟩ <;> rw [h] <;> simp <;> omega

/-- The sign that bytes begin with, how many bytes: by trying. -/
def firstR : List Nat → Nat × Nat
  | [] => (0, 0)
  | a :: l =>
    if encB a = [a] then (a, 1) else
    match l with
    | [] => (0, 0)
    | b :: l =>
      if encB (a % 32 * 64 + b % 64) = [a, b] then (a % 32 * 64 + b % 64, 2) else
      match l with
      | [] => (0, 0)
      | c :: l =>
        if encB ((a % 16 * 64 + b % 64) * 64 + c % 64) = [a, b, c] then ((a % 16 * 64 + b % 64) * 64 + c % 64, 3) else
        match l with
        | [] => (0, 0)
        | d :: _ => if encB (((a % 8 * 64 + b % 64) * 64 + c % 64) * 64 + d % 64) = [a, b, c, d] then (((a % 8 * 64 + b % 64) * 64 + c % 64) * 64 + d % 64, 4) else (0, 0)

/-- The same, by the first byte. -/
def firstP : List Nat → Nat × Nat
  | [] => (0, 0)
  | a :: l =>
    if a < 0x80 then (a, 1) else
    if 0xc2 ≤ a ∧ a < 0xe0 then
      match l with
      | b :: _ => if b / 64 = 2 then (a % 32 * 64 + b % 64, 2) else (0, 0)
      | _ => (0, 0)
    else if 0xe0 ≤ a ∧ a < 0xf0 then
      match l with
      | b :: c :: _ => if b / 64 = 2 ∧ c / 64 = 2 then
          if (a % 16 * 64 + b % 64) * 64 + c % 64 < 0x800 ∨ ((a % 16 * 64 + b % 64) * 64 + c % 64) / 2048 = 0x1b then (0, 0) else ((a % 16 * 64 + b % 64) * 64 + c % 64, 3)
        else (0, 0)
      | _ => (0, 0)
    else if 0xf0 ≤ a ∧ a < 0xf5 then
      match l with
      | b :: c :: d :: _ => if b / 64 = 2 ∧ c / 64 = 2 ∧ d / 64 = 2 then
          if ((a % 8 * 64 + b % 64) * 64 + c % 64) * 64 + d % 64 < 0x10000 ∨ 0x10ffff < ((a % 8 * 64 + b % 64) * 64 + c % 64) * 64 + d % 64 then (0, 0) else (((a % 8 * 64 + b % 64) * 64 + c % 64) * 64 + d % 64, 4)
        else (0, 0)
      | _ => (0, 0)
    else (0, 0)

theorem first_one (a : Nat) (l : List Nat) (h : a < 0x80) : firstP (a :: l) = firstR (a :: l) := by
  simp only [firstP, firstR]
  rw [if_pos h, if_pos ((encB_one _ _).2 ⟨h, rfl⟩)]

theorem first_eq (l : List Nat) (h : ∀ x ∈ l, x < 256) : firstP l = firstR l := by
  cases l with
  | nil => rfl
  | cons a l =>
    have ha : a < 256 := h a (by simp)
    by_cases h1 : a < 0x80
    · exact first_one a l h1
    have n1 : ¬ encB a = [a] := fun e => h1 ((encB_one _ _).1 e).1
    cases l with
    | nil =>
      simp only [firstP, firstR]
      rw [if_neg h1, if_neg n1]
      repeat' (first | rfl | split)
    | cons b l =>
      have hb : b < 256 := h b (by simp)
      simp only [firstP, firstR]
      rw [if_neg h1, if_neg n1]
      by_cases h2 : 0xc2 ≤ a ∧ a < 0xe0
      · rw [if_pos h2]
        by_cases h3 : b / 64 = 2
        · rw [if_pos h3, if_pos ((encB_two _ _ _).2 (by omega))]
        · rw [if_neg h3, if_neg (show ¬ encB (a % 32 * 64 + b % 64) = [a, b] from fun e => by have := (encB_two _ _ _).1 e; omega)]
          cases l with
          | nil => rfl
          | cons c l =>
            have hc : c < 256 := h c (by simp)
            simp only
            rw [if_neg (show ¬ encB ((a % 16 * 64 + b % 64) * 64 + c % 64) = [a, b, c] from fun e => by have := (encB_three _ _ _ _).1 e; omega)]
            cases l with
            | nil => rfl
            | cons d l =>
              have hd : d < 256 := h d (by simp)
              simp only
              rw [if_neg (show ¬ encB (((a % 8 * 64 + b % 64) * 64 + c % 64) * 64 + d % 64) = [a, b, c, d] from fun e => by have := (encB_four _ _ _ _ _).1 e; omega)]
      · rw [if_neg h2, if_neg (show ¬ encB (a % 32 * 64 + b % 64) = [a, b] from fun e => by have := (encB_two _ _ _).1 e; omega)]
        cases l with
        | nil =>
          simp only
          repeat' (first | rfl | split)
        | cons c l =>
          have hc : c < 256 := h c (by simp)
          simp only
          by_cases h3 : 0xe0 ≤ a ∧ a < 0xf0
          · rw [if_pos h3]
            by_cases h4 : b / 64 = 2 ∧ c / 64 = 2
            · rw [if_pos h4]
              by_cases h5 : (a % 16 * 64 + b % 64) * 64 + c % 64 < 0x800 ∨ ((a % 16 * 64 + b % 64) * 64 + c % 64) / 2048 = 0x1b
              · rw [if_pos h5, if_neg (show ¬ encB ((a % 16 * 64 + b % 64) * 64 + c % 64) = [a, b, c] from fun e => by have := (encB_three _ _ _ _).1 e; omega)]
                cases l with
                | nil => rfl
                | cons d l =>
                  have hd : d < 256 := h d (by simp)
                  simp only
                  rw [if_neg (show ¬ encB (((a % 8 * 64 + b % 64) * 64 + c % 64) * 64 + d % 64) = [a, b, c, d] from fun e => by have := (encB_four _ _ _ _ _).1 e; omega)]
              · rw [if_neg h5, if_pos ((encB_three _ _ _ _).2 (by omega))]
            · rw [if_neg h4, if_neg (show ¬ encB ((a % 16 * 64 + b % 64) * 64 + c % 64) = [a, b, c] from fun e => by have := (encB_three _ _ _ _).1 e; omega)]
              cases l with
              | nil => rfl
              | cons d l =>
                have hd : d < 256 := h d (by simp)
                simp only
                rw [if_neg (show ¬ encB (((a % 8 * 64 + b % 64) * 64 + c % 64) * 64 + d % 64) = [a, b, c, d] from fun e => by have := (encB_four _ _ _ _ _).1 e; omega)]
          · rw [if_neg h3, if_neg (show ¬ encB ((a % 16 * 64 + b % 64) * 64 + c % 64) = [a, b, c] from fun e => by have := (encB_three _ _ _ _).1 e; omega)]
            cases l with
            | nil =>
              simp only
              split <;> rfl
            | cons d l =>
              have hd : d < 256 := h d (by simp)
              simp only
              by_cases h4 : 0xf0 ≤ a ∧ a < 0xf5
              · rw [if_pos h4]
                by_cases h5 : b / 64 = 2 ∧ c / 64 = 2 ∧ d / 64 = 2
                · rw [if_pos h5]
                  by_cases h6 : ((a % 8 * 64 + b % 64) * 64 + c % 64) * 64 + d % 64 < 0x10000 ∨ 0x10ffff < ((a % 8 * 64 + b % 64) * 64 + c % 64) * 64 + d % 64
                  · rw [if_pos h6, if_neg (show ¬ encB (((a % 8 * 64 + b % 64) * 64 + c % 64) * 64 + d % 64) = [a, b, c, d] from fun e => by have := (encB_four _ _ _ _ _).1 e; omega)]
                  · rw [if_neg h6, if_pos ((encB_four _ _ _ _ _).2 (by omega))]
                · rw [if_neg h5, if_neg (show ¬ encB (((a % 8 * 64 + b % 64) * 64 + c % 64) * 64 + d % 64) = [a, b, c, d] from fun e => by have := (encB_four _ _ _ _ _).1 e; omega)]
              · rw [if_neg h4, if_neg (show ¬ encB (((a % 8 * 64 + b % 64) * 64 + c % 64) * 64 + d % 64) = [a, b, c, d] from fun e => by have := (encB_four _ _ _ _ _).1 e; omega)]

/-- By trying, from n bytes on. -/
def refV (l : List Nat) : Nat → Nat → Nat
  | n, 0 => if n = 1 then l.getD 0 0 else l.getD 0 0 % 2 ^ (7 - n)
  | n, k + 1 => refV l n k * 64 + l.getD (k + 1) 0 % 64
def tryF (l : List Nat) : Nat → Nat → Nat × Nat
  | _, 0 => (0, 0)
  | n, f + 1 => if n ≤ l.length then (if encB (refV l n (n - 1)) = l.take n then (refV l n (n - 1), n) else tryF l (n + 1) f) else (0, 0)

theorem try_eq (l : List Nat) : firstR l = tryF l 1 4 := by
  match l with
  | [] => simp [firstR, tryF]
  | [a] => simp [firstR, tryF, refV]
  | [a, b] => simp [firstR, tryF, refV]
  | [a, b, c] => simp [firstR, tryF, refV]
  | a :: b :: c :: d :: l => simp [firstR, tryF, refV]

theorem first_snd (l : List Nat) : (firstP l).2 ≤ l.length := by
  match l with
  | [] => simp [firstP]
  | [a] => simp only [firstP]; repeat (first | split | simp)
  | [a, b] => simp only [firstP]; repeat (first | split | simp)
  | [a, b, c] => simp only [firstP]; repeat (first | split | simp)
  | a :: b :: c :: d :: l => simp only [firstP]; repeat (first | split | simp)

/-- How many signs; -1. -/
def cntF : Nat → List Nat → Int
  | 0, _ => 0
  | f + 1, l => if l = [] then 0 else if (firstP l).2 = 0 then -1 else if cntF f (l.drop (firstP l).2) < 0 then -1 else cntF f (l.drop (firstP l).2) + 1

theorem cntF_more : ∀ (f g : Nat) (l : List Nat), l.length ≤ f → l.length ≤ g → cntF f l = cntF g l
  | 0, 0, _, _, _ => rfl
  | 0, g + 1, l, h, _ => by
    have : l = [] := List.eq_nil_of_length_eq_zero (by omega)
    simp [cntF, this]
  | f + 1, 0, l, _, h => by
    have : l = [] := List.eq_nil_of_length_eq_zero (by omega)
    simp [cntF, this]
  | f + 1, g + 1, l, h1, h2 => by
    unfold cntF
    by_cases h : l = []
    · simp [h]
    · rw [if_neg h, if_neg h]
      by_cases h3 : (firstP l).2 = 0
      · rw [if_pos h3, if_pos h3]
      · rw [if_neg h3, if_neg h3, cntF_more f g _ (by rw [List.length_drop]; omega) (by rw [List.length_drop]; omega)]

def cnt (l : List Nat) : Int := cntF l.length l
theorem cnt_bad {l : List Nat} (h : l ≠ []) (h0 : (firstP l).2 = 0) : cnt l = -1 := by
  cases l with
  | nil => exact absurd rfl h
  | cons a l =>
    unfold cnt
    rw [show (a :: l).length = l.length + 1 from rfl, cntF, if_neg h, if_pos h0]
theorem cnt_step {l : List Nat} (h : l ≠ []) (h0 : (firstP l).2 ≠ 0) : cnt l = if cnt (l.drop (firstP l).2) < 0 then -1 else cnt (l.drop (firstP l).2) + 1 := by
  cases l with
  | nil => exact absurd rfl h
  | cons a l =>
    unfold cnt
    rw [show (a :: l).length = l.length + 1 from rfl, cntF, if_neg h, if_neg h0]
    rw [cntF_more l.length ((List.drop (firstP (a :: l)).2 (a :: l)).length) _ (by rw [List.length_drop]; simp; omega) (Nat.le_refl _)]
theorem cnt_ge (l : List Nat) : -1 ≤ cnt l := by
  unfold cnt
  generalize l.length = f
  induction f generalizing l with
  | zero => simp [cntF]
  | succ f ih =>
    unfold cntF
    have := ih (l.drop (firstP l).2)
    repeat' (first | omega | split)

theorem encB_lt (c : Nat) : ∀ x ∈ encB c, x < 256 := by
  rcases encB_cases c with ⟨e, g⟩ | ⟨e, g⟩ | ⟨e, g⟩ | ⟨e, g⟩ | ⟨e, g⟩ <;> rw [e] <;> simp <;> omega
end Go.Proofs.Ytcmdajkkdognfaa.Ut
