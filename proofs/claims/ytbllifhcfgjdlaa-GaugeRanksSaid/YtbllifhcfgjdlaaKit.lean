/-
  What is proved here: small tools for the walks of this seat: a fact hidden from the walk; one law for a statement whose order of evaluation is open.
-/
import Derived.Test.YtbllifhcfgjdlaaProg
import Derived.WalkKit
import Derived.WalkLawsBesides
import Derived.WalkSpells
import Derived.Outline
import Derived.Laws.BytesArg
import Derived.Deep.QuietTactic
import Derived.BigQuiet
namespace Go.Proofs.Ytbllifhcfgjdlaa
open Go.RowKit
set_option linter.unusedVariables false
set_option linter.unusedSimpArgs false

theorem hid {p : Prop} (h : p) : Hid p := h

/- A STATEMENT WHOSE ORDER IS OPEN. Each operation i bears a post: a predicate on its value and a world, kept by G. dl: of each operation those that stand before it and whose posts its step may use. Whatever order is drawn, behind it all posts hold. -/

def putAll : List Oper → (Nat → Value) → Nat → Act → Act
  | [], _, _, a => a
  | o :: os, V, i, a => putAll os V (i + 1) (a.put o.dst (V i))

def depsHold (V : Nat → Value) (posts : List (Value → World → Prop)) (w : World) : List Nat → Prop
  | [] => True
  | j :: js => (posts.getD j (fun _ _ => True)) (V j) w ∧ depsHold V posts w js

def rgGoals (P : Program) (ops : Array Oper) (C : World → Prop) (G : World → World → Prop) (all : List (Value → World → Prop)) (V : Nat → Value) :
    List Oper → List (Value → World → Prop) → List (List Nat) → Nat → Act → Prop
  | o :: os, p :: ps, d :: ds, i, a =>
    (∀ w, C w → depsHold V all w d → ∀ K : Act → World → Prop, (∀ v w', G w w' → p v w' → K (a.put o.dst v) w') →
      if Region.wanted o (yielded ops a.tmps) = true then o.wp P a w K (fun _ _ _ => False) else K (a.put o.dst undef) w) ∧
    rgGoals P ops C G all V os ps ds (i + 1) (a.put o.dst (V i))
  | _, _, _, _, _ => True

def postsHold (V : Nat → Value) (w : World) : List (Value → World → Prop) → Nat → Prop
  | [], _ => True
  | p :: ps, i => p (V i) w ∧ postsHold V w ps (i + 1)

def postsKept (G : World → World → Prop) : List (Value → World → Prop) → Prop
  | [] => True
  | p :: ps => (∀ v w w', p v w → G w w' → p v w') ∧ postsKept G ps

/-- j is an operation that must come before the operation o. -/
def pre (o : Oper) (j : Nat) : Bool := o.after.any fun e => e.on == j && Region.binds .any e

def isSelect : Op → Bool
  | .select _ _ => true
  | _ => false

def rgCheckAt (ops : Array Oper) (dl : List (List Nat)) (N : Nat) (i : Nat) (o : Oper) : Bool :=
  o.after.all (fun e => !Region.binds .any e || decide (e.on < i)) &&
  (match o.dst with | some d => decide (d < N) | none => true) &&
  !isSelect o.op &&
  (List.range ops.size).all (fun j => match (ops[j]?) with
    | some oj => (j == i) ||
        (match oj.dst with
         | some t => o.dst != some t && (!(o.looksAt ops).contains t || pre o j || pre oj i)
         | none => true)
    | none => true) &&
  (match o.dst with | some t => !(o.looksAt ops).contains t | none => true) &&
  (dl.getD i []).all (fun j => pre o j)

def rgCheck (ops : Array Oper) (dl : List (List Nat)) (N : Nat) : Bool :=
  decide (dl.length = ops.size) && (List.range ops.size).all (fun i => match ops[i]? with | some o => rgCheckAt ops dl N i o | none => true)


section
variable {P : Program} {ops : Array Oper} {C : World → Prop} {G : World → World → Prop} {posts : List (Value → World → Prop)} {dl : List (List Nat)} {N : Nat} {a0 : Act}

theorem put_get_ne {a : Act} {dst : Option Tmp} {v : Value} {t : Nat} (h : dst ≠ some t) : (a.put dst v).tmps[t]? = a.tmps[t]? := by
  cases dst with
  | none => rfl
  | some d => simp only [Act.put]; exact Array.getElem?_setIfInBounds_ne (fun e => h (by rw [e]))

theorem put_size {a : Act} {dst : Option Tmp} {v : Value} : (a.put dst v).tmps.size = a.tmps.size := by
  cases dst <;> simp [Act.put]

theorem put_defers {a : Act} {dst : Option Tmp} {v : Value} : (a.put dst v).defers = a.defers := by
  cases dst <;> rfl

theorem put_get {a : Act} {v : Value} {t : Nat} (h : t < a.tmps.size) : (a.put (some t) v).tmps[t]? = some v := by
  simp only [Act.put]; exact Array.getElem?_setIfInBounds_self_of_lt h

theorem putAll_size (V : Nat → Value) : ∀ (os : List Oper) (k : Nat) (a : Act), (putAll os V k a).tmps.size = a.tmps.size
  | [], _, _ => rfl
  | o :: os, k, a => (putAll_size V os (k + 1) _).trans put_size

theorem putAll_defers (V : Nat → Value) : ∀ (os : List Oper) (k : Nat) (a : Act), (putAll os V k a).defers = a.defers
  | [], _, _ => rfl
  | o :: os, k, a => (putAll_defers V os (k + 1) _).trans put_defers

theorem putAll_get_none (V : Nat → Value) {t : Nat} : ∀ (os : List Oper) (k : Nat) (a : Act), (∀ (m : Nat) (o : Oper), os[m]? = some o → o.dst ≠ some t) → (putAll os V k a).tmps[t]? = a.tmps[t]?
  | [], _, _, _ => rfl
  | o :: os, k, a, h => (putAll_get_none V os (k + 1) _ (fun m o' hm => h (m + 1) o' (by simpa using hm))).trans (put_get_ne (h 0 o rfl))

theorem putAll_get_some (V : Nat → Value) {t : Nat} : ∀ (os : List Oper) (k : Nat) (a : Act) (m : Nat) (o : Oper), os[m]? = some o → o.dst = some t → t < a.tmps.size →
    (∀ (m' : Nat) (o' : Oper), os[m']? = some o' → m' ≠ m → o'.dst ≠ some t) → (putAll os V k a).tmps[t]? = some (V (k + m))
  | [], _, _, m, o, h, _, _, _ => by simp at h
  | o1 :: os, k, a, 0, o, h, hd, ht, hs => by
    simp at h; subst h
    refine (putAll_get_none V os (k + 1) _ (fun m o' hm => hs (m + 1) o' (by simpa using hm) (by omega))).trans ?_
    rw [hd]; exact put_get ht
  | o1 :: os, k, a, m + 1, o, h, hd, ht, hs => by
    have := putAll_get_some V os (k + 1) (a.put o1.dst (V k)) m o (by simpa using h) hd (by rw [put_size]; exact ht) (fun m' o' hm hne => hs (m' + 1) o' (by simpa using hm) (by omega))
    rw [show k + (m + 1) = k + 1 + m from by omega]; exact this

/-- The goals at number i. -/
theorem rgGoals_at {V : Nat → Value} : ∀ (os : List Oper) (ps : List (Value → World → Prop)) (ds : List (List Nat)) (k : Nat) (a : Act), rgGoals P ops C G posts V os ps ds k a →
    ∀ (m : Nat) (o : Oper) (p : Value → World → Prop) (d : List Nat), os[m]? = some o → ps[m]? = some p → ds[m]? = some d →
    ∀ w, C w → depsHold V posts w d → ∀ K : Act → World → Prop, (∀ v w', G w w' → p v w' → K ((putAll (os.take m) V k a).put o.dst v) w') →
      if Region.wanted o (yielded ops (putAll (os.take m) V k a).tmps) = true then o.wp P (putAll (os.take m) V k a) w K (fun _ _ _ => False) else K ((putAll (os.take m) V k a).put o.dst undef) w
  | [], _, _, _, _, _, m, o, p, d, h, _, _ => by simp at h
  | _ :: _, [], _, _, _, _, m, o, p, d, _, h, _ => by simp at h
  | _ :: _, _ :: _, [], _, _, _, m, o, p, d, _, _, h => by simp at h
  | o1 :: os, p1 :: ps, d1 :: ds, k, a, hg, 0, o, p, d, h1, h2, h3 => by
    simp at h1 h2 h3; subst h1 h2 h3
    exact hg.1
  | o1 :: os, p1 :: ps, d1 :: ds, k, a, hg, m + 1, o, p, d, h1, h2, h3 => by
    exact rgGoals_at os ps ds (k + 1) _ hg.2 m o p d (by simpa using h1) (by simpa using h2) (by simpa using h3)

/-- A step carried over from one frame to another that looks alike to the operation. -/
theorem wp_carry {o : Oper} {a a' : Act} {w : World} {R : Value → World → Prop} {K : Act → World → Prop} {Q : Exit → Act → World → Prop} (he : execOp a'.eval o = execOp a.eval o) (hs : a'.tmps.size = a.tmps.size)
    (h : o.wp P a w (fun b w' => ∃ v, b = a.put o.dst v ∧ R v w') (fun _ _ _ => False)) (hK : ∀ v w', R v w' → K (a'.put o.dst v) w') : o.wp P a' w K Q := by
  have key : ∀ u w', (∃ v, a.put o.dst u = a.put o.dst v ∧ R v w') → K (a'.put o.dst u) w' := by
    rintro u w' ⟨v, h1, h2⟩
    have e : a'.put o.dst u = a'.put o.dst v := by
      cases hd : o.dst with
      | none => rfl
      | some d =>
        rw [hd] at h1
        by_cases hlt : d < a.tmps.size
        · have := congrArg (fun x : Act => x.tmps[d]?) h1
          simp only [put_get hlt] at this
          rw [Option.some.inj this]
        · simp only [Act.put]; rw [Array.setIfInBounds_eq_of_size_le (by rw [hs]; exact Nat.le_of_not_lt hlt), Array.setIfInBounds_eq_of_size_le (by rw [hs]; exact Nat.le_of_not_lt hlt)]
    rw [e]; exact hK v w' h2
  unfold Oper.wp at *
  rw [he]
  generalize (execOp a.eval o).run P w = r at *
  cases r with
  | ok n w' =>
    cases n <;> simp only [Oper.upon] at h ⊢
    case value u => exact key _ _ h
    case skip => exact key _ _ h
    case defer d =>
      obtain ⟨v, h1, _⟩ := h
      have := congrArg Act.defers h1
      rw [put_defers, put_defers] at this
      simp at this
    case enter f args =>
      refine Calls.mono h (fun e w'' he => ?_)
      cases e with
      | returned v => exact key _ _ he
      | panicked c => exact he.elim
      | outgrown => obtain ⟨_, _, h⟩ := he; exact h.elim
    case row r args => exact Rows.mono h (fun v w'' he => key _ _ he)
  | halt x w' => cases x <;> simp only [Oper.upon] at h ⊢

structure RgInv (ops : Array Oper) (C : World → Prop) (posts : List (Value → World → Prop)) (a0 : Act) (V : Nat → Value) (listed : Array Bool) (a : Act) (w : World) : Prop where
  size : listed.size = ops.size
  tmps : a.tmps.size = a0.tmps.size
  defers : a.defers = a0.defers
  c : C w
  got : ∀ (j : Nat) (o : Oper), ops[j]? = some o → listed[j]? = some true → ∀ t, o.dst = some t → a.tmps[t]? = some (V j)
  post : ∀ (j : Nat) (o : Oper), ops[j]? = some o → listed[j]? = some true → (posts.getD j (fun _ _ => True)) (V j) w
  same : ∀ t, (∀ (j : Nat) (o : Oper), ops[j]? = some o → listed[j]? = some true → o.dst ≠ some t) → a.tmps[t]? = a0.tmps[t]?
  down : ∀ (j : Nat) (o : Oper), ops[j]? = some o → listed[j]? = some true → ∀ k, pre o k = true → listed[k]? = some true

theorem pre_spec {o : Oper} {e : Edge} (he : e ∈ o.after) (hb : Region.binds .any e = true) : pre o e.on = true := by
  unfold pre
  rw [Array.any_eq_true']
  exact ⟨e, he, by simp [hb]⟩

theorem pre_mem {o : Oper} {k : Nat} (h : pre o k = true) : ∃ e ∈ o.after, e.on = k ∧ Region.binds .any e = true := by
  unfold pre at h
  rw [Array.any_eq_true'] at h
  obtain ⟨e, he, h2⟩ := h
  simp at h2
  exact ⟨e, he, h2.1, h2.2⟩

structure RgOk (ops : Array Oper) (dl : List (List Nat)) (N : Nat) (i : Nat) (o : Oper) : Prop where
  lt : ∀ k, pre o k = true → k < i
  dst : ∀ d, o.dst = some d → d < N
  sel : ∀ cs b, o.op ≠ .select cs b
  one : ∀ (j : Nat) (oj : Oper), ops[j]? = some oj → j ≠ i → ∀ t, oj.dst = some t → o.dst ≠ some t
  see : ∀ (j : Nat) (oj : Oper), ops[j]? = some oj → j ≠ i → ∀ t, oj.dst = some t → t ∈ o.looksAt ops → pre o j = true ∨ pre oj i = true
  self : ∀ t, o.dst = some t → t ∉ o.looksAt ops
  dl : ∀ j ∈ dl.getD i [], pre o j = true

theorem rgOk_of_check (h : rgCheck ops dl N = true) : dl.length = ops.size ∧ ∀ i o, ops[i]? = some o → RgOk ops dl N i o := by
  unfold rgCheck at h
  simp only [Bool.and_eq_true, decide_eq_true_eq, List.all_eq_true, List.mem_range] at h
  refine ⟨h.1, fun i o ho => ?_⟩
  have hi : i < ops.size := (Array.getElem?_eq_some_iff.1 ho).1
  have hc := h.2 i hi
  rw [ho] at hc
  simp only [rgCheckAt, Bool.and_eq_true, List.all_eq_true, List.mem_range] at hc
  obtain ⟨⟨⟨⟨⟨h1, h2⟩, h3⟩, h4⟩, h5⟩, h6⟩ := hc
  refine ⟨?_, ?_, ?_, ?_, ?_, ?_, h6⟩
  · intro k hk
    obtain ⟨e, he, rfl, hb⟩ := pre_mem hk
    rw [Array.all_eq_true'] at h1
    have := h1 e he
    simpa [hb] using this
  · intro d hd; rw [hd] at h2; simpa using h2
  · intro cs b hs; rw [hs] at h3; simp [isSelect] at h3
  · intro j oj hj hne t ht
    have := h4 j (Array.getElem?_eq_some_iff.1 hj).1
    rw [hj] at this
    simp only [ht, Bool.or_eq_true, beq_iff_eq, hne, false_or, Bool.and_eq_true, bne_iff_ne, ne_eq] at this
    exact this.1
  · intro j oj hj hne t ht hm
    have := h4 j (Array.getElem?_eq_some_iff.1 hj).1
    rw [hj] at this
    simp only [ht, Bool.or_eq_true, beq_iff_eq, hne, false_or, Bool.and_eq_true] at this
    have := this.2
    rw [List.contains_iff_mem.2 hm] at this
    simpa using this
  · intro t ht; rw [ht] at h5; simpa using h5

theorem depsHold_of {V : Nat → Value} {w : World} : ∀ (d : List Nat), (∀ j ∈ d, (posts.getD j (fun _ _ => True)) (V j) w) → depsHold V posts w d
  | [], _ => trivial
  | j :: js, h => ⟨h j (by simp), depsHold_of js (fun k hk => h k (by simp [hk]))⟩

theorem postsHold_of {V : Nat → Value} {w : World} : ∀ (ps : List (Value → World → Prop)) (k : Nat), (∀ (j : Nat) (p : Value → World → Prop), ps[j]? = some p → p (V (k + j)) w) → postsHold V w ps k
  | [], _, _ => trivial
  | p :: ps, k, h => ⟨h 0 p rfl, postsHold_of ps (k + 1) (fun j p hj => by rw [show k + 1 + j = k + (j + 1) from by omega]; exact h (j + 1) p (by simpa using hj))⟩

theorem postsKept_at : ∀ (ps : List (Value → World → Prop)), postsKept G ps → ∀ j v w w', (ps.getD j (fun _ _ => True)) v w → G w w' → (ps.getD j (fun _ _ => True)) v w'
  | [], _, _, _, _, _, _, _ => by simp
  | p :: ps, h, 0, v, w, w', hp, hg => h.1 v w w' hp hg
  | p :: ps, h, j + 1, v, w, w', hp, hg => postsKept_at ps h.2 j v w w' hp hg

theorem RgInv.looks {V : Nat → Value} {listed : Array Bool} {a : Act} {w : World} (hI : RgInv ops C posts a0 V listed a w) (hN : a0.tmps.size = N) (hok : ∀ i o, ops[i]? = some o → RgOk ops dl N i o)
    {i : Nat} {o : Oper} (ho : ops[i]? = some o) (hnl : listed[i]? ≠ some true) (hpre : ∀ k, pre o k = true → listed[k]? = some true) :
    ∀ t ∈ o.looksAt ops, a.tmps[t]? = (putAll (ops.toList.take i) V 0 a0).tmps[t]? := by
  intro t ht
  have hget : ∀ m o', (ops.toList.take i)[m]? = some o' ↔ m < i ∧ ops[m]? = some o' := by
    intro m o'
    rw [List.getElem?_take]
    split <;> simp [*]
  by_cases hex : ∃ (j : Nat) (oj : Oper), ops[j]? = some oj ∧ oj.dst = some t
  · obtain ⟨j, oj, hj, hjd⟩ := hex
    have hji : j ≠ i := by
      rintro rfl
      rw [ho] at hj; cases hj
      exact (hok _ _ ho).self t hjd ht
    have huniq : ∀ (j' : Nat) (o' : Oper), ops[j']? = some o' → o'.dst = some t → j' = j := by
      intro j' o' hj' hd'
      by_cases e : j' = j
      · exact e
      · exact absurd hjd ((hok _ _ hj).one j' o' hj' e t hd')
    rcases (hok _ _ ho).see j oj hj hji t hjd ht with hp | hp
    · rw [hI.got j oj hj (hpre j hp) t hjd]
      have hlt := (hok _ _ ho).lt j hp
      rw [putAll_get_some V _ 0 a0 j oj ((hget j oj).2 ⟨hlt, hj⟩) hjd (by rw [hN]; exact (hok _ _ hj).dst t hjd)
        (fun m' o' hm' hne => fun hd' => hne (huniq m' o' ((hget m' o').1 hm').2 hd'))]
      simp
    · have hlt := (hok _ _ hj).lt i hp
      rw [hI.same t (fun j' o' hj' hl' hd' => by
        obtain rfl := huniq j' o' hj' hd'
        rw [hj] at hj'; cases hj'
        exact hnl (hI.down _ _ hj hl' i hp))]
      rw [putAll_get_none V _ 0 a0 (fun m o' hm hd' => by
        have := huniq m o' ((hget m o').1 hm).2 hd'
        have := ((hget m o').1 hm).1
        omega)]
  · rw [hI.same t (fun j' o' hj' _ hd' => hex ⟨j', o', hj', hd'⟩), putAll_get_none V _ 0 a0 (fun m o' hm hd' => hex ⟨m, o', ((hget m o').1 hm).2, hd'⟩)]

theorem eval_congr_get {a a' : Act} {x : Operand} (h : ∀ t, x = .tmp t → a'.tmps[t]? = a.tmps[t]?) : a'.eval x = a.eval x := by
  cases x with
  | tmp t => simp only [Act.eval, Array.getD_eq_getD_getElem?, h t rfl]
  | _ => rfl

theorem yielded_congr {o : Oper} {a a' : Act} (h : ∀ t ∈ o.looksAt ops, a'.tmps[t]? = a.tmps[t]?) : Region.wanted o (yielded ops a'.tmps) = Region.wanted o (yielded ops a.tmps) := by
  unfold Region.wanted
  cases hg : o.guard with
  | none => rfl
  | some gw =>
    obtain ⟨g, want⟩ := gw
    have : yielded ops a'.tmps g = yielded ops a.tmps g := by
      unfold yielded
      cases ht : (ops[g]?).bind (·.dst) with
      | none => rfl
      | some t =>
        have hm : t ∈ o.looksAt ops := by simp [Oper.looksAt, hg, ht]
        simp [h t hm]
    simp only [this]

theorem Array.get?_setTrue {listed : Array Bool} {i j : Nat} (hi : i < listed.size) : (listed.setIfInBounds i true)[j]? = some true ↔ j = i ∨ listed[j]? = some true := by
  by_cases e : j = i
  · subst e; simp [hi]
  · rw [Array.getElem?_setIfInBounds_ne (Ne.symm e)]; simp [e]

theorem rg_walk {Q : Exit → Act → World → Prop} (hN : a0.tmps.size = N) (hok : ∀ i o, ops[i]? = some o → RgOk ops dl N i o) (hdl : dl.length = ops.size) (hpl : posts.length = ops.size)
    (hC : ∀ w w', C w → G w w' → C w') (hP : postsKept G posts) (hgoals : ∀ V, rgGoals P ops C G posts V ops.toList posts dl 0 a0)
    (hQ : ∀ V w, C w → postsHold V w posts 0 → Q .normal (putAll ops.toList V 0 a0) w) :
    ∀ (fuel : Nat) (listed : Array Bool) (a : Act) (w : World) (V : Nat → Value), (List.range ops.size).countP (fun i => listed[i]? != some true) ≤ fuel → RgInv ops C posts a0 V listed a w → wpAny P .any ops Q fuel listed a w := by
  -- what stands when all is listed
  have fin : ∀ (listed : Array Bool) (a : Act) (w : World) (V : Nat → Value), RgInv ops C posts a0 V listed a w → (∀ i, i < ops.size → listed[i]? = some true) → Q .normal a w := by
    intro listed a w V hI hall
    have ha : a = putAll ops.toList V 0 a0 := by
      have h1 : a.tmps = (putAll ops.toList V 0 a0).tmps := by
        apply Array.ext_getElem?
        intro t
        by_cases hex : ∃ (j : Nat) (oj : Oper), ops[j]? = some oj ∧ oj.dst = some t
        · obtain ⟨j, oj, hj, hjd⟩ := hex
          rw [hI.got j oj hj (hall j (Array.getElem?_eq_some_iff.1 hj).1) t hjd]
          rw [putAll_get_some V _ 0 a0 j oj (by simpa using hj) hjd (by rw [hN]; exact (hok _ _ hj).dst t hjd)
            (fun m' o' hm' hne hd' => (hok _ _ hj).one m' o' (by simpa using hm') hne t hd' hjd)]
          simp
        · rw [hI.same t (fun j' o' hj' _ hd' => hex ⟨j', o', hj', hd'⟩), putAll_get_none V _ 0 a0 (fun m o' hm hd' => hex ⟨m, o', by simpa using hm, hd'⟩)]
      have h2 : a.defers = (putAll ops.toList V 0 a0).defers := hI.defers.trans (putAll_defers V _ _ _).symm
      cases a; simp only at h1 h2; subst h1 h2; rfl
    rw [ha]
    refine hQ V w hI.c (postsHold_of posts 0 (fun j p hj => ?_))
    have hlt : j < ops.size := by rw [← hpl]; exact (List.getElem?_eq_some_iff.1 hj).1
    have := hI.post j ops[j] (Array.getElem?_eq_getElem hlt) (hall j hlt)
    rw [Nat.zero_add]
    simpa [List.getD_eq_getElem?_getD, hj] using this
  -- nothing is ready: all is listed
  have done : ∀ (listed : Array Bool), listed.size = ops.size → Region.ready .any ops listed = [] → ∀ i, i < ops.size → listed[i]? = some true := by
    intro listed hsz hr i
    induction i using Nat.strongRecOn with
    | ind i ih =>
      intro hi
      by_cases h : listed[i]? = some true
      · exact h
      exfalso
      have hmem : i ∈ Region.ready .any ops listed := by
        unfold Region.ready
        rw [List.mem_filter]
        refine ⟨by simpa using hi, ?_⟩
        have hl : listed.getD i true = false := by
          rw [Array.getD_eq_getD_getElem?]
          rw [Array.getElem?_eq_getElem (by omega)] at h ⊢
          simpa using h
        rw [hl, Array.getElem?_eq_getElem hi]
        simp only [Bool.not_false, Bool.true_and, Option.map_some, Option.getD_some]
        rw [Array.all_eq_true']
        intro e he
        by_cases hb : Region.binds .any e = true
        · have hp := pre_spec he hb
          have hlt := (hok _ _ (Array.getElem?_eq_getElem hi)).lt e.on hp
          rw [Array.getD_eq_getD_getElem?, ih e.on hlt (by omega)]
          simp
        · simp [hb]
      rw [hr] at hmem
      exact absurd hmem (by simp)
  intro fuel
  induction fuel with
  | zero =>
    intro listed a w V hc hI
    have hall : ∀ i, i < ops.size → listed[i]? = some true := by
      intro i hi
      have h0 := Nat.le_zero.1 hc
      rw [List.countP_eq_zero] at h0
      simpa using h0 i (by simpa using hi)
    refine ⟨?_, fin listed a w V hI hall⟩
    unfold Region.ready
    rw [List.filter_eq_nil_iff]
    intro i hi
    have := hall i (by simpa using hi)
    rw [Array.getD_eq_getD_getElem?, this]
    simp
  | succ fuel ih =>
    intro listed a w V hc hI
    refine ⟨fun hr => fin listed a w V hI (done listed hI.size hr), fun i hi => ?_⟩
    unfold Region.ready at hi
    rw [List.mem_filter] at hi
    obtain ⟨hir, hi2⟩ := hi
    have hir : i < ops.size := by simpa using hir
    rw [Bool.and_eq_true] at hi2
    obtain ⟨hnl, haft⟩ := hi2
    have hnl' : listed[i]? = some false := by
      rw [Array.getD_eq_getD_getElem?, Array.getElem?_eq_getElem (by rw [hI.size]; exact hir)] at hnl
      rw [Array.getElem?_eq_getElem (by rw [hI.size]; exact hir)]
      simpa using hnl
    have ho : ops[i]? = some ops[i] := Array.getElem?_eq_getElem hir
    have hpre : ∀ k, pre ops[i] k = true → listed[k]? = some true := by
      intro k hk
      obtain ⟨e, he, rfl, hb⟩ := pre_mem hk
      rw [ho, Option.map_some, Option.getD_some, Array.all_eq_true'] at haft
      have := haft e he
      simp only [hb, Bool.not_true, Bool.false_or, Array.getD_eq_getD_getElem?] at this
      have hlt := (hok _ _ ho).lt e.on hk
      rw [Array.getElem?_eq_getElem (by rw [hI.size]; omega)] at this ⊢
      simpa using this
    have hilt : i < listed.size := by rw [hI.size]; exact hir
    -- the step
    have hp : posts[i]? = some (posts.getD i (fun _ _ => True)) := by
      have : i < posts.length := by omega
      simp [this]
    have hd : dl[i]? = some (dl.getD i []) := by
      have : i < dl.length := by omega
      simp [this]
    have hlook := hI.looks hN hok ho (by rw [hnl']; simp) hpre
    have hgo := rgGoals_at ops.toList posts dl 0 a0 (hgoals V) i ops[i] _ _ (by simp) hp hd w hI.c
      (depsHold_of _ (fun j hj => by
        have h1 := hpre j ((hok _ _ ho).dl j hj)
        have hlt : j < ops.size := by have := (hok _ _ ho).lt j ((hok _ _ ho).dl j hj); omega
        exact hI.post j ops[j] (Array.getElem?_eq_getElem hlt) h1))
    -- the invariant behind it
    have hnext : ∀ v w', (C w' ∧ (∀ j v, (posts.getD j (fun _ _ => True)) v w → (posts.getD j (fun _ _ => True)) v w')) → (posts.getD i (fun _ _ => True)) v w' → wpAny P .any ops Q fuel (listed.setIfInBounds i true) (a.put ops[i].dst v) w' := by
      rintro v w' ⟨hc', hkeep⟩ hpv
      refine ih _ _ _ (fun k => if k = i then v else V k) ?_ ?_
      · have hlt : (List.range ops.size).countP (fun k => (listed.setIfInBounds i true)[k]? != some true) < (List.range ops.size).countP (fun k => listed[k]? != some true) := by
          rw [List.countP_eq_length_filter, List.countP_eq_length_filter]
          have hsub : (List.range ops.size).filter (fun k => (listed.setIfInBounds i true)[k]? != some true) = ((List.range ops.size).filter (fun k => listed[k]? != some true)).erase i := by
            rw [(List.Nodup.sublist List.filter_sublist List.nodup_range).erase_eq_filter, List.filter_filter]
            apply List.filter_congr
            intro k hk
            by_cases e : k = i
            · subst e; simp [hilt]
            · rw [Array.getElem?_setIfInBounds_ne (Ne.symm e)]; simp [e]
          rw [hsub, List.length_erase_of_mem (by rw [List.mem_filter]; exact ⟨by simpa using hir, by rw [hnl']; rfl⟩)]
          have : 0 < ((List.range ops.size).filter (fun k => listed[k]? != some true)).length :=
            List.length_pos_of_mem (a := i) (by rw [List.mem_filter]; exact ⟨by simpa using hir, by rw [hnl']; rfl⟩)
          omega
        omega
      · refine ⟨by simp [hI.size], by rw [put_size, hI.tmps], by rw [put_defers, hI.defers], hc', ?_, ?_, ?_, ?_⟩
        · intro j o hj hl t ht
          rcases (Array.get?_setTrue hilt).1 hl with rfl | hl2
          · rw [ho] at hj; cases hj
            simp only [if_true]
            rw [ht]; exact put_get (by rw [hI.tmps, hN]; exact (hok _ _ ho).dst t ht)
          · have hji : j ≠ i := fun e => by rw [e, hnl'] at hl2; cases hl2
            rw [if_neg hji, put_get_ne ((hok _ _ ho).one j o hj hji t ht)]
            exact hI.got j o hj hl2 t ht
        · intro j o hj hl
          rcases (Array.get?_setTrue hilt).1 hl with rfl | hl2
          · simp only [if_true]; exact hpv
          · have hji : j ≠ i := fun e => by rw [e, hnl'] at hl2; cases hl2
            simp only [if_neg hji]
            exact hkeep j _ (hI.post j o hj hl2)
        · intro t ht
          rw [put_get_ne (ht i _ ho ((Array.get?_setTrue hilt).2 (.inl rfl)))]
          exact hI.same t (fun j o hj hl => ht j o hj ((Array.get?_setTrue hilt).2 (.inr hl)))
        · intro j o hj hl k hk
          rw [Array.get?_setTrue hilt]
          rcases (Array.get?_setTrue hilt).1 hl with rfl | hl2
          · rw [ho] at hj; cases hj
            exact .inr (hpre k hk)
          · exact .inr (hI.down j o hj hl2 k hk)
    unfold wpOp
    rw [ho]
    show if Region.wanted ops[i] (yielded ops a.tmps) = true then _ else _
    have hsel := (hok _ _ ho).sel
    have hEx : execOp a.eval ops[i] = execOp (putAll (ops.toList.take i) V 0 a0).eval ops[i] :=
      execOp_congr ops[i] hsel (fun x hx => eval_congr_get (fun t ht => hlook t (by
        subst ht
        exact List.mem_append_left _ (List.mem_filterMap.2 ⟨.tmp t, by simpa using hx, rfl⟩))))
    rw [yielded_congr hlook]
    split
    · rename_i hw
      left
      have hgo := hgo (fun b w' => ∃ v, b = (putAll (ops.toList.take i) V 0 a0).put ops[i].dst v ∧ G w w' ∧ (posts.getD i (fun _ _ => True)) v w') (fun v w' h1 h2 => ⟨v, rfl, h1, h2⟩)
      rw [if_pos hw] at hgo
      exact wp_carry (R := fun v w' => G w w' ∧ (posts.getD i (fun _ _ => True)) v w') hEx (by rw [hI.tmps, putAll_size]) hgo
        (fun v w' ⟨h1, h2⟩ => hnext v w' ⟨hC w w' hI.c h1, fun j v hj => postsKept_at posts hP j v w w' hj h1⟩ h2)
    · rename_i hw
      have hgo := hgo (fun b w' => ∃ v, b = (putAll (ops.toList.take i) V 0 a0).put ops[i].dst v ∧ (C w' ∧ (∀ j v, (posts.getD j (fun _ _ => True)) v w → (posts.getD j (fun _ _ => True)) v w')) ∧ (posts.getD i (fun _ _ => True)) v w')
        (fun v w' h1 h2 => ⟨v, rfl, ⟨hC w w' hI.c h1, fun j v hj => postsKept_at posts hP j v w w' hj h1⟩, h2⟩)
      rw [if_neg hw] at hgo
      obtain ⟨v, h1, h2, h3⟩ := hgo
      have e : a.put ops[i].dst undef = a.put ops[i].dst v := by
        cases hd : ops[i].dst with
        | none => rfl
        | some d =>
          rw [hd] at h1
          have hlt : d < (putAll (ops.toList.take i) V 0 a0).tmps.size := by rw [putAll_size, hN]; exact (hok _ _ ho).dst d hd
          have := congrArg (fun x : Act => x.tmps[d]?) h1
          simp only [put_get hlt] at this
          rw [Option.some.inj this]
      rw [e]
      exact hnext v w h2 h3

theorem wp_region_rg {id : Nat} {Q : Exit → Act → World → Prop} {w0 : World} (C : World → Prop) (G : World → World → Prop) (posts : List (Value → World → Prop)) (dl : List (List Nat)) (N : Nat)
    (hm : P.follows .mixedOrders = true) (hN : a0.tmps.size = N) (hchk : rgCheck ops dl N = true) (hpl : posts.length = ops.size)
    (hC0 : C w0.drew) (hC : ∀ w w', C w → G w w' → C w') (hP : postsKept G posts) (hgoals : ∀ V, rgGoals P ops C G posts V ops.toList posts dl 0 a0)
    (hQ : ∀ V w, C w → postsHold V w posts 0 → Q .normal (putAll ops.toList V 0 a0) w) : (Code.region id ops true).wp P Q a0 w0 := by
  obtain ⟨hdl, hok⟩ := rgOk_of_check hchk
  refine wp_region_any hm (rg_walk hN hok hdl hpl hC hP hgoals hQ ops.size _ a0 _ (fun _ => undef) ?_ ⟨by simp, rfl, rfl, hC0, ?_, ?_, fun _ _ => rfl, ?_⟩)
  · exact Nat.le_trans List.countP_le_length (by simp)
  all_goals
    intro j o hj hl
    simp [Array.getElem?_replicate] at hl
end

/- ONE ELEMENT APPENDED: a fact laid ahead of the walk. -/
theorem push_run {P : Program} {wr : World} {t e bytes : Nat} {z : Value} (ht : P.underlying t = some (.slice e)) (hinfo : (P.info? e).map (fun i => (i.zero, i.size, i.bytes)) = some (some z, 1, bytes)) (hz : z.cells.size = 1) (hb1 : 1 ≤ bytes)
    {base n : Nat} {v u : Value} {xs : List Value} (hown : wr.ownsRow base e 1 v n xs) (h1 : u.oneCell' = true) (hbytes : (n + 1) * bytes ≤ 140737488355328) (hbase : base ≤ wr.heap.size) :
    ∃ v' w', (∀ ty, (Builtin.append_ #[t, t] ty #[v, .slice (some ⟨wr.heap.size, 0, none⟩) 1 1]).run P (wr.alloc (.cells #[u] e)) = .ok v' w') ∧ w'.ownsRow base e 1 v' (n + 1) (xs ++ [u]) ∧ Below base wr w' ∧ wr.heap.size < w'.heap.size := by
  obtain ⟨i, hi, hz0, hs, hby⟩ := info_parts hinfo
  have hle : n + 1 ≤ (n + 1) * bytes := Nat.le_mul_of_pos_right _ hb1
  have key : ∀ ty, ∃ v' w', (Builtin.append_ #[t, t] ty #[v, .slice (some ⟨wr.heap.size, 0, none⟩) 1 1]).run P (wr.alloc (.cells #[u] e)) = .ok v' w' ∧ w'.ownsRow base e 1 v' (n + 1) (xs ++ [u]) ∧ Below base wr w' ∧ wr.heap.size < w'.heap.size := by
    intro ty
    obtain ⟨v', w', hr, h2, h3, _⟩ := run_append_own (P := P) (wr.alloc (.cells #[u] e)) base t ty e i z 1 bytes ht hi hz0 hs hby hz (by decide) v n xs (hown.alloc _)
      ⟨wr.heap.size, 0, none⟩ 1 1 [u] rfl (cell_one_new _ _ _) (by simpa using h1) (by unfold maxLen; omega) hbytes (by simp; omega)
    refine ⟨v', w', hr, h2, ((Below.refl _ _).alloc hbase _).grown h3 (by simp; omega) (fun k hk => (hown.lt k hk).1), ?_⟩
    have := h3.size
    simp at this; omega
  obtain ⟨v', w', hr, h⟩ := key 0
  refine ⟨v', w', fun ty => ?_, h⟩
  rw [← hr]; rfl

theorem wpList_app {P : Program} {w w' : World} {vs vx v' : Value} {t tn : TypeId} (hr : ∀ ty, (Builtin.append_ #[t, tn] ty #[vs, vx]).run P w = .ok v' w') {ops : Array Oper} {rest : List Oper} {o : Oper} {a : Act} {Q : Exit → Act → World → Prop} {s x : Operand}
    (hgd : o.guard = none) (ho : o.op = .call { callee := .builtin .append, args := #[s, x], argTypes := #[t, tn] }) (hs : a.eval s = vs) (hx : a.eval x = vx) (h : wpList P ops Q rest (a.put o.dst v') w') : wpList P ops Q (o :: rest) a w := by
  refine wpList_plain hgd fun K hK => ?_
  unfold Oper.wp execOp
  simp only [ho, resolve, invoke, builtin, Sem.run_bind, Sem.run_pure, Result.andThen_ok, List.map_toArray, List.map_cons, List.map_nil, hs, hx, hr]
  exact hK _ _ h

/- The same as a law of the walk: the element is met from the goal. -/
theorem wpList_push {P : Program} {wr : World} {t e bytes : Nat} {z : Value} (ht : P.underlying t = some (.slice e)) (hinfo : (P.info? e).map (fun i => (i.zero, i.size, i.bytes)) = some (some z, 1, bytes)) (hz : z.cells.size = 1) (hb1 : 1 ≤ bytes)
    {base n : Nat} {v u : Value} {xs : List Value} (hown : wr.ownsRow base e 1 v n xs) (hbase : base ≤ wr.heap.size) (hbytes : (n + 1) * bytes ≤ 140737488355328)
    {ops : Array Oper} {rest : List Oper} {o : Oper} {a : Act} {Q : Exit → Act → World → Prop} {s x : Operand}
    (hgd : o.guard = none) (ho : o.op = .call { callee := .builtin .append, args := #[s, x], argTypes := #[t, t] }) (hs : a.eval s = v) (hx : a.eval x = .slice (some ⟨wr.heap.size, 0, none⟩) 1 1) (h1 : u.oneCell' = true)
    (h : ∀ v' w', w'.ownsRow base e 1 v' (n + 1) (xs ++ [u]) → Below base wr w' → wr.heap.size < w'.heap.size → wpList P ops Q rest (a.put o.dst v') w') : wpList P ops Q (o :: rest) a (wr.alloc (.cells #[u] e)) := by
  obtain ⟨v', w', hr, h2, h3, h4⟩ := push_run (P := P) (u := u) ht hinfo hz hb1 hown h1 hbytes hbase
  exact wpList_app hr hgd ho hs hx (h v' w' h2 h3 h4)

/- A row that is owned and not empty, as the walk wants it. -/
theorem ownsRow_some {w : World} {base e n : Nat} {v : Value} {xs : List Value} (h : w.ownsRow base e 1 v n xs) (hn : 0 < n) :
    ∃ g cap, v = .slice (some ⟨g, 0, none⟩) n cap ∧ base ≤ g ∧ g < w.heap.size ∧ n ≤ cap ∧ ∀ j, j < n → w.cell? ⟨g, j, none⟩ = xs[j]? := by
  obtain ⟨h1, h2⟩ := h
  rcases h2 with ⟨_, h0⟩ | ⟨g, cap, cur, hv, hb, hg, hc, _, _, ht⟩
  · omega
  · refine ⟨g, cap, hv, hb, (Array.getElem?_eq_some_iff.1 hg).1, hc, fun j hj => ?_⟩
    rw [cell_of_row w g j cur e (0, 0) hg, ← ht, List.getElem?_take, if_pos (by omega)]
    simp

theorem wrap_u64 {n : Int} (h0 : 0 ≤ n) (h : n < 18446744073709551616) : IntKind.u64.wrap n = n := by
  unfold IntKind.wrap; simp [IntKind.bits, IntKind.signed]; exact Int.emod_eq_of_lt h0 h

theorem ownsRow_mono {w : World} {base base' e k n : Nat} {v : Value} {xs : List Value} (h : w.ownsRow base e k v n xs) (hb : base' ≤ base) : w.ownsRow base' e k v n xs := by
  obtain ⟨h1, h2⟩ := h
  refine ⟨h1, ?_⟩
  rcases h2 with h2 | ⟨g, cap, cur, hv, hg, r⟩
  · exact .inl h2
  · exact .inr ⟨g, cap, cur, hv, Nat.le_trans hb hg, r⟩

theorem below_drewN {B : Nat} {a w : World} (h : Below B a w) (n : Nat) : Below B a (w.drewN n) := ⟨h.os, h.tape, h.output, h.size, h.block⟩

/- A row of bytes read as a string. -/
theorem conv_row {P : Program} {w : World} {src dst e e' base n : Nat} {v : Value} {xs : List Int} (hs : P.underlying src = some (.slice e)) (he : P.underlying e = some (.int .u8)) (hd : P.underlying dst = some .string)
    (hown : w.ownsRow base e' 1 v n (xs.map (Value.int .u8))) : (convert src dst v).run P w = .ok (.string (strOfNums xs)) w := by
  obtain ⟨h1, h2⟩ := hown
  simp at h1
  rcases h2 with ⟨rfl, h0⟩ | ⟨g, cap, cur, rfl, hb, hg, hc, _, _, ht⟩
  · have : xs = [] := List.eq_nil_of_length_eq_zero (by omega)
    subst this
    exact run_convert_bytes_nil w src e hs he 0 0 dst hd
  · exact run_convert_bytes_arg w src e hs he g 0 n cap xs h1 (fun i hi => by
      rw [Nat.zero_add, cell_of_row w g i cur e' (0, 0) hg]
      have : (cur.toList.take (n * 1))[i]? = (xs.map (Value.int .u8))[i]? := by rw [ht]
      rw [List.getElem?_take, if_pos (by omega)] at this
      simp at this
      rw [this, List.getD_eq_getElem?_getD, List.getElem?_eq_getElem (by omega)]; simp) dst hd

theorem ownsRow_ext {w w' : World} {base e k n : Nat} {v : Value} {xs : List Value} (h : w.ownsRow base e k v n xs) (hb : Below w.heap.size w w') : w'.ownsRow base e k v n xs := by
  obtain ⟨h1, h2⟩ := h
  refine ⟨h1, ?_⟩
  rcases h2 with h2 | ⟨g, cap, cur, hv, hg, hh, r⟩
  · exact .inl h2
  · exact .inr ⟨g, cap, cur, hv, hg, (hb.block g (Array.getElem?_eq_some_iff.1 hh).1).trans hh, r⟩
theorem below_ext {B : Nat} {w0 w w' : World} (h : Below B w0 w) (hB : B ≤ w0.heap.size) (hb : Below w.heap.size w w') : Below B w0 w' := h.trans (hb.mono (Nat.le_trans hB h.size))
theorem kept_eq {G : World → World → Prop} {x : Value} : ∀ v w w', (fun v (_ : World) => v = x) v w → G w w' → (fun v (_ : World) => v = x) v w' := fun _ _ _ h _ => h
theorem kept_row {base e k n : Nat} {xs : List Value} : ∀ v w w', (fun v (w : World) => w.ownsRow base e k v n xs) v w → Below w.heap.size w w' → (fun v (w : World) => w.ownsRow base e k v n xs) v w' := fun _ _ _ h hb => ownsRow_ext h hb

theorem ownsRow_len {w : World} {base e n : Nat} {v : Value} {l : List Int} {k : IntKind} (h : w.ownsRow base e 1 v n (l.map (Value.int k))) : w.ownsRow base e 1 v l.length (l.map (Value.int k)) := by
  have : l.length = n := by have := h.1; simpa using this
  rw [this]; exact h

theorem rgGoals_cons {P : Program} {ops : Array Oper} {C : World → Prop} {G : World → World → Prop} {all : List (Value → World → Prop)} {V : Nat → Value} {o : Oper} {os : List Oper} {p : Value → World → Prop} {ps : List (Value → World → Prop)}
    {d : List Nat} {ds : List (List Nat)} {i : Nat} (j : Nat) {a : Act} {f : Value → Act} (hf : ∀ v, a.put o.dst v = f v) (hj : i + 1 = j)
    (h1 : ∀ w, C w → depsHold V all w d → ∀ K : Act → World → Prop, (∀ v w', G w w' → p v w' → K (f v) w') →
      if Region.wanted o (yielded ops a.tmps) = true then o.wp P a w K (fun _ _ _ => False) else K (f undef) w)
    (h2 : rgGoals P ops C G all V os ps ds j (f (V i))) : rgGoals P ops C G all V (o :: os) (p :: ps) (d :: ds) i a := by
  subst hj
  obtain rfl : (fun v => a.put o.dst v) = f := funext hf
  exact ⟨h1, h2⟩

theorem postsHold_at {V : Nat → Value} {w : World} : ∀ {ps : List (Value → World → Prop)} {k : Nat}, postsHold V w ps k → ∀ (j : Nat) {p : Value → World → Prop}, ps[j]? = some p → p (V (k + j)) w
  | [], _, _, _, _, hj => by simp at hj
  | q :: ps, k, h, 0, p, hj => by simp at hj; subst hj; exact h.1
  | q :: ps, k, h, j + 1, p, hj => by rw [show k + (j + 1) = k + 1 + j from by omega]; exact postsHold_at h.2 j (by simpa using hj)

theorem len_row {P : Program} {t e' : TypeId} (ht : P.underlying t = some (.slice e')) {w : World} {base e k n : Nat} {v : Value} {xs : List Value} (h : w.ownsRow base e k v n xs) (w' : World) (ty : TypeId) : (Builtin.len_ #[t] ty #[v]).run P w' = .ok (.int .i64 n) w' := by
  rcases h.2 with ⟨rfl, rfl⟩ | ⟨g, cap, cur, rfl, _⟩ <;> (simp [Builtin.len_, run_underlying ht]; try rfl)

theorem wrap_i64_def (n : Int) : IntKind.i64.wrap n = if 9223372036854775808 ≤ n % 18446744073709551616 then n % 18446744073709551616 - 18446744073709551616 else n % 18446744073709551616 := by
  unfold IntKind.wrap; simp [IntKind.bits, IntKind.signed]
theorem wrap_u64_def (n : Int) : IntKind.u64.wrap n = n % 18446744073709551616 := by
  unfold IntKind.wrap; simp [IntKind.bits, IntKind.signed]

end Go.Proofs.Ytbllifhcfgjdlaa
