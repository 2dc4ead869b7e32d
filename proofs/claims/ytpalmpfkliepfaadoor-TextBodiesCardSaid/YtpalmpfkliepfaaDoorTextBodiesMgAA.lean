/- What is proved here: numbers as digits, and back: plain lists of numbers, no program. What is proved here: bytes as hex digits, and back; a line cut at the blanks that stand outside quotes: plain lists of numbers, no program. What is proved here: plain laws of signs and their bytes. What is proved here: what the functions of the package utf, and the document's of them, come to. What is proved here: what Right, Count and the document's Bytes, First, Count come to. What is proved here: what Count, and the document's Bytes, First and Count, come to. What is proved here: what the document's Bytes, First and Count come to. What is proved here: what the document's First and Count come to. What is proved here: a slice appended to a row of the call's own. What is proved here: plain laws of names shown and read. What is proved here: what Show, of the program and of the document, comes to. What is proved here: more rules over known values: a row of bytes as a string; guarded calls. What is proved here: what the texts of names (Show, Read), and the document's of them, come to. What is proved here: the document's Read of names; the law UtfShows is true. What is proved here: equality of structs, parts of structs in memory, and results that lie in cells. What is proved here: rules for arrays behind a pointer. What is proved here: a string appended to a row of bytes; bytes as numbers and back. What is proved here: arguments read as data of Lean, with what is known of their size: no slice that came in takes more bytes than a machine has. What is proved here: modules as plain values, and how they are read. What is proved here: numbers as digits: natural, Digits, nibble. What is proved here: library functions (laid by the kit's shelf). What is proved here: CutPrefix, Index, Count, Contains at one byte, in words of lists of numbers. What is proved here: Number: what a text is of digits, by the program. -/
import Derived.Test.YtpalmpfkliepfaaDoorProg
import Derived.WalkKit
import Derived.WalkLawsBesides
import Derived.WalkSpells
import Derived.Outline
import Derived.Laws.BytesArg
import Derived.Deep.QuietTactic
import Derived.BigQuiet
import Derived.Lib.ConvBytes
import Derived.StillTail
import Derived.Laws.OwnMore
import Derived.Maps.AppendAt
import Derived.Deep.LoopGhost
import Derived.Great.BuildSlice
import Derived.Laws.MakeOwn
import Derived.Deep.Slices
import Derived.OpenShut
import Derived.ChangeSame
import Derived.Laws.StructEq
import Derived.Lib.AppendStr
import Derived.SizedLaws
import Derived.Shelf.Strings.Search3
import Derived.Shelf.Strings.Count
import Derived.Shelf.Small.Wraps
import Derived.Shelf.Strings.SplitCore
namespace Go.Proofs.YtpalmpfkliepfaaDoor
set_option linter.unusedVariables false
def natB (n : Nat) : List Nat := if h : n < 10 then [48 + n] else natB (n / 10) ++ [48 + n % 10]
termination_by n
decreasing_by omega
def digB (n : Int) : List Nat := if n < 0 then 45 :: natB n.natAbs else natB n.natAbs
def valL (l : List Nat) : Nat := l.foldl (fun a c => a * 10 + (c - 48)) 0
theorem natB_lt {n : Nat} (h : n < 10) : natB n = [48 + n] := by rw [natB, dif_pos h]
theorem natB_ge {n : Nat} (h : ¬ n < 10) : natB n = natB (n / 10) ++ [48 + n % 10] := by rw [natB, dif_neg h]
theorem natB_dig (n : Nat) : ∀ c ∈ natB n, 48 ≤ c ∧ c ≤ 57 := by
  induction n using Nat.strongRecOn with
  | _ n ih =>
    intro c hc
    by_cases h : n < 10
    · rw [natB_lt h] at hc; simp at hc; omega
    · rw [natB_ge h] at hc
      rcases List.mem_append.1 hc with hc | hc
      · exact ih (n / 10) (by omega) c hc
      · simp at hc; omega
theorem natB_ne (n : Nat) : natB n ≠ [] := by
  by_cases h : n < 10
  · rw [natB_lt h]; simp
  · rw [natB_ge h]; simp
theorem valL_app (a : List Nat) (c : Nat) : valL (a ++ [c]) = valL a * 10 + (c - 48) := by simp [valL]
theorem valL_natB (n : Nat) : valL (natB n) = n := by
  induction n using Nat.strongRecOn with
  | _ n ih =>
    by_cases h : n < 10
    · rw [natB_lt h]; simp [valL]
    · rw [natB_ge h, valL_app, ih (n / 10) (by omega)]; omega
theorem hd_app {a b : List Nat} (h : a ≠ []) : (a ++ b).head? = a.head? := by
  cases a with
  | nil => exact absurd rfl h
  | cons x a => rfl
theorem natB_head {n : Nat} (h : 0 < n) : (natB n).head? ≠ some 48 := by
  induction n using Nat.strongRecOn with
  | _ n ih =>
    by_cases h2 : n < 10
    · rw [natB_lt h2]; simp; omega
    · rw [natB_ge h2]
      have := ih (n / 10) (by omega) (by omega)
      rw [hd_app (natB_ne _)]
      exact this
theorem natB_len (k n : Nat) (hk : 0 < k) (h : n < 10 ^ k) : (natB n).length ≤ k := by
  induction k generalizing n with
  | zero => omega
  | succ k ih =>
    by_cases h2 : n < 10
    · rw [natB_lt h2]; simp
    · rw [natB_ge h2, List.length_append]
      have hk0 : 0 < k := by
        rcases Nat.eq_zero_or_pos k with rfl | h3
        · simp at h; omega
        · exact h3
      have := ih (n / 10) hk0 (by rw [Nat.pow_succ] at h; omega)
      simp; omega
theorem valL_pos {l : List Nat} (hd : ∀ c ∈ l, 48 ≤ c ∧ c ≤ 57) (hn : l ≠ []) (hh : l.head? ≠ some 48) : 0 < valL l := by
  have key : ∀ (l : List Nat) (a : Nat), 0 < a → 0 < l.foldl (fun a c => a * 10 + (c - 48)) a := by
    intro l
    induction l with
    | nil => intro a h; exact h
    | cons x l ih => intro a h; exact ih _ (by show 0 < a * 10 + (x - 48); omega)
  cases l with
  | nil => exact absurd rfl hn
  | cons x l =>
    have h1 := hd x List.mem_cons_self
    have : x ≠ 48 := fun e => hh (by rw [e]; rfl)
    exact key l _ (by show 0 < 0 * 10 + (x - 48); omega)
theorem natB_valL (l : List Nat) (hd : ∀ c ∈ l, 48 ≤ c ∧ c ≤ 57) (hn : l ≠ []) (hh : l.head? = some 48 → l.length = 1) : natB (valL l) = l := by
  have key : ∀ (n : Nat) (l : List Nat), l.length = n → (∀ c ∈ l, 48 ≤ c ∧ c ≤ 57) → l ≠ [] → (l.head? = some 48 → l.length = 1) → natB (valL l) = l := by
    intro n
    induction n with
    | zero => intro l hl _ hn; exact absurd (List.length_eq_zero_iff.1 hl) hn
    | succ n ih =>
      intro l hl hd hn hh
      obtain ⟨a, c, rfl⟩ : ∃ a c, l = a ++ [c] := ⟨l.dropLast, l.getLast hn, (List.dropLast_concat_getLast hn).symm⟩
      have hc := hd c (by simp)
      rw [valL_app]
      by_cases ha : a = []
      · subst ha
        simp only [List.nil_append]
        rw [show valL [] = 0 from rfl, natB_lt (by omega)]
        congr 1; omega
      · have hda : ∀ c ∈ a, 48 ≤ c ∧ c ≤ 57 := fun x hx => hd x (List.mem_append_left _ hx)
        have hha : a.head? ≠ some 48 := by
          intro e
          have := hh (by rw [hd_app ha]; exact e)
          rw [List.length_append] at this
          have : a.length = 0 := by simp at this; simp [this]
          exact ha (List.length_eq_zero_iff.1 this)
        have hp := valL_pos hda ha hha
        rw [natB_ge (by omega), show (valL a * 10 + (c - 48)) / 10 = valL a by omega, show (valL a * 10 + (c - 48)) % 10 = c - 48 by omega,
          ih a (by rw [List.length_append] at hl; simpa using hl) hda ha (fun e => absurd e hha)]
        congr 2; omega
  exact key l.length l rfl hd hn hh
theorem natB_no45 (n : Nat) : (natB n).head? ≠ some 45 := by
  intro h
  have := natB_dig n 45 (List.mem_of_mem_head? (by rw [h]; rfl))
  omega
/-- What a text is of digits (as the program reads it). -/
def numT (low : Bool) (t : List Nat) : Int × Bool :=
  if t = [] ∨ 19 < t.length ∨ (t.head? = some 48 ∧ (low = true ∨ 1 < t.length)) then (0, false)
  else if ∀ c ∈ t, 48 ≤ c ∧ c ≤ 57 then
    if low = true ∧ valL t ≤ 9223372036854775808 then (-(valL t : Int), true) else if low = false ∧ valL t < 9223372036854775808 then ((valL t : Int), true) else (0, false)
  else (0, false)
def numP (l : List Nat) : Int × Bool := if l.head? = some 45 then numT true l.tail else numT false l
theorem numT_no {low : Bool} {t : List Nat} (h : (numT low t).2 = false) : numT low t = (0, false) := by
  unfold numT at h ⊢
  split
  · rfl
  · rename_i h1
    rw [if_neg h1] at h
    split
    · rename_i h2
      rw [if_pos h2] at h
      split
      · rename_i h3; rw [if_pos h3] at h; cases h
      · rename_i h3
        rw [if_neg h3] at h
        split
        · rename_i h4; rw [if_pos h4] at h; cases h
        · rfl
    · rfl
theorem numP_no {l : List Nat} (h : (numP l).2 = false) : numP l = (0, false) := by
  unfold numP at h ⊢
  split
  · rename_i h1; rw [if_pos h1] at h; exact numT_no h
  · rename_i h1; rw [if_neg h1] at h; exact numT_no h
def inI (n : Int) : Prop := -9223372036854775808 ≤ n ∧ n ≤ 9223372036854775807
theorem numP_dig {n : Int} (h : inI n) : numP (digB n) = (n, true) := by
  unfold inI at h
  have hl : (natB n.natAbs).length ≤ 19 := natB_len 19 _ (by decide) (by omega)
  have hd := natB_dig n.natAbs
  have hv := valL_natB n.natAbs
  unfold numP digB
  by_cases hn : n < 0
  · rw [if_pos hn, if_pos (show (45 :: natB n.natAbs).head? = some 45 from rfl), List.tail_cons]
    have hh := natB_head (n := n.natAbs) (by omega)
    unfold numT
    rw [if_neg, if_pos hd, if_pos ⟨rfl, by omega⟩, hv]
    · congr 1; omega
    · rintro (h1 | h1 | h1)
      · exact natB_ne _ h1
      · omega
      · exact hh h1.1
  · rw [if_neg hn, if_neg (natB_no45 _)]
    unfold numT
    rw [if_neg, if_pos hd, if_neg (by simp), if_pos ⟨rfl, by omega⟩, hv]
    · congr 1; omega
    · rintro (h1 | h1 | ⟨h1, h2⟩)
      · exact natB_ne _ h1
      · omega
      · rcases h2 with h2 | h2
        · cases h2
        · rcases Nat.eq_zero_or_pos n.natAbs with h3 | h3
          · rw [h3, natB_lt (by decide)] at h2; simp at h2
          · exact natB_head h3 h1
theorem numT_yes {low : Bool} {t : List Nat} {n : Int} (h : numT low t = (n, true)) : inI n ∧ natB n.natAbs = t ∧ (n < 0 ↔ low = true) := by
  unfold numT at h
  split at h
  · cases h
  · rename_i h1
    split at h
    · rename_i h2
      have ht : t ≠ [] := fun e => h1 (.inl e)
      have hh : t.head? = some 48 → t.length = 1 := by
        intro e
        rcases Nat.lt_or_ge 1 t.length with h3 | h3
        · exact absurd (.inr (.inr ⟨e, .inr h3⟩)) h1
        · have := List.length_pos_iff.2 ht; omega
      have hnb := natB_valL t h2 ht hh
      split at h
      · rename_i h3
        obtain ⟨hlow, hle⟩ := h3
        have hp := valL_pos h2 ht (fun e => h1 (.inr (.inr ⟨e, .inl hlow⟩)))
        simp only [Prod.mk.injEq, and_true] at h
        subst h
        unfold inI
        exact ⟨by omega, by rw [Int.natAbs_neg, Int.natAbs_natCast]; exact hnb, by constructor <;> intro _ <;> first | exact hlow | omega⟩
      · split at h
        · rename_i h4
          obtain ⟨hlow, hle⟩ := h4
          simp only [Prod.mk.injEq, and_true] at h
          subst h
          unfold inI
          refine ⟨by omega, by rw [Int.natAbs_natCast]; exact hnb, ?_⟩
          rw [hlow]
          constructor
          · intro h5; omega
          · intro h5; cases h5
        · cases h
    · cases h
theorem numP_yes {l : List Nat} {n : Int} (h : numP l = (n, true)) : inI n ∧ digB n = l := by
  unfold numP at h
  split at h
  · rename_i h1
    obtain ⟨h2, h3, h4⟩ := numT_yes h
    refine ⟨h2, ?_⟩
    unfold digB
    rw [if_pos (h4.2 rfl), h3]
    cases l with
    | nil => cases h1
    | cons x l => simp only [List.head?_cons, Option.some.injEq] at h1; subst h1; rfl
  · obtain ⟨h2, h3, h4⟩ := numT_yes h
    refine ⟨h2, ?_⟩
    unfold digB
    rw [if_neg (fun e => by have := h4.1 e; cases this), h3]
theorem digB_len {n : Int} (h : inI n) : (digB n).length ≤ 20 := by
  unfold inI at h
  have hl : (natB n.natAbs).length ≤ 19 := natB_len 19 _ (by decide) (by omega)
  unfold digB
  split
  · simp; omega
  · omega
end Go.Proofs.YtpalmpfkliepfaaDoor

namespace Go.Proofs.YtpalmpfkliepfaaDoor
set_option linter.unusedVariables false
def hx (n : Nat) : Nat := if n < 10 then 48 + n else 87 + n
def hxs (l : List Nat) : List Nat := l.flatMap fun b => [hx (b / 16), hx (b % 16)]
end Go.Proofs.YtpalmpfkliepfaaDoor

namespace Go.Proofs.YtpalmpfkliepfaaDoor
open Go.RowKit
set_option linter.unusedVariables false
set_option linter.unusedSimpArgs false

/- A STATEMENT WHOSE ORDER IS OPEN. Each operation i bears a post: a predicate on its value and a world, kept by G. dl: of each operation those that stand before it and whose posts its step may use. Whatever order is drawn, behind it all posts hold. -/

def putAll : List Oper → (Nat → Value) → Nat → Act → Act
  | [], _, _, a => a
  | o :: os, V, i, a => putAll os V (i + 1) (a.put o.dst (V i))

def depsHold (V : Nat → Value) (posts : List (Value → World → Prop)) (w : World) : List Nat → Prop
  | [] => True
  | j :: js => (posts.getD j (fun _ _ => True)) (V j) w ∧ depsHold V posts w js

def postsHold (V : Nat → Value) (w : World) : List (Value → World → Prop) → Nat → Prop
  | [], _ => True
  | p :: ps, i => p (V i) w ∧ postsHold V w ps (i + 1)

def postsKept (G : World → World → Prop) : List (Value → World → Prop) → Prop
  | [] => True
  | p :: ps => (∀ v w w', p v w → G w w' → p v w') ∧ postsKept G ps

/-- j is an operation that must come before the operation o. -/
def pre (o : Oper) (j : Nat) : Bool := o.after.any fun e => e.on == j && Region.binds .any e

def isSelect : Op → Bool
  | .select _ _ => true
  | _ => false

def rgCheckAt (ops : Array Oper) (dl : List (List Nat)) (N : Nat) (i : Nat) (o : Oper) : Bool :=
  o.after.all (fun e => !Region.binds .any e || decide (e.on < i)) &&
  (match o.dst with | some d => decide (d < N) | none => true) &&
  !isSelect o.op &&
  (List.range ops.size).all (fun j => match (ops[j]?) with
    | some oj => (j == i) ||
        (match oj.dst with
         | some t => o.dst != some t && (!(o.looksAt ops).contains t || pre o j || pre oj i)
         | none => true)
    | none => true) &&
  (match o.dst with | some t => !(o.looksAt ops).contains t | none => true) &&
  (dl.getD i []).all (fun j => pre o j)

def rgCheck (ops : Array Oper) (dl : List (List Nat)) (N : Nat) : Bool :=
  decide (dl.length = ops.size) && (List.range ops.size).all (fun i => match ops[i]? with | some o => rgCheckAt ops dl N i o | none => true)


section
variable {P : Program} {ops : Array Oper} {C : World → Prop} {G : World → World → Prop} {posts : List (Value → World → Prop)} {dl : List (List Nat)} {N : Nat} {a0 : Act}

theorem put_get_ne {a : Act} {dst : Option Tmp} {v : Value} {t : Nat} (h : dst ≠ some t) : (a.put dst v).tmps[t]? = a.tmps[t]? := by
  cases dst with
  | none => rfl
  | some d => simp only [Act.put]; exact Array.getElem?_setIfInBounds_ne (fun e => h (by rw [e]))

theorem put_size {a : Act} {dst : Option Tmp} {v : Value} : (a.put dst v).tmps.size = a.tmps.size := by
  cases dst <;> simp [Act.put]

theorem put_defers {a : Act} {dst : Option Tmp} {v : Value} : (a.put dst v).defers = a.defers := by
  cases dst <;> rfl

theorem put_get {a : Act} {v : Value} {t : Nat} (h : t < a.tmps.size) : (a.put (some t) v).tmps[t]? = some v := by
  simp only [Act.put]; exact Array.getElem?_setIfInBounds_self_of_lt h

theorem putAll_size (V : Nat → Value) : ∀ (os : List Oper) (k : Nat) (a : Act), (putAll os V k a).tmps.size = a.tmps.size
  | [], _, _ => rfl
  | o :: os, k, a => (putAll_size V os (k + 1) _).trans put_size

theorem putAll_defers (V : Nat → Value) : ∀ (os : List Oper) (k : Nat) (a : Act), (putAll os V k a).defers = a.defers
  | [], _, _ => rfl
  | o :: os, k, a => (putAll_defers V os (k + 1) _).trans put_defers

theorem putAll_get_none (V : Nat → Value) {t : Nat} : ∀ (os : List Oper) (k : Nat) (a : Act), (∀ (m : Nat) (o : Oper), os[m]? = some o → o.dst ≠ some t) → (putAll os V k a).tmps[t]? = a.tmps[t]?
  | [], _, _, _ => rfl
  | o :: os, k, a, h => (putAll_get_none V os (k + 1) _ (fun m o' hm => h (m + 1) o' (by simpa using hm))).trans (put_get_ne (h 0 o rfl))

theorem putAll_get_some (V : Nat → Value) {t : Nat} : ∀ (os : List Oper) (k : Nat) (a : Act) (m : Nat) (o : Oper), os[m]? = some o → o.dst = some t → t < a.tmps.size →
    (∀ (m' : Nat) (o' : Oper), os[m']? = some o' → m' ≠ m → o'.dst ≠ some t) → (putAll os V k a).tmps[t]? = some (V (k + m))
  | [], _, _, m, o, h, _, _, _ => by simp at h
  | o1 :: os, k, a, 0, o, h, hd, ht, hs => by
    simp at h; subst h
    refine (putAll_get_none V os (k + 1) _ (fun m o' hm => hs (m + 1) o' (by simpa using hm) (by omega))).trans ?_
    rw [hd]; exact put_get ht
  | o1 :: os, k, a, m + 1, o, h, hd, ht, hs => by
    have := putAll_get_some V os (k + 1) (a.put o1.dst (V k)) m o (by simpa using h) hd (by rw [put_size]; exact ht) (fun m' o' hm hne => hs (m' + 1) o' (by simpa using hm) (by omega))
    rw [show k + (m + 1) = k + 1 + m from by omega]; exact this

/-- A step carried over from one frame to another that looks alike to the operation. -/
theorem wp_carry {o : Oper} {a a' : Act} {w : World} {R : Value → World → Prop} {K : Act → World → Prop} {Q : Exit → Act → World → Prop} (he : execOp a'.eval o = execOp a.eval o) (hs : a'.tmps.size = a.tmps.size)
    (h : o.wp P a w (fun b w' => ∃ v, b = a.put o.dst v ∧ R v w') (fun _ _ _ => False)) (hK : ∀ v w', R v w' → K (a'.put o.dst v) w') : o.wp P a' w K Q := by
  have key : ∀ u w', (∃ v, a.put o.dst u = a.put o.dst v ∧ R v w') → K (a'.put o.dst u) w' := by
    rintro u w' ⟨v, h1, h2⟩
    have e : a'.put o.dst u = a'.put o.dst v := by
      cases hd : o.dst with
      | none => rfl
      | some d =>
        rw [hd] at h1
        by_cases hlt : d < a.tmps.size
        · have := congrArg (fun x : Act => x.tmps[d]?) h1
          simp only [put_get hlt] at this
          rw [Option.some.inj this]
        · simp only [Act.put]; rw [Array.setIfInBounds_eq_of_size_le (by rw [hs]; exact Nat.le_of_not_lt hlt), Array.setIfInBounds_eq_of_size_le (by rw [hs]; exact Nat.le_of_not_lt hlt)]
    rw [e]; exact hK v w' h2
  unfold Oper.wp at *
  rw [he]
  generalize (execOp a.eval o).run P w = r at *
  cases r with
  | ok n w' =>
    cases n <;> simp only [Oper.upon] at h ⊢
    case value u => exact key _ _ h
    case skip => exact key _ _ h
    case defer d =>
      obtain ⟨v, h1, _⟩ := h
      have := congrArg Act.defers h1
      rw [put_defers, put_defers] at this
      simp at this
    case enter f args =>
      refine Calls.mono h (fun e w'' he => ?_)
      cases e with
      | returned v => exact key _ _ he
      | panicked c => exact he.elim
      | outgrown => obtain ⟨_, _, h⟩ := he; exact h.elim
    case row r args => exact Rows.mono h (fun v w'' he => key _ _ he)
  | halt x w' => cases x <;> simp only [Oper.upon] at h ⊢

structure RgInv (ops : Array Oper) (C : World → Prop) (posts : List (Value → World → Prop)) (a0 : Act) (V : Nat → Value) (listed : Array Bool) (a : Act) (w : World) : Prop where
  size : listed.size = ops.size
  tmps : a.tmps.size = a0.tmps.size
  defers : a.defers = a0.defers
  c : C w
  got : ∀ (j : Nat) (o : Oper), ops[j]? = some o → listed[j]? = some true → ∀ t, o.dst = some t → a.tmps[t]? = some (V j)
  post : ∀ (j : Nat) (o : Oper), ops[j]? = some o → listed[j]? = some true → (posts.getD j (fun _ _ => True)) (V j) w
  same : ∀ t, (∀ (j : Nat) (o : Oper), ops[j]? = some o → listed[j]? = some true → o.dst ≠ some t) → a.tmps[t]? = a0.tmps[t]?
  down : ∀ (j : Nat) (o : Oper), ops[j]? = some o → listed[j]? = some true → ∀ k, pre o k = true → listed[k]? = some true

theorem pre_spec {o : Oper} {e : Edge} (he : e ∈ o.after) (hb : Region.binds .any e = true) : pre o e.on = true := by
  unfold pre
  rw [Array.any_eq_true']
  exact ⟨e, he, by simp [hb]⟩

theorem pre_mem {o : Oper} {k : Nat} (h : pre o k = true) : ∃ e ∈ o.after, e.on = k ∧ Region.binds .any e = true := by
  unfold pre at h
  rw [Array.any_eq_true'] at h
  obtain ⟨e, he, h2⟩ := h
  simp at h2
  exact ⟨e, he, h2.1, h2.2⟩

structure RgOk (ops : Array Oper) (dl : List (List Nat)) (N : Nat) (i : Nat) (o : Oper) : Prop where
  lt : ∀ k, pre o k = true → k < i
  dst : ∀ d, o.dst = some d → d < N
  sel : ∀ cs b, o.op ≠ .select cs b
  one : ∀ (j : Nat) (oj : Oper), ops[j]? = some oj → j ≠ i → ∀ t, oj.dst = some t → o.dst ≠ some t
  see : ∀ (j : Nat) (oj : Oper), ops[j]? = some oj → j ≠ i → ∀ t, oj.dst = some t → t ∈ o.looksAt ops → pre o j = true ∨ pre oj i = true
  self : ∀ t, o.dst = some t → t ∉ o.looksAt ops
  dl : ∀ j ∈ dl.getD i [], pre o j = true

theorem rgOk_of_check (h : rgCheck ops dl N = true) : dl.length = ops.size ∧ ∀ i o, ops[i]? = some o → RgOk ops dl N i o := by
  unfold rgCheck at h
  simp only [Bool.and_eq_true, decide_eq_true_eq, List.all_eq_true, List.mem_range] at h
  refine ⟨h.1, fun i o ho => ?_⟩
  have hi : i < ops.size := (Array.getElem?_eq_some_iff.1 ho).1
  have hc := h.2 i hi
  rw [ho] at hc
  simp only [rgCheckAt, Bool.and_eq_true, List.all_eq_true, List.mem_range] at hc
  obtain ⟨⟨⟨⟨⟨h1, h2⟩, h3⟩, h4⟩, h5⟩, h6⟩ := hc
  refine ⟨?_, ?_, ?_, ?_, ?_, ?_, h6⟩
  · intro k hk
    obtain ⟨e, he, rfl, hb⟩ := pre_mem hk
    rw [Array.all_eq_true'] at h1
    have := h1 e he
    simpa [hb] using this
  · intro d hd; rw [hd] at h2; simpa using h2
  · intro cs b hs; rw [hs] at h3; simp [isSelect] at h3
  · intro j oj hj hne t ht
    have := h4 j (Array.getElem?_eq_some_iff.1 hj).1
    rw [hj] at this
    simp only [ht, Bool.or_eq_true, beq_iff_eq, hne, false_or, Bool.and_eq_true, bne_iff_ne, ne_eq] at this
    exact this.1
  · intro j oj hj hne t ht hm
    have := h4 j (Array.getElem?_eq_some_iff.1 hj).1
    rw [hj] at this
    simp only [ht, Bool.or_eq_true, beq_iff_eq, hne, false_or, Bool.and_eq_true] at this
    have := this.2
    rw [List.contains_iff_mem.2 hm] at this
    simpa using this
  · intro t ht; rw [ht] at h5; simpa using h5

theorem depsHold_of {V : Nat → Value} {w : World} : ∀ (d : List Nat), (∀ j ∈ d, (posts.getD j (fun _ _ => True)) (V j) w) → depsHold V posts w d
  | [], _ => trivial
  | j :: js, h => ⟨h j (by simp), depsHold_of js (fun k hk => h k (by simp [hk]))⟩

theorem postsHold_of {V : Nat → Value} {w : World} : ∀ (ps : List (Value → World → Prop)) (k : Nat), (∀ (j : Nat) (p : Value → World → Prop), ps[j]? = some p → p (V (k + j)) w) → postsHold V w ps k
  | [], _, _ => trivial
  | p :: ps, k, h => ⟨h 0 p rfl, postsHold_of ps (k + 1) (fun j p hj => by rw [show k + 1 + j = k + (j + 1) from by omega]; exact h (j + 1) p (by simpa using hj))⟩

theorem postsKept_at : ∀ (ps : List (Value → World → Prop)), postsKept G ps → ∀ j v w w', (ps.getD j (fun _ _ => True)) v w → G w w' → (ps.getD j (fun _ _ => True)) v w'
  | [], _, _, _, _, _, _, _ => by simp
  | p :: ps, h, 0, v, w, w', hp, hg => h.1 v w w' hp hg
  | p :: ps, h, j + 1, v, w, w', hp, hg => postsKept_at ps h.2 j v w w' hp hg

theorem RgInv.looks {V : Nat → Value} {listed : Array Bool} {a : Act} {w : World} (hI : RgInv ops C posts a0 V listed a w) (hN : a0.tmps.size = N) (hok : ∀ i o, ops[i]? = some o → RgOk ops dl N i o)
    {i : Nat} {o : Oper} (ho : ops[i]? = some o) (hnl : listed[i]? ≠ some true) (hpre : ∀ k, pre o k = true → listed[k]? = some true) :
    ∀ t ∈ o.looksAt ops, a.tmps[t]? = (putAll (ops.toList.take i) V 0 a0).tmps[t]? := by
  intro t ht
  have hget : ∀ m o', (ops.toList.take i)[m]? = some o' ↔ m < i ∧ ops[m]? = some o' := by
    intro m o'
    rw [List.getElem?_take]
    split <;> simp [*]
  by_cases hex : ∃ (j : Nat) (oj : Oper), ops[j]? = some oj ∧ oj.dst = some t
  · obtain ⟨j, oj, hj, hjd⟩ := hex
    have hji : j ≠ i := by
      rintro rfl
      rw [ho] at hj; cases hj
      exact (hok _ _ ho).self t hjd ht
    have huniq : ∀ (j' : Nat) (o' : Oper), ops[j']? = some o' → o'.dst = some t → j' = j := by
      intro j' o' hj' hd'
      by_cases e : j' = j
      · exact e
      · exact absurd hjd ((hok _ _ hj).one j' o' hj' e t hd')
    rcases (hok _ _ ho).see j oj hj hji t hjd ht with hp | hp
    · rw [hI.got j oj hj (hpre j hp) t hjd]
      have hlt := (hok _ _ ho).lt j hp
      rw [putAll_get_some V _ 0 a0 j oj ((hget j oj).2 ⟨hlt, hj⟩) hjd (by rw [hN]; exact (hok _ _ hj).dst t hjd)
        (fun m' o' hm' hne => fun hd' => hne (huniq m' o' ((hget m' o').1 hm').2 hd'))]
      simp
    · have hlt := (hok _ _ hj).lt i hp
      rw [hI.same t (fun j' o' hj' hl' hd' => by
        obtain rfl := huniq j' o' hj' hd'
        rw [hj] at hj'; cases hj'
        exact hnl (hI.down _ _ hj hl' i hp))]
      rw [putAll_get_none V _ 0 a0 (fun m o' hm hd' => by
        have := huniq m o' ((hget m o').1 hm).2 hd'
        have := ((hget m o').1 hm).1
        omega)]
  · rw [hI.same t (fun j' o' hj' _ hd' => hex ⟨j', o', hj', hd'⟩), putAll_get_none V _ 0 a0 (fun m o' hm hd' => hex ⟨m, o', ((hget m o').1 hm).2, hd'⟩)]

theorem eval_congr_get {a a' : Act} {x : Operand} (h : ∀ t, x = .tmp t → a'.tmps[t]? = a.tmps[t]?) : a'.eval x = a.eval x := by
  cases x with
  | tmp t => simp only [Act.eval, Array.getD_eq_getD_getElem?, h t rfl]
  | _ => rfl

theorem yielded_congr {o : Oper} {a a' : Act} (h : ∀ t ∈ o.looksAt ops, a'.tmps[t]? = a.tmps[t]?) : Region.wanted o (yielded ops a'.tmps) = Region.wanted o (yielded ops a.tmps) := by
  unfold Region.wanted
  cases hg : o.guard with
  | none => rfl
  | some gw =>
    obtain ⟨g, want⟩ := gw
    have : yielded ops a'.tmps g = yielded ops a.tmps g := by
      unfold yielded
      cases ht : (ops[g]?).bind (·.dst) with
      | none => rfl
      | some t =>
        have hm : t ∈ o.looksAt ops := by simp [Oper.looksAt, hg, ht]
        simp [h t hm]
    simp only [this]

theorem Array.get?_setTrue {listed : Array Bool} {i j : Nat} (hi : i < listed.size) : (listed.setIfInBounds i true)[j]? = some true ↔ j = i ∨ listed[j]? = some true := by
  by_cases e : j = i
  · subst e; simp [hi]
  · rw [Array.getElem?_setIfInBounds_ne (Ne.symm e)]; simp [e]

end

/- ONE ELEMENT APPENDED: a fact laid ahead of the walk. -/
/- The same as a law of the walk: the element is met from the goal. -/
/- A row that is owned and not empty, as the walk wants it. -/
theorem wrap_u64 {n : Int} (h0 : 0 ≤ n) (h : n < 18446744073709551616) : IntKind.u64.wrap n = n := by
  unfold IntKind.wrap; simp [IntKind.bits, IntKind.signed]; exact Int.emod_eq_of_lt h0 h

/- A row of bytes read as a string. -/
theorem conv_row {P : Program} {w : World} {src dst e e' base n : Nat} {v : Value} {xs : List Int} (hs : P.underlying src = some (.slice e)) (he : P.underlying e = some (.int .u8)) (hd : P.underlying dst = some .string)
    (hown : w.ownsRow base e' 1 v n (xs.map (Value.int .u8))) : (convert src dst v).run P w = .ok (.string (strOfNums xs)) w := by
  obtain ⟨h1, h2⟩ := hown
  simp at h1
  rcases h2 with ⟨rfl, h0⟩ | ⟨g, cap, cur, rfl, hb, hg, hc, _, _, ht⟩
  · have : xs = [] := List.eq_nil_of_length_eq_zero (by omega)
    subst this
    exact run_convert_bytes_nil w src e hs he 0 0 dst hd
  · exact run_convert_bytes_arg w src e hs he g 0 n cap xs h1 (fun i hi => by
      rw [Nat.zero_add, cell_of_row w g i cur e' (0, 0) hg]
      have : (cur.toList.take (n * 1))[i]? = (xs.map (Value.int .u8))[i]? := by rw [ht]
      rw [List.getElem?_take, if_pos (by omega)] at this
      simp at this
      rw [this, List.getD_eq_getElem?_getD, List.getElem?_eq_getElem (by omega)]; simp) dst hd

theorem kept_eq {G : World → World → Prop} {x : Value} : ∀ v w w', (fun v (_ : World) => v = x) v w → G w w' → (fun v (_ : World) => v = x) v w' := fun _ _ _ h _ => h
theorem postsHold_at {V : Nat → Value} {w : World} : ∀ {ps : List (Value → World → Prop)} {k : Nat}, postsHold V w ps k → ∀ (j : Nat) {p : Value → World → Prop}, ps[j]? = some p → p (V (k + j)) w
  | [], _, _, _, _, hj => by simp at hj
  | q :: ps, k, h, 0, p, hj => by simp at hj; subst hj; exact h.1
  | q :: ps, k, h, j + 1, p, hj => by rw [show k + (j + 1) = k + 1 + j from by omega]; exact postsHold_at h.2 j (by simpa using hj)

end Go.Proofs.YtpalmpfkliepfaaDoor

namespace Go.Proofs.YtpalmpfkliepfaaDoor.Ut
set_option linter.unusedVariables false
set_option linter.unusedSimpArgs false

/-- A sign's bytes. -/
def encB (c : Nat) : List Nat :=
  if 0x10ffff < c ∨ (0xd800 ≤ c ∧ c ≤ 0xdfff) then [] else if c < 0x80 then [c] else if c < 0x800 then [192 + c / 64, 128 + c % 64]
  else if c < 0x10000 then [224 + c / 4096, 128 + c / 64 % 64, 128 + c % 64] else [240 + c / 262144, 128 + c / 4096 % 64, 128 + c / 64 % 64, 128 + c % 64]

/-- The sign that bytes begin with, how many bytes: by trying. -/
def firstR : List Nat → Nat × Nat
  | [] => (0, 0)
  | a :: l =>
    if encB a = [a] then (a, 1) else
    match l with
    | [] => (0, 0)
    | b :: l =>
      if encB (a % 32 * 64 + b % 64) = [a, b] then (a % 32 * 64 + b % 64, 2) else
      match l with
      | [] => (0, 0)
      | c :: l =>
        if encB ((a % 16 * 64 + b % 64) * 64 + c % 64) = [a, b, c] then ((a % 16 * 64 + b % 64) * 64 + c % 64, 3) else
        match l with
        | [] => (0, 0)
        | d :: _ => if encB (((a % 8 * 64 + b % 64) * 64 + c % 64) * 64 + d % 64) = [a, b, c, d] then (((a % 8 * 64 + b % 64) * 64 + c % 64) * 64 + d % 64, 4) else (0, 0)

end Go.Proofs.YtpalmpfkliepfaaDoor.Ut

namespace Go.Proofs.YtpalmpfkliepfaaDoor.Ut
open Go.RowKit
set_option linter.unusedVariables false
set_option linter.unusedSimpArgs false

/-- Bytes that can be read. -/
def RdN (w : World) (a : Option Addr) (l : List Nat) : Prop := ∀ j, j < l.length → ∃ b off, a = some ⟨b, off, none⟩ ∧ w.cell? ⟨b, off + j, none⟩ = some (.int .u8 (l.getD j 0 : Nat)) ∧ b < w.heap.size

theorem RdN.ext {w w' : World} {a : Option Addr} {l : List Nat} (h : RdN w a l) (hb : Below w.heap.size w w') : RdN w' a l := by
  intro j hj
  obtain ⟨b, off, ha, hc, hl⟩ := h j hj
  exact ⟨b, off, ha, (hb.cell (p := ⟨b, off + j, none⟩) hl).trans hc, Nat.lt_of_lt_of_le hl hb.size⟩

end Go.Proofs.YtpalmpfkliepfaaDoor.Ut

namespace Go.Proofs.YtpalmpfkliepfaaDoor.Ut
open Go.RowKit
set_option linter.unusedVariables false
set_option linter.unusedSimpArgs false

/-- The state of the bytes that are left. -/
def LeftN (w : World) (v : Value) (r : List Nat) : Prop := ∃ a c, v = .slice a r.length c ∧ RdN w a r ∧ r.length ≤ c ∧ ∀ x ∈ r, x < 256

theorem LeftN.cut {w : World} {a : Option Addr} {c b off : Nat} {r : List Nat} {n : Nat} (ha : a = some ⟨b, off, none⟩) (hr : RdN w a r) (hc : r.length ≤ c) (hx : ∀ x ∈ r, x < 256) (hn : n ≤ r.length) :
    (¬ c = n → LeftN w (.slice (some ⟨b, off + n, none⟩) (r.length - n) (c - n)) (r.drop n)) ∧ (c = n → ∀ a', LeftN w (.slice a' 0 0) (r.drop n)) := by
  refine ⟨fun h => ⟨_, c - n, by rw [List.length_drop], fun j hj => ?_, by rw [List.length_drop]; omega, fun x hxm => hx x (List.mem_of_mem_drop hxm)⟩, fun h a' => ?_⟩
  · rw [List.length_drop] at hj
    obtain ⟨b', off', e, hcell, hb⟩ := hr (n + j) (by omega)
    rw [ha] at e
    simp at e
    obtain ⟨rfl, rfl⟩ := e
    refine ⟨b, off + n, rfl, ?_, hb⟩
    rw [Nat.add_assoc, hcell]
    simp [List.getD_eq_getElem?_getD, List.getElem?_drop]
  · have : r.drop n = [] := List.drop_eq_nil_of_le (by omega)
    rw [this]
    exact ⟨a', 0, rfl, fun j hj => absurd hj (by simp), Nat.le_refl _, fun x h => by cases h⟩

end Go.Proofs.YtpalmpfkliepfaaDoor.Ut

namespace Go.Proofs.YtpalmpfkliepfaaDoor.Ut
open Go.RowKit
set_option linter.unusedVariables false
set_option linter.unusedSimpArgs false

/-- A string's bytes. -/
def bl (s : ByteArray) : List Nat := s.data.toList.map UInt8.toNat
theorem bl_length (s : ByteArray) : (bl s).length = s.size := by unfold bl; rw [List.length_map, Array.length_toList]; rfl
theorem bl_lt (s : ByteArray) : ∀ x ∈ bl s, x < 256 := by
  intro x hx
  obtain ⟨u, _, rfl⟩ := List.mem_map.1 hx
  exact UInt8.toNat_lt u
theorem bl_getD (s : ByteArray) (j : Nat) (h : j < s.size) : (bl s).getD j 0 = (s.data.toList.getD j 0).toNat := by
  have : j < s.data.toList.length := by rw [Array.length_toList]; exact h
  simp [bl, List.getD_eq_getElem?_getD, List.getElem?_map, List.getElem?_eq_getElem this]
theorem bl_inj {s t : ByteArray} (h : bl s = bl t) : s = t := by
  unfold bl at h
  have h2 := (List.map_inj_right (f := UInt8.toNat) (fun a b hab => UInt8.toNat_inj.1 hab)).1 h
  cases s; cases t
  simp at h2
  rw [h2]

end Go.Proofs.YtpalmpfkliepfaaDoor.Ut

namespace Go.Proofs.YtpalmpfkliepfaaDoor.Ut
open Go.RowKit
set_option linter.unusedVariables false
set_option linter.unusedSimpArgs false

def strN (l : List Nat) : ByteArray := strOfNums (l.map fun (x : Nat) => (x : Int))
theorem bl_strN (l : List Nat) (h : ∀ x ∈ l, x < 256) : bl (strN l) = l := by
  unfold bl strN
  rw [strOfNums_data, List.map_map, List.map_map]
  conv => rhs; rw [← List.map_id l]
  apply List.map_congr_left
  intro x hx
  have := h x hx
  simp
  omega

end Go.Proofs.YtpalmpfkliepfaaDoor.Ut

namespace Go.Proofs.YtpalmpfkliepfaaDoor.Ut
open Go.RowKit
set_option linter.unusedVariables false
set_option linter.unusedSimpArgs false

theorem bl_drop (s : ByteArray) (n : Nat) : bl (s.extract n s.size) = (bl s).drop n := by
  unfold bl
  rw [← List.map_drop]
  congr 1
  rw [ByteArray.data_extract, Array.toList_extract, List.extract_eq_take_drop]
  rw [List.take_of_length_le]
  rw [List.length_drop, Array.length_toList]
  exact Nat.le_refl _

end Go.Proofs.YtpalmpfkliepfaaDoor.Ut

namespace Go.Proofs.YtpalmpfkliepfaaDoor
open Go.RowKit
set_option linter.unusedVariables false
set_option linter.unusedSimpArgs false

/-- The elements of a slice that is only read: one cell each. -/
def SrcV (w : World) (a : Option Addr) (m : Nat) (news : List Value) : Prop :=
  news.length = m ∧ ∀ j u, news[j]? = some u → ∃ b off, a = some ⟨b, off, none⟩ ∧ w.cell? ⟨b, off + j, none⟩ = some u ∧ b < w.heap.size

theorem SrcV.ext {w w' : World} {a : Option Addr} {m : Nat} {news : List Value} (h : SrcV w a m news) (hb : Below w.heap.size w w') : SrcV w' a m news :=
  ⟨h.1, fun j u hj => let ⟨b, off, ha, hc, hl⟩ := h.2 j u hj; ⟨b, off, ha, (hb.cell (p := ⟨b, off + j, none⟩) hl).trans hc, Nat.lt_of_lt_of_le hl hb.size⟩⟩

end Go.Proofs.YtpalmpfkliepfaaDoor

namespace Go.Proofs.YtpalmpfkliepfaaDoor.Ut
set_option linter.unusedVariables false
set_option linter.unusedSimpArgs false

def digN (n : Nat) : Nat := if n < 10 then 48 + n else 87 + n
def sh (c : Nat) : List Nat := if 32 ≤ c ∧ c ≤ 126 ∧ c ≠ 34 ∧ c ≠ 92 then [c] else [92, digN (c / 16), digN (c % 16)]
/-- The first sign, from c on, whose text stands ahead. -/
def findR (l : List Nat) : Nat → Nat → Option Nat
  | _, 0 => none
  | c, f + 1 => if sh c = l.take (sh c).length then some c else findR l (c + 1) f

end Go.Proofs.YtpalmpfkliepfaaDoor.Ut

namespace Go.Proofs.YtpalmpfkliepfaaDoor.Ut
open Go.RowKit
set_option linter.unusedVariables false
set_option linter.unusedSimpArgs false

theorem bl_app (a b : ByteArray) : bl (a ++ b) = bl a ++ bl b := by
  unfold bl
  rw [← List.map_append]
  rw [ByteArray.data_append, Array.toList_append]

end Go.Proofs.YtpalmpfkliepfaaDoor.Ut

namespace Go.Proofs.YtpalmpfkliepfaaDoor
open Go.RowKit
set_option linter.unusedVariables false
set_option linter.unusedSimpArgs false

section
variable {P : Program} {ops : Array Oper} {C : World → Prop} {G : World → World → Prop} {posts : List (Value → World → Prop)} {dl : List (List Nat)} {N T : Nat} {a0 : Act}

theorem headInv_all {listed : Array Bool} (inv : HeadInv .any ops T listed) (h : ∀ i, i < T → listed[i]? = some true) (hT : T ≤ ops.size) : listed = (Array.range ops.size).map (fun i => decide (i < T)) := by
  apply Array.ext_getElem?
  intro j
  by_cases hj : j < T
  · rw [h j hj]; simp [show j < ops.size by omega, hj]
  · by_cases hjs : j < ops.size
    · have h1 := inv.tail j (by omega) hjs
      have hsz := inv.size
      rw [Array.getD_eq_getD_getElem?, Array.getElem?_eq_getElem (by omega)] at h1
      rw [Array.getElem?_eq_getElem (by omega)]
      simp at h1
      simp [hjs, hj, h1]
    · have hsz := inv.size
      rw [Array.getElem?_eq_none (by omega), Array.getElem?_eq_none (by simp; omega)]

end
end Go.Proofs.YtpalmpfkliepfaaDoor

namespace Go.Proofs.YtpalmpfkliepfaaDoor
open Go.RowKit
set_option linter.unusedVariables false
set_option linter.unusedSimpArgs false

theorem heap_alloc_last (w : World) (o : Obj) : (w.alloc o).heap[w.heap.size]? = some o := by
  unfold World.alloc
  exact Array.getElem?_push_size

end Go.Proofs.YtpalmpfkliepfaaDoor

namespace Go.Proofs.YtpalmpfkliepfaaDoor
open Go.RowKit
set_option linter.unusedVariables false
set_option linter.unusedSimpArgs false

end Go.Proofs.YtpalmpfkliepfaaDoor

namespace Go.Proofs.YtpalmpfkliepfaaDoor
open Go.RowKit
set_option linter.unusedVariables false
set_option linter.unusedSimpArgs false

section
variable {P : Program} {ops : Array Oper} {C : World → Prop} {G : World → World → Prop} {posts : List (Value → World → Prop)} {dl : List (List Nat)} {N T : Nat} {a0 : Act}

end
end Go.Proofs.YtpalmpfkliepfaaDoor

namespace Go.Proofs.YtpalmpfkliepfaaDoor
open Go.RowKit
set_option linter.unusedVariables false
set_option linter.unusedSimpArgs false

/-- A row that is cut. -/
theorem ownsRow_cut {w : World} {base e k n m cap : Nat} {a : Option Addr} {xs : List Value} (h : w.ownsRow base e k (.slice a n cap) n xs) (hm : m ≤ n) (hn : 0 < n) : w.ownsRow base e k (.slice a m cap) m (xs.take (m * k)) := by
  obtain ⟨h1, h2⟩ := h
  rcases h2 with ⟨_, h0⟩ | ⟨g, cap', cur, hv, hb, hg, hc, hm', hs, ht⟩
  · omega
  · simp at hv
    obtain ⟨rfl, rfl⟩ := hv
    have hmk : m * k ≤ n * k := Nat.mul_le_mul_right k hm
    refine ⟨by rw [List.length_take, h1]; omega, .inr ⟨g, cap, cur, rfl, hb, hg, by omega, hm', hs, ?_⟩⟩
    rw [← ht, List.take_take]
    congr 1
    omega

end Go.Proofs.YtpalmpfkliepfaaDoor

namespace Go.Proofs.YtpalmpfkliepfaaDoor
open Go.RowKit
set_option linter.unusedVariables false
set_option linter.unusedSimpArgs false

/- WHAT IS KNOWN OF A FRAME. -/

def lk : List (Nat × Value) → Nat → Option Value
  | [], _ => none
  | (t, v) :: l, s => cond (Nat.beq t s) (some v) (lk l s)

structure Fr (N : Nat) (a : Act) (L : List (Nat × Value)) : Prop where
  size : a.tmps.size = N
  defers : a.defers = []
  has : ∀ t v, lk L t = some v → a.tmps[t]? = some v

def evO (L : List (Nat × Value)) : Operand → Option Value
  | .tmp t => lk L t
  | .const v => some v
  | .global g => some (.pointer (some ⟨g, 0, none⟩))
  | .func f => some (.func (.func f) #[] #[])

theorem Fr.ev {N : Nat} {a : Act} {L : List (Nat × Value)} (h : Fr N a L) {x : Operand} {v : Value} (e : evO L x = some v) : a.eval x = v := by
  cases x with
  | tmp t => simp only [evO] at e; simp [Act.eval, h.has t v e]
  | _ => simp only [evO, Option.some.injEq] at e; subst e; rfl

def ins (d : Option Tmp) (v : Value) (L : List (Nat × Value)) : List (Nat × Value) :=
  match d with
  | some t => (t, v) :: L
  | none => L

def dstOk (N : Nat) (d : Option Tmp) : Bool :=
  match d with
  | some t => Nat.blt t N
  | none => true

theorem Fr.ins {N : Nat} {a : Act} {L : List (Nat × Value)} (h : Fr N a L) {d : Option Tmp} (v : Value) (ho : dstOk N d = true) : Fr N (a.put d v) (ins d v L) := by
  cases d with
  | none => exact h
  | some t =>
    have ht : t < N := by simpa [dstOk, Nat.blt_eq] using ho
    refine ⟨put_size.trans h.size, put_defers.trans h.defers, fun s u hs => ?_⟩
    simp only [Go.Proofs.YtpalmpfkliepfaaDoor.ins, lk] at hs
    cases hb : Nat.beq t s with
    | true =>
      rw [hb] at hs
      simp only [cond_true, Option.some.injEq] at hs
      have := Nat.eq_of_beq_eq_true hb
      subst this hs
      exact put_get (by rw [h.size]; exact ht)
    | false =>
      rw [hb] at hs
      rw [put_get_ne (fun e => by cases e; simp [Nat.beq_eq] at hb)]
      exact h.has s u hs

/-- A list of slots that stand in another one. -/
def subL (L : List (Nat × Value)) : List (Nat × Value) → Prop
  | [] => True
  | (t, v) :: l => lk L t = some v ∧ subL L l

theorem subL_lk {L : List (Nat × Value)} : ∀ {L' : List (Nat × Value)}, subL L L' → ∀ t v, lk L' t = some v → lk L t = some v
  | [], _, _, _, h => by cases h
  | (s, u) :: l, hs, t, v, h => by
    simp only [lk] at h
    cases hb : Nat.beq s t with
    | true =>
      rw [hb] at h
      simp only [cond_true, Option.some.injEq] at h
      have := Nat.eq_of_beq_eq_true hb
      rw [← this, ← h]; exact hs.1
    | false =>
      rw [hb] at h
      exact subL_lk hs.2 t v h

theorem Fr.sub {N : Nat} {a : Act} {L L' : List (Nat × Value)} (h : Fr N a L) (hs : subL L L') : Fr N a L' := ⟨h.size, h.defers, fun t v e => h.has t v (subL_lk hs t v e)⟩

theorem some_int {k : IntKind} {x y : Int} (h : x = y) : some (Value.int k x) = some (.int k y) := by rw [h]
theorem some_str {x y : ByteArray} (h : x = y) : some (Value.string x) = some (.string y) := by rw [h]
theorem some_sl {a : Option Addr} {x y c d : Nat} (h : x = y) (h2 : c = d) : some (Value.slice a x c) = some (.slice a y d) := by rw [h, h2]

def argL : List Value → Nat → List (Nat × Value)
  | [], _ => []
  | v :: vs, i => (i, v) :: argL vs (i + 1)

theorem lk_argL : ∀ (vs : List Value) (i t : Nat) (v : Value), lk (argL vs i) t = some v → ∃ j, t = i + j ∧ vs[j]? = some v
  | [], _, _, _, h => by cases h
  | u :: vs, i, t, v, h => by
    simp only [argL, lk] at h
    cases hb : Nat.beq i t with
    | true =>
      rw [hb] at h
      simp only [cond_true, Option.some.injEq] at h
      exact ⟨0, (Nat.eq_of_beq_eq_true hb).symm, by simp [h]⟩
    | false =>
      rw [hb] at h
      obtain ⟨j, h1, h2⟩ := lk_argL vs (i + 1) t v h
      exact ⟨j + 1, by omega, by simpa using h2⟩

theorem sx_enter {P : Program} {f : FuncId} {fn : Func} {c : Code} {args : Array Value} {w : World} {R : Ending → World → Prop} {N : Nat} {L : List (Nat × Value)}
    (hf : P.funcs[f]? = some fn) (hb : fn.body = some c) (hN : fn.ntmps = N) (hs : Nat.ble args.size N = true) (hL : argL args.toList 0 = L)
    (k : ∀ a, Fr N a L → c.wp P (bodyPost P fn R) a w) : Calls P f args w R := by
  refine calls_of_wp hf hb (k _ ⟨?_, rfl, ?_⟩)
  · rw [hN]
    have := Nat.le_of_ble_eq_true hs
    simp; omega
  · intro t v h
    rw [← hL] at h
    obtain ⟨j, h1, h2⟩ := lk_argL _ _ _ _ h
    have ht : t = j := by omega
    subst ht
    rw [Array.getElem?_toList] at h2
    have := (Array.getElem?_eq_some_iff.1 h2).1
    rw [Array.getElem?_append_left (by simpa using this)]
    exact h2

/- WHAT AN OPERATION DOES. -/

def Does (P : Program) (L : List (Nat × Value)) (o : Oper) (w : World) (R : Value → World → Prop) : Prop :=
  ∀ (a : Act) (K : Act → World → Prop) (Q : Exit → Act → World → Prop), (∀ x v, evO L x = some v → a.eval x = v) → (∀ v w', R v w' → K (a.put o.dst v) w') → o.wp P a w K Q

def Runs (P : Program) (L : List (Nat × Value)) (o : Oper) (w : World) (v : Value) (w' : World) : Prop :=
  ∀ (ρ : Operand → Value), (∀ x u, evO L x = some u → ρ x = u) → (execOp ρ o).run P w = .ok (.value v) w'

theorem Runs.does {P : Program} {L : List (Nat × Value)} {o : Oper} {w w' : World} {v : Value} {R : Value → World → Prop} (h : Runs P L o w v w') (hR : R v w') : Does P L o w R := by
  intro a K Q ha hK
  unfold Oper.wp
  rw [h _ ha]
  exact hK _ _ hR

theorem Runs.veq {P : Program} {L : List (Nat × Value)} {o : Oper} {w w' : World} {v v' : Value} (h : Runs P L o w v w') (e : v = v') : Runs P L o w v' w' := e ▸ h

theorem Does.mono {P : Program} {L : List (Nat × Value)} {o : Oper} {w : World} {R R' : Value → World → Prop} (h : Does P L o w R) (hR : ∀ v w', R v w' → R' v w') : Does P L o w R' :=
  fun a K Q ha hK => h a K Q ha (fun v w' hr => hK v w' (hR v w' hr))

section
variable {P : Program} {ops : Array Oper} {Q : Exit → Act → World → Prop} {a : Act} {w w' : World} {rest : List Oper} {o : Oper} {N : Nat} {L : List (Nat × Value)} {R : Value → World → Prop} {v : Value} {t : Tmp}

theorem sqd (hf : Fr N a L) (hd : Does P L o w R) (hg : o.guard = none) (ho : dstOk N o.dst = true) (k : ∀ a' v w', R v w' → Fr N a' (ins o.dst v L) → wpList P ops Q rest a' w') : wpList P ops Q (o :: rest) a w := by
  refine wpList_plain hg fun K hK => ?_
  exact hd a K Q (fun x v e => hf.ev e) (fun v w' hr => hK _ _ (k _ v w' hr (hf.ins v ho)))

theorem sqv (hf : Fr N a L) (hr : Runs P L o w v w') (hg : o.guard = none) (hd : o.dst = some t) (ht : Nat.blt t N = true) (k : ∀ a', Fr N a' ((t, v) :: L) → wpList P ops Q rest a' w') : wpList P ops Q (o :: rest) a w := by
  refine sqd hf (R := fun u x => u = v ∧ x = w') (hr.does ⟨rfl, rfl⟩) hg (by rw [hd]; exact ht) ?_
  rintro a' u x ⟨rfl, rfl⟩ hf'
  rw [hd] at hf'
  exact k a' hf'

theorem sqdt (hf : Fr N a L) (hr : Does P L o w R) (hg : o.guard = none) (hd : o.dst = some t) (ht : Nat.blt t N = true) (k : ∀ a' v w', R v w' → Fr N a' ((t, v) :: L) → wpList P ops Q rest a' w') : wpList P ops Q (o :: rest) a w := by
  refine sqd hf hr hg (by rw [hd]; exact ht) ?_
  intro a' v w' h hf'
  rw [hd] at hf'
  exact k a' v w' h hf'
theorem sqn (hf : Fr N a L) (hr : Does P L o w R) (hg : o.guard = none) (hd : o.dst = none) (k : ∀ a' v w', R v w' → Fr N a' L → wpList P ops Q rest a' w') : wpList P ops Q (o :: rest) a w := by
  refine sqd hf hr hg (by rw [hd]; rfl) ?_
  intro a' v w' h hf'
  rw [hd] at hf'
  exact k a' v w' h hf'

/-- A value that is there where b holds. -/
def gb (b : Bool) (v : Value) : Value := cond b v undef
def yl (ops : Array Oper) (L : List (Nat × Value)) (g : Nat) : Option Value := ((ops[g]?).bind (·.dst)).bind (lk L)

theorem yielded_of (hf : Fr N a L) {g : Nat} {ag c : Bool} (hy : yl ops L g = some (gb ag (.bool c))) : yielded ops a.tmps g = if ag = true then some c else none := by
  unfold yl at hy
  unfold yielded
  cases hd : (ops[g]?).bind (·.dst) with
  | none => rw [hd] at hy; cases hy
  | some t =>
    rw [hd] at hy
    simp only [Option.bind_some] at hy ⊢
    rw [hf.has t _ hy]
    cases ag <;> simp [gb, undef]

theorem wanted_of (hf : Fr N a L) {g : Nat} {want ag c : Bool} (hg : o.guard = some (g, want)) (hy : yl ops L g = some (gb ag (.bool c))) : Region.wanted o (yielded ops a.tmps) = (ag && (c == want)) := by
  unfold Region.wanted
  rw [hg]
  simp only [yielded_of hf hy]
  cases ag <;> cases c <;> cases want <;> rfl

theorem sqgd {act : Bool} {g : Nat} {want ag c : Bool} (hf : Fr N a L) (hg : o.guard = some (g, want)) (hy : yl ops L g = some (gb ag (.bool c))) (hact : (ag && (c == want)) = act)
    (hd : act = true → Does P L o w R) (hu : act = false → R undef w) (ho : dstOk N o.dst = true) (k : ∀ a' v w', R v w' → Fr N a' (ins o.dst v L) → wpList P ops Q rest a' w') : wpList P ops Q (o :: rest) a w := by
  refine wpList_step fun K hK => ?_
  rw [wanted_of hf hg hy, hact]
  cases act with
  | true =>
    rw [if_pos rfl]
    exact hd rfl a K Q (fun x v e => hf.ev e) (fun v w' hr => hK _ _ (k _ v w' hr (hf.ins v ho)))
  | false =>
    rw [if_neg (by simp)]
    exact hK _ _ (k _ _ _ (hu rfl) (hf.ins _ ho))

theorem sqgT {act : Bool} {g : Nat} {ag c : Bool} (hf : Fr N a L) (hg : o.guard = some (g, true)) (hy : yl ops L g = some (gb ag (.bool c))) (hact : (ag && c) = act)
    (hr : act = true → Runs P L o w v w) (hd : o.dst = some t) (ht : Nat.blt t N = true) (k : ∀ a', Fr N a' ((t, gb act v) :: L) → wpList P ops Q rest a' w) : wpList P ops Q (o :: rest) a w := by
  refine sqgd (R := fun u x => u = gb act v ∧ x = w) (act := act) hf hg hy (by rw [← hact]; cases ag <;> cases c <;> rfl) (fun h => (hr h).does ⟨by rw [h]; rfl, rfl⟩) (fun h => ⟨by rw [h]; rfl, rfl⟩) (by rw [hd]; exact ht) ?_
  rintro a' u x ⟨rfl, rfl⟩ hf'
  rw [hd] at hf'
  exact k a' hf'

theorem sqgF {act : Bool} {g : Nat} {ag c : Bool} (hf : Fr N a L) (hg : o.guard = some (g, false)) (hy : yl ops L g = some (gb ag (.bool c))) (hact : (ag && !c) = act)
    (hr : act = true → Runs P L o w v w) (hd : o.dst = some t) (ht : Nat.blt t N = true) (k : ∀ a', Fr N a' ((t, gb act v) :: L) → wpList P ops Q rest a' w) : wpList P ops Q (o :: rest) a w := by
  refine sqgd (R := fun u x => u = gb act v ∧ x = w) (act := act) hf hg hy (by rw [← hact]; cases ag <;> cases c <;> rfl) (fun h => (hr h).does ⟨by rw [h]; rfl, rfl⟩) (fun h => ⟨by rw [h]; rfl, rfl⟩) (by rw [hd]; exact ht) ?_
  rintro a' u x ⟨rfl, rfl⟩ hf'
  rw [hd] at hf'
  exact k a' hf'

theorem gb_ev {act : Bool} {x : Operand} (h : act = true) (e : evO L x = some (gb act v)) : evO L x = some v := by rw [e, h]; rfl
end

/- THE END OF A FUNCTION. -/
section
variable {P : Program} {fn : Func} {R : Ending → World → Prop} {a : Act} {w : World} {N : Nat} {L : List (Nat × Value)} {t t2 t3 : Tmp} {v v2 v3 : Value}

theorem fr_getD (hf : Fr N a L) (h : lk L t = some v) : a.tmps.getD t undef = v := by simp [hf.has t v h]

theorem ret1 (hf : Fr N a L) (hr : fn.results = #[.tmp t]) (hv : lk L t = some v) (hR : R (.returned v) w) : bodyPost P fn R .ret a w :=
  bodyPost_ret (v := v) (by rw [results_tmp hr, fr_getD hf hv]) hf.defers hR
theorem ret2 (hf : Fr N a L) (hr : fn.results = #[.tmp t, .tmp t2]) (hv : lk L t = some v) (hv2 : lk L t2 = some v2) (hR : R (.returned (.tuple #[v, v2])) w) : bodyPost P fn R .ret a w :=
  bodyPost_ret (v := .tuple #[v, v2]) (by rw [results_tmp2 hr, fr_getD hf hv, fr_getD hf hv2]) hf.defers hR
theorem ret3 (hf : Fr N a L) (hr : fn.results = #[.tmp t, .tmp t2, .tmp t3]) (hv : lk L t = some v) (hv2 : lk L t2 = some v2) (hv3 : lk L t3 = some v3) (hR : R (.returned (.tuple #[v, v2, v3])) w) : bodyPost P fn R .ret a w :=
  bodyPost_ret (v := .tuple #[v, v2, v3]) (by simp [results, hr, hf.has t v hv, hf.has t2 v2 hv2, hf.has t3 v3 hv3]) hf.defers hR
end

/-- A loop, with a number that every round lowers. -/
theorem wp_loop_k {P : Program} {Q : Exit → Act → World → Prop} {a : Act} {w : World} {c : Code} (I : Nat → Act → World → Prop) (h₀ : ∃ n, I n a w)
    (round : ∀ n a w, I n a w → ∀ (K : Act → World → Prop), (∀ n' a' w', n' < n → I n' a' w' → K a' w') → c.wp P (Exit.then K Q) a w) : (Code.loop c).wp P Q a w :=
  h₀.elim fun n₀ h₀ => wp_loop_ghost I n₀ h₀ fun n a w h => round n a w h _ fun n' _ _ h1 h2 => ⟨n', h1, h2⟩

end Go.Proofs.YtpalmpfkliepfaaDoor

namespace Go.Proofs.YtpalmpfkliepfaaDoor
open Go.RowKit
set_option linter.unusedVariables false
set_option linter.unusedSimpArgs false

section
variable {P : Program} {L : List (Nat × Value)} {w : World} {d : Option Tmp} {ty : TypeId} {ps : String} {af : Array Edge} {g : Option (Nat × Bool)}

theorem r_move {x : Operand} {v : Value} (hx : evO L x = some v) : Runs P L ⟨d, .move x, ty, ps, af, g⟩ w v w := by
  intro ρ hρ; simp only [execOp, hρ x v hx]; rfl
theorem r_assign {x : Operand} {v : Value} (hx : evO L x = some v) : Runs P L ⟨d, .assign x, ty, ps, af, g⟩ w v w := by
  intro ρ hρ; simp only [execOp, hρ x v hx]; rfl

theorem r_bin {op : BinOp} {xt yt : TypeId} {x y : Operand} {vx vy v : Value} (hx : evO L x = some vx) (hy : evO L y = some vy) (hg : eqGuard op xt x y vx vy = pure ()) (hr : (binOp op xt vx vy).run P w = .ok v w) :
    Runs P L ⟨d, .binOp op xt x y yt, ty, ps, af, g⟩ w v w := by
  intro ρ hρ
  simp only [execOp, hρ x _ hx, hρ y _ hy, hg]
  simp [hr]

section
variable {xt yt : TypeId} {x y : Operand} {k k2 : IntKind} {A B C : Int}
theorem r_add (hx : evO L x = some (.int k A)) (hy : evO L y = some (.int k B)) (hc : k.wrap (A + B) = C) : Runs P L ⟨d, .binOp .add xt x y yt, ty, ps, af, g⟩ w (.int k C) w :=
  r_bin hx hy rfl (by rw [binOp_add]; simp [Op.intArith, hc])
theorem r_sub (hx : evO L x = some (.int k A)) (hy : evO L y = some (.int k B)) (hc : k.wrap (A - B) = C) : Runs P L ⟨d, .binOp .sub xt x y yt, ty, ps, af, g⟩ w (.int k C) w :=
  r_bin hx hy rfl (by rw [binOp_sub]; simp [Op.intArith, hc])
theorem r_mul (hx : evO L x = some (.int k A)) (hy : evO L y = some (.int k B)) (hc : k.wrap (A * B) = C) : Runs P L ⟨d, .binOp .mul xt x y yt, ty, ps, af, g⟩ w (.int k C) w :=
  r_bin hx hy rfl (by rw [binOp_mul]; simp [Op.intArith, hc])
theorem r_quo (hx : evO L x = some (.int k A)) (hy : evO L y = some (.int k B)) (h0 : B ≠ 0) (hc : k.wrap (A.tdiv B) = C) : Runs P L ⟨d, .binOp .quo xt x y yt, ty, ps, af, g⟩ w (.int k C) w :=
  r_bin hx hy rfl (by rw [binOp_quo]; simp [Op.intDiv, h0, hc])
theorem r_rem (hx : evO L x = some (.int k A)) (hy : evO L y = some (.int k B)) (h0 : B ≠ 0) (hc : A.tmod B = C) : Runs P L ⟨d, .binOp .rem xt x y yt, ty, ps, af, g⟩ w (.int k C) w :=
  r_bin hx hy rfl (by rw [binOp_rem]; simp [Op.intDiv, h0, hc])
theorem r_eq (hx : evO L x = some (.int k A)) (hy : evO L y = some (.int k B)) : Runs P L ⟨d, .binOp .eql xt x y yt, ty, ps, af, g⟩ w (.bool (decide (A = B))) w :=
  r_bin hx hy (eqGuard_at_int _ _ _ _ _ _ _) (by rw [binOp_eql]; rfl)
theorem r_ne (hx : evO L x = some (.int k A)) (hy : evO L y = some (.int k B)) : Runs P L ⟨d, .binOp .neq xt x y yt, ty, ps, af, g⟩ w (.bool (decide (A ≠ B))) w :=
  r_bin hx hy (eqGuard_at_int _ _ _ _ _ _ _) (by
    rw [binOp_neq]
    have : (A != B) = decide (A ≠ B) := by
      by_cases h : A = B <;> simp [h]
    rw [this]; rfl)
theorem r_lt (hx : evO L x = some (.int k A)) (hy : evO L y = some (.int k B)) : Runs P L ⟨d, .binOp .lss xt x y yt, ty, ps, af, g⟩ w (.bool (decide (A < B))) w :=
  r_bin hx hy rfl (by rw [binOp_lss]; rfl)
theorem r_le (hx : evO L x = some (.int k A)) (hy : evO L y = some (.int k B)) : Runs P L ⟨d, .binOp .leq xt x y yt, ty, ps, af, g⟩ w (.bool (decide (A ≤ B))) w :=
  r_bin hx hy rfl (by rw [binOp_leq]; rfl)
theorem r_gt (hx : evO L x = some (.int k A)) (hy : evO L y = some (.int k B)) : Runs P L ⟨d, .binOp .gtr xt x y yt, ty, ps, af, g⟩ w (.bool (decide (B < A))) w :=
  r_bin hx hy rfl (by rw [binOp_gtr]; rfl)
theorem r_ge (hx : evO L x = some (.int k A)) (hy : evO L y = some (.int k B)) : Runs P L ⟨d, .binOp .geq xt x y yt, ty, ps, af, g⟩ w (.bool (decide (B ≤ A))) w :=
  r_bin hx hy rfl (by rw [binOp_geq]; rfl)
theorem r_neg (hx : evO L x = some (.int k A)) (hc : k.wrap (0 - A) = C) : Runs P L ⟨d, .unOp .neg xt x, ty, ps, af, g⟩ w (.int k C) w := by
  intro ρ hρ; simp only [execOp, hρ x _ hx]; simp [Op.unary, Op.intArith]; simpa using hc
theorem r_conv {src dst : TypeId} {ds : TypeDesc} (hx : evO L x = some (.int k A)) (hs : P.underlying src = some ds) (hd : P.underlying dst = some (.int k2)) (hc : k2.wrap A = C) : Runs P L ⟨d, .convert src dst x, ty, ps, af, g⟩ w (.int k2 C) w := by
  intro ρ hρ
  simp only [execOp, hρ x _ hx]
  simp [convert, run_underlying hs, run_underlying hd, Conv.intToInt, hc]
end

theorem r_not {xt : TypeId} {x : Operand} {b : Bool} (hx : evO L x = some (.bool b)) : Runs P L ⟨d, .unOp .not xt x, ty, ps, af, g⟩ w (.bool (!b)) w := by
  intro ρ hρ; simp only [execOp, hρ x _ hx]; simp [Op.unary]
theorem r_pick {c x y : Operand} {b : Bool} {vx vy v : Value} (hc : evO L c = some (.bool b)) (hx : evO L x = some vx) (hy : evO L y = some vy) (hv : (cond b vx vy) = v) : Runs P L ⟨d, .pick c x y, ty, ps, af, g⟩ w v w := by
  intro ρ hρ
  simp only [execOp, hρ c _ hc, hρ x _ hx, hρ y _ hy, ← hv]
  cases b <;> simp [asBool]
theorem r_pickA {c x y : Operand} {b e : Bool} (hc : evO L c = some (.bool b)) (hx : evO L x = some (gb b (.bool e))) (hy : evO L y = some (.bool false)) : Runs P L ⟨d, .pick c x y, ty, ps, af, g⟩ w (.bool (b && e)) w :=
  r_pick hc hx hy (by cases b <;> rfl)
theorem r_pickO {c x y : Operand} {b e : Bool} (hc : evO L c = some (.bool b)) (hx : evO L x = some (.bool true)) (hy : evO L y = some (gb (!b) (.bool e))) : Runs P L ⟨d, .pick c x y, ty, ps, af, g⟩ w (.bool (b || e)) w :=
  r_pick hc hx hy (by cases b <;> rfl)
theorem r_pickA2 {c x y : Operand} {b e q : Bool} (hq : q = true) (hc : evO L c = some (gb q (.bool b))) (hx : evO L x = some (gb (q && b) (.bool e))) (hy : evO L y = some (.bool false)) : Runs P L ⟨d, .pick c x y, ty, ps, af, g⟩ w (.bool (b && e)) w := by
  subst hq
  exact r_pickA hc (by rw [hx]; cases b <;> rfl) hy
theorem r_pickO2 {c x y : Operand} {b e q : Bool} (hq : q = true) (hc : evO L c = some (gb q (.bool b))) (hx : evO L x = some (.bool true)) (hy : evO L y = some (gb (q && !b) (.bool e))) : Runs P L ⟨d, .pick c x y, ty, ps, af, g⟩ w (.bool (b || e)) w := by
  subst hq
  exact r_pickO hc hx (by rw [hy]; cases b <;> rfl)

theorem r_extract {x : Operand} {i : Nat} {vs : Array Value} {v : Value} (hx : evO L x = some (.tuple vs)) (hi : vs[i]? = some v) : Runs P L ⟨d, .extract x i, ty, ps, af, g⟩ w v w := by
  intro ρ hρ; simp only [execOp, hρ x _ hx]; simp [Instr.extract, hi]

/- STRINGS. -/
theorem str_toList_data (u : ByteArray) : u.toList = u.data.toList := ByteArray.toList_eq u
theorem toList_inj {s t : ByteArray} (h : s.toList = t.toList) : s = t := by
  have e : ∀ u : ByteArray, u.toList = u.data.toList := fun u => str_toList_data u
  rw [e, e] at h
  cases s; cases t
  simp only [ByteArray.mk.injEq]
  exact Array.toList_inj.1 h
theorem toList_beq (s t : ByteArray) : (s.toList == t.toList) = decide (s = t) := by
  by_cases h : s = t
  · subst h; simp
  · rw [decide_eq_false h]
    simp only [beq_eq_false_iff_ne, ne_eq]
    exact fun e => h (toList_inj e)
section
variable {xt yt : TypeId} {x y : Operand} {s t : ByteArray}
theorem r_sadd (hx : evO L x = some (.string s)) (hy : evO L y = some (.string t)) (hs : s.size + t.size ≤ 9223372036854775807) : Runs P L ⟨d, .binOp .add xt x y yt, ty, ps, af, g⟩ w (.string (s ++ t)) w :=
  r_bin hx hy rfl (by
    simp only [binOp, Op.stringOp]
    rw [if_neg (by rw [IntKind.max_i64]; omega)]; rfl)
theorem r_seq (hx : evO L x = some (.string s)) (hy : evO L y = some (.string t)) : Runs P L ⟨d, .binOp .eql xt x y yt, ty, ps, af, g⟩ w (.bool (decide (s = t))) w :=
  r_bin hx hy (eqGuard_at_string _ _ _ _ _ _) (by simp only [binOp, Op.stringOp, toList_beq]; rfl)
theorem r_sne (hx : evO L x = some (.string s)) (hy : evO L y = some (.string t)) : Runs P L ⟨d, .binOp .neq xt x y yt, ty, ps, af, g⟩ w (.bool (decide (s ≠ t))) w :=
  r_bin hx hy (eqGuard_at_string _ _ _ _ _ _) (by
    simp only [binOp, Op.stringOp, toList_beq]
    have : (!decide (s = t)) = decide (s ≠ t) := by by_cases h : s = t <;> simp [h]
    rw [this]; rfl)
theorem r_lens {tt : TypeId} (hx : evO L x = some (.string s)) (ht : P.underlying tt = some .string) : Runs P L ⟨d, .call { callee := .builtin .len, args := #[x], argTypes := #[tt] }, ty, ps, af, g⟩ w (.int .i64 (s.size : Int)) w := by
  intro ρ hρ
  simp [execOp, resolve, invoke, builtin, hρ x _ hx, Builtin.len_, run_underlying ht, goInt]
theorem r_sindex {i : Operand} {k : IntKind} {I : Int} {j : Nat} {b : UInt8} (hx : evO L x = some (.string s)) (hi : evO L i = some (.int k I)) (ht : P.underlying xt = some .string) (hj : I = j) (hb : s.data.toList[j]? = some b) :
    Runs P L ⟨d, .index xt x i, ty, ps, af, g⟩ w (.int .u8 (b.toNat : Int)) w := by
  intro ρ hρ
  have hb2 : s[j]? = some b := by
    have h1 : j < s.size := by
      have := (List.getElem?_eq_some_iff.1 hb).1
      simpa using this
    rw [getElem?_pos s j h1]
    have h2 := (List.getElem?_eq_some_iff.1 hb).2
    rw [← h2]; rfl
  subst hj
  simp [execOp, hρ x _ hx, hρ i _ hi, Instr.index, asIntOf, run_underlying ht, hb2]
def sbt (s : ByteArray) (j : Nat) : Nat := (s.data.toList.getD j 0).toNat
theorem sbt_lt (s : ByteArray) (j : Nat) : sbt s j < 256 := UInt8.toNat_lt _
theorem ne_size {s : ByteArray} (h : ¬ s = ⟨#[]⟩) : 0 < s.size := by
  rcases Nat.eq_zero_or_pos s.size with h0 | h0
  · exfalso; apply h
    cases s with | mk d => simp only [ByteArray.mk.injEq]; exact Array.eq_empty_of_size_eq_zero h0
  · exact h0
theorem sz_ext (s : ByteArray) (a b : Nat) (h : a ≤ b) (h2 : b ≤ s.size) : (s.extract a b).size = b - a := by
  rw [ByteArray.size_extract]; omega
theorem sz_app (s t : ByteArray) : (s ++ t).size = s.size + t.size := ByteArray.size_append
theorem r_sindexD {i : Operand} {k : IntKind} {I : Int} {j : Nat} (hx : evO L x = some (.string s)) (hi : evO L i = some (.int k I)) (ht : P.underlying xt = some .string) (hj : I = j) (hlt : j < s.size) :
    Runs P L ⟨d, .index xt x i, ty, ps, af, g⟩ w (.int .u8 (sbt s j : Nat)) w := by
  have h1 : s.data.toList[j]? = some (s.data.toList.getD j 0) := by
    have : j < s.data.toList.length := by rw [Array.length_toList]; exact hlt
    rw [List.getD_eq_getElem?_getD, List.getElem?_eq_getElem this]; rfl
  exact r_sindex hx hi ht hj h1
theorem r_sslice {lo hi : Option Operand} {k1 k2 : IntKind} {A B : Int} {a b : Nat} (hx : evO L x = some (.string s)) (ht : P.underlying xt = some .string)
    (hlo : (lo = none ∧ a = 0) ∨ (∃ l, lo = some l ∧ evO L l = some (.int k1 A) ∧ A = a)) (hhi : (hi = none ∧ b = s.size) ∨ (∃ h, hi = some h ∧ evO L h = some (.int k2 B) ∧ B = b)) (hab : a ≤ b) (hbs : b ≤ s.size) :
    Runs P L ⟨d, .slice xt x lo hi none, ty, ps, af, g⟩ w (.string (s.extract a b)) w := by
  intro ρ hρ
  rcases hlo with ⟨rfl, rfl⟩ | ⟨l, rfl, hl, rfl⟩ <;> rcases hhi with ⟨rfl, rfl⟩ | ⟨h, rfl, hh, rfl⟩
  all_goals simp [execOp, hρ x _ hx, *, run_sliceAt_string, Instr.sliceAt, run_underlying ht, Instr.slice, Instr.sliceBounds]
  · rw [run_sliceBound _ _ _ _ _ (by omega) (by omega)]; simp
  · rw [run_sliceBound _ _ _ _ _ (by omega) (by omega)]; simp
  · rw [run_sliceBound _ _ _ _ _ (by omega) (by omega)]; simp
    rw [run_sliceBound _ _ _ _ _ (by omega) (by omega)]; simp
end

/- SLICES AND MEMORY. -/
theorem r_lensl {tt e : TypeId} {x : Operand} {a : Option Addr} {n c : Nat} (hx : evO L x = some (.slice a n c)) (ht : P.underlying tt = some (.slice e)) : Runs P L ⟨d, .call { callee := .builtin .len, args := #[x], argTypes := #[tt] }, ty, ps, af, g⟩ w (.int .i64 (n : Int)) w := by
  intro ρ hρ
  simp [execOp, resolve, invoke, builtin, hρ x _ hx, Builtin.len_, run_underlying ht, goInt]

theorem r_ixa {tt e : TypeId} {x i : Operand} {k : IntKind} {I : Int} {b off n c j sz q : Nat} (hx : evO L x = some (.slice (some ⟨b, off, none⟩) n c)) (hi : evO L i = some (.int k I)) (ht : P.underlying tt = some (.slice e)) (hsz : (P.info? e).map (·.size) = some sz)
    (hj : I = j) (hlt : j < n) (hq : off + j * sz = q) : Runs P L ⟨d, .indexAddr tt x i, ty, ps, af, g⟩ w (.pointer (some ⟨b, q, none⟩)) w := by
  intro ρ hρ
  obtain ⟨ii, hii, hs⟩ : ∃ ii, P.info? e = some ii ∧ ii.size = sz := by
    cases hh : P.info? e with
    | none => rw [hh] at hsz; cases hsz
    | some ii => rw [hh] at hsz; exact ⟨ii, rfl, by simpa using hsz⟩
  subst hj hq
  simp [execOp, hρ x _ hx, hρ i _ hi, Instr.indexAt, asIntOf, run_underlying ht, hlt, sizeOf, typeInfo, hii, hs, Addr.add_lit]

theorem r_fa {tt : TypeId} {x : Operand} {fs : Array Field} {f : Nat} {fd : Field} {b off q : Nat} (hx : evO L x = some (.pointer (some ⟨b, off, none⟩))) (ht : P.underlying tt = some (.struct fs)) (hf : fs[f]? = some fd) (hn : ((P.info? fd.type).map fun i => Nat.blt 0 i.size) = some true) (hq : off + fd.offset = q) :
    Runs P L ⟨d, .fieldAddr tt x f, ty, ps, af, g⟩ w (.pointer (some ⟨b, q, none⟩)) w := by
  intro ρ hρ
  obtain ⟨ii, hii, hs⟩ : ∃ ii, P.info? fd.type = some ii ∧ 0 < ii.size := by
    cases hh : P.info? fd.type with
    | none => rw [hh] at hn; cases hn
    | some ii => rw [hh] at hn; exact ⟨ii, rfl, by simpa [Nat.blt_eq] using hn⟩
  subst hq
  have h0 : ¬ ii.size = 0 := by omega
  simp [execOp, hρ x _ hx, Instr.fieldAt, run_underlying ht, hf, Instr.sureAddr, fieldPlace, sizeOf, typeInfo, hii, Addr.add_lit]
  intro h; exact absurd h h0

def plainT : TypeDesc → Bool
  | .struct _ | .array _ _ => false
  | _ => true

theorem run_isAgg_plain {t : TypeId} {td : TypeDesc} (ht : P.underlying t = some td) (hp : plainT td = true) : (isAgg t).run P w = .ok false w := by
  unfold isAgg
  rw [Sem.run_bind, run_underlying ht w]
  cases td <;> first | rfl | (simp [plainT] at hp)

theorem r_load {t : TypeId} {td : TypeDesc} {x : Operand} {p : Addr} {v : Value} (hx : evO L x = some (.pointer (some p))) (ht : P.underlying t = some td) (hp : plainT td = true) (hc : w.cell? p = some v) : Runs P L ⟨d, .load t x, ty, ps, af, g⟩ w v w := by
  intro ρ hρ
  simp only [execOp, hρ x _ hx, Instr.loadAt, Instr.sureAddr]
  simp [loadVar, run_isAgg_plain ht hp, load, Sem.run, hc]

/-- The cells from a place on. -/
def cellsAt (w : World) (b o : Nat) (cs : List Value) : Prop := ∀ j v, cs[j]? = some v → w.cell? ⟨b, o + j, none⟩ = some v

theorem r_loadA {t : TypeId} {td : TypeDesc} {x : Operand} {b o : Nat} {cs : List Value} (hx : evO L x = some (.pointer (some ⟨b, o, none⟩))) (ht : P.underlying t = some td) (hp : plainT td = false) (hs : (P.info? t).map (·.size) = some cs.length) (hc : cellsAt w b o cs) :
    Runs P L ⟨d, .load t x, ty, ps, af, g⟩ w (.agg cs.toArray) w := by
  intro ρ hρ
  obtain ⟨ii, hii, hss⟩ : ∃ ii, P.info? t = some ii ∧ ii.size = cs.length := by
    cases hh : P.info? t with
    | none => rw [hh] at hs; cases hs
    | some ii => rw [hh] at hs; exact ⟨ii, rfl, by simpa using hs⟩
  have hl : (loadCells ⟨b, o, none⟩ cs.length).run P w = .ok cs.toArray w :=
    run_loadCells_list (P := P) w ⟨b, o, none⟩ cs (fun j v hv => by rw [Addr.add_lit]; exact hc j v hv)
  have hagg : (isAgg t).run P w = .ok true w := by
    unfold isAgg
    rw [Sem.run_bind, run_underlying ht w]
    cases td <;> simp_all [plainT]
  simp only [execOp, hρ x _ hx, Instr.loadAt, Instr.sureAddr]
  simp [loadVar, hagg, sizeOf, typeInfo, hii, hss, hl]

theorem cellsAt_blk {b : Nat} {cs : Array Value} {T : TypeId} {fr : Nat × Nat} (h : w.heap[b]? = some (.cells cs T fr)) : cellsAt w b 0 cs.toList := by
  intro j v hv
  rw [Nat.zero_add, cell_of_row w b j cs T fr h]
  simpa using hv
theorem cell_blk {b j : Nat} {cs : Array Value} {T : TypeId} {fr : Nat × Nat} {v : Value} (h : w.heap[b]? = some (.cells cs T fr)) (hv : cs[j]? = some v) : w.cell? ⟨b, j, none⟩ = some v := by
  rw [cell_of_row w b j cs T fr h]; exact hv

/- WORLDS: a fresh block; a block written. -/
theorem blk_ext {w w' : World} {b : Nat} {o : Obj} (h : w.heap[b]? = some o) (hb : Below w.heap.size w w') : w'.heap[b]? = some o := (hb.block b (Array.getElem?_eq_some_iff.1 h).1).trans h
theorem blk_lt {w : World} {b : Nat} {o : Obj} (h : w.heap[b]? = some o) : b < w.heap.size := (Array.getElem?_eq_some_iff.1 h).1
theorem blk_grown {w w' : World} {b c : Nat} {o : Obj} (h : w.heap[b]? = some o) (hg : w.grownBy w' (some c)) (hne : b ≠ c) : w'.heap[b]? = some o := (hg.block b (blk_lt h) (fun e => hne (by injection e))).trans h
theorem grown_below {w w' : World} {B c : Nat} (hg : w.grownBy w' (some c)) (hB : B ≤ w.heap.size) (hc : B ≤ c) : Below B w w' := (Below.refl B w).grown hg hB (fun k hk => by injection hk with e; omega)
theorem grownBy_refl (w : World) (r : Option Nat) : w.grownBy w r := ⟨rfl, rfl, rfl, Nat.le_refl _, fun _ _ _ => rfl⟩
theorem grownBy_trans {a b c : World} {r : Option Nat} (h : a.grownBy b r) (k : b.grownBy c r) : a.grownBy c r :=
  ⟨k.os.trans h.os, k.tape.trans h.tape, k.output.trans h.output, Nat.le_trans h.size k.size, fun i hi hr => (k.block i (Nat.lt_of_lt_of_le hi h.size) hr).trans (h.block i hi hr)⟩
theorem below_grown {a b : World} {r : Option Nat} (h : Below a.heap.size a b) : a.grownBy b r := ⟨h.os, h.tape, h.output, h.size, fun i hi _ => h.block i hi⟩
/-- A fresh block. -/
def Fresh (w : World) (cs : Array Value) (T : TypeId) (b : Nat) (w' : World) : Prop := w.heap.size ≤ b ∧ w'.heap[b]? = some (.cells cs T (0, 0)) ∧ Below w.heap.size w w'
theorem fresh_alloc (w : World) (cs : Array Value) (T : TypeId) : Fresh w cs T w.heap.size (w.alloc (.cells cs T)) := ⟨Nat.le_refl _, heap_alloc_last _ _, (Below.refl _ _).alloc (Nat.le_refl _) _⟩

theorem zv_run {T : TypeId} {z : Value} (hz : (P.info? T).bind (·.zero) = some z) (w : World) : (zeroValue T).run P w = .ok z w := by
  cases hh : P.info? T with
  | none => rw [hh] at hz; cases hz
  | some i =>
    rw [hh] at hz
    simp only [Option.bind_some] at hz
    simp [zeroValue, typeInfo, hh, hz]

theorem d_alloc {T : TypeId} {z : Value} {cs : Array Value} (hz : (P.info? T).bind (·.zero) = some z) (hcs : z.cells = cs) : Does P L ⟨d, .alloc T, ty, ps, af, g⟩ w (fun v w' => ∃ b, v = .pointer (some ⟨b, 0, none⟩) ∧ Fresh w cs T b w') := by
  subst hcs
  refine Runs.does (v := .pointer (some ⟨w.heap.size, 0, none⟩)) (w' := w.alloc (.cells z.cells T)) (fun ρ hρ => ?_) ⟨_, rfl, fresh_alloc _ _ _⟩
  simp [execOp, Instr.alloc, zv_run hz, newVar, newRow, newObj, Sem.run]
theorem d_box {T : TypeId} {x : Operand} {v : Value} {cs : Array Value} (hx : evO L x = some v) (hcs : v.cells = cs) : Does P L ⟨d, .box T x, ty, ps, af, g⟩ w (fun v w' => ∃ b, v = .pointer (some ⟨b, 0, none⟩) ∧ Fresh w cs T b w') := by
  subst hcs
  refine Runs.does (v := .pointer (some ⟨w.heap.size, 0, none⟩)) (w' := w.alloc (.cells v.cells T)) (fun ρ hρ => ?_) ⟨_, rfl, fresh_alloc _ _ _⟩
  simp [execOp, hρ x _ hx, Instr.box, newVar, newRow, newObj, Sem.run]

/-- The cells of a block with some written from a place on. -/
def setAll : Array Value → Nat → List Value → Array Value
  | cs, _, [] => cs
  | cs, i, v :: vs => setAll (cs.setIfInBounds i v) (i + 1) vs

theorem setAll_size : ∀ (vs : List Value) (cs : Array Value) (i : Nat), (setAll cs i vs).size = cs.size
  | [], _, _ => rfl
  | v :: vs, cs, i => (setAll_size vs _ _).trans (by simp)

theorem storeCells_run : ∀ (vs : List Value) (w : World) (b o i : Nat) (cs : Array Value) (T : TypeId), w.heap[b]? = some (.cells cs T (0, 0)) → o + i + vs.length ≤ cs.size → (∀ v ∈ vs, v.oneCell' = true) →
    ∃ w', (storeCells ⟨b, o, none⟩ vs i).run P w = .ok () w' ∧ w'.heap[b]? = some (.cells (setAll cs (o + i) vs) T (0, 0)) ∧ w.grownBy w' (some b)
  | [], w, b, o, i, cs, T, h, _, _ => ⟨w, by simp [storeCells], h, grownBy_refl _ _⟩
  | v :: vs, w, b, o, i, cs, T, h, hl, h1 => by
    simp only [List.length_cons] at hl
    have hc : w.cell? ⟨b, o + i, none⟩ = some cs[o + i] := cell_blk h (Array.getElem?_eq_getElem (by omega))
    have hfr := frozen_of_row w b (o + i) cs T h
    have hs : (store ⟨b, o + i, none⟩ v).run P w = .ok () (w.setCell ⟨b, o + i, none⟩ v) := by
      rw [run_store P w _ _ _ (h1 v (by simp))]
      simp [stored, hc, hfr]
    obtain ⟨w', h2, h3, h4⟩ := storeCells_run vs (w.setCell ⟨b, o + i, none⟩ v) b o (i + 1) (cs.setIfInBounds (o + i) v) T (heap_setCell_same w b (o + i) cs T v h) (by simp; omega) (fun u hu => h1 u (by simp [hu]))
    refine ⟨w', ?_, h3, grownBy_trans (b := w.setCell ⟨b, o + i, none⟩ v) ⟨rfl, rfl, rfl, by simp [World.setCell], fun k _ hk => Below.heap_setCell _ _ _ _ (fun e => hk (by rw [e]))⟩ h4⟩
    unfold storeCells
    rw [Addr.add_lit]
    simp [hs, h2]

/-- A block written from a place on. -/
def Wrote (w : World) (b : Nat) (cs : Array Value) (T : TypeId) (w' : World) : Prop := w'.heap[b]? = some (.cells cs T (0, 0)) ∧ w.grownBy w' (some b)

theorem d_store {t T : TypeId} {x y : Operand} {b o : Nat} {cs cs' : Array Value} {v : Value} (hx : evO L x = some (.pointer (some ⟨b, o, none⟩))) (hy : evO L y = some v) (hs : (P.info? t).map (·.size) = some v.cells.size) (h1 : ∀ u ∈ v.cells.toList, u.oneCell' = true)
    (hb : w.heap[b]? = some (.cells cs T (0, 0))) (hl : o + v.cells.size ≤ cs.size) (hcs : setAll cs o v.cells.toList = cs') : Does P L ⟨d, .store t x y, ty, ps, af, g⟩ w (fun _ w' => Wrote w b cs' T w') := by
  obtain ⟨ii, hii, hss⟩ : ∃ ii, P.info? t = some ii ∧ ii.size = v.cells.size := by
    cases hh : P.info? t with
    | none => rw [hh] at hs; cases hs
    | some ii => rw [hh] at hs; exact ⟨ii, rfl, by simpa using hs⟩
  obtain ⟨w', h2, h3, h4⟩ := storeCells_run (P := P) v.cells.toList w b o 0 cs T hb (by simpa using hl) h1
  rw [Nat.add_zero, hcs] at h3
  intro a K Q ha hK
  unfold Oper.wp
  have hr : (execOp a.eval ⟨d, .store t x y, ty, ps, af, g⟩).run P w = .ok .skip w' := by
    simp only [execOp, ha x _ hx, ha y _ hy, Instr.storeAt, Instr.sureAddr]
    simp [storeVar, sizeOf, typeInfo, hii, hss, h2]
  rw [hr]
  exact hK undef w' ⟨h3, h4⟩

theorem d_bslice {t e : TypeId} {n : Nat} {parts : Array (Nat × Operand)} {vs : List (Nat × Value)} {cs : Array Value} {z : Value} {sz : Nat} (hv : parts.toList.map (fun p => (p.1, evO L p.2)) = vs.map (fun p => (p.1, some p.2))) (ht : P.underlying t = some (.slice e)) (hi : (P.info? e).map (fun i => (i.zero, i.size)) = some (some z, sz))
    (hn : (Nat.ble (n * sz) 16777216 && Nat.blt 0 (n * sz)) = true) (hf : Instr.fill (fun i => some (i * sz, sz)) ((Array.range (n * sz)).map (z.cells[· % z.cells.size]!)) vs = some cs) :
    Does P L ⟨d, .buildSlice t n parts, ty, ps, af, g⟩ w (fun v w' => ∃ b, v = .slice (some ⟨b, 0, none⟩) n n ∧ Fresh w cs e b w') := by
  obtain ⟨ie, hie, hz, hs⟩ : ∃ ie, P.info? e = some ie ∧ ie.zero = some z ∧ ie.size = sz := by
    cases hh : P.info? e with
    | none => rw [hh] at hi; cases hi
    | some ie => rw [hh] at hi; simp at hi; exact ⟨ie, rfl, hi.1, hi.2⟩
  subst hs
  simp only [Bool.and_eq_true, Nat.ble_eq, Nat.blt_eq] at hn
  refine Runs.does (v := .slice (some ⟨w.heap.size, 0, none⟩) n n) (w' := w.alloc (.cells cs e)) (fun ρ hρ => ?_) ⟨_, rfl, fresh_alloc _ _ _⟩
  have he : (parts.map fun (i, x) => (i, ρ x)).toList = vs := by
    simp only [Array.toList_map]
    have : ∀ (l : List (Nat × Operand)) (us : List (Nat × Value)), l.map (fun p => (p.1, evO L p.2)) = us.map (fun p => (p.1, some p.2)) → l.map (fun (i, x) => (i, ρ x)) = us := by
      intro l
      induction l with
      | nil => intro us h; cases us with | nil => rfl | cons u us => simp at h
      | cons x l ih =>
        intro us h
        cases us with
        | nil => simp at h
        | cons u us =>
          simp only [List.map_cons, List.cons.injEq, Prod.mk.injEq] at h ⊢
          exact ⟨by rw [hρ x.2 u.2 h.1.2, h.1.1], ih us h.2⟩
    exact this _ _ hv
  have hr := run_buildSlice (P := P) w t e n (parts.map fun (i, x) => (i, ρ x)) cs ie z ht hie hz (by omega) (by omega) (by rw [he]; exact hf)
  simp only [execOp]
  simp [hr]

theorem r_build {t : TypeId} {parts : Array (Nat × Operand)} {vs : List (Nat × Value)} {cs : Array Value} (hv : parts.toList.map (fun p => (p.1, evO L p.2)) = vs.map (fun p => (p.1, some p.2))) (hr : ∀ w, (Instr.build t vs.toArray).run P w = .ok (.agg cs) w) :
    Runs P L ⟨d, .build t parts, ty, ps, af, g⟩ w (.agg cs) w := by
  intro ρ hρ
  have he : (parts.map fun (i, x) => (i, ρ x)) = vs.toArray := by
    apply Array.ext'
    simp only [Array.toList_map]
    have : ∀ (l : List (Nat × Operand)) (us : List (Nat × Value)), l.map (fun p => (p.1, evO L p.2)) = us.map (fun p => (p.1, some p.2)) → l.map (fun (i, x) => (i, ρ x)) = us := by
      intro l
      induction l with
      | nil => intro us h; cases us with | nil => rfl | cons u us => simp at h
      | cons x l ih =>
        intro us h
        cases us with
        | nil => simp at h
        | cons u us =>
          simp only [List.map_cons, List.cons.injEq, Prod.mk.injEq] at h ⊢
          exact ⟨by rw [hρ x.2 u.2 h.1.2, h.1.1], ih us h.2⟩
    exact this _ _ hv
  simp only [execOp, he]
  simp [hr]

theorem r_field {t : TypeId} {x : Operand} {f : Nat} {cs : Array Value} {v : Value} (hx : evO L x = some (.agg cs)) (hr : ∀ w, (Instr.field t (.agg cs) f).run P w = .ok v w) : Runs P L ⟨d, .field t x f, ty, ps, af, g⟩ w v w := by
  intro ρ hρ; simp only [execOp, hρ x _ hx]; simp [hr]

theorem callee_ok {f : FuncId} {fn : Func} (hf : P.funcs[f]? = some fn) (hb : fn.body.isNone = false) (hn : (fn.name == "runtime.NumGoroutine") = false) (args : Array Value) : (callFunc f args).run P w = .ok (.enter f args) w := by
  have h1 : ¬ fn.name = "runtime.NumGoroutine" := by simpa using hn
  have h2 : ¬ fn.body = none := by cases h : fn.body <;> simp_all
  simp [callFunc, hf, h1, h2]

theorem d_call {f : FuncId} {xs : Array Operand} {tys : Array TypeId} {vs : List Value} {R : Value → World → Prop} {fn : Func} (hv : xs.toList.map (evO L) = vs.map some) (hf : P.funcs[f]? = some fn) (hb : fn.body.isNone = false) (hn : (fn.name == "runtime.NumGoroutine") = false)
    (hc : Calls P f vs.toArray w (fun e w' => ∃ v, e = .returned v ∧ R v w')) : Does P L ⟨d, .call { callee := .value (.func f), args := xs, argTypes := tys }, ty, ps, af, g⟩ w R := by
  intro a K Q ha hK
  unfold Oper.wp
  have he : xs.map a.eval = vs.toArray := by
    apply Array.ext'
    simp only [Array.toList_map]
    have : ∀ (l : List Operand) (us : List Value), l.map (evO L) = us.map some → l.map a.eval = us := by
      intro l
      induction l with
      | nil => intro us h; cases us with | nil => rfl | cons u us => simp at h
      | cons x l ih =>
        intro us h
        cases us with
        | nil => simp at h
        | cons u us =>
          simp only [List.map_cons, List.cons.injEq] at h ⊢
          exact ⟨ha x u h.1, ih us h.2⟩
    exact this _ _ hv
  have hr : (execOp a.eval ⟨d, .call { callee := .value (.func f), args := xs, argTypes := tys }, ty, ps, af, g⟩).run P w = .ok (.enter f vs.toArray) w := by
    have h3 := ha (.func f) _ rfl
    simp only [execOp, resolve, he, h3, Deferred.ofValue]
    simp [invoke, callee_ok hf hb hn]
  rw [hr]
  simp only [Oper.upon]
  refine Calls.mono hc fun e w' he => ?_
  obtain ⟨v, rfl, h⟩ := he
  exact hK v w' h

section
variable {f : FuncId} {xs : Array Operand} {tys : Array TypeId} {vs : List Value} {fn : Func} {v : Value}
theorem d_callX {R : Value → World → Prop} (hv : xs.toList.map (evO L) = vs.map some) (hf : P.funcs[f]? = some fn) (hb : fn.body.isNone = false) (hn : (fn.name == "runtime.NumGoroutine") = false)
    (hc : Calls P f vs.toArray w (fun e w' => ∃ v, e = .returned v ∧ R v w')) : Does P L ⟨d, .call { callee := .value (.func f), args := xs, argTypes := tys }, ty, ps, af, g⟩ w R := d_call hv hf hb hn hc
theorem d_callS (hv : xs.toList.map (evO L) = vs.map some) (hf : P.funcs[f]? = some fn) (hb : fn.body.isNone = false) (hn : (fn.name == "runtime.NumGoroutine") = false)
    (hc : Calls P f vs.toArray w (fun e w' => e = .returned v ∧ w = w')) : Does P L ⟨d, .call { callee := .value (.func f), args := xs, argTypes := tys }, ty, ps, af, g⟩ w (fun u w' => u = v ∧ w = w') :=
  d_call hv hf hb hn (Calls.mono hc fun e w' h => ⟨v, h.1, rfl, h.2⟩)
theorem d_callB (hv : xs.toList.map (evO L) = vs.map some) (hf : P.funcs[f]? = some fn) (hb : fn.body.isNone = false) (hn : (fn.name == "runtime.NumGoroutine") = false)
    (hc : Calls P f vs.toArray w (fun e w' => e = .returned v ∧ Below w.heap.size w w')) : Does P L ⟨d, .call { callee := .value (.func f), args := xs, argTypes := tys }, ty, ps, af, g⟩ w (fun u w' => u = v ∧ Below w.heap.size w w') :=
  d_call hv hf hb hn (Calls.mono hc fun e w' h => ⟨v, h.1, rfl, h.2⟩)
end
end
end Go.Proofs.YtpalmpfkliepfaaDoor

namespace Go.Proofs.YtpalmpfkliepfaaDoor
open Go.RowKit Go.ChangeShapes Go.WideShapes Go.Deep
set_option linter.unusedVariables false
set_option linter.unusedSimpArgs false

/-- Cells of a type read as data: which cells stand for which data, and what is known of these. -/
structure Reads (P : Program) (t : TypeId) {α : Type} (V : α → List Value) (F : World → α → Prop) : Prop where
  get : ∀ (H : Type) (enc : TypeId × Value → H) (w : World) (base : Nat) (spare : Nat → Bool) (held : Bool) (fuel : Nat) (cs : List Value) (x : DataW H × List MemPlace), DataW.trod enc P w base spare held fuel t cs = some x → ∃ d, cs = V d ∧ F w d
  kept : ∀ w w' d, Below w.heap.size w w' → F w d → F w' d

def vInt (k : IntKind) (n : Int) : List Value := [.int k n]
def fInt (k : IntKind) (_ : World) (n : Int) : Prop := (Lit.int k n).wf = true
def vBool (b : Bool) : List Value := [.bool b]
def vStr (s : ByteArray) : List Value := [.string s]
theorem reads_int {P : Program} {t : TypeId} {k : IntKind} (ht : P.underlying t = some (.int k)) : Reads P t (vInt k) (fInt k) where
  get := by
    intro H enc w base spare held fuel cs x h
    obtain ⟨n, e, _, hw⟩ := DataW.trod_int ht h
    exact ⟨n, e, hw⟩
  kept := fun _ _ _ _ h => h

/- Structs: field by field. -/
structure ReadsFs (P : Program) (fs : List Field) (o tot : Nat) {α : Type} (V : α → List Value) (F : World → α → Prop) : Prop where
  get : ∀ (H : Type) (enc : TypeId × Value → H) (w : World) (base : Nat) (spare : Nat → Bool) (held : Bool) (n : Nat) (cs : List Value) (xs : List (DataW H × List MemPlace)), cs.length = tot → xs.length = fs.length →
    (∀ (i : Nat) (f : Field), fs[i]? = some f → DataW.trod enc P w base spare held n f.type ((cs.drop f.offset).take (P.cellsOf f.type)) = xs[i]?) → ∃ d, cs.drop o = V d ∧ F w d
  kept : ∀ w w' d, Below w.heap.size w w' → F w d → F w' d

/- Arrays. -/
/- Slices. -/
structure Sl (α : Type) where
  at' : Option Addr
  len : Nat
  cap : Nat
  el : Nat → α
def vSl {α : Type} (d : Sl α) : List Value := [.slice d.at' d.len d.cap]
def fSl {α : Type} (k : Nat) (V : α → List Value) (F : World → α → Prop) (w : World) (d : Sl α) : Prop :=
  d.len ≤ d.cap ∧ d.cap ≤ maxLen ∧ (d.at' = none → d.cap = 0) ∧ ∀ j, j < d.len → F w (d.el j) ∧ ∃ b off, d.at' = some ⟨b, off, none⟩ ∧ b < w.heap.size ∧ ∀ i u, (V (d.el j))[i]? = some u → w.cell? ⟨b, off + j * k + i, none⟩ = some u

theorem cell_here {w : World} {x : Addr} {v : Value} (h : w.cell? x = some v) : x.spot = none ∧ x.block < w.heap.size := by
  unfold World.cell? at h
  split at h
  · rename_i c e fr hh
    refine ⟨?_, (Array.getElem?_eq_some_iff.1 hh).1⟩
    cases hsp : x.spot with
    | none => rfl
    | some _ => simp [hsp] at h
  · cases h

/- An argument. -/
theorem Reads.arg {P : Program} {t : TypeId} {α : Type} {V : α → List Value} {F : World → α → Prop} (R : Reads P t V F) {H : Type} {enc : TypeId × Value → H} {w : World} {base : Nat} {spare : Nat → Bool} {held : Bool} {v : Value} {d : DataW H} {p : List MemPlace}
    (h : DataW.Trod enc P w base spare held t v d p) : ∃ d, v.cells.toList = V d ∧ F w d := by
  obtain ⟨fuel, hf⟩ := h
  exact R.get H enc w base spare held fuel _ _ hf

/-- Numbers of one cell, as a list. -/
def Sl.list {α : Type} (d : Sl α) : List α := (List.range d.len).map d.el
theorem Sl.list_length {α : Type} (d : Sl α) : d.list.length = d.len := by simp [Sl.list]
theorem Sl.list_get {α : Type} (d : Sl α) {j : Nat} (h : j < d.len) : d.list[j]? = some (d.el j) := by simp [Sl.list, h]
end Go.Proofs.YtpalmpfkliepfaaDoor

namespace Go.Proofs.YtpalmpfkliepfaaDoor
open Go.RowKit
set_option linter.unusedVariables false
set_option linter.unusedSimpArgs false

/-- The block that a value leads to. -/
def blkOf : Value → Option Nat
  | .slice (some a) _ _ => some a.block
  | .pointer (some a) => some a.block
  | _ => none
/-- Of the operations in A: the block is new. -/
def fr (A : List Nat) (i : Nat) (w : World) (v : Value) (w' : World) : Prop := A.contains i = true → ∃ b, blkOf v = some b ∧ w.heap.size ≤ b ∧ b < w'.heap.size

def ugGoals (P : Program) (ops : Array Oper) (C : World → Prop) (G : World → World → Prop) (all : List (Value → World → Prop)) (A : List Nat) (V : Nat → Value) :
    List Oper → List (Value → World → Prop) → List (List Nat) → Nat → Act → Prop
  | o :: os, p :: ps, d :: ds, i, a =>
    (∀ w, C w → depsHold V all w d → ∀ K : Act → World → Prop, (∀ v w', G w w' → p v w' → fr A i w v w' → K (a.put o.dst v) w') →
      if Region.wanted o (yielded ops a.tmps) = true then o.wp P a w K (fun _ _ _ => False) else K (a.put o.dst undef) w) ∧
    ugGoals P ops C G all A V os ps ds (i + 1) (a.put o.dst (V i))
  | _, _, _, _, _ => True


section
variable {P : Program} {ops : Array Oper} {C : World → Prop} {G : World → World → Prop} {posts : (Nat → Value) → List (Value → World → Prop)} {A : List Nat} {dl : List (List Nat)} {N T : Nat} {a0 : Act}

/-- The goals at number i. -/
theorem ugGoals_at {V : Nat → Value} : ∀ (os : List Oper) (ps : List (Value → World → Prop)) (ds : List (List Nat)) (k : Nat) (a : Act), ugGoals P ops C G (posts V) A V os ps ds k a →
    ∀ (m : Nat) (o : Oper) (p : Value → World → Prop) (d : List Nat), os[m]? = some o → ps[m]? = some p → ds[m]? = some d →
    ∀ w, C w → depsHold V (posts V) w d → ∀ K : Act → World → Prop, (∀ v w', G w w' → p v w' → fr A (k + m) w v w' → K ((putAll (os.take m) V k a).put o.dst v) w') →
      if Region.wanted o (yielded ops (putAll (os.take m) V k a).tmps) = true then o.wp P (putAll (os.take m) V k a) w K (fun _ _ _ => False) else K ((putAll (os.take m) V k a).put o.dst undef) w
  | [], _, _, _, _, _, m, o, p, d, h, _, _ => by simp at h
  | _ :: _, [], _, _, _, _, m, o, p, d, _, h, _ => by simp at h
  | _ :: _, _ :: _, [], _, _, _, m, o, p, d, _, _, h => by simp at h
  | o1 :: os, p1 :: ps, d1 :: ds, k, a, hg, 0, o, p, d, h1, h2, h3 => by
    simp at h1 h2 h3; subst h1 h2 h3
    exact hg.1
  | o1 :: os, p1 :: ps, d1 :: ds, k, a, hg, m + 1, o, p, d, h1, h2, h3 => by
    rw [show k + (m + 1) = k + 1 + m from by omega]
    exact ugGoals_at os ps ds (k + 1) _ hg.2 m o p d (by simpa using h1) (by simpa using h2) (by simpa using h3)

structure UgInv (ops : Array Oper) (C : World → Prop) (posts : (Nat → Value) → List (Value → World → Prop)) (A : List Nat) (a0 : Act) (V : Nat → Value) (listed : Array Bool) (a : Act) (w : World) : Prop where
  size : listed.size = ops.size
  tmps : a.tmps.size = a0.tmps.size
  defers : a.defers = a0.defers
  c : C w
  got : ∀ (j : Nat) (o : Oper), ops[j]? = some o → listed[j]? = some true → ∀ t, o.dst = some t → a.tmps[t]? = some (V j)
  post : ∀ (j : Nat) (o : Oper), ops[j]? = some o → listed[j]? = some true → ((posts V).getD j (fun _ _ => True)) (V j) w
  same : ∀ t, (∀ (j : Nat) (o : Oper), ops[j]? = some o → listed[j]? = some true → o.dst ≠ some t) → a.tmps[t]? = a0.tmps[t]?
  down : ∀ (j : Nat) (o : Oper), ops[j]? = some o → listed[j]? = some true → ∀ k, pre o k = true → listed[k]? = some true
  frA : ∀ i, A.contains i = true → listed[i]? = some true → ∃ b, blkOf (V i) = some b ∧ b < w.heap.size
  neA : ∀ i j, A.contains i = true → A.contains j = true → i ≠ j → listed[i]? = some true → listed[j]? = some true → blkOf (V i) ≠ blkOf (V j)

theorem UgInv.looks {V : Nat → Value} {listed : Array Bool} {a : Act} {w : World} (hI : UgInv ops C posts A a0 V listed a w) (hN : a0.tmps.size = N) (hok : ∀ i o, ops[i]? = some o → RgOk ops dl N i o)
    {i : Nat} {o : Oper} (ho : ops[i]? = some o) (hnl : listed[i]? ≠ some true) (hpre : ∀ k, pre o k = true → listed[k]? = some true) :
    ∀ t ∈ o.looksAt ops, a.tmps[t]? = (putAll (ops.toList.take i) V 0 a0).tmps[t]? := by
  intro t ht
  have hget : ∀ m o', (ops.toList.take i)[m]? = some o' ↔ m < i ∧ ops[m]? = some o' := by
    intro m o'
    rw [List.getElem?_take]
    split <;> simp [*]
  by_cases hex : ∃ (j : Nat) (oj : Oper), ops[j]? = some oj ∧ oj.dst = some t
  · obtain ⟨j, oj, hj, hjd⟩ := hex
    have hji : j ≠ i := by
      rintro rfl
      rw [ho] at hj; cases hj
      exact (hok _ _ ho).self t hjd ht
    have huniq : ∀ (j' : Nat) (o' : Oper), ops[j']? = some o' → o'.dst = some t → j' = j := by
      intro j' o' hj' hd'
      by_cases e : j' = j
      · exact e
      · exact absurd hjd ((hok _ _ hj).one j' o' hj' e t hd')
    rcases (hok _ _ ho).see j oj hj hji t hjd ht with hp | hp
    · rw [hI.got j oj hj (hpre j hp) t hjd]
      have hlt := (hok _ _ ho).lt j hp
      rw [putAll_get_some V _ 0 a0 j oj ((hget j oj).2 ⟨hlt, hj⟩) hjd (by rw [hN]; exact (hok _ _ hj).dst t hjd)
        (fun m' o' hm' hne => fun hd' => hne (huniq m' o' ((hget m' o').1 hm').2 hd'))]
      simp
    · have hlt := (hok _ _ hj).lt i hp
      rw [hI.same t (fun j' o' hj' hl' hd' => by
        obtain rfl := huniq j' o' hj' hd'
        rw [hj] at hj'; cases hj'
        exact hnl (hI.down _ _ hj hl' i hp))]
      rw [putAll_get_none V _ 0 a0 (fun m o' hm hd' => by
        have := huniq m o' ((hget m o').1 hm).2 hd'
        have := ((hget m o').1 hm).1
        omega)]
  · rw [hI.same t (fun j' o' hj' _ hd' => hex ⟨j', o', hj', hd'⟩), putAll_get_none V _ 0 a0 (fun m o' hm hd' => hex ⟨m, o', ((hget m o').1 hm).2, hd'⟩)]

theorem ug_walk {Q : Exit → Act → World → Prop} (hN : a0.tmps.size = N) (hok : ∀ i o, ops[i]? = some o → RgOk ops dl N i o) (hdl : dl.length = ops.size) (hpl : ∀ V, (posts V).length = ops.size)
    (hC : ∀ w w', C w → G w w' → C w') (hG : ∀ w w', G w w' → w.heap.size ≤ w'.heap.size) (hP : ∀ V, postsKept G (posts V)) (hPc : ∀ V i v j, i ∉ dl.getD j [] → (posts (fun k => if k = i then v else V k)).getD j (fun _ _ => True) = (posts V).getD j (fun _ _ => True)) (hgoals : ∀ V, ugGoals P ops C G (posts V) A V ops.toList (posts V) dl 0 a0)
    (hQ : ∀ V w, C w → postsHold V w (posts V) 0 → (∀ i j, i < (posts V).length → j < (posts V).length → A.contains i = true → A.contains j = true → i ≠ j → blkOf (V i) ≠ blkOf (V j)) → Q .normal (putAll ops.toList V 0 a0) w) :
    ∀ (fuel : Nat) (listed : Array Bool) (a : Act) (w : World) (V : Nat → Value), (List.range ops.size).countP (fun i => listed[i]? != some true) ≤ fuel → UgInv ops C posts A a0 V listed a w → wpAny P .any ops Q fuel listed a w := by
  -- what stands when all is listed
  have fin : ∀ (listed : Array Bool) (a : Act) (w : World) (V : Nat → Value), UgInv ops C posts A a0 V listed a w → (∀ i, i < ops.size → listed[i]? = some true) → Q .normal a w := by
    intro listed a w V hI hall
    have ha : a = putAll ops.toList V 0 a0 := by
      have h1 : a.tmps = (putAll ops.toList V 0 a0).tmps := by
        apply Array.ext_getElem?
        intro t
        by_cases hex : ∃ (j : Nat) (oj : Oper), ops[j]? = some oj ∧ oj.dst = some t
        · obtain ⟨j, oj, hj, hjd⟩ := hex
          rw [hI.got j oj hj (hall j (Array.getElem?_eq_some_iff.1 hj).1) t hjd]
          rw [putAll_get_some V _ 0 a0 j oj (by simpa using hj) hjd (by rw [hN]; exact (hok _ _ hj).dst t hjd)
            (fun m' o' hm' hne hd' => (hok _ _ hj).one m' o' (by simpa using hm') hne t hd' hjd)]
          simp
        · rw [hI.same t (fun j' o' hj' _ hd' => hex ⟨j', o', hj', hd'⟩), putAll_get_none V _ 0 a0 (fun m o' hm hd' => hex ⟨m, o', by simpa using hm, hd'⟩)]
      have h2 : a.defers = (putAll ops.toList V 0 a0).defers := hI.defers.trans (putAll_defers V _ _ _).symm
      cases a; simp only at h1 h2; subst h1 h2; rfl
    rw [ha]
    refine hQ V w hI.c (postsHold_of (posts V) 0 (fun j p hj => by
      have hlt : j < ops.size := by rw [← hpl V]; exact (List.getElem?_eq_some_iff.1 hj).1
      have := hI.post j ops[j] (Array.getElem?_eq_getElem hlt) (hall j hlt)
      rw [Nat.zero_add]
      simpa [List.getD_eq_getElem?_getD, hj] using this)) (fun i j hi hj h1 h2 hne => hI.neA i j h1 h2 hne (hall i (by have := hpl V; omega)) (hall j (by have := hpl V; omega)))
  -- nothing is ready: all is listed
  have done : ∀ (listed : Array Bool), listed.size = ops.size → Region.ready .any ops listed = [] → ∀ i, i < ops.size → listed[i]? = some true := by
    intro listed hsz hr i
    induction i using Nat.strongRecOn with
    | ind i ih =>
      intro hi
      by_cases h : listed[i]? = some true
      · exact h
      exfalso
      have hmem : i ∈ Region.ready .any ops listed := by
        unfold Region.ready
        rw [List.mem_filter]
        refine ⟨by simpa using hi, ?_⟩
        have hl : listed.getD i true = false := by
          rw [Array.getD_eq_getD_getElem?]
          rw [Array.getElem?_eq_getElem (by omega)] at h ⊢
          simpa using h
        rw [hl, Array.getElem?_eq_getElem hi]
        simp only [Bool.not_false, Bool.true_and, Option.map_some, Option.getD_some]
        rw [Array.all_eq_true']
        intro e he
        by_cases hb : Region.binds .any e = true
        · have hp := pre_spec he hb
          have hlt := (hok _ _ (Array.getElem?_eq_getElem hi)).lt e.on hp
          rw [Array.getD_eq_getD_getElem?, ih e.on hlt (by omega)]
          simp
        · simp [hb]
      rw [hr] at hmem
      exact absurd hmem (by simp)
  intro fuel
  induction fuel with
  | zero =>
    intro listed a w V hc hI
    have hall : ∀ i, i < ops.size → listed[i]? = some true := by
      intro i hi
      have h0 := Nat.le_zero.1 hc
      rw [List.countP_eq_zero] at h0
      simpa using h0 i (by simpa using hi)
    refine ⟨?_, fin listed a w V hI hall⟩
    unfold Region.ready
    rw [List.filter_eq_nil_iff]
    intro i hi
    have := hall i (by simpa using hi)
    rw [Array.getD_eq_getD_getElem?, this]
    simp
  | succ fuel ih =>
    intro listed a w V hc hI
    refine ⟨fun hr => fin listed a w V hI (done listed hI.size hr), fun i hi => ?_⟩
    unfold Region.ready at hi
    rw [List.mem_filter] at hi
    obtain ⟨hir, hi2⟩ := hi
    have hir : i < ops.size := by simpa using hir
    rw [Bool.and_eq_true] at hi2
    obtain ⟨hnl, haft⟩ := hi2
    have hnl' : listed[i]? = some false := by
      rw [Array.getD_eq_getD_getElem?, Array.getElem?_eq_getElem (by rw [hI.size]; exact hir)] at hnl
      rw [Array.getElem?_eq_getElem (by rw [hI.size]; exact hir)]
      simpa using hnl
    have ho : ops[i]? = some ops[i] := Array.getElem?_eq_getElem hir
    have hpre : ∀ k, pre ops[i] k = true → listed[k]? = some true := by
      intro k hk
      obtain ⟨e, he, rfl, hb⟩ := pre_mem hk
      rw [ho, Option.map_some, Option.getD_some, Array.all_eq_true'] at haft
      have := haft e he
      simp only [hb, Bool.not_true, Bool.false_or, Array.getD_eq_getD_getElem?] at this
      have hlt := (hok _ _ ho).lt e.on hk
      rw [Array.getElem?_eq_getElem (by rw [hI.size]; omega)] at this ⊢
      simpa using this
    have hilt : i < listed.size := by rw [hI.size]; exact hir
    -- the step
    have hp : (posts V)[i]? = some ((posts V).getD i (fun _ _ => True)) := by
      have : i < (posts V).length := by have := hpl V; omega
      simp [this]
    have hd : dl[i]? = some (dl.getD i []) := by
      have : i < dl.length := by omega
      simp [this]
    have hlook := hI.looks hN hok ho (by rw [hnl']; simp) hpre
    have hgo := ugGoals_at ops.toList (posts V) dl 0 a0 (hgoals V) i ops[i] _ _ (by simp) hp hd w hI.c
      (depsHold_of _ (fun j hj => by
        have h1 := hpre j ((hok _ _ ho).dl j hj)
        have hlt : j < ops.size := by have := (hok _ _ ho).lt j ((hok _ _ ho).dl j hj); omega
        exact hI.post j ops[j] (Array.getElem?_eq_getElem hlt) h1))
    -- the invariant behind it
    have hnext : ∀ v w', (C w' ∧ (∀ j v, ((posts V).getD j (fun _ _ => True)) v w → ((posts V).getD j (fun _ _ => True)) v w') ∧ w.heap.size ≤ w'.heap.size ∧ fr A i w v w') → ((posts V).getD i (fun _ _ => True)) v w' → wpAny P .any ops Q fuel (listed.setIfInBounds i true) (a.put ops[i].dst v) w' := by
      rintro v w' ⟨hc', hkeep, hsz, hfr⟩ hpv
      refine ih _ _ _ (fun k => if k = i then v else V k) ?_ ?_
      · have hlt : (List.range ops.size).countP (fun k => (listed.setIfInBounds i true)[k]? != some true) < (List.range ops.size).countP (fun k => listed[k]? != some true) := by
          rw [List.countP_eq_length_filter, List.countP_eq_length_filter]
          have hsub : (List.range ops.size).filter (fun k => (listed.setIfInBounds i true)[k]? != some true) = ((List.range ops.size).filter (fun k => listed[k]? != some true)).erase i := by
            rw [(List.Nodup.sublist List.filter_sublist List.nodup_range).erase_eq_filter, List.filter_filter]
            apply List.filter_congr
            intro k hk
            by_cases e : k = i
            · subst e; simp [hilt]
            · rw [Array.getElem?_setIfInBounds_ne (Ne.symm e)]; simp [e]
          rw [hsub, List.length_erase_of_mem (by rw [List.mem_filter]; exact ⟨by simpa using hir, by rw [hnl']; rfl⟩)]
          have : 0 < ((List.range ops.size).filter (fun k => listed[k]? != some true)).length :=
            List.length_pos_of_mem (a := i) (by rw [List.mem_filter]; exact ⟨by simpa using hir, by rw [hnl']; rfl⟩)
          omega
        omega
      · refine ⟨by simp [hI.size], by rw [put_size, hI.tmps], by rw [put_defers, hI.defers], hc', ?_, ?_, ?_, ?_, ?_, ?_⟩
        · intro j o hj hl t ht
          rcases (Array.get?_setTrue hilt).1 hl with rfl | hl2
          · rw [ho] at hj; cases hj
            simp only [if_true]
            rw [ht]; exact put_get (by rw [hI.tmps, hN]; exact (hok _ _ ho).dst t ht)
          · have hji : j ≠ i := fun e => by rw [e, hnl'] at hl2; cases hl2
            rw [if_neg hji, put_get_ne ((hok _ _ ho).one j o hj hji t ht)]
            exact hI.got j o hj hl2 t ht
        · intro j o hj hl
          rcases (Array.get?_setTrue hilt).1 hl with rfl | hl2
          · rw [hPc V _ v _ (fun hm => by
              have h1 := hpre _ ((hok _ _ ho).dl _ hm)
              rw [hnl'] at h1; cases h1)]
            simp only [if_true]; exact hpv
          · have hji : j ≠ i := fun e => by rw [e, hnl'] at hl2; cases hl2
            rw [hPc V _ v _ (fun hm => by
              have h1 := hI.down j o hj hl2 _ ((hok _ _ hj).dl _ hm)
              rw [hnl'] at h1; cases h1)]
            simp only [if_neg hji]
            exact hkeep j _ (hI.post j o hj hl2)
        · intro t ht
          rw [put_get_ne (ht i _ ho ((Array.get?_setTrue hilt).2 (.inl rfl)))]
          exact hI.same t (fun j o hj hl => ht j o hj ((Array.get?_setTrue hilt).2 (.inr hl)))
        · intro j o hj hl k hk
          rw [Array.get?_setTrue hilt]
          rcases (Array.get?_setTrue hilt).1 hl with rfl | hl2
          · rw [ho] at hj; cases hj
            exact .inr (hpre k hk)
          · exact .inr (hI.down j o hj hl2 k hk)
        · intro j hj hl
          rcases (Array.get?_setTrue hilt).1 hl with rfl | hl2
          · simp only [if_true]
            obtain ⟨b, h1, _, h3⟩ := hfr hj
            exact ⟨b, h1, h3⟩
          · have hji : j ≠ i := fun e => by rw [e, hnl'] at hl2; cases hl2
            simp only [if_neg hji]
            obtain ⟨b, h1, h2⟩ := hI.frA j hj hl2
            exact ⟨b, h1, Nat.lt_of_lt_of_le h2 hsz⟩
        · intro j j2 hj hj2 hne hl hl2
          rcases (Array.get?_setTrue hilt).1 hl with rfl | hl3
          · rcases (Array.get?_setTrue hilt).1 hl2 with rfl | hl4
            · exact absurd rfl hne
            · simp only [if_true, if_neg (Ne.symm hne)]
              obtain ⟨b, h1, h2, _⟩ := hfr hj
              obtain ⟨b2, h3, h4⟩ := hI.frA j2 hj2 hl4
              rw [h1, h3]; intro e; cases e; omega
          · have hji : j ≠ i := fun e => by rw [e, hnl'] at hl3; cases hl3
            rcases (Array.get?_setTrue hilt).1 hl2 with rfl | hl4
            · simp only [if_true, if_neg hji]
              obtain ⟨b, h1, h2, _⟩ := hfr hj2
              obtain ⟨b2, h3, h4⟩ := hI.frA j hj hl3
              rw [h1, h3]; intro e; cases e; omega
            · have hji2 : j2 ≠ i := fun e => by rw [e, hnl'] at hl4; cases hl4
              simp only [if_neg hji, if_neg hji2]
              exact hI.neA j j2 hj hj2 hne hl3 hl4
    unfold wpOp
    rw [ho]
    show if Region.wanted ops[i] (yielded ops a.tmps) = true then _ else _
    have hsel := (hok _ _ ho).sel
    have hEx : execOp a.eval ops[i] = execOp (putAll (ops.toList.take i) V 0 a0).eval ops[i] :=
      execOp_congr ops[i] hsel (fun x hx => eval_congr_get (fun t ht => hlook t (by
        subst ht
        exact List.mem_append_left _ (List.mem_filterMap.2 ⟨.tmp t, by simpa using hx, rfl⟩))))
    rw [yielded_congr hlook]
    split
    · rename_i hw
      left
      have hgo := hgo (fun b w' => ∃ v, b = (putAll (ops.toList.take i) V 0 a0).put ops[i].dst v ∧ G w w' ∧ ((posts V).getD i (fun _ _ => True)) v w' ∧ fr A i w v w') (fun v w' h1 h2 h3 => ⟨v, rfl, h1, h2, by rwa [Nat.zero_add] at h3⟩)
      rw [if_pos hw] at hgo
      exact wp_carry (R := fun v w' => G w w' ∧ ((posts V).getD i (fun _ _ => True)) v w' ∧ fr A i w v w') hEx (by rw [hI.tmps, putAll_size]) hgo
        (fun v w' ⟨h1, h2, h3⟩ => hnext v w' ⟨hC w w' hI.c h1, fun j v hj => postsKept_at (posts V) (hP V) j v w w' hj h1, hG w w' h1, h3⟩ h2)
    · rename_i hw
      have hgo := hgo (fun b w' => ∃ v, b = (putAll (ops.toList.take i) V 0 a0).put ops[i].dst v ∧ (C w' ∧ (∀ j v, ((posts V).getD j (fun _ _ => True)) v w → ((posts V).getD j (fun _ _ => True)) v w') ∧ w.heap.size ≤ w'.heap.size ∧ fr A i w v w') ∧ ((posts V).getD i (fun _ _ => True)) v w')
        (fun v w' h1 h2 h3 => ⟨v, rfl, ⟨hC w w' hI.c h1, fun j v hj => postsKept_at (posts V) (hP V) j v w w' hj h1, hG w w' h1, by rwa [Nat.zero_add] at h3⟩, h2⟩)
      rw [if_neg hw] at hgo
      obtain ⟨v, h1, h2, h3⟩ := hgo
      have e : a.put ops[i].dst undef = a.put ops[i].dst v := by
        cases hd : ops[i].dst with
        | none => rfl
        | some d =>
          rw [hd] at h1
          have hlt : d < (putAll (ops.toList.take i) V 0 a0).tmps.size := by rw [putAll_size, hN]; exact (hok _ _ ho).dst d hd
          have := congrArg (fun x : Act => x.tmps[d]?) h1
          simp only [put_get hlt] at this
          rw [Option.some.inj this]
      rw [e]
      exact hnext v w h2 h3

theorem wp_region_ug {id : Nat} {Q : Exit → Act → World → Prop} {w0 : World} (C : World → Prop) (G : World → World → Prop) (posts : (Nat → Value) → List (Value → World → Prop)) (A : List Nat) (dl : List (List Nat)) (N : Nat)
    (hm : P.follows .mixedOrders = true) (hN : a0.tmps.size = N) (hchk : rgCheck ops dl N = true) (hpl : ∀ V, (posts V).length = ops.size)
    (hC0 : C w0.drew) (hC : ∀ w w', C w → G w w' → C w') (hG : ∀ w w', G w w' → w.heap.size ≤ w'.heap.size) (hP : ∀ V, postsKept G (posts V)) (hPc : ∀ V i v j, i ∉ dl.getD j [] → (posts (fun k => if k = i then v else V k)).getD j (fun _ _ => True) = (posts V).getD j (fun _ _ => True)) (hgoals : ∀ V, ugGoals P ops C G (posts V) A V ops.toList (posts V) dl 0 a0)
    (hQ : ∀ V w, C w → postsHold V w (posts V) 0 → (∀ i j, i < (posts V).length → j < (posts V).length → A.contains i = true → A.contains j = true → i ≠ j → blkOf (V i) ≠ blkOf (V j)) → Q .normal (putAll ops.toList V 0 a0) w) : (Code.region id ops true).wp P Q a0 w0 := by
  obtain ⟨hdl, hok⟩ := rgOk_of_check hchk
  refine wp_region_any hm (ug_walk hN hok hdl hpl hC hG hP hPc hgoals hQ ops.size _ a0 _ (fun _ => undef) ?_ ⟨by simp, rfl, rfl, hC0, ?_, ?_, fun _ _ => rfl, ?_, ?_, ?_⟩)
  · exact Nat.le_trans List.countP_le_length (by simp)
  · intro j o hj hl
    simp [Array.getElem?_replicate] at hl
  · intro j o hj hl
    simp [Array.getElem?_replicate] at hl
  · intro j o hj hl
    simp [Array.getElem?_replicate] at hl
  · intro j hj hl
    simp [Array.getElem?_replicate] at hl
  · intro j j2 hj hj2 hne hl
    simp [Array.getElem?_replicate] at hl

theorem ug_walk_tail {Q : Exit → Act → World → Prop} (hN : a0.tmps.size = N) (hok : ∀ i o, ops[i]? = some o → RgOk ops dl N i o) (hdl : dl.length = ops.size) (hpl : ∀ V, (posts V).length = T) (hT : T < ops.size)
    (hs : Region.sinkB .any ops T = true) (hc : Region.chainB .any ops T = true) (hseq : Region.seqB .any ops (ops.size - T) T ((Array.range ops.size).map (fun i => decide (i < T))) = true)
    (hC : ∀ w w', C w → G w w' → C w') (hG : ∀ w w', G w w' → w.heap.size ≤ w'.heap.size) (hP : ∀ V, postsKept G (posts V)) (hPc : ∀ V i v j, i ∉ dl.getD j [] → (posts (fun k => if k = i then v else V k)).getD j (fun _ _ => True) = (posts V).getD j (fun _ _ => True)) (hgoals : ∀ V, ugGoals P ops C G (posts V) A V (ops.toList.take T) (posts V) dl 0 a0)
    (hQ : ∀ V w, C w → postsHold V w (posts V) 0 → (∀ i j, i < (posts V).length → j < (posts V).length → A.contains i = true → A.contains j = true → i ≠ j → blkOf (V i) ≠ blkOf (V j)) → wpList P ops Q (ops.toList.drop T) (putAll (ops.toList.take T) V 0 a0) w) :
    ∀ (fuel : Nat) (listed : Array Bool) (a : Act) (w : World) (V : Nat → Value), (List.range T).countP (fun i => listed[i]? != some true) = fuel → HeadInv .any ops T listed → UgInv ops C posts A a0 V listed a w → wpAny P .any ops Q (fuel + (ops.size - T)) listed a w := by
  -- what stands when the head is listed
  have fin : ∀ (listed : Array Bool) (a : Act) (w : World) (V : Nat → Value), HeadInv .any ops T listed → UgInv ops C posts A a0 V listed a w → (∀ i, i < T → listed[i]? = some true) → wpAny P .any ops Q (0 + (ops.size - T)) listed a w := by
    intro listed a w V inv hI hall
    have hnone : ∀ j, T ≤ j → listed[j]? ≠ some true := by
      intro j hj h
      by_cases hjs : j < ops.size
      · have h1 := inv.tail j hj hjs
        rw [Array.getD_eq_getD_getElem?, h] at h1
        cases h1
      · have hsz := inv.size
        rw [Array.getElem?_eq_none (by omega)] at h
        cases h
    have hmem : ∀ m o, (ops.toList.take T)[m]? = some o → m < T ∧ ops[m]? = some o := by
      intro m o hm
      rw [List.getElem?_take] at hm
      split at hm
      · exact ⟨by assumption, by simpa using hm⟩
      · cases hm
    have ha : a = putAll (ops.toList.take T) V 0 a0 := by
      have h1 : a.tmps = (putAll (ops.toList.take T) V 0 a0).tmps := by
        apply Array.ext_getElem?
        intro t
        by_cases hex : ∃ (j : Nat) (oj : Oper), ops[j]? = some oj ∧ oj.dst = some t ∧ j < T
        · obtain ⟨j, oj, hj, hjd, hjT⟩ := hex
          rw [hI.got j oj hj (hall j hjT) t hjd]
          rw [putAll_get_some V _ 0 a0 j oj (by rw [List.getElem?_take, if_pos hjT]; simpa using hj) hjd (by rw [hN]; exact (hok _ _ hj).dst t hjd)
            (fun m' o' hm' hne hd' => (hok _ _ hj).one m' o' (hmem m' o' hm').2 hne t hd' hjd)]
          simp
        · rw [hI.same t (fun j' o' hj' hl' hd' => hex ⟨j', o', hj', hd', by
            rcases Nat.lt_or_ge j' T with h | h
            · exact h
            · exact absurd hl' (hnone j' h)⟩), putAll_get_none V _ 0 a0 (fun m o' hm hd' => hex ⟨m, o', (hmem m o' hm).2, hd', (hmem m o' hm).1⟩)]
      have h2 : a.defers = (putAll (ops.toList.take T) V 0 a0).defers := hI.defers.trans (putAll_defers V _ _ _).symm
      cases a; simp only at h1 h2; subst h1 h2; rfl
    have hq := hQ V w hI.c (postsHold_of (posts V) 0 (fun j p hj => by
      have hlt : j < T := by rw [← hpl V]; exact (List.getElem?_eq_some_iff.1 hj).1
      have := hI.post j ops[j] (Array.getElem?_eq_getElem (by omega)) (hall j hlt)
      rw [Nat.zero_add]
      simpa [List.getD_eq_getElem?_getD, hj] using this)) (fun i j hi hj h1 h2 hne => hI.neA i j h1 h2 hne (hall i (by have := hpl V; omega)) (hall j (by have := hpl V; omega)))
    rw [ha]
    have hdl2 : (ops.toList.drop T).length = ops.size - T := by simp
    have hall2 := headInv_all inv hall (by omega)
    have := wpAny_of_seq (md := .any) (Q' := Q) (ops.toList.drop T) T listed _ w (fun j => by simp [List.getElem?_drop]) (by rw [hdl2, hall2]; exact hseq) hq
    rw [hdl2] at this
    rw [Nat.zero_add]
    exact this
  intro fuel
  induction fuel with
  | zero =>
    intro listed a w V hc0 inv hI
    refine fin listed a w V inv hI (fun i hi => ?_)
    rw [List.countP_eq_zero] at hc0
    simpa using hc0 i (by simpa using hi)
  | succ fuel ih =>
    intro listed a w V hc0 inv hI
    obtain ⟨i0, hi0, hun0⟩ : ∃ i0, i0 < T ∧ listed.getD i0 true = false := by
      have hpos : 0 < (List.range T).countP (fun i => listed[i]? != some true) := by omega
      rw [List.countP_pos_iff] at hpos
      obtain ⟨i0, h1, h2⟩ := hpos
      have h1 : i0 < T := by simpa using h1
      refine ⟨i0, h1, ?_⟩
      rw [Array.getD_eq_getD_getElem?]
      rw [Array.getElem?_eq_getElem (by rw [hI.size]; omega)] at h2 ⊢
      simpa using h2
    have hready := tail_waits hs hc hT inv _ i0 rfl hi0 hun0
    rw [show fuel + 1 + (ops.size - T) = (fuel + (ops.size - T)) + 1 by omega]
    refine ⟨fun hr => ?_, fun i hi => ?_⟩
    · exfalso
      have done : ∀ i, i < ops.size → listed[i]? = some true := by
        intro i
        induction i using Nat.strongRecOn with
        | ind i ih =>
          intro hi
          by_cases h : listed[i]? = some true
          · exact h
          exfalso
          have hmem : i ∈ Region.ready .any ops listed := by
            unfold Region.ready
            rw [List.mem_filter]
            refine ⟨by simpa using hi, ?_⟩
            have hl : listed.getD i true = false := by
              rw [Array.getD_eq_getD_getElem?]
              rw [Array.getElem?_eq_getElem (by rw [hI.size]; omega)] at h ⊢
              simpa using h
            rw [hl, Array.getElem?_eq_getElem hi]
            simp only [Bool.not_false, Bool.true_and, Option.map_some, Option.getD_some]
            rw [Array.all_eq_true']
            intro e he
            by_cases hb : Region.binds .any e = true
            · have hp := pre_spec he hb
              have hlt := (hok _ _ (Array.getElem?_eq_getElem hi)).lt e.on hp
              rw [Array.getD_eq_getD_getElem?, ih e.on hlt (by omega)]
              simp
            · simp [hb]
          rw [hr] at hmem
          exact absurd hmem (by simp)
      have h1 := inv.tail T (Nat.le_refl _) hT
      rw [Array.getD_eq_getD_getElem?, done T hT] at h1
      cases h1
    have hiT : i < T := by
      rcases Nat.lt_or_ge i T with h | h
      · exact h
      · exact absurd hi (hready i h)
    have inv' := inv.set hi hiT
    unfold Region.ready at hi
    rw [List.mem_filter] at hi
    obtain ⟨hir, hi2⟩ := hi
    have hir : i < ops.size := by simpa using hir
    rw [Bool.and_eq_true] at hi2
    obtain ⟨hnl, haft⟩ := hi2
    have hnl' : listed[i]? = some false := by
      rw [Array.getD_eq_getD_getElem?, Array.getElem?_eq_getElem (by rw [hI.size]; exact hir)] at hnl
      rw [Array.getElem?_eq_getElem (by rw [hI.size]; exact hir)]
      simpa using hnl
    have ho : ops[i]? = some ops[i] := Array.getElem?_eq_getElem hir
    have hpre : ∀ k, pre ops[i] k = true → listed[k]? = some true := by
      intro k hk
      obtain ⟨e, he, rfl, hb⟩ := pre_mem hk
      rw [ho, Option.map_some, Option.getD_some, Array.all_eq_true'] at haft
      have := haft e he
      simp only [hb, Bool.not_true, Bool.false_or, Array.getD_eq_getD_getElem?] at this
      have hlt := (hok _ _ ho).lt e.on hk
      rw [Array.getElem?_eq_getElem (by rw [hI.size]; omega)] at this ⊢
      simpa using this
    have hilt : i < listed.size := by rw [hI.size]; exact hir
    -- the step
    have hp : (posts V)[i]? = some ((posts V).getD i (fun _ _ => True)) := by
      have : i < (posts V).length := by have := hpl V; omega
      simp [this]
    have hd : dl[i]? = some (dl.getD i []) := by
      have : i < dl.length := by omega
      simp [this]
    have hlook := hI.looks hN hok ho (by rw [hnl']; simp) hpre
    have hgo := ugGoals_at (ops.toList.take T) (posts V) dl 0 a0 (hgoals V) i ops[i] _ _ (by rw [List.getElem?_take, if_pos hiT]; simp) hp hd w hI.c
      (depsHold_of _ (fun j hj => by
        have h1 := hpre j ((hok _ _ ho).dl j hj)
        have hlt : j < ops.size := by have := (hok _ _ ho).lt j ((hok _ _ ho).dl j hj); omega
        exact hI.post j ops[j] (Array.getElem?_eq_getElem hlt) h1))
    rw [List.take_take, Nat.min_eq_left (Nat.le_of_lt hiT)] at hgo
    -- the invariant behind it
    have hnext : ∀ v w', (C w' ∧ (∀ j v, ((posts V).getD j (fun _ _ => True)) v w → ((posts V).getD j (fun _ _ => True)) v w') ∧ w.heap.size ≤ w'.heap.size ∧ fr A i w v w') → ((posts V).getD i (fun _ _ => True)) v w' → wpAny P .any ops Q (fuel + (ops.size - T)) (listed.setIfInBounds i true) (a.put ops[i].dst v) w' := by
      rintro v w' ⟨hc', hkeep, hsz, hfr⟩ hpv
      refine ih _ _ _ (fun k => if k = i then v else V k) ?_ inv' ?_
      · have hlt : (List.range T).countP (fun k => (listed.setIfInBounds i true)[k]? != some true) + 1 = (List.range T).countP (fun k => listed[k]? != some true) := by
          rw [List.countP_eq_length_filter, List.countP_eq_length_filter]
          have hsub : (List.range T).filter (fun k => (listed.setIfInBounds i true)[k]? != some true) = ((List.range T).filter (fun k => listed[k]? != some true)).erase i := by
            rw [(List.Nodup.sublist List.filter_sublist List.nodup_range).erase_eq_filter, List.filter_filter]
            apply List.filter_congr
            intro k hk
            by_cases e : k = i
            · subst e; simp [hilt]
            · rw [Array.getElem?_setIfInBounds_ne (Ne.symm e)]; simp [e]
          rw [hsub, List.length_erase_of_mem (by rw [List.mem_filter]; exact ⟨by simpa using hiT, by rw [hnl']; rfl⟩)]
          have : 0 < ((List.range T).filter (fun k => listed[k]? != some true)).length :=
            List.length_pos_of_mem (a := i) (by rw [List.mem_filter]; exact ⟨by simpa using hiT, by rw [hnl']; rfl⟩)
          omega
        omega
      · refine ⟨by simp [hI.size], by rw [put_size, hI.tmps], by rw [put_defers, hI.defers], hc', ?_, ?_, ?_, ?_, ?_, ?_⟩
        · intro j o hj hl t ht
          rcases (Array.get?_setTrue hilt).1 hl with rfl | hl2
          · rw [ho] at hj; cases hj
            simp only [if_true]
            rw [ht]; exact put_get (by rw [hI.tmps, hN]; exact (hok _ _ ho).dst t ht)
          · have hji : j ≠ i := fun e => by rw [e, hnl'] at hl2; cases hl2
            rw [if_neg hji, put_get_ne ((hok _ _ ho).one j o hj hji t ht)]
            exact hI.got j o hj hl2 t ht
        · intro j o hj hl
          rcases (Array.get?_setTrue hilt).1 hl with rfl | hl2
          · rw [hPc V _ v _ (fun hm => by
              have h1 := hpre _ ((hok _ _ ho).dl _ hm)
              rw [hnl'] at h1; cases h1)]
            simp only [if_true]; exact hpv
          · have hji : j ≠ i := fun e => by rw [e, hnl'] at hl2; cases hl2
            rw [hPc V _ v _ (fun hm => by
              have h1 := hI.down j o hj hl2 _ ((hok _ _ hj).dl _ hm)
              rw [hnl'] at h1; cases h1)]
            simp only [if_neg hji]
            exact hkeep j _ (hI.post j o hj hl2)
        · intro t ht
          rw [put_get_ne (ht i _ ho ((Array.get?_setTrue hilt).2 (.inl rfl)))]
          exact hI.same t (fun j o hj hl => ht j o hj ((Array.get?_setTrue hilt).2 (.inr hl)))
        · intro j o hj hl k hk
          rw [Array.get?_setTrue hilt]
          rcases (Array.get?_setTrue hilt).1 hl with rfl | hl2
          · rw [ho] at hj; cases hj
            exact .inr (hpre k hk)
          · exact .inr (hI.down j o hj hl2 k hk)
        · intro j hj hl
          rcases (Array.get?_setTrue hilt).1 hl with rfl | hl2
          · simp only [if_true]
            obtain ⟨b, h1, _, h3⟩ := hfr hj
            exact ⟨b, h1, h3⟩
          · have hji : j ≠ i := fun e => by rw [e, hnl'] at hl2; cases hl2
            simp only [if_neg hji]
            obtain ⟨b, h1, h2⟩ := hI.frA j hj hl2
            exact ⟨b, h1, Nat.lt_of_lt_of_le h2 hsz⟩
        · intro j j2 hj hj2 hne hl hl2
          rcases (Array.get?_setTrue hilt).1 hl with rfl | hl3
          · rcases (Array.get?_setTrue hilt).1 hl2 with rfl | hl4
            · exact absurd rfl hne
            · simp only [if_true, if_neg (Ne.symm hne)]
              obtain ⟨b, h1, h2, _⟩ := hfr hj
              obtain ⟨b2, h3, h4⟩ := hI.frA j2 hj2 hl4
              rw [h1, h3]; intro e; cases e; omega
          · have hji : j ≠ i := fun e => by rw [e, hnl'] at hl3; cases hl3
            rcases (Array.get?_setTrue hilt).1 hl2 with rfl | hl4
            · simp only [if_true, if_neg hji]
              obtain ⟨b, h1, h2, _⟩ := hfr hj2
              obtain ⟨b2, h3, h4⟩ := hI.frA j hj hl3
              rw [h1, h3]; intro e; cases e; omega
            · have hji2 : j2 ≠ i := fun e => by rw [e, hnl'] at hl4; cases hl4
              simp only [if_neg hji, if_neg hji2]
              exact hI.neA j j2 hj hj2 hne hl3 hl4
    unfold wpOp
    rw [ho]
    show if Region.wanted ops[i] (yielded ops a.tmps) = true then _ else _
    have hsel := (hok _ _ ho).sel
    have hEx : execOp a.eval ops[i] = execOp (putAll (ops.toList.take i) V 0 a0).eval ops[i] :=
      execOp_congr ops[i] hsel (fun x hx => eval_congr_get (fun t ht => hlook t (by
        subst ht
        exact List.mem_append_left _ (List.mem_filterMap.2 ⟨.tmp t, by simpa using hx, rfl⟩))))
    rw [yielded_congr hlook]
    split
    · rename_i hw
      left
      have hgo := hgo (fun b w' => ∃ v, b = (putAll (ops.toList.take i) V 0 a0).put ops[i].dst v ∧ G w w' ∧ ((posts V).getD i (fun _ _ => True)) v w' ∧ fr A i w v w') (fun v w' h1 h2 h3 => ⟨v, rfl, h1, h2, by rwa [Nat.zero_add] at h3⟩)
      rw [if_pos hw] at hgo
      exact wp_carry (R := fun v w' => G w w' ∧ ((posts V).getD i (fun _ _ => True)) v w' ∧ fr A i w v w') hEx (by rw [hI.tmps, putAll_size]) hgo
        (fun v w' ⟨h1, h2, h3⟩ => hnext v w' ⟨hC w w' hI.c h1, fun j v hj => postsKept_at (posts V) (hP V) j v w w' hj h1, hG w w' h1, h3⟩ h2)
    · rename_i hw
      have hgo := hgo (fun b w' => ∃ v, b = (putAll (ops.toList.take i) V 0 a0).put ops[i].dst v ∧ (C w' ∧ (∀ j v, ((posts V).getD j (fun _ _ => True)) v w → ((posts V).getD j (fun _ _ => True)) v w') ∧ w.heap.size ≤ w'.heap.size ∧ fr A i w v w') ∧ ((posts V).getD i (fun _ _ => True)) v w')
        (fun v w' h1 h2 h3 => ⟨v, rfl, ⟨hC w w' hI.c h1, fun j v hj => postsKept_at (posts V) (hP V) j v w w' hj h1, hG w w' h1, by rwa [Nat.zero_add] at h3⟩, h2⟩)
      rw [if_neg hw] at hgo
      obtain ⟨v, h1, h2, h3⟩ := hgo
      have e : a.put ops[i].dst undef = a.put ops[i].dst v := by
        cases hd : ops[i].dst with
        | none => rfl
        | some d =>
          rw [hd] at h1
          have hlt : d < (putAll (ops.toList.take i) V 0 a0).tmps.size := by rw [putAll_size, hN]; exact (hok _ _ ho).dst d hd
          have := congrArg (fun x : Act => x.tmps[d]?) h1
          simp only [put_get hlt] at this
          rw [Option.some.inj this]
      rw [e]
      exact hnext v w h2 h3

theorem wp_region_ug_tail {id : Nat} {Q : Exit → Act → World → Prop} {w0 : World} (T : Nat) (C : World → Prop) (G : World → World → Prop) (posts : (Nat → Value) → List (Value → World → Prop)) (A : List Nat) (dl : List (List Nat)) (N : Nat)
    (hm : P.follows .mixedOrders = true) (hN : a0.tmps.size = N)
    (hchk : (rgCheck ops dl N && decide (T < ops.size) && Region.sinkB .any ops T && Region.chainB .any ops T && Region.seqB .any ops (ops.size - T) T ((Array.range ops.size).map (fun i => decide (i < T)))) = true) (hpl : ∀ V, (posts V).length = T)
    (hC0 : C w0.drew) (hC : ∀ w w', C w → G w w' → C w') (hG : ∀ w w', G w w' → w.heap.size ≤ w'.heap.size) (hP : ∀ V, postsKept G (posts V)) (hPc : ∀ V i v j, i ∉ dl.getD j [] → (posts (fun k => if k = i then v else V k)).getD j (fun _ _ => True) = (posts V).getD j (fun _ _ => True)) (hgoals : ∀ V, ugGoals P ops C G (posts V) A V (ops.toList.take T) (posts V) dl 0 a0)
    (hQ : ∀ V w, C w → postsHold V w (posts V) 0 → (∀ i j, i < (posts V).length → j < (posts V).length → A.contains i = true → A.contains j = true → i ≠ j → blkOf (V i) ≠ blkOf (V j)) → wpList P ops Q (ops.toList.drop T) (putAll (ops.toList.take T) V 0 a0) w) : (Code.region id ops true).wp P Q a0 w0 := by
  simp only [Bool.and_eq_true, decide_eq_true_eq] at hchk
  obtain ⟨⟨⟨⟨h1, hT⟩, h2⟩, h3⟩, h4⟩ := hchk
  obtain ⟨hdl, hok⟩ := rgOk_of_check h1
  have inv0 : HeadInv .any ops T (Array.replicate ops.size false) :=
    ⟨by simp, fun j oj _ hl => (by rw [getD_replicate_false] at hl; cases hl), fun t _ ht => getD_in (by simpa using ht) (getD_replicate_false _ _)⟩
  have hcnt : (List.range T).countP (fun i => (Array.replicate ops.size false)[i]? != some true) = T := by
    have : (List.range T).countP (fun i => (Array.replicate ops.size false)[i]? != some true) = (List.range T).length := by
      rw [List.countP_eq_length]
      intro i hi
      simp [Array.getElem?_replicate]
    rw [this]; simp
  have := ug_walk_tail (Q := Q) hN hok hdl hpl hT h2 h3 h4 hC hG hP hPc hgoals hQ T _ a0 _ (fun _ => undef) hcnt inv0 ⟨by simp, rfl, rfl, hC0, ?_, ?_, fun _ _ => rfl, ?_, ?_, ?_⟩
  · refine wp_region_any hm ?_
    rw [show T + (ops.size - T) = ops.size by omega] at this
    exact this
  · intro j o hj hl
    simp [Array.getElem?_replicate] at hl
  · intro j o hj hl
    simp [Array.getElem?_replicate] at hl
  · intro j o hj hl
    simp [Array.getElem?_replicate] at hl
  · intro j hj hl
    simp [Array.getElem?_replicate] at hl
  · intro j j2 hj hj2 hne hl
    simp [Array.getElem?_replicate] at hl
end
end Go.Proofs.YtpalmpfkliepfaaDoor

namespace Go.Proofs.YtpalmpfkliepfaaDoor
open Go.RowKit
set_option linter.unusedVariables false
set_option linter.unusedSimpArgs false

/-- A slice that can be read: its elements, of k cells each. -/
def RdS {α : Type} (k : Nat) (V : α → List Value) (w : World) (a : Option Addr) (l : List α) : Prop :=
  ∀ j x, l[j]? = some x → ∃ b off, a = some ⟨b, off, none⟩ ∧ b < w.heap.size ∧ ∀ i u, (V x)[i]? = some u → w.cell? ⟨b, off + j * k + i, none⟩ = some u

theorem RdS.ext {α : Type} {k : Nat} {V : α → List Value} {w w' : World} {a : Option Addr} {l : List α} (h : RdS k V w a l) (hb : Below w.heap.size w w') : RdS k V w' a l := by
  intro j x hx
  obtain ⟨b, off, ha, hl, hc⟩ := h j x hx
  exact ⟨b, off, ha, Nat.lt_of_lt_of_le hl hb.size, fun i u hu => (hb.cell (p := ⟨b, off + j * k + i, none⟩) hl).trans (hc i u hu)⟩

theorem RdS.nil {α : Type} {k : Nat} {V : α → List Value} {w : World} {a : Option Addr} : RdS k V w a ([] : List α) := by
  intro j x hx; cases hx

theorem RdS.of_arg {α : Type} {k : Nat} {V : α → List Value} {F : World → α → Prop} {w : World} {d : Sl α} (h : fSl k V F w d) : RdS k V w d.at' d.list := by
  intro j x hx
  have hj : j < d.len := by
    have := (List.getElem?_eq_some_iff.1 hx).1
    rwa [Sl.list_length] at this
  rw [Sl.list_get d hj] at hx
  cases hx
  obtain ⟨_, b, off, ha, hl, hc⟩ := h.2.2.2 j hj
  exact ⟨b, off, ha, hl, hc⟩

/-- One element. -/
theorem RdS.at {α : Type} {k : Nat} {V : α → List Value} {w : World} {a : Option Addr} {l : List α} (h : RdS k V w a l) {j : Nat} {x : α} (hj : l[j]? = some x) : ∃ b off, a = some ⟨b, off, none⟩ ∧ b < w.heap.size ∧ cellsAt w b (off + j * k) (V x) := by
  obtain ⟨b, off, ha, hl, hc⟩ := h j x hj
  exact ⟨b, off, ha, hl, hc⟩

theorem cellsAt_cell {w : World} {b o i q : Nat} {cs : List Value} {v : Value} (h : cellsAt w b o cs) (hi : cs[i]? = some v) (hq : o + i = q) : w.cell? ⟨b, q, none⟩ = some v := by
  subst hq; exact h i v hi
theorem cellsAt_below {w w' : World} {b o B : Nat} {cs : List Value} (h : cellsAt w b o cs) (hb : Below B w w') (hl : b < B) : cellsAt w' b o cs := fun j v hv => (hb.cell (p := ⟨b, o + j, none⟩) hl).trans (h j v hv)

theorem getElem_flatMap {α : Type} {k : Nat} {V : α → List Value} (hk : ∀ x, (V x).length = k) : ∀ (l : List α) (j i : Nat) (x : α), l[j]? = some x → i < k → (l.flatMap V)[j * k + i]? = (V x)[i]?
  | [], _, _, _, h, _ => by cases h
  | y :: l, 0, i, x, h, hi => by
    simp at h; subst h
    simp only [List.flatMap_cons]
    rw [Nat.zero_mul, Nat.zero_add, List.getElem?_append_left (by rw [hk]; exact hi)]
  | y :: l, j + 1, i, x, h, hi => by
    simp at h
    simp only [List.flatMap_cons]
    rw [List.getElem?_append_right (by rw [hk, Nat.add_mul]; omega), hk, show (j + 1) * k + i - k = j * k + i by rw [Nat.add_mul]; omega]
    exact getElem_flatMap hk l j i x h hi

theorem length_flatMap {α : Type} {k : Nat} {V : α → List Value} (hk : ∀ x, (V x).length = k) (l : List α) : (l.flatMap V).length = l.length * k := by
  induction l with
  | nil => simp
  | cons x l ih => simp only [List.flatMap_cons, List.length_append, List.length_cons, ih, hk, Nat.add_mul]; omega

/-- A row that the call owns: its elements, of k cells each. -/
def Row {α : Type} (k : Nat) (V : α → List Value) (e base : Nat) (w : World) (v : Value) (l : List α) : Prop := w.ownsRow base e k v l.length (l.flatMap V)

section
variable {α : Type} {k : Nat} {V : α → List Value} {e base : Nat} {w w' : World} {v : Value} {l : List α}

theorem Row.nil : Row k V e base w (.slice none 0 0) ([] : List α) := World.ownsRow_nil _ _ _ _
theorem Row.slice (h : Row k V e base w v l) : ∃ a c, v = .slice a l.length c ∧ l.length ≤ c ∧ c ≤ maxLen := by
  rcases h.2 with ⟨rfl, h0⟩ | ⟨g, cap, cur, rfl, _, _, hc, hm, _, _⟩
  · exact ⟨none, 0, by rw [h0], by omega, by unfold maxLen; omega⟩
  · exact ⟨_, cap, rfl, hc, hm⟩
theorem Row.some {a : Option Addr} {n c : Nat} (h : Row k V e base w (.slice a n c) l) (h0 : 0 < l.length) : ∃ g, a = some ⟨g, 0, none⟩ ∧ base ≤ g ∧ g < w.heap.size := by
  rcases h.2 with ⟨_, h1⟩ | ⟨g, cap, cur, hv, hb, hg, _⟩
  · omega
  · simp at hv; exact ⟨g, hv.1, hb, blk_lt hg⟩
theorem Row.rd {a : Option Addr} {n c : Nat} (hk : ∀ x, (V x).length = k) (h : Row k V e base w (.slice a n c) l) : RdS k V w a l := by
  intro j x hx
  have hj := (List.getElem?_eq_some_iff.1 hx).1
  rcases h.2 with ⟨_, h1⟩ | ⟨g, cap, cur, hv, hb, hg, _, _, hs, ht⟩
  · omega
  · simp at hv
    refine ⟨g, 0, hv.1, blk_lt hg, fun i u hu => ?_⟩
    have hik : i < k := by
      have := (List.getElem?_eq_some_iff.1 hu).1
      rwa [hk] at this
    rw [Nat.zero_add, cell_of_row w g _ cur e (0, 0) hg]
    have h2 := getElem_flatMap hk l j i x hx hik
    rw [hu, ← ht, List.getElem?_take] at h2
    split at h2
    · simpa using h2
    · cases h2
theorem Row.lt (h : Row k V e base w v l) : ∀ q, v.ownBlock = Option.some q → base ≤ q ∧ q < w.heap.size := World.ownsRow.lt h
theorem Row.ext (h : Row k V e base w v l) (hb : Below w.heap.size w w') : Row k V e base w' v l := h.kept (below_grown (r := none) hb) (by cases v.ownBlock <;> simp)
theorem Row.grown {c : Nat} (h : Row k V e base w v l) (hg : w.grownBy w' (Option.some c)) (hne : v.ownBlock ≠ Option.some c) : Row k V e base w' v l :=
  h.kept hg (by cases hv : v.ownBlock with | none => exact .inl rfl | some q => exact .inr (by rw [← hv]; exact hne))
theorem Row.grown' {v' : Value} (h : Row k V e base w v l) (hg : w.grownBy w' v'.ownBlock) (hne : ∀ q, v.ownBlock = Option.some q → v'.ownBlock ≠ Option.some q) : Row k V e base w' v l :=
  h.kept hg (by cases hv : v.ownBlock with | none => exact .inl rfl | some q => exact .inr (fun e => hne q hv e.symm))
theorem Row.of_new {b : Nat} {cs : Array Value} (hb : w.heap[b]? = Option.some (.cells cs e (0, 0))) (hbase : base ≤ b) (hcs : cs.toList = l.flatMap V) (hl : l.length * k = cs.size) (hm : l.length ≤ maxLen) : Row k V e base w (.slice (Option.some ⟨b, 0, none⟩) l.length l.length) l := by
  refine ⟨by rw [← hcs, hl]; simp, .inr ⟨b, l.length, cs, rfl, hbase, hb, Nat.le_refl _, hm, hl.symm, ?_⟩⟩
  rw [hl, hcs.symm, ← Array.length_toList, List.take_length]
theorem Row.cut {a : Option Addr} {n c m : Nat} (hk : ∀ x, (V x).length = k) (h : Row k V e base w (.slice a n c) l) (hn : n = l.length) (h0 : 0 < n) (hm : m ≤ n) : Row k V e base w (.slice a m c) (l.take m) := by
  subst hn
  have h2 := ownsRow_cut h hm h0
  have h3 : (l.flatMap V).take (m * k) = (l.take m).flatMap V := by
    clear h h2 h0
    induction l generalizing m with
    | nil => simp
    | cons x l ih =>
      cases m with
      | zero => simp
      | succ m =>
        simp only [List.flatMap_cons, List.take_succ_cons]
        rw [List.take_append, hk, show (m + 1) * k - k = m * k by rw [Nat.add_mul]; omega, ih (by simpa using hm), List.take_of_length_le (by rw [hk, Nat.add_mul]; omega)]
  unfold Row
  rw [List.length_take, Nat.min_eq_left hm, ← h3]
  exact h2
theorem Row.rebase {base' : Nat} (h : Row k V e base w v l) (hb : base' ≤ base) : Row k V e base' w v l :=
  ⟨h.1, h.2.imp id fun ⟨g, cap, cur, hv, hg, r⟩ => ⟨g, cap, cur, hv, Nat.le_trans hb hg, r⟩⟩
theorem Row.ne_type {b T : Nat} {cs : Array Value} (h : Row k V e base w v l) (hb : w.heap[b]? = Option.some (.cells cs T (0, 0))) (hne : (e == T) = false) : v.ownBlock ≠ Option.some b := by
  intro hv
  rcases h.2 with ⟨rfl, _⟩ | ⟨g, cap, cur, rfl, _, hg, _⟩
  · simp [Value.ownBlock] at hv
  · simp [Value.ownBlock] at hv
    subst hv
    rw [hb] at hg
    simp at hg hne
    exact hne hg.2.symm
theorem Row.ne_base {b : Nat} (h : Row k V e base w v l) (hb : b < base) : v.ownBlock ≠ Option.some b := fun hv => by have := (h.lt b hv).1; omega
theorem Row.ne_row {β : Type} {k2 e2 base2 : Nat} {V2 : β → List Value} {v2 : Value} {l2 : List β} (h : Row k V e base w v l) (h2 : Row k2 V2 e2 base2 w v2 l2) (hne : (e == e2) = false) : ∀ q, v.ownBlock = Option.some q → v2.ownBlock ≠ Option.some q := by
  intro q h1 h3
  rcases h.2 with ⟨rfl, _⟩ | ⟨g, cap, cur, rfl, _, hg, _⟩
  · simp [Value.ownBlock] at h1
  · simp [Value.ownBlock] at h1
    subst h1
    exact h2.ne_type hg (by
      simp at hne ⊢
      exact fun e => hne e.symm) h3
end

theorem blk_row' {b : Nat} {w w' : World} {v : Value} {o : Obj} (h : w.heap[b]? = some o) (hg : w.grownBy w' v.ownBlock) (hne : v.ownBlock ≠ some b) : w'.heap[b]? = some o :=
  (hg.block b (blk_lt h) (fun e => hne e.symm)).trans h
theorem Row.caps {α : Type} {k e base n c : Nat} {V : α → List Value} {w : World} {a : Option Addr} {l : List α} (h : Row k V e base w (.slice a n c) l) : n = l.length ∧ n ≤ c ∧ c ≤ 9223372036854775807 := by
  obtain ⟨a', c', hv, h1, h2⟩ := h.slice
  simp at hv
  obtain ⟨_, rfl, rfl⟩ := hv
  unfold maxLen at h2
  exact ⟨rfl, h1, by omega⟩
theorem Row.nocap {α : Type} {k e base n c : Nat} {V : α → List Value} {w : World} {a : Option Addr} {l : List α} (h : Row k V e base w (.slice a n c) l) (ha : a = none) : c = 0 := by
  rcases h.2 with ⟨hv, _⟩ | ⟨g, cap, cur, hv, _⟩
  · simp at hv; exact hv.2.2
  · simp at hv; rw [ha] at hv; cases hv.1
theorem List.take_set_snoc {α : Type} {xs : List α} {n : Nat} {v : α} (h : n < xs.length) : (xs.set n v).take (n + 1) = xs.take n ++ [v] := by
  rw [List.take_succ_eq_append_getElem (by simpa using h)]
  congr 1
  · rw [List.take_set, List.set_eq_of_length_le (by simp; omega)]
  · simp
theorem Row.relen {α : Type} {k e base n c : Nat} {V : α → List Value} {w : World} {a : Option Addr} {l : List α} (h : Row k V e base w (.slice a n c) l) : Row k V e base w (.slice a l.length c) l := by
  obtain ⟨rfl, _⟩ := h.caps
  exact h
theorem getD_at {α : Type} {l : List α} {j : Nat} (z : α) (h : j < l.length) : l[j]? = some (l.getD j z) := by
  rw [List.getD_eq_getElem?_getD, List.getElem?_eq_getElem h]; rfl
theorem row_below {α : Type} {k e base B : Nat} {V : α → List Value} {w w' : World} {v : Value} {l : List α} (h : Row k V e base w v l) (hg : w.grownBy w' v.ownBlock) (hB : B ≤ w.heap.size) (hb : B ≤ base) : Below B w w' :=
  (Below.refl B w).grown hg hB (fun q hq => Nat.le_trans hb (h.lt q hq).1)

section
variable {P : Program} {L : List (Nat × Value)} {w : World} {d : Option Tmp} {ty : TypeId} {ps : String} {af : Array Edge} {g : Option (Nat × Bool)}

theorem bi_run {L : List (Nat × Value)} {bi : Builtin} {xs : Array Operand} {tys : Array TypeId} {vs : List Value} {f : Array TypeId → TypeId → Array Value → Sem Value} {v : Value} {w w' : World} (hb : ∀ at_ t c vs, builtin bi at_ t c vs = (do pure (Next.value (← f at_ t vs)))) (hv : xs.toList.map (evO L) = vs.map some) (hr : (f tys ty vs.toArray).run P w = .ok v w') :
    Runs P L ⟨d, .call { callee := .builtin bi, args := xs, argTypes := tys }, ty, ps, af, g⟩ w v w' := by
  intro ρ hρ
  have he : xs.map ρ = vs.toArray := by
    apply Array.ext'
    simp only [Array.toList_map]
    have : ∀ (l : List Operand) (us : List Value), l.map (evO L) = us.map some → l.map ρ = us := by
      intro l
      induction l with
      | nil => intro us h; cases us with | nil => rfl | cons u us => simp at h
      | cons x l ih =>
        intro us h
        cases us with
        | nil => simp at h
        | cons u us =>
          simp only [List.map_cons, List.cons.injEq] at h ⊢
          exact ⟨hρ x u h.1, ih us h.2⟩
    exact this _ _ hv
  simp only [execOp, resolve, he]
  simp [invoke, hb, hr]

theorem r_max {x y : Operand} {k : IntKind} {A B : Int} {tys : Array TypeId} (hx : evO L x = some (.int k A)) (hy : evO L y = some (.int k B)) : Runs P L ⟨d, .call { callee := .builtin .max, args := #[x, y], argTypes := tys }, ty, ps, af, g⟩ w (.int k (if A < B then B else A)) w :=
  bi_run (f := Builtin.max_) (vs := [.int k A, .int k B]) (fun _ _ _ _ => rfl) (by simp [hx, hy]) (by simp [Builtin.max_, Builtin.max2])
theorem r_min {x y : Operand} {k : IntKind} {A B : Int} {tys : Array TypeId} (hx : evO L x = some (.int k A)) (hy : evO L y = some (.int k B)) : Runs P L ⟨d, .call { callee := .builtin .min, args := #[x, y], argTypes := tys }, ty, ps, af, g⟩ w (.int k (if B < A then B else A)) w :=
  bi_run (f := Builtin.min_) (vs := [.int k A, .int k B]) (fun _ _ _ _ => rfl) (by simp [hx, hy]) (by simp [Builtin.min_, Builtin.min2])

/-- One slice appended to a row. -/
theorem d_append {α : Type} {V : α → List Value} {t e bytes k base n m c c2 : Nat} {z : Value} {s x : Operand} {a a2 : Option Addr} {l news : List α} (hk : ∀ x, (V x).length = k) (h1 : ∀ x, ∀ u ∈ V x, u.oneCell' = true) (hs : evO L s = some (.slice a n c)) (hx : evO L x = some (.slice a2 m c2)) (ht : P.underlying t = some (.slice e))
    (hi : (P.info? e).map (fun i => (i.zero, i.size, i.bytes)) = some (some z, k, bytes)) (hz : z.cells.size = k) (h0 : Nat.blt 0 k = true) (hb1 : Nat.ble 1 bytes = true)
    (hrow : Row k V e base w (.slice a n c) l) (hrd : RdS k V w a2 news) (hm : m = news.length) (hnil : a2 = none → c2 = 0) (hbytes : (l.length + news.length) * bytes ≤ 140737488355328) (hbase : base ≤ w.heap.size) :
    Does P L ⟨d, .call { callee := .builtin .append, args := #[s, x], argTypes := #[t, t] }, ty, ps, af, g⟩ w (fun v' w' => Row k V e base w' v' (l ++ news) ∧ w.grownBy w' (Value.slice a n c).ownBlock) := by
  obtain ⟨i, hii, hz0, hs0, hby⟩ := info_parts hi
  have hk0 : 0 < k := by simpa [Nat.blt_eq] using h0
  have hb1' : 1 ≤ bytes := by simpa [Nat.ble_eq] using hb1
  have hle : l.length + news.length ≤ (l.length + news.length) * bytes := Nat.le_mul_of_pos_right _ hb1'
  have hnl : n = l.length := by
    obtain ⟨a', c', hv, _⟩ := hrow.slice
    simp at hv; exact hv.2.1
  cases a2 with
  | none =>
    have hm0 : news = [] := by
      cases news with
      | nil => rfl
      | cons y ys =>
        obtain ⟨b, off, ha, _⟩ := hrd 0 y rfl
        cases ha
    subst hm0
    obtain rfl : m = 0 := by simpa using hm
    obtain rfl : c2 = 0 := hnil rfl
    refine Runs.does (v := .slice a n c) (w' := w) (bi_run (f := Builtin.append_) (vs := [.slice a n c, .slice none 0 0]) (fun _ _ _ _ => rfl) (by simp [hs, hx]) ?_) ⟨?_, grownBy_refl _ _⟩
    · exact run_append_owned_none w base t ty e i k ht hii _ _ _ hrow
    · simpa using hrow
  | some ad =>
    cases news with
    | nil =>
      obtain rfl : m = 0 := by simpa using hm
      obtain ⟨v', w', hr, h2, h3, _⟩ := run_append_own (P := P) w base t ty e i z k bytes ht hii hz0 hs0 hby hz hk0 (.slice a n c) l.length (l.flatMap V) hrow ad 0 c2 [] (by simp) (fun j u hj => by cases hj) (by simp) (by unfold maxLen; simp at hle hbytes; omega) (by simpa using hbytes) hbase
      refine Runs.does (v := v') (w' := w') (bi_run (f := Builtin.append_) (vs := [.slice a n c, .slice (some ad) 0 c2]) (fun _ _ _ _ => rfl) (by simp [hs, hx]) hr) ⟨?_, h3⟩
      unfold Row
      simpa using h2
    | cons y ys =>
      obtain ⟨b, off, ha, hl, _⟩ := hrd 0 y rfl
      cases ha
      have hcells : ∀ j u, ((y :: ys).flatMap V)[j]? = some u → w.cell? ((⟨b, off, none⟩ : Addr).add j) = some u := by
        intro j u hj
        have hjl : j < (y :: ys).length * k := by
          have := (List.getElem?_eq_some_iff.1 hj).1
          rwa [length_flatMap hk] at this
        have hq : j / k < (y :: ys).length := Nat.div_lt_of_lt_mul (by rw [Nat.mul_comm]; exact hjl)
        have hr : j % k < k := Nat.mod_lt _ hk0
        have hjk : j / k * k + j % k = j := by rw [Nat.mul_comm]; exact Nat.div_add_mod j k
        obtain ⟨b', off', ha, _, hc⟩ := hrd (j / k) _ (List.getElem?_eq_getElem hq)
        cases ha
        rw [Addr.add_lit]
        have h2 := getElem_flatMap hk (y :: ys) (j / k) (j % k) _ (List.getElem?_eq_getElem hq) hr
        rw [hjk, hj] at h2
        have h3 := hc (j % k) u h2.symm
        rw [show off + j / k * k + j % k = off + j by omega] at h3
        exact h3
      obtain ⟨v', w', hr, h2, h3, _⟩ := run_append_own (P := P) w base t ty e i z k bytes ht hii hz0 hs0 hby hz hk0 (.slice a n c) l.length (l.flatMap V) hrow ⟨b, off, none⟩ m c2 ((y :: ys).flatMap V) (by rw [length_flatMap hk, hm]) hcells
        (fun u hu => by obtain ⟨q, _, hq⟩ := List.mem_flatMap.1 hu; exact h1 q u hq) (by unfold maxLen; omega) (by rw [hm]; exact hbytes) hbase
      refine Runs.does (v := v') (w' := w') (bi_run (f := Builtin.append_) (vs := [.slice a n c, .slice (some ⟨b, off, none⟩) m c2]) (fun _ _ _ _ => rfl) (by simp [hs, hx]) hr) ⟨?_, h3⟩
      unfold Row
      rw [List.flatMap_append, List.length_append, ← hm]
      exact h2

/-- A cut at the end: s[:m]. -/
theorem r_slto {t e : TypeId} {x h : Operand} {k : IntKind} {M : Int} {a : Option Addr} {n c m : Nat} (hx : evO L x = some (.slice a n c)) (hh : evO L h = some (.int k M)) (ht : P.underlying t = some (.slice e)) (hs : ((P.info? e).map fun i => i.size).isSome = true) (hM : M = m) (hm : m ≤ c) :
    Runs P L ⟨d, .slice t x none (some h) none, ty, ps, af, g⟩ w (.slice a m c) w := by
  intro ρ hρ
  obtain ⟨ii, hii⟩ : ∃ ii, P.info? e = some ii := by
    cases hq : P.info? e with
    | none => rw [hq] at hs; cases hs
    | some ii => exact ⟨ii, rfl⟩
  have he : P.elem t = e := by simp [Program.elem, ht]
  subst hM
  have h1 := run_sliceAt_slice (P := P) w t (.slice a n c) none (some (.int k (m : Int))) none (by rw [he]; exact ht)
  have h2 := run_slice_h (P := P) w t a n c (by rw [he]; exact ht) k m (by omega) (by omega)
  have h3 : sliced a 0 m c ii.size = .slice a m c := by
    unfold sliced
    simp
    intro _
    cases a <;> simp [Addr.add]
  simp only [execOp, hρ x _ hx, Option.map_none, Option.map_some, hρ h _ hh]
  simp only [Sem.run_bind, h1, h2, he, sizeOf, typeInfo]
  simp [hii, h3]

theorem setAll_get : ∀ (vs : List Value) (cs : Array Value) (i j : Nat), i + vs.length ≤ cs.size → (setAll cs i vs)[j]? = if i ≤ j ∧ j < i + vs.length then vs[j - i]? else cs[j]?
  | [], cs, i, j, _ => by
    simp only [setAll, List.length_nil, Nat.add_zero]
    rw [if_neg (by omega)]
  | v :: vs, cs, i, j, h => by
    simp only [List.length_cons] at h
    simp only [setAll, List.length_cons]
    rw [setAll_get vs _ _ _ (by simp; omega)]
    by_cases h1 : i + 1 ≤ j ∧ j < i + 1 + vs.length
    · rw [if_pos h1, if_pos (by omega), show j - i = (j - (i + 1)) + 1 by omega]; simp
    · rw [if_neg h1]
      by_cases h2 : i = j
      · subst h2
        rw [if_pos (by omega)]; simp; rw [Array.getElem?_setIfInBounds_self_of_lt (by omega)]
      · rw [if_neg (by omega), Array.getElem?_setIfInBounds_ne h2]

/-- A store into a row's element. -/
theorem d_rowset {α : Type} {V : α → List Value} {t e k base n c b q j : Nat} {x y : Operand} {l : List α} {u : α} {v : Value} (hk : ∀ x, (V x).length = k) (h1 : ∀ x, ∀ u ∈ V x, u.oneCell' = true) (hx : evO L x = some (.pointer (some ⟨b, q, none⟩))) (hy : evO L y = some v) (hv : v.cells.toList = V u)
    (hs : (P.info? t).map (·.size) = some k) (hrow : Row k V e base w (.slice (some ⟨b, 0, none⟩) n c) l) (hj : j < l.length) (hq : j * k = q) :
    Does P L ⟨d, .store t x y, ty, ps, af, g⟩ w (fun _ w' => Row k V e base w' (.slice (some ⟨b, 0, none⟩) n c) (l.set j u) ∧ w.grownBy w' (some b)) := by
  rcases hrow.2 with ⟨hv0, _⟩ | ⟨g', cap, cur, hv', hb, hg, hc, hm, hsz, ht⟩
  · simp at hv0
  · simp at hv'
    obtain ⟨rfl, hn, rfl⟩ := hv'
    have hvs : v.cells.size = k := by rw [← Array.length_toList, hv, hk]
    have hjk : j * k + k ≤ l.length * k := by
      have : (j + 1) * k ≤ l.length * k := Nat.mul_le_mul_right k hj
      rwa [Nat.add_mul, Nat.one_mul] at this
    have hlc : l.length * k ≤ c * k := Nat.mul_le_mul_right k hc
    refine (d_store (w := w) (cs' := setAll cur q v.cells.toList) hx hy (by rw [hs, hvs]) (fun u' hu => h1 u u' (by rw [← hv]; exact hu)) hg (by rw [hvs, hsz]; omega) rfl).mono ?_
    rintro _ w' ⟨h2, h3⟩
    refine ⟨⟨by rw [length_flatMap hk], .inr ⟨b, c, _, by rw [hn, List.length_set], hb, h2, by rw [List.length_set]; exact hc, hm, by rw [setAll_size, hsz], ?_⟩⟩, h3⟩
    apply List.ext_getElem?
    intro i
    rw [List.length_set, List.getElem?_take]
    by_cases hi : i < l.length * k
    · rw [if_pos hi]
      have hk0 : 0 < k := by
        rcases Nat.eq_zero_or_pos k with h | h
        · subst h; simp at hi
        · exact h
      have hd : i / k < l.length := Nat.div_lt_of_lt_mul (by rw [Nat.mul_comm]; exact hi)
      have hr : i % k < k := Nat.mod_lt _ hk0
      have hik : i / k * k + i % k = i := by rw [Nat.mul_comm]; exact Nat.div_add_mod i k
      have h4 : ((l.set j u).flatMap V)[i]? = (V (if j = i / k then u else l[i / k]'hd))[i % k]? := by
        have := getElem_flatMap hk (l.set j u) (i / k) (i % k) (if j = i / k then u else l[i / k]'hd) (by
          rw [List.getElem?_set]
          split
          · rename_i h; subst h; simp [hj]
          · rw [List.getElem?_eq_getElem hd]) hr
        rwa [hik] at this
      rw [h4, Array.getElem?_toList, setAll_get _ _ _ _ (by rw [hv, hk, hsz]; omega), hv, hk]
      by_cases h5 : j = i / k
      · subst h5
        rw [if_pos rfl, if_pos (by omega), show i - q = i % k by omega]
      · rw [if_neg h5, if_neg (by
          intro ⟨ha, hb'⟩
          apply h5
          rw [← hq] at ha hb'
          have e1 : j ≤ i / k := (Nat.le_div_iff_mul_le hk0).2 ha
          have e2 : i / k < j + 1 := (Nat.div_lt_iff_lt_mul hk0).2 (by rw [Nat.add_mul]; omega)
          omega)]
        have h6 := getElem_flatMap hk l (i / k) (i % k) (l[i / k]'hd) (List.getElem?_eq_getElem hd) hr
        rw [hik] at h6
        rw [← h6, ← ht, List.getElem?_take, if_pos hi, Array.getElem?_toList]
    · rw [if_neg hi]
      symm
      apply List.getElem?_eq_none
      rw [length_flatMap hk, List.length_set]; omega

/-- make([]T, n). -/
theorem d_make {α : Type} {V : α → List Value} {t e bytes k n : Nat} {z : Value} {x y : Operand} {kx ky : IntKind} {zr : α} (hx : evO L x = some (.int kx (n : Int))) (hy : evO L y = some (.int ky (n : Int))) (ht : P.underlying t = some (.slice e)) (hi : (P.info? e).map (fun i => (i.zero, i.size, i.bytes)) = some (some z, k, bytes)) (hz : z.cells.toList = V zr) (hk : ∀ x, (V x).length = k)
    (hbytes : bytes * n ≤ 140737488355328) (h63 : n ≤ maxLen) :
    Does P L ⟨d, .makeSlice t x y, ty, ps, af, g⟩ w (fun v w' => ∃ b, v = .slice (some ⟨b, 0, none⟩) n n ∧ w.heap.size ≤ b ∧ Row k V e w.heap.size w' v (List.replicate n zr) ∧ Below w.heap.size w w') := by
  obtain ⟨i, hii, hz0, hs0, hby⟩ := info_parts hi
  have h3 : (bytes : Int) * (n : Int) ≤ 281474976710656 := by
    have h : ((bytes * n : Nat) : Int) ≤ 281474976710656 := by omega
    rwa [Int.natCast_mul] at h
  have hr := run_make (P := P) w t e i z ht hii hz0 kx ky n n (by omega) (Int.le_refl _) (by rw [hby]; exact h3) (by simp [maxLen] at h63; omega)
  simp only [Int.toNat_natCast, hs0] at hr
  have hsz : z.cells.size = k := by rw [← Array.length_toList, hz, hk]
  refine Runs.does (v := .slice (some ⟨w.heap.size, 0, none⟩) n n) (w' := w.alloc (.cells (madeCells z.cells (n * k)) e)) (fun ρ hρ => by simp only [execOp, hρ x _ hx, hρ y _ hy]; simp [hr]) ⟨_, rfl, Nat.le_refl _, ?_, (Below.refl _ _).alloc (Nat.le_refl _) _⟩
  have := Row.of_new (k := k) (V := V) (e := e) (base := w.heap.size) (w := w.alloc (.cells (madeCells z.cells (n * k)) e)) (l := List.replicate n zr) (heap_alloc_last _ _) (Nat.le_refl _) ?_ (by rw [List.length_replicate, size_madeCells]) (by rw [List.length_replicate]; exact h63)
  · rwa [List.length_replicate] at this
  · apply List.ext_getElem?
    intro j
    by_cases hj : j < n * k
    · have hk0 : 0 < k := by
        rcases Nat.eq_zero_or_pos k with h | h
        · subst h; simp at hj
        · exact h
      have hd : j / k < n := Nat.div_lt_of_lt_mul (by rw [Nat.mul_comm]; exact hj)
      have hr : j % k < k := Nat.mod_lt _ hk0
      have hjk : j / k * k + j % k = j := by rw [Nat.mul_comm]; exact Nat.div_add_mod j k
      have h6 := getElem_flatMap hk (List.replicate n zr) (j / k) (j % k) zr (by simp [hd]) hr
      rw [hjk] at h6
      rw [h6, ← hz]
      simp [madeCells, hj, hsz, hr]
    · rw [List.getElem?_eq_none (by simp [madeCells]; omega), List.getElem?_eq_none (by rw [length_flatMap hk, List.length_replicate]; omega)]
end

theorem retCT {P : Program} {fn : Func} {R : Ending → World → Prop} {a : Act} {w : World} {N : Nat} {L : List (Nat × Value)} {p t : Tmp} {T T2 : TypeId} {b : Nat} {cs : Array Value} {fr : Nat × Nat} {td : TypeDesc} {v : Value} (hf : Fr N a L) (hr : fn.results = #[.cell p T, .tmp t]) (hp : lk L p = some (.pointer (some ⟨b, 0, none⟩)))
    (hb : w.heap[b]? = some (.cells cs T2 fr)) (hu : P.underlying T = some td) (hd : plainT td = false) (hi : (P.info? T).map (·.size) = some cs.size) (ht : lk L t = some v) (hR : R (.returned (.tuple #[.agg cs, v])) w) : bodyPost P fn R .ret a w := by
  refine bodyPost_ret (v := .tuple #[.agg cs, v]) ?_ hf.defers hR
  have hl := run_loadVar_row (P := P) w b T2 T cs fr td hb hu (by cases td <;> simp_all [plainT]) hi
  simp [results, hr, hf.has p _ hp, hf.has t _ ht, asAddr, hl]

/- A REGION WHOSE ORDER IS OPEN. -/
section
variable {P : Program} {ops : Array Oper} {C : World → Prop} {G : World → World → Prop} {posts : (Nat → Value) → List (Value → World → Prop)} {A : List Nat} {dl : List (List Nat)} {N : Nat} {a0 : Act} {L0 : List (Nat × Value)}

def unOp (P : Program) (ops : Array Oper) (L : List (Nat × Value)) (o : Oper) (w : World) (R : Value → World → Prop) : Prop :=
  match o.guard with
  | none => Does P L o w R
  | some (g, want) => ∃ ag c, yl ops L g = some (gb ag (.bool c)) ∧ ((ag && (c == want)) = true → Does P L o w R) ∧ ((ag && (c == want)) = false → R undef w)

def unGoals (P : Program) (ops : Array Oper) (C : World → Prop) (G : World → World → Prop) (all : List (Value → World → Prop)) (A : List Nat) (V : Nat → Value) : List Oper → List (Value → World → Prop) → List (List Nat) → Nat → List (Nat × Value) → Prop
  | o :: os, p :: ps, d :: ds, i, L => (∀ w, C w → depsHold V all w d → unOp P ops L o w (fun v w' => G w w' ∧ p v w' ∧ fr A i w v w')) ∧ unGoals P ops C G all A V os ps ds (i + 1) (ins o.dst (V i) L)
  | _, _, _, _, _ => True

theorem nofr {i : Nat} {w w' : World} {v : Value} (h : A.contains i = false) : fr A i w v w' := fun h2 => by rw [h] at h2; cases h2
theorem isfr {i b : Nat} {w w' : World} {v : Value} (h : blkOf v = some b) (h1 : w.heap.size ≤ b) (h2 : b < w'.heap.size) : fr A i w v w' := fun _ => ⟨b, h, h1, h2⟩

def insAll : List Oper → (Nat → Value) → Nat → List (Nat × Value) → List (Nat × Value)
  | [], _, _, L => L
  | o :: os, V, i, L => insAll os V (i + 1) (ins o.dst (V i) L)

theorem un_rg {V : Nat → Value} : ∀ (os : List Oper) (ps : List (Value → World → Prop)) (ds : List (List Nat)) (i : Nat) (L : List (Nat × Value)) (a : Act), Fr N a L → (∀ o ∈ os, dstOk N o.dst = true) → unGoals P ops C G (posts V) A V os ps ds i L → ugGoals P ops C G (posts V) A V os ps ds i a
  | [], _, _, _, _, _, _, _, _ => trivial
  | _ :: _, [], _, _, _, _, _, _, _ => trivial
  | _ :: _, _ :: _, [], _, _, _, _, _, _ => trivial
  | o :: os, p :: ps, d :: ds, i, L, a, hf, hd, h => by
    refine ⟨fun w hC hdp K hK => ?_, un_rg os ps ds (i + 1) _ _ (hf.ins (V i) (hd o (by simp))) (fun o' ho => hd o' (by simp [ho])) h.2⟩
    have h1 := h.1 w hC hdp
    unfold unOp at h1
    cases hg : o.guard with
    | none =>
      rw [hg] at h1
      have hw : Region.wanted o (yielded ops a.tmps) = true := by simp [Region.wanted, hg]
      rw [if_pos hw]
      exact h1 a K _ (fun x v e => hf.ev e) (fun v w' hr => hK v w' hr.1 hr.2.1 hr.2.2)
    | some gw =>
      obtain ⟨g, want⟩ := gw
      rw [hg] at h1
      obtain ⟨ag, c, hy, ht, hfl⟩ := h1
      rw [wanted_of hf hg hy]
      cases hact : (ag && (c == want)) with
      | true => rw [if_pos rfl]; exact ht hact a K _ (fun x v e => hf.ev e) (fun v w' hr => hK v w' hr.1 hr.2.1 hr.2.2)
      | false => rw [if_neg (by simp)]; exact hK _ _ (hfl hact).1 (hfl hact).2.1 (hfl hact).2.2

theorem un_fr {V : Nat → Value} : ∀ (os : List Oper) (i : Nat) (L : List (Nat × Value)) (a : Act), Fr N a L → (∀ o ∈ os, dstOk N o.dst = true) → Fr N (putAll os V i a) (insAll os V i L)
  | [], _, _, _, hf, _ => hf
  | o :: os, i, L, a, hf, hd => un_fr os (i + 1) _ _ (hf.ins (V i) (hd o (by simp))) (fun o' ho => hd o' (by simp [ho]))

theorem wp_region_un {id : Nat} {Q : Exit → Act → World → Prop} {w0 : World} (C : World → Prop) (G : World → World → Prop) (posts : (Nat → Value) → List (Value → World → Prop)) (A : List Nat) (dl : List (List Nat)) (hf : Fr N a0 L0)
    (hm : P.follows .mixedOrders = true) (hchk : (rgCheck ops dl N && ops.toList.all (fun o => dstOk N o.dst)) = true) (hpl : ∀ V, (posts V).length = ops.size)
    (hC0 : C w0.drew) (hC : ∀ w w', C w → G w w' → C w') (hG : ∀ w w', G w w' → w.heap.size ≤ w'.heap.size) (hP : ∀ V, postsKept G (posts V)) (hPc : ∀ V i v j, i ∉ dl.getD j [] → (posts (fun k => if k = i then v else V k)).getD j (fun _ _ => True) = (posts V).getD j (fun _ _ => True)) (hgoals : ∀ V, unGoals P ops C G (posts V) A V ops.toList (posts V) dl 0 L0)
    (hQ : ∀ V w a, C w → postsHold V w (posts V) 0 → (∀ i j, i < (posts V).length → j < (posts V).length → A.contains i = true → A.contains j = true → i ≠ j → blkOf (V i) ≠ blkOf (V j)) → Fr N a (insAll ops.toList V 0 L0) → Q .normal a w) : (Code.region id ops true).wp P Q a0 w0 := by
  rw [Bool.and_eq_true, List.all_eq_true] at hchk
  exact wp_region_ug C G posts A dl N hm hf.size hchk.1 hpl hC0 hC hG hP hPc (fun V => un_rg _ _ _ _ _ _ hf hchk.2 (hgoals V)) (fun V w hc hp hn => hQ V w _ hc hp hn (un_fr _ _ _ _ hf hchk.2))

theorem wp_region_unT {id : Nat} {Q : Exit → Act → World → Prop} {w0 : World} (T : Nat) (C : World → Prop) (G : World → World → Prop) (posts : (Nat → Value) → List (Value → World → Prop)) (A : List Nat) (dl : List (List Nat)) (hf : Fr N a0 L0)
    (hm : P.follows .mixedOrders = true)
    (hchk : (rgCheck ops dl N && decide (T < ops.size) && Region.sinkB .any ops T && Region.chainB .any ops T && Region.seqB .any ops (ops.size - T) T ((Array.range ops.size).map (fun i => decide (i < T)))) = true) (hdst : ops.toList.all (fun o => dstOk N o.dst) = true) (hpl : ∀ V, (posts V).length = T)
    (hC0 : C w0.drew) (hC : ∀ w w', C w → G w w' → C w') (hG : ∀ w w', G w w' → w.heap.size ≤ w'.heap.size) (hP : ∀ V, postsKept G (posts V)) (hPc : ∀ V i v j, i ∉ dl.getD j [] → (posts (fun k => if k = i then v else V k)).getD j (fun _ _ => True) = (posts V).getD j (fun _ _ => True)) (hgoals : ∀ V, unGoals P ops C G (posts V) A V (ops.toList.take T) (posts V) dl 0 L0)
    (hQ : ∀ V w a, C w → postsHold V w (posts V) 0 → (∀ i j, i < (posts V).length → j < (posts V).length → A.contains i = true → A.contains j = true → i ≠ j → blkOf (V i) ≠ blkOf (V j)) → Fr N a (insAll (ops.toList.take T) V 0 L0) → wpList P ops Q (ops.toList.drop T) a w) : (Code.region id ops true).wp P Q a0 w0 := by
  rw [List.all_eq_true] at hdst
  exact wp_region_ug_tail T C G posts A dl N hm hf.size hchk hpl hC0 hC hG hP hPc (fun V => un_rg _ _ _ _ _ _ hf (fun o ho => hdst o (List.mem_of_mem_take ho)) (hgoals V)) (fun V w hc hp hn => hQ V w _ hc hp hn (un_fr _ _ _ _ hf (fun o ho => hdst o (List.mem_of_mem_take ho))))

theorem keptB {F : Nat → Value} {top : Nat} {O : Obj} : ∀ (v : Value) (w w' : World), (fun (x : Value) (w : World) => ∃ b, x = F b ∧ top ≤ b ∧ w.heap[b]? = some O) v w → Below w.heap.size w w' → (fun (x : Value) (w : World) => ∃ b, x = F b ∧ top ≤ b ∧ w.heap[b]? = some O) v w' := by
  rintro v w w' ⟨b, h1, h2, h3⟩ hb
  exact ⟨b, h1, h2, blk_ext h3 hb⟩
end
end Go.Proofs.YtpalmpfkliepfaaDoor

namespace Go.Proofs.YtpalmpfkliepfaaDoor
open Go.RowKit
set_option linter.unusedVariables false
set_option linter.unusedSimpArgs false

theorem flatMap_vInt (k : IntKind) (l : List Int) : l.flatMap (vInt k) = l.map (Value.int k) := by
  induction l with
  | nil => rfl
  | cons a l ih => simp only [List.flatMap_cons, List.map_cons, ih]; rfl

theorem r_rowstr {P : Program} {L : List (Nat × Value)} {w : World} {d : Option Tmp} {ty : TypeId} {ps : String} {af : Array Edge} {g : Option (Nat × Bool)} {src dst e e' base : Nat} {x : Operand} {v : Value} {l : List Int}
    (hx : evO L x = some v) (hs : P.underlying src = some (.slice e)) (he : P.underlying e = some (.int .u8)) (hd : P.underlying dst = some .string) (hr : Row 1 (vInt .u8) e' base w v l) :
    Runs P L ⟨d, .convert src dst x, ty, ps, af, g⟩ w (.string (strOfNums l)) w := by
  intro ρ hρ
  simp only [execOp, hρ x _ hx]
  unfold Row at hr
  rw [flatMap_vInt] at hr
  simp [conv_row hs he hd hr]

theorem strOfNums_size (l : List Int) : (strOfNums l).size = l.length := by unfold strOfNums; simp [ByteArray.size]

theorem act_T (ag c : Bool) : (ag && (c == true)) = (ag && c) := by cases ag <;> cases c <;> rfl
theorem cons_ev {L : List (Nat × Value)} {x : Operand} {xs : List Operand} {v : Value} {vs : List Value} (h : evO L x = some v) (hs : xs.map (evO L) = vs.map some) : (x :: xs).map (evO L) = (v :: vs).map some := by
  rw [List.map_cons, List.map_cons, h, hs]
end Go.Proofs.YtpalmpfkliepfaaDoor

namespace Go.Proofs.YtpalmpfkliepfaaDoor.Ut
open Go.RowKit
set_option linter.unusedVariables false
set_option linter.unusedSimpArgs false

theorem bl_mid (s : ByteArray) (a b : Nat) : bl (s.extract a b) = ((bl s).drop a).take (b - a) := by
  unfold bl
  rw [← List.map_drop, ← List.map_take]
  congr 1
  rw [ByteArray.data_extract, Array.toList_extract, List.extract_eq_take_drop]
theorem bl_sbt (s : ByteArray) (n : Nat) (h : n < s.size) : (bl s).getD n 0 = sbt s n := bl_getD s n h
def nI (l : List Nat) : List Int := l.map fun (x : Nat) => (x : Int)
@[simp] theorem nI_length (l : List Nat) : (nI l).length = l.length := by simp [nI]
theorem strN_size (l : List Nat) : (strN l).size = l.length := by unfold strN; rw [strOfNums_size]; simp
theorem strN_bl (s : ByteArray) : strN (bl s) = s := bl_inj (bl_strN _ (bl_lt s))
end Go.Proofs.YtpalmpfkliepfaaDoor.Ut

namespace Go.Proofs.YtpalmpfkliepfaaDoor.Ut
open Go.RowKit
set_option linter.unusedVariables false
set_option linter.unusedSimpArgs false

theorem findR_hit {L : List Nat} {k : Nat} (hk : k < 256) (h : L.take (sh k).length = sh k) : findR L k (256 - k) = some k := by
  obtain ⟨f, hf⟩ : ∃ f, 256 - k = f + 1 := ⟨255 - k, by omega⟩
  rw [hf, findR, if_pos h.symm]
def FndR (L : List Nat) (o : ByteArray) (n k : Nat) (fd : Bool) (o2 : ByteArray) (n2 : Nat) : Prop :=
  (fd = false ∧ o2 = o ∧ n2 = n ∧ findR L 0 256 = findR L k (256 - k)) ∨ (fd = true ∧ ∃ c, findR L 0 256 = some c ∧ bl o2 = bl o ++ [c] ∧ n2 + 1 = n + (sh c).length)
theorem FndR.no {L : List Nat} {o o2 : ByteArray} {n k n2 : Nat} {fd : Bool} (h1 : fd = false) (h2 : o2 = o) (h3 : n2 = n) (h4 : findR L 0 256 = findR L k (256 - k)) : FndR L o n k fd o2 n2 := by unfold FndR; exact .inl ⟨h1, h2, h3, h4⟩
end Go.Proofs.YtpalmpfkliepfaaDoor.Ut

namespace Go.Proofs.YtpalmpfkliepfaaDoor
open Go.RowKit
set_option linter.unusedVariables false
set_option linter.unusedSimpArgs false

section
variable {P : Program} {t : TypeId} {k : Nat} {xs ys : Array Value}
end
section
variable {P : Program} {L : List (Nat × Value)} {w : World} {d : Option Tmp} {ty : TypeId} {ps : String} {af : Array Edge} {g : Option (Nat × Bool)}
end

theorem evAt {L : List (Nat × Value)} {x : Operand} {a : Option Addr} {n c b off : Nat} (h : evO L x = some (.slice a n c)) (ha : a = some ⟨b, off, none⟩) : evO L x = some (.slice (some ⟨b, off, none⟩) n c) := by rw [h, ha]
section
variable {P : Program} {fn : Func} {R : Ending → World → Prop} {a : Act} {w : World} {N : Nat} {L : List (Nat × Value)}
theorem load_cell {T T2 : TypeId} {b : Nat} {cs : Array Value} {fr : Nat × Nat} {td : TypeDesc} (hb : w.heap[b]? = some (.cells cs T2 fr)) (hu : P.underlying T = some td) (hd : plainT td = false) (hi : (P.info? T).map (·.size) = some cs.size) : Sem.run P (loadVar T { block := b, off := 0 }) w = .ok (.agg cs) w :=
  run_loadVar_row (P := P) w b T2 T cs fr td hb hu (by cases td <;> simp_all [plainT]) hi
end
section
variable {P : Program} {L : List (Nat × Value)} {w : World} {d : Option Tmp} {ty : TypeId} {ps : String} {af : Array Edge} {g : Option (Nat × Bool)}
theorem d_storeK {t T : TypeId} {x y : Operand} {b o : Nat} {cs cs' : Array Value} {v : Value} (hx : evO L x = some (.pointer (some ⟨b, o, none⟩))) (hy : evO L y = some v) (hs : (P.info? t).map (·.size) = some v.cells.size) (h1 : v.cells.toList.all (·.oneCell') = true)
    (hb : w.heap[b]? = some (.cells cs T (0, 0))) (hl : Nat.ble (o + v.cells.size) cs.size = true) (hcs : setAll cs o v.cells.toList = cs') : Does P L ⟨d, .store t x y, ty, ps, af, g⟩ w (fun _ w' => Wrote w b cs' T w') :=
  d_store hx hy hs (fun u hu => List.all_eq_true.1 h1 u hu) hb (Nat.le_of_ble_eq_true hl) hcs
end
/-- A slice's rest, for reading. -/
theorem RdS.drop {α : Type} {k : Nat} {V : α → List Value} {w : World} {b off : Nat} {l : List α} (m : Nat) (h : RdS k V w (some ⟨b, off, none⟩) l) : RdS k V w (some ⟨b, off + m * k, none⟩) (l.drop m) := by
  intro j x hx
  rw [List.getElem?_drop] at hx
  obtain ⟨b', o', ha, hl, hc⟩ := h _ x hx
  cases ha
  exact ⟨_, _, rfl, hl, fun i u hu => by rw [show off + m * k + j * k + i = off + (m + j) * k + i by rw [Nat.add_mul]; omega]; exact hc i u hu⟩
theorem RdS.take {α : Type} {k : Nat} {V : α → List Value} {w : World} {a : Option Addr} {l : List α} (m : Nat) (h : RdS k V w a l) : RdS k V w a (l.take m) := by
  intro j x hx
  rw [List.getElem?_take] at hx
  split at hx
  · exact h j x hx
  · cases hx
end Go.Proofs.YtpalmpfkliepfaaDoor

namespace Go.Proofs.YtpalmpfkliepfaaDoor
open Go.RowKit
set_option linter.unusedVariables false
set_option linter.unusedSimpArgs false
section
variable {P : Program} {L : List (Nat × Value)} {w : World} {d : Option Tmp} {ty : TypeId} {ps : String} {af : Array Edge} {g : Option (Nat × Bool)}
theorem r_ixp {tt e : TypeId} {x i : Operand} {k : IntKind} {I : Int} {b off nn j sz q : Nat} (hx : evO L x = some (.pointer (some ⟨b, off, none⟩))) (hi : evO L i = some (.int k I)) (ht : P.underlying tt = some (.array nn e)) (hsz : (P.info? e).map (·.size) = some sz)
    (hj : I = j) (hlt : j < nn) (hq : off + j * sz = q) : Runs P L ⟨d, .indexAddr tt x i, ty, ps, af, g⟩ w (.pointer (some ⟨b, q, none⟩)) w := by
  intro ρ hρ
  obtain ⟨ii, hii, hs⟩ : ∃ ii, P.info? e = some ii ∧ ii.size = sz := by
    cases hh : P.info? e with
    | none => rw [hh] at hsz; cases hsz
    | some ii => rw [hh] at hsz; exact ⟨ii, rfl, by simpa using hsz⟩
  subst hj hq
  simp [execOp, hρ x _ hx, hρ i _ hi, Instr.indexAt, asIntOf, run_underlying ht, hlt, sizeOf, typeInfo, hii, hs, Addr.add_lit, Instr.sureAddr]
end
end Go.Proofs.YtpalmpfkliepfaaDoor

namespace Go.Proofs.YtpalmpfkliepfaaDoor
open Go.RowKit
set_option linter.unusedVariables false
set_option linter.unusedSimpArgs false

/-- The bytes of a string, as numbers. -/
def nums (s : ByteArray) : List Int := s.data.toList.map fun b => ((b.toNat : Nat) : Int)
theorem nums_len (s : ByteArray) : (nums s).length = s.size := by unfold nums; rw [List.length_map, Array.length_toList]; rfl
theorem strOfNums_app (a b : List Int) : strOfNums (a ++ b) = strOfNums a ++ strOfNums b := by
  apply ByteArray.ext
  unfold strOfNums
  rw [ByteArray.data_append]
  simp
theorem nums_get {s : ByteArray} {j : Nat} (h : j < s.size) : (nums s)[j]? = some ((sbt s j : Nat) : Int) := by
  have hl : j < s.data.toList.length := by rw [Array.length_toList]; exact h
  unfold nums sbt
  rw [List.getElem?_map, List.getElem?_eq_getElem hl, List.getD_eq_getElem?_getD, List.getElem?_eq_getElem hl]
  rfl
section
variable {P : Program} {L : List (Nat × Value)} {w : World} {d : Option Tmp} {ty : TypeId} {ps : String} {af : Array Edge} {g : Option (Nat × Bool)}
theorem retC {fn : Func} {R : Ending → World → Prop} {a : Act} {N : Nat} {p : Tmp} {T T2 : TypeId} {b : Nat} {cs : Array Value} {fr : Nat × Nat} {td : TypeDesc} (hf : Fr N a L) (hr : fn.results = #[.cell p T]) (hp : lk L p = some (.pointer (some ⟨b, 0, none⟩)))
    (hb : w.heap[b]? = some (.cells cs T2 fr)) (hu : P.underlying T = some td) (hd : plainT td = false) (hi : (P.info? T).map (·.size) = some cs.size) (hR : R (.returned (.agg cs)) w) : bodyPost P fn R .ret a w := by
  refine bodyPost_ret (v := .agg cs) ?_ hf.defers hR
  simp [results, hr, hf.has p _ hp, asAddr, load_cell hb hu hd hi]
end
end Go.Proofs.YtpalmpfkliepfaaDoor

namespace Go.Proofs.YtpalmpfkliepfaaDoor
open Go.RowKit Go.ChangeShapes Go.WideShapes Go.Deep
set_option linter.unusedVariables false
set_option linter.unusedSimpArgs false

structure ReadsW (P : Program) (t : TypeId) {α : Type} (V : α → List Value) (F : World → α → Prop) : Prop where
  get : ∀ (H : Type) (enc : TypeId × Value → H) (w : World) (base : Nat) (spare : Nat → Bool) (held : Bool) (fuel : Nat) (cs : List Value) (x : DataW H × List MemPlace), DataW.trod enc P w base spare held fuel t cs = some x → (∀ n ∈ x.1.weights P t, n ≤ reachBytes) → ∃ d, cs = V d ∧ F w d
  kept : ∀ w w' d, Below w.heap.size w w' → F w d → F w' d

theorem Reads.toW {P : Program} {t : TypeId} {α : Type} {V : α → List Value} {F : World → α → Prop} (R : Reads P t V F) : ReadsW P t V F :=
  ⟨fun H enc w base spare held fuel cs x h _ => R.get H enc w base spare held fuel cs x h, R.kept⟩

structure ReadsFsW (P : Program) (fs : List Field) (o tot : Nat) {α : Type} (V : α → List Value) (F : World → α → Prop) : Prop where
  get : ∀ (H : Type) (enc : TypeId × Value → H) (w : World) (base : Nat) (spare : Nat → Bool) (held : Bool) (n : Nat) (cs : List Value) (xs : List (DataW H × List MemPlace)), cs.length = tot → xs.length = fs.length →
    (∀ (i : Nat) (f : Field), fs[i]? = some f → DataW.trod enc P w base spare held n f.type ((cs.drop f.offset).take (P.cellsOf f.type)) = xs[i]?) →
    (∀ (i : Nat) (f : Field) (x : DataW H × List MemPlace), fs[i]? = some f → xs[i]? = some x → ∀ n ∈ x.1.weights P f.type, n ≤ reachBytes) → ∃ d, cs.drop o = V d ∧ F w d
  kept : ∀ w w' d, Below w.heap.size w w' → F w d → F w' d

theorem readsFsW_nil {P : Program} {o tot : Nat} (h : o = tot) : ReadsFsW P [] o tot (fun (_ : Unit) => []) (fun _ _ => True) where
  get := by
    intro H enc w base spare held n cs xs hl hx hf hw
    exact ⟨(), List.drop_eq_nil_of_le (by omega), trivial⟩
  kept := fun _ _ _ _ h => h

theorem readsFsW_cons {P : Program} {f : Field} {fs : List Field} {o c tot : Nat} {α β : Type} {V : α → List Value} {F : World → α → Prop} {V' : β → List Value} {F' : World → β → Prop} (h0 : f.offset = o) (hc : P.cellsOf f.type = c) (R : ReadsW P f.type V F) (Rs : ReadsFsW P fs (o + c) tot V' F') :
    ReadsFsW P (f :: fs) o tot (fun (d : α × β) => V d.1 ++ V' d.2) (fun w d => F w d.1 ∧ F' w d.2) where
  get := by
    intro H enc w base spare held n cs xs hl hx hf hw
    cases xs with
    | nil => simp at hx
    | cons y ys =>
      have hh := hf 0 f rfl
      obtain ⟨d1, e1, g1⟩ := R.get H enc w base spare held n _ y (by simpa using hh) (hw 0 f y rfl rfl)
      obtain ⟨d2, e2, g2⟩ := Rs.get H enc w base spare held n cs ys hl (by simpa using hx) (fun i g hg => by simpa using hf (i + 1) g (by simpa using hg)) (fun i g x hg hx => hw (i + 1) g x (by simpa using hg) (by simpa using hx))
      refine ⟨(d1, d2), ?_, g1, g2⟩
      rw [h0, hc] at e1
      show _ = V d1 ++ V' d2
      rw [← e1, ← e2, ← List.drop_drop, List.take_append_drop]
  kept := fun w w' d hb h => ⟨R.kept w w' _ hb h.1, Rs.kept w w' _ hb h.2⟩

theorem readsW_struct {P : Program} {t : TypeId} {fs : Array Field} {tot : Nat} {α : Type} {V : α → List Value} {F : World → α → Prop} (ht : P.underlying t = some (.struct fs)) (hc : P.cellsOf t = tot) (Rs : ReadsFsW P fs.toList 0 tot V F) : ReadsW P t V F where
  get := by
    intro H enc w base spare held fuel cs x h hw
    obtain ⟨xs, n, _, hx, hl, hlen, hf⟩ := DataW.trod_struct ht h
    obtain ⟨d, e, g⟩ := Rs.get H enc w base spare held n cs xs (hl.trans hc) (by simpa using hlen) (fun i f hi => hf i f (by simpa using hi)) (fun i f y hi hy n hn => hw n (by
      rw [hx]
      simp only [DataW.weights, ht]
      exact DataW.weights_mem_each (j := i) (t := f.type) (d := y.1) (by simp [List.getElem?_map, hi]) (by simp [List.getElem?_map, hy]) n hn))
    exact ⟨d, by simpa using e, g⟩
  kept := Rs.kept

def fSlW {α : Type} (k by' : Nat) (V : α → List Value) (F : World → α → Prop) (w : World) (d : Sl α) : Prop := d.len * by' ≤ 140737488351232 ∧ fSl k V F w d

theorem weightsAll_mem {H : Type} {P : Program} {e : TypeId} : ∀ {l : List (DataW H)} {d : DataW H}, d ∈ l → ∀ n ∈ d.weights P e, n ∈ DataW.weightsAll P e l
  | a :: l, d, hd, n, hn => by
    simp only [DataW.weightsAll, List.mem_append]
    rcases List.mem_cons.1 hd with rfl | h
    · exact .inl hn
    · exact .inr (weightsAll_mem h n hn)
  | [], _, hd, _, _ => by cases hd

theorem readsW_slice {P : Program} {t e : TypeId} {k by' : Nat} {α : Type} [Inhabited α] {V : α → List Value} {F : World → α → Prop} (ht : P.underlying t = some (.slice e)) (hk : P.cellsOf e = k) (hby : P.bytesOf e = by') (h1 : 0 < k) (R : ReadsW P e V F) : ReadsW P t (vSl (α := α)) (fSlW k by' V F) where
  get := by
    intro H enc w base spare held fuel cs x h hw
    rcases open_slice ht h with ⟨rfl, _⟩ | ⟨a, len, cap, m, n, D, Pl, rfl, hb, hlc, hm, hmm, hx, hi⟩
    · exact ⟨⟨none, 0, 0, fun _ => default⟩, rfl, by simp, Nat.le_refl _, Nat.zero_le _, fun _ => rfl, fun j hj => absurd hj (by simp)⟩
    · have hml : len ≤ m := by rw [hmm]; split <;> omega
      have hwl : len * by' ≤ 140737488351232 := by
        have h2 := hw ((((List.range len).map D).length + ((List.range (m - len)).map fun j => D (len + j)).length) * P.bytesOf e) (by rw [hx]; simp [DataW.weights, ht])
        simp only [List.length_map, List.length_range, hby] at h2
        exact Nat.le_trans (Nat.mul_le_mul_right _ (Nat.le_add_right _ _)) h2
      have key : ∀ j, ∃ d, j < len → F w d ∧ ∃ b off, a = ⟨b, off, none⟩ ∧ b < w.heap.size ∧ ∀ i u, (V d)[i]? = some u → w.cell? ⟨b, off + j * k + i, none⟩ = some u := by
        intro j
        by_cases hj : j < len
        · obtain ⟨cs', hc, ht'⟩ := hi j (by omega)
          rw [hk] at hc
          obtain ⟨_, hcl, hat⟩ := World.cells?_some hc
          obtain ⟨d, e1, g⟩ := R.get H enc w base spare held n cs' _ ht' (fun n hn => hw n (by
            rw [hx]
            simp only [DataW.weights, ht]
            exact List.mem_cons_of_mem _ (List.mem_append.2 (.inl (weightsAll_mem (List.mem_map.2 ⟨j, List.mem_range.2 hj, rfl⟩) n hn)))))
          refine ⟨d, fun _ => ⟨g, ?_⟩⟩
          obtain ⟨cs0, hc0, _⟩ := hi 0 (by omega)
          rw [hk, Nat.zero_mul] at hc0
          obtain ⟨_, hcl0, hat0⟩ := World.cells?_some hc0
          have h0 := hat0 0 (by omega)
          rw [show ((a.add 0).add 0) = a from rfl] at h0
          obtain ⟨s0, l0⟩ := cell_here (w := w) (x := a) (v := cs0[0]'(by omega)) (by rw [h0]; exact List.getElem?_eq_getElem _)
          obtain ⟨b, off, sp⟩ := a
          simp only at s0
          subst s0
          have ea : ∀ o q, (⟨b, o, none⟩ : Addr).add q = ⟨b, o + q, none⟩ := fun o q => by
            by_cases hq : q = 0
            · subst hq; rfl
            · unfold Addr.add; rw [if_neg hq]
          refine ⟨b, off, rfl, l0, fun i u hu => ?_⟩
          · rw [← e1] at hu
            have hil : i < k := by
              have := (List.getElem?_eq_some_iff.1 hu).1
              omega
            have := hat i hil
            rw [ea, ea] at this
            rw [this]; exact hu
        · exact ⟨default, fun h => absurd h hj⟩
      refine ⟨⟨some a, len, cap, fun j => Classical.choose (key j)⟩, rfl, hwl, hlc, hm, (fun h => by cases h), fun j hj => ?_⟩
      obtain ⟨g, b, off, rfl, r⟩ := Classical.choose_spec (key j) hj
      exact ⟨g, b, off, rfl, r⟩
  kept := fun w w' d hb h => ⟨h.1, h.2.1, h.2.2.1, h.2.2.2.1, fun j hj => by
    obtain ⟨g, b, off, ha, hl, hc⟩ := h.2.2.2.2 j hj
    exact ⟨R.kept w w' _ hb g, b, off, ha, Nat.lt_of_lt_of_le hl hb.size, fun i u hu => (hb.cell (p := ⟨b, off + j * k + i, none⟩) hl).trans (hc i u hu)⟩⟩

theorem ReadsW.arg {P : Program} {t : TypeId} {α : Type} {V : α → List Value} {F : World → α → Prop} (R : ReadsW P t V F) {H : Type} {enc : TypeId × Value → H} {w : World} {base : Nat} {spare : Nat → Bool} {held : Bool} {v : Value} {d : DataW H} {p : List MemPlace}
    (h : DataW.Trod enc P w base spare held t v d p) (hw : ∀ n ∈ d.weights P t, n ≤ reachBytes) : ∃ d, v.cells.toList = V d ∧ F w d := by
  obtain ⟨fuel, hf⟩ := h
  exact R.get H enc w base spare held fuel _ _ hf hw
theorem weights_at {H : Type} {P : Program} {ts : List TypeId} {ds : List (DataW H)} (h : (DataW.weightsEach P ts ds).all (· ≤ reachBytes) = true) {j : Nat} {t : TypeId} {d : DataW H} (ht : ts[j]? = some t) (hd : ds[j]? = some d) : ∀ n ∈ d.weights P t, n ≤ reachBytes := fun n hn => by
  have := List.all_eq_true.1 h n (DataW.weights_mem_each ht hd n hn)
  simpa using this
end Go.Proofs.YtpalmpfkliepfaaDoor

namespace Go.Proofs.YtpalmpfkliepfaaDoor
open Go.RowKit
set_option linter.unusedVariables false
set_option linter.unusedSimpArgs false
set_option maxRecDepth 100000
instance {α : Type} [Inhabited α] : Inhabited (Sl α) := ⟨⟨none, 0, 0, fun _ => default⟩⟩
abbrev MIn := (Int × Int × Int × (Sl Int) × Unit)
def zMIn : MIn := ((0 : Int), (0 : Int), (0 : Int), ⟨none, 0, 0, fun _ => default⟩, ())
def vMIn : MIn → List Value := (fun d => (vInt .u8) d.1 ++ (fun d => (vInt .u64) d.1 ++ (fun d => (vInt .u64) d.1 ++ (fun d => vSl d.1 ++ (fun _ => []) d.2) d.2) d.2) d.2)
def fMIn : World → MIn → Prop := (fun w d => (fInt .u8) w d.1 ∧ (fun w d => (fInt .u64) w d.1 ∧ (fun w d => (fInt .u64) w d.1 ∧ (fun w d => (fSlW 1 4 (vInt .u32) (fInt .u32)) w d.1 ∧ (fun _ _ => True) w d.2) w d.2) w d.2) w d.2)
theorem rdMIn : ReadsW Tryd.prog 25 vMIn fMIn := (readsW_struct Tryd.underlying25 (by kernel_rfl) (readsFsW_cons (o := 0) (c := 1) rfl (by kernel_rfl) (reads_int Tryd.underlying5).toW (readsFsW_cons (o := 1) (c := 1) rfl (by kernel_rfl) (reads_int Tryd.underlying22).toW (readsFsW_cons (o := 2) (c := 1) rfl (by kernel_rfl) (reads_int Tryd.underlying22).toW (readsFsW_cons (o := 3) (c := 1) rfl (by kernel_rfl) (readsW_slice Tryd.underlying23 (by kernel_rfl) (by kernel_rfl) (by decide) (reads_int Tryd.underlying62).toW) (readsFsW_nil rfl))))))
theorem oneMIn : ∀ x, ∀ u ∈ vMIn x, u.oneCell' = true := by
  intro x u hu
  have hu : u ∈ [(.int .u8 x.1), (.int .u64 x.2.1), (.int .u64 x.2.2.1), (.slice x.2.2.2.1.at' x.2.2.2.1.len x.2.2.2.1.cap)] := hu
  simp only [List.mem_cons, List.not_mem_nil, or_false] at hu
  rcases hu with rfl | rfl | rfl | rfl <;> rfl

end Go.Proofs.YtpalmpfkliepfaaDoor

namespace Go.Proofs.YtpalmpfkliepfaaDoor
open Go.RowKit Ut
set_option linter.unusedVariables false
set_option linter.unusedSimpArgs false
def nS (n : Nat) : ByteArray := strN (natB n)
def dS (n : Int) : ByteArray := strN (digB n)
theorem natB_byte (n : Nat) : ∀ c ∈ natB n, c < 256 := fun c hc => by have := natB_dig n c hc; omega
theorem digB_byte (n : Int) : ∀ c ∈ digB n, c < 256 := by
  intro c hc
  unfold digB at hc
  split at hc
  · rcases List.mem_cons.1 hc with rfl | hc
    · decide
    · exact natB_byte _ c hc
  · exact natB_byte _ c hc
theorem nS_len {n : Nat} (h : n < 18446744073709551616) : (nS n).size ≤ 20 := by unfold nS; rw [strN_size]; exact natB_len 20 n (by decide) (by omega)
theorem dS_len {n : Int} (h : inI n) : (dS n).size ≤ 20 := by unfold dS; rw [strN_size]; exact digB_len h
theorem strN_app (a b : List Nat) : strN (a ++ b) = strN a ++ strN b := by unfold strN; rw [List.map_append, strOfNums_app]
theorem nS_lt {n : Nat} (h : n < 10) : strOfNums [(48 : Int) + ((n : Nat) : Int)] = nS n := by unfold nS; rw [natB_lt h]; rfl
theorem nS_ge {n : Nat} (h : ¬ n < 10) : nS (n / 10) ++ strOfNums [(48 : Int) + (((n : Nat) : Int) % 10)] = nS n := by unfold nS; rw [natB_ge h, strN_app]; rfl
theorem dS_neg {n : Int} (h : n < 0) : (⟨#[45]⟩ : ByteArray) ++ nS n.natAbs = dS n := by unfold dS digB; rw [if_pos h]; exact (strN_app [45] _).symm
theorem dS_pos {n : Int} (h : ¬ n < 0) : nS n.natAbs = dS n := by unfold dS digB; rw [if_neg h]; rfl
theorem bl_dS (n : Int) : bl (dS n) = digB n := bl_strN _ (digB_byte n)
set_option maxHeartbeats 1000000 in
set_option maxRecDepth 100000 in
theorem natural_aux (n : Nat) (ih : ∀ m, m < n → ∀ w, m < 18446744073709551616 → Calls Tryd.prog 75 #[.int .u64 ((m : Nat) : Int)] w fun e w' => e = .returned (.string (nS m)) ∧ Below w.heap.size w w') (w : World) (h : n < 18446744073709551616) : Calls Tryd.prog 75 #[(.int .u64 ((n : Nat) : Int))] w fun e w' => e = .returned (.string (nS n)) ∧ Below w.heap.size w w' := by
  refine sx_enter (L := [(0, (.int .u64 ((n : Nat) : Int)))]) Tryd.func75 rfl rfl rfl rfl (fun fa hf => ?_)
  have hb : Below w.heap.size w w := Below.refl _ _
  refine wp_seq_k (fun K1 hK1 => ?_)
  refine wp_region_lit ?_
  refine sqv hf (r_assign rfl) rfl rfl rfl ?_; clear hf fa; intro fa hf
  apply wpList_nil
  (try simp only [Exit.then, Exit.inBlock, ↓reduceIte, Nat.reduceEqDiff])
  refine hK1 _ _ ?_
  refine wp_seq_k (fun K2 hK2 => ?_)
  refine wp_seq_k (fun K3 hK3 => ?_)
  refine wp_region_lit ?_
  refine sqv hf (r_move rfl) rfl rfl rfl ?_; clear hf fa; intro fa hf
  refine sqv hf (r_lt rfl rfl) rfl rfl rfl ?_; clear hf fa; intro fa hf
  apply wpList_nil
  (try simp only [Exit.then, Exit.inBlock, ↓reduceIte, Nat.reduceEqDiff])
  refine hK3 _ _ ?_
  refine wp_cond_split (t := (decide (((n : Nat) : Int) < (10 : Int)))) (hf.ev rfl) (fun hqt4_1 => ?_) (fun hqt4_1 => ?_)
  · have hqt4_1b := hqt4_1
    try simp only [decide_eq_true_eq, Bool.and_eq_true, Bool.or_eq_true, Bool.not_eq_true', decide_eq_false_iff_not, ne_eq, Bool.not_eq_true] at hqt4_1
    refine wp_seq_k (fun K4 hK4 => ?_)
    refine wp_region_lit ?_
    refine sqv hf (r_move rfl) rfl rfl rfl ?_; clear hf fa; intro fa hf
    refine sqv hf (r_add (C := ((48 : Int) + ((n : Nat) : Int))) rfl rfl (by rw [IntKind.wrap_u64]; omega)) rfl rfl rfl ?_; clear hf fa; intro fa hf
    refine sqv hf (r_conv (C := ((48 : Int) + ((n : Nat) : Int))) rfl Tryd.underlying22 Tryd.underlying5 (by rw [IntKind.wrap_u8]; omega)) rfl rfl rfl ?_; clear hf fa; intro fa hf
    refine sqdt hf (d_bslice (z := (.int .u8 (0 : Int))) (sz := 1) (vs := [(0, (.int .u8 ((48 : Int) + ((n : Nat) : Int))))]) (cs := #[(.int .u8 ((48 : Int) + ((n : Nat) : Int)))]) rfl Tryd.underlying87 (by kernel_rfl) rfl (by kernel_rfl)) rfl rfl rfl ?_; clear hf fa; rintro fa _ w1 ⟨b1, rfl, hle1, hk1, he1⟩ hf
    have hBb1 : w.heap.size ≤ b1 := Nat.le_trans hb.size hle1
    replace hb := hb.trans (Below.mono he1 hb.size)
    refine sqv hf (r_rowstr rfl Tryd.underlying87 Tryd.underlying5 Tryd.underlying9 (Row.of_new (k := 1) (V := vInt .u8) (l := [((48 : Int) + ((n : Nat) : Int))]) hk1 (Nat.le_refl _) rfl rfl (Nat.le_of_ble_eq_true rfl))) rfl rfl rfl ?_; clear hf fa; intro fa hf
    refine sqv hf (r_assign rfl) rfl rfl rfl ?_; clear hf fa; intro fa hf
    apply wpList_nil
    (try simp only [Exit.then, Exit.inBlock, ↓reduceIte, Nat.reduceEqDiff])
    refine hK4 _ _ ?_
    refine wp_ret ?_
    (try simp only [Exit.then, Exit.inBlock])
    refine ret1 hf rfl rfl ?_
    refine ⟨?_, hb⟩; rw [nS_lt (by omega)]
  · have hqt4_1b := hqt4_1
    replace hqt4_1 := Bool.eq_false_iff.1 hqt4_1
    try simp only [ne_eq, decide_eq_true_eq, Bool.and_eq_true, Bool.or_eq_true, Bool.not_eq_true', decide_eq_false_iff_not] at hqt4_1
    refine wp_skip ?_
    (try simp only [Exit.then, Exit.inBlock, ↓reduceIte, Nat.reduceEqDiff])
    refine hK2 _ _ ?_
    refine wp_seq_k (fun K5 hK5 => ?_)
    refine wp_region_un (fun wq => Below w.heap.size w wq) (fun w w' => Below w.heap.size w w')
      (fun V => [(fun x _ => x = (.int .u64 ((n : Nat) : Int))), (fun x _ => x = (.int .u64 (((n / 10) : Nat) : Int))), (fun x _ => x = (.string (nS ((n / 10))))), (fun x _ => x = (.int .u64 ((n : Nat) : Int))), (fun x _ => x = (.int .u64 (((n : Nat) : Int) % (10 : Int)))), (fun x _ => x = (.int .u64 ((48 : Int) + (((n : Nat) : Int) % (10 : Int))))), (fun x _ => x = (.int .u8 ((48 : Int) + (((n : Nat) : Int) % (10 : Int))))), (fun x wq => ∃ b, x = .slice (some ⟨b, 0, none⟩) 1 1 ∧ w.heap.size ≤ b ∧ wq.heap[b]? = some (.cells #[(.int .u8 ((48 : Int) + (((n : Nat) : Int) % (10 : Int))))] 5 (0, 0))), (fun x _ => x = (.string (strOfNums [((48 : Int) + (((n : Nat) : Int) % (10 : Int)))]))), (fun x _ => x = (.string ((nS ((n / 10))) ++ (strOfNums [((48 : Int) + (((n : Nat) : Int) % (10 : Int)))])))), (fun x _ => x = (.string ((nS ((n / 10))) ++ (strOfNums [((48 : Int) + (((n : Nat) : Int) % (10 : Int)))]))))])
      [7]
      [[], [0], [1], [], [3], [4], [5], [6], [7], [2, 8], [0, 1, 2, 3, 4, 5, 6, 7, 8, 9]]
      hf (by kernel_rfl) (by kernel_rfl) (fun _ => rfl) ((Below.refl _ _).drew) (fun a b h1 h2 => h1.trans (h2.mono h1.size)) (fun _ _ h => h.size) (fun V => ⟨kept_eq, kept_eq, kept_eq, kept_eq, kept_eq, kept_eq, kept_eq, keptB, kept_eq, kept_eq, kept_eq, trivial⟩) (fun _ _ _ _ _ => rfl) ?_ ?_
    · skip
      intro V
      refine ⟨fun wu0 hC hd => ?_, ?_⟩
      · clear hd
        replace hb := hb.trans (hC.mono hb.size)
        exact Runs.does (r_move rfl) ⟨Below.refl _ _, rfl, nofr rfl⟩
      refine ⟨fun wu1 hC hd => ?_, ?_⟩
      · obtain ⟨h0, _⟩ := hd
        skip
        replace h0 : V 0 = (.int .u64 ((n : Nat) : Int)) := h0
        replace hb := hb.trans (hC.mono hb.size)
        exact Runs.does (r_quo (C := (((n / 10) : Nat) : Int)) (congrArg some h0) rfl (by omega) (by rw [Int.tdiv_eq_ediv_of_nonneg (by omega), IntKind.wrap_u64]; omega)) ⟨Below.refl _ _, rfl, nofr rfl⟩
      refine ⟨fun wu2 hC hd => ?_, ?_⟩
      · obtain ⟨h1, _⟩ := hd
        skip
        replace h1 : V 1 = (.int .u64 (((n / 10) : Nat) : Int)) := h1
        replace hb := hb.trans (hC.mono hb.size)
        refine Does.mono (d_callB (vs := [(.int .u64 (((n / 10) : Nat) : Int))]) (show [some (V 1)] = [some (.int .u64 (((n / 10) : Nat) : Int))] from by rw [h1]) Tryd.func75 (by kernel_rfl) (by kernel_rfl) (ih ((n / 10)) (by omega) _ (by omega))) (fun _ _ h => ⟨h.2, h.1, nofr rfl⟩)
      refine ⟨fun wu3 hC hd => ?_, ?_⟩
      · clear hd
        replace hb := hb.trans (hC.mono hb.size)
        exact Runs.does (r_move rfl) ⟨Below.refl _ _, rfl, nofr rfl⟩
      refine ⟨fun wu4 hC hd => ?_, ?_⟩
      · obtain ⟨h3, _⟩ := hd
        skip
        replace h3 : V 3 = (.int .u64 ((n : Nat) : Int)) := h3
        replace hb := hb.trans (hC.mono hb.size)
        exact Runs.does (r_rem (C := (((n : Nat) : Int) % (10 : Int))) (congrArg some h3) rfl (by omega) (Int.tmod_eq_emod_of_nonneg (by omega))) ⟨Below.refl _ _, rfl, nofr rfl⟩
      refine ⟨fun wu5 hC hd => ?_, ?_⟩
      · obtain ⟨h4, _⟩ := hd
        skip
        replace h4 : V 4 = (.int .u64 (((n : Nat) : Int) % (10 : Int))) := h4
        replace hb := hb.trans (hC.mono hb.size)
        exact Runs.does (r_add (C := ((48 : Int) + (((n : Nat) : Int) % (10 : Int)))) rfl (congrArg some h4) (by rw [IntKind.wrap_u64]; omega)) ⟨Below.refl _ _, rfl, nofr rfl⟩
      refine ⟨fun wu6 hC hd => ?_, ?_⟩
      · obtain ⟨h5, _⟩ := hd
        skip
        replace h5 : V 5 = (.int .u64 ((48 : Int) + (((n : Nat) : Int) % (10 : Int)))) := h5
        replace hb := hb.trans (hC.mono hb.size)
        exact Runs.does (r_conv (C := ((48 : Int) + (((n : Nat) : Int) % (10 : Int)))) (congrArg some h5) Tryd.underlying22 Tryd.underlying5 (by rw [IntKind.wrap_u8]; omega)) ⟨Below.refl _ _, rfl, nofr rfl⟩
      refine ⟨fun wu7 hC hd => ?_, ?_⟩
      · obtain ⟨h6, _⟩ := hd
        skip
        replace h6 : V 6 = (.int .u8 ((48 : Int) + (((n : Nat) : Int) % (10 : Int)))) := h6
        replace hb := hb.trans (hC.mono hb.size)
        refine Does.mono (d_bslice (z := (.int .u8 (0 : Int))) (sz := 1) (vs := [(0, (.int .u8 ((48 : Int) + (((n : Nat) : Int) % (10 : Int)))))]) (cs := #[(.int .u8 ((48 : Int) + (((n : Nat) : Int) % (10 : Int))))]) (show [(0, some (V 6))] = [(0, some (.int .u8 ((48 : Int) + (((n : Nat) : Int) % (10 : Int)))))] from by rw [h6]) Tryd.underlying87 (by kernel_rfl) rfl (by kernel_rfl)) ?_
        rintro _ w' ⟨b, rfl, hF⟩
        exact ⟨hF.2.2, ⟨b, rfl, Nat.le_trans hC.size hF.1, hF.2.1⟩, isfr rfl hF.1 (blk_lt hF.2.1)⟩
      refine ⟨fun wu8 hC hd => ?_, ?_⟩
      · obtain ⟨h7, _⟩ := hd
        skip
        obtain ⟨b2, h7, hle2, hk2⟩ := h7
        replace hb := hb.trans (hC.mono hb.size)
        exact Runs.does (r_rowstr (congrArg some h7) Tryd.underlying87 Tryd.underlying5 Tryd.underlying9 (Row.of_new (k := 1) (V := vInt .u8) (l := [((48 : Int) + (((n : Nat) : Int) % (10 : Int)))]) hk2 (Nat.le_refl _) rfl rfl (Nat.le_of_ble_eq_true rfl))) ⟨Below.refl _ _, rfl, nofr rfl⟩
      refine ⟨fun wu9 hC hd => ?_, ?_⟩
      · obtain ⟨h2, h8, _⟩ := hd
        skip
        skip
        replace h2 : V 2 = (.string (nS ((n / 10)))) := h2
        replace h8 : V 8 = (.string (strOfNums [((48 : Int) + (((n : Nat) : Int) % (10 : Int)))])) := h8
        replace hb := hb.trans (hC.mono hb.size)
        exact Runs.does (r_sadd (congrArg some h2) (congrArg some h8) (by have := nS_len (n := ((n / 10))) (by omega); have := strOfNums_size [((48 : Int) + (((n : Nat) : Int) % (10 : Int)))]; (try simp only [List.length_cons, List.length_nil, List.length_append] at this); omega)) ⟨Below.refl _ _, rfl, nofr rfl⟩
      refine ⟨fun wu10 hC hd => ?_, ?_⟩
      · obtain ⟨h0, h1, h2, h3, h4, h5, h6, h7, h8, h9, _⟩ := hd
        skip
        skip
        skip
        skip
        skip
        skip
        skip
        skip
        skip
        skip
        replace h0 : V 0 = (.int .u64 ((n : Nat) : Int)) := h0
        replace h1 : V 1 = (.int .u64 (((n / 10) : Nat) : Int)) := h1
        replace h2 : V 2 = (.string (nS ((n / 10)))) := h2
        replace h3 : V 3 = (.int .u64 ((n : Nat) : Int)) := h3
        replace h4 : V 4 = (.int .u64 (((n : Nat) : Int) % (10 : Int))) := h4
        replace h5 : V 5 = (.int .u64 ((48 : Int) + (((n : Nat) : Int) % (10 : Int)))) := h5
        replace h6 : V 6 = (.int .u8 ((48 : Int) + (((n : Nat) : Int) % (10 : Int)))) := h6
        obtain ⟨b2, h7, hle2, hk2⟩ := h7
        replace h8 : V 8 = (.string (strOfNums [((48 : Int) + (((n : Nat) : Int) % (10 : Int)))])) := h8
        replace h9 : V 9 = (.string ((nS ((n / 10))) ++ (strOfNums [((48 : Int) + (((n : Nat) : Int) % (10 : Int)))]))) := h9
        replace hb := hb.trans (hC.mono hb.size)
        exact Runs.does (r_assign (congrArg some h9)) ⟨Below.refl _ _, rfl, nofr rfl⟩
      trivial
    · skip
      clear hf fa; intro V w2 fa he2 hp hnb hf
      have hv0 : V 0 = (.int .u64 ((n : Nat) : Int)) := postsHold_at hp 0 rfl
      have hv1 : V 1 = (.int .u64 (((n / 10) : Nat) : Int)) := postsHold_at hp 1 rfl
      have hv2 : V 2 = (.string (nS ((n / 10)))) := postsHold_at hp 2 rfl
      have hv3 : V 3 = (.int .u64 ((n : Nat) : Int)) := postsHold_at hp 3 rfl
      have hv4 : V 4 = (.int .u64 (((n : Nat) : Int) % (10 : Int))) := postsHold_at hp 4 rfl
      have hv5 : V 5 = (.int .u64 ((48 : Int) + (((n : Nat) : Int) % (10 : Int)))) := postsHold_at hp 5 rfl
      have hv6 : V 6 = (.int .u8 ((48 : Int) + (((n : Nat) : Int) % (10 : Int)))) := postsHold_at hp 6 rfl
      have hv7 := postsHold_at hp 7 rfl
      obtain ⟨b2, hv7, hle2, hk2⟩ := hv7
      have hBb2 : w.heap.size ≤ b2 := Nat.le_trans hb.size hle2
      have hv8 : V 8 = (.string (strOfNums [((48 : Int) + (((n : Nat) : Int) % (10 : Int)))])) := postsHold_at hp 8 rfl
      have hv9 : V 9 = (.string ((nS ((n / 10))) ++ (strOfNums [((48 : Int) + (((n : Nat) : Int) % (10 : Int)))]))) := postsHold_at hp 9 rfl
      have hv10 : V 10 = (.string ((nS ((n / 10))) ++ (strOfNums [((48 : Int) + (((n : Nat) : Int) % (10 : Int)))]))) := postsHold_at hp 10 rfl
      simp only [List.take_succ_cons, List.take_zero, insAll, ins, hv0, hv1, hv2, hv3, hv4, hv5, hv6, hv7, hv8, hv9, hv10] at hf
      clear hp hnb hv0 hv1 hv2 hv3 hv4 hv5 hv6 hv7 hv8 hv9 hv10
      replace hb := hb.trans (Below.mono he2 hb.size)
      (try simp only [Exit.then, Exit.inBlock, ↓reduceIte, Nat.reduceEqDiff])
      refine hK5 _ _ ?_
      refine wp_ret ?_
      (try simp only [Exit.then, Exit.inBlock])
      refine ret1 hf rfl rfl ?_
      refine ⟨?_, hb⟩; rw [nS_ge (by omega)]

theorem natural_any (n : Nat) : ∀ (w : World) (h : n < 18446744073709551616), Calls Tryd.prog 75 #[.int .u64 ((n : Nat) : Int)] w fun e w' => e = .returned (.string (nS n)) ∧ Below w.heap.size w w' := by
  induction n using Nat.strongRecOn with
  | _ n ih => exact fun w h => natural_aux n (fun m hm w h => ih m hm w h) w h

set_option maxHeartbeats 1000000 in
set_option maxRecDepth 100000 in
theorem digits_any (n : Int) (w : World) (h : inI n) : Calls Tryd.prog 50 #[(.int .i64 n)] w fun e w' => e = .returned (.string (dS n)) ∧ Below w.heap.size w w' := by
  unfold inI at h
  refine sx_enter (L := [(0, (.int .i64 n))]) Tryd.func50 rfl rfl rfl rfl (fun fa hf => ?_)
  have hb : Below w.heap.size w w := Below.refl _ _
  refine wp_seq_k (fun K1 hK1 => ?_)
  refine wp_region_lit ?_
  refine sqv hf (r_assign rfl) rfl rfl rfl ?_; clear hf fa; intro fa hf
  apply wpList_nil
  (try simp only [Exit.then, Exit.inBlock, ↓reduceIte, Nat.reduceEqDiff])
  refine hK1 _ _ ?_
  refine wp_seq_k (fun K2 hK2 => ?_)
  refine wp_seq_k (fun K3 hK3 => ?_)
  refine wp_region_lit ?_
  refine sqv hf (r_move rfl) rfl rfl rfl ?_; clear hf fa; intro fa hf
  refine sqv hf (r_lt rfl rfl) rfl rfl rfl ?_; clear hf fa; intro fa hf
  apply wpList_nil
  (try simp only [Exit.then, Exit.inBlock, ↓reduceIte, Nat.reduceEqDiff])
  refine hK3 _ _ ?_
  refine wp_cond_split (t := (decide (n < (0 : Int)))) (hf.ev rfl) (fun hqt4_1 => ?_) (fun hqt4_1 => ?_)
  · have hqt4_1b := hqt4_1
    try simp only [decide_eq_true_eq, Bool.and_eq_true, Bool.or_eq_true, Bool.not_eq_true', decide_eq_false_iff_not, ne_eq, Bool.not_eq_true] at hqt4_1
    refine wp_seq_k (fun K4 hK4 => ?_)
    refine wp_region_lit ?_
    refine sqv hf (r_move rfl) rfl rfl rfl ?_; clear hf fa; intro fa hf
    refine sqv hf (r_neg (C := (if n = -9223372036854775808 then n else -n)) rfl (by rw [IntKind.wrap_i64]; split <;> omega)) rfl rfl rfl ?_; clear hf fa; intro fa hf
    refine sqv hf (r_conv (C := ((n.natAbs : Nat) : Int)) rfl Tryd.underlying3 Tryd.underlying22 (by rw [IntKind.wrap_u64]; split <;> omega)) rfl rfl rfl ?_; clear hf fa; intro fa hf
    refine sqdt hf (d_callB (vs := [(.int .u64 ((n.natAbs : Nat) : Int))]) rfl Tryd.func75 (by kernel_rfl) (by kernel_rfl) (natural_any n.natAbs _ (by omega))) rfl rfl rfl ?_; clear hf fa; rintro fa _ w1 ⟨rfl, he1⟩ hf
    replace hb := hb.trans (Below.mono he1 hb.size)
    refine sqv hf (r_sadd rfl rfl (by have : ((⟨#[45]⟩) : ByteArray).size = 1 := rfl; have := nS_len (n := n.natAbs) (by omega); omega)) rfl rfl rfl ?_; clear hf fa; intro fa hf
    refine sqv hf (r_assign rfl) rfl rfl rfl ?_; clear hf fa; intro fa hf
    apply wpList_nil
    (try simp only [Exit.then, Exit.inBlock, ↓reduceIte, Nat.reduceEqDiff])
    refine hK4 _ _ ?_
    refine wp_ret ?_
    (try simp only [Exit.then, Exit.inBlock])
    refine ret1 hf rfl rfl ?_
    refine ⟨?_, hb⟩; rw [dS_neg (by omega)]
  · have hqt4_1b := hqt4_1
    replace hqt4_1 := Bool.eq_false_iff.1 hqt4_1
    try simp only [ne_eq, decide_eq_true_eq, Bool.and_eq_true, Bool.or_eq_true, Bool.not_eq_true', decide_eq_false_iff_not] at hqt4_1
    refine wp_skip ?_
    (try simp only [Exit.then, Exit.inBlock, ↓reduceIte, Nat.reduceEqDiff])
    refine hK2 _ _ ?_
    refine wp_seq_k (fun K5 hK5 => ?_)
    refine wp_region_lit ?_
    refine sqv hf (r_move rfl) rfl rfl rfl ?_; clear hf fa; intro fa hf
    refine sqv hf (r_conv (C := ((n.natAbs : Nat) : Int)) rfl Tryd.underlying3 Tryd.underlying22 (by rw [IntKind.wrap_u64]; omega)) rfl rfl rfl ?_; clear hf fa; intro fa hf
    refine sqdt hf (d_callB (vs := [(.int .u64 ((n.natAbs : Nat) : Int))]) rfl Tryd.func75 (by kernel_rfl) (by kernel_rfl) (natural_any n.natAbs _ (by omega))) rfl rfl rfl ?_; clear hf fa; rintro fa _ w2 ⟨rfl, he2⟩ hf
    replace hb := hb.trans (Below.mono he2 hb.size)
    refine sqv hf (r_assign rfl) rfl rfl rfl ?_; clear hf fa; intro fa hf
    apply wpList_nil
    (try simp only [Exit.then, Exit.inBlock, ↓reduceIte, Nat.reduceEqDiff])
    refine hK5 _ _ ?_
    refine wp_ret ?_
    (try simp only [Exit.then, Exit.inBlock])
    refine ret1 hf rfl rfl ?_
    refine ⟨?_, hb⟩; rw [dS_pos (by omega)]

end Go.Proofs.YtpalmpfkliepfaaDoor

namespace Go.Proofs.YtpalmpfkliepfaaDoor
open Go.Shelf Go.RowKit Go.Lib
def sh_lays103_ren : Go.Shelf.Ren := ⟨fun | 103 => 79 | 210 => 92 | 206 => 83 | n => n, fun | 9 => 9 | 4 => 4 | 24 => 85 | 3 => 3 | n => n, fun | n => n⟩
theorem sh_lays103 : Go.Proofs.Lays.n103 Tryd.prog sh_lays103_ren := {
  mixed := by kernel_rfl
  f103 := Tryd.func79.trans (congrArg some (by kernel_rfl))
  f206 := Tryd.func83.trans (congrArg some (by kernel_rfl))
  f210 := Tryd.func92.trans (congrArg some (by kernel_rfl))
  t3 := Tryd.underlying3
  a3 := Tryd.isAgg3
  z3 := Tryd.sizeOf3
  v3 := Tryd.zeroValue3
  t4 := Tryd.underlying4
  a4 := Tryd.isAgg4
  z4 := Tryd.sizeOf4
  v4 := Tryd.zeroValue4
  t9 := Tryd.underlying9
  a9 := Tryd.isAgg9
  z9 := Tryd.sizeOf9
  v9 := Tryd.zeroValue9
  t24 := Tryd.underlying85
  a24 := Tryd.isAgg85
  z24 := Tryd.sizeOf85
  v24 := Tryd.zeroValue85 }
theorem sh_strings_CutPrefix (s p : ByteArray) (w : World) :
    Calls Tryd.prog 79 #[.string s, .string p] w fun e w' => e = .returned (.tuple #[.string ⟨(Lib.trimPrefix s.data.toList p.data.toList).toArray⟩, .bool (Lib.hasPrefix s.data.toList p.data.toList)]) ∧ w' = w := Any.strings_CutPrefix sh_lays103 s p w
def sh_lays143_ren : Go.Shelf.Ren := ⟨fun | 143 => 78 | 219 => 91 | 217 => 97 | 225 => 98 | 224 => 99 | 267 => 100 | 266 => 103 | 314 => 104 | n => n, fun | 9 => 9 | 3 => 3 | 4 => 4 | 5 => 5 | 46 => 98 | 146 => 128 | 51 => 62 | n => n, fun | 1 => 0 | n => n⟩
theorem sh_lays143 : Go.Proofs.Lays.n143 Tryd.prog sh_lays143_ren := {
  mixed := by kernel_rfl
  f143 := Tryd.func78.trans (congrArg some (by kernel_rfl))
  f217 := Tryd.func97.trans (congrArg some (by kernel_rfl))
  f219 := Tryd.func91.trans (congrArg some (by kernel_rfl))
  f224 := Tryd.func99.trans (congrArg some (by kernel_rfl))
  f225 := Tryd.func98.trans (congrArg some (by kernel_rfl))
  f266 := Tryd.func103.trans (congrArg some (by kernel_rfl))
  f267 := Tryd.func100.trans (congrArg some (by kernel_rfl))
  f314 := Tryd.func104.trans (congrArg some (by kernel_rfl))
  t3 := Tryd.underlying3
  a3 := Tryd.isAgg3
  z3 := Tryd.sizeOf3
  v3 := Tryd.zeroValue3
  t4 := Tryd.underlying4
  a4 := Tryd.isAgg4
  z4 := Tryd.sizeOf4
  v4 := Tryd.zeroValue4
  t5 := Tryd.underlying5
  a5 := Tryd.isAgg5
  z5 := Tryd.sizeOf5
  v5 := Tryd.zeroValue5
  t9 := Tryd.underlying9
  a9 := Tryd.isAgg9
  z9 := Tryd.sizeOf9
  v9 := Tryd.zeroValue9
  t46 := Tryd.underlying98
  a46 := Tryd.isAgg98
  z46 := Tryd.sizeOf98
  v46 := Tryd.zeroValue98
  t51 := Tryd.underlying62
  a51 := Tryd.isAgg62
  z51 := Tryd.sizeOf62
  v51 := Tryd.zeroValue62
  t146 := Tryd.underlying128
  a146 := Tryd.isAgg128
  z146 := Tryd.sizeOf128
  v146 := Tryd.zeroValue128
  g1 := by kernel_rfl }
theorem sh_strings_Index_one (s : ByteArray) (c : UInt8) (w : World) :
    Calls Tryd.prog 78 #[.string s, .string ⟨#[c]⟩] w fun e w' => e = .returned (.int .i64 (Lib.indexByte s.data.toList c)) ∧ w' = w := Any.strings_Index_one sh_lays143 s c w
def sh_lays138_ren : Go.Shelf.Ren := ⟨fun | 138 => 77 | 195 => 89 | 218 => 90 | 143 => 78 | 219 => 91 | 217 => 97 | 225 => 98 | 224 => 99 | 267 => 100 | 266 => 103 | 314 => 104 | n => n, fun | 9 => 9 | 3 => 3 | 4 => 4 | 5 => 5 | 0 => 0 | 46 => 98 | 146 => 128 | 51 => 62 | n => n, fun | 1 => 0 | n => n⟩
theorem sh_lays138 : Go.Proofs.Lays.n138 Tryd.prog sh_lays138_ren := {
  mixed := by kernel_rfl
  f138 := Tryd.func77.trans (congrArg some (by kernel_rfl))
  f143 := Tryd.func78.trans (congrArg some (by kernel_rfl))
  f195 := Tryd.func89.trans (congrArg some (by kernel_rfl))
  f217 := Tryd.func97.trans (congrArg some (by kernel_rfl))
  f218 := Tryd.func90.trans (congrArg some (by kernel_rfl))
  f219 := Tryd.func91.trans (congrArg some (by kernel_rfl))
  f224 := Tryd.func99.trans (congrArg some (by kernel_rfl))
  f225 := Tryd.func98.trans (congrArg some (by kernel_rfl))
  f266 := Tryd.func103.trans (congrArg some (by kernel_rfl))
  f267 := Tryd.func100.trans (congrArg some (by kernel_rfl))
  f314 := Tryd.func104.trans (congrArg some (by kernel_rfl))
  t0 := Tryd.underlying0
  a0 := Tryd.isAgg0
  z0 := Tryd.sizeOf0
  v0 := Tryd.zeroValue0
  t3 := Tryd.underlying3
  a3 := Tryd.isAgg3
  z3 := Tryd.sizeOf3
  v3 := Tryd.zeroValue3
  t4 := Tryd.underlying4
  a4 := Tryd.isAgg4
  z4 := Tryd.sizeOf4
  v4 := Tryd.zeroValue4
  t5 := Tryd.underlying5
  a5 := Tryd.isAgg5
  z5 := Tryd.sizeOf5
  v5 := Tryd.zeroValue5
  t9 := Tryd.underlying9
  a9 := Tryd.isAgg9
  z9 := Tryd.sizeOf9
  v9 := Tryd.zeroValue9
  t46 := Tryd.underlying98
  a46 := Tryd.isAgg98
  z46 := Tryd.sizeOf98
  v46 := Tryd.zeroValue98
  t51 := Tryd.underlying62
  a51 := Tryd.isAgg62
  z51 := Tryd.sizeOf62
  v51 := Tryd.zeroValue62
  t146 := Tryd.underlying128
  a146 := Tryd.isAgg128
  z146 := Tryd.sizeOf128
  v146 := Tryd.zeroValue128
  g1 := by kernel_rfl }
theorem sh_strings_Count_one (s : ByteArray) (c : UInt8) (w : World) :
    Calls Tryd.prog 77 #[.string s, .string ⟨#[c]⟩] w fun e w' => e = .returned (.int .i64 (Lib.countByte s.data.toList c)) ∧ w' = w := Any.strings_Count_one sh_lays138 s c w
def sh_lays221_ren : Go.Shelf.Ren := ⟨fun | 221 => 53 | 268 => 76 | 138 => 77 | 143 => 78 | 195 => 89 | 197 => 87 | 218 => 90 | 219 => 91 | 260 => 95 | 217 => 97 | 225 => 98 | 224 => 99 | 267 => 100 | 266 => 103 | 314 => 104 | n => n, fun | 9 => 9 | 3 => 3 | 31 => 43 | 4 => 4 | 0 => 0 | 105 => 133 | 21 => 21 | 5 => 5 | 46 => 98 | 119 => 142 | 139 => 145 | 138 => 144 | 146 => 128 | 51 => 62 | n => n, fun | 1 => 0 | 3 => 1 | 4 => 2 | n => n⟩
theorem sh_lays221 : Go.Proofs.Lays.n221 Tryd.prog sh_lays221_ren := {
  mixed := by kernel_rfl
  f138 := Tryd.func77.trans (congrArg some (by kernel_rfl))
  f143 := Tryd.func78.trans (congrArg some (by kernel_rfl))
  f195 := Tryd.func89.trans (congrArg some (by kernel_rfl))
  f197 := Tryd.func87.trans (congrArg some (by kernel_rfl))
  f217 := Tryd.func97.trans (congrArg some (by kernel_rfl))
  f218 := Tryd.func90.trans (congrArg some (by kernel_rfl))
  f219 := Tryd.func91.trans (congrArg some (by kernel_rfl))
  f221 := Tryd.func53.trans (congrArg some (by kernel_rfl))
  f224 := Tryd.func99.trans (congrArg some (by kernel_rfl))
  f225 := Tryd.func98.trans (congrArg some (by kernel_rfl))
  f260 := Tryd.func95.trans (congrArg some (by kernel_rfl))
  f266 := Tryd.func103.trans (congrArg some (by kernel_rfl))
  f267 := Tryd.func100.trans (congrArg some (by kernel_rfl))
  f268 := Tryd.func76.trans (congrArg some (by kernel_rfl))
  f314 := Tryd.func104.trans (congrArg some (by kernel_rfl))
  t0 := Tryd.underlying0
  a0 := Tryd.isAgg0
  z0 := Tryd.sizeOf0
  v0 := Tryd.zeroValue0
  t3 := Tryd.underlying3
  a3 := Tryd.isAgg3
  z3 := Tryd.sizeOf3
  v3 := Tryd.zeroValue3
  t4 := Tryd.underlying4
  a4 := Tryd.isAgg4
  z4 := Tryd.sizeOf4
  v4 := Tryd.zeroValue4
  t5 := Tryd.underlying5
  a5 := Tryd.isAgg5
  z5 := Tryd.sizeOf5
  v5 := Tryd.zeroValue5
  t9 := Tryd.underlying9
  a9 := Tryd.isAgg9
  z9 := Tryd.sizeOf9
  v9 := Tryd.zeroValue9
  t21 := Tryd.underlying21
  a21 := Tryd.isAgg21
  z21 := Tryd.sizeOf21
  v21 := Tryd.zeroValue21
  t31 := Tryd.underlying43
  a31 := Tryd.isAgg43
  z31 := Tryd.sizeOf43
  v31 := Tryd.zeroValue43
  t46 := Tryd.underlying98
  a46 := Tryd.isAgg98
  z46 := Tryd.sizeOf98
  v46 := Tryd.zeroValue98
  t51 := Tryd.underlying62
  a51 := Tryd.isAgg62
  z51 := Tryd.sizeOf62
  v51 := Tryd.zeroValue62
  t105 := Tryd.underlying133
  a105 := Tryd.isAgg133
  z105 := Tryd.sizeOf133
  v105 := Tryd.zeroValue133
  t119 := Tryd.underlying142
  a119 := Tryd.isAgg142
  z119 := Tryd.sizeOf142
  t138 := Tryd.underlying144
  a138 := Tryd.isAgg144
  z138 := Tryd.sizeOf144
  v138 := Tryd.zeroValue144
  t139 := Tryd.underlying145
  a139 := Tryd.isAgg145
  z139 := Tryd.sizeOf145
  v139 := Tryd.zeroValue145
  t146 := Tryd.underlying128
  a146 := Tryd.isAgg128
  z146 := Tryd.sizeOf128
  v146 := Tryd.zeroValue128
  g1 := by kernel_rfl
  g3 := by kernel_rfl
  g4 := by kernel_rfl }

end Go.Proofs.YtpalmpfkliepfaaDoor

namespace Go.Proofs.YtpalmpfkliepfaaDoor
open Go.RowKit Ut
set_option linter.unusedVariables false
set_option linter.unusedSimpArgs false

def hasP (s p : ByteArray) : Bool := Lib.hasPrefix s.data.toList p.data.toList
def cutS (s p : ByteArray) : ByteArray := ⟨(Lib.trimPrefix s.data.toList p.data.toList).toArray⟩
theorem toNat_inj8 {a b : UInt8} (h : a.toNat = b.toNat) : a = b := UInt8.toNat_inj.1 h
theorem isPrefixOf_map (a b : List UInt8) : (a.map UInt8.toNat).isPrefixOf (b.map UInt8.toNat) = a.isPrefixOf b := by
  induction a generalizing b with
  | nil => simp
  | cons x a ih =>
    cases b with
    | nil => simp
    | cons y b =>
      simp only [List.map_cons, List.isPrefixOf_cons_cons, ih]
      have : (x.toNat == y.toNat) = (x == y) := by
        by_cases h : x = y
        · subst h; simp
        · have h2 : x.toNat ≠ y.toNat := fun e => h (toNat_inj8 e)
          rw [beq_false_of_ne h, beq_false_of_ne h2]
      rw [this]
theorem hasP_bl (s p : ByteArray) : hasP s p = (bl p).isPrefixOf (bl s) := by unfold hasP Lib.hasPrefix bl; rw [isPrefixOf_map]
theorem cutS_bl (s p : ByteArray) : bl (cutS s p) = if hasP s p = true then (bl s).drop p.size else bl s := by
  unfold cutS hasP Lib.trimPrefix bl
  cases h : Lib.hasPrefix s.data.toList p.data.toList with
  | true => rw [if_pos rfl, if_pos rfl]; simp only; rw [List.map_drop, Array.length_toList]; rfl
  | false => simp
theorem cutS_len (s p : ByteArray) : (cutS s p).size ≤ s.size := by
  rw [← bl_length, ← bl_length, cutS_bl]
  split
  · rw [List.length_drop]; omega
  · omega
theorem hasP_one (s : ByteArray) (c : UInt8) : hasP s ⟨#[c]⟩ = decide ((bl s).head? = some c.toNat) := by
  rw [hasP_bl, show bl (⟨#[c]⟩ : ByteArray) = [c.toNat] from rfl]
  cases bl s with
  | nil => simp
  | cons x l =>
    simp [List.isPrefixOf]
    by_cases h : c.toNat = x
    · rw [h]; simp
    · rw [beq_false_of_ne h]; exact (decide_eq_false (fun e => h e.symm)).symm
theorem cutS_one (s : ByteArray) (c : UInt8) : bl (cutS s ⟨#[c]⟩) = if (bl s).head? = some c.toNat then (bl s).tail else bl s := by
  rw [cutS_bl, hasP_one]
  show (if _ then (bl s).drop 1 else _) = _
  rw [List.drop_one]; simp
theorem cutPrefix_any (s p : ByteArray) (w : World) : Calls Tryd.prog 79 #[.string s, .string p] w fun e w' => e = .returned (.tuple #[.string (cutS s p), .bool (hasP s p)]) ∧ w = w' :=
  (sh_strings_CutPrefix s p w).mono fun e w' h => ⟨h.1, h.2.symm⟩
theorem indexByte_eq (l : List UInt8) (c : UInt8) : Lib.indexByte l c = if (l.map UInt8.toNat).idxOf c.toNat < l.length then (((l.map UInt8.toNat).idxOf c.toNat : Nat) : Int) else -1 := by
  induction l with
  | nil => rfl
  | cons b l ih =>
    rw [Lib.indexByte, ih, List.map_cons, List.idxOf_cons]
    by_cases h : b = c
    · subst h; simp
    · have h1 : (b == c) = false := by simp [h]
      have h2 : (b.toNat == c.toNat) = false := by simp; exact fun e => h (toNat_inj8 e)
      rw [h1, h2]
      simp only [cond_false, Bool.false_eq_true, if_false, List.length_cons]
      by_cases h3 : (l.map UInt8.toNat).idxOf c.toNat < l.length
      · rw [if_pos h3, if_pos (show (l.map UInt8.toNat).idxOf c.toNat + 1 < l.length + 1 by omega), if_neg (by simp)]; rfl
      · rw [if_neg h3, if_neg (show ¬ (l.map UInt8.toNat).idxOf c.toNat + 1 < l.length + 1 by omega)]; simp
def cntB (s : ByteArray) (c : Nat) : Nat := (bl s).count c
end Go.Proofs.YtpalmpfkliepfaaDoor

namespace Go.Proofs.YtpalmpfkliepfaaDoor
open Go.RowKit Ut
set_option linter.unusedVariables false
set_option linter.unusedSimpArgs false
theorem bl_get {u : ByteArray} {k : Nat} (h : k < u.size) : (bl u)[k]? = some (sbt u k) := by
  have h2 : k < (bl u).length := by rw [bl_length]; exact h
  rw [List.getElem?_eq_getElem h2, ← bl_sbt u k h, List.getD_eq_getElem?_getD, List.getElem?_eq_getElem h2]; rfl
theorem bl_take {u : ByteArray} {k : Nat} (h : k < u.size) : (bl u).take (k + 1) = (bl u).take k ++ [sbt u k] := by
  rw [List.take_add_one, bl_get h]; rfl
theorem bl_head {u : ByteArray} (h : 0 < u.size) : (bl u).head? = some (sbt u 0) := by rw [List.head?_eq_getElem?, bl_get h]
theorem bl_nil {u : ByteArray} : bl u = [] ↔ u.size = 0 := by rw [← bl_length, List.length_eq_zero_iff]
theorem emp_iff {u : ByteArray} : u = ⟨#[]⟩ ↔ u.size = 0 := by rw [← bl_nil]; exact ⟨fun h => by rw [h]; rfl, fun h => bl_inj h⟩
theorem numT_bad0 {lo : Bool} {u : ByteArray} (h : u.size = 0 ∨ 19 < u.size) : numT lo (bl u) = (0, false) := by
  unfold numT
  rw [if_pos]
  rcases h with h | h
  · exact .inl (bl_nil.2 h)
  · exact .inr (.inl (by rw [bl_length]; exact h))
theorem numT_bad3 {lo : Bool} {u : ByteArray} (h0 : 0 < u.size) (h : sbt u 0 = 48) (h2 : lo = true ∨ 1 < u.size) : numT lo (bl u) = (0, false) := by
  unfold numT
  rw [if_pos]
  exact .inr (.inr ⟨by rw [bl_head h0, h], by rw [bl_length]; exact h2⟩)
theorem numT_bad4 {lo : Bool} {u : ByteArray} {k : Nat} (h0 : k < u.size) (h : ¬ (48 ≤ sbt u k ∧ sbt u k ≤ 57)) : numT lo (bl u) = (0, false) := by
  unfold numT
  split
  · rfl
  · rw [if_neg (fun h2 => h (h2 _ (List.mem_of_getElem? (bl_get h0))))]
theorem numT_go {lo : Bool} {u : ByteArray} {v : Nat} (h0 : ¬ u.size = 0) (h1 : ¬ 19 < u.size) (h2 : ¬ (sbt u 0 = 48 ∧ (lo = true ∨ 1 < u.size))) (hd : ∀ c ∈ bl u, 48 ≤ c ∧ c ≤ 57) (hv : v = valL (bl u)) :
    numT lo (bl u) = if lo = true ∧ v ≤ 9223372036854775808 then (-(v : Int), true) else if lo = false ∧ v < 9223372036854775808 then ((v : Int), true) else (0, false) := by
  unfold numT
  rw [if_neg, if_pos hd, hv]
  rintro (h3 | h3 | ⟨h3, h4⟩)
  · exact h0 (bl_nil.1 h3)
  · rw [bl_length] at h3; exact h1 h3
  · rw [bl_head (by omega)] at h3
    rw [bl_length] at h4
    exact h2 ⟨Option.some.inj h3, h4⟩
theorem numP_cut {s u : ByteArray} {lo : Bool} (hu : cutS s ⟨#[45]⟩ = u) (hlo : hasP s ⟨#[45]⟩ = lo) : numP (bl s) = numT lo (bl u) := by
  have h1 : bl (cutS s ⟨#[45]⟩) = if (bl s).head? = some 45 then (bl s).tail else bl s := cutS_one s 45
  have h2 : hasP s ⟨#[45]⟩ = decide ((bl s).head? = some 45) := hasP_one s 45
  rw [hu] at h1
  rw [hlo] at h2
  unfold numP
  rw [h1, h2]
  by_cases h : (bl s).head? = some 45
  · rw [if_pos h, if_pos h, decide_eq_true h]
  · rw [if_neg h, if_neg h, decide_eq_false h]

set_option maxHeartbeats 1000000 in
set_option maxRecDepth 100000 in
theorem number_any (s : ByteArray) (w : World) (hs : s.size ≤ 100000) : Calls Tryd.prog 80 #[(.string s)] w fun e w' => e = .returned (.tuple #[.int .i64 (numP (bl s)).1, .bool (numP (bl s)).2]) ∧ Below w.heap.size w w' := by
  obtain ⟨u, hu⟩ : ∃ u, cutS s ⟨#[45]⟩ = u := ⟨_, rfl⟩
  obtain ⟨lo, hlo⟩ : ∃ lo, hasP s ⟨#[45]⟩ = lo := ⟨_, rfl⟩
  have hul := cutS_len s ⟨#[45]⟩; rw [hu] at hul
  have hnum := numP_cut hu hlo
  refine sx_enter (L := [(0, (.string s))]) Tryd.func80 rfl rfl rfl rfl (fun fa hf => ?_)
  have hb : Below w.heap.size w w := Below.refl _ _
  refine wp_seq_k (fun K1 hK1 => ?_)
  refine wp_region_lit ?_
  refine sqv hf (r_assign rfl) rfl rfl rfl ?_; clear hf fa; intro fa hf
  refine sqv hf (r_assign rfl) rfl rfl rfl ?_; clear hf fa; intro fa hf
  apply wpList_nil
  (try simp only [Exit.then, Exit.inBlock, ↓reduceIte, Nat.reduceEqDiff])
  refine hK1 _ _ ?_
  refine wp_seq_k (fun K2 hK2 => ?_)
  refine wp_region_lit ?_
  refine sqv hf (r_move rfl) rfl rfl rfl ?_; clear hf fa; intro fa hf
  refine sqdt hf (d_callS (vs := [(.string s), (.string ⟨#[45]⟩)]) rfl Tryd.func79 (by kernel_rfl) (by kernel_rfl) (by have h := cutPrefix_any s ⟨#[45]⟩ w; rw [hu, hlo] at h; exact h)) rfl rfl rfl ?_; clear hf fa; rintro fa _ _ ⟨rfl, rfl⟩ hf
  refine sqv hf (r_move rfl) rfl rfl rfl ?_; clear hf fa; intro fa hf
  refine sqv hf (r_extract rfl (i := 0) rfl) rfl rfl rfl ?_; clear hf fa; intro fa hf
  refine sqv hf (r_extract rfl (i := 1) rfl) rfl rfl rfl ?_; clear hf fa; intro fa hf
  refine sqv hf (r_assign rfl) rfl rfl rfl ?_; clear hf fa; intro fa hf
  refine sqv hf (r_assign rfl) rfl rfl rfl ?_; clear hf fa; intro fa hf
  apply wpList_nil
  (try simp only [Exit.then, Exit.inBlock, ↓reduceIte, Nat.reduceEqDiff])
  refine hK2 _ _ ?_
  refine wp_seq_k (fun K3 hK3 => ?_)
  refine wp_region_lit ?_
  refine sqv hf (r_assign rfl) rfl rfl rfl ?_; clear hf fa; intro fa hf
  apply wpList_nil
  (try simp only [Exit.then, Exit.inBlock, ↓reduceIte, Nat.reduceEqDiff])
  refine hK3 _ _ ?_
  refine wp_seq_k (fun K4 hK4 => ?_)
  refine wp_seq_k (fun K5 hK5 => ?_)
  by_cases hsp1 : u.size = 0
  · have hsp1b : decide (u.size = 0) = true := decide_eq_true hsp1
    refine wp_region_lit ?_
    refine sqv hf (r_move rfl) rfl rfl rfl ?_; clear hf fa; intro fa hf
    refine sqv hf (Runs.veq (r_seq rfl rfl) (congrArg Value.bool (show _ = true from (decide_eq_true (emp_iff.2 hsp1))))) rfl rfl rfl ?_; clear hf fa; intro fa hf
    refine sqv hf (r_move rfl) rfl rfl rfl ?_; clear hf fa; intro fa hf
    refine sqgF (act := false) (ag := true) (c := true) (v := .bool false) hf rfl rfl rfl (fun hact => by cases hact) rfl rfl ?_; clear hf fa; intro fa hf
    refine sqgF (act := false) (ag := true) (c := true) (v := .bool false) hf rfl rfl rfl (fun hact => by cases hact) rfl rfl ?_; clear hf fa; intro fa hf
    refine sqgF (act := false) (ag := true) (c := true) (v := .bool false) hf rfl rfl rfl (fun hact => by cases hact) rfl rfl ?_; clear hf fa; intro fa hf
    refine sqv hf (r_pick (b := true) rfl rfl rfl rfl) rfl rfl rfl ?_; clear hf fa; intro fa hf
    refine sqv hf (r_move rfl) rfl rfl rfl ?_; clear hf fa; intro fa hf
    refine sqgF (act := false) (ag := true) (c := true) (v := .bool false) hf rfl rfl rfl (fun hact => by cases hact) rfl rfl ?_; clear hf fa; intro fa hf
    refine sqgF (act := false) (ag := true) (c := true) (v := .bool false) hf rfl rfl rfl (fun hact => by cases hact) rfl rfl ?_; clear hf fa; intro fa hf
    refine sqgF (act := false) (ag := true) (c := true) (v := .bool false) hf rfl rfl rfl (fun hact => by cases hact) rfl rfl ?_; clear hf fa; intro fa hf
    refine sqgF (act := false) (ag := true) (c := true) (v := .bool false) hf rfl rfl rfl (fun hact => by cases hact) rfl rfl ?_; clear hf fa; intro fa hf
    refine sqgT (act := false) (ag := false) (c := false) (v := .bool false) hf rfl rfl rfl (fun hact => by cases hact) rfl rfl ?_; clear hf fa; intro fa hf
    refine sqgT (act := false) (ag := false) (c := false) (v := .bool false) hf rfl rfl rfl (fun hact => by cases hact) rfl rfl ?_; clear hf fa; intro fa hf
    refine sqgF (act := false) (ag := false) (c := false) (v := .bool false) hf rfl rfl rfl (fun hact => by cases hact) rfl rfl ?_; clear hf fa; intro fa hf
    refine sqgF (act := false) (ag := false) (c := false) (v := .bool false) hf rfl rfl rfl (fun hact => by cases hact) rfl rfl ?_; clear hf fa; intro fa hf
    refine sqgF (act := false) (ag := false) (c := false) (v := .bool false) hf rfl rfl rfl (fun hact => by cases hact) rfl rfl ?_; clear hf fa; intro fa hf
    refine sqgT (act := false) (ag := false) (c := false) (v := .bool false) hf rfl rfl rfl (fun hact => by cases hact) rfl rfl ?_; clear hf fa; intro fa hf
    refine sqgF (act := false) (ag := true) (c := true) (v := .bool false) hf rfl rfl rfl (fun hact => by cases hact) rfl rfl ?_; clear hf fa; intro fa hf
    refine sqv hf (r_pick (b := true) rfl rfl rfl rfl) rfl rfl rfl ?_; clear hf fa; intro fa hf
    apply wpList_nil
    (try simp only [Exit.then, Exit.inBlock, ↓reduceIte, Nat.reduceEqDiff])
    refine hK5 _ _ ?_
    refine wp_cond_true (hf.ev rfl) ?_
    refine wp_seq_k (fun K6 hK6 => ?_)
    refine wp_region_lit ?_
    refine sqv hf (r_assign rfl) rfl rfl rfl ?_; clear hf fa; intro fa hf
    refine sqv hf (r_assign rfl) rfl rfl rfl ?_; clear hf fa; intro fa hf
    apply wpList_nil
    (try simp only [Exit.then, Exit.inBlock, ↓reduceIte, Nat.reduceEqDiff])
    refine hK6 _ _ ?_
    refine wp_ret ?_
    (try simp only [Exit.then, Exit.inBlock])
    refine ret2 hf rfl rfl rfl ?_
    rw [hnum, numT_bad0 (.inl hsp1)]; exact ⟨rfl, hb⟩
  · have hsp1b : decide (u.size = 0) = false := decide_eq_false hsp1
    refine wp_region_lit ?_
    refine sqv hf (r_move rfl) rfl rfl rfl ?_; clear hf fa; intro fa hf
    refine sqv hf (Runs.veq (r_seq rfl rfl) (congrArg Value.bool (show _ = false from (decide_eq_false (fun e => hsp1 (emp_iff.1 e)))))) rfl rfl rfl ?_; clear hf fa; intro fa hf
    refine sqv hf (r_move rfl) rfl rfl rfl ?_; clear hf fa; intro fa hf
    refine sqgd (act := true) (g := 2) (want := false) (ag := true) (c := false) hf (by rfl) (by rfl) rfl (fun _ =>  Runs.does (R := fun vq wq => vq = (.string u) ∧ w = wq) (r_move rfl) ⟨rfl, rfl⟩) (fun h => by cases h) rfl ?_; clear hf fa; rintro fa _ _ ⟨rfl, rfl⟩ hf
    change Fr _ _ ((16, (.string u)) :: _) at hf
    refine sqgd (act := true) (g := 2) (want := false) (ag := true) (c := false) hf (by rfl) (by rfl) rfl (fun _ =>  Runs.does (R := fun vq wq => vq = (.int .i64 ((u.size : Nat) : Int)) ∧ w = wq) (r_lens rfl Tryd.underlying9) ⟨rfl, rfl⟩) (fun h => by cases h) rfl ?_; clear hf fa; rintro fa _ _ ⟨rfl, rfl⟩ hf
    change Fr _ _ ((17, (.int .i64 ((u.size : Nat) : Int))) :: _) at hf
    refine sqgd (act := true) (g := 2) (want := false) (ag := true) (c := false) hf (by rfl) (by rfl) rfl (fun _ =>  Runs.does (R := fun vq wq => vq = (.bool (decide ((19 : Int) < ((u.size : Nat) : Int)))) ∧ w = wq) (r_gt rfl rfl) ⟨rfl, rfl⟩) (fun h => by cases h) rfl ?_; clear hf fa; rintro fa _ _ ⟨rfl, rfl⟩ hf
    change Fr _ _ ((18, (.bool (decide ((19 : Int) < ((u.size : Nat) : Int))))) :: _) at hf
    refine sqv hf (r_pick (b := false) rfl rfl rfl rfl) rfl rfl rfl ?_; clear hf fa; intro fa hf
    refine sqv hf (r_move rfl) rfl rfl rfl ?_; clear hf fa; intro fa hf
    refine sqgF (act := (!(decide ((19 : Int) < ((u.size : Nat) : Int))))) (ag := true) (c := (decide ((19 : Int) < ((u.size : Nat) : Int)))) (v := (.string u)) hf rfl rfl rfl (fun hact => (r_move rfl)) rfl rfl ?_; clear hf fa; intro fa hf
    refine sqgF (act := (!(decide ((19 : Int) < ((u.size : Nat) : Int))))) (ag := true) (c := (decide ((19 : Int) < ((u.size : Nat) : Int)))) (v := (.int .u8 ((sbt u 0 : Nat) : Int))) hf rfl rfl rfl (fun hact => (by have hact0 := hact; (try simp only [Bool.and_eq_true, Bool.not_eq_true', Bool.or_eq_false_iff, Bool.or_eq_true, Bool.and_eq_false_iff, ne_eq, decide_eq_true_eq, decide_eq_false_iff_not] at hact0); exact (r_sindexD (j := 0) (gb_ev hact rfl) rfl Tryd.underlying9 rfl (by omega)))) rfl rfl ?_; clear hf fa; intro fa hf
    refine sqgF (act := (!(decide ((19 : Int) < ((u.size : Nat) : Int))))) (ag := true) (c := (decide ((19 : Int) < ((u.size : Nat) : Int)))) (v := (.bool (decide (((sbt u 0 : Nat) : Int) = (48 : Int))))) hf rfl rfl rfl (fun hact => (r_eq (gb_ev hact rfl) rfl)) rfl rfl ?_; clear hf fa; intro fa hf
    refine sqgF (act := (!(decide ((19 : Int) < ((u.size : Nat) : Int))))) (ag := true) (c := (decide ((19 : Int) < ((u.size : Nat) : Int)))) (v := (.bool (decide (((sbt u 0 : Nat) : Int) = (48 : Int))))) hf rfl rfl rfl (fun hact => (r_move (gb_ev hact rfl))) rfl rfl ?_; clear hf fa; intro fa hf
    refine sqgT (act := ((!(decide ((19 : Int) < ((u.size : Nat) : Int)))) && (decide (((sbt u 0 : Nat) : Int) = (48 : Int))))) (ag := (!(decide ((19 : Int) < ((u.size : Nat) : Int))))) (c := (decide (((sbt u 0 : Nat) : Int) = (48 : Int)))) (v := (.bool lo)) hf rfl rfl rfl (fun hact => (r_move rfl)) rfl rfl ?_; clear hf fa; intro fa hf
    refine sqgT (act := ((!(decide ((19 : Int) < ((u.size : Nat) : Int)))) && (decide (((sbt u 0 : Nat) : Int) = (48 : Int))))) (ag := (!(decide ((19 : Int) < ((u.size : Nat) : Int))))) (c := (decide (((sbt u 0 : Nat) : Int) = (48 : Int)))) (v := (.bool lo)) hf rfl rfl rfl (fun hact => (r_move (gb_ev hact rfl))) rfl rfl ?_; clear hf fa; intro fa hf
    refine sqgF (act := (((!(decide ((19 : Int) < ((u.size : Nat) : Int)))) && (decide (((sbt u 0 : Nat) : Int) = (48 : Int)))) && !lo)) (ag := ((!(decide ((19 : Int) < ((u.size : Nat) : Int)))) && (decide (((sbt u 0 : Nat) : Int) = (48 : Int))))) (c := lo) (v := (.string u)) hf rfl rfl rfl (fun hact => (r_move rfl)) rfl rfl ?_; clear hf fa; intro fa hf
    refine sqgF (act := (((!(decide ((19 : Int) < ((u.size : Nat) : Int)))) && (decide (((sbt u 0 : Nat) : Int) = (48 : Int)))) && !lo)) (ag := ((!(decide ((19 : Int) < ((u.size : Nat) : Int)))) && (decide (((sbt u 0 : Nat) : Int) = (48 : Int))))) (c := lo) (v := (.int .i64 ((u.size : Nat) : Int))) hf rfl rfl rfl (fun hact => (r_lens (gb_ev hact rfl) Tryd.underlying9)) rfl rfl ?_; clear hf fa; intro fa hf
    refine sqgF (act := (((!(decide ((19 : Int) < ((u.size : Nat) : Int)))) && (decide (((sbt u 0 : Nat) : Int) = (48 : Int)))) && !lo)) (ag := ((!(decide ((19 : Int) < ((u.size : Nat) : Int)))) && (decide (((sbt u 0 : Nat) : Int) = (48 : Int))))) (c := lo) (v := (.bool (decide ((1 : Int) < ((u.size : Nat) : Int))))) hf rfl rfl rfl (fun hact => (r_gt (gb_ev hact rfl) rfl)) rfl rfl ?_; clear hf fa; intro fa hf
    refine sqgT (act := ((!(decide ((19 : Int) < ((u.size : Nat) : Int)))) && (decide (((sbt u 0 : Nat) : Int) = (48 : Int))))) (ag := (!(decide ((19 : Int) < ((u.size : Nat) : Int))))) (c := (decide (((sbt u 0 : Nat) : Int) = (48 : Int)))) (v := (.bool (lo || (decide ((1 : Int) < ((u.size : Nat) : Int)))))) hf rfl rfl rfl (fun hact => (r_pickO2 (q := ((!(decide ((19 : Int) < ((u.size : Nat) : Int)))) && (decide (((sbt u 0 : Nat) : Int) = (48 : Int))))) (b := lo) (e := (decide ((1 : Int) < ((u.size : Nat) : Int)))) hact rfl rfl rfl)) rfl rfl ?_; clear hf fa; intro fa hf
    refine sqgF (act := (!(decide ((19 : Int) < ((u.size : Nat) : Int))))) (ag := true) (c := (decide ((19 : Int) < ((u.size : Nat) : Int)))) (v := (.bool ((decide (((sbt u 0 : Nat) : Int) = (48 : Int))) && (lo || (decide ((1 : Int) < ((u.size : Nat) : Int))))))) hf rfl rfl rfl (fun hact => (r_pickA2 (q := (!(decide ((19 : Int) < ((u.size : Nat) : Int))))) (b := (decide (((sbt u 0 : Nat) : Int) = (48 : Int)))) (e := (lo || (decide ((1 : Int) < ((u.size : Nat) : Int))))) hact rfl rfl rfl)) rfl rfl ?_; clear hf fa; intro fa hf
    refine sqv hf (r_pickO (b := (decide ((19 : Int) < ((u.size : Nat) : Int)))) (e := ((decide (((sbt u 0 : Nat) : Int) = (48 : Int))) && (lo || (decide ((1 : Int) < ((u.size : Nat) : Int)))))) rfl rfl rfl) rfl rfl rfl ?_; clear hf fa; intro fa hf
    apply wpList_nil
    (try simp only [Exit.then, Exit.inBlock, ↓reduceIte, Nat.reduceEqDiff])
    refine hK5 _ _ ?_
    refine wp_cond_split (t := ((decide ((19 : Int) < ((u.size : Nat) : Int))) || ((decide (((sbt u 0 : Nat) : Int) = (48 : Int))) && (lo || (decide ((1 : Int) < ((u.size : Nat) : Int))))))) (hf.ev rfl) (fun hqt32_2 => ?_) (fun hqt32_2 => ?_)
    · have hqt32_2b := hqt32_2
      try simp only [decide_eq_true_eq, Bool.and_eq_true, Bool.or_eq_true, Bool.not_eq_true', decide_eq_false_iff_not, ne_eq, Bool.not_eq_true] at hqt32_2
      refine wp_seq_k (fun K7 hK7 => ?_)
      refine wp_region_lit ?_
      refine sqv hf (r_assign rfl) rfl rfl rfl ?_; clear hf fa; intro fa hf
      refine sqv hf (r_assign rfl) rfl rfl rfl ?_; clear hf fa; intro fa hf
      apply wpList_nil
      (try simp only [Exit.then, Exit.inBlock, ↓reduceIte, Nat.reduceEqDiff])
      refine hK7 _ _ ?_
      refine wp_ret ?_
      (try simp only [Exit.then, Exit.inBlock])
      refine ret2 hf rfl rfl rfl ?_
      rw [hnum, show numT lo (bl u) = (0, false) from by rcases hqt32_2 with h | ⟨h1, h2⟩; exact numT_bad0 (.inr (by omega)); exact numT_bad3 (by omega) (by omega) (h2.imp id (by omega))]; exact ⟨rfl, hb⟩
    · have hqt32_2b := hqt32_2
      replace hqt32_2 := Bool.eq_false_iff.1 hqt32_2
      try simp only [ne_eq, decide_eq_true_eq, Bool.and_eq_true, Bool.or_eq_true, Bool.not_eq_true', decide_eq_false_iff_not] at hqt32_2
      refine wp_skip ?_
      (try simp only [Exit.then, Exit.inBlock, ↓reduceIte, Nat.reduceEqDiff])
      refine hK4 _ _ ?_
      refine wp_seq_k (fun K8 hK8 => ?_)
      refine wp_seq_k (fun K9 hK9 => ?_)
      refine wp_region_lit ?_
      refine sqv hf (r_move rfl) rfl rfl rfl ?_; clear hf fa; intro fa hf
      refine sqv hf (r_lens rfl Tryd.underlying9) rfl rfl rfl ?_; clear hf fa; intro fa hf
      refine sqv hf (r_move rfl) rfl rfl rfl ?_; clear hf fa; intro fa hf
      apply wpList_nil
      (try simp only [Exit.then, Exit.inBlock, ↓reduceIte, Nat.reduceEqDiff])
      refine hK9 _ _ ?_
      refine wp_block ?_
      refine wp_loop_k (fun mq fa wr => ∃ (k : Nat) (v : Nat), mq = u.size - k ∧ Fr 75 fa [(4, (.string u)), (5, (.bool lo)), (6, (.int .u64 ((v : Nat) : Int))), (34, (.int .i64 ((u.size : Nat) : Int))), (35, (.int .i64 ((k : Nat) : Int)))] ∧ Below w.heap.size w wr ∧ (k ≤ u.size) ∧ (v = valL ((bl u).take k)) ∧ (∀ c ∈ (bl u).take k, 48 ≤ c ∧ c ≤ 57) ∧ (v < 10 ^ k)) ?_ ?_
      · skip
        exact ⟨_, 0, 0, rfl, hf.sub ⟨rfl, rfl, (some_int (by first | rfl | omega)), rfl, (some_int (by first | rfl | omega)), trivial⟩, hb, by omega, rfl, (by intro c hc; cases hc), by decide⟩
      · skip
        clear hf fa; intro mq1 fa w1 hI KL1 hKL1
        clear hb
        obtain ⟨k, v, hmq1, hf, hb, hk, hv, hd, hvb⟩ := hI
        refine wp_seq_k (fun K10 hK10 => ?_)
        refine wp_region_lit ?_
        refine sqv hf (r_lt rfl rfl) rfl rfl rfl ?_; clear hf fa; intro fa hf
        apply wpList_nil
        (try simp only [Exit.then, Exit.inBlock, ↓reduceIte, Nat.reduceEqDiff])
        refine hK10 _ _ ?_
        refine wp_seq_k (fun K11 hK11 => ?_)
        refine wp_cond_split (t := (decide (((k : Nat) : Int) < ((u.size : Nat) : Int)))) (hf.ev rfl) (fun hqt36_1 => ?_) (fun hqt36_1 => ?_)
        · have hqt36_1b := hqt36_1
          try simp only [decide_eq_true_eq, Bool.and_eq_true, Bool.or_eq_true, Bool.not_eq_true', decide_eq_false_iff_not, ne_eq, Bool.not_eq_true] at hqt36_1
          refine wp_skip ?_
          (try simp only [Exit.then, Exit.inBlock, ↓reduceIte, Nat.reduceEqDiff])
          refine hK11 _ _ ?_
          refine wp_seq_k (fun K12 hK12 => ?_)
          refine wp_block ?_
          refine wp_seq_k (fun K13 hK13 => ?_)
          refine wp_region_lit ?_
          refine sqv hf (r_move rfl) rfl rfl rfl ?_; clear hf fa; intro fa hf
          refine sqv hf (r_assign rfl) rfl rfl rfl ?_; clear hf fa; intro fa hf
          apply wpList_nil
          (try simp only [Exit.then, Exit.inBlock, ↓reduceIte, Nat.reduceEqDiff])
          refine hK13 _ _ ?_
          refine wp_seq_k (fun K14 hK14 => ?_)
          refine wp_seq_k (fun K15 hK15 => ?_)
          have hsb := sbt_lt u k
          refine wp_region_lit ?_
          refine sqv hf (r_move rfl) rfl rfl rfl ?_; clear hf fa; intro fa hf
          refine sqv hf (r_move rfl) rfl rfl rfl ?_; clear hf fa; intro fa hf
          refine sqv hf (r_sindexD (j := k) rfl rfl Tryd.underlying9 rfl (by omega)) rfl rfl rfl ?_; clear hf fa; intro fa hf
          refine sqv hf (r_lt rfl rfl) rfl rfl rfl ?_; clear hf fa; intro fa hf
          refine sqv hf (r_move rfl) rfl rfl rfl ?_; clear hf fa; intro fa hf
          refine sqgF (act := (!(decide (((sbt u k : Nat) : Int) < (48 : Int))))) (ag := true) (c := (decide (((sbt u k : Nat) : Int) < (48 : Int)))) (v := (.string u)) hf rfl rfl rfl (fun hact => (r_move rfl)) rfl rfl ?_; clear hf fa; intro fa hf
          refine sqgF (act := (!(decide (((sbt u k : Nat) : Int) < (48 : Int))))) (ag := true) (c := (decide (((sbt u k : Nat) : Int) < (48 : Int)))) (v := (.int .i64 ((k : Nat) : Int))) hf rfl rfl rfl (fun hact => (r_move rfl)) rfl rfl ?_; clear hf fa; intro fa hf
          refine sqgF (act := (!(decide (((sbt u k : Nat) : Int) < (48 : Int))))) (ag := true) (c := (decide (((sbt u k : Nat) : Int) < (48 : Int)))) (v := (.int .u8 ((sbt u k : Nat) : Int))) hf rfl rfl rfl (fun hact => (by have hact0 := hact; (try simp only [Bool.and_eq_true, Bool.not_eq_true', Bool.or_eq_false_iff, Bool.or_eq_true, Bool.and_eq_false_iff, ne_eq, decide_eq_true_eq, decide_eq_false_iff_not] at hact0); exact (r_sindexD (j := k) (gb_ev hact rfl) (gb_ev hact rfl) Tryd.underlying9 rfl (by omega)))) rfl rfl ?_; clear hf fa; intro fa hf
          refine sqgF (act := (!(decide (((sbt u k : Nat) : Int) < (48 : Int))))) (ag := true) (c := (decide (((sbt u k : Nat) : Int) < (48 : Int)))) (v := (.bool (decide ((57 : Int) < ((sbt u k : Nat) : Int))))) hf rfl rfl rfl (fun hact => (r_gt (gb_ev hact rfl) rfl)) rfl rfl ?_; clear hf fa; intro fa hf
          refine sqv hf (r_pickO (b := (decide (((sbt u k : Nat) : Int) < (48 : Int)))) (e := (decide ((57 : Int) < ((sbt u k : Nat) : Int)))) rfl rfl rfl) rfl rfl rfl ?_; clear hf fa; intro fa hf
          apply wpList_nil
          (try simp only [Exit.then, Exit.inBlock, ↓reduceIte, Nat.reduceEqDiff])
          refine hK15 _ _ ?_
          refine wp_cond_split (t := ((decide (((sbt u k : Nat) : Int) < (48 : Int))) || (decide ((57 : Int) < ((sbt u k : Nat) : Int))))) (hf.ev rfl) (fun hqt47_1 => ?_) (fun hqt47_1 => ?_)
          · have hqt47_1b := hqt47_1
            try simp only [decide_eq_true_eq, Bool.and_eq_true, Bool.or_eq_true, Bool.not_eq_true', decide_eq_false_iff_not, ne_eq, Bool.not_eq_true] at hqt47_1
            refine wp_seq_k (fun K16 hK16 => ?_)
            refine wp_region_lit ?_
            refine sqv hf (r_assign rfl) rfl rfl rfl ?_; clear hf fa; intro fa hf
            refine sqv hf (r_assign rfl) rfl rfl rfl ?_; clear hf fa; intro fa hf
            apply wpList_nil
            (try simp only [Exit.then, Exit.inBlock, ↓reduceIte, Nat.reduceEqDiff])
            refine hK16 _ _ ?_
            refine wp_ret ?_
            (try simp only [Exit.then, Exit.inBlock])
            refine ret2 hf rfl rfl rfl ?_
            rw [hnum, numT_bad4 (k := k) (by omega) (by omega)]; exact ⟨rfl, hb⟩
          · have hqt47_1b := hqt47_1
            replace hqt47_1 := Bool.eq_false_iff.1 hqt47_1
            try simp only [ne_eq, decide_eq_true_eq, Bool.and_eq_true, Bool.or_eq_true, Bool.not_eq_true', decide_eq_false_iff_not] at hqt47_1
            refine wp_skip ?_
            (try simp only [Exit.then, Exit.inBlock, ↓reduceIte, Nat.reduceEqDiff])
            refine hK14 _ _ ?_
            have hsb := sbt_lt u k; have hp18 : 10 ^ k ≤ 10 ^ 18 := Nat.pow_le_pow_right (by decide) (by omega)
            refine wp_region_lit ?_
            refine sqv hf (r_move rfl) rfl rfl rfl ?_; clear hf fa; intro fa hf
            refine sqv hf (r_mul (C := (((v : Nat) : Int) * (10 : Int))) rfl rfl (by rw [IntKind.wrap_u64]; omega)) rfl rfl rfl ?_; clear hf fa; intro fa hf
            refine sqv hf (r_move rfl) rfl rfl rfl ?_; clear hf fa; intro fa hf
            refine sqv hf (r_move rfl) rfl rfl rfl ?_; clear hf fa; intro fa hf
            refine sqv hf (r_sindexD (j := k) rfl rfl Tryd.underlying9 rfl (by omega)) rfl rfl rfl ?_; clear hf fa; intro fa hf
            refine sqv hf (r_sub (C := (((sbt u k : Nat) : Int) - (48 : Int))) rfl rfl (by rw [IntKind.wrap_u8]; omega)) rfl rfl rfl ?_; clear hf fa; intro fa hf
            refine sqv hf (r_conv (C := (((sbt u k - 48) : Nat) : Int)) rfl Tryd.underlying5 Tryd.underlying22 (by rw [IntKind.wrap_u64]; omega)) rfl rfl rfl ?_; clear hf fa; intro fa hf
            refine sqv hf (r_add (C := (((v * 10 + (sbt u k - 48)) : Nat) : Int)) rfl rfl (by rw [IntKind.wrap_u64]; omega)) rfl rfl rfl ?_; clear hf fa; intro fa hf
            refine sqv hf (r_assign rfl) rfl rfl rfl ?_; clear hf fa; intro fa hf
            apply wpList_nil
            (try simp only [Exit.then, Exit.inBlock, ↓reduceIte, Nat.reduceEqDiff])
            refine hK12 _ _ ?_
            refine wp_region_lit ?_
            refine sqv hf (r_add (C := (((k : Nat) : Int) + (1 : Int))) rfl rfl (by rw [IntKind.wrap_i64]; omega)) rfl rfl rfl ?_; clear hf fa; intro fa hf
            refine sqv hf (r_move rfl) rfl rfl rfl ?_; clear hf fa; intro fa hf
            apply wpList_nil
            (try simp only [Exit.then, Exit.inBlock, ↓reduceIte, Nat.reduceEqDiff])
            refine hKL1 _ _ _ (by omega) ⟨(k + 1), (v * 10 + (sbt u k - 48)), rfl, hf.sub ⟨rfl, rfl, rfl, rfl, (some_int (by first | rfl | omega)), trivial⟩, hb, by omega, by rw [bl_take (by omega), valL_app, ← hv], (by rw [bl_take (by omega)]; intro c hc; rcases List.mem_append.1 hc with hc | hc; exact hd c hc; simp only [List.mem_singleton] at hc; subst hc; omega), (by rw [Nat.pow_succ]; omega)⟩
        · have hqt36_1b := hqt36_1
          replace hqt36_1 := Bool.eq_false_iff.1 hqt36_1
          try simp only [ne_eq, decide_eq_true_eq, Bool.and_eq_true, Bool.or_eq_true, Bool.not_eq_true', decide_eq_false_iff_not] at hqt36_1
          refine wp_exit ?_
          (try simp only [Exit.then, Exit.inBlock, ↓reduceIte, Nat.reduceEqDiff])
          refine hK8 _ _ ?_
          refine wp_seq_k (fun K17 hK17 => ?_)
          refine wp_block ?_
          refine wp_seq_k (fun K18 hK18 => ?_)
          refine wp_region_lit ?_
          refine sqv hf (r_move rfl) rfl rfl rfl ?_; clear hf fa; intro fa hf
          refine sqv hf (r_move rfl) rfl rfl rfl ?_; clear hf fa; intro fa hf
          refine sqgT (act := lo) (ag := true) (c := lo) (v := (.int .u64 ((v : Nat) : Int))) hf rfl rfl rfl (fun hact => (r_move rfl)) rfl rfl ?_; clear hf fa; intro fa hf
          refine sqgT (act := lo) (ag := true) (c := lo) (v := (.bool (decide (((v : Nat) : Int) ≤ (9223372036854775808 : Int))))) hf rfl rfl rfl (fun hact => (r_le (gb_ev hact rfl) rfl)) rfl rfl ?_; clear hf fa; intro fa hf
          refine sqv hf (r_pickA (b := lo) (e := (decide (((v : Nat) : Int) ≤ (9223372036854775808 : Int)))) rfl rfl rfl) rfl rfl rfl ?_; clear hf fa; intro fa hf
          refine sqv hf (r_assign rfl) rfl rfl rfl ?_; clear hf fa; intro fa hf
          apply wpList_nil
          (try simp only [Exit.then, Exit.inBlock, ↓reduceIte, Nat.reduceEqDiff])
          refine hK18 _ _ ?_
          refine wp_cond_split (t := (lo && (decide (((v : Nat) : Int) ≤ (9223372036854775808 : Int))))) (hf.ev rfl) (fun hqt57_1 => ?_) (fun hqt57_1 => ?_)
          · have hqt57_1b := hqt57_1
            try simp only [decide_eq_true_eq, Bool.and_eq_true, Bool.or_eq_true, Bool.not_eq_true', decide_eq_false_iff_not, ne_eq, Bool.not_eq_true] at hqt57_1
            refine wp_seq_k (fun K19 hK19 => ?_)
            refine wp_region_lit ?_
            refine sqv hf (r_move rfl) rfl rfl rfl ?_; clear hf fa; intro fa hf
            refine sqv hf (r_neg (C := (if v = 0 then 0 else 18446744073709551616 - ((v : Nat) : Int))) rfl (by rw [IntKind.wrap_u64]; split <;> omega)) rfl rfl rfl ?_; clear hf fa; intro fa hf
            refine sqv hf (r_conv (C := (-((v : Nat) : Int))) rfl Tryd.underlying22 Tryd.underlying3 (by rw [IntKind.wrap_i64]; split <;> omega)) rfl rfl rfl ?_; clear hf fa; intro fa hf
            refine sqv hf (r_assign rfl) rfl rfl rfl ?_; clear hf fa; intro fa hf
            refine sqv hf (r_assign rfl) rfl rfl rfl ?_; clear hf fa; intro fa hf
            apply wpList_nil
            (try simp only [Exit.then, Exit.inBlock, ↓reduceIte, Nat.reduceEqDiff])
            refine hK19 _ _ ?_
            refine wp_ret ?_
            (try simp only [Exit.then, Exit.inBlock])
            refine ret2 hf rfl rfl rfl ?_
            have hgo := numT_go (lo := lo) (u := u) (v := v) hsp1 (by omega) (fun h => hqt32_2 (.inr ⟨by omega, h.2.imp id (by omega)⟩)) (by rwa [List.take_of_length_le (by rw [bl_length]; omega)] at hd) (by rwa [List.take_of_length_le (by rw [bl_length]; omega)] at hv)
            rw [hnum, hgo]
            rw [if_pos ⟨hqt57_1.1, by have h := hqt57_1.2; omega⟩]; exact ⟨rfl, hb⟩
          · have hqt57_1b := hqt57_1
            replace hqt57_1 := Bool.eq_false_iff.1 hqt57_1
            try simp only [ne_eq, decide_eq_true_eq, Bool.and_eq_true, Bool.or_eq_true, Bool.not_eq_true', decide_eq_false_iff_not] at hqt57_1
            refine wp_seq_k (fun K20 hK20 => ?_)
            refine wp_region_lit ?_
            refine sqv hf (r_move rfl) rfl rfl rfl ?_; clear hf fa; intro fa hf
            refine sqv hf (r_not rfl) rfl rfl rfl ?_; clear hf fa; intro fa hf
            refine sqv hf (r_move rfl) rfl rfl rfl ?_; clear hf fa; intro fa hf
            refine sqgT (act := (!lo)) (ag := true) (c := (!lo)) (v := (.int .u64 ((v : Nat) : Int))) hf rfl rfl rfl (fun hact => (r_move rfl)) rfl rfl ?_; clear hf fa; intro fa hf
            refine sqgT (act := (!lo)) (ag := true) (c := (!lo)) (v := (.bool (decide (((v : Nat) : Int) < (9223372036854775808 : Int))))) hf rfl rfl rfl (fun hact => (r_lt (gb_ev hact rfl) rfl)) rfl rfl ?_; clear hf fa; intro fa hf
            refine sqv hf (r_pickA (b := (!lo)) (e := (decide (((v : Nat) : Int) < (9223372036854775808 : Int)))) rfl rfl rfl) rfl rfl rfl ?_; clear hf fa; intro fa hf
            refine sqv hf (r_assign rfl) rfl rfl rfl ?_; clear hf fa; intro fa hf
            apply wpList_nil
            (try simp only [Exit.then, Exit.inBlock, ↓reduceIte, Nat.reduceEqDiff])
            refine hK20 _ _ ?_
            refine wp_cond_split (t := ((!lo) && (decide (((v : Nat) : Int) < (9223372036854775808 : Int))))) (hf.ev rfl) (fun hqt66_1 => ?_) (fun hqt66_1 => ?_)
            · have hqt66_1b := hqt66_1
              try simp only [decide_eq_true_eq, Bool.and_eq_true, Bool.or_eq_true, Bool.not_eq_true', decide_eq_false_iff_not, ne_eq, Bool.not_eq_true] at hqt66_1
              refine wp_seq_k (fun K21 hK21 => ?_)
              refine wp_region_lit ?_
              refine sqv hf (r_move rfl) rfl rfl rfl ?_; clear hf fa; intro fa hf
              refine sqv hf (r_conv (C := ((v : Nat) : Int)) rfl Tryd.underlying22 Tryd.underlying3 (by rw [IntKind.wrap_i64]; omega)) rfl rfl rfl ?_; clear hf fa; intro fa hf
              refine sqv hf (r_assign rfl) rfl rfl rfl ?_; clear hf fa; intro fa hf
              refine sqv hf (r_assign rfl) rfl rfl rfl ?_; clear hf fa; intro fa hf
              apply wpList_nil
              (try simp only [Exit.then, Exit.inBlock, ↓reduceIte, Nat.reduceEqDiff])
              refine hK21 _ _ ?_
              refine wp_ret ?_
              (try simp only [Exit.then, Exit.inBlock])
              refine ret2 hf rfl rfl rfl ?_
              have hgo := numT_go (lo := lo) (u := u) (v := v) hsp1 (by omega) (fun h => hqt32_2 (.inr ⟨by omega, h.2.imp id (by omega)⟩)) (by rwa [List.take_of_length_le (by rw [bl_length]; omega)] at hd) (by rwa [List.take_of_length_le (by rw [bl_length]; omega)] at hv)
              rw [hnum, hgo]
              rw [if_neg (fun h => hqt57_1 ⟨h.1, by omega⟩)]
              rw [if_pos ⟨hqt66_1.1, by have h := hqt66_1.2; omega⟩]; exact ⟨rfl, hb⟩
            · have hqt66_1b := hqt66_1
              replace hqt66_1 := Bool.eq_false_iff.1 hqt66_1
              try simp only [ne_eq, decide_eq_true_eq, Bool.and_eq_true, Bool.or_eq_true, Bool.not_eq_true', decide_eq_false_iff_not] at hqt66_1
              refine wp_skip ?_
              (try simp only [Exit.then, Exit.inBlock, ↓reduceIte, Nat.reduceEqDiff])
              refine hK17 _ _ ?_
              refine wp_seq_k (fun K22 hK22 => ?_)
              refine wp_region_lit ?_
              refine sqv hf (r_assign rfl) rfl rfl rfl ?_; clear hf fa; intro fa hf
              refine sqv hf (r_assign rfl) rfl rfl rfl ?_; clear hf fa; intro fa hf
              apply wpList_nil
              (try simp only [Exit.then, Exit.inBlock, ↓reduceIte, Nat.reduceEqDiff])
              refine hK22 _ _ ?_
              refine wp_ret ?_
              (try simp only [Exit.then, Exit.inBlock])
              refine ret2 hf rfl rfl rfl ?_
              have hgo := numT_go (lo := lo) (u := u) (v := v) hsp1 (by omega) (fun h => hqt32_2 (.inr ⟨by omega, h.2.imp id (by omega)⟩)) (by rwa [List.take_of_length_le (by rw [bl_length]; omega)] at hd) (by rwa [List.take_of_length_le (by rw [bl_length]; omega)] at hv)
              rw [hnum, hgo]
              rw [if_neg (fun h => hqt57_1 ⟨h.1, by omega⟩)]
              rw [if_neg (fun h => hqt66_1 ⟨h.1, by omega⟩)]; exact ⟨rfl, hb⟩
end Go.Proofs.YtpalmpfkliepfaaDoor
