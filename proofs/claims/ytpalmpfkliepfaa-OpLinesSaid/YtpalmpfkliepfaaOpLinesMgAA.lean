/- What is proved here: numbers as digits, and back: plain lists of numbers, no program. What is proved here: bytes as hex digits, and back; a line cut at the blanks that stand outside quotes: plain lists of numbers, no program. What is proved here: plain laws of signs and their bytes. What is proved here: what the functions of the package utf, and the document's of them, come to. What is proved here: what Right, Count and the document's Bytes, First, Count come to. What is proved here: what Count, and the document's Bytes, First and Count, come to. What is proved here: what the document's Bytes, First and Count come to. What is proved here: what the document's First and Count come to. What is proved here: a slice appended to a row of the call's own. What is proved here: plain laws of names shown and read. What is proved here: what Show, of the program and of the document, comes to. -/
import Derived.Test.YtpalmpfkliepfaaProg
import Derived.WalkKit
import Derived.WalkLawsBesides
import Derived.WalkSpells
import Derived.Outline
import Derived.Laws.BytesArg
import Derived.Deep.QuietTactic
import Derived.BigQuiet
import Derived.Lib.ConvBytes
import Derived.StillTail
import Derived.Laws.OwnMore
import Derived.Maps.AppendAt
import Derived.Deep.LoopGhost
import Derived.Great.BuildSlice
import Derived.Laws.MakeOwn
import Derived.Deep.Slices
import Derived.OpenShut
import Derived.ChangeSame
namespace Go.Proofs.Ytpalmpfkliepfaa
set_option linter.unusedVariables false
def natB (n : Nat) : List Nat := if h : n < 10 then [48 + n] else natB (n / 10) ++ [48 + n % 10]
termination_by n
decreasing_by omega
def digB (n : Int) : List Nat := if n < 0 then 45 :: natB n.natAbs else natB n.natAbs
def valL (l : List Nat) : Nat := l.foldl (fun a c => a * 10 + (c - 48)) 0
theorem natB_lt {n : Nat} (h : n < 10) : natB n = [48 + n] := by rw [natB, dif_pos h]
theorem natB_ge {n : Nat} (h : ¬ n < 10) : natB n = natB (n / 10) ++ [48 + n % 10] := by rw [natB, dif_neg h]
theorem natB_dig (n : Nat) : ∀ c ∈ natB n, 48 ≤ c ∧ c ≤ 57 := by
  induction n using Nat.strongRecOn with
  | _ n ih =>
    intro c hc
    by_cases h : n < 10
    · rw [natB_lt h] at hc; simp at hc; omega
    · rw [natB_ge h] at hc
      rcases List.mem_append.1 hc with hc | hc
      · exact ih (n / 10) (by omega) c hc
      · simp at hc; omega
theorem natB_ne (n : Nat) : natB n ≠ [] := by
  by_cases h : n < 10
  · rw [natB_lt h]; simp
  · rw [natB_ge h]; simp
theorem valL_app (a : List Nat) (c : Nat) : valL (a ++ [c]) = valL a * 10 + (c - 48) := by simp [valL]
theorem valL_natB (n : Nat) : valL (natB n) = n := by
  induction n using Nat.strongRecOn with
  | _ n ih =>
    by_cases h : n < 10
    · rw [natB_lt h]; simp [valL]
    · rw [natB_ge h, valL_app, ih (n / 10) (by omega)]; omega
theorem hd_app {a b : List Nat} (h : a ≠ []) : (a ++ b).head? = a.head? := by
  cases a with
  | nil => exact absurd rfl h
  | cons x a => rfl
theorem natB_head {n : Nat} (h : 0 < n) : (natB n).head? ≠ some 48 := by
  induction n using Nat.strongRecOn with
  | _ n ih =>
    by_cases h2 : n < 10
    · rw [natB_lt h2]; simp; omega
    · rw [natB_ge h2]
      have := ih (n / 10) (by omega) (by omega)
      rw [hd_app (natB_ne _)]
      exact this
theorem natB_len (k n : Nat) (hk : 0 < k) (h : n < 10 ^ k) : (natB n).length ≤ k := by
  induction k generalizing n with
  | zero => omega
  | succ k ih =>
    by_cases h2 : n < 10
    · rw [natB_lt h2]; simp
    · rw [natB_ge h2, List.length_append]
      have hk0 : 0 < k := by
        rcases Nat.eq_zero_or_pos k with rfl | h3
        · simp at h; omega
        · exact h3
      have := ih (n / 10) hk0 (by rw [Nat.pow_succ] at h; omega)
      simp; omega
theorem valL_pos {l : List Nat} (hd : ∀ c ∈ l, 48 ≤ c ∧ c ≤ 57) (hn : l ≠ []) (hh : l.head? ≠ some 48) : 0 < valL l := by
  have key : ∀ (l : List Nat) (a : Nat), 0 < a → 0 < l.foldl (fun a c => a * 10 + (c - 48)) a := by
    intro l
    induction l with
    | nil => intro a h; exact h
    | cons x l ih => intro a h; exact ih _ (by show 0 < a * 10 + (x - 48); omega)
  cases l with
  | nil => exact absurd rfl hn
  | cons x l =>
    have h1 := hd x List.mem_cons_self
    have : x ≠ 48 := fun e => hh (by rw [e]; rfl)
    exact key l _ (by show 0 < 0 * 10 + (x - 48); omega)
theorem natB_valL (l : List Nat) (hd : ∀ c ∈ l, 48 ≤ c ∧ c ≤ 57) (hn : l ≠ []) (hh : l.head? = some 48 → l.length = 1) : natB (valL l) = l := by
  have key : ∀ (n : Nat) (l : List Nat), l.length = n → (∀ c ∈ l, 48 ≤ c ∧ c ≤ 57) → l ≠ [] → (l.head? = some 48 → l.length = 1) → natB (valL l) = l := by
    intro n
    induction n with
    | zero => intro l hl _ hn; exact absurd (List.length_eq_zero_iff.1 hl) hn
    | succ n ih =>
      intro l hl hd hn hh
      obtain ⟨a, c, rfl⟩ : ∃ a c, l = a ++ [c] := ⟨l.dropLast, l.getLast hn, (List.dropLast_concat_getLast hn).symm⟩
      have hc := hd c (by simp)
      rw [valL_app]
      by_cases ha : a = []
      · subst ha
        simp only [List.nil_append]
        rw [show valL [] = 0 from rfl, natB_lt (by omega)]
        congr 1; omega
      · have hda : ∀ c ∈ a, 48 ≤ c ∧ c ≤ 57 := fun x hx => hd x (List.mem_append_left _ hx)
        have hha : a.head? ≠ some 48 := by
          intro e
          have := hh (by rw [hd_app ha]; exact e)
          rw [List.length_append] at this
          have : a.length = 0 := by simp at this; simp [this]
          exact ha (List.length_eq_zero_iff.1 this)
        have hp := valL_pos hda ha hha
        rw [natB_ge (by omega), show (valL a * 10 + (c - 48)) / 10 = valL a by omega, show (valL a * 10 + (c - 48)) % 10 = c - 48 by omega,
          ih a (by rw [List.length_append] at hl; simpa using hl) hda ha (fun e => absurd e hha)]
        congr 2; omega
  exact key l.length l rfl hd hn hh
theorem natB_no45 (n : Nat) : (natB n).head? ≠ some 45 := by
  intro h
  have := natB_dig n 45 (List.mem_of_mem_head? (by rw [h]; rfl))
  omega
/-- What a text is of digits (as the program reads it). -/
def numT (low : Bool) (t : List Nat) : Int × Bool :=
  if t = [] ∨ 19 < t.length ∨ (t.head? = some 48 ∧ (low = true ∨ 1 < t.length)) then (0, false)
  else if ∀ c ∈ t, 48 ≤ c ∧ c ≤ 57 then
    if low = true ∧ valL t ≤ 9223372036854775808 then (-(valL t : Int), true) else if low = false ∧ valL t < 9223372036854775808 then ((valL t : Int), true) else (0, false)
  else (0, false)
def numP (l : List Nat) : Int × Bool := if l.head? = some 45 then numT true l.tail else numT false l
def inI (n : Int) : Prop := -9223372036854775808 ≤ n ∧ n ≤ 9223372036854775807
theorem numP_dig {n : Int} (h : inI n) : numP (digB n) = (n, true) := by
  unfold inI at h
  have hl : (natB n.natAbs).length ≤ 19 := natB_len 19 _ (by decide) (by omega)
  have hd := natB_dig n.natAbs
  have hv := valL_natB n.natAbs
  unfold numP digB
  by_cases hn : n < 0
  · rw [if_pos hn, if_pos (show (45 :: natB n.natAbs).head? = some 45 from rfl), List.tail_cons]
    have hh := natB_head (n := n.natAbs) (by omega)
    unfold numT
    rw [if_neg, if_pos hd, if_pos ⟨rfl, by omega⟩, hv]
    · congr 1; omega
    · rintro (h1 | h1 | h1)
      · exact natB_ne _ h1
      · omega
      · exact hh h1.1
  · rw [if_neg hn, if_neg (natB_no45 _)]
    unfold numT
    rw [if_neg, if_pos hd, if_neg (by simp), if_pos ⟨rfl, by omega⟩, hv]
    · congr 1; omega
    · rintro (h1 | h1 | ⟨h1, h2⟩)
      · exact natB_ne _ h1
      · omega
      · rcases h2 with h2 | h2
        · cases h2
        · rcases Nat.eq_zero_or_pos n.natAbs with h3 | h3
          · rw [h3, natB_lt (by decide)] at h2; simp at h2
          · exact natB_head h3 h1
theorem numT_yes {low : Bool} {t : List Nat} {n : Int} (h : numT low t = (n, true)) : inI n ∧ natB n.natAbs = t ∧ (n < 0 ↔ low = true) := by
  unfold numT at h
  split at h
  · cases h
  · rename_i h1
    split at h
    · rename_i h2
      have ht : t ≠ [] := fun e => h1 (.inl e)
      have hh : t.head? = some 48 → t.length = 1 := by
        intro e
        rcases Nat.lt_or_ge 1 t.length with h3 | h3
        · exact absurd (.inr (.inr ⟨e, .inr h3⟩)) h1
        · have := List.length_pos_iff.2 ht; omega
      have hnb := natB_valL t h2 ht hh
      split at h
      · rename_i h3
        obtain ⟨hlow, hle⟩ := h3
        have hp := valL_pos h2 ht (fun e => h1 (.inr (.inr ⟨e, .inl hlow⟩)))
        simp only [Prod.mk.injEq, and_true] at h
        subst h
        unfold inI
        exact ⟨by omega, by rw [Int.natAbs_neg, Int.natAbs_natCast]; exact hnb, by constructor <;> intro _ <;> first | exact hlow | omega⟩
      · split at h
        · rename_i h4
          obtain ⟨hlow, hle⟩ := h4
          simp only [Prod.mk.injEq, and_true] at h
          subst h
          unfold inI
          refine ⟨by omega, by rw [Int.natAbs_natCast]; exact hnb, ?_⟩
          rw [hlow]
          constructor
          · intro h5; omega
          · intro h5; cases h5
        · cases h
    · cases h
theorem numP_yes {l : List Nat} {n : Int} (h : numP l = (n, true)) : inI n ∧ digB n = l := by
  unfold numP at h
  split at h
  · rename_i h1
    obtain ⟨h2, h3, h4⟩ := numT_yes h
    refine ⟨h2, ?_⟩
    unfold digB
    rw [if_pos (h4.2 rfl), h3]
    cases l with
    | nil => cases h1
    | cons x l => simp only [List.head?_cons, Option.some.injEq] at h1; subst h1; rfl
  · obtain ⟨h2, h3, h4⟩ := numT_yes h
    refine ⟨h2, ?_⟩
    unfold digB
    rw [if_neg (fun e => by have := h4.1 e; cases this), h3]
theorem digB_len {n : Int} (h : inI n) : (digB n).length ≤ 20 := by
  unfold inI at h
  have hl : (natB n.natAbs).length ≤ 19 := natB_len 19 _ (by decide) (by omega)
  unfold digB
  split
  · simp; omega
  · omega
end Go.Proofs.Ytpalmpfkliepfaa

namespace Go.Proofs.Ytpalmpfkliepfaa
set_option linter.unusedVariables false
def hx (n : Nat) : Nat := if n < 10 then 48 + n else 87 + n
def nib (c : Nat) : Int := if 48 ≤ c ∧ c ≤ 57 then (c : Int) - 48 else if 97 ≤ c ∧ c ≤ 102 then (c : Int) - 87 else -1
def hxs (l : List Nat) : List Nat := l.flatMap fun b => [hx (b / 16), hx (b % 16)]
def hexB (l : List Nat) : List Nat := if l = [] then [46] else hxs l
def hexL : List Nat → Option (List Nat)
  | a :: b :: r => if nib a < 0 ∨ nib b < 0 then none else (hexL r).map (((nib a).toNat * 16 + (nib b).toNat) :: ·)
  | _ => some []
def hexP (l : List Nat) : List Nat × Bool := if l = [46] then ([], true) else match hexL l with
  | none => ([], false)
  | some o => (o, decide (0 < l.length) && decide (l.length % 2 = 0))
theorem nib_hx {n : Nat} (h : n < 16) : nib (hx n) = n := by
  unfold nib hx
  by_cases h2 : n < 10
  · rw [if_pos h2, if_pos (by omega)]; omega
  · rw [if_neg h2, if_neg (by omega), if_pos (by omega)]; omega
theorem hx_nib {c : Nat} (h : ¬ nib c < 0) : hx (nib c).toNat = c ∧ (nib c).toNat < 16 := by
  unfold nib at h ⊢
  unfold hx
  by_cases h1 : 48 ≤ c ∧ c ≤ 57
  · rw [if_pos h1, if_pos (by omega)]; omega
  · rw [if_neg h1] at h ⊢
    by_cases h2 : 97 ≤ c ∧ c ≤ 102
    · rw [if_pos h2, if_neg (by omega)]; omega
    · rw [if_neg h2] at h; omega
theorem hx_lt {n : Nat} (h : n < 16) : 48 ≤ hx n ∧ hx n < 103 ∧ hx n ≠ 46 := by unfold hx; split <;> omega
theorem hxs_cons (b : Nat) (l : List Nat) : hxs (b :: l) = hx (b / 16) :: hx (b % 16) :: hxs l := rfl
theorem hxs_app (a b : List Nat) : hxs (a ++ b) = hxs a ++ hxs b := by unfold hxs; rw [List.flatMap_append]
theorem hxs_len (l : List Nat) : (hxs l).length = 2 * l.length := by
  induction l with
  | nil => rfl
  | cons b l ih => rw [hxs_cons]; simp only [List.length_cons, ih]; omega
theorem hexL_hxs : ∀ (o : List Nat), (∀ x ∈ o, x < 256) → hexL (hxs o) = some o
  | [], _ => rfl
  | b :: o, h => by
    have hb := h b List.mem_cons_self
    have n1 := nib_hx (n := b / 16) (by omega)
    have n2 := nib_hx (n := b % 16) (by omega)
    rw [hxs_cons, hexL, if_neg (by omega), hexL_hxs o (fun x hx => h x (List.mem_cons_of_mem _ hx)), n1, n2, Option.map_some]
    congr 2; omega
theorem hxs_not {o : List Nat} (h : ∀ x ∈ o, x < 256) : hxs o ≠ [46] := by
  intro e
  have := congrArg List.length e
  rw [hxs_len] at this
  simp at this; omega
theorem hexP_hexB (o : List Nat) (h : ∀ x ∈ o, x < 256) : hexP (hexB o) = (o, true) := by
  unfold hexB
  by_cases ho : o = []
  · rw [if_pos ho, ho]; rfl
  · rw [if_neg ho]
    unfold hexP
    have hp := List.length_pos_iff.2 ho
    rw [if_neg (hxs_not h), hexL_hxs o h, hxs_len, decide_eq_true (by omega), decide_eq_true (by omega)]; rfl
theorem hexL_some : ∀ (n : Nat) (l o : List Nat), l.length ≤ n → hexL l = some o → l.length % 2 = 0 → hxs o = l ∧ ∀ x ∈ o, x < 256 := by
  intro n
  induction n with
  | zero =>
    intro l o hl h _
    have : l = [] := List.length_eq_zero_iff.1 (by omega)
    subst this
    simp [hexL] at h
    subst h
    exact ⟨rfl, by simp⟩
  | succ n ih =>
    intro l o hl h he
    match l, h, hl, he with
    | [], h, _, _ => simp [hexL] at h; subst h; exact ⟨rfl, by simp⟩
    | [a], _, _, he => simp at he
    | a :: b :: r, h, hl, he =>
      rw [hexL] at h
      split at h
      · cases h
      · rename_i hn
        cases hr : hexL r with
        | none => rw [hr] at h; cases h
        | some o' =>
          rw [hr] at h
          simp only [Option.map_some, Option.some.injEq] at h
          obtain ⟨h1, h2⟩ := ih r o' (by simp at hl; omega) hr (by simp at he; omega)
          have ha := hx_nib (c := a) (by omega)
          have hb := hx_nib (c := b) (by omega)
          subst h
          refine ⟨?_, ?_⟩
          · rw [hxs_cons, h1, show ((nib a).toNat * 16 + (nib b).toNat) / 16 = (nib a).toNat by omega, show ((nib a).toNat * 16 + (nib b).toNat) % 16 = (nib b).toNat by omega, ha.1, hb.1]
          · intro x hx
            rcases List.mem_cons.1 hx with rfl | hx
            · omega
            · exact h2 x hx
theorem hexP_yes {l : List Nat} (h : (hexP l).2 = true) : hexB (hexP l).1 = l ∧ ∀ x ∈ (hexP l).1, x < 256 := by
  unfold hexP at h ⊢
  by_cases h1 : l = [46]
  · rw [if_pos h1, h1]; exact ⟨rfl, by simp⟩
  · rw [if_neg h1] at h ⊢
    cases ho : hexL l with
    | none => rw [ho] at h; cases h
    | some o =>
      rw [ho] at h
      simp only [Bool.and_eq_true, decide_eq_true_eq] at h
      obtain ⟨h2, h3⟩ := hexL_some l.length l o (Nat.le_refl _) ho h.2
      refine ⟨?_, h3⟩
      show hexB o = l
      unfold hexB
      rw [if_neg, h2]
      rintro rfl
      rw [← h2] at h
      simp [hxs] at h
/-- Up to the first blank outside quotes, and what is from there on. -/
def scanF : Bool → List Nat → List Nat × List Nat
  | _, [] => ([], [])
  | q, c :: l => if c = 32 ∧ q = false then ([], c :: l) else ((c :: (scanF (if c = 34 then !q else q) l).1), (scanF (if c = 34 then !q else q) l).2)
theorem scanF_app (q : Bool) (l : List Nat) : (scanF q l).1 ++ (scanF q l).2 = l := by
  induction l generalizing q with
  | nil => rfl
  | cons c l ih =>
    rw [scanF]
    split
    · rfl
    · simp only [List.cons_append, ih]
/-- All pieces of a line (as the document cuts it). -/
def piecesF : Nat → List Nat → List (List Nat)
  | 0, _ => []
  | f + 1, l => match (scanF false l).2 with
    | [] => [(scanF false l).1]
    | _ :: r => (scanF false l).1 :: piecesF f r
def pieces (l : List Nat) : List (List Nat) := piecesF (l.length + 1) l
/-- The pieces, each behind a blank. -/
def joinB : List (List Nat) → List Nat
  | [] => []
  | p :: ps => 32 :: (p ++ joinB ps)
/-- One piece behind a blank (as the program cuts it). -/
def pieceP : List Nat → Option (List Nat × List Nat)
  | 32 :: l => some (scanF false l)
  | _ => none
/-- A piece: no blank outside quotes, and the quotes are closed. -/
def Closed (q : Bool) (p : List Nat) : Prop := ∀ r, (r = [] ∨ r.head? = some 32) → scanF q (p ++ r) = (p, r)
theorem scanF_nil (r : List Nat) (h : r = [] ∨ r.head? = some 32) : scanF false r = ([], r) := by
  rcases h with rfl | h
  · rfl
  · cases r with
    | nil => rfl
    | cons x r => simp only [List.head?_cons, Option.some.injEq] at h; subst h; rfl
theorem closed_nil : Closed false [] := fun r h => scanF_nil r h
theorem closed_cons {q q' : Bool} {c : Nat} {p : List Nat} (h : ¬ (c = 32 ∧ q = false)) (hq : (if c = 34 then !q else q) = q') (hp : Closed q' p) : Closed q (c :: p) := by
  intro r hr
  rw [List.cons_append, scanF, if_neg h, hq, hp r hr]
theorem closed_plain : ∀ (p : List Nat), (∀ c ∈ p, c ≠ 32 ∧ c ≠ 34) → Closed false p
  | [], _ => closed_nil
  | c :: p, h => closed_cons (fun e => (h c List.mem_cons_self).1 e.1) (by rw [if_neg (h c List.mem_cons_self).2]) (closed_plain p (fun x hx => h x (List.mem_cons_of_mem _ hx)))
theorem closed_quoted : ∀ (p : List Nat), (∀ c ∈ p, c ≠ 34) → Closed true (p ++ [34])
  | [], _ => closed_cons (fun e => by cases e.1) rfl closed_nil
  | c :: p, h => closed_cons (fun e => by cases e.2) (by rw [if_neg (h c List.mem_cons_self)]) (closed_quoted p (fun x hx => h x (List.mem_cons_of_mem _ hx)))
theorem closed_quote (p : List Nat) (h : ∀ c ∈ p, c ≠ 34) : Closed false (34 :: (p ++ [34])) := closed_cons (fun e => by cases e.1) rfl (closed_quoted p h)
theorem joinB_head (ps : List (List Nat)) : joinB ps = [] ∨ (joinB ps).head? = some 32 := by cases ps with
  | nil => exact .inl rfl
  | cons p ps => exact .inr rfl
theorem pieceP_join {p : List Nat} {ps : List (List Nat)} (h : Closed false p) : pieceP (joinB (p :: ps)) = some (p, joinB ps) := by
  show some (scanF false (p ++ joinB ps)) = _
  rw [h _ (joinB_head ps)]
end Go.Proofs.Ytpalmpfkliepfaa

namespace Go.Proofs.Ytpalmpfkliepfaa
open Go.RowKit
set_option linter.unusedVariables false
set_option linter.unusedSimpArgs false

theorem hid {p : Prop} (h : p) : Hid p := h

/- A STATEMENT WHOSE ORDER IS OPEN. Each operation i bears a post: a predicate on its value and a world, kept by G. dl: of each operation those that stand before it and whose posts its step may use. Whatever order is drawn, behind it all posts hold. -/

def putAll : List Oper → (Nat → Value) → Nat → Act → Act
  | [], _, _, a => a
  | o :: os, V, i, a => putAll os V (i + 1) (a.put o.dst (V i))

def depsHold (V : Nat → Value) (posts : List (Value → World → Prop)) (w : World) : List Nat → Prop
  | [] => True
  | j :: js => (posts.getD j (fun _ _ => True)) (V j) w ∧ depsHold V posts w js

def rgGoals (P : Program) (ops : Array Oper) (C : World → Prop) (G : World → World → Prop) (all : List (Value → World → Prop)) (V : Nat → Value) :
    List Oper → List (Value → World → Prop) → List (List Nat) → Nat → Act → Prop
  | o :: os, p :: ps, d :: ds, i, a =>
    (∀ w, C w → depsHold V all w d → ∀ K : Act → World → Prop, (∀ v w', G w w' → p v w' → K (a.put o.dst v) w') →
      if Region.wanted o (yielded ops a.tmps) = true then o.wp P a w K (fun _ _ _ => False) else K (a.put o.dst undef) w) ∧
    rgGoals P ops C G all V os ps ds (i + 1) (a.put o.dst (V i))
  | _, _, _, _, _ => True

def postsHold (V : Nat → Value) (w : World) : List (Value → World → Prop) → Nat → Prop
  | [], _ => True
  | p :: ps, i => p (V i) w ∧ postsHold V w ps (i + 1)

def postsKept (G : World → World → Prop) : List (Value → World → Prop) → Prop
  | [] => True
  | p :: ps => (∀ v w w', p v w → G w w' → p v w') ∧ postsKept G ps

/-- j is an operation that must come before the operation o. -/
def pre (o : Oper) (j : Nat) : Bool := o.after.any fun e => e.on == j && Region.binds .any e

def isSelect : Op → Bool
  | .select _ _ => true
  | _ => false

def rgCheckAt (ops : Array Oper) (dl : List (List Nat)) (N : Nat) (i : Nat) (o : Oper) : Bool :=
  o.after.all (fun e => !Region.binds .any e || decide (e.on < i)) &&
  (match o.dst with | some d => decide (d < N) | none => true) &&
  !isSelect o.op &&
  (List.range ops.size).all (fun j => match (ops[j]?) with
    | some oj => (j == i) ||
        (match oj.dst with
         | some t => o.dst != some t && (!(o.looksAt ops).contains t || pre o j || pre oj i)
         | none => true)
    | none => true) &&
  (match o.dst with | some t => !(o.looksAt ops).contains t | none => true) &&
  (dl.getD i []).all (fun j => pre o j)

def rgCheck (ops : Array Oper) (dl : List (List Nat)) (N : Nat) : Bool :=
  decide (dl.length = ops.size) && (List.range ops.size).all (fun i => match ops[i]? with | some o => rgCheckAt ops dl N i o | none => true)


section
variable {P : Program} {ops : Array Oper} {C : World → Prop} {G : World → World → Prop} {posts : List (Value → World → Prop)} {dl : List (List Nat)} {N : Nat} {a0 : Act}

theorem put_get_ne {a : Act} {dst : Option Tmp} {v : Value} {t : Nat} (h : dst ≠ some t) : (a.put dst v).tmps[t]? = a.tmps[t]? := by
  cases dst with
  | none => rfl
  | some d => simp only [Act.put]; exact Array.getElem?_setIfInBounds_ne (fun e => h (by rw [e]))

theorem put_size {a : Act} {dst : Option Tmp} {v : Value} : (a.put dst v).tmps.size = a.tmps.size := by
  cases dst <;> simp [Act.put]

theorem put_defers {a : Act} {dst : Option Tmp} {v : Value} : (a.put dst v).defers = a.defers := by
  cases dst <;> rfl

theorem put_get {a : Act} {v : Value} {t : Nat} (h : t < a.tmps.size) : (a.put (some t) v).tmps[t]? = some v := by
  simp only [Act.put]; exact Array.getElem?_setIfInBounds_self_of_lt h

theorem putAll_size (V : Nat → Value) : ∀ (os : List Oper) (k : Nat) (a : Act), (putAll os V k a).tmps.size = a.tmps.size
  | [], _, _ => rfl
  | o :: os, k, a => (putAll_size V os (k + 1) _).trans put_size

theorem putAll_defers (V : Nat → Value) : ∀ (os : List Oper) (k : Nat) (a : Act), (putAll os V k a).defers = a.defers
  | [], _, _ => rfl
  | o :: os, k, a => (putAll_defers V os (k + 1) _).trans put_defers

theorem putAll_get_none (V : Nat → Value) {t : Nat} : ∀ (os : List Oper) (k : Nat) (a : Act), (∀ (m : Nat) (o : Oper), os[m]? = some o → o.dst ≠ some t) → (putAll os V k a).tmps[t]? = a.tmps[t]?
  | [], _, _, _ => rfl
  | o :: os, k, a, h => (putAll_get_none V os (k + 1) _ (fun m o' hm => h (m + 1) o' (by simpa using hm))).trans (put_get_ne (h 0 o rfl))

theorem putAll_get_some (V : Nat → Value) {t : Nat} : ∀ (os : List Oper) (k : Nat) (a : Act) (m : Nat) (o : Oper), os[m]? = some o → o.dst = some t → t < a.tmps.size →
    (∀ (m' : Nat) (o' : Oper), os[m']? = some o' → m' ≠ m → o'.dst ≠ some t) → (putAll os V k a).tmps[t]? = some (V (k + m))
  | [], _, _, m, o, h, _, _, _ => by simp at h
  | o1 :: os, k, a, 0, o, h, hd, ht, hs => by
    simp at h; subst h
    refine (putAll_get_none V os (k + 1) _ (fun m o' hm => hs (m + 1) o' (by simpa using hm) (by omega))).trans ?_
    rw [hd]; exact put_get ht
  | o1 :: os, k, a, m + 1, o, h, hd, ht, hs => by
    have := putAll_get_some V os (k + 1) (a.put o1.dst (V k)) m o (by simpa using h) hd (by rw [put_size]; exact ht) (fun m' o' hm hne => hs (m' + 1) o' (by simpa using hm) (by omega))
    rw [show k + (m + 1) = k + 1 + m from by omega]; exact this

/-- The goals at number i. -/
theorem rgGoals_at {V : Nat → Value} : ∀ (os : List Oper) (ps : List (Value → World → Prop)) (ds : List (List Nat)) (k : Nat) (a : Act), rgGoals P ops C G posts V os ps ds k a →
    ∀ (m : Nat) (o : Oper) (p : Value → World → Prop) (d : List Nat), os[m]? = some o → ps[m]? = some p → ds[m]? = some d →
    ∀ w, C w → depsHold V posts w d → ∀ K : Act → World → Prop, (∀ v w', G w w' → p v w' → K ((putAll (os.take m) V k a).put o.dst v) w') →
      if Region.wanted o (yielded ops (putAll (os.take m) V k a).tmps) = true then o.wp P (putAll (os.take m) V k a) w K (fun _ _ _ => False) else K ((putAll (os.take m) V k a).put o.dst undef) w
  | [], _, _, _, _, _, m, o, p, d, h, _, _ => by simp at h
  | _ :: _, [], _, _, _, _, m, o, p, d, _, h, _ => by simp at h
  | _ :: _, _ :: _, [], _, _, _, m, o, p, d, _, _, h => by simp at h
  | o1 :: os, p1 :: ps, d1 :: ds, k, a, hg, 0, o, p, d, h1, h2, h3 => by
    simp at h1 h2 h3; subst h1 h2 h3
    exact hg.1
  | o1 :: os, p1 :: ps, d1 :: ds, k, a, hg, m + 1, o, p, d, h1, h2, h3 => by
    exact rgGoals_at os ps ds (k + 1) _ hg.2 m o p d (by simpa using h1) (by simpa using h2) (by simpa using h3)

/-- A step carried over from one frame to another that looks alike to the operation. -/
theorem wp_carry {o : Oper} {a a' : Act} {w : World} {R : Value → World → Prop} {K : Act → World → Prop} {Q : Exit → Act → World → Prop} (he : execOp a'.eval o = execOp a.eval o) (hs : a'.tmps.size = a.tmps.size)
    (h : o.wp P a w (fun b w' => ∃ v, b = a.put o.dst v ∧ R v w') (fun _ _ _ => False)) (hK : ∀ v w', R v w' → K (a'.put o.dst v) w') : o.wp P a' w K Q := by
  have key : ∀ u w', (∃ v, a.put o.dst u = a.put o.dst v ∧ R v w') → K (a'.put o.dst u) w' := by
    rintro u w' ⟨v, h1, h2⟩
    have e : a'.put o.dst u = a'.put o.dst v := by
      cases hd : o.dst with
      | none => rfl
      | some d =>
        rw [hd] at h1
        by_cases hlt : d < a.tmps.size
        · have := congrArg (fun x : Act => x.tmps[d]?) h1
          simp only [put_get hlt] at this
          rw [Option.some.inj this]
        · simp only [Act.put]; rw [Array.setIfInBounds_eq_of_size_le (by rw [hs]; exact Nat.le_of_not_lt hlt), Array.setIfInBounds_eq_of_size_le (by rw [hs]; exact Nat.le_of_not_lt hlt)]
    rw [e]; exact hK v w' h2
  unfold Oper.wp at *
  rw [he]
  generalize (execOp a.eval o).run P w = r at *
  cases r with
  | ok n w' =>
    cases n <;> simp only [Oper.upon] at h ⊢
    case value u => exact key _ _ h
    case skip => exact key _ _ h
    case defer d =>
      obtain ⟨v, h1, _⟩ := h
      have := congrArg Act.defers h1
      rw [put_defers, put_defers] at this
      simp at this
    case enter f args =>
      refine Calls.mono h (fun e w'' he => ?_)
      cases e with
      | returned v => exact key _ _ he
      | panicked c => exact he.elim
      | outgrown => obtain ⟨_, _, h⟩ := he; exact h.elim
    case row r args => exact Rows.mono h (fun v w'' he => key _ _ he)
  | halt x w' => cases x <;> simp only [Oper.upon] at h ⊢

structure RgInv (ops : Array Oper) (C : World → Prop) (posts : List (Value → World → Prop)) (a0 : Act) (V : Nat → Value) (listed : Array Bool) (a : Act) (w : World) : Prop where
  size : listed.size = ops.size
  tmps : a.tmps.size = a0.tmps.size
  defers : a.defers = a0.defers
  c : C w
  got : ∀ (j : Nat) (o : Oper), ops[j]? = some o → listed[j]? = some true → ∀ t, o.dst = some t → a.tmps[t]? = some (V j)
  post : ∀ (j : Nat) (o : Oper), ops[j]? = some o → listed[j]? = some true → (posts.getD j (fun _ _ => True)) (V j) w
  same : ∀ t, (∀ (j : Nat) (o : Oper), ops[j]? = some o → listed[j]? = some true → o.dst ≠ some t) → a.tmps[t]? = a0.tmps[t]?
  down : ∀ (j : Nat) (o : Oper), ops[j]? = some o → listed[j]? = some true → ∀ k, pre o k = true → listed[k]? = some true

theorem pre_spec {o : Oper} {e : Edge} (he : e ∈ o.after) (hb : Region.binds .any e = true) : pre o e.on = true := by
  unfold pre
  rw [Array.any_eq_true']
  exact ⟨e, he, by simp [hb]⟩

theorem pre_mem {o : Oper} {k : Nat} (h : pre o k = true) : ∃ e ∈ o.after, e.on = k ∧ Region.binds .any e = true := by
  unfold pre at h
  rw [Array.any_eq_true'] at h
  obtain ⟨e, he, h2⟩ := h
  simp at h2
  exact ⟨e, he, h2.1, h2.2⟩

structure RgOk (ops : Array Oper) (dl : List (List Nat)) (N : Nat) (i : Nat) (o : Oper) : Prop where
  lt : ∀ k, pre o k = true → k < i
  dst : ∀ d, o.dst = some d → d < N
  sel : ∀ cs b, o.op ≠ .select cs b
  one : ∀ (j : Nat) (oj : Oper), ops[j]? = some oj → j ≠ i → ∀ t, oj.dst = some t → o.dst ≠ some t
  see : ∀ (j : Nat) (oj : Oper), ops[j]? = some oj → j ≠ i → ∀ t, oj.dst = some t → t ∈ o.looksAt ops → pre o j = true ∨ pre oj i = true
  self : ∀ t, o.dst = some t → t ∉ o.looksAt ops
  dl : ∀ j ∈ dl.getD i [], pre o j = true

theorem rgOk_of_check (h : rgCheck ops dl N = true) : dl.length = ops.size ∧ ∀ i o, ops[i]? = some o → RgOk ops dl N i o := by
  unfold rgCheck at h
  simp only [Bool.and_eq_true, decide_eq_true_eq, List.all_eq_true, List.mem_range] at h
  refine ⟨h.1, fun i o ho => ?_⟩
  have hi : i < ops.size := (Array.getElem?_eq_some_iff.1 ho).1
  have hc := h.2 i hi
  rw [ho] at hc
  simp only [rgCheckAt, Bool.and_eq_true, List.all_eq_true, List.mem_range] at hc
  obtain ⟨⟨⟨⟨⟨h1, h2⟩, h3⟩, h4⟩, h5⟩, h6⟩ := hc
  refine ⟨?_, ?_, ?_, ?_, ?_, ?_, h6⟩
  · intro k hk
    obtain ⟨e, he, rfl, hb⟩ := pre_mem hk
    rw [Array.all_eq_true'] at h1
    have := h1 e he
    simpa [hb] using this
  · intro d hd; rw [hd] at h2; simpa using h2
  · intro cs b hs; rw [hs] at h3; simp [isSelect] at h3
  · intro j oj hj hne t ht
    have := h4 j (Array.getElem?_eq_some_iff.1 hj).1
    rw [hj] at this
    simp only [ht, Bool.or_eq_true, beq_iff_eq, hne, false_or, Bool.and_eq_true, bne_iff_ne, ne_eq] at this
    exact this.1
  · intro j oj hj hne t ht hm
    have := h4 j (Array.getElem?_eq_some_iff.1 hj).1
    rw [hj] at this
    simp only [ht, Bool.or_eq_true, beq_iff_eq, hne, false_or, Bool.and_eq_true] at this
    have := this.2
    rw [List.contains_iff_mem.2 hm] at this
    simpa using this
  · intro t ht; rw [ht] at h5; simpa using h5

theorem depsHold_of {V : Nat → Value} {w : World} : ∀ (d : List Nat), (∀ j ∈ d, (posts.getD j (fun _ _ => True)) (V j) w) → depsHold V posts w d
  | [], _ => trivial
  | j :: js, h => ⟨h j (by simp), depsHold_of js (fun k hk => h k (by simp [hk]))⟩

theorem postsHold_of {V : Nat → Value} {w : World} : ∀ (ps : List (Value → World → Prop)) (k : Nat), (∀ (j : Nat) (p : Value → World → Prop), ps[j]? = some p → p (V (k + j)) w) → postsHold V w ps k
  | [], _, _ => trivial
  | p :: ps, k, h => ⟨h 0 p rfl, postsHold_of ps (k + 1) (fun j p hj => by rw [show k + 1 + j = k + (j + 1) from by omega]; exact h (j + 1) p (by simpa using hj))⟩

theorem postsKept_at : ∀ (ps : List (Value → World → Prop)), postsKept G ps → ∀ j v w w', (ps.getD j (fun _ _ => True)) v w → G w w' → (ps.getD j (fun _ _ => True)) v w'
  | [], _, _, _, _, _, _, _ => by simp
  | p :: ps, h, 0, v, w, w', hp, hg => h.1 v w w' hp hg
  | p :: ps, h, j + 1, v, w, w', hp, hg => postsKept_at ps h.2 j v w w' hp hg

theorem RgInv.looks {V : Nat → Value} {listed : Array Bool} {a : Act} {w : World} (hI : RgInv ops C posts a0 V listed a w) (hN : a0.tmps.size = N) (hok : ∀ i o, ops[i]? = some o → RgOk ops dl N i o)
    {i : Nat} {o : Oper} (ho : ops[i]? = some o) (hnl : listed[i]? ≠ some true) (hpre : ∀ k, pre o k = true → listed[k]? = some true) :
    ∀ t ∈ o.looksAt ops, a.tmps[t]? = (putAll (ops.toList.take i) V 0 a0).tmps[t]? := by
  intro t ht
  have hget : ∀ m o', (ops.toList.take i)[m]? = some o' ↔ m < i ∧ ops[m]? = some o' := by
    intro m o'
    rw [List.getElem?_take]
    split <;> simp [*]
  by_cases hex : ∃ (j : Nat) (oj : Oper), ops[j]? = some oj ∧ oj.dst = some t
  · obtain ⟨j, oj, hj, hjd⟩ := hex
    have hji : j ≠ i := by
      rintro rfl
      rw [ho] at hj; cases hj
      exact (hok _ _ ho).self t hjd ht
    have huniq : ∀ (j' : Nat) (o' : Oper), ops[j']? = some o' → o'.dst = some t → j' = j := by
      intro j' o' hj' hd'
      by_cases e : j' = j
      · exact e
      · exact absurd hjd ((hok _ _ hj).one j' o' hj' e t hd')
    rcases (hok _ _ ho).see j oj hj hji t hjd ht with hp | hp
    · rw [hI.got j oj hj (hpre j hp) t hjd]
      have hlt := (hok _ _ ho).lt j hp
      rw [putAll_get_some V _ 0 a0 j oj ((hget j oj).2 ⟨hlt, hj⟩) hjd (by rw [hN]; exact (hok _ _ hj).dst t hjd)
        (fun m' o' hm' hne => fun hd' => hne (huniq m' o' ((hget m' o').1 hm').2 hd'))]
      simp
    · have hlt := (hok _ _ hj).lt i hp
      rw [hI.same t (fun j' o' hj' hl' hd' => by
        obtain rfl := huniq j' o' hj' hd'
        rw [hj] at hj'; cases hj'
        exact hnl (hI.down _ _ hj hl' i hp))]
      rw [putAll_get_none V _ 0 a0 (fun m o' hm hd' => by
        have := huniq m o' ((hget m o').1 hm).2 hd'
        have := ((hget m o').1 hm).1
        omega)]
  · rw [hI.same t (fun j' o' hj' _ hd' => hex ⟨j', o', hj', hd'⟩), putAll_get_none V _ 0 a0 (fun m o' hm hd' => hex ⟨m, o', ((hget m o').1 hm).2, hd'⟩)]

theorem eval_congr_get {a a' : Act} {x : Operand} (h : ∀ t, x = .tmp t → a'.tmps[t]? = a.tmps[t]?) : a'.eval x = a.eval x := by
  cases x with
  | tmp t => simp only [Act.eval, Array.getD_eq_getD_getElem?, h t rfl]
  | _ => rfl

theorem yielded_congr {o : Oper} {a a' : Act} (h : ∀ t ∈ o.looksAt ops, a'.tmps[t]? = a.tmps[t]?) : Region.wanted o (yielded ops a'.tmps) = Region.wanted o (yielded ops a.tmps) := by
  unfold Region.wanted
  cases hg : o.guard with
  | none => rfl
  | some gw =>
    obtain ⟨g, want⟩ := gw
    have : yielded ops a'.tmps g = yielded ops a.tmps g := by
      unfold yielded
      cases ht : (ops[g]?).bind (·.dst) with
      | none => rfl
      | some t =>
        have hm : t ∈ o.looksAt ops := by simp [Oper.looksAt, hg, ht]
        simp [h t hm]
    simp only [this]

theorem Array.get?_setTrue {listed : Array Bool} {i j : Nat} (hi : i < listed.size) : (listed.setIfInBounds i true)[j]? = some true ↔ j = i ∨ listed[j]? = some true := by
  by_cases e : j = i
  · subst e; simp [hi]
  · rw [Array.getElem?_setIfInBounds_ne (Ne.symm e)]; simp [e]

theorem rg_walk {Q : Exit → Act → World → Prop} (hN : a0.tmps.size = N) (hok : ∀ i o, ops[i]? = some o → RgOk ops dl N i o) (hdl : dl.length = ops.size) (hpl : posts.length = ops.size)
    (hC : ∀ w w', C w → G w w' → C w') (hP : postsKept G posts) (hgoals : ∀ V, rgGoals P ops C G posts V ops.toList posts dl 0 a0)
    (hQ : ∀ V w, C w → postsHold V w posts 0 → Q .normal (putAll ops.toList V 0 a0) w) :
    ∀ (fuel : Nat) (listed : Array Bool) (a : Act) (w : World) (V : Nat → Value), (List.range ops.size).countP (fun i => listed[i]? != some true) ≤ fuel → RgInv ops C posts a0 V listed a w → wpAny P .any ops Q fuel listed a w := by
  -- what stands when all is listed
  have fin : ∀ (listed : Array Bool) (a : Act) (w : World) (V : Nat → Value), RgInv ops C posts a0 V listed a w → (∀ i, i < ops.size → listed[i]? = some true) → Q .normal a w := by
    intro listed a w V hI hall
    have ha : a = putAll ops.toList V 0 a0 := by
      have h1 : a.tmps = (putAll ops.toList V 0 a0).tmps := by
        apply Array.ext_getElem?
        intro t
        by_cases hex : ∃ (j : Nat) (oj : Oper), ops[j]? = some oj ∧ oj.dst = some t
        · obtain ⟨j, oj, hj, hjd⟩ := hex
          rw [hI.got j oj hj (hall j (Array.getElem?_eq_some_iff.1 hj).1) t hjd]
          rw [putAll_get_some V _ 0 a0 j oj (by simpa using hj) hjd (by rw [hN]; exact (hok _ _ hj).dst t hjd)
            (fun m' o' hm' hne hd' => (hok _ _ hj).one m' o' (by simpa using hm') hne t hd' hjd)]
          simp
        · rw [hI.same t (fun j' o' hj' _ hd' => hex ⟨j', o', hj', hd'⟩), putAll_get_none V _ 0 a0 (fun m o' hm hd' => hex ⟨m, o', by simpa using hm, hd'⟩)]
      have h2 : a.defers = (putAll ops.toList V 0 a0).defers := hI.defers.trans (putAll_defers V _ _ _).symm
      cases a; simp only at h1 h2; subst h1 h2; rfl
    rw [ha]
    refine hQ V w hI.c (postsHold_of posts 0 (fun j p hj => ?_))
    have hlt : j < ops.size := by rw [← hpl]; exact (List.getElem?_eq_some_iff.1 hj).1
    have := hI.post j ops[j] (Array.getElem?_eq_getElem hlt) (hall j hlt)
    rw [Nat.zero_add]
    simpa [List.getD_eq_getElem?_getD, hj] using this
  -- nothing is ready: all is listed
  have done : ∀ (listed : Array Bool), listed.size = ops.size → Region.ready .any ops listed = [] → ∀ i, i < ops.size → listed[i]? = some true := by
    intro listed hsz hr i
    induction i using Nat.strongRecOn with
    | ind i ih =>
      intro hi
      by_cases h : listed[i]? = some true
      · exact h
      exfalso
      have hmem : i ∈ Region.ready .any ops listed := by
        unfold Region.ready
        rw [List.mem_filter]
        refine ⟨by simpa using hi, ?_⟩
        have hl : listed.getD i true = false := by
          rw [Array.getD_eq_getD_getElem?]
          rw [Array.getElem?_eq_getElem (by omega)] at h ⊢
          simpa using h
        rw [hl, Array.getElem?_eq_getElem hi]
        simp only [Bool.not_false, Bool.true_and, Option.map_some, Option.getD_some]
        rw [Array.all_eq_true']
        intro e he
        by_cases hb : Region.binds .any e = true
        · have hp := pre_spec he hb
          have hlt := (hok _ _ (Array.getElem?_eq_getElem hi)).lt e.on hp
          rw [Array.getD_eq_getD_getElem?, ih e.on hlt (by omega)]
          simp
        · simp [hb]
      rw [hr] at hmem
      exact absurd hmem (by simp)
  intro fuel
  induction fuel with
  | zero =>
    intro listed a w V hc hI
    have hall : ∀ i, i < ops.size → listed[i]? = some true := by
      intro i hi
      have h0 := Nat.le_zero.1 hc
      rw [List.countP_eq_zero] at h0
      simpa using h0 i (by simpa using hi)
    refine ⟨?_, fin listed a w V hI hall⟩
    unfold Region.ready
    rw [List.filter_eq_nil_iff]
    intro i hi
    have := hall i (by simpa using hi)
    rw [Array.getD_eq_getD_getElem?, this]
    simp
  | succ fuel ih =>
    intro listed a w V hc hI
    refine ⟨fun hr => fin listed a w V hI (done listed hI.size hr), fun i hi => ?_⟩
    unfold Region.ready at hi
    rw [List.mem_filter] at hi
    obtain ⟨hir, hi2⟩ := hi
    have hir : i < ops.size := by simpa using hir
    rw [Bool.and_eq_true] at hi2
    obtain ⟨hnl, haft⟩ := hi2
    have hnl' : listed[i]? = some false := by
      rw [Array.getD_eq_getD_getElem?, Array.getElem?_eq_getElem (by rw [hI.size]; exact hir)] at hnl
      rw [Array.getElem?_eq_getElem (by rw [hI.size]; exact hir)]
      simpa using hnl
    have ho : ops[i]? = some ops[i] := Array.getElem?_eq_getElem hir
    have hpre : ∀ k, pre ops[i] k = true → listed[k]? = some true := by
      intro k hk
      obtain ⟨e, he, rfl, hb⟩ := pre_mem hk
      rw [ho, Option.map_some, Option.getD_some, Array.all_eq_true'] at haft
      have := haft e he
      simp only [hb, Bool.not_true, Bool.false_or, Array.getD_eq_getD_getElem?] at this
      have hlt := (hok _ _ ho).lt e.on hk
      rw [Array.getElem?_eq_getElem (by rw [hI.size]; omega)] at this ⊢
      simpa using this
    have hilt : i < listed.size := by rw [hI.size]; exact hir
    -- the step
    have hp : posts[i]? = some (posts.getD i (fun _ _ => True)) := by
      have : i < posts.length := by omega
      simp [this]
    have hd : dl[i]? = some (dl.getD i []) := by
      have : i < dl.length := by omega
      simp [this]
    have hlook := hI.looks hN hok ho (by rw [hnl']; simp) hpre
    have hgo := rgGoals_at ops.toList posts dl 0 a0 (hgoals V) i ops[i] _ _ (by simp) hp hd w hI.c
      (depsHold_of _ (fun j hj => by
        have h1 := hpre j ((hok _ _ ho).dl j hj)
        have hlt : j < ops.size := by have := (hok _ _ ho).lt j ((hok _ _ ho).dl j hj); omega
        exact hI.post j ops[j] (Array.getElem?_eq_getElem hlt) h1))
    -- the invariant behind it
    have hnext : ∀ v w', (C w' ∧ (∀ j v, (posts.getD j (fun _ _ => True)) v w → (posts.getD j (fun _ _ => True)) v w')) → (posts.getD i (fun _ _ => True)) v w' → wpAny P .any ops Q fuel (listed.setIfInBounds i true) (a.put ops[i].dst v) w' := by
      rintro v w' ⟨hc', hkeep⟩ hpv
      refine ih _ _ _ (fun k => if k = i then v else V k) ?_ ?_
      · have hlt : (List.range ops.size).countP (fun k => (listed.setIfInBounds i true)[k]? != some true) < (List.range ops.size).countP (fun k => listed[k]? != some true) := by
          rw [List.countP_eq_length_filter, List.countP_eq_length_filter]
          have hsub : (List.range ops.size).filter (fun k => (listed.setIfInBounds i true)[k]? != some true) = ((List.range ops.size).filter (fun k => listed[k]? != some true)).erase i := by
            rw [(List.Nodup.sublist List.filter_sublist List.nodup_range).erase_eq_filter, List.filter_filter]
            apply List.filter_congr
            intro k hk
            by_cases e : k = i
            · subst e; simp [hilt]
            · rw [Array.getElem?_setIfInBounds_ne (Ne.symm e)]; simp [e]
          rw [hsub, List.length_erase_of_mem (by rw [List.mem_filter]; exact ⟨by simpa using hir, by rw [hnl']; rfl⟩)]
          have : 0 < ((List.range ops.size).filter (fun k => listed[k]? != some true)).length :=
            List.length_pos_of_mem (a := i) (by rw [List.mem_filter]; exact ⟨by simpa using hir, by rw [hnl']; rfl⟩)
          omega
        omega
      · refine ⟨by simp [hI.size], by rw [put_size, hI.tmps], by rw [put_defers, hI.defers], hc', ?_, ?_, ?_, ?_⟩
        · intro j o hj hl t ht
          rcases (Array.get?_setTrue hilt).1 hl with rfl | hl2
          · rw [ho] at hj; cases hj
            simp only [if_true]
            rw [ht]; exact put_get (by rw [hI.tmps, hN]; exact (hok _ _ ho).dst t ht)
          · have hji : j ≠ i := fun e => by rw [e, hnl'] at hl2; cases hl2
            rw [if_neg hji, put_get_ne ((hok _ _ ho).one j o hj hji t ht)]
            exact hI.got j o hj hl2 t ht
        · intro j o hj hl
          rcases (Array.get?_setTrue hilt).1 hl with rfl | hl2
          · simp only [if_true]; exact hpv
          · have hji : j ≠ i := fun e => by rw [e, hnl'] at hl2; cases hl2
            simp only [if_neg hji]
            exact hkeep j _ (hI.post j o hj hl2)
        · intro t ht
          rw [put_get_ne (ht i _ ho ((Array.get?_setTrue hilt).2 (.inl rfl)))]
          exact hI.same t (fun j o hj hl => ht j o hj ((Array.get?_setTrue hilt).2 (.inr hl)))
        · intro j o hj hl k hk
          rw [Array.get?_setTrue hilt]
          rcases (Array.get?_setTrue hilt).1 hl with rfl | hl2
          · rw [ho] at hj; cases hj
            exact .inr (hpre k hk)
          · exact .inr (hI.down j o hj hl2 k hk)
    unfold wpOp
    rw [ho]
    show if Region.wanted ops[i] (yielded ops a.tmps) = true then _ else _
    have hsel := (hok _ _ ho).sel
    have hEx : execOp a.eval ops[i] = execOp (putAll (ops.toList.take i) V 0 a0).eval ops[i] :=
      execOp_congr ops[i] hsel (fun x hx => eval_congr_get (fun t ht => hlook t (by
        subst ht
        exact List.mem_append_left _ (List.mem_filterMap.2 ⟨.tmp t, by simpa using hx, rfl⟩))))
    rw [yielded_congr hlook]
    split
    · rename_i hw
      left
      have hgo := hgo (fun b w' => ∃ v, b = (putAll (ops.toList.take i) V 0 a0).put ops[i].dst v ∧ G w w' ∧ (posts.getD i (fun _ _ => True)) v w') (fun v w' h1 h2 => ⟨v, rfl, h1, h2⟩)
      rw [if_pos hw] at hgo
      exact wp_carry (R := fun v w' => G w w' ∧ (posts.getD i (fun _ _ => True)) v w') hEx (by rw [hI.tmps, putAll_size]) hgo
        (fun v w' ⟨h1, h2⟩ => hnext v w' ⟨hC w w' hI.c h1, fun j v hj => postsKept_at posts hP j v w w' hj h1⟩ h2)
    · rename_i hw
      have hgo := hgo (fun b w' => ∃ v, b = (putAll (ops.toList.take i) V 0 a0).put ops[i].dst v ∧ (C w' ∧ (∀ j v, (posts.getD j (fun _ _ => True)) v w → (posts.getD j (fun _ _ => True)) v w')) ∧ (posts.getD i (fun _ _ => True)) v w')
        (fun v w' h1 h2 => ⟨v, rfl, ⟨hC w w' hI.c h1, fun j v hj => postsKept_at posts hP j v w w' hj h1⟩, h2⟩)
      rw [if_neg hw] at hgo
      obtain ⟨v, h1, h2, h3⟩ := hgo
      have e : a.put ops[i].dst undef = a.put ops[i].dst v := by
        cases hd : ops[i].dst with
        | none => rfl
        | some d =>
          rw [hd] at h1
          have hlt : d < (putAll (ops.toList.take i) V 0 a0).tmps.size := by rw [putAll_size, hN]; exact (hok _ _ ho).dst d hd
          have := congrArg (fun x : Act => x.tmps[d]?) h1
          simp only [put_get hlt] at this
          rw [Option.some.inj this]
      rw [e]
      exact hnext v w h2 h3

theorem wp_region_rg {id : Nat} {Q : Exit → Act → World → Prop} {w0 : World} (C : World → Prop) (G : World → World → Prop) (posts : List (Value → World → Prop)) (dl : List (List Nat)) (N : Nat)
    (hm : P.follows .mixedOrders = true) (hN : a0.tmps.size = N) (hchk : rgCheck ops dl N = true) (hpl : posts.length = ops.size)
    (hC0 : C w0.drew) (hC : ∀ w w', C w → G w w' → C w') (hP : postsKept G posts) (hgoals : ∀ V, rgGoals P ops C G posts V ops.toList posts dl 0 a0)
    (hQ : ∀ V w, C w → postsHold V w posts 0 → Q .normal (putAll ops.toList V 0 a0) w) : (Code.region id ops true).wp P Q a0 w0 := by
  obtain ⟨hdl, hok⟩ := rgOk_of_check hchk
  refine wp_region_any hm (rg_walk hN hok hdl hpl hC hP hgoals hQ ops.size _ a0 _ (fun _ => undef) ?_ ⟨by simp, rfl, rfl, hC0, ?_, ?_, fun _ _ => rfl, ?_⟩)
  · exact Nat.le_trans List.countP_le_length (by simp)
  all_goals
    intro j o hj hl
    simp [Array.getElem?_replicate] at hl
end

/- ONE ELEMENT APPENDED: a fact laid ahead of the walk. -/
theorem push_run {P : Program} {wr : World} {t e bytes : Nat} {z : Value} (ht : P.underlying t = some (.slice e)) (hinfo : (P.info? e).map (fun i => (i.zero, i.size, i.bytes)) = some (some z, 1, bytes)) (hz : z.cells.size = 1) (hb1 : 1 ≤ bytes)
    {base n : Nat} {v u : Value} {xs : List Value} (hown : wr.ownsRow base e 1 v n xs) (h1 : u.oneCell' = true) (hbytes : (n + 1) * bytes ≤ 140737488355328) (hbase : base ≤ wr.heap.size) :
    ∃ v' w', (∀ ty, (Builtin.append_ #[t, t] ty #[v, .slice (some ⟨wr.heap.size, 0, none⟩) 1 1]).run P (wr.alloc (.cells #[u] e)) = .ok v' w') ∧ w'.ownsRow base e 1 v' (n + 1) (xs ++ [u]) ∧ Below base wr w' ∧ wr.heap.size < w'.heap.size := by
  obtain ⟨i, hi, hz0, hs, hby⟩ := info_parts hinfo
  have hle : n + 1 ≤ (n + 1) * bytes := Nat.le_mul_of_pos_right _ hb1
  have key : ∀ ty, ∃ v' w', (Builtin.append_ #[t, t] ty #[v, .slice (some ⟨wr.heap.size, 0, none⟩) 1 1]).run P (wr.alloc (.cells #[u] e)) = .ok v' w' ∧ w'.ownsRow base e 1 v' (n + 1) (xs ++ [u]) ∧ Below base wr w' ∧ wr.heap.size < w'.heap.size := by
    intro ty
    obtain ⟨v', w', hr, h2, h3, _⟩ := run_append_own (P := P) (wr.alloc (.cells #[u] e)) base t ty e i z 1 bytes ht hi hz0 hs hby hz (by decide) v n xs (hown.alloc _)
      ⟨wr.heap.size, 0, none⟩ 1 1 [u] rfl (cell_one_new _ _ _) (by simpa using h1) (by unfold maxLen; omega) hbytes (by simp; omega)
    refine ⟨v', w', hr, h2, ((Below.refl _ _).alloc hbase _).grown h3 (by simp; omega) (fun k hk => (hown.lt k hk).1), ?_⟩
    have := h3.size
    simp at this; omega
  obtain ⟨v', w', hr, h⟩ := key 0
  refine ⟨v', w', fun ty => ?_, h⟩
  rw [← hr]; rfl

theorem wpList_app {P : Program} {w w' : World} {vs vx v' : Value} {t tn : TypeId} (hr : ∀ ty, (Builtin.append_ #[t, tn] ty #[vs, vx]).run P w = .ok v' w') {ops : Array Oper} {rest : List Oper} {o : Oper} {a : Act} {Q : Exit → Act → World → Prop} {s x : Operand}
    (hgd : o.guard = none) (ho : o.op = .call { callee := .builtin .append, args := #[s, x], argTypes := #[t, tn] }) (hs : a.eval s = vs) (hx : a.eval x = vx) (h : wpList P ops Q rest (a.put o.dst v') w') : wpList P ops Q (o :: rest) a w := by
  refine wpList_plain hgd fun K hK => ?_
  unfold Oper.wp execOp
  simp only [ho, resolve, invoke, builtin, Sem.run_bind, Sem.run_pure, Result.andThen_ok, List.map_toArray, List.map_cons, List.map_nil, hs, hx, hr]
  exact hK _ _ h

/- The same as a law of the walk: the element is met from the goal. -/
theorem wpList_push {P : Program} {wr : World} {t e bytes : Nat} {z : Value} (ht : P.underlying t = some (.slice e)) (hinfo : (P.info? e).map (fun i => (i.zero, i.size, i.bytes)) = some (some z, 1, bytes)) (hz : z.cells.size = 1) (hb1 : 1 ≤ bytes)
    {base n : Nat} {v u : Value} {xs : List Value} (hown : wr.ownsRow base e 1 v n xs) (hbase : base ≤ wr.heap.size) (hbytes : (n + 1) * bytes ≤ 140737488355328)
    {ops : Array Oper} {rest : List Oper} {o : Oper} {a : Act} {Q : Exit → Act → World → Prop} {s x : Operand}
    (hgd : o.guard = none) (ho : o.op = .call { callee := .builtin .append, args := #[s, x], argTypes := #[t, t] }) (hs : a.eval s = v) (hx : a.eval x = .slice (some ⟨wr.heap.size, 0, none⟩) 1 1) (h1 : u.oneCell' = true)
    (h : ∀ v' w', w'.ownsRow base e 1 v' (n + 1) (xs ++ [u]) → Below base wr w' → wr.heap.size < w'.heap.size → wpList P ops Q rest (a.put o.dst v') w') : wpList P ops Q (o :: rest) a (wr.alloc (.cells #[u] e)) := by
  obtain ⟨v', w', hr, h2, h3, h4⟩ := push_run (P := P) (u := u) ht hinfo hz hb1 hown h1 hbytes hbase
  exact wpList_app hr hgd ho hs hx (h v' w' h2 h3 h4)

/- A row that is owned and not empty, as the walk wants it. -/
theorem wrap_u64 {n : Int} (h0 : 0 ≤ n) (h : n < 18446744073709551616) : IntKind.u64.wrap n = n := by
  unfold IntKind.wrap; simp [IntKind.bits, IntKind.signed]; exact Int.emod_eq_of_lt h0 h

theorem below_drewN {B : Nat} {a w : World} (h : Below B a w) (n : Nat) : Below B a (w.drewN n) := ⟨h.os, h.tape, h.output, h.size, h.block⟩

/- A row of bytes read as a string. -/
theorem conv_row {P : Program} {w : World} {src dst e e' base n : Nat} {v : Value} {xs : List Int} (hs : P.underlying src = some (.slice e)) (he : P.underlying e = some (.int .u8)) (hd : P.underlying dst = some .string)
    (hown : w.ownsRow base e' 1 v n (xs.map (Value.int .u8))) : (convert src dst v).run P w = .ok (.string (strOfNums xs)) w := by
  obtain ⟨h1, h2⟩ := hown
  simp at h1
  rcases h2 with ⟨rfl, h0⟩ | ⟨g, cap, cur, rfl, hb, hg, hc, _, _, ht⟩
  · have : xs = [] := List.eq_nil_of_length_eq_zero (by omega)
    subst this
    exact run_convert_bytes_nil w src e hs he 0 0 dst hd
  · exact run_convert_bytes_arg w src e hs he g 0 n cap xs h1 (fun i hi => by
      rw [Nat.zero_add, cell_of_row w g i cur e' (0, 0) hg]
      have : (cur.toList.take (n * 1))[i]? = (xs.map (Value.int .u8))[i]? := by rw [ht]
      rw [List.getElem?_take, if_pos (by omega)] at this
      simp at this
      rw [this, List.getD_eq_getElem?_getD, List.getElem?_eq_getElem (by omega)]; simp) dst hd

theorem kept_eq {G : World → World → Prop} {x : Value} : ∀ v w w', (fun v (_ : World) => v = x) v w → G w w' → (fun v (_ : World) => v = x) v w' := fun _ _ _ h _ => h
theorem rgGoals_cons {P : Program} {ops : Array Oper} {C : World → Prop} {G : World → World → Prop} {all : List (Value → World → Prop)} {V : Nat → Value} {o : Oper} {os : List Oper} {p : Value → World → Prop} {ps : List (Value → World → Prop)}
    {d : List Nat} {ds : List (List Nat)} {i : Nat} (j : Nat) {a : Act} {f : Value → Act} (hf : ∀ v, a.put o.dst v = f v) (hj : i + 1 = j)
    (h1 : ∀ w, C w → depsHold V all w d → ∀ K : Act → World → Prop, (∀ v w', G w w' → p v w' → K (f v) w') →
      if Region.wanted o (yielded ops a.tmps) = true then o.wp P a w K (fun _ _ _ => False) else K (f undef) w)
    (h2 : rgGoals P ops C G all V os ps ds j (f (V i))) : rgGoals P ops C G all V (o :: os) (p :: ps) (d :: ds) i a := by
  subst hj
  obtain rfl : (fun v => a.put o.dst v) = f := funext hf
  exact ⟨h1, h2⟩

theorem postsHold_at {V : Nat → Value} {w : World} : ∀ {ps : List (Value → World → Prop)} {k : Nat}, postsHold V w ps k → ∀ (j : Nat) {p : Value → World → Prop}, ps[j]? = some p → p (V (k + j)) w
  | [], _, _, _, _, hj => by simp at hj
  | q :: ps, k, h, 0, p, hj => by simp at hj; subst hj; exact h.1
  | q :: ps, k, h, j + 1, p, hj => by rw [show k + (j + 1) = k + 1 + j from by omega]; exact postsHold_at h.2 j (by simpa using hj)

end Go.Proofs.Ytpalmpfkliepfaa

namespace Go.Proofs.Ytpalmpfkliepfaa.Ut
set_option linter.unusedVariables false
set_option linter.unusedSimpArgs false

/-- A sign's bytes. -/
def encB (c : Nat) : List Nat :=
  if 0x10ffff < c ∨ (0xd800 ≤ c ∧ c ≤ 0xdfff) then [] else if c < 0x80 then [c] else if c < 0x800 then [192 + c / 64, 128 + c % 64]
  else if c < 0x10000 then [224 + c / 4096, 128 + c / 64 % 64, 128 + c % 64] else [240 + c / 262144, 128 + c / 4096 % 64, 128 + c / 64 % 64, 128 + c % 64]

theorem encB_cases (c : Nat) : (encB c = [] ∧ (0x10ffff < c ∨ (0xd800 ≤ c ∧ c ≤ 0xdfff))) ∨ (encB c = [c] ∧ c < 0x80) ∨ (encB c = [192 + c / 64, 128 + c % 64] ∧ 0x80 ≤ c ∧ c < 0x800) ∨
    (encB c = [224 + c / 4096, 128 + c / 64 % 64, 128 + c % 64] ∧ 0x800 ≤ c ∧ c < 0x10000 ∧ ¬ (0xd800 ≤ c ∧ c ≤ 0xdfff)) ∨ (encB c = [240 + c / 262144, 128 + c / 4096 % 64, 128 + c / 64 % 64, 128 + c % 64] ∧ 0x10000 ≤ c ∧ c ≤ 0x10ffff) := by
  unfold encB
  by_cases h1 : 0x10ffff < c ∨ (0xd800 ≤ c ∧ c ≤ 0xdfff)
  · simp only [if_pos h1]; exact .inl ⟨trivial, h1⟩
  · simp only [if_neg h1]
    by_cases h2 : c < 0x80
    · simp only [if_pos h2]; exact .inr (.inl ⟨trivial, h2⟩)
    · simp only [if_neg h2]
      by_cases h3 : c < 0x800
      · simp only [if_pos h3]; exact .inr (.inr (.inl ⟨trivial, by omega, h3⟩))
      · simp only [if_neg h3]
        by_cases h4 : c < 0x10000
        · simp only [if_pos h4]; exact .inr (.inr (.inr (.inl ⟨trivial, by omega, h4, by omega⟩)))
        · simp only [if_neg h4]; exact .inr (.inr (.inr (.inr ⟨trivial, by omega, by omega⟩)))

theorem encB_one (v x : Nat) : encB v = [x] ↔ v < 128 ∧ x = v := by
  rcases encB_cases v with ⟨h, g⟩ | ⟨h, g⟩ | ⟨h, g⟩ | ⟨h, g⟩ | ⟨h, g⟩ <;> rw [h] <;> simp <;> omega
theorem encB_two (v x y : Nat) : encB v = [x, y] ↔ 128 ≤ v ∧ v < 0x800 ∧ x = 192 + v / 64 ∧ y = 128 + v % 64 := by
  rcases encB_cases v with ⟨h, g⟩ | ⟨h, g⟩ | ⟨h, g⟩ | ⟨h, g⟩ | ⟨h, g⟩ <;> rw [h] <;> simp <;> omega
theorem encB_three (v x y z : Nat) : encB v = [x, y, z] ↔ 0x800 ≤ v ∧ v < 0x10000 ∧ ¬ (0xd800 ≤ v ∧ v ≤ 0xdfff) ∧ x = 224 + v / 4096 ∧ y = 128 + v / 64 % 64 ∧ z = 128 + v % 64 := by
  rcases encB_cases v with ⟨h, g⟩ | ⟨h, g⟩ | ⟨h, g⟩ | ⟨h, g⟩ | ⟨h, g⟩ <;> rw [h] <;> simp <;> omega
theorem encB_four (v x y z u : Nat) : encB v = [x, y, z, u] ↔ 0x10000 ≤ v ∧ v ≤ 0x10ffff ∧ x = 240 + v / 262144 ∧ y = 128 + v / 4096 % 64 ∧ z = 128 + v / 64 % 64 ∧ u = 128 + v % 64 := by
  rcases encB_cases v with ⟨h, g⟩ | ⟨h, g⟩ | ⟨h, g⟩ | ⟨h, g⟩ | ⟨h, g⟩ <;> rw [h] <;> simp <;> omega

/-- The sign that bytes begin with, how many bytes: by trying. -/
def firstR : List Nat → Nat × Nat
  | [] => (0, 0)
  | a :: l =>
    if encB a = [a] then (a, 1) else
    match l with
    | [] => (0, 0)
    | b :: l =>
      if encB (a % 32 * 64 + b % 64) = [a, b] then (a % 32 * 64 + b % 64, 2) else
      match l with
      | [] => (0, 0)
      | c :: l =>
        if encB ((a % 16 * 64 + b % 64) * 64 + c % 64) = [a, b, c] then ((a % 16 * 64 + b % 64) * 64 + c % 64, 3) else
        match l with
        | [] => (0, 0)
        | d :: _ => if encB (((a % 8 * 64 + b % 64) * 64 + c % 64) * 64 + d % 64) = [a, b, c, d] then (((a % 8 * 64 + b % 64) * 64 + c % 64) * 64 + d % 64, 4) else (0, 0)

/-- The same, by the first byte. -/
def firstP : List Nat → Nat × Nat
  | [] => (0, 0)
  | a :: l =>
    if a < 0x80 then (a, 1) else
    if 0xc2 ≤ a ∧ a < 0xe0 then
      match l with
      | b :: _ => if b / 64 = 2 then (a % 32 * 64 + b % 64, 2) else (0, 0)
      | _ => (0, 0)
    else if 0xe0 ≤ a ∧ a < 0xf0 then
      match l with
      | b :: c :: _ => if b / 64 = 2 ∧ c / 64 = 2 then
          if (a % 16 * 64 + b % 64) * 64 + c % 64 < 0x800 ∨ ((a % 16 * 64 + b % 64) * 64 + c % 64) / 2048 = 0x1b then (0, 0) else ((a % 16 * 64 + b % 64) * 64 + c % 64, 3)
        else (0, 0)
      | _ => (0, 0)
    else if 0xf0 ≤ a ∧ a < 0xf5 then
      match l with
      | b :: c :: d :: _ => if b / 64 = 2 ∧ c / 64 = 2 ∧ d / 64 = 2 then
          if ((a % 8 * 64 + b % 64) * 64 + c % 64) * 64 + d % 64 < 0x10000 ∨ 0x10ffff < ((a % 8 * 64 + b % 64) * 64 + c % 64) * 64 + d % 64 then (0, 0) else (((a % 8 * 64 + b % 64) * 64 + c % 64) * 64 + d % 64, 4)
        else (0, 0)
      | _ => (0, 0)
    else (0, 0)

theorem first_one (a : Nat) (l : List Nat) (h : a < 0x80) : firstP (a :: l) = firstR (a :: l) := by
  simp only [firstP, firstR]
  rw [if_pos h, if_pos ((encB_one _ _).2 ⟨h, rfl⟩)]

theorem first_eq (l : List Nat) (h : ∀ x ∈ l, x < 256) : firstP l = firstR l := by
  cases l with
  | nil => rfl
  | cons a l =>
    have ha : a < 256 := h a (by simp)
    by_cases h1 : a < 0x80
    · exact first_one a l h1
    have n1 : ¬ encB a = [a] := fun e => h1 ((encB_one _ _).1 e).1
    cases l with
    | nil =>
      simp only [firstP, firstR]
      rw [if_neg h1, if_neg n1]
      repeat' (first | rfl | split)
    | cons b l =>
      have hb : b < 256 := h b (by simp)
      simp only [firstP, firstR]
      rw [if_neg h1, if_neg n1]
      by_cases h2 : 0xc2 ≤ a ∧ a < 0xe0
      · rw [if_pos h2]
        by_cases h3 : b / 64 = 2
        · rw [if_pos h3, if_pos ((encB_two _ _ _).2 (by omega))]
        · rw [if_neg h3, if_neg (show ¬ encB (a % 32 * 64 + b % 64) = [a, b] from fun e => by have := (encB_two _ _ _).1 e; omega)]
          cases l with
          | nil => rfl
          | cons c l =>
            have hc : c < 256 := h c (by simp)
            simp only
            rw [if_neg (show ¬ encB ((a % 16 * 64 + b % 64) * 64 + c % 64) = [a, b, c] from fun e => by have := (encB_three _ _ _ _).1 e; omega)]
            cases l with
            | nil => rfl
            | cons d l =>
              have hd : d < 256 := h d (by simp)
              simp only
              rw [if_neg (show ¬ encB (((a % 8 * 64 + b % 64) * 64 + c % 64) * 64 + d % 64) = [a, b, c, d] from fun e => by have := (encB_four _ _ _ _ _).1 e; omega)]
      · rw [if_neg h2, if_neg (show ¬ encB (a % 32 * 64 + b % 64) = [a, b] from fun e => by have := (encB_two _ _ _).1 e; omega)]
        cases l with
        | nil =>
          simp only
          repeat' (first | rfl | split)
        | cons c l =>
          have hc : c < 256 := h c (by simp)
          simp only
          by_cases h3 : 0xe0 ≤ a ∧ a < 0xf0
          · rw [if_pos h3]
            by_cases h4 : b / 64 = 2 ∧ c / 64 = 2
            · rw [if_pos h4]
              by_cases h5 : (a % 16 * 64 + b % 64) * 64 + c % 64 < 0x800 ∨ ((a % 16 * 64 + b % 64) * 64 + c % 64) / 2048 = 0x1b
              · rw [if_pos h5, if_neg (show ¬ encB ((a % 16 * 64 + b % 64) * 64 + c % 64) = [a, b, c] from fun e => by have := (encB_three _ _ _ _).1 e; omega)]
                cases l with
                | nil => rfl
                | cons d l =>
                  have hd : d < 256 := h d (by simp)
                  simp only
                  rw [if_neg (show ¬ encB (((a % 8 * 64 + b % 64) * 64 + c % 64) * 64 + d % 64) = [a, b, c, d] from fun e => by have := (encB_four _ _ _ _ _).1 e; omega)]
              · rw [if_neg h5, if_pos ((encB_three _ _ _ _).2 (by omega))]
            · rw [if_neg h4, if_neg (show ¬ encB ((a % 16 * 64 + b % 64) * 64 + c % 64) = [a, b, c] from fun e => by have := (encB_three _ _ _ _).1 e; omega)]
              cases l with
              | nil => rfl
              | cons d l =>
                have hd : d < 256 := h d (by simp)
                simp only
                rw [if_neg (show ¬ encB (((a % 8 * 64 + b % 64) * 64 + c % 64) * 64 + d % 64) = [a, b, c, d] from fun e => by have := (encB_four _ _ _ _ _).1 e; omega)]
          · rw [if_neg h3, if_neg (show ¬ encB ((a % 16 * 64 + b % 64) * 64 + c % 64) = [a, b, c] from fun e => by have := (encB_three _ _ _ _).1 e; omega)]
            cases l with
            | nil =>
              simp only
              split <;> rfl
            | cons d l =>
              have hd : d < 256 := h d (by simp)
              simp only
              by_cases h4 : 0xf0 ≤ a ∧ a < 0xf5
              · rw [if_pos h4]
                by_cases h5 : b / 64 = 2 ∧ c / 64 = 2 ∧ d / 64 = 2
                · rw [if_pos h5]
                  by_cases h6 : ((a % 8 * 64 + b % 64) * 64 + c % 64) * 64 + d % 64 < 0x10000 ∨ 0x10ffff < ((a % 8 * 64 + b % 64) * 64 + c % 64) * 64 + d % 64
                  · rw [if_pos h6, if_neg (show ¬ encB (((a % 8 * 64 + b % 64) * 64 + c % 64) * 64 + d % 64) = [a, b, c, d] from fun e => by have := (encB_four _ _ _ _ _).1 e; omega)]
                  · rw [if_neg h6, if_pos ((encB_four _ _ _ _ _).2 (by omega))]
                · rw [if_neg h5, if_neg (show ¬ encB (((a % 8 * 64 + b % 64) * 64 + c % 64) * 64 + d % 64) = [a, b, c, d] from fun e => by have := (encB_four _ _ _ _ _).1 e; omega)]
              · rw [if_neg h4, if_neg (show ¬ encB (((a % 8 * 64 + b % 64) * 64 + c % 64) * 64 + d % 64) = [a, b, c, d] from fun e => by have := (encB_four _ _ _ _ _).1 e; omega)]

/-- By trying, from n bytes on. -/
def refV (l : List Nat) : Nat → Nat → Nat
  | n, 0 => if n = 1 then l.getD 0 0 else l.getD 0 0 % 2 ^ (7 - n)
  | n, k + 1 => refV l n k * 64 + l.getD (k + 1) 0 % 64
def tryF (l : List Nat) : Nat → Nat → Nat × Nat
  | _, 0 => (0, 0)
  | n, f + 1 => if n ≤ l.length then (if encB (refV l n (n - 1)) = l.take n then (refV l n (n - 1), n) else tryF l (n + 1) f) else (0, 0)

theorem try_eq (l : List Nat) : firstR l = tryF l 1 4 := by
  match l with
  | [] => simp [firstR, tryF]
  | [a] => simp [firstR, tryF, refV]
  | [a, b] => simp [firstR, tryF, refV]
  | [a, b, c] => simp [firstR, tryF, refV]
  | a :: b :: c :: d :: l => simp [firstR, tryF, refV]

theorem first_snd (l : List Nat) : (firstP l).2 ≤ l.length := by
  match l with
  | [] => simp [firstP]
  | [a] => simp only [firstP]; repeat (first | split | simp)
  | [a, b] => simp only [firstP]; repeat (first | split | simp)
  | [a, b, c] => simp only [firstP]; repeat (first | split | simp)
  | a :: b :: c :: d :: l => simp only [firstP]; repeat (first | split | simp)

/-- How many signs; -1. -/
def cntF : Nat → List Nat → Int
  | 0, _ => 0
  | f + 1, l => if l = [] then 0 else if (firstP l).2 = 0 then -1 else if cntF f (l.drop (firstP l).2) < 0 then -1 else cntF f (l.drop (firstP l).2) + 1

theorem cntF_more : ∀ (f g : Nat) (l : List Nat), l.length ≤ f → l.length ≤ g → cntF f l = cntF g l
  | 0, 0, _, _, _ => rfl
  | 0, g + 1, l, h, _ => by
    have : l = [] := List.eq_nil_of_length_eq_zero (by omega)
    simp [cntF, this]
  | f + 1, 0, l, _, h => by
    have : l = [] := List.eq_nil_of_length_eq_zero (by omega)
    simp [cntF, this]
  | f + 1, g + 1, l, h1, h2 => by
    unfold cntF
    by_cases h : l = []
    · simp [h]
    · rw [if_neg h, if_neg h]
      by_cases h3 : (firstP l).2 = 0
      · rw [if_pos h3, if_pos h3]
      · rw [if_neg h3, if_neg h3, cntF_more f g _ (by rw [List.length_drop]; omega) (by rw [List.length_drop]; omega)]

def cnt (l : List Nat) : Int := cntF l.length l
theorem cnt_bad {l : List Nat} (h : l ≠ []) (h0 : (firstP l).2 = 0) : cnt l = -1 := by
  cases l with
  | nil => exact absurd rfl h
  | cons a l =>
    unfold cnt
    rw [show (a :: l).length = l.length + 1 from rfl, cntF, if_neg h, if_pos h0]
theorem cnt_step {l : List Nat} (h : l ≠ []) (h0 : (firstP l).2 ≠ 0) : cnt l = if cnt (l.drop (firstP l).2) < 0 then -1 else cnt (l.drop (firstP l).2) + 1 := by
  cases l with
  | nil => exact absurd rfl h
  | cons a l =>
    unfold cnt
    rw [show (a :: l).length = l.length + 1 from rfl, cntF, if_neg h, if_neg h0]
    rw [cntF_more l.length ((List.drop (firstP (a :: l)).2 (a :: l)).length) _ (by rw [List.length_drop]; simp; omega) (Nat.le_refl _)]
theorem cnt_ge (l : List Nat) : -1 ≤ cnt l := by
  unfold cnt
  generalize l.length = f
  induction f generalizing l with
  | zero => simp [cntF]
  | succ f ih =>
    unfold cntF
    have := ih (l.drop (firstP l).2)
    repeat' (first | omega | split)

theorem encB_lt (c : Nat) : ∀ x ∈ encB c, x < 256 := by
  rcases encB_cases c with ⟨e, g⟩ | ⟨e, g⟩ | ⟨e, g⟩ | ⟨e, g⟩ | ⟨e, g⟩ <;> rw [e] <;> simp <;> omega
end Go.Proofs.Ytpalmpfkliepfaa.Ut

namespace Go.Proofs.Ytpalmpfkliepfaa.Ut
open Go.RowKit
set_option linter.unusedVariables false
set_option linter.unusedSimpArgs false

/-- Bytes that can be read. -/
def RdN (w : World) (a : Option Addr) (l : List Nat) : Prop := ∀ j, j < l.length → ∃ b off, a = some ⟨b, off, none⟩ ∧ w.cell? ⟨b, off + j, none⟩ = some (.int .u8 (l.getD j 0 : Nat)) ∧ b < w.heap.size

theorem RdN.ext {w w' : World} {a : Option Addr} {l : List Nat} (h : RdN w a l) (hb : Below w.heap.size w w') : RdN w' a l := by
  intro j hj
  obtain ⟨b, off, ha, hc, hl⟩ := h j hj
  exact ⟨b, off, ha, (hb.cell (p := ⟨b, off + j, none⟩) hl).trans hc, Nat.lt_of_lt_of_le hl hb.size⟩

def clsN (a : Nat) : Int := if a < 128 then 0 else if 194 ≤ a ∧ a < 224 then 1 else if 224 ≤ a ∧ a < 240 then 2 else if 240 ≤ a ∧ a < 245 then 3 else -1
def clsV (a : Nat) : Nat := if a < 128 then a else if 194 ≤ a ∧ a < 224 then a % 32 else if 224 ≤ a ∧ a < 240 then a % 16 else if 240 ≤ a ∧ a < 245 then a % 8 else 0

theorem and_fin : ∀ n : Fin 256, bits BinOp.and .u8 ((n.val : Nat) : Int) 31 = ((n.val % 32 : Nat) : Int) ∧ bits BinOp.and .u8 ((n.val : Nat) : Int) 15 = ((n.val % 16 : Nat) : Int) ∧ bits BinOp.and .u8 ((n.val : Nat) : Int) 7 = ((n.val % 8 : Nat) : Int) ∧ bits BinOp.and .u8 ((n.val : Nat) : Int) 63 = ((n.val % 64 : Nat) : Int) := by decide +kernel

set_option maxRecDepth 100000 in
theorem class_any (a : Nat) (h : a < 256) (w : World) : Calls Try.prog 112 #[.int .u8 a] w fun e w' => e = .returned (.tuple #[.int .i64 (clsN a), .int .u32 (clsV a)]) ∧ w = w' := by
  obtain ⟨e1, e2, e3, e4⟩ := and_fin ⟨a, h⟩
  simp only at e1 e2 e3 e4
  rcases (by omega : a < 128 ∨ (128 ≤ a ∧ a < 194) ∨ (194 ≤ a ∧ a < 224) ∨ (224 ≤ a ∧ a < 240) ∨ (240 ≤ a ∧ a < 245) ∨ 245 ≤ a) with h1 | h1 | h1 | h1 | h1 | h1
  · rw [show clsN a = 0 by unfold clsN; repeat' (first | rfl | omega | split), show clsV a = a by unfold clsV; repeat' (first | rfl | omega | split)]
    have t0 : decide ((a : Int) < 128) = true := by simp; omega
    have t1 : decide (194 ≤ (a : Int)) = false := by simp; omega
    have t2 : decide ((a : Int) < 224) = true := by simp; omega
    have t3 : decide (224 ≤ (a : Int)) = false := by simp; omega
    have t4 : decide ((a : Int) < 240) = true := by simp; omega
    have t5 : decide (240 ≤ (a : Int)) = false := by simp; omega
    have t6 : decide ((a : Int) < 245) = true := by simp; omega
    clear h1
    go_enter Try.func112, Try.ntmps112
    go_wp2
    go_ret2
    exact ⟨rfl, rfl⟩
  · rw [show clsN a = -1 by unfold clsN; repeat' (first | rfl | omega | split), show clsV a = 0 by unfold clsV; repeat' (first | rfl | omega | split)]
    have t0 : decide ((a : Int) < 128) = false := by simp; omega
    have t1 : decide (194 ≤ (a : Int)) = false := by simp; omega
    have t2 : decide ((a : Int) < 224) = true := by simp; omega
    have t3 : decide (224 ≤ (a : Int)) = false := by simp; omega
    have t4 : decide ((a : Int) < 240) = true := by simp; omega
    have t5 : decide (240 ≤ (a : Int)) = false := by simp; omega
    have t6 : decide ((a : Int) < 245) = true := by simp; omega
    clear h1
    go_enter Try.func112, Try.ntmps112
    go_wp2
    go_ret2
    exact ⟨rfl, rfl⟩
  · rw [show clsN a = 1 by unfold clsN; repeat' (first | rfl | omega | split), show clsV a = a % 32 by unfold clsV; repeat' (first | rfl | omega | split)]
    have t0 : decide ((a : Int) < 128) = false := by simp; omega
    have t1 : decide (194 ≤ (a : Int)) = true := by simp; omega
    have t2 : decide ((a : Int) < 224) = true := by simp; omega
    have t3 : decide (224 ≤ (a : Int)) = false := by simp; omega
    have t4 : decide ((a : Int) < 240) = true := by simp; omega
    have t5 : decide (240 ≤ (a : Int)) = false := by simp; omega
    have t6 : decide ((a : Int) < 245) = true := by simp; omega
    clear h1
    go_enter Try.func112, Try.ntmps112
    go_wp2
    go_ret2
    exact ⟨rfl, rfl⟩
  · rw [show clsN a = 2 by unfold clsN; repeat' (first | rfl | omega | split), show clsV a = a % 16 by unfold clsV; repeat' (first | rfl | omega | split)]
    have t0 : decide ((a : Int) < 128) = false := by simp; omega
    have t1 : decide (194 ≤ (a : Int)) = true := by simp; omega
    have t2 : decide ((a : Int) < 224) = false := by simp; omega
    have t3 : decide (224 ≤ (a : Int)) = true := by simp; omega
    have t4 : decide ((a : Int) < 240) = true := by simp; omega
    have t5 : decide (240 ≤ (a : Int)) = false := by simp; omega
    have t6 : decide ((a : Int) < 245) = true := by simp; omega
    clear h1
    go_enter Try.func112, Try.ntmps112
    go_wp2
    go_ret2
    exact ⟨rfl, rfl⟩
  · rw [show clsN a = 3 by unfold clsN; repeat' (first | rfl | omega | split), show clsV a = a % 8 by unfold clsV; repeat' (first | rfl | omega | split)]
    have t0 : decide ((a : Int) < 128) = false := by simp; omega
    have t1 : decide (194 ≤ (a : Int)) = true := by simp; omega
    have t2 : decide ((a : Int) < 224) = false := by simp; omega
    have t3 : decide (224 ≤ (a : Int)) = true := by simp; omega
    have t4 : decide ((a : Int) < 240) = false := by simp; omega
    have t5 : decide (240 ≤ (a : Int)) = true := by simp; omega
    have t6 : decide ((a : Int) < 245) = true := by simp; omega
    clear h1
    go_enter Try.func112, Try.ntmps112
    go_wp2
    go_ret2
    exact ⟨rfl, rfl⟩
  · rw [show clsN a = -1 by unfold clsN; repeat' (first | rfl | omega | split), show clsV a = 0 by unfold clsV; repeat' (first | rfl | omega | split)]
    have t0 : decide ((a : Int) < 128) = false := by simp; omega
    have t1 : decide (194 ≤ (a : Int)) = true := by simp; omega
    have t2 : decide ((a : Int) < 224) = false := by simp; omega
    have t3 : decide (224 ≤ (a : Int)) = true := by simp; omega
    have t4 : decide ((a : Int) < 240) = false := by simp; omega
    have t5 : decide (240 ≤ (a : Int)) = true := by simp; omega
    have t6 : decide ((a : Int) < 245) = false := by simp; omega
    clear h1
    go_enter Try.func112, Try.ntmps112
    go_wp2
    go_ret2
    exact ⟨rfl, rfl⟩

/-- The bits behind k bytes more. -/
def vK (l : List Nat) : Nat → Nat
  | 0 => clsV (l.getD 0 0)
  | k + 1 => vK l k * 64 + l.getD (k + 1) 0 % 64
def follB (l : List Nat) (k : Nat) : Bool := (List.range k).all fun j => decide (l.getD (j + 1) 0 / 64 = 2)
theorem follB_succ (l : List Nat) (k : Nat) : follB l (k + 1) = (follB l k && decide (l.getD (k + 1) 0 / 64 = 2)) := by simp [follB, List.range_succ, List.all_append]

theorem follB_le {l : List Nat} {k m : Nat} (h : k ≤ m) (hf : follB l k = false) : follB l m = false := by
  induction m with
  | zero =>
    obtain rfl : k = 0 := by omega
    exact hf
  | succ m ih =>
    by_cases hk : k = m + 1
    · rw [← hk]; exact hf
    · rw [follB_succ, ih (by omega)]; rfl

/-- As the program does it. -/
def firstQ (l : List Nat) : Nat × Nat :=
  if l = [] then (0, 0) else if clsN (l.getD 0 0) < 0 ∨ (l.length : Int) ≤ clsN (l.getD 0 0) then (0, 0) else
  if follB l (clsN (l.getD 0 0)).toNat = false then (0, 0) else
  if clsN (l.getD 0 0) = 2 ∧ (vK l 2 < 2048 ∨ vK l 2 / 2048 = 27) then (0, 0) else
  if clsN (l.getD 0 0) = 3 ∧ (vK l 3 < 65536 ∨ 1114111 < vK l 3) then (0, 0) else (vK l (clsN (l.getD 0 0)).toNat, (clsN (l.getD 0 0)).toNat + 1)

theorem cls_cases (a : Nat) : (a < 128 ∧ clsN a = 0 ∧ clsV a = a) ∨ ((194 ≤ a ∧ a < 224) ∧ clsN a = 1 ∧ clsV a = a % 32) ∨ ((224 ≤ a ∧ a < 240) ∧ clsN a = 2 ∧ clsV a = a % 16) ∨ ((240 ≤ a ∧ a < 245) ∧ clsN a = 3 ∧ clsV a = a % 8) ∨ ((128 ≤ a ∧ a < 194 ∨ 245 ≤ a) ∧ clsN a = -1 ∧ clsV a = 0) := by
  unfold clsN clsV
  by_cases h1 : a < 128
  · simp [h1]
  · by_cases h2 : 194 ≤ a ∧ a < 224
    · simp [h1, h2]
    · by_cases h3 : 224 ≤ a ∧ a < 240
      · simp [h1, h2, h3]
      · by_cases h4 : 240 ≤ a ∧ a < 245
        · simp [h1, h2, h3, h4]
        · simp [h1, h2, h3, h4]; omega

theorem ut_or32 (A B : Nat) (hA : A < 2 ^ 32) (hB : B < 2 ^ 32) : bits .or .u32 A B = ((A ||| B : Nat) : Int) := by
  have h : (BitVec.ofInt 32 (A : Int) ||| BitVec.ofInt 32 (B : Int)).toNat = A ||| B := by
    rw [BitVec.toNat_or, BitVec.ofInt_natCast, BitVec.ofInt_natCast, BitVec.toNat_ofNat, BitVec.toNat_ofNat, Nat.mod_eq_of_lt hA, Nat.mod_eq_of_lt hB]
  have hw : ∀ n : Int, IntKind.u32.wrap n = n % 4294967296 := fun n => by unfold IntKind.wrap; simp [IntKind.bits, IntKind.signed]
  show IntKind.u32.wrap ((BitVec.ofInt 32 (A : Int) ||| BitVec.ofInt 32 (B : Int)).toNat : Int) = _
  rw [h, hw]
  have := Nat.or_lt_two_pow hA hB
  omega

theorem or6 (u y : Nat) (hu : u < 33554432) : bits BinOp.or IntKind.u32 ((u : Int) * 64 % 4294967296) ((y : Int) % 64) = ((u * 64 + y % 64 : Nat) : Int) := by
  have e1 : (u : Int) * 64 % 4294967296 = ((u * 64 : Nat) : Int) := by omega
  have e2 : (y : Int) % 64 = ((y % 64 : Nat) : Int) := by omega
  have hlt : y % 64 < 2 ^ 6 := Nat.mod_lt _ (by decide)
  rw [e1, e2, ut_or32 _ _ (by omega) (by omega), Nat.mul_comm u 64, ← Nat.two_pow_add_eq_or_of_lt (i := 6) hlt u]

theorem firstQ_eq (l : List Nat) : firstQ l = firstP l := by
  cases l with
  | nil => rfl
  | cons a l =>
    unfold firstQ
    rw [if_neg (by simp)]
    simp only [List.getD_cons_zero, List.length_cons]
    rcases cls_cases a with ⟨h, e1, e2⟩ | ⟨h, e1, e2⟩ | ⟨h, e1, e2⟩ | ⟨h, e1, e2⟩ | ⟨h, e1, e2⟩
    · simp only [firstP]
      rw [if_pos h, e1, if_neg (by omega)]
      simp [follB, vK, e2]
    · rw [e1]
      cases l with
      | nil => simp [firstP, show ¬ a < 128 by omega, h]
      | cons b l =>
        simp only [firstP]
        rw [if_neg (show ¬ a < 128 by omega), if_pos (show 194 ≤ a ∧ a < 224 from h), if_neg (by simp; omega)]
        by_cases h3 : b / 64 = 2 <;> simp [follB, vK, e2, h3, List.range_succ]
    · rw [e1]
      match l with
      | [] => simp [firstP, show ¬ a < 128 by omega, show ¬ (194 ≤ a ∧ a < 224) by omega, h]
      | [b] => simp [firstP, show ¬ a < 128 by omega, show ¬ (194 ≤ a ∧ a < 224) by omega, h]
      | b :: c :: l =>
        simp only [firstP]
        rw [if_neg (show ¬ a < 128 by omega), if_neg (show ¬ (194 ≤ a ∧ a < 224) by omega), if_pos (show 224 ≤ a ∧ a < 240 from h), if_neg (by simp; omega)]
        by_cases h3 : b / 64 = 2 <;> by_cases h4 : c / 64 = 2 <;> simp [follB, vK, e2, h3, h4, List.range_succ]
    · rw [e1]
      match l with
      | [] => simp [firstP, show ¬ a < 128 by omega, show ¬ (194 ≤ a ∧ a < 224) by omega, h]
      | [b] => simp [firstP, show ¬ a < 128 by omega, show ¬ (194 ≤ a ∧ a < 224) by omega, h]
      | [b, c] => simp [firstP, show ¬ a < 128 by omega, show ¬ (194 ≤ a ∧ a < 224) by omega, show ¬ (224 ≤ a ∧ a < 240) by omega, h]
      | b :: c :: d :: l =>
        simp only [firstP]
        rw [if_neg (show ¬ a < 128 by omega), if_neg (show ¬ (194 ≤ a ∧ a < 224) by omega), if_neg (show ¬ (224 ≤ a ∧ a < 240) by omega), if_pos (show 240 ≤ a ∧ a < 245 from h), if_neg (by simp; omega)]
        by_cases h3 : b / 64 = 2 <;> by_cases h4 : c / 64 = 2 <;> by_cases h5 : d / 64 = 2 <;> simp [follB, vK, e2, h3, h4, h5, List.range_succ]
    · rw [e1, if_pos (by omega)]
      simp only [firstP]
      rw [if_neg (show ¬ a < 128 by omega), if_neg (show ¬ (194 ≤ a ∧ a < 224) by omega), if_neg (show ¬ (224 ≤ a ∧ a < 240) by omega), if_neg (show ¬ (240 ≤ a ∧ a < 245) by omega)]

theorem vK_lt (l : List Nat) (h : l.getD 0 0 < 256) : ∀ k, vK l k < 128 * 64 ^ k
  | 0 => by
    have := cls_cases (l.getD 0 0)
    simp only [vK]
    omega
  | k + 1 => by
    have := vK_lt l h k
    simp only [vK, Nat.pow_succ]
    have h2 : l.getD (k + 1) 0 % 64 < 64 := Nat.mod_lt _ (by decide)
    omega

set_option maxHeartbeats 1000000 in
set_option maxRecDepth 100000 in
theorem first_any (l : List Nat) (a : Option Addr) (c : Nat) (w : World) (hl : ∀ x ∈ l, x < 256) (hr : RdN w a l) (hlc : l.length ≤ c) (hlm : l.length ≤ 9223372036854775807) : Calls Try.prog 101 #[.slice a l.length c] w fun e w' => e = .returned (.tuple #[.int .i32 (firstP l).1, .int .i64 (firstP l).2]) ∧ w = w' := by
  rw [← firstQ_eq]
  by_cases h0 : l = []
  · subst h0
    go_enter Try.func101, Try.ntmps101
    go_wp2
    go_ret2
    exact ⟨rfl, rfl⟩
  · have hpos : 0 < l.length := List.length_pos_iff.2 h0
    obtain ⟨b, off, rfl, hc0, hb⟩ := hr 0 hpos
    have hcell : ∀ j, j < l.length → w.cell? ⟨b, off + j, none⟩ = some (.int .u8 (l.getD j 0 : Nat)) := by
      intro j hj
      obtain ⟨b', off', e, hc, _⟩ := hr j hj
      simp at e
      obtain ⟨rfl, rfl⟩ := e
      exact hc
    rw [Nat.add_zero] at hc0
    have ha : l.getD 0 0 < 256 := by
      rw [List.getD_eq_getElem?_getD, List.getElem?_eq_getElem hpos]
      exact hl _ (List.getElem_mem hpos)
    obtain ⟨p, hQ⟩ : ∃ p, firstQ l = p := ⟨_, rfl⟩
    rw [hQ]
    unfold firstQ at hQ
    rw [if_neg h0] at hQ
    have t0 : ((l.length : Int) == 0) = false := beq_eq_false_iff_ne.2 (by omega)
    have hv := vK_lt l ha
    generalize hg : l.getD 0 0 = x at *
    obtain ⟨n, hn⟩ : ∃ n, clsN x = n := ⟨_, rfl⟩
    have hnr : -1 ≤ n ∧ n ≤ 3 := by have := cls_cases x; omega
    rw [hn] at hQ
    have hv0 : vK l 0 = clsV x := by rw [← hg]; rfl
    have HQ := hid hQ; have Hc := hid hcell; have Hv := hid hv; have Hv0 := hid hv0
    have Hn := hid hn; have Hg := hid hg; have Hl := hid hl
    clear hQ hcell hv hr h0 hn hv0 hg hl
    by_cases hbad : n < 0 ∨ (l.length : Int) ≤ n
    · have hQ := HQ.out
      rw [if_pos hbad] at hQ
      subst hQ
      clear HQ
      by_cases h1 : n < 0
      · have t1 : decide (n < 0) = true := by simp [h1]
        clear hbad
        go_enter Try.func101, Try.ntmps101
        go_wp2_with fail
        refine (class_any x ha w).mono ?_
        rintro e w' ⟨rfl, rfl⟩
        rw [Hn.out]
        go_wp2
        go_ret2
        exact ⟨rfl, rfl⟩
      · have t1 : decide (n < 0) = false := by simp [h1]
        have t2 : decide ((l.length : Int) ≤ n) = true := by simp; omega
        clear hbad
        go_enter Try.func101, Try.ntmps101
        go_wp2_with fail
        refine (class_any x ha w).mono ?_
        rintro e w' ⟨rfl, rfl⟩
        rw [Hn.out]
        go_wp2
        go_ret2
        exact ⟨rfl, rfl⟩
    · have hQ := HQ.out
      rw [if_neg hbad] at hQ
      obtain ⟨m, rfl⟩ := Int.eq_ofNat_of_zero_le (show 0 ≤ n by omega)
      rw [Int.toNat_natCast] at hQ
      have HQ2 := hid hQ
      have t1 : decide ((m : Int) < 0) = false := by simp
      have t2 : decide ((l.length : Int) ≤ m) = false := by simp; omega
      have hm3 : m ≤ 3 := by omega
      have hml : m < l.length := by omega
      clear hbad hQ HQ hnr
      by_cases hc1 : c = 1
      · obtain rfl : m = 0 := by omega
        have hQ := HQ2.out
        rw [if_neg (by simp [follB]), if_neg (by omega), if_neg (by omega)] at hQ
        rw [Hv0.out] at hQ
        have hvx : clsV x < 128 := by have := cls_cases x; omega
        have hi32 : IntKind.i32.wrap (clsV x : Int) = clsV x := by unfold IntKind.wrap; simp [IntKind.bits, IntKind.signed]; omega
        clear HQ2 hvx
        obtain ⟨u, hu⟩ : ∃ u, clsV x = u := ⟨_, rfl⟩
        rw [hu] at hQ hi32
        have Hu := hid hu
        clear hu
        subst hQ
        subst hc1
        have hl1 : l.length = 1 := by omega
        have hne : (l = []) = False := by simp; intro h; rw [h] at hl1; simp at hl1
        go_enter Try.func101, Try.ntmps101
        go_wp2_with fail
        refine (class_any x ha w).mono ?_
        rintro e w' ⟨rfl, rfl⟩
        rw [Hn.out, Hu.out]
        go_wp2
        go_loop [5, 7, 31] (fun v _ i => i = .int .i64 0 ∧ v = .int .u32 u) (fun _ _ _ => 0)
        case atStart => exact ⟨rfl, rfl⟩
        case round =>
          obtain ⟨rfl, rfl⟩ := hrel
          go_wp2
          go_ret2
          exact ⟨rfl, rfl⟩
      · go_enter Try.func101, Try.ntmps101
        go_wp2_with fail
        refine (class_any x ha w).mono ?_
        rintro e w' ⟨rfl, rfl⟩
        rw [Hn.out]
        have hv00 := Hv0.out
        go_wp2
        go_loop [5, 7, 31] (fun v _ i => ∃ k : Nat, k ≤ m ∧ i = .int .i64 k ∧ v = .int .u32 (vK l k) ∧ follB l k = true) (fun _ _ i => m - (intOf i).toNat)
        case atStart => exact ⟨0, Nat.zero_le _, rfl, by rw [hv00], rfl⟩
        case round =>
          obtain ⟨k, hk, rfl, rfl, hfo⟩ := hrel
          clear hv00
          have Hfo := hid hfo; clear hfo
          by_cases hkm : k < m
          · have hce := Hc.out (k + 1) (by omega)
            rw [show off + (k + 1) = off + 1 + k by omega] at hce
            have hy : l.getD (k + 1) 0 < 256 := by
              rw [List.getD_eq_getElem?_getD, List.getElem?_eq_getElem (by omega)]
              exact Hl.out _ (List.getElem_mem _)
            have hvs : vK l (k + 1) = vK l k * 64 + l.getD (k + 1) 0 % 64 := rfl
            have hfs := follB_succ l k
            have hvb := Hv.out k
            generalize l.getD (k + 1) 0 = y at *
            have Hvs := hid hvs; have Hfs := hid hfs; have Hvb := hid hvb
            clear hvs hfs hvb
            generalize vK l k = u at *
            by_cases hy2 : y / 64 = 2
            · have t3 : (((y : Int) / 64) != 2) = false := by simp; omega
              have hor := or6 u y (by have := Hvb.out; have : 64 ^ k ≤ 64 ^ 3 := Nat.pow_le_pow_right (by decide) (by omega); omega)
              have Hor := hid hor
              clear hor
              go_wp2
              go_round
              case rel => exact ⟨k + 1, by omega, by go_num, by rw [Hor.out, Hvs.out], by rw [Hfs.out, Hfo.out]; simp [hy2]⟩
              case measure => simp [intOf]; omega
            · have t3 : (((y : Int) / 64) != 2) = true := by simp; omega
              have hQ := HQ2.out
              have hf0 : follB l m = false := by
                have : follB l (k + 1) = false := by rw [Hfs.out]; simp [hy2]
                exact follB_le (by omega) this
              rw [if_pos hf0] at hQ
              clear hf0 hy2
              subst hQ
              go_wp2
              go_ret2
              exact ⟨rfl, rfl⟩
          · obtain rfl : k = m := by omega
            have hQ := HQ2.out
            rw [if_neg (by rw [Hfo.out]; simp)] at hQ
            by_cases hk2 : k = 2
            · subst hk2
              rw [if_neg (show ¬ (((2 : Nat) : Int) = 3 ∧ (vK l 3 < 65536 ∨ 1114111 < vK l 3)) by omega)] at hQ
              by_cases q1 : vK l 2 < 2048
              · rw [if_pos ⟨by omega, .inl q1⟩] at hQ
                have t3 : decide ((vK l 2 : Int) < 2048) = true := by simp; omega
                clear q1
                clear HQ2
                generalize vK l 2 = u at *
                subst hQ
                go_wp2
                go_ret2
                exact ⟨rfl, rfl⟩
              · have t3 : decide ((vK l 2 : Int) < 2048) = false := by simp; omega
                by_cases q2 : vK l 2 / 2048 = 27
                · rw [if_pos ⟨by omega, .inr q2⟩] at hQ
                  have t4 : (((vK l 2 : Int) / 2048) == 27) = true := by simp; omega
                  clear q1 q2
                  clear HQ2
                  generalize vK l 2 = u at *
                  subst hQ
                  go_wp2
                  go_ret2
                  exact ⟨rfl, rfl⟩
                · rw [if_neg (by omega)] at hQ
                  have t4 : (((vK l 2 : Int) / 2048) == 27) = false := by simp; omega
                  have hvb := Hv.out 2
                  have hi32 : IntKind.i32.wrap (vK l 2 : Int) = vK l 2 := by unfold IntKind.wrap; simp [IntKind.bits, IntKind.signed]; omega
                  clear q1 q2 hvb
                  clear HQ2
                  generalize vK l 2 = u at *
                  subst hQ
                  go_wp2
                  go_ret2
                  exact ⟨rfl, rfl⟩
            · by_cases hk3 : k = 3
              · subst hk3
                rw [if_neg (show ¬ (((3 : Nat) : Int) = 2 ∧ (vK l 2 < 2048 ∨ vK l 2 / 2048 = 27)) by omega)] at hQ
                by_cases q1 : vK l 3 < 65536
                · rw [if_pos ⟨by omega, .inl q1⟩] at hQ
                  have t3 : decide ((vK l 3 : Int) < 65536) = true := by simp; omega
                  clear q1
                  clear HQ2
                  generalize vK l 3 = u at *
                  subst hQ
                  go_wp2
                  go_ret2
                  exact ⟨rfl, rfl⟩
                · have t3 : decide ((vK l 3 : Int) < 65536) = false := by simp; omega
                  by_cases q2 : 1114111 < vK l 3
                  · rw [if_pos ⟨by omega, .inr q2⟩] at hQ
                    have t4 : decide ((vK l 3 : Int) > 1114111) = true := by simp; omega
                    clear q1 q2
                    clear HQ2
                    generalize vK l 3 = u at *
                    subst hQ
                    go_wp2
                    go_ret2
                    exact ⟨rfl, rfl⟩
                  · rw [if_neg (by omega)] at hQ
                    have t4 : decide ((vK l 3 : Int) > 1114111) = false := by simp; omega
                    have hvb := Hv.out 3
                    have hi32 : IntKind.i32.wrap (vK l 3 : Int) = vK l 3 := by unfold IntKind.wrap; simp [IntKind.bits, IntKind.signed]; omega
                    clear q1 q2 hvb
                    clear HQ2
                    generalize vK l 3 = u at *
                    subst hQ
                    go_wp2
                    go_ret2
                    exact ⟨rfl, rfl⟩
              · rw [if_neg (by omega), if_neg (by omega)] at hQ
                have t3 : ((k : Int) == 2) = false := beq_eq_false_iff_ne.2 (by omega)
                have t4 : ((k : Int) == 3) = false := beq_eq_false_iff_ne.2 (by omega)
                have hvb := Hv.out k
                have hk1 : 64 ^ k ≤ 64 ^ 3 := Nat.pow_le_pow_right (by decide) (by omega)
                have hi32 : IntKind.i32.wrap (vK l k : Int) = vK l k := by unfold IntKind.wrap; simp [IntKind.bits, IntKind.signed]; omega
                clear hk2 hk3 HQ2 hvb hk1
                generalize vK l k = u at *
                subst hQ
                go_wp2
                go_ret2
                exact ⟨rfl, rfl⟩
end Go.Proofs.Ytpalmpfkliepfaa.Ut

namespace Go.Proofs.Ytpalmpfkliepfaa.Ut
open Go.RowKit
set_option linter.unusedVariables false
set_option linter.unusedSimpArgs false

theorem ret_bool {a b : Bool} (h : a = b) : Ending.returned (.bool a) = .returned (.bool b) := by rw [h]
theorem ret_i64 {a b : Int} (h : a = b) : Ending.returned (.int .i64 a) = .returned (.int .i64 b) := by rw [h]

def lenOfV : Value → Nat
  | .slice _ n _ => n
  | .string s => s.size
  | _ => 0

/-- The state of the bytes that are left. -/
def LeftN (w : World) (v : Value) (r : List Nat) : Prop := ∃ a c, v = .slice a r.length c ∧ RdN w a r ∧ r.length ≤ c ∧ ∀ x ∈ r, x < 256

theorem LeftN.cut {w : World} {a : Option Addr} {c b off : Nat} {r : List Nat} {n : Nat} (ha : a = some ⟨b, off, none⟩) (hr : RdN w a r) (hc : r.length ≤ c) (hx : ∀ x ∈ r, x < 256) (hn : n ≤ r.length) :
    (¬ c = n → LeftN w (.slice (some ⟨b, off + n, none⟩) (r.length - n) (c - n)) (r.drop n)) ∧ (c = n → ∀ a', LeftN w (.slice a' 0 0) (r.drop n)) := by
  refine ⟨fun h => ⟨_, c - n, by rw [List.length_drop], fun j hj => ?_, by rw [List.length_drop]; omega, fun x hxm => hx x (List.mem_of_mem_drop hxm)⟩, fun h a' => ?_⟩
  · rw [List.length_drop] at hj
    obtain ⟨b', off', e, hcell, hb⟩ := hr (n + j) (by omega)
    rw [ha] at e
    simp at e
    obtain ⟨rfl, rfl⟩ := e
    refine ⟨b, off + n, rfl, ?_, hb⟩
    rw [Nat.add_assoc, hcell]
    simp [List.getD_eq_getElem?_getD, List.getElem?_drop]
  · have : r.drop n = [] := List.drop_eq_nil_of_le (by omega)
    rw [this]
    exact ⟨a', 0, rfl, fun j hj => absurd hj (by simp), Nat.le_refl _, fun x h => by cases h⟩

theorem rdN_some {w : World} {a : Option Addr} {r : List Nat} (hr : RdN w a r) (h : 0 < r.length) : ∃ b off, a = some ⟨b, off, none⟩ := by
  obtain ⟨b, off, e, _⟩ := hr 0 h
  exact ⟨b, off, e⟩

set_option maxHeartbeats 1000000 in
set_option maxRecDepth 100000 in
theorem right_any (l : List Nat) (v : Value) (w : World) (h : LeftN w v l) (hlm : l.length ≤ 9223372036854775807) : Calls Try.prog 84 #[v] w fun e w' => e = .returned (.bool (decide (0 ≤ cnt l))) ∧ w = w' := by
  obtain ⟨a, c, rfl, hr, hc, hx⟩ := h
  have H0 : Hid (LeftN w (.slice a l.length c) l) := hid ⟨a, c, rfl, hr, hc, hx⟩
  clear hr hc hx
  go_enter Try.func84, Try.ntmps84
  go_wp2
  go_loop [0, 3, 4] (fun s _ _ => ∃ r : List Nat, Hid (LeftN w s r) ∧ r.length ≤ l.length ∧ Hid (decide (0 ≤ cnt l) = decide (0 ≤ cnt r))) (fun s _ _ => lenOfV s)
  case atStart => exact ⟨l, H0, Nat.le_refl _, hid rfl⟩
  case round =>
    obtain ⟨r, HL, hle, He⟩ := hrel
    obtain ⟨a', c', rfl, hr, hc, hx⟩ := HL.out
    clear HL
    by_cases h0 : r.length = 0
    · have he := He.out
      have hr0 : r = [] := List.eq_nil_of_length_eq_zero h0
      rw [hr0, show decide (0 ≤ cnt []) = true from rfl] at he
      have Hres := hid he
      have t : decide ((r.length : Int) > 0) = false := by simp; omega
      have t' : decide ((0 : Int) < r.length) = false := by simp; omega
      clear hr hx hr0 he
      go_wp2
      go_ret
      exact ⟨ret_bool Hres.out.symm, rfl⟩
    · have t' : decide ((0 : Int) < r.length) = true := by simp; omega
      have hne : r ≠ [] := fun e => h0 (by rw [e]; rfl)
      obtain ⟨b, off, ha⟩ := rdN_some hr (by omega)
      have hsnd := first_snd r
      have Hcut := hid (LeftN.cut (n := (firstP r).2) ha hr hc hx hsnd)
      have Hf := hid (first_any r a' c' w hx hr hc (by omega))
      have Hbad := hid (fun h => cnt_bad hne h)
      have Hst := hid (fun h => cnt_step hne h)
      subst ha
      clear hr hx hne
      obtain ⟨p, hp⟩ : ∃ p, firstP r = p := ⟨_, rfl⟩
      rw [hp] at Hcut Hf Hbad Hst hsnd
      obtain ⟨v, n⟩ := p
      simp only at Hcut Hf Hbad Hst hsnd
      clear hp
      go_wp2_with fail
      refine Hf.out.mono ?_
      rintro e w' ⟨rfl, rfl⟩
      by_cases hn : n = 0
      · subst hn
        have he := He.out
        rw [Hbad.out rfl] at he
        rw [show decide (0 ≤ (-1 : Int)) = false from rfl] at he
        have Hres := hid he
        clear he
        go_wp2
        go_ret
        exact ⟨ret_bool Hres.out.symm, rfl⟩
      · have t2 : ((n : Int) == 0) = false := beq_eq_false_iff_ne.2 (by omega)
        have hst := Hst.out hn
        have he2 : decide (0 ≤ cnt r) = decide (0 ≤ cnt (r.drop n)) := by
          rw [hst]
          have := cnt_ge (r.drop n)
          by_cases q : cnt (r.drop n) < 0
          · rw [if_pos q]; simp; omega
          · rw [if_neg q]; simp; omega
        have He2 : Hid (decide (0 ≤ cnt l) = decide (0 ≤ cnt (r.drop n))) := hid (He.out.trans he2)
        have Hlen : Hid ((r.drop n).length ≤ l.length) := hid (by rw [List.length_drop]; omega)
        clear hst he2 Hst Hbad
        by_cases hcn : c' = n
        · have hc2 := Hcut.out.2 hcn
          have Hc2 := hid hc2
          have hrn : r.length - n = 0 := by omega
          clear hc2
          subst hcn
          go_wp2
          go_round
          case rel => exact ⟨_, hid (Hc2.out _), Hlen.out, He2⟩
          case measure => simp [lenOfV]; omega
        · have Hc2 := hid (Hcut.out.1 hcn)
          go_wp2
          go_round
          case rel => exact ⟨_, hid Hc2.out, Hlen.out, He2⟩
          case measure => simp [lenOfV]; omega
end Go.Proofs.Ytpalmpfkliepfaa.Ut

namespace Go.Proofs.Ytpalmpfkliepfaa.Ut
open Go.RowKit
set_option linter.unusedVariables false
set_option linter.unusedSimpArgs false

/-- A string's bytes. -/
def bl (s : ByteArray) : List Nat := s.data.toList.map UInt8.toNat
theorem bl_length (s : ByteArray) : (bl s).length = s.size := by unfold bl; rw [List.length_map, Array.length_toList]; rfl
theorem bl_lt (s : ByteArray) : ∀ x ∈ bl s, x < 256 := by
  intro x hx
  obtain ⟨u, _, rfl⟩ := List.mem_map.1 hx
  exact UInt8.toNat_lt u
theorem bl_getD (s : ByteArray) (j : Nat) (h : j < s.size) : (bl s).getD j 0 = (s.data.toList.getD j 0).toNat := by
  have : j < s.data.toList.length := by rw [Array.length_toList]; exact h
  simp [bl, List.getD_eq_getElem?_getD, List.getElem?_map, List.getElem?_eq_getElem this]
theorem bl_inj {s t : ByteArray} (h : bl s = bl t) : s = t := by
  unfold bl at h
  have h2 := (List.map_inj_right (f := UInt8.toNat) (fun a b hab => UInt8.toNat_inj.1 hab)).1 h
  cases s; cases t
  simp at h2
  rw [h2]

theorem below_bytes (w : World) (s : ByteArray) : Below w.heap.size w (Lib.bytesWorld w 5 s) := by
  refine ⟨?_, ?_, ?_, by rw [Lib.bytesWorld_size]; omega, fun k hk => Lib.bytesWorld_at_old w _ s k hk⟩ <;> simp [Lib.bytesWorld, World.freeze, World.alloc, World.drew, -World.alloc_eq, -World.drew_eq]

theorem left_bytes (w : World) (s : ByteArray) : LeftN (Lib.bytesWorld w 5 s) (.slice (some ⟨w.heap.size, 0, none⟩) s.size (grownCap w s.size 0 5)) (bl s) := by
  refine ⟨_, _, by rw [bl_length], fun j hj => ⟨w.heap.size, 0, rfl, ?_, by rw [Lib.bytesWorld_size]; omega⟩, by rw [bl_length]; exact grownCap_ge _ _ _ _, bl_lt s⟩
  rw [bl_length] at hj
  rw [Nat.zero_add, Lib.bytesWorld_cell w _ s j hj, bl_getD s j hj]

/-- What Check answers. -/
def checkF (s : ByteArray) : Int := if 200 < s.size then 13 else if 0 ≤ cnt (bl s) then 0 else 4

set_option maxHeartbeats 1000000 in
set_option maxRecDepth 100000 in
theorem check_any (s : ByteArray) (w : World) (hs : s.size ≤ 1000000) : Calls Try.prog 56 #[.string s] w fun e w' => e = .returned (.int .i64 (checkF s)) ∧ Below w.heap.size w w' := by
  have hcv := fun w => Lib.run_convert_string_bytes (P := Try.prog) w 9 43 5 s Try.underlying9 Try.underlying43 Try.underlying5
  have hr := right_any (bl s) _ _ (left_bytes w s) (by rw [bl_length]; omega)
  have hB := below_bytes w s
  unfold checkF
  by_cases h1 : 200 < s.size
  · rw [if_pos h1]
    have t : decide ((s.size : Int) > 200) = true := by simp; omega
    clear hcv hr hB
    go_enter Try.func56, Try.ntmps56
    go_wp2
    go_ret
    exact ⟨rfl, Below.refl _ _⟩
  · rw [if_neg h1]
    have t : decide ((s.size : Int) > 200) = false := by simp; omega
    have Hr := hid hr; have HB := hid hB
    clear hr hB h1
    by_cases h2 : 0 ≤ cnt (bl s)
    · rw [if_pos h2]
      have Hd := hid (decide_eq_true h2)
      clear h2
      go_enter Try.func56, Try.ntmps56
      go_wp2_with fail
      refine Hr.out.mono ?_
      rintro e w1 ⟨rfl, rfl⟩
      rw [Hd.out]
      go_wp2
      go_ret
      exact ⟨rfl, HB.out⟩
    · rw [if_neg h2]
      have Hd := hid (decide_eq_false h2)
      clear h2
      go_enter Try.func56, Try.ntmps56
      go_wp2_with fail
      refine Hr.out.mono ?_
      rintro e w1 ⟨rfl, rfl⟩
      rw [Hd.out]
      go_wp2
      go_ret
      exact ⟨rfl, HB.out⟩

end Go.Proofs.Ytpalmpfkliepfaa.Ut

namespace Go.Proofs.Ytpalmpfkliepfaa.Ut
open Go.RowKit
set_option linter.unusedVariables false
set_option linter.unusedSimpArgs false

def strN (l : List Nat) : ByteArray := strOfNums (l.map fun (x : Nat) => (x : Int))
theorem bl_strN (l : List Nat) (h : ∀ x ∈ l, x < 256) : bl (strN l) = l := by
  unfold bl strN
  rw [strOfNums_data, List.map_map, List.map_map]
  conv => rhs; rw [← List.map_id l]
  apply List.map_congr_left
  intro x hx
  have := h x hx
  simp
  omega

theorem cell_one_row (w : World) (l : List Value) (e : TypeId) (i : Nat) : (w.alloc (.cells l.toArray e)).cell? ⟨w.heap.size, i, none⟩ = l[i]? := by
  have h : (w.alloc (.cells l.toArray e)).heap[w.heap.size]? = some (.cells l.toArray e (0, 0)) := by
    unfold World.alloc
    exact Array.getElem?_push_size
  rw [cell_of_row _ _ i _ _ _ h]
  simp

/-- A sign's bytes, as a string. -/
def encS (c : Int) : ByteArray := if c < 0 then ⟨#[]⟩ else strN (encB c.toNat)

set_option maxHeartbeats 1000000 in
set_option maxRecDepth 100000 in
theorem refBytes_any (c : Int) (w : World) (h1 : -9223372036854775808 ≤ c) (h2 : c ≤ 9223372036854775807) : Calls Try.prog 99 #[.int .i64 c] w fun e w' => e = .returned (.string (encS c)) ∧ Below w.heap.size w w' := by
  unfold encS
  by_cases h0 : c < 0
  · rw [if_pos h0]
    have t0 : decide (c < 0) = true := by simp [h0]
    go_enter Try.func99, Try.ntmps99
    go_wp2
    go_ret
    exact ⟨rfl, Below.refl _ _⟩
  · rw [if_neg h0]
    obtain ⟨n, rfl⟩ := Int.eq_ofNat_of_zero_le (show 0 ≤ c by omega)
    rw [Int.toNat_natCast]
    have t0 : decide ((n : Int) < 0) = false := by simp
    clear h0
    have hbel := fun k => (Below.refl w.heap.size w).alloc (Nat.le_refl _) (.cells k 5)
    have hcv : ∀ l : List Nat, (convert 43 9 (.slice (some ⟨w.heap.size, 0, none⟩) l.length l.length)).run Try.prog (w.alloc (.cells (l.map fun (x : Nat) => Value.int .u8 x).toArray 5)) = .ok (.string (strN l)) (w.alloc (.cells (l.map fun (x : Nat) => Value.int .u8 x).toArray 5)) := by
      intro l
      refine run_convert_bytes_arg _ 43 5 Try.underlying43 Try.underlying5 w.heap.size 0 l.length l.length (l.map fun (x : Nat) => (x : Int)) (by simp) (fun i hi => ?_) 9 Try.underlying9
      rw [Nat.zero_add, cell_one_row w _ 5 i]
      simp [hi]
    rcases encB_cases n with ⟨e, g⟩ | ⟨e, g⟩ | ⟨e, g⟩ | ⟨e, g⟩ | ⟨e, g⟩
    · rw [e]
      clear hcv
      by_cases q : 1114111 < n
      · have t1 : decide ((n : Int) > 1114111) = true := by simp; omega
        clear e g q
        go_enter Try.func99, Try.ntmps99
        go_wp2
        go_ret
        exact ⟨rfl, Below.refl _ _⟩
      · have t1 : decide ((n : Int) > 1114111) = false := by simp; omega
        have t2 : decide (55296 ≤ (n : Int)) = true := by simp; omega
        have t4 : decide ((n : Int) ≤ 57343) = true := by simp; omega
        clear e g q
        go_enter Try.func99, Try.ntmps99
        go_wp2
        go_ret
        exact ⟨rfl, Below.refl _ _⟩
    · rw [e]
      have t1 : decide ((n : Int) > 1114111) = false := by simp; omega
      have t2 : decide (55296 ≤ (n : Int)) = false := by simp; omega
      have t3 : decide ((n : Int) < 128) = true := by simp; omega
      have hc1 := hcv [n]
      simp only [List.map_cons, List.map_nil, List.length_cons, List.length_nil, Nat.zero_add, Nat.reduceAdd, Int.natCast_add, Int.natCast_ediv, Int.natCast_emod, Int.cast_ofNat_Int] at hc1
      clear hcv
      have Hb := hid hbel
      clear e hbel
      go_enter Try.func99, Try.ntmps99
      go_wp2
      go_ret
      exact ⟨rfl, Hb.out _⟩
    · rw [e]
      have t1 : decide ((n : Int) > 1114111) = false := by simp; omega
      have t2 : decide (55296 ≤ (n : Int)) = false := by simp; omega
      have t3 : decide ((n : Int) < 128) = false := by simp; omega
      have t5 : decide ((n : Int) < 2048) = true := by simp; omega
      have hc1 := hcv [192 + n / 64, 128 + n % 64]
      simp only [List.map_cons, List.map_nil, List.length_cons, List.length_nil, Nat.zero_add, Nat.reduceAdd, Int.natCast_add, Int.natCast_ediv, Int.natCast_emod, Int.cast_ofNat_Int] at hc1
      clear hcv
      have Hb := hid hbel
      clear e hbel
      go_enter Try.func99, Try.ntmps99
      go_wp2
      go_ret
      exact ⟨rfl, Hb.out _⟩
    · rw [e]
      by_cases q : 55296 ≤ n
      · have t1 : decide ((n : Int) > 1114111) = false := by simp; omega
        have t3 : decide ((n : Int) < 128) = false := by simp; omega
        have t5 : decide ((n : Int) < 2048) = false := by simp; omega
        have t6 : decide ((n : Int) < 65536) = true := by simp; omega
        have t2 : decide (55296 ≤ (n : Int)) = true := by simp; omega
        have t4 : decide ((n : Int) ≤ 57343) = false := by simp; omega
        have hc1 := hcv [224 + n / 4096, 128 + n / 64 % 64, 128 + n % 64]
        simp only [List.map_cons, List.map_nil, List.length_cons, List.length_nil, Nat.zero_add, Nat.reduceAdd, Int.natCast_add, Int.natCast_ediv, Int.natCast_emod, Int.cast_ofNat_Int] at hc1
        clear hcv
        have Hb := hid hbel
        clear e hbel
        go_enter Try.func99, Try.ntmps99
        go_wp2
        go_ret
        exact ⟨rfl, Hb.out _⟩
      · have t1 : decide ((n : Int) > 1114111) = false := by simp; omega
        have t3 : decide ((n : Int) < 128) = false := by simp; omega
        have t5 : decide ((n : Int) < 2048) = false := by simp; omega
        have t6 : decide ((n : Int) < 65536) = true := by simp; omega
        have t2 : decide (55296 ≤ (n : Int)) = false := by simp; omega
        have hc1 := hcv [224 + n / 4096, 128 + n / 64 % 64, 128 + n % 64]
        simp only [List.map_cons, List.map_nil, List.length_cons, List.length_nil, Nat.zero_add, Nat.reduceAdd, Int.natCast_add, Int.natCast_ediv, Int.natCast_emod, Int.cast_ofNat_Int] at hc1
        clear hcv
        have Hb := hid hbel
        clear e hbel
        go_enter Try.func99, Try.ntmps99
        go_wp2
        go_ret
        exact ⟨rfl, Hb.out _⟩
    · rw [e]
      have t1 : decide ((n : Int) > 1114111) = false := by simp; omega
      have t3 : decide ((n : Int) < 128) = false := by simp; omega
      have t5 : decide ((n : Int) < 2048) = false := by simp; omega
      have t6 : decide ((n : Int) < 65536) = false := by simp; omega
      have t2 : decide (55296 ≤ (n : Int)) = true := by simp; omega
      have t4 : decide ((n : Int) ≤ 57343) = false := by simp; omega
      have hc1 := hcv [240 + n / 262144, 128 + n / 4096 % 64, 128 + n / 64 % 64, 128 + n % 64]
      simp only [List.map_cons, List.map_nil, List.length_cons, List.length_nil, Nat.zero_add, Nat.reduceAdd, Int.natCast_add, Int.natCast_ediv, Int.natCast_emod, Int.cast_ofNat_Int] at hc1
      clear hcv
      have Hb := hid hbel
      clear e hbel
      go_enter Try.func99, Try.ntmps99
      go_wp2
      go_ret
      exact ⟨rfl, Hb.out _⟩
end Go.Proofs.Ytpalmpfkliepfaa.Ut

namespace Go.Proofs.Ytpalmpfkliepfaa.Ut
open Go.RowKit
set_option linter.unusedVariables false
set_option linter.unusedSimpArgs false

theorem encS_nat (n : Nat) : encS (n : Int) = strN (encB n) := by unfold encS; rw [if_neg (by omega)]; rfl

def postsRF (s : ByteArray) (u n : Nat) (q : Bool) : List (Value → World → Prop) := [
    fun x _ => x = .int .i64 u,
    fun x _ => x = .string (strN (encB u)),
    fun x _ => x = .string s,
    fun x _ => x = .int .i64 n,
    fun x _ => x = .string (s.extract 0 n),
    fun x _ => x = .bool q]

theorem refV_lt (l : List Nat) (h : ∀ x ∈ l, x < 256) (n : Nat) : ∀ k, refV l n k < 256 * 64 ^ k
  | 0 => by
    have h0 : l.getD 0 0 < 256 := by
      by_cases hl : 0 < l.length
      · rw [List.getD_eq_getElem?_getD, List.getElem?_eq_getElem hl]; exact h _ (List.getElem_mem hl)
      · rw [List.getD_eq_getElem?_getD, List.getElem?_eq_none (by omega)]; simp
    simp only [refV, Nat.pow_zero, Nat.mul_one]
    split
    · exact h0
    · exact Nat.lt_of_le_of_lt (Nat.mod_le _ _) h0
  | k + 1 => by
    have := refV_lt l h n k
    simp only [refV, Nat.pow_succ]
    have h2 : l.getD (k + 1) 0 % 64 < 64 := Nat.mod_lt _ (by decide)
    omega

theorem str_toList (s t : ByteArray) : (s.toList == t.toList) = decide (s = t) := by
  rw [ByteArray.toList_eq, ByteArray.toList_eq]
  cases s; cases t
  rename_i a b
  by_cases h : a = b
  · subst h; simp
  · have h2 : a.toList ≠ b.toList := fun e => h (Array.ext' e)
    simp [h]

theorem str_eq (s : ByteArray) (L : List Nat) (n : Nat) (hL : ∀ x ∈ L, x < 256) (hn : n ≤ s.size) : ((strN L).toList == (s.extract 0 n).toList) = decide (L = (bl s).take n) := by
  have hb : bl (s.extract 0 n) = (bl s).take n := by
    unfold bl
    rw [← List.map_take]
    congr 1
    rw [ByteArray.data_extract, Array.toList_extract]
    rw [List.extract_eq_take_drop]
    rfl
  rw [str_toList]
  by_cases h : L = (bl s).take n
  · rw [decide_eq_true h]
    exact decide_eq_true (bl_inj (by rw [bl_strN L hL, hb, h]))
  · rw [decide_eq_false h]
    exact decide_eq_false (fun e => h (by rw [← hb, ← e, bl_strN L hL]))

set_option maxHeartbeats 4000000 in
set_option maxRecDepth 100000 in
theorem refFirst_any (s : ByteArray) (w : World) (hs : s.size ≤ 1000000) : Calls Try.prog 80 #[.string s] w fun e w' => e = .returned (.tuple #[.int .i64 (firstP (bl s)).1, .int .i64 (firstP (bl s)).2]) ∧ Below w.heap.size w w' := by
  rw [first_eq _ (bl_lt s), try_eq]
  have hll := bl_length s
  have hlt := bl_lt s
  obtain ⟨l, hl⟩ : ∃ l, bl s = l := ⟨_, rfl⟩
  obtain ⟨p, hp⟩ : ∃ p, tryF (bl s) 1 4 = p := ⟨_, rfl⟩
  rw [hp]
  rw [hl] at hll hlt hp
  have Hl := hid hl; have Hlt := hid hlt; have Hp := hid hp
  have hby : ∀ j (h : j < s.size), (s[j]'h).toNat = l.getD j 0 := by
    intro j h
    have h2 : j < s.data.toList.length := by rw [Array.length_toList]; exact h
    rw [← Hl.out, bl_getD s j h, List.getD_eq_getElem?_getD, List.getElem?_eq_getElem h2]
    rfl
  have Hby := hid hby
  have hlt0 : ∀ j, l.getD j 0 < 256 := by
    intro j
    by_cases hj : j < l.length
    · rw [List.getD_eq_getElem?_getD, List.getElem?_eq_getElem hj]; exact hlt _ (List.getElem_mem hj)
    · rw [List.getD_eq_getElem?_getD, List.getElem?_eq_none (by omega)]; simp
  have Hlt0 := hid hlt0
  have Hrl := hid (refV_lt l hlt)
  clear hl hlt hp hby hlt0
  go_enter Try.func80, Try.ntmps80
  go_wp2
  go_loopw [4, 5, 6] (fun n _ _ wr => ∃ k : Nat, n = .int .i64 (k + 1 : Nat) ∧ k ≤ 4 ∧ Below w.heap.size w wr ∧ Hid (tryF l (k + 1) (4 - k) = p)) (fun n _ _ _ => 6 - (intOf n).toNat)
  case atStart => exact ⟨0, rfl, by omega, Below.refl _ _, Hp⟩
  case round =>
    obtain ⟨k, rfl, hk4, hb, Hq⟩ := hrel
    obtain ⟨wo, rfl⟩ : ∃ wo : World, wo = wr := ⟨_, rfl⟩
    by_cases hks : k + 1 ≤ s.size ∧ k < 4
    · have hsz := hks.1
      rcases (by omega : k = 0 ∨ k = 1 ∨ k = 2 ∨ k = 3) with rfl | rfl | rfl | rfl
      all_goals clear hks hk4
      · have h0 := Hby.out 0 (by omega)
        have hx0 := Hlt0.out 0
        have hv0 : refV l 1 0 = l.getD 0 0 := rfl
        rw [← hv0] at h0 hx0
        clear hv0
        have Hx0 := hid hx0
        go_wp2
        go_loop [5, 6] (fun v i => i = .int .i64 1 ∧ v = .int .i64 (refV l 1 0 : Nat)) (fun _ _ => 0)
        case atStart => exact ⟨rfl, rfl⟩
        case round =>
          obtain ⟨rfl, rfl⟩ := hrel
          have hq0 := str_eq s (encB (refV l 1 0)) 1 (encB_lt _) hsz
          rw [Hl.out] at hq0
          obtain ⟨q, hqd⟩ : ∃ q : Bool, decide (encB (refV l 1 0) = l.take 1) = q := ⟨_, rfl⟩
          rw [hqd] at hq0
          have hu := Hrl.out 1 0
          have Hq2 : Hid (p = if q = true then (refV l 1 0, 1) else tryF l (1 + 1) (4 - 1)) := hid (by
            have := Hq.out
            rw [tryF, if_pos (by omega)] at this
            rw [← this, show 1 - 1 = 0 from rfl]
            by_cases hh : encB (refV l 1 0) = l.take 1
            · rw [if_pos hh, ← hqd, decide_eq_true hh, if_pos rfl]
            · rw [if_neg hh, ← hqd, decide_eq_false hh, if_neg (by simp)])
          have Hq := hid hq0
          clear hq0 hqd
          generalize refV l 1 0 = u at *
          go_wp2
          refine wp_region_rg (fun w' => Below wo.heap.size wo w') (fun w w' => Below w.heap.size w w') (postsRF s u 1 q)
              [[], [0], [], [], [2, 3], [1, 4]]
              49 (by kernel_rfl) rfl (by kernel_rfl) rfl ?rg0 ?rgC ?rgP ?rgS ?rgQ
          case rgP => exact ⟨kept_eq, kept_eq, kept_eq, kept_eq, kept_eq, kept_eq, trivial⟩
          case rgS =>
            intro V
            refine rgGoals_cons 1 (by intro v; simp only [Act.put, List.setIfInBounds_toArray, List.set_cons_zero, List.set_cons_succ]; exact rfl) rfl (fun w hC hd K hK => ?_) ?_
            · clear hd
              go_simp; exact hK _ _ (Below.refl _ _) rfl
            refine rgGoals_cons 2 (by intro v; simp only [Act.put, List.setIfInBounds_toArray, List.set_cons_zero, List.set_cons_succ]; exact rfl) rfl (fun w hC hd K hK => ?_) ?_
            · obtain ⟨h0, _⟩ := hd
              replace h0 : V 0 = .int .i64 u := h0
              simp only [h0] at hK
              go_simp
              refine (refBytes_any u w (by omega) (by omega)).mono ?_
              rintro e w' ⟨rfl, hb'⟩
              rw [encS_nat]
              exact hK _ _ hb' rfl
            refine rgGoals_cons 3 (by intro v; simp only [Act.put, List.setIfInBounds_toArray, List.set_cons_zero, List.set_cons_succ]; exact rfl) rfl (fun w hC hd K hK => ?_) ?_
            · clear hd
              go_simp; exact hK _ _ (Below.refl _ _) rfl
            refine rgGoals_cons 4 (by intro v; simp only [Act.put, List.setIfInBounds_toArray, List.set_cons_zero, List.set_cons_succ]; exact rfl) rfl (fun w hC hd K hK => ?_) ?_
            · clear hd
              go_simp; exact hK _ _ (Below.refl _ _) rfl
            refine rgGoals_cons 5 (by intro v; simp only [Act.put, List.setIfInBounds_toArray, List.set_cons_zero, List.set_cons_succ]; exact rfl) rfl (fun w hC hd K hK => ?_) ?_
            · obtain ⟨h2, h3, _⟩ := hd
              replace h2 : V 2 = .string s := h2
              replace h3 : V 3 = .int .i64 1 := h3
              simp only [h2, h3] at hK
              have hns : (1 : Int) ≤ s.size := by omega
              have hn0 : (0 : Int) ≤ 1 := by omega
              go_simp
              exact hK _ _ (Below.refl _ _) rfl
            refine rgGoals_cons 6 (by intro v; simp only [Act.put, List.setIfInBounds_toArray, List.set_cons_zero, List.set_cons_succ]; exact rfl) rfl (fun w hC hd K hK => ?_) ?_
            · obtain ⟨h1, h4, _⟩ := hd
              replace h1 : V 1 = .string (strN (encB u)) := h1
              replace h4 : V 4 = .string (s.extract 0 1) := h4
              simp only [h1, h4] at hK
              go_simp
              rw [Hq.out]
              exact hK _ _ (Below.refl _ _) rfl
            trivial
          case rg0 => exact below_drewN (Below.refl _ _) 1
          case rgC => intro a b h1 h2; exact h1.trans (h2.mono h1.size)
          case rgQ =>
            intro V wu hC hp
            have h5 : V 5 = .bool q := postsHold_at hp 5 rfl
            simp only [putAll, Act.put, List.setIfInBounds_toArray, List.set_cons_zero, List.set_cons_succ]
            simp only [Nat.reduceAdd, h5]
            have HC := hid (hb.trans (hC.mono hb.size))
            clear hC hp h5
            cases q with
            | true =>
              have hpe := Hq2.out
              rw [if_pos rfl] at hpe
              subst hpe
              go_wp2
              go_ret2
              exact ⟨rfl, HC.out⟩
            | false =>
              have hpe := Hq2.out
              rw [if_neg (by simp)] at hpe
              have Hpe := hid hpe
              clear hpe
              go_wp2
              go_roundw
              case rel => exact ⟨1, rfl, by omega, HC.out, hid Hpe.out.symm⟩
              case measure => simp [intOf]
      · have h0 := Hby.out 0 (by omega)
        have hx0 := Hlt0.out 0
        have hv0 : refV l 2 0 = l.getD 0 0 % 32 := rfl
        have Hv0 := hid hv0
        generalize l.getD 0 0 = x0 at *
        clear hv0
        go_wp2
        go_loop [5, 6] (fun v i => ∃ j : Nat, j ≤ 1 ∧ i = .int .i64 (j + 1 : Nat) ∧ v = .int .i64 (refV l 2 j : Nat)) (fun _ i => 2 - (intOf i).toNat)
        case atStart => exact ⟨0, by omega, rfl, by rw [Hv0.out]; simp⟩
        case round =>
          obtain ⟨j, hj, rfl, rfl⟩ := hrel
          by_cases hjk : j < 1
          · have h1 := Hby.out (j + 1) (by omega)
            have hx1 := Hlt0.out (j + 1)
            have hvs : refV l 2 (j + 1) = refV l 2 j * 64 + l.getD (j + 1) 0 % 64 := rfl
            have hub := Hrl.out 2 j
            have hp3 : 64 ^ j ≤ 64 ^ 3 := Nat.pow_le_pow_right (by decide) (by omega)
            have hub2 : refV l 2 j < 100000000 := by omega
            generalize l.getD (j + 1) 0 = y at *
            have Hvs := hid hvs
            clear hvs hub hp3
            generalize refV l 2 j = u at *
            go_wp2
            go_round
            case rel => exact ⟨j + 1, by omega, by go_num, by rw [Hvs.out]; simp⟩
            case measure => simp [intOf]; omega
          · obtain rfl : j = 1 := by omega
            have hq0 := str_eq s (encB (refV l 2 1)) 2 (encB_lt _) hsz
            rw [Hl.out] at hq0
            obtain ⟨q, hqd⟩ : ∃ q : Bool, decide (encB (refV l 2 1) = l.take 2) = q := ⟨_, rfl⟩
            rw [hqd] at hq0
            have hu := Hrl.out 2 1
            have Hq2 : Hid (p = if q = true then (refV l 2 1, 2) else tryF l (2 + 1) (4 - 2)) := hid (by
              have := Hq.out
              rw [tryF, if_pos (by omega)] at this
              rw [← this, show 2 - 1 = 1 from rfl]
              by_cases hh : encB (refV l 2 1) = l.take 2
              · rw [if_pos hh, ← hqd, decide_eq_true hh, if_pos rfl]
              · rw [if_neg hh, ← hqd, decide_eq_false hh, if_neg (by simp)])
            have Hq := hid hq0
            clear hq0 hqd
            generalize refV l 2 1 = u at *
            go_wp2
            refine wp_region_rg (fun w' => Below wo.heap.size wo w') (fun w w' => Below w.heap.size w w') (postsRF s u 2 q)
                [[], [0], [], [], [2, 3], [1, 4]]
                49 (by kernel_rfl) rfl (by kernel_rfl) rfl ?rg0 ?rgC ?rgP ?rgS ?rgQ
            case rgP => exact ⟨kept_eq, kept_eq, kept_eq, kept_eq, kept_eq, kept_eq, trivial⟩
            case rgS =>
              intro V
              refine rgGoals_cons 1 (by intro v; simp only [Act.put, List.setIfInBounds_toArray, List.set_cons_zero, List.set_cons_succ]; exact rfl) rfl (fun w hC hd K hK => ?_) ?_
              · clear hd
                go_simp; exact hK _ _ (Below.refl _ _) rfl
              refine rgGoals_cons 2 (by intro v; simp only [Act.put, List.setIfInBounds_toArray, List.set_cons_zero, List.set_cons_succ]; exact rfl) rfl (fun w hC hd K hK => ?_) ?_
              · obtain ⟨h0, _⟩ := hd
                replace h0 : V 0 = .int .i64 u := h0
                simp only [h0] at hK
                go_simp
                refine (refBytes_any u w (by omega) (by omega)).mono ?_
                rintro e w' ⟨rfl, hb'⟩
                rw [encS_nat]
                exact hK _ _ hb' rfl
              refine rgGoals_cons 3 (by intro v; simp only [Act.put, List.setIfInBounds_toArray, List.set_cons_zero, List.set_cons_succ]; exact rfl) rfl (fun w hC hd K hK => ?_) ?_
              · clear hd
                go_simp; exact hK _ _ (Below.refl _ _) rfl
              refine rgGoals_cons 4 (by intro v; simp only [Act.put, List.setIfInBounds_toArray, List.set_cons_zero, List.set_cons_succ]; exact rfl) rfl (fun w hC hd K hK => ?_) ?_
              · clear hd
                go_simp; exact hK _ _ (Below.refl _ _) rfl
              refine rgGoals_cons 5 (by intro v; simp only [Act.put, List.setIfInBounds_toArray, List.set_cons_zero, List.set_cons_succ]; exact rfl) rfl (fun w hC hd K hK => ?_) ?_
              · obtain ⟨h2, h3, _⟩ := hd
                replace h2 : V 2 = .string s := h2
                replace h3 : V 3 = .int .i64 2 := h3
                simp only [h2, h3] at hK
                have hns : (2 : Int) ≤ s.size := by omega
                have hn0 : (0 : Int) ≤ 2 := by omega
                go_simp
                exact hK _ _ (Below.refl _ _) rfl
              refine rgGoals_cons 6 (by intro v; simp only [Act.put, List.setIfInBounds_toArray, List.set_cons_zero, List.set_cons_succ]; exact rfl) rfl (fun w hC hd K hK => ?_) ?_
              · obtain ⟨h1, h4, _⟩ := hd
                replace h1 : V 1 = .string (strN (encB u)) := h1
                replace h4 : V 4 = .string (s.extract 0 2) := h4
                simp only [h1, h4] at hK
                go_simp
                rw [Hq.out]
                exact hK _ _ (Below.refl _ _) rfl
              trivial
            case rg0 => exact below_drewN (Below.refl _ _) 1
            case rgC => intro a b h1 h2; exact h1.trans (h2.mono h1.size)
            case rgQ =>
              intro V wu hC hp
              have h5 : V 5 = .bool q := postsHold_at hp 5 rfl
              simp only [putAll, Act.put, List.setIfInBounds_toArray, List.set_cons_zero, List.set_cons_succ]
              simp only [Nat.reduceAdd, h5]
              have HC := hid (hb.trans (hC.mono hb.size))
              clear hC hp h5
              cases q with
              | true =>
                have hpe := Hq2.out
                rw [if_pos rfl] at hpe
                subst hpe
                go_wp2
                go_ret2
                exact ⟨rfl, HC.out⟩
              | false =>
                have hpe := Hq2.out
                rw [if_neg (by simp)] at hpe
                have Hpe := hid hpe
                clear hpe
                go_wp2
                go_roundw
                case rel => exact ⟨2, rfl, by omega, HC.out, hid Hpe.out.symm⟩
                case measure => simp [intOf]
      · have h0 := Hby.out 0 (by omega)
        have hx0 := Hlt0.out 0
        have hv0 : refV l 3 0 = l.getD 0 0 % 16 := rfl
        have Hv0 := hid hv0
        generalize l.getD 0 0 = x0 at *
        clear hv0
        go_wp2
        go_loop [5, 6] (fun v i => ∃ j : Nat, j ≤ 2 ∧ i = .int .i64 (j + 1 : Nat) ∧ v = .int .i64 (refV l 3 j : Nat)) (fun _ i => 3 - (intOf i).toNat)
        case atStart => exact ⟨0, by omega, rfl, by rw [Hv0.out]; simp⟩
        case round =>
          obtain ⟨j, hj, rfl, rfl⟩ := hrel
          by_cases hjk : j < 2
          · have h1 := Hby.out (j + 1) (by omega)
            have hx1 := Hlt0.out (j + 1)
            have hvs : refV l 3 (j + 1) = refV l 3 j * 64 + l.getD (j + 1) 0 % 64 := rfl
            have hub := Hrl.out 3 j
            have hp3 : 64 ^ j ≤ 64 ^ 3 := Nat.pow_le_pow_right (by decide) (by omega)
            have hub2 : refV l 3 j < 100000000 := by omega
            generalize l.getD (j + 1) 0 = y at *
            have Hvs := hid hvs
            clear hvs hub hp3
            generalize refV l 3 j = u at *
            go_wp2
            go_round
            case rel => exact ⟨j + 1, by omega, by go_num, by rw [Hvs.out]; simp⟩
            case measure => simp [intOf]; omega
          · obtain rfl : j = 2 := by omega
            have hq0 := str_eq s (encB (refV l 3 2)) 3 (encB_lt _) hsz
            rw [Hl.out] at hq0
            obtain ⟨q, hqd⟩ : ∃ q : Bool, decide (encB (refV l 3 2) = l.take 3) = q := ⟨_, rfl⟩
            rw [hqd] at hq0
            have hu := Hrl.out 3 2
            have Hq2 : Hid (p = if q = true then (refV l 3 2, 3) else tryF l (3 + 1) (4 - 3)) := hid (by
              have := Hq.out
              rw [tryF, if_pos (by omega)] at this
              rw [← this, show 3 - 1 = 2 from rfl]
              by_cases hh : encB (refV l 3 2) = l.take 3
              · rw [if_pos hh, ← hqd, decide_eq_true hh, if_pos rfl]
              · rw [if_neg hh, ← hqd, decide_eq_false hh, if_neg (by simp)])
            have Hq := hid hq0
            clear hq0 hqd
            generalize refV l 3 2 = u at *
            go_wp2
            refine wp_region_rg (fun w' => Below wo.heap.size wo w') (fun w w' => Below w.heap.size w w') (postsRF s u 3 q)
                [[], [0], [], [], [2, 3], [1, 4]]
                49 (by kernel_rfl) rfl (by kernel_rfl) rfl ?rg0 ?rgC ?rgP ?rgS ?rgQ
            case rgP => exact ⟨kept_eq, kept_eq, kept_eq, kept_eq, kept_eq, kept_eq, trivial⟩
            case rgS =>
              intro V
              refine rgGoals_cons 1 (by intro v; simp only [Act.put, List.setIfInBounds_toArray, List.set_cons_zero, List.set_cons_succ]; exact rfl) rfl (fun w hC hd K hK => ?_) ?_
              · clear hd
                go_simp; exact hK _ _ (Below.refl _ _) rfl
              refine rgGoals_cons 2 (by intro v; simp only [Act.put, List.setIfInBounds_toArray, List.set_cons_zero, List.set_cons_succ]; exact rfl) rfl (fun w hC hd K hK => ?_) ?_
              · obtain ⟨h0, _⟩ := hd
                replace h0 : V 0 = .int .i64 u := h0
                simp only [h0] at hK
                go_simp
                refine (refBytes_any u w (by omega) (by omega)).mono ?_
                rintro e w' ⟨rfl, hb'⟩
                rw [encS_nat]
                exact hK _ _ hb' rfl
              refine rgGoals_cons 3 (by intro v; simp only [Act.put, List.setIfInBounds_toArray, List.set_cons_zero, List.set_cons_succ]; exact rfl) rfl (fun w hC hd K hK => ?_) ?_
              · clear hd
                go_simp; exact hK _ _ (Below.refl _ _) rfl
              refine rgGoals_cons 4 (by intro v; simp only [Act.put, List.setIfInBounds_toArray, List.set_cons_zero, List.set_cons_succ]; exact rfl) rfl (fun w hC hd K hK => ?_) ?_
              · clear hd
                go_simp; exact hK _ _ (Below.refl _ _) rfl
              refine rgGoals_cons 5 (by intro v; simp only [Act.put, List.setIfInBounds_toArray, List.set_cons_zero, List.set_cons_succ]; exact rfl) rfl (fun w hC hd K hK => ?_) ?_
              · obtain ⟨h2, h3, _⟩ := hd
                replace h2 : V 2 = .string s := h2
                replace h3 : V 3 = .int .i64 3 := h3
                simp only [h2, h3] at hK
                have hns : (3 : Int) ≤ s.size := by omega
                have hn0 : (0 : Int) ≤ 3 := by omega
                go_simp
                exact hK _ _ (Below.refl _ _) rfl
              refine rgGoals_cons 6 (by intro v; simp only [Act.put, List.setIfInBounds_toArray, List.set_cons_zero, List.set_cons_succ]; exact rfl) rfl (fun w hC hd K hK => ?_) ?_
              · obtain ⟨h1, h4, _⟩ := hd
                replace h1 : V 1 = .string (strN (encB u)) := h1
                replace h4 : V 4 = .string (s.extract 0 3) := h4
                simp only [h1, h4] at hK
                go_simp
                rw [Hq.out]
                exact hK _ _ (Below.refl _ _) rfl
              trivial
            case rg0 => exact below_drewN (Below.refl _ _) 1
            case rgC => intro a b h1 h2; exact h1.trans (h2.mono h1.size)
            case rgQ =>
              intro V wu hC hp
              have h5 : V 5 = .bool q := postsHold_at hp 5 rfl
              simp only [putAll, Act.put, List.setIfInBounds_toArray, List.set_cons_zero, List.set_cons_succ]
              simp only [Nat.reduceAdd, h5]
              have HC := hid (hb.trans (hC.mono hb.size))
              clear hC hp h5
              cases q with
              | true =>
                have hpe := Hq2.out
                rw [if_pos rfl] at hpe
                subst hpe
                go_wp2
                go_ret2
                exact ⟨rfl, HC.out⟩
              | false =>
                have hpe := Hq2.out
                rw [if_neg (by simp)] at hpe
                have Hpe := hid hpe
                clear hpe
                go_wp2
                go_roundw
                case rel => exact ⟨3, rfl, by omega, HC.out, hid Hpe.out.symm⟩
                case measure => simp [intOf]
      · have h0 := Hby.out 0 (by omega)
        have hx0 := Hlt0.out 0
        have hv0 : refV l 4 0 = l.getD 0 0 % 8 := rfl
        have Hv0 := hid hv0
        generalize l.getD 0 0 = x0 at *
        clear hv0
        go_wp2
        go_loop [5, 6] (fun v i => ∃ j : Nat, j ≤ 3 ∧ i = .int .i64 (j + 1 : Nat) ∧ v = .int .i64 (refV l 4 j : Nat)) (fun _ i => 4 - (intOf i).toNat)
        case atStart => exact ⟨0, by omega, rfl, by rw [Hv0.out]; simp⟩
        case round =>
          obtain ⟨j, hj, rfl, rfl⟩ := hrel
          by_cases hjk : j < 3
          · have h1 := Hby.out (j + 1) (by omega)
            have hx1 := Hlt0.out (j + 1)
            have hvs : refV l 4 (j + 1) = refV l 4 j * 64 + l.getD (j + 1) 0 % 64 := rfl
            have hub := Hrl.out 4 j
            have hp3 : 64 ^ j ≤ 64 ^ 3 := Nat.pow_le_pow_right (by decide) (by omega)
            have hub2 : refV l 4 j < 100000000 := by omega
            generalize l.getD (j + 1) 0 = y at *
            have Hvs := hid hvs
            clear hvs hub hp3
            generalize refV l 4 j = u at *
            go_wp2
            go_round
            case rel => exact ⟨j + 1, by omega, by go_num, by rw [Hvs.out]; simp⟩
            case measure => simp [intOf]; omega
          · obtain rfl : j = 3 := by omega
            have hq0 := str_eq s (encB (refV l 4 3)) 4 (encB_lt _) hsz
            rw [Hl.out] at hq0
            obtain ⟨q, hqd⟩ : ∃ q : Bool, decide (encB (refV l 4 3) = l.take 4) = q := ⟨_, rfl⟩
            rw [hqd] at hq0
            have hu := Hrl.out 4 3
            have Hq2 : Hid (p = if q = true then (refV l 4 3, 4) else tryF l (4 + 1) (4 - 4)) := hid (by
              have := Hq.out
              rw [tryF, if_pos (by omega)] at this
              rw [← this, show 4 - 1 = 3 from rfl]
              by_cases hh : encB (refV l 4 3) = l.take 4
              · rw [if_pos hh, ← hqd, decide_eq_true hh, if_pos rfl]
              · rw [if_neg hh, ← hqd, decide_eq_false hh, if_neg (by simp)])
            have Hq := hid hq0
            clear hq0 hqd
            generalize refV l 4 3 = u at *
            go_wp2
            refine wp_region_rg (fun w' => Below wo.heap.size wo w') (fun w w' => Below w.heap.size w w') (postsRF s u 4 q)
                [[], [0], [], [], [2, 3], [1, 4]]
                49 (by kernel_rfl) rfl (by kernel_rfl) rfl ?rg0 ?rgC ?rgP ?rgS ?rgQ
            case rgP => exact ⟨kept_eq, kept_eq, kept_eq, kept_eq, kept_eq, kept_eq, trivial⟩
            case rgS =>
              intro V
              refine rgGoals_cons 1 (by intro v; simp only [Act.put, List.setIfInBounds_toArray, List.set_cons_zero, List.set_cons_succ]; exact rfl) rfl (fun w hC hd K hK => ?_) ?_
              · clear hd
                go_simp; exact hK _ _ (Below.refl _ _) rfl
              refine rgGoals_cons 2 (by intro v; simp only [Act.put, List.setIfInBounds_toArray, List.set_cons_zero, List.set_cons_succ]; exact rfl) rfl (fun w hC hd K hK => ?_) ?_
              · obtain ⟨h0, _⟩ := hd
                replace h0 : V 0 = .int .i64 u := h0
                simp only [h0] at hK
                go_simp
                refine (refBytes_any u w (by omega) (by omega)).mono ?_
                rintro e w' ⟨rfl, hb'⟩
                rw [encS_nat]
                exact hK _ _ hb' rfl
              refine rgGoals_cons 3 (by intro v; simp only [Act.put, List.setIfInBounds_toArray, List.set_cons_zero, List.set_cons_succ]; exact rfl) rfl (fun w hC hd K hK => ?_) ?_
              · clear hd
                go_simp; exact hK _ _ (Below.refl _ _) rfl
              refine rgGoals_cons 4 (by intro v; simp only [Act.put, List.setIfInBounds_toArray, List.set_cons_zero, List.set_cons_succ]; exact rfl) rfl (fun w hC hd K hK => ?_) ?_
              · clear hd
                go_simp; exact hK _ _ (Below.refl _ _) rfl
              refine rgGoals_cons 5 (by intro v; simp only [Act.put, List.setIfInBounds_toArray, List.set_cons_zero, List.set_cons_succ]; exact rfl) rfl (fun w hC hd K hK => ?_) ?_
              · obtain ⟨h2, h3, _⟩ := hd
                replace h2 : V 2 = .string s := h2
                replace h3 : V 3 = .int .i64 4 := h3
                simp only [h2, h3] at hK
                have hns : (4 : Int) ≤ s.size := by omega
                have hn0 : (0 : Int) ≤ 4 := by omega
                go_simp
                exact hK _ _ (Below.refl _ _) rfl
              refine rgGoals_cons 6 (by intro v; simp only [Act.put, List.setIfInBounds_toArray, List.set_cons_zero, List.set_cons_succ]; exact rfl) rfl (fun w hC hd K hK => ?_) ?_
              · obtain ⟨h1, h4, _⟩ := hd
                replace h1 : V 1 = .string (strN (encB u)) := h1
                replace h4 : V 4 = .string (s.extract 0 4) := h4
                simp only [h1, h4] at hK
                go_simp
                rw [Hq.out]
                exact hK _ _ (Below.refl _ _) rfl
              trivial
            case rg0 => exact below_drewN (Below.refl _ _) 1
            case rgC => intro a b h1 h2; exact h1.trans (h2.mono h1.size)
            case rgQ =>
              intro V wu hC hp
              have h5 : V 5 = .bool q := postsHold_at hp 5 rfl
              simp only [putAll, Act.put, List.setIfInBounds_toArray, List.set_cons_zero, List.set_cons_succ]
              simp only [Nat.reduceAdd, h5]
              have HC := hid (hb.trans (hC.mono hb.size))
              clear hC hp h5
              cases q with
              | true =>
                have hpe := Hq2.out
                rw [if_pos rfl] at hpe
                subst hpe
                go_wp2
                go_ret2
                exact ⟨rfl, HC.out⟩
              | false =>
                have hpe := Hq2.out
                rw [if_neg (by simp)] at hpe
                have Hpe := hid hpe
                clear hpe
                go_wp2
                go_roundw
                case rel => exact ⟨4, rfl, by omega, HC.out, hid Hpe.out.symm⟩
                case measure => simp [intOf]
    · have hpe : p = (0, 0) := by
        rw [← Hq.out]
        by_cases hk : k < 4
        · rw [show 4 - k = (3 - k) + 1 by omega, tryF, if_neg (by omega)]
        · rw [show 4 - k = 0 by omega, tryF]
      subst hpe
      by_cases hk : k < 4
      · have t1 : decide ((k : Int) + 1 ≤ 4) = true := by simp; omega
        have t2 : decide ((k : Int) + 1 ≤ s.size) = false := by simp; omega
        clear hks Hq Hp
        go_wp2
        go_ret2
        exact ⟨rfl, hb⟩
      · have t1 : decide ((k : Int) + 1 ≤ 4) = false := by simp; omega
        clear hks Hq Hp
        go_wp2
        go_ret2
        exact ⟨rfl, hb⟩
theorem bl_drop (s : ByteArray) (n : Nat) : bl (s.extract n s.size) = (bl s).drop n := by
  unfold bl
  rw [← List.map_drop]
  congr 1
  rw [ByteArray.data_extract, Array.toList_extract, List.extract_eq_take_drop]
  rw [List.take_of_length_le]
  rw [List.length_drop, Array.length_toList]
  exact Nat.le_refl _

theorem size_drop (s : ByteArray) (n : Nat) : (s.extract n s.size).size = s.size - n := by rw [← bl_length, bl_drop, List.length_drop, bl_length]

set_option maxHeartbeats 1000000 in
set_option maxRecDepth 100000 in
theorem refCount_any (s : ByteArray) (w : World) (hs : s.size ≤ 1000000) : Calls Try.prog 51 #[.string s] w fun e w' => e = .returned (.int .i64 (cnt (bl s))) ∧ Below w.heap.size w w' := by
  go_enter Try.func51, Try.ntmps51
  go_wp2
  go_loopw [0, 3, 4, 5] (fun v k _ _ wr => ∃ (r : ByteArray) (q : Nat), v = .string r ∧ r.size + q ≤ s.size ∧ k = .int .i64 q ∧ Below w.heap.size w wr ∧ Hid (cnt (bl s) = if cnt (bl r) < 0 then -1 else cnt (bl r) + q)) (fun v _ _ _ _ => lenOfV v)
  case atStart => exact ⟨s, 0, rfl, by simp, rfl, Below.refl _ _, hid (by have := cnt_ge (bl s); split <;> omega)⟩
  case round =>
    obtain ⟨r, q, rfl, hle, rfl, hb, He⟩ := hrel
    have hbl := bl_length r
    by_cases h0 : r.size = 0
    · have he := He.out
      have hr0 : bl r = [] := List.eq_nil_of_length_eq_zero (by omega)
      rw [hr0, show cnt [] = 0 from rfl, if_neg (by omega)] at he
      have Hres : Hid (cnt (bl s) = q) := hid (by rw [he]; omega)
      have hre : r = ⟨#[]⟩ := by
        cases r with
        | mk a => rw [Array.eq_empty_of_size_eq_zero h0]
      clear hr0 he h0 He
      subst hre
      go_wp2
      go_ret
      exact ⟨ret_i64 Hres.out.symm, hb⟩
    · have t' : decide ((0 : Int) < r.size) = true := decide_eq_true (by omega)
      have hne : bl r ≠ [] := fun e => h0 (by rw [← hbl, e]; rfl)
      have hsnd := first_snd (bl r)
      have hbd := bl_drop r (firstP (bl r)).2
      have hsd := size_drop r (firstP (bl r)).2
      have Hf := hid (refFirst_any r wr (by omega))
      have Hbad := hid (fun h => cnt_bad hne h)
      have Hst := hid (fun h => cnt_step hne h)
      clear hne
      rw [hbl] at hsnd
      obtain ⟨p, hp⟩ : ∃ p, firstP (bl r) = p := ⟨_, rfl⟩
      rw [hp] at Hf Hbad Hst hsnd hbd hsd
      obtain ⟨v, n⟩ := p
      simp only at Hf Hbad Hst hsnd hbd hsd
      have Hbd := hid hbd; have Hsd := hid hsd
      clear hp hbd hsd hbl
      go_wp2_with fail
      refine Hf.out.mono ?_
      rintro e w1 ⟨rfl, hb1⟩
      by_cases hn : n = 0
      · subst hn
        have he := He.out
        rw [Hbad.out rfl, if_pos (by omega)] at he
        have Hres := hid he
        clear he
        go_wp2
        go_ret
        exact ⟨ret_i64 Hres.out.symm, hb.trans (hb1.mono hb.size)⟩
      · have t2 : ((n : Int) == 0) = false := beq_eq_false_iff_ne.2 (by omega)
        have hst := Hst.out hn
        have He2 : Hid (cnt (bl s) = if cnt (bl (r.extract n r.size)) < 0 then -1 else cnt (bl (r.extract n r.size)) + (q + 1 : Nat)) := by
          have he := He.out
          rw [hst] at he
          have := cnt_ge ((bl r).drop n)
          show _ = _
          rw [he, Hbd.out]
          by_cases q1 : cnt ((bl r).drop n) < 0
          · simp [q1]
          · simp [q1]; omega
        have hnr : (n : Int) ≤ r.size := by omega
        clear hst Hst Hbad
        go_wp2
        go_roundw
        case rel => exact ⟨_, q + 1, rfl, by rw [Hsd.out]; omega, by go_num, hb.trans (hb1.mono hb.size), He2⟩
        case measure => simp only [lenOfV]; rw [Hsd.out]; omega

end Go.Proofs.Ytpalmpfkliepfaa.Ut

namespace Go.Proofs.Ytpalmpfkliepfaa
open Go.RowKit
set_option linter.unusedVariables false
set_option linter.unusedSimpArgs false

/-- The elements of a slice that is only read: one cell each. -/
def SrcV (w : World) (a : Option Addr) (m : Nat) (news : List Value) : Prop :=
  news.length = m ∧ ∀ j u, news[j]? = some u → ∃ b off, a = some ⟨b, off, none⟩ ∧ w.cell? ⟨b, off + j, none⟩ = some u ∧ b < w.heap.size

theorem SrcV.ext {w w' : World} {a : Option Addr} {m : Nat} {news : List Value} (h : SrcV w a m news) (hb : Below w.heap.size w w') : SrcV w' a m news :=
  ⟨h.1, fun j u hj => let ⟨b, off, ha, hc, hl⟩ := h.2 j u hj; ⟨b, off, ha, (hb.cell (p := ⟨b, off + j, none⟩) hl).trans hc, Nat.lt_of_lt_of_le hl hb.size⟩⟩

theorem appends_run {P : Program} {w : World} {t e bytes : Nat} {z : Value} (ht : P.underlying t = some (.slice e)) (hinfo : (P.info? e).map (fun i => (i.zero, i.size, i.bytes)) = some (some z, 1, bytes)) (hz : z.cells.size = 1) (hb1 : 1 ≤ bytes)
    {base n : Nat} {v : Value} {xs : List Value} (hown : w.ownsRow base e 1 v n xs) (hbase : base ≤ w.heap.size) {a : Option Addr} {m c : Nat} {news : List Value} (hsrc : SrcV w a m news) (h1 : ∀ u ∈ news, u.oneCell' = true) (hbytes : (n + m) * bytes ≤ 140737488355328) (hnil : m = 0 → a = none → c = 0) :
    ∃ v' w', (∀ ty, (Builtin.append_ #[t, t] ty #[v, .slice a m c]).run P w = .ok v' w') ∧ w'.ownsRow base e 1 v' (n + m) (xs ++ news) ∧ Below base w w' ∧ w.heap.size ≤ w'.heap.size := by
  obtain ⟨i, hi, hz0, hs, hby⟩ := info_parts hinfo
  have hle : n + m ≤ (n + m) * bytes := Nat.le_mul_of_pos_right _ hb1
  cases a with
  | none =>
    have hm : m = 0 := by
      rcases Nat.eq_zero_or_pos m with h | h
      · exact h
      · obtain ⟨b, off, ha, _⟩ := hsrc.2 0 (news[0]'(by have := hsrc.1; omega)) (List.getElem?_eq_getElem _)
        cases ha
    subst hm
    obtain rfl : c = 0 := hnil rfl rfl
    have hn : news = [] := List.eq_nil_of_length_eq_zero hsrc.1
    subst hn
    exact ⟨v, w, fun ty => run_append_owned_none w base t ty e i 1 ht hi v n xs hown, by simpa using hown, Below.refl _ _, Nat.le_refl _⟩
  | some ad =>
    have key : ∀ ty, ∃ v' w', (Builtin.append_ #[t, t] ty #[v, .slice (some ad) m c]).run P w = .ok v' w' ∧ w'.ownsRow base e 1 v' (n + m) (xs ++ news) ∧ Below base w w' ∧ w.heap.size ≤ w'.heap.size := by
      intro ty
      obtain ⟨v', w', hr, h2, h3, _⟩ := run_append_own (P := P) w base t ty e i z 1 bytes ht hi hz0 hs hby hz (by decide) v n xs hown
        ad m c news (by have := hsrc.1; omega) (fun j u hj => by
          obtain ⟨b, off, ha, hc, _⟩ := hsrc.2 j u hj
          cases ha
          have e1 : (⟨b, off, none⟩ : Addr).add j = ⟨b, off + j, none⟩ := by unfold Addr.add; split <;> simp_all
          rw [e1]; exact hc) h1 (by unfold maxLen; omega) hbytes hbase
      exact ⟨v', w', hr, h2, (Below.refl _ _).grown h3 hbase (fun k hk => (hown.lt k hk).1), h3.size⟩
    obtain ⟨v', w', hr, h⟩ := key 0
    refine ⟨v', w', fun ty => ?_, h⟩
    rw [← hr]; rfl

/-- A slice appended to a row of the call's own, as a law of the walk. -/
theorem wpList_apps {P : Program} {w : World} {t e bytes : Nat} {z : Value} (ht : P.underlying t = some (.slice e)) (hinfo : (P.info? e).map (fun i => (i.zero, i.size, i.bytes)) = some (some z, 1, bytes)) (hz : z.cells.size = 1) (hb1 : 1 ≤ bytes)
    {base n : Nat} {v : Value} {xs : List Value} (hown : w.ownsRow base e 1 v n xs) (hbase : base ≤ w.heap.size) {ad : Option Addr} {m c : Nat} {news : List Value} (hsrc : SrcV w ad m news) (h1 : ∀ u ∈ news, u.oneCell' = true) (hbytes : (n + m) * bytes ≤ 140737488355328) (hnil : m = 0 → ad = none → c = 0)
    {ops : Array Oper} {rest : List Oper} {o : Oper} {a : Act} {Q : Exit → Act → World → Prop} {s x : Operand}
    (hgd : o.guard = none) (ho : o.op = .call { callee := .builtin .append, args := #[s, x], argTypes := #[t, t] }) (hs : a.eval s = v) (hx : a.eval x = .slice ad m c)
    (h : ∀ v' w', w'.ownsRow base e 1 v' (n + m) (xs ++ news) → Below base w w' → w.heap.size ≤ w'.heap.size → wpList P ops Q rest (a.put o.dst v') w') : wpList P ops Q (o :: rest) a w := by
  obtain ⟨v', w', hr, h2, h3, h4⟩ := appends_run (P := P) ht hinfo hz hb1 hown hbase hsrc h1 hbytes hnil
  exact wpList_app hr hgd ho hs hx (h v' w' h2 h3 h4)

/-- A block of its own, read. -/
theorem src_new {w : World} {e : Nat} {cs : List Value} {b : Nat} (h : w.heap[b]? = some (.cells cs.toArray e (0, 0))) : SrcV w (some ⟨b, 0, none⟩) cs.length cs :=
  ⟨rfl, fun j u hj => ⟨b, 0, rfl, by rw [Nat.zero_add, cell_of_row w b j _ _ _ h]; simpa using hj, (Array.getElem?_eq_some_iff.1 h).1⟩⟩

theorem heap_last (w : World) (o : Obj) : (w.alloc o).heap[w.heap.size]? = some o := by
  unfold World.alloc
  exact Array.getElem?_push_size

theorem ownsRow_new {w : World} {base e b : Nat} {cs : List Value} (h : w.heap[b]? = some (.cells cs.toArray e (0, 0))) (hb : base ≤ b) (hm : cs.length ≤ maxLen) : w.ownsRow base e 1 (.slice (some ⟨b, 0, none⟩) cs.length cs.length) cs.length cs :=
  ⟨by simp, .inr ⟨b, cs.length, cs.toArray, rfl, hb, h, Nat.le_refl _, hm, by simp, by simp⟩⟩

theorem oneCell_ints {k : IntKind} {l : List Int} : ∀ u ∈ l.map (Value.int k), u.oneCell' = true := by
  intro u hu
  obtain ⟨x, _, rfl⟩ := List.mem_map.1 hu
  rfl
end Go.Proofs.Ytpalmpfkliepfaa

namespace Go.Proofs.Ytpalmpfkliepfaa.Ut
set_option linter.unusedVariables false
set_option linter.unusedSimpArgs false

def digN (n : Nat) : Nat := if n < 10 then 48 + n else 87 + n
def sh (c : Nat) : List Nat := if 32 ≤ c ∧ c ≤ 126 ∧ c ≠ 34 ∧ c ≠ 92 then [c] else [92, digN (c / 16), digN (c % 16)]
def showL (l : List Nat) : List Nat := 34 :: (l.flatMap sh ++ [34])
theorem sh_len (c : Nat) : (sh c).length ≤ 3 ∧ 1 ≤ (sh c).length := by unfold sh; split <;> simp
theorem digN_lt (n : Nat) (h : n < 16) : digN n < 256 := by unfold digN; split <;> omega
theorem sh_lt (c : Nat) (h : c < 256) : ∀ x ∈ sh c, x < 256 := by
  intro x hx
  unfold sh at hx
  have h1 := digN_lt (c / 16) (by omega)
  have h2 := digN_lt (c % 16) (by omega)
  split at hx
  · simp at hx; omega
  · simp at hx; omega
theorem flat_len (l : List Nat) : (l.flatMap sh).length ≤ 3 * l.length := by
  induction l with
  | nil => simp
  | cons a l ih =>
    have := (sh_len a).1
    simp only [List.flatMap_cons, List.length_append, List.length_cons]; omega
theorem flat_take (l : List Nat) (k : Nat) (h : k < l.length) : (l.take (k + 1)).flatMap sh = (l.take k).flatMap sh ++ sh (l.getD k 0) := by
  rw [List.take_succ_eq_append_getElem h, List.flatMap_append]
  simp [List.getD_eq_getElem?_getD, h]
theorem showL_lt (l : List Nat) (h : ∀ x ∈ l, x < 256) : ∀ x ∈ showL l, x < 256 := by
  intro x hx
  unfold showL at hx
  simp only [List.mem_cons, List.mem_append, List.mem_flatMap] at hx
  rcases hx with rfl | ⟨a, ha, hx⟩ | rfl | hx
  · omega
  · exact sh_lt a (h a ha) x hx
  · omega
  · cases hx

/-- A digit's value; -1. -/
def valI (c : Nat) : Int := if 48 ≤ c ∧ c ≤ 57 then (c : Int) - 48 else if 97 ≤ c ∧ c ≤ 102 then (c : Int) - 87 else -1
theorem val_dig (n : Nat) (h : n < 16) : valI (digN n) = n := by
  unfold valI digN
  split
  · rw [if_pos (by omega)]; omega
  · rw [if_neg (by omega), if_pos (by omega)]; omega

/-- As the program reads what stands between the quotes. -/
def decP : Nat → List Nat → Option (List Nat)
  | 0, _ => some []
  | _, [] => some []
  | f + 1, c :: r =>
    if c ≠ 92 then (decP f r).map (c :: ·) else
    match r with
    | a :: b :: r' => if valI a < 0 ∨ valI b < 0 then none else (decP f r').map (((valI a).toNat * 16 + (valI b).toNat) :: ·)
    | _ => none

theorem decP_flat : ∀ (o : List Nat) (f : Nat), (∀ x ∈ o, x < 256) → (o.flatMap sh).length ≤ f → decP f (o.flatMap sh) = some o
  | [], 0, _, _ => rfl
  | [], _ + 1, _, _ => rfl
  | c :: o, f, h, hf => by
    have hl := sh_len c
    simp only [List.flatMap_cons, List.length_append] at hf ⊢
    obtain ⟨f, rfl⟩ : ∃ g, f = g + 1 := ⟨f - 1, by omega⟩
    have ih := decP_flat o f (fun x hx => h x (by simp [hx])) (by omega)
    have hc : c < 256 := h c (by simp)
    unfold sh
    by_cases hs : 32 ≤ c ∧ c ≤ 126 ∧ c ≠ 34 ∧ c ≠ 92
    · rw [if_pos hs]
      simp only [List.singleton_append, decP]
      rw [if_pos hs.2.2.2]
      have := ih
      unfold sh at this
      rw [this]; rfl
    · rw [if_neg hs]
      simp only [List.cons_append, List.nil_append, decP]
      rw [if_neg (by simp), val_dig _ (by omega), val_dig _ (by omega), if_neg (by omega)]
      have := ih
      unfold sh at this
      rw [this]
      simp
      omega

/-- The first sign, from c on, whose text stands ahead. -/
def findR (l : List Nat) : Nat → Nat → Option Nat
  | _, 0 => none
  | c, f + 1 => if sh c = l.take (sh c).length then some c else findR l (c + 1) f

def decR : Nat → List Nat → Option (List Nat)
  | 0, _ => some []
  | _, [] => some []
  | f + 1, l => match findR l 0 256 with
    | none => none
    | some c => (decR f (l.drop (sh c).length)).map (c :: ·)

/-- No sign's text begins another one's. -/
theorem sh_free {c d : Nat} {r : List Nat} (hc : c < 256) (hd : d < 256) (h : sh d = (sh c ++ r).take (sh d).length) : d = c := by
  unfold sh at h
  have v1 := val_dig (c / 16) (by omega); have v2 := val_dig (c % 16) (by omega)
  have v3 := val_dig (d / 16) (by omega); have v4 := val_dig (d % 16) (by omega)
  by_cases h1 : 32 ≤ c ∧ c ≤ 126 ∧ c ≠ 34 ∧ c ≠ 92
  · by_cases h2 : 32 ≤ d ∧ d ≤ 126 ∧ d ≠ 34 ∧ d ≠ 92
    · rw [if_pos h1, if_pos h2] at h
      simpa using h
    · rw [if_pos h1, if_neg h2] at h
      simp at h
      omega
  · by_cases h2 : 32 ≤ d ∧ d ≤ 126 ∧ d ≠ 34 ∧ d ≠ 92
    · rw [if_neg h1, if_pos h2] at h
      simp at h
      omega
    · rw [if_neg h1, if_neg h2] at h
      simp at h
      obtain ⟨e1, e2⟩ := h
      rw [e1, v1] at v3
      rw [e2, v2] at v4
      omega

theorem findR_at {c : Nat} {r : List Nat} (hc : c < 256) : ∀ (f k : Nat), k ≤ c → c < k + f → k + f ≤ 256 → findR (sh c ++ r) k f = some c
  | 0, k, h1, h2, _ => by omega
  | f + 1, k, h1, h2, h3 => by
    unfold findR
    by_cases h : sh k = (sh c ++ r).take (sh k).length
    · have := sh_free hc (by omega) h
      rw [if_pos h, this]
    · rw [if_neg h]
      refine findR_at hc f (k + 1) ?_ (by omega) (by omega)
      by_cases hk : k = c
      · subst hk
        exact absurd (by rw [List.take_left]) h
      · omega

theorem decR_flat : ∀ (o : List Nat) (f : Nat), (∀ x ∈ o, x < 256) → (o.flatMap sh).length ≤ f → decR f (o.flatMap sh) = some o
  | [], 0, _, _ => rfl
  | [], _ + 1, _, _ => rfl
  | c :: o, f, h, hf => by
    have hl := sh_len c
    simp only [List.flatMap_cons, List.length_append] at hf ⊢
    obtain ⟨f, rfl⟩ : ∃ g, f = g + 1 := ⟨f - 1, by omega⟩
    have ih := decR_flat o f (fun x hx => h x (by simp [hx])) (by omega)
    have hc : c < 256 := h c (by simp)
    have hne : sh c ++ o.flatMap sh ≠ [] := by
      intro e
      have := congrArg List.length e
      rw [List.length_append, List.length_nil] at this; omega
    cases hq : sh c ++ o.flatMap sh with
    | nil => exact absurd hq hne
    | cons x y =>
      simp only [decR]
      rw [← hq, findR_at hc 256 0 (by omega) (by omega) (by omega)]
      simp only
      rw [List.drop_left, ih]
      rfl

/-- What both come to. -/
def readOf (d : Option (List Nat)) (s : List Nat) : List Nat × Bool := match d with
  | some o => if showL o = s then (o, true) else ([], false)
  | none => ([], false)

def inner (s : List Nat) : List Nat := (s.drop 1).take (s.length - 2)
theorem inner_show (o : List Nat) : inner (showL o) = o.flatMap sh := by
  unfold inner showL
  simp

def goodB (s : List Nat) : Bool := decide (2 ≤ s.length) && decide (s.getD 0 0 = 34) && decide (s.getD (s.length - 1) 0 = 34)
theorem good_show (o : List Nat) : goodB (showL o) = true := by
  unfold goodB showL
  simp [List.getElem?_cons, List.getElem?_append]

def readP (s : List Nat) : List Nat × Bool := if goodB s then readOf (decP s.length (inner s)) s else ([], false)
def readR (s : List Nat) : List Nat × Bool := readOf (decR s.length (inner s)) s

theorem decP_lt : ∀ (f : Nat) (l o : List Nat), (∀ x ∈ l, x < 256) → decP f l = some o → ∀ x ∈ o, x < 256
  | 0, l, o, h, he => by simp [decP] at he; subst he; simp
  | f + 1, [], o, h, he => by simp [decP] at he; subst he; simp
  | f + 1, c :: r, o, h, he => by
    unfold decP at he
    by_cases h1 : c ≠ 92
    · rw [if_pos h1] at he
      cases hd : decP f r with
      | none => rw [hd] at he; cases he
      | some o' =>
        rw [hd] at he
        simp at he; subst he
        have := decP_lt f r o' (fun x hx => h x (by simp [hx])) hd
        intro x hx
        rcases List.mem_cons.1 hx with rfl | hx
        · exact h _ (by simp)
        · exact this x hx
    · rw [if_neg h1] at he
      match r, he with
      | a :: b :: r', he =>
        simp only at he
        by_cases h2 : valI a < 0 ∨ valI b < 0
        · rw [if_pos h2] at he; cases he
        · rw [if_neg h2] at he
          cases hd : decP f r' with
          | none => rw [hd] at he; cases he
          | some o' =>
            rw [hd] at he
            simp at he; subst he
            have := decP_lt f r' o' (fun x hx => h x (by simp [hx])) hd
            intro x hx
            rcases List.mem_cons.1 hx with rfl | hx
            · have b1 : valI a < 16 := by unfold valI; repeat' (first | omega | split)
              have b2 : valI b < 16 := by unfold valI; repeat' (first | omega | split)
              omega
            · exact this x hx
      | [], he => cases he
      | [a], he => cases he

theorem findR_lt {l : List Nat} : ∀ (f k c : Nat), findR l k f = some c → c < k + f
  | 0, _, _, h => by cases h
  | f + 1, k, c, h => by
    unfold findR at h
    split at h
    · cases h; omega
    · have := findR_lt f (k + 1) c h; omega

theorem decR_lt : ∀ (f : Nat) (l o : List Nat), decR f l = some o → ∀ x ∈ o, x < 256
  | 0, l, o, he => by simp [decR] at he; subst he; simp
  | f + 1, [], o, he => by simp [decR] at he; subst he; simp
  | f + 1, c :: r, o, he => by
    unfold decR at he
    cases hf : findR (c :: r) 0 256 with
    | none => rw [hf] at he; cases he
    | some d =>
      rw [hf] at he
      simp only at he
      cases hd : decR f ((c :: r).drop (sh d).length) with
      | none => rw [hd] at he; cases he
      | some o' =>
        rw [hd] at he
        simp at he; subst he
        have := decR_lt f _ o' hd
        have h2 := findR_lt _ _ _ hf
        intro x hx
        rcases List.mem_cons.1 hx with rfl | hx
        · omega
        · exact this x hx

theorem read_show (o : List Nat) (h : ∀ x ∈ o, x < 256) : readP (showL o) = (o, true) ∧ readR (showL o) = (o, true) := by
  have hl : (o.flatMap sh).length ≤ (showL o).length := by unfold showL; rw [List.length_cons, List.length_append]; omega
  refine ⟨?_, ?_⟩
  · unfold readP
    rw [good_show, if_pos rfl, inner_show, decP_flat o _ h hl]
    simp [readOf]
  · unfold readR
    rw [inner_show, decR_flat o _ h hl]
    simp [readOf]

theorem read_eq (s : List Nat) (h : ∀ x ∈ s, x < 256) : readP s = readR s ∧ ((readP s).2 = true → showL (readP s).1 = s) := by
  by_cases hx : ∃ o, (∀ x ∈ o, x < 256) ∧ showL o = s
  · obtain ⟨o, ho, rfl⟩ := hx
    obtain ⟨h1, h2⟩ := read_show o ho
    rw [h1, h2]
    exact ⟨rfl, fun _ => rfl⟩
  · have hp : readP s = ([], false) := by
      unfold readP
      split
      · cases hd : decP s.length (inner s) with
        | none => rfl
        | some o =>
          simp only [readOf]
          rw [if_neg (fun e => hx ⟨o, decP_lt _ _ _ (fun x hx => h x (List.mem_of_mem_drop (List.mem_of_mem_take hx))) hd, e⟩)]
      · rfl
    have hr : readR s = ([], false) := by
      unfold readR
      cases hd : decR s.length (inner s) with
      | none => rfl
      | some o =>
        simp only [readOf]
        rw [if_neg (fun e => hx ⟨o, decR_lt _ _ _ hd, e⟩)]
    rw [hp, hr]
    exact ⟨rfl, fun h => by cases h⟩
end Go.Proofs.Ytpalmpfkliepfaa.Ut

namespace Go.Proofs.Ytpalmpfkliepfaa.Ut
open Go.RowKit
set_option linter.unusedVariables false
set_option linter.unusedSimpArgs false

theorem info8 : (Try.prog.info? 5).map (fun i => (i.zero, i.size, i.bytes)) = some (some (.int .u8 0), 1, 1) := by kernel_rfl

/-- Bytes as cells. -/
def bv (l : List Nat) : List Value := (l.map fun (x : Nat) => (x : Int)).map (Value.int .u8)
theorem bv_length (l : List Nat) : (bv l).length = l.length := by simp [bv]
theorem bv_app (l m : List Nat) : bv (l ++ m) = bv l ++ bv m := by simp [bv]
theorem bv_one (l : List Nat) : ∀ u ∈ bv l, u.oneCell' = true := oneCell_ints

set_option maxRecDepth 100000 in
theorem digit_any (n : Nat) (h : n < 16) (w : World) : Calls Try.prog 75 #[.int .u8 n] w fun e w' => e = .returned (.int .u8 (digN n)) ∧ w = w' := by
  unfold digN
  by_cases h1 : n < 10
  · rw [if_pos h1]
    have t : decide ((n : Int) < 10) = true := by simp; omega
    go_enter Try.func75, Try.ntmps75
    go_wp2
    go_ret
    exact ⟨by simp, rfl⟩
  · rw [if_neg h1]
    have t : decide ((n : Int) < 10) = false := by simp; omega
    go_enter Try.func75, Try.ntmps75
    go_wp2
    go_ret
    exact ⟨by simp; omega, rfl⟩

theorem show_end {w : World} {base e k n : Nat} {v : Value} {l : List Nat} (hall : l.take k = l) (h : w.ownsRow base e 1 v n (bv (34 :: (l.take k).flatMap sh) ++ [.int .u8 34])) : w.ownsRow base e 1 v n (((showL l).map fun (x : Nat) => (x : Int)).map (Value.int .u8)) := by
  rw [hall] at h
  have : ((showL l).map fun (x : Nat) => (x : Int)).map (Value.int .u8) = bv (34 :: l.flatMap sh) ++ [.int .u8 34] := by
    show bv (showL l) = _
    unfold showL
    rw [← List.cons_append, bv_app]
    rfl
  rw [this]; exact h
theorem and15 (y : Nat) (h : y < 256) : bits BinOp.and .u8 (y : Int) 15 = ((y % 16 : Nat) : Int) := (and_fin ⟨y, h⟩).2.1

set_option maxHeartbeats 1000000 in
set_option maxRecDepth 100000 in
theorem show_any (s : ByteArray) (w : World) (hs : s.size ≤ 1000000) : Calls Try.prog 41 #[.string s] w fun e w' => e = .returned (.string (strN (showL (bl s)))) ∧ Below w.heap.size w w' := by
  have hll := bl_length s
  have hlt := bl_lt s
  obtain ⟨l, hl⟩ : ∃ l, bl s = l := ⟨_, rfl⟩
  have hby : ∀ j (h : j < s.size), (s[j]'h).toNat = l.getD j 0 := by
    intro j h
    have h2 : j < s.data.toList.length := by rw [Array.length_toList]; exact h
    rw [← hl, bl_getD s j h, List.getD_eq_getElem?_getD, List.getElem?_eq_getElem h2]
    rfl
  rw [hl] at hll hlt ⊢
  have Hby := hid hby
  have hlt0 : ∀ j, l.getD j 0 < 256 := by
    intro j
    by_cases hj : j < l.length
    · rw [List.getD_eq_getElem?_getD, List.getElem?_eq_getElem hj]; exact hlt _ (List.getElem_mem hj)
    · rw [List.getD_eq_getElem?_getD, List.getElem?_eq_none (by omega)]; simp
  have Hlt0 := hid hlt0
  have hbel := (Below.refl w.heap.size w).alloc (Nat.le_refl _) (.cells #[.int .u8 34] 5)
  have hn0 := ownsRow_new (base := w.heap.size) (cs := [.int .u8 34]) (heap_last w (.cells #[.int .u8 34] 5)) (Nat.le_refl _) (by simp [maxLen])
  have Hbel := hid hbel; have Hn0 := hid hn0
  clear hl hby hlt hlt0 hbel hn0
  go_enter Try.func41, Try.ntmps41
  go_wp2
  go_loopw [3, 4, 5, 9] (fun v _ _ i wr => ∃ k : Nat, i = .int .i64 k ∧ k ≤ s.size ∧ Hid (wr.ownsRow w.heap.size 5 1 v (1 + ((l.take k).flatMap sh).length) (bv (34 :: (l.take k).flatMap sh))) ∧ Below w.heap.size w wr) (fun _ _ _ i _ => s.size - (intOf i).toNat)
  case atStart => exact ⟨0, rfl, Nat.zero_le _, Hn0, Hbel.out⟩
  case round =>
    obtain ⟨k, rfl, hk, Ho, hb⟩ := hrel
    have hsz := hb.size
    have hfl := flat_len (l.take k)
    have htk : (l.take k).length ≤ k := List.length_take_le _ _
    by_cases hks : k < s.size
    · have hy := Hby.out k hks
      have hylt := Hlt0.out k
      have hft := flat_take l k (by omega)
      generalize l.getD k 0 = y at *
      have Hft := hid hft
      have Hy := hid hylt
      clear hft
      by_cases hsh : 32 ≤ y ∧ y ≤ 126 ∧ y ≠ 34 ∧ y ≠ 92
      · have hshy : sh y = [y] := if_pos hsh
        obtain ⟨q1, q2, q3, q4⟩ := hsh
        have t1 : decide (32 ≤ (y : Int)) = true := by simp; omega
        have t2 : decide ((y : Int) ≤ 126) = true := by simp; omega
        have t3 : ((y : Int) != 34) = true := by simp; omega
        have t4 : ((y : Int) != 92) = true := by simp; omega
        have Hsh := hid hshy
        clear q1 q2 q3 q4 hshy
        go_wp2_with (at_builtin; refine wpList_push Try.underlying43 info8 rfl (by decide) Ho.out hsz (by omega) rfl rfl rfl rfl rfl ?_; intro v' w' hown' hb' hlt'; have Hown := hid hown'; clear hown')
        go_roundw
        case rel =>
          refine ⟨k + 1, by go_num, by omega, ?_, hb.trans hb'⟩
          have h1 := Hown.out
          show World.ownsRow _ _ _ _ _ _ _
          rw [Hft.out, Hsh.out, List.length_append, ← List.cons_append, bv_app]
          exact h1
        case measure => simp [intOf]; omega
      · have hshy : sh y = [92, digN (y / 16), digN (y % 16)] := if_neg hsh
        have e15 : bits BinOp.and .u8 (y : Int) 15 = ((y % 16 : Nat) : Int) := and15 y hylt
        have E4 : Hid ((y : Int) / 16 = ((y / 16 : Nat) : Int)) := hid (by omega)
        have E5 : Hid (((y % 16 : Nat) : Int) = (y : Int) % 16) := hid (by omega)
        have Hsh := hid hshy
        have d1 := fun w => digit_any (y / 16) (by omega) w
        have d2 := fun w => digit_any (y % 16) (by omega) w
        have D1 := hid d1; have D2 := hid d2
        clear d1 d2 hshy
        rcases (by omega : y < 32 ∨ (32 ≤ y ∧ 126 < y) ∨ y = 34 ∨ y = 92) with q | q | q | q
        · have t1 : decide (32 ≤ (y : Int)) = false := by simp; omega
          clear q hsh
          go_wp2_with fail
          rw [E4.out]
          refine (D1.out _).mono ?_
          rintro e w1 ⟨rfl, rfl⟩
          go_wp2_with fail
          refine (D2.out _).mono ?_
          rintro e w1 ⟨rfl, rfl⟩
          have hnb := heap_last wr (.cells #[.int .u8 92, .int .u8 (digN (y / 16)), .int .u8 (digN (y % 16))] 5)
          have hsrc := src_new (cs := bv [92, digN (y / 16), digN (y % 16)]) hnb
          have Hs := hid hsrc
          have Ho2 := hid (Ho.out.alloc (.cells #[.int .u8 92, .int .u8 (digN (y / 16)), .int .u8 (digN (y % 16))] 5))
          have hbel := (Below.refl wr.heap.size wr).alloc (Nat.le_refl _) (.cells #[.int .u8 92, .int .u8 (digN (y / 16)), .int .u8 (digN (y % 16))] 5)
          have Hbl := hid (hb.trans (hbel.mono hsz))
          have Hsz2 : Hid (w.heap.size ≤ (wr.alloc (.cells #[.int .u8 92, .int .u8 (digN (y / 16)), .int .u8 (digN (y % 16))] 5)).heap.size) := hid (by simp; omega)
          clear hnb hsrc hbel
          generalize digN (y / 16) = z1 at *
          generalize digN (y % 16) = z2 at *
          go_wp2_with (at_builtin; go_loud (refine wpList_apps Try.underlying43 info8 rfl (by decide) Ho2.out Hsz2.out Hs.out (bv_one _) (by rw [bv_length]; simp only [List.length_cons, List.length_nil]; omega) (by intro _ h; cases h) rfl rfl rfl rfl ?_; intro v' w' hown' hb' hlt'; have Hown := hid hown'; clear hown'))
          go_roundw
          case rel =>
            refine ⟨k + 1, by go_num, by omega, ?_, Hbl.out.trans hb'⟩
            have h1 := Hown.out
            show World.ownsRow _ _ _ _ _ _ _
            rw [Hft.out, Hsh.out, List.length_append, ← List.cons_append, bv_app]
            exact h1
          case measure => simp [intOf]; omega
        · have t1 : decide (32 ≤ (y : Int)) = true := by simp; omega
          have t2 : decide ((y : Int) ≤ 126) = false := by simp; omega
          clear q hsh
          go_wp2_with fail
          rw [E4.out]
          refine (D1.out _).mono ?_
          rintro e w1 ⟨rfl, rfl⟩
          go_wp2_with fail
          refine (D2.out _).mono ?_
          rintro e w1 ⟨rfl, rfl⟩
          have hnb := heap_last wr (.cells #[.int .u8 92, .int .u8 (digN (y / 16)), .int .u8 (digN (y % 16))] 5)
          have hsrc := src_new (cs := bv [92, digN (y / 16), digN (y % 16)]) hnb
          have Hs := hid hsrc
          have Ho2 := hid (Ho.out.alloc (.cells #[.int .u8 92, .int .u8 (digN (y / 16)), .int .u8 (digN (y % 16))] 5))
          have hbel := (Below.refl wr.heap.size wr).alloc (Nat.le_refl _) (.cells #[.int .u8 92, .int .u8 (digN (y / 16)), .int .u8 (digN (y % 16))] 5)
          have Hbl := hid (hb.trans (hbel.mono hsz))
          have Hsz2 : Hid (w.heap.size ≤ (wr.alloc (.cells #[.int .u8 92, .int .u8 (digN (y / 16)), .int .u8 (digN (y % 16))] 5)).heap.size) := hid (by simp; omega)
          clear hnb hsrc hbel
          generalize digN (y / 16) = z1 at *
          generalize digN (y % 16) = z2 at *
          go_wp2_with (at_builtin; go_loud (refine wpList_apps Try.underlying43 info8 rfl (by decide) Ho2.out Hsz2.out Hs.out (bv_one _) (by rw [bv_length]; simp only [List.length_cons, List.length_nil]; omega) (by intro _ h; cases h) rfl rfl rfl rfl ?_; intro v' w' hown' hb' hlt'; have Hown := hid hown'; clear hown'))
          go_roundw
          case rel =>
            refine ⟨k + 1, by go_num, by omega, ?_, Hbl.out.trans hb'⟩
            have h1 := Hown.out
            show World.ownsRow _ _ _ _ _ _ _
            rw [Hft.out, Hsh.out, List.length_append, ← List.cons_append, bv_app]
            exact h1
          case measure => simp [intOf]; omega
        · have t1 : decide (32 ≤ (y : Int)) = true := by simp; omega
          have t2 : decide ((y : Int) ≤ 126) = true := by simp; omega
          have t3 : ((y : Int) != 34) = false := by simp; omega
          clear q hsh
          go_wp2_with fail
          rw [E4.out]
          refine (D1.out _).mono ?_
          rintro e w1 ⟨rfl, rfl⟩
          go_wp2_with fail
          refine (D2.out _).mono ?_
          rintro e w1 ⟨rfl, rfl⟩
          have hnb := heap_last wr (.cells #[.int .u8 92, .int .u8 (digN (y / 16)), .int .u8 (digN (y % 16))] 5)
          have hsrc := src_new (cs := bv [92, digN (y / 16), digN (y % 16)]) hnb
          have Hs := hid hsrc
          have Ho2 := hid (Ho.out.alloc (.cells #[.int .u8 92, .int .u8 (digN (y / 16)), .int .u8 (digN (y % 16))] 5))
          have hbel := (Below.refl wr.heap.size wr).alloc (Nat.le_refl _) (.cells #[.int .u8 92, .int .u8 (digN (y / 16)), .int .u8 (digN (y % 16))] 5)
          have Hbl := hid (hb.trans (hbel.mono hsz))
          have Hsz2 : Hid (w.heap.size ≤ (wr.alloc (.cells #[.int .u8 92, .int .u8 (digN (y / 16)), .int .u8 (digN (y % 16))] 5)).heap.size) := hid (by simp; omega)
          clear hnb hsrc hbel
          generalize digN (y / 16) = z1 at *
          generalize digN (y % 16) = z2 at *
          go_wp2_with (at_builtin; go_loud (refine wpList_apps Try.underlying43 info8 rfl (by decide) Ho2.out Hsz2.out Hs.out (bv_one _) (by rw [bv_length]; simp only [List.length_cons, List.length_nil]; omega) (by intro _ h; cases h) rfl rfl rfl rfl ?_; intro v' w' hown' hb' hlt'; have Hown := hid hown'; clear hown'))
          go_roundw
          case rel =>
            refine ⟨k + 1, by go_num, by omega, ?_, Hbl.out.trans hb'⟩
            have h1 := Hown.out
            show World.ownsRow _ _ _ _ _ _ _
            rw [Hft.out, Hsh.out, List.length_append, ← List.cons_append, bv_app]
            exact h1
          case measure => simp [intOf]; omega
        · have t1 : decide (32 ≤ (y : Int)) = true := by simp; omega
          have t2 : decide ((y : Int) ≤ 126) = true := by simp; omega
          have t3 : ((y : Int) != 34) = true := by simp; omega
          have t4 : ((y : Int) != 92) = false := by simp; omega
          clear q hsh
          go_wp2_with fail
          rw [E4.out]
          refine (D1.out _).mono ?_
          rintro e w1 ⟨rfl, rfl⟩
          go_wp2_with fail
          refine (D2.out _).mono ?_
          rintro e w1 ⟨rfl, rfl⟩
          have hnb := heap_last wr (.cells #[.int .u8 92, .int .u8 (digN (y / 16)), .int .u8 (digN (y % 16))] 5)
          have hsrc := src_new (cs := bv [92, digN (y / 16), digN (y % 16)]) hnb
          have Hs := hid hsrc
          have Ho2 := hid (Ho.out.alloc (.cells #[.int .u8 92, .int .u8 (digN (y / 16)), .int .u8 (digN (y % 16))] 5))
          have hbel := (Below.refl wr.heap.size wr).alloc (Nat.le_refl _) (.cells #[.int .u8 92, .int .u8 (digN (y / 16)), .int .u8 (digN (y % 16))] 5)
          have Hbl := hid (hb.trans (hbel.mono hsz))
          have Hsz2 : Hid (w.heap.size ≤ (wr.alloc (.cells #[.int .u8 92, .int .u8 (digN (y / 16)), .int .u8 (digN (y % 16))] 5)).heap.size) := hid (by simp; omega)
          clear hnb hsrc hbel
          generalize digN (y / 16) = z1 at *
          generalize digN (y % 16) = z2 at *
          go_wp2_with (at_builtin; go_loud (refine wpList_apps Try.underlying43 info8 rfl (by decide) Ho2.out Hsz2.out Hs.out (bv_one _) (by rw [bv_length]; simp only [List.length_cons, List.length_nil]; omega) (by intro _ h; cases h) rfl rfl rfl rfl ?_; intro v' w' hown' hb' hlt'; have Hown := hid hown'; clear hown'))
          go_roundw
          case rel =>
            refine ⟨k + 1, by go_num, by omega, ?_, Hbl.out.trans hb'⟩
            have h1 := Hown.out
            show World.ownsRow _ _ _ _ _ _ _
            rw [Hft.out, Hsh.out, List.length_append, ← List.cons_append, bv_app]
            exact h1
          case measure => simp [intOf]; omega
    · obtain rfl : k = s.size := by omega
      have hall : l.take s.size = l := List.take_of_length_le (by omega)
      have Hall := hid hall
      clear hall
      go_wp2_with (at_builtin; go_loud (refine wpList_push Try.underlying43 info8 rfl (by decide) Ho.out hsz (by omega) rfl rfl rfl rfl rfl ?_; intro v' w' hown' hb' hlt'; have hfin := show_end Hall.out hown'; have hc := conv_row (dst := 9) Try.underlying43 Try.underlying5 Try.underlying9 hfin; clear hfin hown'))
      go_ret
      exact ⟨rfl, hb.trans hb'⟩
theorem bl_app (a b : ByteArray) : bl (a ++ b) = bl a ++ bl b := by
  unfold bl
  rw [← List.map_append]
  rw [ByteArray.data_append, Array.toList_append]

end Go.Proofs.Ytpalmpfkliepfaa.Ut

namespace Go.Proofs.Ytpalmpfkliepfaa
open Go.RowKit
set_option linter.unusedVariables false
set_option linter.unusedSimpArgs false

section
variable {P : Program} {ops : Array Oper} {C : World → Prop} {G : World → World → Prop} {posts : List (Value → World → Prop)} {dl : List (List Nat)} {N T : Nat} {a0 : Act}

theorem headInv_all {listed : Array Bool} (inv : HeadInv .any ops T listed) (h : ∀ i, i < T → listed[i]? = some true) (hT : T ≤ ops.size) : listed = (Array.range ops.size).map (fun i => decide (i < T)) := by
  apply Array.ext_getElem?
  intro j
  by_cases hj : j < T
  · rw [h j hj]; simp [show j < ops.size by omega, hj]
  · by_cases hjs : j < ops.size
    · have h1 := inv.tail j (by omega) hjs
      have hsz := inv.size
      rw [Array.getD_eq_getD_getElem?, Array.getElem?_eq_getElem (by omega)] at h1
      rw [Array.getElem?_eq_getElem (by omega)]
      simp at h1
      simp [hjs, hj, h1]
    · have hsz := inv.size
      rw [Array.getElem?_eq_none (by omega), Array.getElem?_eq_none (by simp; omega)]

end
end Go.Proofs.Ytpalmpfkliepfaa

namespace Go.Proofs.Ytpalmpfkliepfaa
open Go.RowKit
set_option linter.unusedVariables false
set_option linter.unusedSimpArgs false

theorem heap_alloc_last (w : World) (o : Obj) : (w.alloc o).heap[w.heap.size]? = some o := by
  unfold World.alloc
  exact Array.getElem?_push_size

end Go.Proofs.Ytpalmpfkliepfaa

namespace Go.Proofs.Ytpalmpfkliepfaa
open Go.RowKit
set_option linter.unusedVariables false
set_option linter.unusedSimpArgs false

end Go.Proofs.Ytpalmpfkliepfaa

namespace Go.Proofs.Ytpalmpfkliepfaa
open Go.RowKit
set_option linter.unusedVariables false
set_option linter.unusedSimpArgs false

section
variable {P : Program} {ops : Array Oper} {C : World → Prop} {G : World → World → Prop} {posts : List (Value → World → Prop)} {dl : List (List Nat)} {N T : Nat} {a0 : Act}

end
end Go.Proofs.Ytpalmpfkliepfaa

namespace Go.Proofs.Ytpalmpfkliepfaa
open Go.RowKit
set_option linter.unusedVariables false
set_option linter.unusedSimpArgs false

/-- A row that is cut. -/
theorem ownsRow_cut {w : World} {base e k n m cap : Nat} {a : Option Addr} {xs : List Value} (h : w.ownsRow base e k (.slice a n cap) n xs) (hm : m ≤ n) (hn : 0 < n) : w.ownsRow base e k (.slice a m cap) m (xs.take (m * k)) := by
  obtain ⟨h1, h2⟩ := h
  rcases h2 with ⟨_, h0⟩ | ⟨g, cap', cur, hv, hb, hg, hc, hm', hs, ht⟩
  · omega
  · simp at hv
    obtain ⟨rfl, rfl⟩ := hv
    have hmk : m * k ≤ n * k := Nat.mul_le_mul_right k hm
    refine ⟨by rw [List.length_take, h1]; omega, .inr ⟨g, cap, cur, rfl, hb, hg, by omega, hm', hs, ?_⟩⟩
    rw [← ht, List.take_take]
    congr 1
    omega

end Go.Proofs.Ytpalmpfkliepfaa

namespace Go.Proofs.Ytpalmpfkliepfaa
open Go.RowKit
set_option linter.unusedVariables false
set_option linter.unusedSimpArgs false

/- WHAT IS KNOWN OF A FRAME. -/

def lk : List (Nat × Value) → Nat → Option Value
  | [], _ => none
  | (t, v) :: l, s => cond (Nat.beq t s) (some v) (lk l s)

structure Fr (N : Nat) (a : Act) (L : List (Nat × Value)) : Prop where
  size : a.tmps.size = N
  defers : a.defers = []
  has : ∀ t v, lk L t = some v → a.tmps[t]? = some v

def evO (L : List (Nat × Value)) : Operand → Option Value
  | .tmp t => lk L t
  | .const v => some v
  | .global g => some (.pointer (some ⟨g, 0, none⟩))
  | .func f => some (.func (.func f) #[] #[])

theorem Fr.ev {N : Nat} {a : Act} {L : List (Nat × Value)} (h : Fr N a L) {x : Operand} {v : Value} (e : evO L x = some v) : a.eval x = v := by
  cases x with
  | tmp t => simp only [evO] at e; simp [Act.eval, h.has t v e]
  | _ => simp only [evO, Option.some.injEq] at e; subst e; rfl

def ins (d : Option Tmp) (v : Value) (L : List (Nat × Value)) : List (Nat × Value) :=
  match d with
  | some t => (t, v) :: L
  | none => L

def dstOk (N : Nat) (d : Option Tmp) : Bool :=
  match d with
  | some t => Nat.blt t N
  | none => true

theorem Fr.ins {N : Nat} {a : Act} {L : List (Nat × Value)} (h : Fr N a L) {d : Option Tmp} (v : Value) (ho : dstOk N d = true) : Fr N (a.put d v) (ins d v L) := by
  cases d with
  | none => exact h
  | some t =>
    have ht : t < N := by simpa [dstOk, Nat.blt_eq] using ho
    refine ⟨put_size.trans h.size, put_defers.trans h.defers, fun s u hs => ?_⟩
    simp only [Go.Proofs.Ytpalmpfkliepfaa.ins, lk] at hs
    cases hb : Nat.beq t s with
    | true =>
      rw [hb] at hs
      simp only [cond_true, Option.some.injEq] at hs
      have := Nat.eq_of_beq_eq_true hb
      subst this hs
      exact put_get (by rw [h.size]; exact ht)
    | false =>
      rw [hb] at hs
      rw [put_get_ne (fun e => by cases e; simp [Nat.beq_eq] at hb)]
      exact h.has s u hs

/-- A list of slots that stand in another one. -/
def subL (L : List (Nat × Value)) : List (Nat × Value) → Prop
  | [] => True
  | (t, v) :: l => lk L t = some v ∧ subL L l

theorem subL_lk {L : List (Nat × Value)} : ∀ {L' : List (Nat × Value)}, subL L L' → ∀ t v, lk L' t = some v → lk L t = some v
  | [], _, _, _, h => by cases h
  | (s, u) :: l, hs, t, v, h => by
    simp only [lk] at h
    cases hb : Nat.beq s t with
    | true =>
      rw [hb] at h
      simp only [cond_true, Option.some.injEq] at h
      have := Nat.eq_of_beq_eq_true hb
      rw [← this, ← h]; exact hs.1
    | false =>
      rw [hb] at h
      exact subL_lk hs.2 t v h

theorem Fr.sub {N : Nat} {a : Act} {L L' : List (Nat × Value)} (h : Fr N a L) (hs : subL L L') : Fr N a L' := ⟨h.size, h.defers, fun t v e => h.has t v (subL_lk hs t v e)⟩

theorem some_int {k : IntKind} {x y : Int} (h : x = y) : some (Value.int k x) = some (.int k y) := by rw [h]
theorem some_str {x y : ByteArray} (h : x = y) : some (Value.string x) = some (.string y) := by rw [h]
theorem some_sl {a : Option Addr} {x y c d : Nat} (h : x = y) (h2 : c = d) : some (Value.slice a x c) = some (.slice a y d) := by rw [h, h2]

def argL : List Value → Nat → List (Nat × Value)
  | [], _ => []
  | v :: vs, i => (i, v) :: argL vs (i + 1)

theorem lk_argL : ∀ (vs : List Value) (i t : Nat) (v : Value), lk (argL vs i) t = some v → ∃ j, t = i + j ∧ vs[j]? = some v
  | [], _, _, _, h => by cases h
  | u :: vs, i, t, v, h => by
    simp only [argL, lk] at h
    cases hb : Nat.beq i t with
    | true =>
      rw [hb] at h
      simp only [cond_true, Option.some.injEq] at h
      exact ⟨0, (Nat.eq_of_beq_eq_true hb).symm, by simp [h]⟩
    | false =>
      rw [hb] at h
      obtain ⟨j, h1, h2⟩ := lk_argL vs (i + 1) t v h
      exact ⟨j + 1, by omega, by simpa using h2⟩

theorem sx_enter {P : Program} {f : FuncId} {fn : Func} {c : Code} {args : Array Value} {w : World} {R : Ending → World → Prop} {N : Nat} {L : List (Nat × Value)}
    (hf : P.funcs[f]? = some fn) (hb : fn.body = some c) (hN : fn.ntmps = N) (hs : Nat.ble args.size N = true) (hL : argL args.toList 0 = L)
    (k : ∀ a, Fr N a L → c.wp P (bodyPost P fn R) a w) : Calls P f args w R := by
  refine calls_of_wp hf hb (k _ ⟨?_, rfl, ?_⟩)
  · rw [hN]
    have := Nat.le_of_ble_eq_true hs
    simp; omega
  · intro t v h
    rw [← hL] at h
    obtain ⟨j, h1, h2⟩ := lk_argL _ _ _ _ h
    have ht : t = j := by omega
    subst ht
    rw [Array.getElem?_toList] at h2
    have := (Array.getElem?_eq_some_iff.1 h2).1
    rw [Array.getElem?_append_left (by simpa using this)]
    exact h2

/- WHAT AN OPERATION DOES. -/

def Does (P : Program) (L : List (Nat × Value)) (o : Oper) (w : World) (R : Value → World → Prop) : Prop :=
  ∀ (a : Act) (K : Act → World → Prop) (Q : Exit → Act → World → Prop), (∀ x v, evO L x = some v → a.eval x = v) → (∀ v w', R v w' → K (a.put o.dst v) w') → o.wp P a w K Q

def Runs (P : Program) (L : List (Nat × Value)) (o : Oper) (w : World) (v : Value) (w' : World) : Prop :=
  ∀ (ρ : Operand → Value), (∀ x u, evO L x = some u → ρ x = u) → (execOp ρ o).run P w = .ok (.value v) w'

theorem Runs.does {P : Program} {L : List (Nat × Value)} {o : Oper} {w w' : World} {v : Value} {R : Value → World → Prop} (h : Runs P L o w v w') (hR : R v w') : Does P L o w R := by
  intro a K Q ha hK
  unfold Oper.wp
  rw [h _ ha]
  exact hK _ _ hR

theorem Runs.veq {P : Program} {L : List (Nat × Value)} {o : Oper} {w w' : World} {v v' : Value} (h : Runs P L o w v w') (e : v = v') : Runs P L o w v' w' := e ▸ h

theorem Does.mono {P : Program} {L : List (Nat × Value)} {o : Oper} {w : World} {R R' : Value → World → Prop} (h : Does P L o w R) (hR : ∀ v w', R v w' → R' v w') : Does P L o w R' :=
  fun a K Q ha hK => h a K Q ha (fun v w' hr => hK v w' (hR v w' hr))

section
variable {P : Program} {ops : Array Oper} {Q : Exit → Act → World → Prop} {a : Act} {w w' : World} {rest : List Oper} {o : Oper} {N : Nat} {L : List (Nat × Value)} {R : Value → World → Prop} {v : Value} {t : Tmp}

theorem sqd (hf : Fr N a L) (hd : Does P L o w R) (hg : o.guard = none) (ho : dstOk N o.dst = true) (k : ∀ a' v w', R v w' → Fr N a' (ins o.dst v L) → wpList P ops Q rest a' w') : wpList P ops Q (o :: rest) a w := by
  refine wpList_plain hg fun K hK => ?_
  exact hd a K Q (fun x v e => hf.ev e) (fun v w' hr => hK _ _ (k _ v w' hr (hf.ins v ho)))

theorem sqv (hf : Fr N a L) (hr : Runs P L o w v w') (hg : o.guard = none) (hd : o.dst = some t) (ht : Nat.blt t N = true) (k : ∀ a', Fr N a' ((t, v) :: L) → wpList P ops Q rest a' w') : wpList P ops Q (o :: rest) a w := by
  refine sqd hf (R := fun u x => u = v ∧ x = w') (hr.does ⟨rfl, rfl⟩) hg (by rw [hd]; exact ht) ?_
  rintro a' u x ⟨rfl, rfl⟩ hf'
  rw [hd] at hf'
  exact k a' hf'

theorem sqdt (hf : Fr N a L) (hr : Does P L o w R) (hg : o.guard = none) (hd : o.dst = some t) (ht : Nat.blt t N = true) (k : ∀ a' v w', R v w' → Fr N a' ((t, v) :: L) → wpList P ops Q rest a' w') : wpList P ops Q (o :: rest) a w := by
  refine sqd hf hr hg (by rw [hd]; exact ht) ?_
  intro a' v w' h hf'
  rw [hd] at hf'
  exact k a' v w' h hf'
theorem sqn (hf : Fr N a L) (hr : Does P L o w R) (hg : o.guard = none) (hd : o.dst = none) (k : ∀ a' v w', R v w' → Fr N a' L → wpList P ops Q rest a' w') : wpList P ops Q (o :: rest) a w := by
  refine sqd hf hr hg (by rw [hd]; rfl) ?_
  intro a' v w' h hf'
  rw [hd] at hf'
  exact k a' v w' h hf'

/-- A value that is there where b holds. -/
def gb (b : Bool) (v : Value) : Value := cond b v undef
def yl (ops : Array Oper) (L : List (Nat × Value)) (g : Nat) : Option Value := ((ops[g]?).bind (·.dst)).bind (lk L)

theorem yielded_of (hf : Fr N a L) {g : Nat} {ag c : Bool} (hy : yl ops L g = some (gb ag (.bool c))) : yielded ops a.tmps g = if ag = true then some c else none := by
  unfold yl at hy
  unfold yielded
  cases hd : (ops[g]?).bind (·.dst) with
  | none => rw [hd] at hy; cases hy
  | some t =>
    rw [hd] at hy
    simp only [Option.bind_some] at hy ⊢
    rw [hf.has t _ hy]
    cases ag <;> simp [gb, undef]

theorem wanted_of (hf : Fr N a L) {g : Nat} {want ag c : Bool} (hg : o.guard = some (g, want)) (hy : yl ops L g = some (gb ag (.bool c))) : Region.wanted o (yielded ops a.tmps) = (ag && (c == want)) := by
  unfold Region.wanted
  rw [hg]
  simp only [yielded_of hf hy]
  cases ag <;> cases c <;> cases want <;> rfl

theorem sqgd {act : Bool} {g : Nat} {want ag c : Bool} (hf : Fr N a L) (hg : o.guard = some (g, want)) (hy : yl ops L g = some (gb ag (.bool c))) (hact : (ag && (c == want)) = act)
    (hd : act = true → Does P L o w R) (hu : act = false → R undef w) (ho : dstOk N o.dst = true) (k : ∀ a' v w', R v w' → Fr N a' (ins o.dst v L) → wpList P ops Q rest a' w') : wpList P ops Q (o :: rest) a w := by
  refine wpList_step fun K hK => ?_
  rw [wanted_of hf hg hy, hact]
  cases act with
  | true =>
    rw [if_pos rfl]
    exact hd rfl a K Q (fun x v e => hf.ev e) (fun v w' hr => hK _ _ (k _ v w' hr (hf.ins v ho)))
  | false =>
    rw [if_neg (by simp)]
    exact hK _ _ (k _ _ _ (hu rfl) (hf.ins _ ho))

theorem sqgT {act : Bool} {g : Nat} {ag c : Bool} (hf : Fr N a L) (hg : o.guard = some (g, true)) (hy : yl ops L g = some (gb ag (.bool c))) (hact : (ag && c) = act)
    (hr : act = true → Runs P L o w v w) (hd : o.dst = some t) (ht : Nat.blt t N = true) (k : ∀ a', Fr N a' ((t, gb act v) :: L) → wpList P ops Q rest a' w) : wpList P ops Q (o :: rest) a w := by
  refine sqgd (R := fun u x => u = gb act v ∧ x = w) (act := act) hf hg hy (by rw [← hact]; cases ag <;> cases c <;> rfl) (fun h => (hr h).does ⟨by rw [h]; rfl, rfl⟩) (fun h => ⟨by rw [h]; rfl, rfl⟩) (by rw [hd]; exact ht) ?_
  rintro a' u x ⟨rfl, rfl⟩ hf'
  rw [hd] at hf'
  exact k a' hf'

theorem sqgF {act : Bool} {g : Nat} {ag c : Bool} (hf : Fr N a L) (hg : o.guard = some (g, false)) (hy : yl ops L g = some (gb ag (.bool c))) (hact : (ag && !c) = act)
    (hr : act = true → Runs P L o w v w) (hd : o.dst = some t) (ht : Nat.blt t N = true) (k : ∀ a', Fr N a' ((t, gb act v) :: L) → wpList P ops Q rest a' w) : wpList P ops Q (o :: rest) a w := by
  refine sqgd (R := fun u x => u = gb act v ∧ x = w) (act := act) hf hg hy (by rw [← hact]; cases ag <;> cases c <;> rfl) (fun h => (hr h).does ⟨by rw [h]; rfl, rfl⟩) (fun h => ⟨by rw [h]; rfl, rfl⟩) (by rw [hd]; exact ht) ?_
  rintro a' u x ⟨rfl, rfl⟩ hf'
  rw [hd] at hf'
  exact k a' hf'

theorem gb_ev {act : Bool} {x : Operand} (h : act = true) (e : evO L x = some (gb act v)) : evO L x = some v := by rw [e, h]; rfl
end

/- THE END OF A FUNCTION. -/
section
variable {P : Program} {fn : Func} {R : Ending → World → Prop} {a : Act} {w : World} {N : Nat} {L : List (Nat × Value)} {t t2 t3 : Tmp} {v v2 v3 : Value}

theorem fr_getD (hf : Fr N a L) (h : lk L t = some v) : a.tmps.getD t undef = v := by simp [hf.has t v h]

theorem ret1 (hf : Fr N a L) (hr : fn.results = #[.tmp t]) (hv : lk L t = some v) (hR : R (.returned v) w) : bodyPost P fn R .ret a w :=
  bodyPost_ret (v := v) (by rw [results_tmp hr, fr_getD hf hv]) hf.defers hR
theorem ret2 (hf : Fr N a L) (hr : fn.results = #[.tmp t, .tmp t2]) (hv : lk L t = some v) (hv2 : lk L t2 = some v2) (hR : R (.returned (.tuple #[v, v2])) w) : bodyPost P fn R .ret a w :=
  bodyPost_ret (v := .tuple #[v, v2]) (by rw [results_tmp2 hr, fr_getD hf hv, fr_getD hf hv2]) hf.defers hR
theorem ret3 (hf : Fr N a L) (hr : fn.results = #[.tmp t, .tmp t2, .tmp t3]) (hv : lk L t = some v) (hv2 : lk L t2 = some v2) (hv3 : lk L t3 = some v3) (hR : R (.returned (.tuple #[v, v2, v3])) w) : bodyPost P fn R .ret a w :=
  bodyPost_ret (v := .tuple #[v, v2, v3]) (by simp [results, hr, hf.has t v hv, hf.has t2 v2 hv2, hf.has t3 v3 hv3]) hf.defers hR
end

/-- A loop, with a number that every round lowers. -/
theorem wp_loop_k {P : Program} {Q : Exit → Act → World → Prop} {a : Act} {w : World} {c : Code} (I : Nat → Act → World → Prop) (h₀ : ∃ n, I n a w)
    (round : ∀ n a w, I n a w → ∀ (K : Act → World → Prop), (∀ n' a' w', n' < n → I n' a' w' → K a' w') → c.wp P (Exit.then K Q) a w) : (Code.loop c).wp P Q a w :=
  h₀.elim fun n₀ h₀ => wp_loop_ghost I n₀ h₀ fun n a w h => round n a w h _ fun n' _ _ h1 h2 => ⟨n', h1, h2⟩

end Go.Proofs.Ytpalmpfkliepfaa

namespace Go.Proofs.Ytpalmpfkliepfaa
open Go.RowKit
set_option linter.unusedVariables false
set_option linter.unusedSimpArgs false

section
variable {P : Program} {L : List (Nat × Value)} {w : World} {d : Option Tmp} {ty : TypeId} {ps : String} {af : Array Edge} {g : Option (Nat × Bool)}

theorem r_move {x : Operand} {v : Value} (hx : evO L x = some v) : Runs P L ⟨d, .move x, ty, ps, af, g⟩ w v w := by
  intro ρ hρ; simp only [execOp, hρ x v hx]; rfl
theorem r_assign {x : Operand} {v : Value} (hx : evO L x = some v) : Runs P L ⟨d, .assign x, ty, ps, af, g⟩ w v w := by
  intro ρ hρ; simp only [execOp, hρ x v hx]; rfl

theorem r_bin {op : BinOp} {xt yt : TypeId} {x y : Operand} {vx vy v : Value} (hx : evO L x = some vx) (hy : evO L y = some vy) (hg : eqGuard op xt x y vx vy = pure ()) (hr : (binOp op xt vx vy).run P w = .ok v w) :
    Runs P L ⟨d, .binOp op xt x y yt, ty, ps, af, g⟩ w v w := by
  intro ρ hρ
  simp only [execOp, hρ x _ hx, hρ y _ hy, hg]
  simp [hr]

section
variable {xt yt : TypeId} {x y : Operand} {k k2 : IntKind} {A B C : Int}
theorem r_add (hx : evO L x = some (.int k A)) (hy : evO L y = some (.int k B)) (hc : k.wrap (A + B) = C) : Runs P L ⟨d, .binOp .add xt x y yt, ty, ps, af, g⟩ w (.int k C) w :=
  r_bin hx hy rfl (by rw [binOp_add]; simp [Op.intArith, hc])
theorem r_sub (hx : evO L x = some (.int k A)) (hy : evO L y = some (.int k B)) (hc : k.wrap (A - B) = C) : Runs P L ⟨d, .binOp .sub xt x y yt, ty, ps, af, g⟩ w (.int k C) w :=
  r_bin hx hy rfl (by rw [binOp_sub]; simp [Op.intArith, hc])
theorem r_mul (hx : evO L x = some (.int k A)) (hy : evO L y = some (.int k B)) (hc : k.wrap (A * B) = C) : Runs P L ⟨d, .binOp .mul xt x y yt, ty, ps, af, g⟩ w (.int k C) w :=
  r_bin hx hy rfl (by rw [binOp_mul]; simp [Op.intArith, hc])
theorem r_quo (hx : evO L x = some (.int k A)) (hy : evO L y = some (.int k B)) (h0 : B ≠ 0) (hc : k.wrap (A.tdiv B) = C) : Runs P L ⟨d, .binOp .quo xt x y yt, ty, ps, af, g⟩ w (.int k C) w :=
  r_bin hx hy rfl (by rw [binOp_quo]; simp [Op.intDiv, h0, hc])
theorem r_rem (hx : evO L x = some (.int k A)) (hy : evO L y = some (.int k B)) (h0 : B ≠ 0) (hc : A.tmod B = C) : Runs P L ⟨d, .binOp .rem xt x y yt, ty, ps, af, g⟩ w (.int k C) w :=
  r_bin hx hy rfl (by rw [binOp_rem]; simp [Op.intDiv, h0, hc])
theorem r_and (hx : evO L x = some (.int k A)) (hy : evO L y = some (.int k B)) (hc : bits .and k A B = C) : Runs P L ⟨d, .binOp .and xt x y yt, ty, ps, af, g⟩ w (.int k C) w :=
  r_bin hx hy rfl (by rw [binOp_and, ← hc]; rfl)
theorem r_or (hx : evO L x = some (.int k A)) (hy : evO L y = some (.int k B)) (hc : bits .or k A B = C) : Runs P L ⟨d, .binOp .or xt x y yt, ty, ps, af, g⟩ w (.int k C) w :=
  r_bin hx hy rfl (by rw [binOp_or, ← hc]; rfl)
theorem r_shl {n : Nat} (hx : evO L x = some (.int k A)) (hy : evO L y = some (.int k2 B)) (hn : B = n) (hc : k.wrap (A * 2 ^ (min n k.bits)) = C) : Runs P L ⟨d, .binOp .shl xt x y yt, ty, ps, af, g⟩ w (.int k C) w :=
  r_bin hx hy rfl (by subst hn; rw [binOp_shl]; unfold Op.shift; rw [if_neg (by omega)]; simp [hc])
theorem r_shr {n : Nat} (hx : evO L x = some (.int k A)) (hy : evO L y = some (.int k2 B)) (hn : B = n) (hc : A.fdiv (2 ^ (min n k.bits)) = C) : Runs P L ⟨d, .binOp .shr xt x y yt, ty, ps, af, g⟩ w (.int k C) w :=
  r_bin hx hy rfl (by subst hn; rw [binOp_shr]; unfold Op.shift; rw [if_neg (by omega)]; simp [hc])

theorem r_eq (hx : evO L x = some (.int k A)) (hy : evO L y = some (.int k B)) : Runs P L ⟨d, .binOp .eql xt x y yt, ty, ps, af, g⟩ w (.bool (decide (A = B))) w :=
  r_bin hx hy (eqGuard_at_int _ _ _ _ _ _ _) (by rw [binOp_eql]; rfl)
theorem r_ne (hx : evO L x = some (.int k A)) (hy : evO L y = some (.int k B)) : Runs P L ⟨d, .binOp .neq xt x y yt, ty, ps, af, g⟩ w (.bool (decide (A ≠ B))) w :=
  r_bin hx hy (eqGuard_at_int _ _ _ _ _ _ _) (by
    rw [binOp_neq]
    have : (A != B) = decide (A ≠ B) := by
      by_cases h : A = B <;> simp [h]
    rw [this]; rfl)
theorem r_lt (hx : evO L x = some (.int k A)) (hy : evO L y = some (.int k B)) : Runs P L ⟨d, .binOp .lss xt x y yt, ty, ps, af, g⟩ w (.bool (decide (A < B))) w :=
  r_bin hx hy rfl (by rw [binOp_lss]; rfl)
theorem r_le (hx : evO L x = some (.int k A)) (hy : evO L y = some (.int k B)) : Runs P L ⟨d, .binOp .leq xt x y yt, ty, ps, af, g⟩ w (.bool (decide (A ≤ B))) w :=
  r_bin hx hy rfl (by rw [binOp_leq]; rfl)
theorem r_gt (hx : evO L x = some (.int k A)) (hy : evO L y = some (.int k B)) : Runs P L ⟨d, .binOp .gtr xt x y yt, ty, ps, af, g⟩ w (.bool (decide (B < A))) w :=
  r_bin hx hy rfl (by rw [binOp_gtr]; rfl)
theorem r_ge (hx : evO L x = some (.int k A)) (hy : evO L y = some (.int k B)) : Runs P L ⟨d, .binOp .geq xt x y yt, ty, ps, af, g⟩ w (.bool (decide (B ≤ A))) w :=
  r_bin hx hy rfl (by rw [binOp_geq]; rfl)
theorem r_neg (hx : evO L x = some (.int k A)) (hc : k.wrap (0 - A) = C) : Runs P L ⟨d, .unOp .neg xt x, ty, ps, af, g⟩ w (.int k C) w := by
  intro ρ hρ; simp only [execOp, hρ x _ hx]; simp [Op.unary, Op.intArith]; simpa using hc
theorem r_conv {src dst : TypeId} {ds : TypeDesc} (hx : evO L x = some (.int k A)) (hs : P.underlying src = some ds) (hd : P.underlying dst = some (.int k2)) (hc : k2.wrap A = C) : Runs P L ⟨d, .convert src dst x, ty, ps, af, g⟩ w (.int k2 C) w := by
  intro ρ hρ
  simp only [execOp, hρ x _ hx]
  simp [convert, run_underlying hs, run_underlying hd, Conv.intToInt, hc]
end

theorem r_not {xt : TypeId} {x : Operand} {b : Bool} (hx : evO L x = some (.bool b)) : Runs P L ⟨d, .unOp .not xt x, ty, ps, af, g⟩ w (.bool (!b)) w := by
  intro ρ hρ; simp only [execOp, hρ x _ hx]; simp [Op.unary]
theorem r_bne {xt yt : TypeId} {x y : Operand} {b c : Bool} (ht : P.underlying xt = some .bool) (hx : evO L x = some (.bool b)) (hy : evO L y = some (.bool c)) : Runs P L ⟨d, .binOp .neq xt x y yt, ty, ps, af, g⟩ w (.bool (!(b == c))) w :=
  r_bin hx hy (eqGuard_at_bool _ _ _ _ _ _) (run_neq_bool _ _ _ _ ht)

theorem r_pick {c x y : Operand} {b : Bool} {vx vy v : Value} (hc : evO L c = some (.bool b)) (hx : evO L x = some vx) (hy : evO L y = some vy) (hv : (cond b vx vy) = v) : Runs P L ⟨d, .pick c x y, ty, ps, af, g⟩ w v w := by
  intro ρ hρ
  simp only [execOp, hρ c _ hc, hρ x _ hx, hρ y _ hy, ← hv]
  cases b <;> simp [asBool]
theorem r_pickA {c x y : Operand} {b e : Bool} (hc : evO L c = some (.bool b)) (hx : evO L x = some (gb b (.bool e))) (hy : evO L y = some (.bool false)) : Runs P L ⟨d, .pick c x y, ty, ps, af, g⟩ w (.bool (b && e)) w :=
  r_pick hc hx hy (by cases b <;> rfl)
theorem r_pickO {c x y : Operand} {b e : Bool} (hc : evO L c = some (.bool b)) (hx : evO L x = some (.bool true)) (hy : evO L y = some (gb (!b) (.bool e))) : Runs P L ⟨d, .pick c x y, ty, ps, af, g⟩ w (.bool (b || e)) w :=
  r_pick hc hx hy (by cases b <;> rfl)
theorem r_pickA2 {c x y : Operand} {b e q : Bool} (hq : q = true) (hc : evO L c = some (gb q (.bool b))) (hx : evO L x = some (gb (q && b) (.bool e))) (hy : evO L y = some (.bool false)) : Runs P L ⟨d, .pick c x y, ty, ps, af, g⟩ w (.bool (b && e)) w := by
  subst hq
  exact r_pickA hc (by rw [hx]; cases b <;> rfl) hy
theorem r_pickO2 {c x y : Operand} {b e q : Bool} (hq : q = true) (hc : evO L c = some (gb q (.bool b))) (hx : evO L x = some (.bool true)) (hy : evO L y = some (gb (q && !b) (.bool e))) : Runs P L ⟨d, .pick c x y, ty, ps, af, g⟩ w (.bool (b || e)) w := by
  subst hq
  exact r_pickO hc hx (by rw [hy]; cases b <;> rfl)

theorem r_extract {x : Operand} {i : Nat} {vs : Array Value} {v : Value} (hx : evO L x = some (.tuple vs)) (hi : vs[i]? = some v) : Runs P L ⟨d, .extract x i, ty, ps, af, g⟩ w v w := by
  intro ρ hρ; simp only [execOp, hρ x _ hx]; simp [Instr.extract, hi]

/- STRINGS. -/
theorem str_toList_data (u : ByteArray) : u.toList = u.data.toList := ByteArray.toList_eq u
theorem toList_inj {s t : ByteArray} (h : s.toList = t.toList) : s = t := by
  have e : ∀ u : ByteArray, u.toList = u.data.toList := fun u => str_toList_data u
  rw [e, e] at h
  cases s; cases t
  simp only [ByteArray.mk.injEq]
  exact Array.toList_inj.1 h
theorem toList_beq (s t : ByteArray) : (s.toList == t.toList) = decide (s = t) := by
  by_cases h : s = t
  · subst h; simp
  · rw [decide_eq_false h]
    simp only [beq_eq_false_iff_ne, ne_eq]
    exact fun e => h (toList_inj e)
section
variable {xt yt : TypeId} {x y : Operand} {s t : ByteArray}
theorem r_sadd (hx : evO L x = some (.string s)) (hy : evO L y = some (.string t)) (hs : s.size + t.size ≤ 9223372036854775807) : Runs P L ⟨d, .binOp .add xt x y yt, ty, ps, af, g⟩ w (.string (s ++ t)) w :=
  r_bin hx hy rfl (by
    simp only [binOp, Op.stringOp]
    rw [if_neg (by rw [IntKind.max_i64]; omega)]; rfl)
theorem r_seq (hx : evO L x = some (.string s)) (hy : evO L y = some (.string t)) : Runs P L ⟨d, .binOp .eql xt x y yt, ty, ps, af, g⟩ w (.bool (decide (s = t))) w :=
  r_bin hx hy (eqGuard_at_string _ _ _ _ _ _) (by simp only [binOp, Op.stringOp, toList_beq]; rfl)
theorem r_sne (hx : evO L x = some (.string s)) (hy : evO L y = some (.string t)) : Runs P L ⟨d, .binOp .neq xt x y yt, ty, ps, af, g⟩ w (.bool (decide (s ≠ t))) w :=
  r_bin hx hy (eqGuard_at_string _ _ _ _ _ _) (by
    simp only [binOp, Op.stringOp, toList_beq]
    have : (!decide (s = t)) = decide (s ≠ t) := by by_cases h : s = t <;> simp [h]
    rw [this]; rfl)
theorem r_lens {tt : TypeId} (hx : evO L x = some (.string s)) (ht : P.underlying tt = some .string) : Runs P L ⟨d, .call { callee := .builtin .len, args := #[x], argTypes := #[tt] }, ty, ps, af, g⟩ w (.int .i64 (s.size : Int)) w := by
  intro ρ hρ
  simp [execOp, resolve, invoke, builtin, hρ x _ hx, Builtin.len_, run_underlying ht, goInt]
theorem r_sindex {i : Operand} {k : IntKind} {I : Int} {j : Nat} {b : UInt8} (hx : evO L x = some (.string s)) (hi : evO L i = some (.int k I)) (ht : P.underlying xt = some .string) (hj : I = j) (hb : s.data.toList[j]? = some b) :
    Runs P L ⟨d, .index xt x i, ty, ps, af, g⟩ w (.int .u8 (b.toNat : Int)) w := by
  intro ρ hρ
  have hb2 : s[j]? = some b := by
    have h1 : j < s.size := by
      have := (List.getElem?_eq_some_iff.1 hb).1
      simpa using this
    rw [getElem?_pos s j h1]
    have h2 := (List.getElem?_eq_some_iff.1 hb).2
    rw [← h2]; rfl
  subst hj
  simp [execOp, hρ x _ hx, hρ i _ hi, Instr.index, asIntOf, run_underlying ht, hb2]
def sbt (s : ByteArray) (j : Nat) : Nat := (s.data.toList.getD j 0).toNat
theorem sbt_lt (s : ByteArray) (j : Nat) : sbt s j < 256 := UInt8.toNat_lt _
theorem sz_ext (s : ByteArray) (a b : Nat) (h : a ≤ b) (h2 : b ≤ s.size) : (s.extract a b).size = b - a := by
  rw [ByteArray.size_extract]; omega
theorem sz_app (s t : ByteArray) : (s ++ t).size = s.size + t.size := ByteArray.size_append
theorem r_sindexD {i : Operand} {k : IntKind} {I : Int} {j : Nat} (hx : evO L x = some (.string s)) (hi : evO L i = some (.int k I)) (ht : P.underlying xt = some .string) (hj : I = j) (hlt : j < s.size) :
    Runs P L ⟨d, .index xt x i, ty, ps, af, g⟩ w (.int .u8 (sbt s j : Nat)) w := by
  have h1 : s.data.toList[j]? = some (s.data.toList.getD j 0) := by
    have : j < s.data.toList.length := by rw [Array.length_toList]; exact hlt
    rw [List.getD_eq_getElem?_getD, List.getElem?_eq_getElem this]; rfl
  exact r_sindex hx hi ht hj h1
theorem r_sslice {lo hi : Option Operand} {k1 k2 : IntKind} {A B : Int} {a b : Nat} (hx : evO L x = some (.string s)) (ht : P.underlying xt = some .string)
    (hlo : (lo = none ∧ a = 0) ∨ (∃ l, lo = some l ∧ evO L l = some (.int k1 A) ∧ A = a)) (hhi : (hi = none ∧ b = s.size) ∨ (∃ h, hi = some h ∧ evO L h = some (.int k2 B) ∧ B = b)) (hab : a ≤ b) (hbs : b ≤ s.size) :
    Runs P L ⟨d, .slice xt x lo hi none, ty, ps, af, g⟩ w (.string (s.extract a b)) w := by
  intro ρ hρ
  rcases hlo with ⟨rfl, rfl⟩ | ⟨l, rfl, hl, rfl⟩ <;> rcases hhi with ⟨rfl, rfl⟩ | ⟨h, rfl, hh, rfl⟩
  all_goals simp [execOp, hρ x _ hx, *, run_sliceAt_string, Instr.sliceAt, run_underlying ht, Instr.slice, Instr.sliceBounds]
  · rw [run_sliceBound _ _ _ _ _ (by omega) (by omega)]; simp
  · rw [run_sliceBound _ _ _ _ _ (by omega) (by omega)]; simp
  · rw [run_sliceBound _ _ _ _ _ (by omega) (by omega)]; simp
    rw [run_sliceBound _ _ _ _ _ (by omega) (by omega)]; simp
end

/- SLICES AND MEMORY. -/
theorem r_lensl {tt e : TypeId} {x : Operand} {a : Option Addr} {n c : Nat} (hx : evO L x = some (.slice a n c)) (ht : P.underlying tt = some (.slice e)) : Runs P L ⟨d, .call { callee := .builtin .len, args := #[x], argTypes := #[tt] }, ty, ps, af, g⟩ w (.int .i64 (n : Int)) w := by
  intro ρ hρ
  simp [execOp, resolve, invoke, builtin, hρ x _ hx, Builtin.len_, run_underlying ht, goInt]

theorem r_ixa {tt e : TypeId} {x i : Operand} {k : IntKind} {I : Int} {b off n c j sz q : Nat} (hx : evO L x = some (.slice (some ⟨b, off, none⟩) n c)) (hi : evO L i = some (.int k I)) (ht : P.underlying tt = some (.slice e)) (hsz : (P.info? e).map (·.size) = some sz)
    (hj : I = j) (hlt : j < n) (hq : off + j * sz = q) : Runs P L ⟨d, .indexAddr tt x i, ty, ps, af, g⟩ w (.pointer (some ⟨b, q, none⟩)) w := by
  intro ρ hρ
  obtain ⟨ii, hii, hs⟩ : ∃ ii, P.info? e = some ii ∧ ii.size = sz := by
    cases hh : P.info? e with
    | none => rw [hh] at hsz; cases hsz
    | some ii => rw [hh] at hsz; exact ⟨ii, rfl, by simpa using hsz⟩
  subst hj hq
  simp [execOp, hρ x _ hx, hρ i _ hi, Instr.indexAt, asIntOf, run_underlying ht, hlt, sizeOf, typeInfo, hii, hs, Addr.add_lit]

theorem r_fa {tt : TypeId} {x : Operand} {fs : Array Field} {f : Nat} {fd : Field} {b off q : Nat} (hx : evO L x = some (.pointer (some ⟨b, off, none⟩))) (ht : P.underlying tt = some (.struct fs)) (hf : fs[f]? = some fd) (hn : ((P.info? fd.type).map fun i => Nat.blt 0 i.size) = some true) (hq : off + fd.offset = q) :
    Runs P L ⟨d, .fieldAddr tt x f, ty, ps, af, g⟩ w (.pointer (some ⟨b, q, none⟩)) w := by
  intro ρ hρ
  obtain ⟨ii, hii, hs⟩ : ∃ ii, P.info? fd.type = some ii ∧ 0 < ii.size := by
    cases hh : P.info? fd.type with
    | none => rw [hh] at hn; cases hn
    | some ii => rw [hh] at hn; exact ⟨ii, rfl, by simpa [Nat.blt_eq] using hn⟩
  subst hq
  have h0 : ¬ ii.size = 0 := by omega
  simp [execOp, hρ x _ hx, Instr.fieldAt, run_underlying ht, hf, Instr.sureAddr, fieldPlace, sizeOf, typeInfo, hii, Addr.add_lit]
  intro h; exact absurd h h0

def plainT : TypeDesc → Bool
  | .struct _ | .array _ _ => false
  | _ => true

theorem run_isAgg_plain {t : TypeId} {td : TypeDesc} (ht : P.underlying t = some td) (hp : plainT td = true) : (isAgg t).run P w = .ok false w := by
  unfold isAgg
  rw [Sem.run_bind, run_underlying ht w]
  cases td <;> first | rfl | (simp [plainT] at hp)

theorem r_load {t : TypeId} {td : TypeDesc} {x : Operand} {p : Addr} {v : Value} (hx : evO L x = some (.pointer (some p))) (ht : P.underlying t = some td) (hp : plainT td = true) (hc : w.cell? p = some v) : Runs P L ⟨d, .load t x, ty, ps, af, g⟩ w v w := by
  intro ρ hρ
  simp only [execOp, hρ x _ hx, Instr.loadAt, Instr.sureAddr]
  simp [loadVar, run_isAgg_plain ht hp, load, Sem.run, hc]

/-- The cells from a place on. -/
def cellsAt (w : World) (b o : Nat) (cs : List Value) : Prop := ∀ j v, cs[j]? = some v → w.cell? ⟨b, o + j, none⟩ = some v

theorem r_loadA {t : TypeId} {td : TypeDesc} {x : Operand} {b o : Nat} {cs : List Value} (hx : evO L x = some (.pointer (some ⟨b, o, none⟩))) (ht : P.underlying t = some td) (hp : plainT td = false) (hs : (P.info? t).map (·.size) = some cs.length) (hc : cellsAt w b o cs) :
    Runs P L ⟨d, .load t x, ty, ps, af, g⟩ w (.agg cs.toArray) w := by
  intro ρ hρ
  obtain ⟨ii, hii, hss⟩ : ∃ ii, P.info? t = some ii ∧ ii.size = cs.length := by
    cases hh : P.info? t with
    | none => rw [hh] at hs; cases hs
    | some ii => rw [hh] at hs; exact ⟨ii, rfl, by simpa using hs⟩
  have hl : (loadCells ⟨b, o, none⟩ cs.length).run P w = .ok cs.toArray w :=
    run_loadCells_list (P := P) w ⟨b, o, none⟩ cs (fun j v hv => by rw [Addr.add_lit]; exact hc j v hv)
  have hagg : (isAgg t).run P w = .ok true w := by
    unfold isAgg
    rw [Sem.run_bind, run_underlying ht w]
    cases td <;> simp_all [plainT]
  simp only [execOp, hρ x _ hx, Instr.loadAt, Instr.sureAddr]
  simp [loadVar, hagg, sizeOf, typeInfo, hii, hss, hl]

theorem cellsAt_blk {b : Nat} {cs : Array Value} {T : TypeId} {fr : Nat × Nat} (h : w.heap[b]? = some (.cells cs T fr)) : cellsAt w b 0 cs.toList := by
  intro j v hv
  rw [Nat.zero_add, cell_of_row w b j cs T fr h]
  simpa using hv
theorem cell_blk {b j : Nat} {cs : Array Value} {T : TypeId} {fr : Nat × Nat} {v : Value} (h : w.heap[b]? = some (.cells cs T fr)) (hv : cs[j]? = some v) : w.cell? ⟨b, j, none⟩ = some v := by
  rw [cell_of_row w b j cs T fr h]; exact hv

/- WORLDS: a fresh block; a block written. -/
theorem blk_ext {w w' : World} {b : Nat} {o : Obj} (h : w.heap[b]? = some o) (hb : Below w.heap.size w w') : w'.heap[b]? = some o := (hb.block b (Array.getElem?_eq_some_iff.1 h).1).trans h
theorem blk_lt {w : World} {b : Nat} {o : Obj} (h : w.heap[b]? = some o) : b < w.heap.size := (Array.getElem?_eq_some_iff.1 h).1
theorem blk_grown {w w' : World} {b c : Nat} {o : Obj} (h : w.heap[b]? = some o) (hg : w.grownBy w' (some c)) (hne : b ≠ c) : w'.heap[b]? = some o := (hg.block b (blk_lt h) (fun e => hne (by injection e))).trans h
theorem grown_below {w w' : World} {B c : Nat} (hg : w.grownBy w' (some c)) (hB : B ≤ w.heap.size) (hc : B ≤ c) : Below B w w' := (Below.refl B w).grown hg hB (fun k hk => by injection hk with e; omega)
theorem grownBy_refl (w : World) (r : Option Nat) : w.grownBy w r := ⟨rfl, rfl, rfl, Nat.le_refl _, fun _ _ _ => rfl⟩
theorem grownBy_trans {a b c : World} {r : Option Nat} (h : a.grownBy b r) (k : b.grownBy c r) : a.grownBy c r :=
  ⟨k.os.trans h.os, k.tape.trans h.tape, k.output.trans h.output, Nat.le_trans h.size k.size, fun i hi hr => (k.block i (Nat.lt_of_lt_of_le hi h.size) hr).trans (h.block i hi hr)⟩
theorem below_grown {a b : World} {r : Option Nat} (h : Below a.heap.size a b) : a.grownBy b r := ⟨h.os, h.tape, h.output, h.size, fun i hi _ => h.block i hi⟩
/-- A fresh block. -/
def Fresh (w : World) (cs : Array Value) (T : TypeId) (b : Nat) (w' : World) : Prop := w.heap.size ≤ b ∧ w'.heap[b]? = some (.cells cs T (0, 0)) ∧ Below w.heap.size w w'
theorem fresh_alloc (w : World) (cs : Array Value) (T : TypeId) : Fresh w cs T w.heap.size (w.alloc (.cells cs T)) := ⟨Nat.le_refl _, heap_alloc_last _ _, (Below.refl _ _).alloc (Nat.le_refl _) _⟩

theorem zv_run {T : TypeId} {z : Value} (hz : (P.info? T).bind (·.zero) = some z) (w : World) : (zeroValue T).run P w = .ok z w := by
  cases hh : P.info? T with
  | none => rw [hh] at hz; cases hz
  | some i =>
    rw [hh] at hz
    simp only [Option.bind_some] at hz
    simp [zeroValue, typeInfo, hh, hz]

theorem d_alloc {T : TypeId} {z : Value} {cs : Array Value} (hz : (P.info? T).bind (·.zero) = some z) (hcs : z.cells = cs) : Does P L ⟨d, .alloc T, ty, ps, af, g⟩ w (fun v w' => ∃ b, v = .pointer (some ⟨b, 0, none⟩) ∧ Fresh w cs T b w') := by
  subst hcs
  refine Runs.does (v := .pointer (some ⟨w.heap.size, 0, none⟩)) (w' := w.alloc (.cells z.cells T)) (fun ρ hρ => ?_) ⟨_, rfl, fresh_alloc _ _ _⟩
  simp [execOp, Instr.alloc, zv_run hz, newVar, newRow, newObj, Sem.run]
theorem d_box {T : TypeId} {x : Operand} {v : Value} {cs : Array Value} (hx : evO L x = some v) (hcs : v.cells = cs) : Does P L ⟨d, .box T x, ty, ps, af, g⟩ w (fun v w' => ∃ b, v = .pointer (some ⟨b, 0, none⟩) ∧ Fresh w cs T b w') := by
  subst hcs
  refine Runs.does (v := .pointer (some ⟨w.heap.size, 0, none⟩)) (w' := w.alloc (.cells v.cells T)) (fun ρ hρ => ?_) ⟨_, rfl, fresh_alloc _ _ _⟩
  simp [execOp, hρ x _ hx, Instr.box, newVar, newRow, newObj, Sem.run]

/-- The cells of a block with some written from a place on. -/
def setAll : Array Value → Nat → List Value → Array Value
  | cs, _, [] => cs
  | cs, i, v :: vs => setAll (cs.setIfInBounds i v) (i + 1) vs

theorem storeCells_run : ∀ (vs : List Value) (w : World) (b o i : Nat) (cs : Array Value) (T : TypeId), w.heap[b]? = some (.cells cs T (0, 0)) → o + i + vs.length ≤ cs.size → (∀ v ∈ vs, v.oneCell' = true) →
    ∃ w', (storeCells ⟨b, o, none⟩ vs i).run P w = .ok () w' ∧ w'.heap[b]? = some (.cells (setAll cs (o + i) vs) T (0, 0)) ∧ w.grownBy w' (some b)
  | [], w, b, o, i, cs, T, h, _, _ => ⟨w, by simp [storeCells], h, grownBy_refl _ _⟩
  | v :: vs, w, b, o, i, cs, T, h, hl, h1 => by
    simp only [List.length_cons] at hl
    have hc : w.cell? ⟨b, o + i, none⟩ = some cs[o + i] := cell_blk h (Array.getElem?_eq_getElem (by omega))
    have hfr := frozen_of_row w b (o + i) cs T h
    have hs : (store ⟨b, o + i, none⟩ v).run P w = .ok () (w.setCell ⟨b, o + i, none⟩ v) := by
      rw [run_store P w _ _ _ (h1 v (by simp))]
      simp [stored, hc, hfr]
    obtain ⟨w', h2, h3, h4⟩ := storeCells_run vs (w.setCell ⟨b, o + i, none⟩ v) b o (i + 1) (cs.setIfInBounds (o + i) v) T (heap_setCell_same w b (o + i) cs T v h) (by simp; omega) (fun u hu => h1 u (by simp [hu]))
    refine ⟨w', ?_, h3, grownBy_trans (b := w.setCell ⟨b, o + i, none⟩ v) ⟨rfl, rfl, rfl, by simp [World.setCell], fun k _ hk => Below.heap_setCell _ _ _ _ (fun e => hk (by rw [e]))⟩ h4⟩
    unfold storeCells
    rw [Addr.add_lit]
    simp [hs, h2]

/-- A block written from a place on. -/
def Wrote (w : World) (b : Nat) (cs : Array Value) (T : TypeId) (w' : World) : Prop := w'.heap[b]? = some (.cells cs T (0, 0)) ∧ w.grownBy w' (some b)

theorem d_store {t T : TypeId} {x y : Operand} {b o : Nat} {cs cs' : Array Value} {v : Value} (hx : evO L x = some (.pointer (some ⟨b, o, none⟩))) (hy : evO L y = some v) (hs : (P.info? t).map (·.size) = some v.cells.size) (h1 : ∀ u ∈ v.cells.toList, u.oneCell' = true)
    (hb : w.heap[b]? = some (.cells cs T (0, 0))) (hl : o + v.cells.size ≤ cs.size) (hcs : setAll cs o v.cells.toList = cs') : Does P L ⟨d, .store t x y, ty, ps, af, g⟩ w (fun _ w' => Wrote w b cs' T w') := by
  obtain ⟨ii, hii, hss⟩ : ∃ ii, P.info? t = some ii ∧ ii.size = v.cells.size := by
    cases hh : P.info? t with
    | none => rw [hh] at hs; cases hs
    | some ii => rw [hh] at hs; exact ⟨ii, rfl, by simpa using hs⟩
  obtain ⟨w', h2, h3, h4⟩ := storeCells_run (P := P) v.cells.toList w b o 0 cs T hb (by simpa using hl) h1
  rw [Nat.add_zero, hcs] at h3
  intro a K Q ha hK
  unfold Oper.wp
  have hr : (execOp a.eval ⟨d, .store t x y, ty, ps, af, g⟩).run P w = .ok .skip w' := by
    simp only [execOp, ha x _ hx, ha y _ hy, Instr.storeAt, Instr.sureAddr]
    simp [storeVar, sizeOf, typeInfo, hii, hss, h2]
  rw [hr]
  exact hK undef w' ⟨h3, h4⟩

theorem d_bslice {t e : TypeId} {n : Nat} {parts : Array (Nat × Operand)} {vs : List (Nat × Value)} {cs : Array Value} {z : Value} {sz : Nat} (hv : parts.toList.map (fun p => (p.1, evO L p.2)) = vs.map (fun p => (p.1, some p.2))) (ht : P.underlying t = some (.slice e)) (hi : (P.info? e).map (fun i => (i.zero, i.size)) = some (some z, sz))
    (hn : (Nat.ble (n * sz) 16777216 && Nat.blt 0 (n * sz)) = true) (hf : Instr.fill (fun i => some (i * sz, sz)) ((Array.range (n * sz)).map (z.cells[· % z.cells.size]!)) vs = some cs) :
    Does P L ⟨d, .buildSlice t n parts, ty, ps, af, g⟩ w (fun v w' => ∃ b, v = .slice (some ⟨b, 0, none⟩) n n ∧ Fresh w cs e b w') := by
  obtain ⟨ie, hie, hz, hs⟩ : ∃ ie, P.info? e = some ie ∧ ie.zero = some z ∧ ie.size = sz := by
    cases hh : P.info? e with
    | none => rw [hh] at hi; cases hi
    | some ie => rw [hh] at hi; simp at hi; exact ⟨ie, rfl, hi.1, hi.2⟩
  subst hs
  simp only [Bool.and_eq_true, Nat.ble_eq, Nat.blt_eq] at hn
  refine Runs.does (v := .slice (some ⟨w.heap.size, 0, none⟩) n n) (w' := w.alloc (.cells cs e)) (fun ρ hρ => ?_) ⟨_, rfl, fresh_alloc _ _ _⟩
  have he : (parts.map fun (i, x) => (i, ρ x)).toList = vs := by
    simp only [Array.toList_map]
    have : ∀ (l : List (Nat × Operand)) (us : List (Nat × Value)), l.map (fun p => (p.1, evO L p.2)) = us.map (fun p => (p.1, some p.2)) → l.map (fun (i, x) => (i, ρ x)) = us := by
      intro l
      induction l with
      | nil => intro us h; cases us with | nil => rfl | cons u us => simp at h
      | cons x l ih =>
        intro us h
        cases us with
        | nil => simp at h
        | cons u us =>
          simp only [List.map_cons, List.cons.injEq, Prod.mk.injEq] at h ⊢
          exact ⟨by rw [hρ x.2 u.2 h.1.2, h.1.1], ih us h.2⟩
    exact this _ _ hv
  have hr := run_buildSlice (P := P) w t e n (parts.map fun (i, x) => (i, ρ x)) cs ie z ht hie hz (by omega) (by omega) (by rw [he]; exact hf)
  simp only [execOp]
  simp [hr]

theorem r_build {t : TypeId} {parts : Array (Nat × Operand)} {vs : List (Nat × Value)} {cs : Array Value} (hv : parts.toList.map (fun p => (p.1, evO L p.2)) = vs.map (fun p => (p.1, some p.2))) (hr : ∀ w, (Instr.build t vs.toArray).run P w = .ok (.agg cs) w) :
    Runs P L ⟨d, .build t parts, ty, ps, af, g⟩ w (.agg cs) w := by
  intro ρ hρ
  have he : (parts.map fun (i, x) => (i, ρ x)) = vs.toArray := by
    apply Array.ext'
    simp only [Array.toList_map]
    have : ∀ (l : List (Nat × Operand)) (us : List (Nat × Value)), l.map (fun p => (p.1, evO L p.2)) = us.map (fun p => (p.1, some p.2)) → l.map (fun (i, x) => (i, ρ x)) = us := by
      intro l
      induction l with
      | nil => intro us h; cases us with | nil => rfl | cons u us => simp at h
      | cons x l ih =>
        intro us h
        cases us with
        | nil => simp at h
        | cons u us =>
          simp only [List.map_cons, List.cons.injEq, Prod.mk.injEq] at h ⊢
          exact ⟨by rw [hρ x.2 u.2 h.1.2, h.1.1], ih us h.2⟩
    exact this _ _ hv
  simp only [execOp, he]
  simp [hr]

theorem callee_ok {f : FuncId} {fn : Func} (hf : P.funcs[f]? = some fn) (hb : fn.body.isNone = false) (hn : (fn.name == "runtime.NumGoroutine") = false) (args : Array Value) : (callFunc f args).run P w = .ok (.enter f args) w := by
  have h1 : ¬ fn.name = "runtime.NumGoroutine" := by simpa using hn
  have h2 : ¬ fn.body = none := by cases h : fn.body <;> simp_all
  simp [callFunc, hf, h1, h2]

theorem d_call {f : FuncId} {xs : Array Operand} {tys : Array TypeId} {vs : List Value} {R : Value → World → Prop} {fn : Func} (hv : xs.toList.map (evO L) = vs.map some) (hf : P.funcs[f]? = some fn) (hb : fn.body.isNone = false) (hn : (fn.name == "runtime.NumGoroutine") = false)
    (hc : Calls P f vs.toArray w (fun e w' => ∃ v, e = .returned v ∧ R v w')) : Does P L ⟨d, .call { callee := .value (.func f), args := xs, argTypes := tys }, ty, ps, af, g⟩ w R := by
  intro a K Q ha hK
  unfold Oper.wp
  have he : xs.map a.eval = vs.toArray := by
    apply Array.ext'
    simp only [Array.toList_map]
    have : ∀ (l : List Operand) (us : List Value), l.map (evO L) = us.map some → l.map a.eval = us := by
      intro l
      induction l with
      | nil => intro us h; cases us with | nil => rfl | cons u us => simp at h
      | cons x l ih =>
        intro us h
        cases us with
        | nil => simp at h
        | cons u us =>
          simp only [List.map_cons, List.cons.injEq] at h ⊢
          exact ⟨ha x u h.1, ih us h.2⟩
    exact this _ _ hv
  have hr : (execOp a.eval ⟨d, .call { callee := .value (.func f), args := xs, argTypes := tys }, ty, ps, af, g⟩).run P w = .ok (.enter f vs.toArray) w := by
    have h3 := ha (.func f) _ rfl
    simp only [execOp, resolve, he, h3, Deferred.ofValue]
    simp [invoke, callee_ok hf hb hn]
  rw [hr]
  simp only [Oper.upon]
  refine Calls.mono hc fun e w' he => ?_
  obtain ⟨v, rfl, h⟩ := he
  exact hK v w' h

section
variable {f : FuncId} {xs : Array Operand} {tys : Array TypeId} {vs : List Value} {fn : Func} {v : Value}
theorem d_callX {R : Value → World → Prop} (hv : xs.toList.map (evO L) = vs.map some) (hf : P.funcs[f]? = some fn) (hb : fn.body.isNone = false) (hn : (fn.name == "runtime.NumGoroutine") = false)
    (hc : Calls P f vs.toArray w (fun e w' => ∃ v, e = .returned v ∧ R v w')) : Does P L ⟨d, .call { callee := .value (.func f), args := xs, argTypes := tys }, ty, ps, af, g⟩ w R := d_call hv hf hb hn hc
theorem d_callS (hv : xs.toList.map (evO L) = vs.map some) (hf : P.funcs[f]? = some fn) (hb : fn.body.isNone = false) (hn : (fn.name == "runtime.NumGoroutine") = false)
    (hc : Calls P f vs.toArray w (fun e w' => e = .returned v ∧ w = w')) : Does P L ⟨d, .call { callee := .value (.func f), args := xs, argTypes := tys }, ty, ps, af, g⟩ w (fun u w' => u = v ∧ w = w') :=
  d_call hv hf hb hn (Calls.mono hc fun e w' h => ⟨v, h.1, rfl, h.2⟩)
theorem d_callB (hv : xs.toList.map (evO L) = vs.map some) (hf : P.funcs[f]? = some fn) (hb : fn.body.isNone = false) (hn : (fn.name == "runtime.NumGoroutine") = false)
    (hc : Calls P f vs.toArray w (fun e w' => e = .returned v ∧ Below w.heap.size w w')) : Does P L ⟨d, .call { callee := .value (.func f), args := xs, argTypes := tys }, ty, ps, af, g⟩ w (fun u w' => u = v ∧ Below w.heap.size w w') :=
  d_call hv hf hb hn (Calls.mono hc fun e w' h => ⟨v, h.1, rfl, h.2⟩)
end
end
end Go.Proofs.Ytpalmpfkliepfaa

namespace Go.Proofs.Ytpalmpfkliepfaa
open Go.RowKit Go.ChangeShapes Go.WideShapes Go.Deep
set_option linter.unusedVariables false
set_option linter.unusedSimpArgs false

/-- Cells of a type read as data: which cells stand for which data, and what is known of these. -/
structure Reads (P : Program) (t : TypeId) {α : Type} (V : α → List Value) (F : World → α → Prop) : Prop where
  get : ∀ (H : Type) (enc : TypeId × Value → H) (w : World) (base : Nat) (spare : Nat → Bool) (held : Bool) (fuel : Nat) (cs : List Value) (x : DataW H × List MemPlace), DataW.trod enc P w base spare held fuel t cs = some x → ∃ d, cs = V d ∧ F w d
  kept : ∀ w w' d, Below w.heap.size w w' → F w d → F w' d

def vInt (k : IntKind) (n : Int) : List Value := [.int k n]
def fInt (k : IntKind) (_ : World) (n : Int) : Prop := (Lit.int k n).wf = true
def vStr (s : ByteArray) : List Value := [.string s]
def fStr (_ : World) (s : ByteArray) : Prop := s.size ≤ maxLen
theorem reads_int {P : Program} {t : TypeId} {k : IntKind} (ht : P.underlying t = some (.int k)) : Reads P t (vInt k) (fInt k) where
  get := by
    intro H enc w base spare held fuel cs x h
    obtain ⟨n, e, _, hw⟩ := DataW.trod_int ht h
    exact ⟨n, e, hw⟩
  kept := fun _ _ _ _ h => h

theorem reads_string {P : Program} {t : TypeId} (ht : P.underlying t = some .string) : Reads P t vStr fStr where
  get := by
    intro H enc w base spare held fuel cs x h
    cases fuel with
    | zero => simp [DataW.trod] at h
    | succ m =>
      unfold DataW.trod at h
      rw [ht] at h
      split at h <;> simp_all
      rename_i s
      exact ⟨s, rfl, h.1⟩
  kept := fun _ _ _ _ h => h

/- Structs: field by field. -/
structure ReadsFs (P : Program) (fs : List Field) (o tot : Nat) {α : Type} (V : α → List Value) (F : World → α → Prop) : Prop where
  get : ∀ (H : Type) (enc : TypeId × Value → H) (w : World) (base : Nat) (spare : Nat → Bool) (held : Bool) (n : Nat) (cs : List Value) (xs : List (DataW H × List MemPlace)), cs.length = tot → xs.length = fs.length →
    (∀ (i : Nat) (f : Field), fs[i]? = some f → DataW.trod enc P w base spare held n f.type ((cs.drop f.offset).take (P.cellsOf f.type)) = xs[i]?) → ∃ d, cs.drop o = V d ∧ F w d
  kept : ∀ w w' d, Below w.heap.size w w' → F w d → F w' d

/- Arrays. -/
/- Slices. -/
structure Sl (α : Type) where
  at' : Option Addr
  len : Nat
  cap : Nat
  el : Nat → α
def vSl {α : Type} (d : Sl α) : List Value := [.slice d.at' d.len d.cap]
def fSl {α : Type} (k : Nat) (V : α → List Value) (F : World → α → Prop) (w : World) (d : Sl α) : Prop :=
  d.len ≤ d.cap ∧ d.cap ≤ maxLen ∧ (d.at' = none → d.cap = 0) ∧ ∀ j, j < d.len → F w (d.el j) ∧ ∃ b off, d.at' = some ⟨b, off, none⟩ ∧ b < w.heap.size ∧ ∀ i u, (V (d.el j))[i]? = some u → w.cell? ⟨b, off + j * k + i, none⟩ = some u

theorem cell_here {w : World} {x : Addr} {v : Value} (h : w.cell? x = some v) : x.spot = none ∧ x.block < w.heap.size := by
  unfold World.cell? at h
  split at h
  · rename_i c e fr hh
    refine ⟨?_, (Array.getElem?_eq_some_iff.1 hh).1⟩
    cases hsp : x.spot with
    | none => rfl
    | some _ => simp [hsp] at h
  · cases h

/- An argument. -/
theorem Reads.arg {P : Program} {t : TypeId} {α : Type} {V : α → List Value} {F : World → α → Prop} (R : Reads P t V F) {H : Type} {enc : TypeId × Value → H} {w : World} {base : Nat} {spare : Nat → Bool} {held : Bool} {v : Value} {d : DataW H} {p : List MemPlace}
    (h : DataW.Trod enc P w base spare held t v d p) : ∃ d, v.cells.toList = V d ∧ F w d := by
  obtain ⟨fuel, hf⟩ := h
  exact R.get H enc w base spare held fuel _ _ hf

/-- Numbers of one cell, as a list. -/
def Sl.list {α : Type} (d : Sl α) : List α := (List.range d.len).map d.el
theorem Sl.list_length {α : Type} (d : Sl α) : d.list.length = d.len := by simp [Sl.list]
theorem Sl.list_get {α : Type} (d : Sl α) {j : Nat} (h : j < d.len) : d.list[j]? = some (d.el j) := by simp [Sl.list, h]
end Go.Proofs.Ytpalmpfkliepfaa
