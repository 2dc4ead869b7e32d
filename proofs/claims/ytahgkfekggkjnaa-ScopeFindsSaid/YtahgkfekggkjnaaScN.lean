/- What is proved here: slices cut at their beginning; what is found among exports and units, as plain functions. -/
import Derived.Test.YtahgkfekggkjnaaPlA
namespace Go.Proofs.Ytahgkfekggkjnaa
open Go.RowKit
set_option linter.unusedVariables false
set_option linter.unusedSimpArgs false

def fromA (a : Option Addr) (m c s : Nat) : Option Addr := if c = m then a else a.map (·.add (m * s))
section
variable {P : Program} {L : List (Nat × Value)} {w : World} {d : Option Tmp} {ty : TypeId} {ps : String} {af : Array Edge} {g : Option (Nat × Bool)}
theorem r_slfrom {t e : TypeId} {x l : Operand} {k : IntKind} {M : Int} {a : Option Addr} {n c m s : Nat} (hx : evO L x = some (.slice a n c)) (hl : evO L l = some (.int k M)) (ht : P.underlying t = some (.slice e)) (hs : (P.info? e).map (·.size) = some s) (hM : M = m) (hm : m ≤ n) :
    Runs P L ⟨d, .slice t x (some l) none none, ty, ps, af, g⟩ w (.slice (fromA a m c s) (n - m) (c - m)) w := by
  intro ρ hρ
  obtain ⟨ii, hii, hss⟩ : ∃ ii, P.info? e = some ii ∧ ii.size = s := by
    cases hq : P.info? e with
    | none => rw [hq] at hs; cases hs
    | some ii => rw [hq] at hs; exact ⟨ii, rfl, by simpa using hs⟩
  have he : P.elem t = e := by simp [Program.elem, ht]
  subst hM
  have h1 := run_sliceAt_slice (P := P) w t (.slice a n c) (some (.int k (m : Int))) none none (by rw [he]; exact ht)
  have h2 := run_slice_l (P := P) w t a n c (by rw [he]; exact ht) k m (by omega) (by omega)
  simp only [execOp, hρ x _ hx, Option.map_none, Option.map_some, hρ l _ hl]
  simp only [Sem.run_bind, h1, h2, he, sizeOf, typeInfo]
  simp [hii, hss, sliced, fromA]
end
theorem RdS.from {α : Type} {k : Nat} {V : α → List Value} {w : World} {a : Option Addr} {l : List α} {m c : Nat} (h : RdS k V w a l) (hlc : l.length ≤ c) : RdS k V w (fromA a m c k) (l.drop m) := by
  intro j x hx
  rw [List.getElem?_drop] at hx
  have hj := (List.getElem?_eq_some_iff.1 hx).1
  obtain ⟨b, off, ha, hl, hc⟩ := h (m + j) x hx
  subst ha
  have hne : ¬ c = m := by omega
  refine ⟨b, off + m * k, ?_, hl, fun i u hu => ?_⟩
  · unfold fromA
    rw [if_neg hne]
    show some (Addr.add _ _) = _
    unfold Addr.add
    by_cases h0 : m * k = 0
    · rw [if_pos h0, h0]; rfl
    · rw [if_neg h0]
  · rw [show off + m * k + j * k + i = off + (m + j) * k + i by rw [Nat.add_mul]; omega]
    exact hc i u hu

def findE (nm : ByteArray) : List MExp → MExp × Bool
  | [] => (zMExp, false)
  | x :: l => if x.1 = nm then (x, true) else findE nm l
abbrev expsU (u : MUn) : Sl MExp := u.2.1.2.2.2.2.2.2.1
def findU (nm : ByteArray) : List MUn → Nat → Int × MExp × Bool
  | [], _ => (0, zMExp, false)
  | u :: l, i => if (findE nm (expsU u).list).2 = true then (((i : Nat) : Int), (findE nm (expsU u).list).1, true) else findU nm l (i + 1)
def unitU (k : Nat) (y : MMd) : MUn := (strOfNums [((97 : Int) + ((k : Nat) : Int))], y, ())
theorem unit_snoc {xs : List MUn} {ms : List MMd} {k : Nat} {y : MMd} (hl : xs.length = k) (hx : ∀ j m, j < k → ms[j]? = some m → xs[j]? = some (unitU j m)) (hy : ms[k]? = some y) : ∀ j m, j < k + 1 → ms[j]? = some m → (xs ++ [unitU k y])[j]? = some (unitU j m) := by
  intro j m hj hm
  by_cases h : j < k
  · rw [List.getElem?_append_left (by omega)]; exact hx j m h hm
  · have : j = k := by omega
    subst this
    rw [hm] at hy
    cases hy
    rw [List.getElem?_append_right (by omega), hl, Nat.sub_self]; rfl
theorem findU_shift (nm : ByteArray) : ∀ (l : List MUn) (i : Nat), (findU nm l (i + 1)).2 = (findU nm l i).2 ∧ ((findU nm l i).2.2 = true → (findU nm l (i + 1)).1 = (findU nm l i).1 + 1)
  | [], i => ⟨rfl, fun h => by cases h⟩
  | u :: l, i => by
    have h1 := findU_shift nm l (i + 1)
    rw [findU, findU]
    by_cases h : (findE nm (expsU u).list).2 = true
    · rw [if_pos h, if_pos h]
      exact ⟨rfl, fun _ => by show (((i + 1 : Nat) : Int)) = _; omega⟩
    · rw [if_neg h, if_neg h]
      exact h1
/-- What the first unit gives, and the others. -/
theorem findU_near (nm : ByteArray) (u : MUn) (l : List MUn) : ((findU nm [u] 0).2.2 = true → findU nm (u :: l) 0 = findU nm [u] 0 ∧ (findU nm [u] 0).1 = 0) ∧ (¬ (findU nm [u] 0).2.2 = true → (findU nm (u :: l) 0).2 = (findU nm l 0).2 ∧ ((findU nm l 0).2.2 = true → (findU nm (u :: l) 0).1 = (findU nm l 0).1 + 1)) := by
  by_cases h : (findE nm (expsU u).list).2 = true
  · have e1 : findU nm [u] 0 = (((0 : Nat) : Int), (findE nm (expsU u).list).1, true) := by rw [findU, if_pos h]
    have e2 : findU nm (u :: l) 0 = (((0 : Nat) : Int), (findE nm (expsU u).list).1, true) := by rw [findU, if_pos h]
    rw [e1, e2]
    exact ⟨fun _ => ⟨rfl, rfl⟩, fun hn => absurd rfl hn⟩
  · have e1 : findU nm [u] 0 = (0, zMExp, false) := by rw [findU, if_neg h, findU]
    have e2 : findU nm (u :: l) 0 = findU nm l 1 := by rw [findU, if_neg h]
    rw [e1, e2]
    exact ⟨fun hn => (by cases hn), fun _ => findU_shift nm l 0⟩
end Go.Proofs.Ytahgkfekggkjnaa
