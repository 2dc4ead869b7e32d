/- What is proved here: rules for functions that write several blocks of the old memory, for function values, for parts of slices, for bytes of strings. -/
import Derived.Test.YtmcmickgllffoaaSxQp
import Derived.Test.YtmcmickgllffoaaSxSp
import Derived.Lib.ConvBytes
import Derived.Laws.Pointers
namespace Go.Proofs.Ytmcmickgllffoaa
open Go.RowKit
set_option linter.unusedVariables false
set_option linter.unusedSimpArgs false

/-- Below B nothing but the blocks of a list are others. -/
structure KS (S : List Nat) (B : Nat) (w w' : World) : Prop where
  os : w'.os = w.os
  tape : w'.tape = w.tape
  output : w'.output = w.output
  size : w.heap.size ≤ w'.heap.size
  block : ∀ k, k < B → k ∉ S → w'.heap[k]? = w.heap[k]?
section
variable {S S2 : List Nat} {b B : Nat} {w w1 w2 w' : World}
theorem KS.refl (S : List Nat) (B : Nat) (w : World) : KS S B w w := ⟨rfl, rfl, rfl, Nat.le_refl _, fun _ _ _ => rfl⟩
theorem KS.many (h : KS S B w w1) (h2 : KS S2 w1.heap.size w1 w2) (hs : ∀ b ∈ S2, b ∈ S ∨ B ≤ b) (hB : B ≤ w1.heap.size) : KS S B w w2 :=
  ⟨h2.os.trans h.os, h2.tape.trans h.tape, h2.output.trans h.output, Nat.le_trans h.size h2.size, fun k hk hne => (h2.block k (Nat.lt_of_lt_of_le hk hB) (fun hm => (hs k hm).elim hne (fun h => by omega))).trans (h.block k hk hne)⟩
theorem KS.trans (h : KS S B w w1) (h2 : Below B w1 w2) : KS S B w w2 := ⟨h2.os.trans h.os, h2.tape.trans h.tape, h2.output.trans h.output, Nat.le_trans h.size h2.size, fun k hk hne => (h2.block k hk).trans (h.block k hk hne)⟩
theorem KS.of_below (h : Below w.heap.size w w') : KS S w.heap.size w w' := ⟨h.os, h.tape, h.output, h.size, fun k hk _ => h.block k hk⟩
theorem KS.sub (h : KS S B w w') (hs : ∀ b ∈ S, b ∈ S2) : KS S2 B w w' := ⟨h.os, h.tape, h.output, h.size, fun k hk hne => h.block k hk (fun hm => hne (hs k hm))⟩
end
/-- Nothing but block b and a row's own block is another. -/
structure GO (w : World) (b : Nat) (v : Value) (w' : World) : Prop where
  os : w'.os = w.os
  tape : w'.tape = w.tape
  output : w'.output = w.output
  size : w.heap.size ≤ w'.heap.size
  block : ∀ k, k < w.heap.size → k ≠ b → some k ≠ v.ownBlock → w'.heap[k]? = w.heap[k]?
section
variable {w w1 w2 : World} {b : Nat} {v : Value}
theorem GO.refl (w : World) (b : Nat) (v : Value) : GO w b v w := ⟨rfl, rfl, rfl, Nat.le_refl _, fun _ _ _ _ => rfl⟩
theorem GO.call (h : GO w b v w1) (hg : w1.grownBy w2 (some b)) : GO w b v w2 := ⟨hg.os.trans h.os, hg.tape.trans h.tape, hg.output.trans h.output, Nat.le_trans h.size hg.size, fun k hk h3 h4 => (hg.block k (Nat.lt_of_lt_of_le hk h.size) (fun e => h3 (Option.some.inj e))).trans (h.block k hk h3 h4)⟩
end
section
variable {P : Program} {L : List (Nat × Value)} {w : World} {d : Option Tmp} {ty : TypeId} {ps : String} {af : Array Edge} {gu : Option (Nat × Bool)}
theorem r_pnil {tt e : TypeId} {x y : Operand} {yt : TypeId} {p : Option Addr} (hx : evO L x = some (.pointer p)) (hy : evO L y = some (.pointer none)) (ht : P.underlying tt = some (.pointer e)) : Runs P L ⟨d, .binOp .eql tt x y yt, ty, ps, af, gu⟩ w (.bool p.isNone) w :=
  r_bin hx hy (eqGuard_at_pointer _ _ _ _ _ _) (run_eql_pointer_nil _ _ _ (by simp [Program.pointee, ht]))
theorem r_pnnil {tt e : TypeId} {x y : Operand} {yt : TypeId} {p : Option Addr} (hx : evO L x = some (.pointer p)) (hy : evO L y = some (.pointer none)) (ht : P.underlying tt = some (.pointer e)) : Runs P L ⟨d, .binOp .neq tt x y yt, ty, ps, af, gu⟩ w (.bool (!p.isNone)) w :=
  r_bin hx hy (eqGuard_at_pointer _ _ _ _ _ _) (run_neq_pointer_nil _ _ _ (by simp [Program.pointee, ht]))
/-- The bytes of a string, of a block. -/
def StrC (cs : Array Value) (s : ByteArray) : Prop := ∀ j, j < s.size → cs[j]? = some (.int .u8 ((sbt s j : Nat) : Int))
theorem StrC.rd {b e : Nat} {cs : Array Value} {fr : Nat × Nat} {s : ByteArray} (hb : w.heap[b]? = some (.cells cs e fr)) (h : StrC cs s) : RdS 1 (vInt .u8) w (some ⟨b, 0, none⟩) (nums s) := by
  intro j x hx
  have hj : j < s.size := by rw [← nums_len]; exact (List.getElem?_eq_some_iff.1 hx).1
  refine ⟨b, 0, rfl, blk_lt hb, fun i u hu => ?_⟩
  rw [nums_get hj] at hx
  cases hx
  cases i with
  | zero => cases hu; exact cell_blk hb (by rw [Nat.zero_add, Nat.mul_one]; exact h j hj)
  | succ i => cases hu
end
/-- Where a part of a slice lies. -/
def slAt (a : Option Addr) (c l k : Nat) : Option Addr := if c = l then a else a.map (·.add (l * k))
theorem slAt_rd {α : Type} {k e base n c l : Nat} {V : α → List Value} {w : World} {a : Option Addr} {L X : List α} (hk : ∀ x, (V x).length = k) (h : Row k V e base w (.slice a n c) L) (hX : (L.drop l).take X.length = X) (hl : l + X.length ≤ L.length) : RdS k V w (slAt a c l k) X := by
  rcases Nat.eq_zero_or_pos X.length with h0 | h0
  · rw [List.length_eq_zero_iff.1 h0]; exact RdS.nil
  · obtain ⟨b, rfl, _, _⟩ := h.some (by omega)
    have hc := h.caps
    have he : slAt (some ⟨b, 0, none⟩) c l k = some ⟨b, 0 + l * k, none⟩ := by
      unfold slAt
      rw [if_neg (by omega)]
      simp [Addr.add]
      intro h; exact h.symm
    rw [he, ← hX]
    exact ((Row.rd hk h).drop l).take _
section
variable {P : Program} {L : List (Nat × Value)} {w : World} {d : Option Tmp} {ty : TypeId} {ps : String} {af : Array Edge} {gu : Option (Nat × Bool)}
theorem r_slab {t e : TypeId} {x lo hi : Operand} {k k2 : IntKind} {A B : Int} {a : Option Addr} {n c l h sz : Nat} (hx : evO L x = some (.slice a n c)) (hlo : evO L lo = some (.int k A)) (hhi : evO L hi = some (.int k2 B)) (ht : P.underlying t = some (.slice e)) (hs : (P.info? e).map (fun i => i.size) = some sz) (hA : A = l) (hB : B = h) (h1 : l ≤ h) (h2 : h ≤ c) :
    Runs P L ⟨d, .slice t x (some lo) (some hi) none, ty, ps, af, gu⟩ w (.slice (slAt a c l sz) (h - l) (c - l)) w := by
  intro ρ hρ
  obtain ⟨ii, hii, hsz⟩ : ∃ ii, P.info? e = some ii ∧ ii.size = sz := by
    cases hq : P.info? e with
    | none => rw [hq] at hs; cases hs
    | some ii => exact ⟨ii, rfl, by rw [hq] at hs; simpa using hs⟩
  have he : P.elem t = e := by simp [Program.elem, ht]
  subst hA hB hsz
  have h1' := run_sliceAt_slice (P := P) w t (.slice a n c) (some (.int k (l : Int))) (some (.int k2 (h : Int))) none (by rw [he]; exact ht)
  have h2' := run_slice_lh (P := P) w t a n c (by rw [he]; exact ht) k k2 l h (by omega) (by omega) (by omega)
  simp only [execOp, hρ x _ hx, Option.map_none, Option.map_some, hρ lo _ hlo, hρ hi _ hhi]
  simp only [Sem.run_bind, h1', h2', he, sizeOf, typeInfo]
  simp [hii, sliced, slAt]
end
section
variable {P : Program} {fn : Func} {R : Ending → World → Prop} {a : Act} {N : Nat} {L : List (Nat × Value)} {w : World}
end
end Go.Proofs.Ytmcmickgllffoaa
