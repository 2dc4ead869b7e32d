/-
  What is proved here: arguments of any plain type (numbers, strings, slices, structs, arrays, nested) are read as data of Lean, by combinators.
-/
import Derived.Test.YtbllifhcfgjdlaaKit
import Derived.Deep.Slices
import Derived.OpenShut
import Derived.ChangeSame
namespace Go.Proofs.Ytbllifhcfgjdlaa
open Go.RowKit Go.ChangeShapes Go.WideShapes Go.Deep
set_option linter.unusedVariables false
set_option linter.unusedSimpArgs false

/-- Cells of a type read as data: which cells stand for which data, and what is known of these. -/
structure Reads (P : Program) (t : TypeId) {α : Type} (V : α → List Value) (F : World → α → Prop) : Prop where
  get : ∀ (H : Type) (enc : TypeId × Value → H) (w : World) (base : Nat) (spare : Nat → Bool) (held : Bool) (fuel : Nat) (cs : List Value) (x : DataW H × List MemPlace), DataW.trod enc P w base spare held fuel t cs = some x → ∃ d, cs = V d ∧ F w d
  kept : ∀ w w' d, Below w.heap.size w w' → F w d → F w' d

def vInt (k : IntKind) (n : Int) : List Value := [.int k n]
def fInt (k : IntKind) (_ : World) (n : Int) : Prop := (Lit.int k n).wf = true
def vBool (b : Bool) : List Value := [.bool b]
def vStr (s : ByteArray) : List Value := [.string s]
def fStr (_ : World) (s : ByteArray) : Prop := s.size ≤ maxLen
def fAll {α : Type} (_ : World) (_ : α) : Prop := True

theorem reads_int {P : Program} {t : TypeId} {k : IntKind} (ht : P.underlying t = some (.int k)) : Reads P t (vInt k) (fInt k) where
  get := by
    intro H enc w base spare held fuel cs x h
    obtain ⟨n, e, _, hw⟩ := DataW.trod_int ht h
    exact ⟨n, e, hw⟩
  kept := fun _ _ _ _ h => h

theorem reads_bool {P : Program} {t : TypeId} (ht : P.underlying t = some .bool) : Reads P t vBool fAll where
  get := by
    intro H enc w base spare held fuel cs x h
    cases fuel with
    | zero => simp [DataW.trod] at h
    | succ m =>
      unfold DataW.trod at h
      rw [ht] at h
      split at h
      all_goals first | exact ⟨_, rfl, trivial⟩ | (simp_all; done)
  kept := fun _ _ _ _ h => h

theorem reads_string {P : Program} {t : TypeId} (ht : P.underlying t = some .string) : Reads P t vStr fStr where
  get := by
    intro H enc w base spare held fuel cs x h
    cases fuel with
    | zero => simp [DataW.trod] at h
    | succ m =>
      unfold DataW.trod at h
      rw [ht] at h
      split at h <;> simp_all
      rename_i s
      exact ⟨s, rfl, h.1⟩
  kept := fun _ _ _ _ h => h

/- Structs: field by field. -/
structure ReadsFs (P : Program) (fs : List Field) (o tot : Nat) {α : Type} (V : α → List Value) (F : World → α → Prop) : Prop where
  get : ∀ (H : Type) (enc : TypeId × Value → H) (w : World) (base : Nat) (spare : Nat → Bool) (held : Bool) (n : Nat) (cs : List Value) (xs : List (DataW H × List MemPlace)), cs.length = tot → xs.length = fs.length →
    (∀ (i : Nat) (f : Field), fs[i]? = some f → DataW.trod enc P w base spare held n f.type ((cs.drop f.offset).take (P.cellsOf f.type)) = xs[i]?) → ∃ d, cs.drop o = V d ∧ F w d
  kept : ∀ w w' d, Below w.heap.size w w' → F w d → F w' d

theorem readsFs_nil {P : Program} {o tot : Nat} (h : o = tot) : ReadsFs P [] o tot (fun (_ : Unit) => []) (fun _ _ => True) where
  get := by
    intro H enc w base spare held n cs xs hl hx hf
    exact ⟨(), List.drop_eq_nil_of_le (by omega), trivial⟩
  kept := fun _ _ _ _ h => h

theorem readsFs_cons {P : Program} {f : Field} {fs : List Field} {o c tot : Nat} {α β : Type} {V : α → List Value} {F : World → α → Prop} {V' : β → List Value} {F' : World → β → Prop} (h0 : f.offset = o) (hc : P.cellsOf f.type = c) (R : Reads P f.type V F) (Rs : ReadsFs P fs (o + c) tot V' F') :
    ReadsFs P (f :: fs) o tot (fun (d : α × β) => V d.1 ++ V' d.2) (fun w d => F w d.1 ∧ F' w d.2) where
  get := by
    intro H enc w base spare held n cs xs hl hx hf
    cases xs with
    | nil => simp at hx
    | cons y ys =>
      have hh := hf 0 f rfl
      obtain ⟨d1, e1, g1⟩ := R.get H enc w base spare held n _ y (by simpa using hh)
      obtain ⟨d2, e2, g2⟩ := Rs.get H enc w base spare held n cs ys hl (by simpa using hx) (fun i g hg => by simpa using hf (i + 1) g (by simpa using hg))
      refine ⟨(d1, d2), ?_, g1, g2⟩
      rw [h0, hc] at e1
      show _ = V d1 ++ V' d2
      rw [← e1, ← e2, ← List.drop_drop, List.take_append_drop]
  kept := fun w w' d hb h => ⟨R.kept w w' _ hb h.1, Rs.kept w w' _ hb h.2⟩

theorem reads_struct {P : Program} {t : TypeId} {fs : Array Field} {tot : Nat} {α : Type} {V : α → List Value} {F : World → α → Prop} (ht : P.underlying t = some (.struct fs)) (hc : P.cellsOf t = tot) (Rs : ReadsFs P fs.toList 0 tot V F) : Reads P t V F where
  get := by
    intro H enc w base spare held fuel cs x h
    obtain ⟨xs, n, _, _, hl, hlen, hf⟩ := DataW.trod_struct ht h
    obtain ⟨d, e, g⟩ := Rs.get H enc w base spare held n cs xs (hl.trans hc) (by simpa using hlen) (fun i f hi => hf i f (by simpa using hi))
    exact ⟨d, by simpa using e, g⟩
  kept := Rs.kept

/- Arrays. -/
def vArr {α : Type} (V : α → List Value) : Nat → (Nat → α) → List Value
  | 0, _ => []
  | n + 1, d => V (d 0) ++ vArr V n (fun i => d (i + 1))
def fArr {α : Type} (n : Nat) (F : World → α → Prop) (w : World) (d : Nat → α) : Prop := ∀ i, i < n → F w (d i)

theorem arr_get {α : Type} {V : α → List Value} {c : Nat} : ∀ (n : Nat) (cs : List Value) (d : Nat → α), cs.length = n * c → (∀ i, i < n → (cs.drop (i * c)).take c = V (d i)) → cs = vArr V n d
  | 0, cs, d, hl, _ => List.eq_nil_of_length_eq_zero (by omega)
  | n + 1, cs, d, hl, h => by
    have h0 := h 0 (by omega)
    rw [Nat.zero_mul, List.drop_zero] at h0
    have hr := arr_get (V := V) (c := c) n (cs.drop c) (fun i => d (i + 1)) (by rw [List.length_drop, hl, Nat.succ_mul]; omega) (fun i hi => by
      have := h (i + 1) (by omega)
      rw [List.drop_drop, show c + i * c = (i + 1) * c by rw [Nat.succ_mul]; omega]
      exact this)
    show cs = V (d 0) ++ vArr V n _
    rw [← h0, ← hr, List.take_append_drop]

theorem reads_array {P : Program} {t e : TypeId} {n c : Nat} {α : Type} [Inhabited α] {V : α → List Value} {F : World → α → Prop} (ht : P.underlying t = some (.array n e)) (hc : P.cellsOf t = n * c) (hce : P.cellsOf e = c) (R : Reads P e V F) : Reads P t (vArr V n) (fArr n F) where
  get := by
    intro H enc w base spare held fuel cs x h
    obtain ⟨xs, m, _, _, hl, hlen, hf⟩ := DataW.trod_array ht h
    have key : ∀ i, ∃ d, i < n → (cs.drop (i * c)).take c = V d ∧ F w d := by
      intro i
      by_cases hi : i < n
      · have hh := hf i hi
        rw [List.getElem?_eq_getElem (by omega)] at hh
        obtain ⟨d, e1, g⟩ := R.get H enc w base spare held m _ _ hh
        rw [hce] at e1
        exact ⟨d, fun _ => ⟨e1, g⟩⟩
      · exact ⟨default, fun h => absurd h hi⟩
    refine ⟨fun i => Classical.choose (key i), arr_get n cs _ (hl.trans hc) (fun i hi => (Classical.choose_spec (key i) hi).1), fun i hi => (Classical.choose_spec (key i) hi).2⟩
  kept := fun w w' d hb h i hi => R.kept w w' _ hb (h i hi)

/- Slices. -/
structure Sl (α : Type) where
  at' : Option Addr
  len : Nat
  cap : Nat
  el : Nat → α
def vSl {α : Type} (d : Sl α) : List Value := [.slice d.at' d.len d.cap]
def fSl {α : Type} (k : Nat) (V : α → List Value) (F : World → α → Prop) (w : World) (d : Sl α) : Prop :=
  d.len ≤ d.cap ∧ d.cap ≤ maxLen ∧ (d.at' = none → d.cap = 0) ∧ ∀ j, j < d.len → F w (d.el j) ∧ ∃ b off, d.at' = some ⟨b, off, none⟩ ∧ b < w.heap.size ∧ ∀ i u, (V (d.el j))[i]? = some u → w.cell? ⟨b, off + j * k + i, none⟩ = some u

theorem cell_here {w : World} {x : Addr} {v : Value} (h : w.cell? x = some v) : x.spot = none ∧ x.block < w.heap.size := by
  unfold World.cell? at h
  split at h
  · rename_i c e fr hh
    refine ⟨?_, (Array.getElem?_eq_some_iff.1 hh).1⟩
    cases hsp : x.spot with
    | none => rfl
    | some _ => simp [hsp] at h
  · cases h

theorem reads_slice {P : Program} {t e : TypeId} {k : Nat} {α : Type} [Inhabited α] {V : α → List Value} {F : World → α → Prop} (ht : P.underlying t = some (.slice e)) (hk : P.cellsOf e = k) (h1 : 0 < k) (R : Reads P e V F) : Reads P t (vSl (α := α)) (fSl k V F) where
  get := by
    intro H enc w base spare held fuel cs x h
    rcases open_slice ht h with ⟨rfl, _⟩ | ⟨a, len, cap, m, n, D, Pl, rfl, hb, hlc, hm, hmm, hx, hi⟩
    · exact ⟨⟨none, 0, 0, fun _ => default⟩, rfl, Nat.le_refl _, Nat.zero_le _, fun _ => rfl, fun j hj => absurd hj (by simp)⟩
    · have hml : len ≤ m := by rw [hmm]; split <;> omega
      have key : ∀ j, ∃ d, j < len → F w d ∧ ∃ b off, a = ⟨b, off, none⟩ ∧ b < w.heap.size ∧ ∀ i u, (V d)[i]? = some u → w.cell? ⟨b, off + j * k + i, none⟩ = some u := by
        intro j
        by_cases hj : j < len
        · obtain ⟨cs', hc, ht'⟩ := hi j (by omega)
          rw [hk] at hc
          obtain ⟨_, hcl, hat⟩ := World.cells?_some hc
          obtain ⟨d, e1, g⟩ := R.get H enc w base spare held n cs' _ ht'
          refine ⟨d, fun _ => ⟨g, ?_⟩⟩
          obtain ⟨cs0, hc0, _⟩ := hi 0 (by omega)
          rw [hk, Nat.zero_mul] at hc0
          obtain ⟨_, hcl0, hat0⟩ := World.cells?_some hc0
          have h0 := hat0 0 (by omega)
          rw [show ((a.add 0).add 0) = a from rfl] at h0
          obtain ⟨s0, l0⟩ := cell_here (w := w) (x := a) (v := cs0[0]'(by omega)) (by rw [h0]; exact List.getElem?_eq_getElem _)
          obtain ⟨b, off, sp⟩ := a
          simp only at s0
          subst s0
          have ea : ∀ o q, (⟨b, o, none⟩ : Addr).add q = ⟨b, o + q, none⟩ := fun o q => by
            by_cases hq : q = 0
            · subst hq; rfl
            · unfold Addr.add; rw [if_neg hq]
          refine ⟨b, off, rfl, l0, fun i u hu => ?_⟩
          · rw [← e1] at hu
            have hil : i < k := by
              have := (List.getElem?_eq_some_iff.1 hu).1
              omega
            have := hat i hil
            rw [ea, ea] at this
            rw [this]; exact hu
        · exact ⟨default, fun h => absurd h hj⟩
      refine ⟨⟨some a, len, cap, fun j => Classical.choose (key j)⟩, rfl, hlc, hm, (fun h => by cases h), fun j hj => ?_⟩
      obtain ⟨g, b, off, rfl, r⟩ := Classical.choose_spec (key j) hj
      exact ⟨g, b, off, rfl, r⟩
  kept := fun w w' d hb h => ⟨h.1, h.2.1, h.2.2.1, fun j hj => by
    obtain ⟨g, b, off, ha, hl, hc⟩ := h.2.2.2 j hj
    exact ⟨R.kept w w' _ hb g, b, off, ha, Nat.lt_of_lt_of_le hl hb.size, fun i u hu => (hb.cell (p := ⟨b, off + j * k + i, none⟩) hl).trans (hc i u hu)⟩⟩

/- An argument. -/
theorem Reads.arg {P : Program} {t : TypeId} {α : Type} {V : α → List Value} {F : World → α → Prop} (R : Reads P t V F) {H : Type} {enc : TypeId × Value → H} {w : World} {base : Nat} {spare : Nat → Bool} {held : Bool} {v : Value} {d : DataW H} {p : List MemPlace}
    (h : DataW.Trod enc P w base spare held t v d p) : ∃ d, v.cells.toList = V d ∧ F w d := by
  obtain ⟨fuel, hf⟩ := h
  exact R.get H enc w base spare held fuel _ _ hf

/-- Numbers of one cell, as a list. -/
def Sl.list {α : Type} (d : Sl α) : List α := (List.range d.len).map d.el
theorem Sl.list_length {α : Type} (d : Sl α) : d.list.length = d.len := by simp [Sl.list]
theorem Sl.list_get {α : Type} (d : Sl α) {j : Nat} (h : j < d.len) : d.list[j]? = some (d.el j) := by simp [Sl.list, h]
end Go.Proofs.Ytbllifhcfgjdlaa
