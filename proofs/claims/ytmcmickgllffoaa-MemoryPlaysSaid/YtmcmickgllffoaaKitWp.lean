/- What is proved here: arguments read as data of Lean, with what is known of their size: no slice that came in takes more bytes than a machine has. -/
import Derived.Test.YtmcmickgllffoaaKitOp
import Derived.SizedLaws
namespace Go.Proofs.Ytmcmickgllffoaa
open Go.RowKit Go.ChangeShapes Go.WideShapes Go.Deep
set_option linter.unusedVariables false
set_option linter.unusedSimpArgs false

structure ReadsW (P : Program) (t : TypeId) {α : Type} (V : α → List Value) (F : World → α → Prop) : Prop where
  get : ∀ (H : Type) (enc : TypeId × Value → H) (w : World) (base : Nat) (spare : Nat → Bool) (held : Bool) (fuel : Nat) (cs : List Value) (x : DataW H × List MemPlace), DataW.trod enc P w base spare held fuel t cs = some x → (∀ n ∈ x.1.weights P t, n ≤ reachBytes) → ∃ d, cs = V d ∧ F w d
  kept : ∀ w w' d, Below w.heap.size w w' → F w d → F w' d

theorem Reads.toW {P : Program} {t : TypeId} {α : Type} {V : α → List Value} {F : World → α → Prop} (R : Reads P t V F) : ReadsW P t V F :=
  ⟨fun H enc w base spare held fuel cs x h _ => R.get H enc w base spare held fuel cs x h, R.kept⟩

structure ReadsFsW (P : Program) (fs : List Field) (o tot : Nat) {α : Type} (V : α → List Value) (F : World → α → Prop) : Prop where
  get : ∀ (H : Type) (enc : TypeId × Value → H) (w : World) (base : Nat) (spare : Nat → Bool) (held : Bool) (n : Nat) (cs : List Value) (xs : List (DataW H × List MemPlace)), cs.length = tot → xs.length = fs.length →
    (∀ (i : Nat) (f : Field), fs[i]? = some f → DataW.trod enc P w base spare held n f.type ((cs.drop f.offset).take (P.cellsOf f.type)) = xs[i]?) →
    (∀ (i : Nat) (f : Field) (x : DataW H × List MemPlace), fs[i]? = some f → xs[i]? = some x → ∀ n ∈ x.1.weights P f.type, n ≤ reachBytes) → ∃ d, cs.drop o = V d ∧ F w d
  kept : ∀ w w' d, Below w.heap.size w w' → F w d → F w' d

theorem readsFsW_nil {P : Program} {o tot : Nat} (h : o = tot) : ReadsFsW P [] o tot (fun (_ : Unit) => []) (fun _ _ => True) where
  get := by
    intro H enc w base spare held n cs xs hl hx hf hw
    exact ⟨(), List.drop_eq_nil_of_le (by omega), trivial⟩
  kept := fun _ _ _ _ h => h

theorem readsFsW_cons {P : Program} {f : Field} {fs : List Field} {o c tot : Nat} {α β : Type} {V : α → List Value} {F : World → α → Prop} {V' : β → List Value} {F' : World → β → Prop} (h0 : f.offset = o) (hc : P.cellsOf f.type = c) (R : ReadsW P f.type V F) (Rs : ReadsFsW P fs (o + c) tot V' F') :
    ReadsFsW P (f :: fs) o tot (fun (d : α × β) => V d.1 ++ V' d.2) (fun w d => F w d.1 ∧ F' w d.2) where
  get := by
    intro H enc w base spare held n cs xs hl hx hf hw
    cases xs with
    | nil => simp at hx
    | cons y ys =>
      have hh := hf 0 f rfl
      obtain ⟨d1, e1, g1⟩ := R.get H enc w base spare held n _ y (by simpa using hh) (hw 0 f y rfl rfl)
      obtain ⟨d2, e2, g2⟩ := Rs.get H enc w base spare held n cs ys hl (by simpa using hx) (fun i g hg => by simpa using hf (i + 1) g (by simpa using hg)) (fun i g x hg hx => hw (i + 1) g x (by simpa using hg) (by simpa using hx))
      refine ⟨(d1, d2), ?_, g1, g2⟩
      rw [h0, hc] at e1
      show _ = V d1 ++ V' d2
      rw [← e1, ← e2, ← List.drop_drop, List.take_append_drop]
  kept := fun w w' d hb h => ⟨R.kept w w' _ hb h.1, Rs.kept w w' _ hb h.2⟩

theorem readsW_struct {P : Program} {t : TypeId} {fs : Array Field} {tot : Nat} {α : Type} {V : α → List Value} {F : World → α → Prop} (ht : P.underlying t = some (.struct fs)) (hc : P.cellsOf t = tot) (Rs : ReadsFsW P fs.toList 0 tot V F) : ReadsW P t V F where
  get := by
    intro H enc w base spare held fuel cs x h hw
    obtain ⟨xs, n, _, hx, hl, hlen, hf⟩ := DataW.trod_struct ht h
    obtain ⟨d, e, g⟩ := Rs.get H enc w base spare held n cs xs (hl.trans hc) (by simpa using hlen) (fun i f hi => hf i f (by simpa using hi)) (fun i f y hi hy n hn => hw n (by
      rw [hx]
      simp only [DataW.weights, ht]
      exact DataW.weights_mem_each (j := i) (t := f.type) (d := y.1) (by simp [List.getElem?_map, hi]) (by simp [List.getElem?_map, hy]) n hn))
    exact ⟨d, by simpa using e, g⟩
  kept := Rs.kept

def fSlW {α : Type} (k by' : Nat) (V : α → List Value) (F : World → α → Prop) (w : World) (d : Sl α) : Prop := d.len * by' ≤ 140737488351232 ∧ fSl k V F w d

theorem weightsAll_mem {H : Type} {P : Program} {e : TypeId} : ∀ {l : List (DataW H)} {d : DataW H}, d ∈ l → ∀ n ∈ d.weights P e, n ∈ DataW.weightsAll P e l
  | a :: l, d, hd, n, hn => by
    simp only [DataW.weightsAll, List.mem_append]
    rcases List.mem_cons.1 hd with rfl | h
    · exact .inl hn
    · exact .inr (weightsAll_mem h n hn)
  | [], _, hd, _, _ => by cases hd

theorem readsW_slice {P : Program} {t e : TypeId} {k by' : Nat} {α : Type} [Inhabited α] {V : α → List Value} {F : World → α → Prop} (ht : P.underlying t = some (.slice e)) (hk : P.cellsOf e = k) (hby : P.bytesOf e = by') (h1 : 0 < k) (R : ReadsW P e V F) : ReadsW P t (vSl (α := α)) (fSlW k by' V F) where
  get := by
    intro H enc w base spare held fuel cs x h hw
    rcases open_slice ht h with ⟨rfl, _⟩ | ⟨a, len, cap, m, n, D, Pl, rfl, hb, hlc, hm, hmm, hx, hi⟩
    · exact ⟨⟨none, 0, 0, fun _ => default⟩, rfl, by simp, Nat.le_refl _, Nat.zero_le _, fun _ => rfl, fun j hj => absurd hj (by simp)⟩
    · have hml : len ≤ m := by rw [hmm]; split <;> omega
      have hwl : len * by' ≤ 140737488351232 := by
        have h2 := hw ((((List.range len).map D).length + ((List.range (m - len)).map fun j => D (len + j)).length) * P.bytesOf e) (by rw [hx]; simp [DataW.weights, ht])
        simp only [List.length_map, List.length_range, hby] at h2
        exact Nat.le_trans (Nat.mul_le_mul_right _ (Nat.le_add_right _ _)) h2
      have key : ∀ j, ∃ d, j < len → F w d ∧ ∃ b off, a = ⟨b, off, none⟩ ∧ b < w.heap.size ∧ ∀ i u, (V d)[i]? = some u → w.cell? ⟨b, off + j * k + i, none⟩ = some u := by
        intro j
        by_cases hj : j < len
        · obtain ⟨cs', hc, ht'⟩ := hi j (by omega)
          rw [hk] at hc
          obtain ⟨_, hcl, hat⟩ := World.cells?_some hc
          obtain ⟨d, e1, g⟩ := R.get H enc w base spare held n cs' _ ht' (fun n hn => hw n (by
            rw [hx]
            simp only [DataW.weights, ht]
            exact List.mem_cons_of_mem _ (List.mem_append.2 (.inl (weightsAll_mem (List.mem_map.2 ⟨j, List.mem_range.2 hj, rfl⟩) n hn)))))
          refine ⟨d, fun _ => ⟨g, ?_⟩⟩
          obtain ⟨cs0, hc0, _⟩ := hi 0 (by omega)
          rw [hk, Nat.zero_mul] at hc0
          obtain ⟨_, hcl0, hat0⟩ := World.cells?_some hc0
          have h0 := hat0 0 (by omega)
          rw [show ((a.add 0).add 0) = a from rfl] at h0
          obtain ⟨s0, l0⟩ := cell_here (w := w) (x := a) (v := cs0[0]'(by omega)) (by rw [h0]; exact List.getElem?_eq_getElem _)
          obtain ⟨b, off, sp⟩ := a
          simp only at s0
          subst s0
          have ea : ∀ o q, (⟨b, o, none⟩ : Addr).add q = ⟨b, o + q, none⟩ := fun o q => by
            by_cases hq : q = 0
            · subst hq; rfl
            · unfold Addr.add; rw [if_neg hq]
          refine ⟨b, off, rfl, l0, fun i u hu => ?_⟩
          · rw [← e1] at hu
            have hil : i < k := by
              have := (List.getElem?_eq_some_iff.1 hu).1
              omega
            have := hat i hil
            rw [ea, ea] at this
            rw [this]; exact hu
        · exact ⟨default, fun h => absurd h hj⟩
      refine ⟨⟨some a, len, cap, fun j => Classical.choose (key j)⟩, rfl, hwl, hlc, hm, (fun h => by cases h), fun j hj => ?_⟩
      obtain ⟨g, b, off, rfl, r⟩ := Classical.choose_spec (key j) hj
      exact ⟨g, b, off, rfl, r⟩
  kept := fun w w' d hb h => ⟨h.1, h.2.1, h.2.2.1, h.2.2.2.1, fun j hj => by
    obtain ⟨g, b, off, ha, hl, hc⟩ := h.2.2.2.2 j hj
    exact ⟨R.kept w w' _ hb g, b, off, ha, Nat.lt_of_lt_of_le hl hb.size, fun i u hu => (hb.cell (p := ⟨b, off + j * k + i, none⟩) hl).trans (hc i u hu)⟩⟩

theorem ReadsW.arg {P : Program} {t : TypeId} {α : Type} {V : α → List Value} {F : World → α → Prop} (R : ReadsW P t V F) {H : Type} {enc : TypeId × Value → H} {w : World} {base : Nat} {spare : Nat → Bool} {held : Bool} {v : Value} {d : DataW H} {p : List MemPlace}
    (h : DataW.Trod enc P w base spare held t v d p) (hw : ∀ n ∈ d.weights P t, n ≤ reachBytes) : ∃ d, v.cells.toList = V d ∧ F w d := by
  obtain ⟨fuel, hf⟩ := h
  exact R.get H enc w base spare held fuel _ _ hf hw
theorem weights_at {H : Type} {P : Program} {ts : List TypeId} {ds : List (DataW H)} (h : (DataW.weightsEach P ts ds).all (· ≤ reachBytes) = true) {j : Nat} {t : TypeId} {d : DataW H} (ht : ts[j]? = some t) (hd : ds[j]? = some d) : ∀ n ∈ d.weights P t, n ≤ reachBytes := fun n hn => by
  have := List.all_eq_true.1 h n (DataW.weights_mem_each ht hd n hn)
  simpa using this
end Go.Proofs.Ytmcmickgllffoaa
