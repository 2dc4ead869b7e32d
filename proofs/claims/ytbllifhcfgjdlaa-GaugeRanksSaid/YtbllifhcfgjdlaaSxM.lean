/-
  What is proved here: the rules of rows that a call owns, of slices that are read, and of a region whose order is open.
-/
import Derived.Test.YtbllifhcfgjdlaaSxO
import Derived.Test.YtbllifhcfgjdlaaKitO
import Derived.Test.YtbllifhcfgjdlaaSxU
namespace Go.Proofs.Ytbllifhcfgjdlaa
open Go.RowKit
set_option linter.unusedVariables false
set_option linter.unusedSimpArgs false

/-- A slice that can be read: its elements, of k cells each. -/
def RdS {α : Type} (k : Nat) (V : α → List Value) (w : World) (a : Option Addr) (l : List α) : Prop :=
  ∀ j x, l[j]? = some x → ∃ b off, a = some ⟨b, off, none⟩ ∧ b < w.heap.size ∧ ∀ i u, (V x)[i]? = some u → w.cell? ⟨b, off + j * k + i, none⟩ = some u

theorem RdS.ext {α : Type} {k : Nat} {V : α → List Value} {w w' : World} {a : Option Addr} {l : List α} (h : RdS k V w a l) (hb : Below w.heap.size w w') : RdS k V w' a l := by
  intro j x hx
  obtain ⟨b, off, ha, hl, hc⟩ := h j x hx
  exact ⟨b, off, ha, Nat.lt_of_lt_of_le hl hb.size, fun i u hu => (hb.cell (p := ⟨b, off + j * k + i, none⟩) hl).trans (hc i u hu)⟩

theorem RdS.nil {α : Type} {k : Nat} {V : α → List Value} {w : World} {a : Option Addr} : RdS k V w a ([] : List α) := by
  intro j x hx; cases hx

theorem RdS.of_arg {α : Type} {k : Nat} {V : α → List Value} {F : World → α → Prop} {w : World} {d : Sl α} (h : fSl k V F w d) : RdS k V w d.at' d.list := by
  intro j x hx
  have hj : j < d.len := by
    have := (List.getElem?_eq_some_iff.1 hx).1
    rwa [Sl.list_length] at this
  rw [Sl.list_get d hj] at hx
  cases hx
  obtain ⟨_, b, off, ha, hl, hc⟩ := h.2.2.2 j hj
  exact ⟨b, off, ha, hl, hc⟩

/-- One element. -/
theorem RdS.at {α : Type} {k : Nat} {V : α → List Value} {w : World} {a : Option Addr} {l : List α} (h : RdS k V w a l) {j : Nat} {x : α} (hj : l[j]? = some x) : ∃ b off, a = some ⟨b, off, none⟩ ∧ b < w.heap.size ∧ cellsAt w b (off + j * k) (V x) := by
  obtain ⟨b, off, ha, hl, hc⟩ := h j x hj
  exact ⟨b, off, ha, hl, hc⟩

theorem cellsAt_cell {w : World} {b o i q : Nat} {cs : List Value} {v : Value} (h : cellsAt w b o cs) (hi : cs[i]? = some v) (hq : o + i = q) : w.cell? ⟨b, q, none⟩ = some v := by
  subst hq; exact h i v hi
theorem cellsAt_below {w w' : World} {b o B : Nat} {cs : List Value} (h : cellsAt w b o cs) (hb : Below B w w') (hl : b < B) : cellsAt w' b o cs := fun j v hv => (hb.cell (p := ⟨b, o + j, none⟩) hl).trans (h j v hv)

theorem getElem_flatMap {α : Type} {k : Nat} {V : α → List Value} (hk : ∀ x, (V x).length = k) : ∀ (l : List α) (j i : Nat) (x : α), l[j]? = some x → i < k → (l.flatMap V)[j * k + i]? = (V x)[i]?
  | [], _, _, _, h, _ => by cases h
  | y :: l, 0, i, x, h, hi => by
    simp at h; subst h
    simp only [List.flatMap_cons]
    rw [Nat.zero_mul, Nat.zero_add, List.getElem?_append_left (by rw [hk]; exact hi)]
  | y :: l, j + 1, i, x, h, hi => by
    simp at h
    simp only [List.flatMap_cons]
    rw [List.getElem?_append_right (by rw [hk, Nat.add_mul]; omega), hk, show (j + 1) * k + i - k = j * k + i by rw [Nat.add_mul]; omega]
    exact getElem_flatMap hk l j i x h hi

theorem length_flatMap {α : Type} {k : Nat} {V : α → List Value} (hk : ∀ x, (V x).length = k) (l : List α) : (l.flatMap V).length = l.length * k := by
  induction l with
  | nil => simp
  | cons x l ih => simp only [List.flatMap_cons, List.length_append, List.length_cons, ih, hk, Nat.add_mul]; omega

/-- A row that the call owns: its elements, of k cells each. -/
def Row {α : Type} (k : Nat) (V : α → List Value) (e base : Nat) (w : World) (v : Value) (l : List α) : Prop := w.ownsRow base e k v l.length (l.flatMap V)

section
variable {α : Type} {k : Nat} {V : α → List Value} {e base : Nat} {w w' : World} {v : Value} {l : List α}

theorem Row.nil : Row k V e base w (.slice none 0 0) ([] : List α) := World.ownsRow_nil _ _ _ _
theorem Row.slice (h : Row k V e base w v l) : ∃ a c, v = .slice a l.length c ∧ l.length ≤ c ∧ c ≤ maxLen := by
  rcases h.2 with ⟨rfl, h0⟩ | ⟨g, cap, cur, rfl, _, _, hc, hm, _, _⟩
  · exact ⟨none, 0, by rw [h0], by omega, by unfold maxLen; omega⟩
  · exact ⟨_, cap, rfl, hc, hm⟩
theorem Row.some {a : Option Addr} {n c : Nat} (h : Row k V e base w (.slice a n c) l) (h0 : 0 < l.length) : ∃ g, a = some ⟨g, 0, none⟩ ∧ base ≤ g ∧ g < w.heap.size := by
  rcases h.2 with ⟨_, h1⟩ | ⟨g, cap, cur, hv, hb, hg, _⟩
  · omega
  · simp at hv; exact ⟨g, hv.1, hb, blk_lt hg⟩
theorem Row.rd {a : Option Addr} {n c : Nat} (hk : ∀ x, (V x).length = k) (h : Row k V e base w (.slice a n c) l) : RdS k V w a l := by
  intro j x hx
  have hj := (List.getElem?_eq_some_iff.1 hx).1
  rcases h.2 with ⟨_, h1⟩ | ⟨g, cap, cur, hv, hb, hg, _, _, hs, ht⟩
  · omega
  · simp at hv
    refine ⟨g, 0, hv.1, blk_lt hg, fun i u hu => ?_⟩
    have hik : i < k := by
      have := (List.getElem?_eq_some_iff.1 hu).1
      rwa [hk] at this
    rw [Nat.zero_add, cell_of_row w g _ cur e (0, 0) hg]
    have h2 := getElem_flatMap hk l j i x hx hik
    rw [hu, ← ht, List.getElem?_take] at h2
    split at h2
    · simpa using h2
    · cases h2
theorem Row.lt (h : Row k V e base w v l) : ∀ q, v.ownBlock = Option.some q → base ≤ q ∧ q < w.heap.size := World.ownsRow.lt h
theorem Row.ext (h : Row k V e base w v l) (hb : Below w.heap.size w w') : Row k V e base w' v l := h.kept (below_grown (r := none) hb) (by cases v.ownBlock <;> simp)
theorem Row.grown {c : Nat} (h : Row k V e base w v l) (hg : w.grownBy w' (Option.some c)) (hne : v.ownBlock ≠ Option.some c) : Row k V e base w' v l :=
  h.kept hg (by cases hv : v.ownBlock with | none => exact .inl rfl | some q => exact .inr (by rw [← hv]; exact hne))
theorem Row.grown' {v' : Value} (h : Row k V e base w v l) (hg : w.grownBy w' v'.ownBlock) (hne : ∀ q, v.ownBlock = Option.some q → v'.ownBlock ≠ Option.some q) : Row k V e base w' v l :=
  h.kept hg (by cases hv : v.ownBlock with | none => exact .inl rfl | some q => exact .inr (fun e => hne q hv e.symm))
theorem Row.of_new {b : Nat} {cs : Array Value} (hb : w.heap[b]? = Option.some (.cells cs e (0, 0))) (hbase : base ≤ b) (hcs : cs.toList = l.flatMap V) (hl : l.length * k = cs.size) (hm : l.length ≤ maxLen) : Row k V e base w (.slice (Option.some ⟨b, 0, none⟩) l.length l.length) l := by
  refine ⟨by rw [← hcs, hl]; simp, .inr ⟨b, l.length, cs, rfl, hbase, hb, Nat.le_refl _, hm, hl.symm, ?_⟩⟩
  rw [hl, hcs.symm, ← Array.length_toList, List.take_length]
theorem Row.cut {a : Option Addr} {n c m : Nat} (hk : ∀ x, (V x).length = k) (h : Row k V e base w (.slice a n c) l) (hn : n = l.length) (h0 : 0 < n) (hm : m ≤ n) : Row k V e base w (.slice a m c) (l.take m) := by
  subst hn
  have h2 := ownsRow_cut h hm h0
  have h3 : (l.flatMap V).take (m * k) = (l.take m).flatMap V := by
    clear h h2 h0
    induction l generalizing m with
    | nil => simp
    | cons x l ih =>
      cases m with
      | zero => simp
      | succ m =>
        simp only [List.flatMap_cons, List.take_succ_cons]
        rw [List.take_append, hk, show (m + 1) * k - k = m * k by rw [Nat.add_mul]; omega, ih (by simpa using hm), List.take_of_length_le (by rw [hk, Nat.add_mul]; omega)]
  unfold Row
  rw [List.length_take, Nat.min_eq_left hm, ← h3]
  exact h2
theorem Row.rebase {base' : Nat} (h : Row k V e base w v l) (hb : base' ≤ base) : Row k V e base' w v l :=
  ⟨h.1, h.2.imp id fun ⟨g, cap, cur, hv, hg, r⟩ => ⟨g, cap, cur, hv, Nat.le_trans hb hg, r⟩⟩
theorem Row.ne_type {b T : Nat} {cs : Array Value} (h : Row k V e base w v l) (hb : w.heap[b]? = Option.some (.cells cs T (0, 0))) (hne : (e == T) = false) : v.ownBlock ≠ Option.some b := by
  intro hv
  rcases h.2 with ⟨rfl, _⟩ | ⟨g, cap, cur, rfl, _, hg, _⟩
  · simp [Value.ownBlock] at hv
  · simp [Value.ownBlock] at hv
    subst hv
    rw [hb] at hg
    simp at hg hne
    exact hne hg.2.symm
theorem Row.ne_base {b : Nat} (h : Row k V e base w v l) (hb : b < base) : v.ownBlock ≠ Option.some b := fun hv => by have := (h.lt b hv).1; omega
theorem Row.ne_row {β : Type} {k2 e2 base2 : Nat} {V2 : β → List Value} {v2 : Value} {l2 : List β} (h : Row k V e base w v l) (h2 : Row k2 V2 e2 base2 w v2 l2) (hne : (e == e2) = false) : ∀ q, v.ownBlock = Option.some q → v2.ownBlock ≠ Option.some q := by
  intro q h1 h3
  rcases h.2 with ⟨rfl, _⟩ | ⟨g, cap, cur, rfl, _, hg, _⟩
  · simp [Value.ownBlock] at h1
  · simp [Value.ownBlock] at h1
    subst h1
    exact h2.ne_type hg (by
      simp at hne ⊢
      exact fun e => hne e.symm) h3
end

theorem blk_row {α : Type} {k e base b T : Nat} {V : α → List Value} {w w' : World} {v : Value} {l : List α} {o : Obj} (h : w.heap[b]? = some o) (hg : w.grownBy w' v.ownBlock) (hne : v.ownBlock ≠ some b) : w'.heap[b]? = some o :=
  (hg.block b (blk_lt h) (fun e => hne e.symm)).trans h
theorem blk_row' {b : Nat} {w w' : World} {v : Value} {o : Obj} (h : w.heap[b]? = some o) (hg : w.grownBy w' v.ownBlock) (hne : v.ownBlock ≠ some b) : w'.heap[b]? = some o :=
  (hg.block b (blk_lt h) (fun e => hne e.symm)).trans h
theorem Row.caps {α : Type} {k e base n c : Nat} {V : α → List Value} {w : World} {a : Option Addr} {l : List α} (h : Row k V e base w (.slice a n c) l) : n = l.length ∧ n ≤ c ∧ c ≤ 9223372036854775807 := by
  obtain ⟨a', c', hv, h1, h2⟩ := h.slice
  simp at hv
  obtain ⟨_, rfl, rfl⟩ := hv
  unfold maxLen at h2
  exact ⟨rfl, h1, by omega⟩
theorem Row.nocap {α : Type} {k e base n c : Nat} {V : α → List Value} {w : World} {a : Option Addr} {l : List α} (h : Row k V e base w (.slice a n c) l) (ha : a = none) : c = 0 := by
  rcases h.2 with ⟨hv, _⟩ | ⟨g, cap, cur, hv, _⟩
  · simp at hv; exact hv.2.2
  · simp at hv; rw [ha] at hv; cases hv.1
theorem List.take_set_snoc {α : Type} {xs : List α} {n : Nat} {v : α} (h : n < xs.length) : (xs.set n v).take (n + 1) = xs.take n ++ [v] := by
  rw [List.take_succ_eq_append_getElem (by simpa using h)]
  congr 1
  · rw [List.take_set, List.set_eq_of_length_le (by simp; omega)]
  · simp
theorem Row.relen {α : Type} {k e base n c : Nat} {V : α → List Value} {w : World} {a : Option Addr} {l : List α} (h : Row k V e base w (.slice a n c) l) : Row k V e base w (.slice a l.length c) l := by
  obtain ⟨rfl, _⟩ := h.caps
  exact h
theorem getD_at {α : Type} {l : List α} {j : Nat} (z : α) (h : j < l.length) : l[j]? = some (l.getD j z) := by
  rw [List.getD_eq_getElem?_getD, List.getElem?_eq_getElem h]; rfl
theorem row_below {α : Type} {k e base B : Nat} {V : α → List Value} {w w' : World} {v : Value} {l : List α} (h : Row k V e base w v l) (hg : w.grownBy w' v.ownBlock) (hB : B ≤ w.heap.size) (hb : B ≤ base) : Below B w w' :=
  (Below.refl B w).grown hg hB (fun q hq => Nat.le_trans hb (h.lt q hq).1)

section
variable {P : Program} {L : List (Nat × Value)} {w : World} {d : Option Tmp} {ty : TypeId} {ps : String} {af : Array Edge} {g : Option (Nat × Bool)}

theorem bi_run {L : List (Nat × Value)} {bi : Builtin} {xs : Array Operand} {tys : Array TypeId} {vs : List Value} {f : Array TypeId → TypeId → Array Value → Sem Value} {v : Value} {w w' : World} (hb : ∀ at_ t c vs, builtin bi at_ t c vs = (do pure (Next.value (← f at_ t vs)))) (hv : xs.toList.map (evO L) = vs.map some) (hr : (f tys ty vs.toArray).run P w = .ok v w') :
    Runs P L ⟨d, .call { callee := .builtin bi, args := xs, argTypes := tys }, ty, ps, af, g⟩ w v w' := by
  intro ρ hρ
  have he : xs.map ρ = vs.toArray := by
    apply Array.ext'
    simp only [Array.toList_map]
    have : ∀ (l : List Operand) (us : List Value), l.map (evO L) = us.map some → l.map ρ = us := by
      intro l
      induction l with
      | nil => intro us h; cases us with | nil => rfl | cons u us => simp at h
      | cons x l ih =>
        intro us h
        cases us with
        | nil => simp at h
        | cons u us =>
          simp only [List.map_cons, List.cons.injEq] at h ⊢
          exact ⟨hρ x u h.1, ih us h.2⟩
    exact this _ _ hv
  simp only [execOp, resolve, he]
  simp [invoke, hb, hr]

theorem r_max {x y : Operand} {k : IntKind} {A B : Int} {tys : Array TypeId} (hx : evO L x = some (.int k A)) (hy : evO L y = some (.int k B)) : Runs P L ⟨d, .call { callee := .builtin .max, args := #[x, y], argTypes := tys }, ty, ps, af, g⟩ w (.int k (if A < B then B else A)) w :=
  bi_run (f := Builtin.max_) (vs := [.int k A, .int k B]) (fun _ _ _ _ => rfl) (by simp [hx, hy]) (by simp [Builtin.max_, Builtin.max2])
theorem r_min {x y : Operand} {k : IntKind} {A B : Int} {tys : Array TypeId} (hx : evO L x = some (.int k A)) (hy : evO L y = some (.int k B)) : Runs P L ⟨d, .call { callee := .builtin .min, args := #[x, y], argTypes := tys }, ty, ps, af, g⟩ w (.int k (if B < A then B else A)) w :=
  bi_run (f := Builtin.min_) (vs := [.int k A, .int k B]) (fun _ _ _ _ => rfl) (by simp [hx, hy]) (by simp [Builtin.min_, Builtin.min2])

/-- One slice appended to a row. -/
theorem d_append {α : Type} {V : α → List Value} {t e bytes k base n m c c2 : Nat} {z : Value} {s x : Operand} {a a2 : Option Addr} {l news : List α} (hk : ∀ x, (V x).length = k) (h1 : ∀ x, ∀ u ∈ V x, u.oneCell' = true) (hs : evO L s = some (.slice a n c)) (hx : evO L x = some (.slice a2 m c2)) (ht : P.underlying t = some (.slice e))
    (hi : (P.info? e).map (fun i => (i.zero, i.size, i.bytes)) = some (some z, k, bytes)) (hz : z.cells.size = k) (h0 : Nat.blt 0 k = true) (hb1 : Nat.ble 1 bytes = true)
    (hrow : Row k V e base w (.slice a n c) l) (hrd : RdS k V w a2 news) (hm : m = news.length) (hnil : a2 = none → c2 = 0) (hbytes : (l.length + news.length) * bytes ≤ 140737488355328) (hbase : base ≤ w.heap.size) :
    Does P L ⟨d, .call { callee := .builtin .append, args := #[s, x], argTypes := #[t, t] }, ty, ps, af, g⟩ w (fun v' w' => Row k V e base w' v' (l ++ news) ∧ w.grownBy w' (Value.slice a n c).ownBlock) := by
  obtain ⟨i, hii, hz0, hs0, hby⟩ := info_parts hi
  have hk0 : 0 < k := by simpa [Nat.blt_eq] using h0
  have hb1' : 1 ≤ bytes := by simpa [Nat.ble_eq] using hb1
  have hle : l.length + news.length ≤ (l.length + news.length) * bytes := Nat.le_mul_of_pos_right _ hb1'
  have hnl : n = l.length := by
    obtain ⟨a', c', hv, _⟩ := hrow.slice
    simp at hv; exact hv.2.1
  cases a2 with
  | none =>
    have hm0 : news = [] := by
      cases news with
      | nil => rfl
      | cons y ys =>
        obtain ⟨b, off, ha, _⟩ := hrd 0 y rfl
        cases ha
    subst hm0
    obtain rfl : m = 0 := by simpa using hm
    obtain rfl : c2 = 0 := hnil rfl
    refine Runs.does (v := .slice a n c) (w' := w) (bi_run (f := Builtin.append_) (vs := [.slice a n c, .slice none 0 0]) (fun _ _ _ _ => rfl) (by simp [hs, hx]) ?_) ⟨?_, grownBy_refl _ _⟩
    · exact run_append_owned_none w base t ty e i k ht hii _ _ _ hrow
    · simpa using hrow
  | some ad =>
    cases news with
    | nil =>
      obtain rfl : m = 0 := by simpa using hm
      obtain ⟨v', w', hr, h2, h3, _⟩ := run_append_own (P := P) w base t ty e i z k bytes ht hii hz0 hs0 hby hz hk0 (.slice a n c) l.length (l.flatMap V) hrow ad 0 c2 [] (by simp) (fun j u hj => by cases hj) (by simp) (by unfold maxLen; simp at hle hbytes; omega) (by simpa using hbytes) hbase
      refine Runs.does (v := v') (w' := w') (bi_run (f := Builtin.append_) (vs := [.slice a n c, .slice (some ad) 0 c2]) (fun _ _ _ _ => rfl) (by simp [hs, hx]) hr) ⟨?_, h3⟩
      unfold Row
      simpa using h2
    | cons y ys =>
      obtain ⟨b, off, ha, hl, _⟩ := hrd 0 y rfl
      cases ha
      have hcells : ∀ j u, ((y :: ys).flatMap V)[j]? = some u → w.cell? ((⟨b, off, none⟩ : Addr).add j) = some u := by
        intro j u hj
        have hjl : j < (y :: ys).length * k := by
          have := (List.getElem?_eq_some_iff.1 hj).1
          rwa [length_flatMap hk] at this
        have hq : j / k < (y :: ys).length := Nat.div_lt_of_lt_mul (by rw [Nat.mul_comm]; exact hjl)
        have hr : j % k < k := Nat.mod_lt _ hk0
        have hjk : j / k * k + j % k = j := by rw [Nat.mul_comm]; exact Nat.div_add_mod j k
        obtain ⟨b', off', ha, _, hc⟩ := hrd (j / k) _ (List.getElem?_eq_getElem hq)
        cases ha
        rw [Addr.add_lit]
        have h2 := getElem_flatMap hk (y :: ys) (j / k) (j % k) _ (List.getElem?_eq_getElem hq) hr
        rw [hjk, hj] at h2
        have h3 := hc (j % k) u h2.symm
        rw [show off + j / k * k + j % k = off + j by omega] at h3
        exact h3
      obtain ⟨v', w', hr, h2, h3, _⟩ := run_append_own (P := P) w base t ty e i z k bytes ht hii hz0 hs0 hby hz hk0 (.slice a n c) l.length (l.flatMap V) hrow ⟨b, off, none⟩ m c2 ((y :: ys).flatMap V) (by rw [length_flatMap hk, hm]) hcells
        (fun u hu => by obtain ⟨q, _, hq⟩ := List.mem_flatMap.1 hu; exact h1 q u hq) (by unfold maxLen; omega) (by rw [hm]; exact hbytes) hbase
      refine Runs.does (v := v') (w' := w') (bi_run (f := Builtin.append_) (vs := [.slice a n c, .slice (some ⟨b, off, none⟩) m c2]) (fun _ _ _ _ => rfl) (by simp [hs, hx]) hr) ⟨?_, h3⟩
      unfold Row
      rw [List.flatMap_append, List.length_append, ← hm]
      exact h2

/-- A cut at the end: s[:m]. -/
theorem r_slto {t e : TypeId} {x h : Operand} {k : IntKind} {M : Int} {a : Option Addr} {n c m : Nat} (hx : evO L x = some (.slice a n c)) (hh : evO L h = some (.int k M)) (ht : P.underlying t = some (.slice e)) (hs : ((P.info? e).map fun i => i.size).isSome = true) (hM : M = m) (hm : m ≤ c) :
    Runs P L ⟨d, .slice t x none (some h) none, ty, ps, af, g⟩ w (.slice a m c) w := by
  intro ρ hρ
  obtain ⟨ii, hii⟩ : ∃ ii, P.info? e = some ii := by
    cases hq : P.info? e with
    | none => rw [hq] at hs; cases hs
    | some ii => exact ⟨ii, rfl⟩
  have he : P.elem t = e := by simp [Program.elem, ht]
  subst hM
  have h1 := run_sliceAt_slice (P := P) w t (.slice a n c) none (some (.int k (m : Int))) none (by rw [he]; exact ht)
  have h2 := run_slice_h (P := P) w t a n c (by rw [he]; exact ht) k m (by omega) (by omega)
  have h3 : sliced a 0 m c ii.size = .slice a m c := by
    unfold sliced
    simp
    intro _
    cases a <;> simp [Addr.add]
  simp only [execOp, hρ x _ hx, Option.map_none, Option.map_some, hρ h _ hh]
  simp only [Sem.run_bind, h1, h2, he, sizeOf, typeInfo]
  simp [hii, h3]

theorem setAll_get : ∀ (vs : List Value) (cs : Array Value) (i j : Nat), i + vs.length ≤ cs.size → (setAll cs i vs)[j]? = if i ≤ j ∧ j < i + vs.length then vs[j - i]? else cs[j]?
  | [], cs, i, j, _ => by
    simp only [setAll, List.length_nil, Nat.add_zero]
    rw [if_neg (by omega)]
  | v :: vs, cs, i, j, h => by
    simp only [List.length_cons] at h
    simp only [setAll, List.length_cons]
    rw [setAll_get vs _ _ _ (by simp; omega)]
    by_cases h1 : i + 1 ≤ j ∧ j < i + 1 + vs.length
    · rw [if_pos h1, if_pos (by omega), show j - i = (j - (i + 1)) + 1 by omega]; simp
    · rw [if_neg h1]
      by_cases h2 : i = j
      · subst h2
        rw [if_pos (by omega)]; simp; rw [Array.getElem?_setIfInBounds_self_of_lt (by omega)]
      · rw [if_neg (by omega), Array.getElem?_setIfInBounds_ne h2]

/-- A store into a row's element. -/
theorem d_rowset {α : Type} {V : α → List Value} {t e k base n c b q j : Nat} {x y : Operand} {l : List α} {u : α} {v : Value} (hk : ∀ x, (V x).length = k) (h1 : ∀ x, ∀ u ∈ V x, u.oneCell' = true) (hx : evO L x = some (.pointer (some ⟨b, q, none⟩))) (hy : evO L y = some v) (hv : v.cells.toList = V u)
    (hs : (P.info? t).map (·.size) = some k) (hrow : Row k V e base w (.slice (some ⟨b, 0, none⟩) n c) l) (hj : j < l.length) (hq : j * k = q) :
    Does P L ⟨d, .store t x y, ty, ps, af, g⟩ w (fun _ w' => Row k V e base w' (.slice (some ⟨b, 0, none⟩) n c) (l.set j u) ∧ w.grownBy w' (some b)) := by
  rcases hrow.2 with ⟨hv0, _⟩ | ⟨g', cap, cur, hv', hb, hg, hc, hm, hsz, ht⟩
  · simp at hv0
  · simp at hv'
    obtain ⟨rfl, hn, rfl⟩ := hv'
    have hvs : v.cells.size = k := by rw [← Array.length_toList, hv, hk]
    have hjk : j * k + k ≤ l.length * k := by
      have : (j + 1) * k ≤ l.length * k := Nat.mul_le_mul_right k hj
      rwa [Nat.add_mul, Nat.one_mul] at this
    have hlc : l.length * k ≤ c * k := Nat.mul_le_mul_right k hc
    refine (d_store (w := w) (cs' := setAll cur q v.cells.toList) hx hy (by rw [hs, hvs]) (fun u' hu => h1 u u' (by rw [← hv]; exact hu)) hg (by rw [hvs, hsz]; omega) rfl).mono ?_
    rintro _ w' ⟨h2, h3⟩
    refine ⟨⟨by rw [length_flatMap hk], .inr ⟨b, c, _, by rw [hn, List.length_set], hb, h2, by rw [List.length_set]; exact hc, hm, by rw [setAll_size, hsz], ?_⟩⟩, h3⟩
    apply List.ext_getElem?
    intro i
    rw [List.length_set, List.getElem?_take]
    by_cases hi : i < l.length * k
    · rw [if_pos hi]
      have hk0 : 0 < k := by
        rcases Nat.eq_zero_or_pos k with h | h
        · subst h; simp at hi
        · exact h
      have hd : i / k < l.length := Nat.div_lt_of_lt_mul (by rw [Nat.mul_comm]; exact hi)
      have hr : i % k < k := Nat.mod_lt _ hk0
      have hik : i / k * k + i % k = i := by rw [Nat.mul_comm]; exact Nat.div_add_mod i k
      have h4 : ((l.set j u).flatMap V)[i]? = (V (if j = i / k then u else l[i / k]'hd))[i % k]? := by
        have := getElem_flatMap hk (l.set j u) (i / k) (i % k) (if j = i / k then u else l[i / k]'hd) (by
          rw [List.getElem?_set]
          split
          · rename_i h; subst h; simp [hj]
          · rw [List.getElem?_eq_getElem hd]) hr
        rwa [hik] at this
      rw [h4, Array.getElem?_toList, setAll_get _ _ _ _ (by rw [hv, hk, hsz]; omega), hv, hk]
      by_cases h5 : j = i / k
      · subst h5
        rw [if_pos rfl, if_pos (by omega), show i - q = i % k by omega]
      · rw [if_neg h5, if_neg (by
          intro ⟨ha, hb'⟩
          apply h5
          rw [← hq] at ha hb'
          have e1 : j ≤ i / k := (Nat.le_div_iff_mul_le hk0).2 ha
          have e2 : i / k < j + 1 := (Nat.div_lt_iff_lt_mul hk0).2 (by rw [Nat.add_mul]; omega)
          omega)]
        have h6 := getElem_flatMap hk l (i / k) (i % k) (l[i / k]'hd) (List.getElem?_eq_getElem hd) hr
        rw [hik] at h6
        rw [← h6, ← ht, List.getElem?_take, if_pos hi, Array.getElem?_toList]
    · rw [if_neg hi]
      symm
      apply List.getElem?_eq_none
      rw [length_flatMap hk, List.length_set]; omega

/-- make([]T, n). -/
theorem d_make {α : Type} {V : α → List Value} {t e bytes k n : Nat} {z : Value} {x y : Operand} {kx ky : IntKind} {zr : α} (hx : evO L x = some (.int kx (n : Int))) (hy : evO L y = some (.int ky (n : Int))) (ht : P.underlying t = some (.slice e)) (hi : (P.info? e).map (fun i => (i.zero, i.size, i.bytes)) = some (some z, k, bytes)) (hz : z.cells.toList = V zr) (hk : ∀ x, (V x).length = k)
    (hbytes : bytes * n ≤ 140737488355328) (h63 : n ≤ maxLen) :
    Does P L ⟨d, .makeSlice t x y, ty, ps, af, g⟩ w (fun v w' => ∃ b, v = .slice (some ⟨b, 0, none⟩) n n ∧ w.heap.size ≤ b ∧ Row k V e w.heap.size w' v (List.replicate n zr) ∧ Below w.heap.size w w') := by
  obtain ⟨i, hii, hz0, hs0, hby⟩ := info_parts hi
  have h3 : (bytes : Int) * (n : Int) ≤ 281474976710656 := by
    have h : ((bytes * n : Nat) : Int) ≤ 281474976710656 := by omega
    rwa [Int.natCast_mul] at h
  have hr := run_make (P := P) w t e i z ht hii hz0 kx ky n n (by omega) (Int.le_refl _) (by rw [hby]; exact h3) (by simp [maxLen] at h63; omega)
  simp only [Int.toNat_natCast, hs0] at hr
  have hsz : z.cells.size = k := by rw [← Array.length_toList, hz, hk]
  refine Runs.does (v := .slice (some ⟨w.heap.size, 0, none⟩) n n) (w' := w.alloc (.cells (madeCells z.cells (n * k)) e)) (fun ρ hρ => by simp only [execOp, hρ x _ hx, hρ y _ hy]; simp [hr]) ⟨_, rfl, Nat.le_refl _, ?_, (Below.refl _ _).alloc (Nat.le_refl _) _⟩
  have := Row.of_new (k := k) (V := V) (e := e) (base := w.heap.size) (w := w.alloc (.cells (madeCells z.cells (n * k)) e)) (l := List.replicate n zr) (heap_alloc_last _ _) (Nat.le_refl _) ?_ (by rw [List.length_replicate, size_madeCells]) (by rw [List.length_replicate]; exact h63)
  · rwa [List.length_replicate] at this
  · apply List.ext_getElem?
    intro j
    by_cases hj : j < n * k
    · have hk0 : 0 < k := by
        rcases Nat.eq_zero_or_pos k with h | h
        · subst h; simp at hj
        · exact h
      have hd : j / k < n := Nat.div_lt_of_lt_mul (by rw [Nat.mul_comm]; exact hj)
      have hr : j % k < k := Nat.mod_lt _ hk0
      have hjk : j / k * k + j % k = j := by rw [Nat.mul_comm]; exact Nat.div_add_mod j k
      have h6 := getElem_flatMap hk (List.replicate n zr) (j / k) (j % k) zr (by simp [hd]) hr
      rw [hjk] at h6
      rw [h6, ← hz]
      simp [madeCells, hj, hsz, hr]
    · rw [List.getElem?_eq_none (by simp [madeCells]; omega), List.getElem?_eq_none (by rw [length_flatMap hk, List.length_replicate]; omega)]
end

theorem retCT {P : Program} {fn : Func} {R : Ending → World → Prop} {a : Act} {w : World} {N : Nat} {L : List (Nat × Value)} {p t : Tmp} {T T2 : TypeId} {b : Nat} {cs : Array Value} {fr : Nat × Nat} {td : TypeDesc} {v : Value} (hf : Fr N a L) (hr : fn.results = #[.cell p T, .tmp t]) (hp : lk L p = some (.pointer (some ⟨b, 0, none⟩)))
    (hb : w.heap[b]? = some (.cells cs T2 fr)) (hu : P.underlying T = some td) (hd : plainT td = false) (hi : (P.info? T).map (·.size) = some cs.size) (ht : lk L t = some v) (hR : R (.returned (.tuple #[.agg cs, v])) w) : bodyPost P fn R .ret a w := by
  refine bodyPost_ret (v := .tuple #[.agg cs, v]) ?_ hf.defers hR
  have hl := run_loadVar_row (P := P) w b T2 T cs fr td hb hu (by cases td <;> simp_all [plainT]) hi
  simp [results, hr, hf.has p _ hp, hf.has t _ ht, asAddr, hl]

/- A REGION WHOSE ORDER IS OPEN. -/
section
variable {P : Program} {ops : Array Oper} {C : World → Prop} {G : World → World → Prop} {posts : (Nat → Value) → List (Value → World → Prop)} {A : List Nat} {dl : List (List Nat)} {N : Nat} {a0 : Act} {L0 : List (Nat × Value)}

def unOp (P : Program) (ops : Array Oper) (L : List (Nat × Value)) (o : Oper) (w : World) (R : Value → World → Prop) : Prop :=
  match o.guard with
  | none => Does P L o w R
  | some (g, want) => ∃ ag c, yl ops L g = some (gb ag (.bool c)) ∧ ((ag && (c == want)) = true → Does P L o w R) ∧ ((ag && (c == want)) = false → R undef w)

def unGoals (P : Program) (ops : Array Oper) (C : World → Prop) (G : World → World → Prop) (all : List (Value → World → Prop)) (A : List Nat) (V : Nat → Value) : List Oper → List (Value → World → Prop) → List (List Nat) → Nat → List (Nat × Value) → Prop
  | o :: os, p :: ps, d :: ds, i, L => (∀ w, C w → depsHold V all w d → unOp P ops L o w (fun v w' => G w w' ∧ p v w' ∧ fr A i w v w')) ∧ unGoals P ops C G all A V os ps ds (i + 1) (ins o.dst (V i) L)
  | _, _, _, _, _ => True

theorem nofr {i : Nat} {w w' : World} {v : Value} (h : A.contains i = false) : fr A i w v w' := fun h2 => by rw [h] at h2; cases h2
theorem isfr {i b : Nat} {w w' : World} {v : Value} (h : blkOf v = some b) (h1 : w.heap.size ≤ b) (h2 : b < w'.heap.size) : fr A i w v w' := fun _ => ⟨b, h, h1, h2⟩

def insAll : List Oper → (Nat → Value) → Nat → List (Nat × Value) → List (Nat × Value)
  | [], _, _, L => L
  | o :: os, V, i, L => insAll os V (i + 1) (ins o.dst (V i) L)

theorem un_rg {V : Nat → Value} : ∀ (os : List Oper) (ps : List (Value → World → Prop)) (ds : List (List Nat)) (i : Nat) (L : List (Nat × Value)) (a : Act), Fr N a L → (∀ o ∈ os, dstOk N o.dst = true) → unGoals P ops C G (posts V) A V os ps ds i L → ugGoals P ops C G (posts V) A V os ps ds i a
  | [], _, _, _, _, _, _, _, _ => trivial
  | _ :: _, [], _, _, _, _, _, _, _ => trivial
  | _ :: _, _ :: _, [], _, _, _, _, _, _ => trivial
  | o :: os, p :: ps, d :: ds, i, L, a, hf, hd, h => by
    refine ⟨fun w hC hdp K hK => ?_, un_rg os ps ds (i + 1) _ _ (hf.ins (V i) (hd o (by simp))) (fun o' ho => hd o' (by simp [ho])) h.2⟩
    have h1 := h.1 w hC hdp
    unfold unOp at h1
    cases hg : o.guard with
    | none =>
      rw [hg] at h1
      have hw : Region.wanted o (yielded ops a.tmps) = true := by simp [Region.wanted, hg]
      rw [if_pos hw]
      exact h1 a K _ (fun x v e => hf.ev e) (fun v w' hr => hK v w' hr.1 hr.2.1 hr.2.2)
    | some gw =>
      obtain ⟨g, want⟩ := gw
      rw [hg] at h1
      obtain ⟨ag, c, hy, ht, hfl⟩ := h1
      rw [wanted_of hf hg hy]
      cases hact : (ag && (c == want)) with
      | true => rw [if_pos rfl]; exact ht hact a K _ (fun x v e => hf.ev e) (fun v w' hr => hK v w' hr.1 hr.2.1 hr.2.2)
      | false => rw [if_neg (by simp)]; exact hK _ _ (hfl hact).1 (hfl hact).2.1 (hfl hact).2.2

theorem un_fr {V : Nat → Value} : ∀ (os : List Oper) (i : Nat) (L : List (Nat × Value)) (a : Act), Fr N a L → (∀ o ∈ os, dstOk N o.dst = true) → Fr N (putAll os V i a) (insAll os V i L)
  | [], _, _, _, hf, _ => hf
  | o :: os, i, L, a, hf, hd => un_fr os (i + 1) _ _ (hf.ins (V i) (hd o (by simp))) (fun o' ho => hd o' (by simp [ho]))

theorem wp_region_un {id : Nat} {Q : Exit → Act → World → Prop} {w0 : World} (C : World → Prop) (G : World → World → Prop) (posts : (Nat → Value) → List (Value → World → Prop)) (A : List Nat) (dl : List (List Nat)) (hf : Fr N a0 L0)
    (hm : P.follows .mixedOrders = true) (hchk : (rgCheck ops dl N && ops.toList.all (fun o => dstOk N o.dst)) = true) (hpl : ∀ V, (posts V).length = ops.size)
    (hC0 : C w0.drew) (hC : ∀ w w', C w → G w w' → C w') (hG : ∀ w w', G w w' → w.heap.size ≤ w'.heap.size) (hP : ∀ V, postsKept G (posts V)) (hPc : ∀ V i v j, i ∉ dl.getD j [] → (posts (fun k => if k = i then v else V k)).getD j (fun _ _ => True) = (posts V).getD j (fun _ _ => True)) (hgoals : ∀ V, unGoals P ops C G (posts V) A V ops.toList (posts V) dl 0 L0)
    (hQ : ∀ V w a, C w → postsHold V w (posts V) 0 → (∀ i j, i < (posts V).length → j < (posts V).length → A.contains i = true → A.contains j = true → i ≠ j → blkOf (V i) ≠ blkOf (V j)) → Fr N a (insAll ops.toList V 0 L0) → Q .normal a w) : (Code.region id ops true).wp P Q a0 w0 := by
  rw [Bool.and_eq_true, List.all_eq_true] at hchk
  exact wp_region_ug C G posts A dl N hm hf.size hchk.1 hpl hC0 hC hG hP hPc (fun V => un_rg _ _ _ _ _ _ hf hchk.2 (hgoals V)) (fun V w hc hp hn => hQ V w _ hc hp hn (un_fr _ _ _ _ hf hchk.2))

theorem wp_region_unT {id : Nat} {Q : Exit → Act → World → Prop} {w0 : World} (T : Nat) (C : World → Prop) (G : World → World → Prop) (posts : (Nat → Value) → List (Value → World → Prop)) (A : List Nat) (dl : List (List Nat)) (hf : Fr N a0 L0)
    (hm : P.follows .mixedOrders = true)
    (hchk : (rgCheck ops dl N && decide (T < ops.size) && Region.sinkB .any ops T && Region.chainB .any ops T && Region.seqB .any ops (ops.size - T) T ((Array.range ops.size).map (fun i => decide (i < T)))) = true) (hdst : ops.toList.all (fun o => dstOk N o.dst) = true) (hpl : ∀ V, (posts V).length = T)
    (hC0 : C w0.drew) (hC : ∀ w w', C w → G w w' → C w') (hG : ∀ w w', G w w' → w.heap.size ≤ w'.heap.size) (hP : ∀ V, postsKept G (posts V)) (hPc : ∀ V i v j, i ∉ dl.getD j [] → (posts (fun k => if k = i then v else V k)).getD j (fun _ _ => True) = (posts V).getD j (fun _ _ => True)) (hgoals : ∀ V, unGoals P ops C G (posts V) A V (ops.toList.take T) (posts V) dl 0 L0)
    (hQ : ∀ V w a, C w → postsHold V w (posts V) 0 → (∀ i j, i < (posts V).length → j < (posts V).length → A.contains i = true → A.contains j = true → i ≠ j → blkOf (V i) ≠ blkOf (V j)) → Fr N a (insAll (ops.toList.take T) V 0 L0) → wpList P ops Q (ops.toList.drop T) a w) : (Code.region id ops true).wp P Q a0 w0 := by
  rw [List.all_eq_true] at hdst
  exact wp_region_ug_tail T C G posts A dl N hm hf.size hchk hpl hC0 hC hG hP hPc (fun V => un_rg _ _ _ _ _ _ hf (fun o ho => hdst o (List.mem_of_mem_take ho)) (hgoals V)) (fun V w hc hp hn => hQ V w _ hc hp hn (un_fr _ _ _ _ hf (fun o ho => hdst o (List.mem_of_mem_take ho))))

def bk (v : Value) : Nat := (blkOf v).getD 0
theorem bk_slice (b o n c : Nat) : bk (.slice (some ⟨b, o, none⟩) n c) = b := rfl
theorem bk_ptr (b o : Nat) : bk (.pointer (some ⟨b, o, none⟩)) = b := rfl

/-- Two new blocks are two. -/
theorem two_blk {V : Nat → Value} {n i j b c : Nat} (h : ∀ i j, i < n → j < n → A.contains i = true → A.contains j = true → i ≠ j → blkOf (V i) ≠ blkOf (V j)) (hi : Nat.blt i n = true) (hj : Nat.blt j n = true) (ha : A.contains i = true) (hb : A.contains j = true) (hne : Nat.beq i j = false) (h1 : blkOf (V i) = some b) (h2 : blkOf (V j) = some c) : b ≠ c := by
  intro e
  have h3 := h i j (by simpa [Nat.blt_eq] using hi) (by simpa [Nat.blt_eq] using hj) ha hb (Nat.ne_of_beq_eq_false hne)
  rw [h1, h2, e] at h3
  exact h3 rfl

theorem keptB {F : Nat → Value} {top : Nat} {O : Obj} : ∀ (v : Value) (w w' : World), (fun (x : Value) (w : World) => ∃ b, x = F b ∧ top ≤ b ∧ w.heap[b]? = some O) v w → Below w.heap.size w w' → (fun (x : Value) (w : World) => ∃ b, x = F b ∧ top ≤ b ∧ w.heap[b]? = some O) v w' := by
  rintro v w w' ⟨b, h1, h2, h3⟩ hb
  exact ⟨b, h1, h2, blk_ext h3 hb⟩
theorem keptR {α : Type} {k e top base : Nat} {V : α → List Value} {l : List α} {F : Nat → Value} : ∀ (v : Value) (w w' : World), (fun (x : Value) (w : World) => ∃ b, x = F b ∧ top ≤ b ∧ Row k V e base w x l) v w → Below w.heap.size w w' → (fun (x : Value) (w : World) => ∃ b, x = F b ∧ top ≤ b ∧ Row k V e base w x l) v w' := by
  rintro v w w' ⟨b, h1, h2, h3⟩ hb
  exact ⟨b, h1, h2, h3.ext hb⟩
end
end Go.Proofs.Ytbllifhcfgjdlaa
