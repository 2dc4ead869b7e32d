/- What is proved here: a cut that gives its room away (s[:m:m]), and the append behind it. -/
import Derived.Test.YtbllifhcfgjdlaaSxT
import Derived.ArgAppend
namespace Go.Proofs.Ytbllifhcfgjdlaa
open Go.RowKit
set_option linter.unusedVariables false
set_option linter.unusedSimpArgs false
section
variable {P : Program} {L : List (Nat × Value)} {w : World} {d : Option Tmp} {ty : TypeId} {ps : String} {af : Array Edge} {g : Option (Nat × Bool)}
theorem r_slto3 {t e : TypeId} {x h h2 : Operand} {k k2 : IntKind} {M M2 : Int} {a : Option Addr} {n c m : Nat} (hx : evO L x = some (.slice a n c)) (hh : evO L h = some (.int k M)) (hh2 : evO L h2 = some (.int k2 M2)) (ht : P.underlying t = some (.slice e)) (hs : ((P.info? e).map fun i => i.size).isSome = true) (hM : M = m) (hM2 : M2 = m) (hm : m ≤ c) :
    Runs P L ⟨d, .slice t x none (some h) (some h2), ty, ps, af, g⟩ w (.slice a m m) w := by
  intro ρ hρ
  obtain ⟨ii, hii⟩ : ∃ ii, P.info? e = some ii := by
    cases hq : P.info? e with
    | none => rw [hq] at hs; cases hs
    | some ii => exact ⟨ii, rfl⟩
  have he : P.elem t = e := by simp [Program.elem, ht]
  subst hM hM2
  have h1 := run_sliceAt_slice (P := P) w t (.slice a n c) none (some (.int k (m : Int))) (some (.int k2 (m : Int))) (by rw [he]; exact ht)
  have h2' := run_slice_hm (P := P) w t a n c (by rw [he]; exact ht) k k2 m m (by omega) (by omega) (by omega)
  have h3 : sliced a 0 m m ii.size = .slice a m m := by
    unfold sliced
    simp
    intro _
    cases a <;> simp [Addr.add]
  simp only [execOp, hρ x _ hx, Option.map_none, Option.map_some, hρ h _ hh, hρ h2 _ hh2]
  simp only [Sem.run_bind, h1, h2', he, sizeOf, typeInfo]
  simp [hii, h3]
theorem below_grown_none {w w' : World} {r : Option Nat} (hg : w.grownBy w' r) (hr : r = none) : Below w.heap.size w w' := (Below.refl w.heap.size w).grown hg (Nat.le_refl _) (fun k hk => by rw [hr] at hk; cases hk)
theorem rds_cells {α : Type} {V : α → List Value} {k : Nat} {b off : Nat} {l : List α} (hk : ∀ x, (V x).length = k) (hk0 : 0 < k) (h : RdS k V w (some ⟨b, off, none⟩) l) : ∀ j u, (l.flatMap V)[j]? = some u → w.cell? ((⟨b, off, none⟩ : Addr).add j) = some u := by
  intro j u hj
  have hjl : j < l.length * k := by
    have := (List.getElem?_eq_some_iff.1 hj).1
    rwa [length_flatMap hk] at this
  have hq : j / k < l.length := Nat.div_lt_of_lt_mul (by rw [Nat.mul_comm]; exact hjl)
  have hr : j % k < k := Nat.mod_lt _ hk0
  have hjk : j / k * k + j % k = j := by rw [Nat.mul_comm]; exact Nat.div_add_mod j k
  obtain ⟨b', off', ha, _, hc⟩ := h (j / k) _ (List.getElem?_eq_getElem hq)
  cases ha
  rw [Addr.add_lit]
  have h2 := getElem_flatMap hk l (j / k) (j % k) _ (List.getElem?_eq_getElem hq) hr
  rw [hjk, hj] at h2
  have h3 := hc (j % k) u h2.symm
  rw [show off + j / k * k + j % k = off + j by omega] at h3
  exact h3
/-- An append to a slice without room: a new row. -/
theorem d_appendFull {α : Type} {V : α → List Value} {t e bytes k n m c2 : Nat} {z : Value} {s x : Operand} {a : Option Addr} {b2 off2 : Nat} {olds news : List α} (hk : ∀ x, (V x).length = k) (h1 : ∀ x, ∀ u ∈ V x, u.oneCell' = true) (hs : evO L s = some (.slice a n n)) (hx : evO L x = some (.slice (some ⟨b2, off2, none⟩) m c2)) (ht : P.underlying t = some (.slice e))
    (hi : (P.info? e).map (fun i => (i.zero, i.size, i.bytes)) = some (some z, k, bytes)) (hz : z.cells.size = k) (h0 : Nat.blt 0 k = true) (hb1 : Nat.ble 1 bytes = true)
    (hold : RdS k V w a olds) (hn : n = olds.length) (hnil : a = none → n = 0) (hoff : ∀ A, a = some A → ∃ b off, A = ⟨b, off, none⟩) (hrd : RdS k V w (some ⟨b2, off2, none⟩) news) (hm : m = news.length) (hm0 : 0 < m) (hbytes : (olds.length + news.length) * bytes ≤ 140737488355328) :
    Does P L ⟨d, .call { callee := .builtin .append, args := #[s, x], argTypes := #[t, t] }, ty, ps, af, g⟩ w (fun v' w' => (∃ b, (∃ c, v' = .slice (some ⟨b, 0, none⟩) (olds ++ news).length c) ∧ w.heap.size ≤ b ∧ Row k V e w.heap.size w' v' (olds ++ news)) ∧ Below w.heap.size w w') := by
  have hb1' : 1 ≤ bytes := by simpa [Nat.ble_eq] using hb1
  have hle : olds.length + news.length ≤ (olds.length + news.length) * bytes := Nat.le_mul_of_pos_right _ hb1'
  have fin : ∀ v' w', Row k V e w.heap.size w' v' (olds ++ news) → ∃ b, (∃ c, v' = .slice (some ⟨b, 0, none⟩) (olds ++ news).length c) ∧ w.heap.size ≤ b ∧ Row k V e w.heap.size w' v' (olds ++ news) := by
    intro v' w' h
    obtain ⟨ra, rc, rfl, _, _⟩ := Row.slice h
    obtain ⟨b, rfl, hb, _⟩ := Row.some h (by rw [List.length_append]; omega)
    exact ⟨b, ⟨rc, rfl⟩, hb, h⟩
  cases a with
  | none =>
    obtain rfl : n = 0 := hnil rfl
    obtain rfl : olds = [] := List.eq_nil_of_length_eq_zero hn.symm
    refine Does.mono (d_append (base := w.heap.size) (l := []) (news := news) hk h1 hs hx ht hi hz h0 hb1 Row.nil hrd hm (fun h => by cases h) hbytes (Nat.le_refl _)) ?_
    rintro v' w' ⟨hY, hgY⟩
    exact ⟨fin _ _ hY, below_grown_none hgY rfl⟩
  | some A =>
    obtain ⟨b, off, rfl⟩ := hoff A rfl
    obtain ⟨i, hii, hz0, hs0, hby⟩ := info_parts hi
    have hk0 : 0 < k := by simpa [Nat.blt_eq] using h0
    obtain ⟨v', w', hr, h2, h3⟩ := run_append_arg_grows (P := P) w t ty e i z k bytes ht hii hz0 hs0 hby hz hk0 ⟨b, off, none⟩ n n (olds.flatMap V) (by rw [length_flatMap hk, hn]) (rds_cells hk hk0 hold) ⟨b2, off2, none⟩ m c2 (news.flatMap V) (by rw [length_flatMap hk, hm]) (rds_cells hk hk0 hrd) (by omega) (by unfold maxLen; omega) (by rw [hn, hm]; exact hbytes)
    refine Runs.does (v := v') (w' := w') (bi_run (f := Builtin.append_) (vs := [.slice (some ⟨b, off, none⟩) n n, .slice (some ⟨b2, off2, none⟩) m c2]) (fun _ _ _ _ => rfl) (by simp [hs, hx]) hr) ⟨fin _ _ ?_, below_grown_none h3 rfl⟩
    unfold Row
    rw [List.flatMap_append, List.length_append, ← hn, ← hm]
    exact h2
end
end Go.Proofs.Ytbllifhcfgjdlaa
