/- What is proved here: a slice appended to a row of the call's own. -/
import Derived.Test.YtahgkfekggkjnaaKit
namespace Go.Proofs.Ytahgkfekggkjnaa
open Go.RowKit
set_option linter.unusedVariables false
set_option linter.unusedSimpArgs false

/-- The elements of a slice that is only read: one cell each. -/
def SrcV (w : World) (a : Option Addr) (m : Nat) (news : List Value) : Prop :=
  news.length = m ∧ ∀ j u, news[j]? = some u → ∃ b off, a = some ⟨b, off, none⟩ ∧ w.cell? ⟨b, off + j, none⟩ = some u ∧ b < w.heap.size

theorem SrcV.ext {w w' : World} {a : Option Addr} {m : Nat} {news : List Value} (h : SrcV w a m news) (hb : Below w.heap.size w w') : SrcV w' a m news :=
  ⟨h.1, fun j u hj => let ⟨b, off, ha, hc, hl⟩ := h.2 j u hj; ⟨b, off, ha, (hb.cell (p := ⟨b, off + j, none⟩) hl).trans hc, Nat.lt_of_lt_of_le hl hb.size⟩⟩

theorem SrcV.of_row {w : World} {base e n : Nat} {v : Value} {xs : List Value} (h : w.ownsRow base e 1 v n xs) : ∃ a c, v = .slice a n c ∧ SrcV w a n xs := by
  obtain ⟨h1, h2⟩ := h
  rcases h2 with ⟨rfl, h0⟩ | ⟨g, cap, cur, rfl, hb, hg, hc, _, _, ht⟩
  · subst h0
    have : xs = [] := List.eq_nil_of_length_eq_zero (by omega)
    subst this
    exact ⟨none, 0, rfl, rfl, fun j u hj => by simp at hj⟩
  · refine ⟨_, cap, rfl, by omega, fun j u hj => ⟨g, 0, rfl, ?_, (Array.getElem?_eq_some_iff.1 hg).1⟩⟩
    rw [Nat.zero_add, cell_of_row w g j cur e (0, 0) hg]
    have hlt : j < xs.length := (List.getElem?_eq_some_iff.1 hj).1
    rw [← ht, List.getElem?_take, if_pos (by omega)] at hj
    simpa using hj

theorem appends_run {P : Program} {w : World} {t e bytes : Nat} {z : Value} (ht : P.underlying t = some (.slice e)) (hinfo : (P.info? e).map (fun i => (i.zero, i.size, i.bytes)) = some (some z, 1, bytes)) (hz : z.cells.size = 1) (hb1 : 1 ≤ bytes)
    {base n : Nat} {v : Value} {xs : List Value} (hown : w.ownsRow base e 1 v n xs) (hbase : base ≤ w.heap.size) {a : Option Addr} {m c : Nat} {news : List Value} (hsrc : SrcV w a m news) (h1 : ∀ u ∈ news, u.oneCell' = true) (hbytes : (n + m) * bytes ≤ 140737488355328) (hnil : m = 0 → a = none → c = 0) :
    ∃ v' w', (∀ ty, (Builtin.append_ #[t, t] ty #[v, .slice a m c]).run P w = .ok v' w') ∧ w'.ownsRow base e 1 v' (n + m) (xs ++ news) ∧ Below base w w' ∧ w.heap.size ≤ w'.heap.size := by
  obtain ⟨i, hi, hz0, hs, hby⟩ := info_parts hinfo
  have hle : n + m ≤ (n + m) * bytes := Nat.le_mul_of_pos_right _ hb1
  cases a with
  | none =>
    have hm : m = 0 := by
      rcases Nat.eq_zero_or_pos m with h | h
      · exact h
      · obtain ⟨b, off, ha, _⟩ := hsrc.2 0 (news[0]'(by have := hsrc.1; omega)) (List.getElem?_eq_getElem _)
        cases ha
    subst hm
    obtain rfl : c = 0 := hnil rfl rfl
    have hn : news = [] := List.eq_nil_of_length_eq_zero hsrc.1
    subst hn
    exact ⟨v, w, fun ty => run_append_owned_none w base t ty e i 1 ht hi v n xs hown, by simpa using hown, Below.refl _ _, Nat.le_refl _⟩
  | some ad =>
    have key : ∀ ty, ∃ v' w', (Builtin.append_ #[t, t] ty #[v, .slice (some ad) m c]).run P w = .ok v' w' ∧ w'.ownsRow base e 1 v' (n + m) (xs ++ news) ∧ Below base w w' ∧ w.heap.size ≤ w'.heap.size := by
      intro ty
      obtain ⟨v', w', hr, h2, h3, _⟩ := run_append_own (P := P) w base t ty e i z 1 bytes ht hi hz0 hs hby hz (by decide) v n xs hown
        ad m c news (by have := hsrc.1; omega) (fun j u hj => by
          obtain ⟨b, off, ha, hc, _⟩ := hsrc.2 j u hj
          cases ha
          have e1 : (⟨b, off, none⟩ : Addr).add j = ⟨b, off + j, none⟩ := by unfold Addr.add; split <;> simp_all
          rw [e1]; exact hc) h1 (by unfold maxLen; omega) hbytes hbase
      exact ⟨v', w', hr, h2, (Below.refl _ _).grown h3 hbase (fun k hk => (hown.lt k hk).1), h3.size⟩
    obtain ⟨v', w', hr, h⟩ := key 0
    refine ⟨v', w', fun ty => ?_, h⟩
    rw [← hr]; rfl

/-- A slice appended to a row of the call's own, as a law of the walk. -/
theorem wpList_apps {P : Program} {w : World} {t e bytes : Nat} {z : Value} (ht : P.underlying t = some (.slice e)) (hinfo : (P.info? e).map (fun i => (i.zero, i.size, i.bytes)) = some (some z, 1, bytes)) (hz : z.cells.size = 1) (hb1 : 1 ≤ bytes)
    {base n : Nat} {v : Value} {xs : List Value} (hown : w.ownsRow base e 1 v n xs) (hbase : base ≤ w.heap.size) {ad : Option Addr} {m c : Nat} {news : List Value} (hsrc : SrcV w ad m news) (h1 : ∀ u ∈ news, u.oneCell' = true) (hbytes : (n + m) * bytes ≤ 140737488355328) (hnil : m = 0 → ad = none → c = 0)
    {ops : Array Oper} {rest : List Oper} {o : Oper} {a : Act} {Q : Exit → Act → World → Prop} {s x : Operand}
    (hgd : o.guard = none) (ho : o.op = .call { callee := .builtin .append, args := #[s, x], argTypes := #[t, t] }) (hs : a.eval s = v) (hx : a.eval x = .slice ad m c)
    (h : ∀ v' w', w'.ownsRow base e 1 v' (n + m) (xs ++ news) → Below base w w' → w.heap.size ≤ w'.heap.size → wpList P ops Q rest (a.put o.dst v') w') : wpList P ops Q (o :: rest) a w := by
  obtain ⟨v', w', hr, h2, h3, h4⟩ := appends_run (P := P) ht hinfo hz hb1 hown hbase hsrc h1 hbytes hnil
  exact wpList_app hr hgd ho hs hx (h v' w' h2 h3 h4)

/-- A block of its own, read. -/
theorem src_new {w : World} {e : Nat} {cs : List Value} {b : Nat} (h : w.heap[b]? = some (.cells cs.toArray e (0, 0))) : SrcV w (some ⟨b, 0, none⟩) cs.length cs :=
  ⟨rfl, fun j u hj => ⟨b, 0, rfl, by rw [Nat.zero_add, cell_of_row w b j _ _ _ h]; simpa using hj, (Array.getElem?_eq_some_iff.1 h).1⟩⟩

theorem heap_last (w : World) (o : Obj) : (w.alloc o).heap[w.heap.size]? = some o := by
  unfold World.alloc
  exact Array.getElem?_push_size

theorem ownsRow_new {w : World} {base e b : Nat} {cs : List Value} (h : w.heap[b]? = some (.cells cs.toArray e (0, 0))) (hb : base ≤ b) (hm : cs.length ≤ maxLen) : w.ownsRow base e 1 (.slice (some ⟨b, 0, none⟩) cs.length cs.length) cs.length cs :=
  ⟨by simp, .inr ⟨b, cs.length, cs.toArray, rfl, hb, h, Nat.le_refl _, hm, by simp, by simp⟩⟩

theorem oneCell_ints {k : IntKind} {l : List Int} : ∀ u ∈ l.map (Value.int k), u.oneCell' = true := by
  intro u hu
  obtain ⟨x, _, rfl⟩ := List.mem_map.1 hu
  rfl
end Go.Proofs.Ytahgkfekggkjnaa
