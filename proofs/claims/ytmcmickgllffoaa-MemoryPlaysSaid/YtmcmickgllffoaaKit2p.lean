/- What is proved here: a slice appended to a row of the call's own. -/
import Derived.Test.YtmcmickgllffoaaKitp
namespace Go.Proofs.Ytmcmickgllffoaa
open Go.RowKit
set_option linter.unusedVariables false
set_option linter.unusedSimpArgs false

/-- The elements of a slice that is only read: one cell each. -/
def SrcV (w : World) (a : Option Addr) (m : Nat) (news : List Value) : Prop :=
  news.length = m ∧ ∀ j u, news[j]? = some u → ∃ b off, a = some ⟨b, off, none⟩ ∧ w.cell? ⟨b, off + j, none⟩ = some u ∧ b < w.heap.size

theorem SrcV.ext {w w' : World} {a : Option Addr} {m : Nat} {news : List Value} (h : SrcV w a m news) (hb : Below w.heap.size w w') : SrcV w' a m news :=
  ⟨h.1, fun j u hj => let ⟨b, off, ha, hc, hl⟩ := h.2 j u hj; ⟨b, off, ha, (hb.cell (p := ⟨b, off + j, none⟩) hl).trans hc, Nat.lt_of_lt_of_le hl hb.size⟩⟩

theorem appends_run {P : Program} {w : World} {t e bytes : Nat} {z : Value} (ht : P.underlying t = some (.slice e)) (hinfo : (P.info? e).map (fun i => (i.zero, i.size, i.bytes)) = some (some z, 1, bytes)) (hz : z.cells.size = 1) (hb1 : 1 ≤ bytes)
    {base n : Nat} {v : Value} {xs : List Value} (hown : w.ownsRow base e 1 v n xs) (hbase : base ≤ w.heap.size) {a : Option Addr} {m c : Nat} {news : List Value} (hsrc : SrcV w a m news) (h1 : ∀ u ∈ news, u.oneCell' = true) (hbytes : (n + m) * bytes ≤ 140737488355328) (hnil : m = 0 → a = none → c = 0) :
    ∃ v' w', (∀ ty, (Builtin.append_ #[t, t] ty #[v, .slice a m c]).run P w = .ok v' w') ∧ w'.ownsRow base e 1 v' (n + m) (xs ++ news) ∧ Below base w w' ∧ w.heap.size ≤ w'.heap.size := by
  obtain ⟨i, hi, hz0, hs, hby⟩ := info_parts hinfo
  have hle : n + m ≤ (n + m) * bytes := Nat.le_mul_of_pos_right _ hb1
  cases a with
  | none =>
    have hm : m = 0 := by
      rcases Nat.eq_zero_or_pos m with h | h
      · exact h
      · obtain ⟨b, off, ha, _⟩ := hsrc.2 0 (news[0]'(by have := hsrc.1; omega)) (List.getElem?_eq_getElem _)
        cases ha
    subst hm
    obtain rfl : c = 0 := hnil rfl rfl
    have hn : news = [] := List.eq_nil_of_length_eq_zero hsrc.1
    subst hn
    exact ⟨v, w, fun ty => run_append_owned_none w base t ty e i 1 ht hi v n xs hown, by simpa using hown, Below.refl _ _, Nat.le_refl _⟩
  | some ad =>
    have key : ∀ ty, ∃ v' w', (Builtin.append_ #[t, t] ty #[v, .slice (some ad) m c]).run P w = .ok v' w' ∧ w'.ownsRow base e 1 v' (n + m) (xs ++ news) ∧ Below base w w' ∧ w.heap.size ≤ w'.heap.size := by
      intro ty
      obtain ⟨v', w', hr, h2, h3, _⟩ := run_append_own (P := P) w base t ty e i z 1 bytes ht hi hz0 hs hby hz (by decide) v n xs hown
        ad m c news (by have := hsrc.1; omega) (fun j u hj => by
          obtain ⟨b, off, ha, hc, _⟩ := hsrc.2 j u hj
          cases ha
          have e1 : (⟨b, off, none⟩ : Addr).add j = ⟨b, off + j, none⟩ := by unfold Addr.add; split <;> simp_all
          rw [e1]; exact hc) h1 (by unfold maxLen; omega) hbytes hbase
      exact ⟨v', w', hr, h2, (Below.refl _ _).grown h3 hbase (fun k hk => (hown.lt k hk).1), h3.size⟩
    obtain ⟨v', w', hr, h⟩ := key 0
    refine ⟨v', w', fun ty => ?_, h⟩
    rw [← hr]; rfl

theorem oneCell_ints {k : IntKind} {l : List Int} : ∀ u ∈ l.map (Value.int k), u.oneCell' = true := by
  intro u hu
  obtain ⟨x, _, rfl⟩ := List.mem_map.1 hu
  rfl
end Go.Proofs.Ytmcmickgllffoaa
