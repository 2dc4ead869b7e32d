/- What is proved here: what is found among units and among modules is the same, as plain functions. -/
import Derived.Test.YtahgkfekggkjnaaBnA
import Derived.Test.YtahgkfekggkjnaaScB
namespace Go.Proofs.Ytahgkfekggkjnaa
open Go.RowKit
set_option linter.unusedVariables false
set_option linter.unusedSimpArgs false

theorem findE_mem {nm : ByteArray} : ∀ {l : List MExp}, (findE nm l).2 = true → (findE nm l).1 ∈ l
  | [], h => by cases h
  | x :: l, h => by
    rw [findE] at h ⊢
    by_cases hx : x.1 = nm
    · rw [if_pos hx]; exact List.mem_cons_self
    · rw [if_neg hx] at h ⊢
      exact List.mem_cons_of_mem _ (findE_mem h)
theorem findU_lt {nm : ByteArray} : ∀ {l : List MUn} {i : Nat}, (findU nm l i).2.2 = true → ((i : Nat) : Int) ≤ (findU nm l i).1 ∧ (findU nm l i).1 < ((i + l.length : Nat) : Int)
  | [], _, h => by cases h
  | u :: l, i, h => by
    rw [findU] at h ⊢
    by_cases hx : (findE nm (expsU u).list).2 = true
    · rw [if_pos hx]
      simp only [List.length_cons]
      omega
    · rw [if_neg hx] at h ⊢
      have := findU_lt h
      simp only [List.length_cons]
      omega
theorem findU_rng {nm : ByteArray} {w : World} : ∀ {l : List MUn} {i : Nat}, (∀ u ∈ l, fMMd w u.2.1) → (findU nm l i).2.2 = true → fMExp w (findU nm l i).2.1
  | [], _, _, h => by cases h
  | u :: l, i, hM, h => by
    rw [findU] at h ⊢
    by_cases hx : (findE nm (expsU u).list).2 = true
    · rw [if_pos hx]
      have ge : fMMd w u.2.1 := hM u List.mem_cons_self
      exact fSl_mem (s := expsU u) ge.2.2.2.2.2.2.1.2 (findE_mem hx)
    · rw [if_neg hx] at h ⊢
      exact findU_rng (fun v hv => hM v (List.mem_cons_of_mem _ hv)) h
theorem exps_of {u : MUn} {w w' : World} (gm : fMMd w u.2.1) (hb : Below w.heap.size w w') : RdS 3 vMExp w' (expsU u).at' (expsU u).list ∧ (expsU u).len ≤ 9223372036854775807 := by
  have ge := gm.2.2.2.2.2.2.1
  refine ⟨RdS.ext (RdS.of_arg ge.2) hb, ?_⟩
  exact Nat.le_trans ge.2.1 ge.2.2.1
def findK (nm : ByteArray) : List MExp → Nat → Option Nat
  | [], _ => none
  | x :: l, k => if x.1 = nm then some k else findK nm l (k + 1)
abbrev expsM (m : MMd) : Sl MExp := m.2.2.2.2.2.2.1
def findRM (nm : ByteArray) : List MMd → Nat → Int × Int
  | [], _ => (-1, -1)
  | m :: l, i => match findK nm (expsM m).list 0 with
    | some k => (((i : Nat) : Int), ((k : Nat) : Int))
    | none => findRM nm l (i + 1)
theorem findK_rel (nm : ByteArray) : ∀ (l : List MExp) (q : Nat), ((findE nm l).2 = true → ∃ k, findK nm l q = some (q + k) ∧ l[k]? = some (findE nm l).1) ∧ ((findE nm l).2 = false → findE nm l = (zMExp, false) ∧ findK nm l q = none)
  | [], q => ⟨fun h => (by cases h), fun _ => ⟨rfl, rfl⟩⟩
  | x :: l, q => by
    rw [findE, findK]
    by_cases hx : x.1 = nm
    · rw [if_pos hx, if_pos hx]
      exact ⟨fun _ => ⟨0, rfl, rfl⟩, fun h => by cases h⟩
    · rw [if_neg hx, if_neg hx]
      obtain ⟨h1, h2⟩ := findK_rel nm l (q + 1)
      refine ⟨fun h => ?_, h2⟩
      obtain ⟨k, e1, e2⟩ := h1 h
      exact ⟨k + 1, by rw [e1]; congr 1; omega, by simpa using e2⟩
abbrev modU (u : MUn) : MMd := u.2.1
theorem find_rel (nm : ByteArray) : ∀ (l : List MUn) (i : Nat), ((findU nm l i).2.2 = true → ∃ (j k : Nat) (u : MUn), findU nm l i = (((i + j : Nat) : Int), (findU nm l i).2.1, true) ∧ findRM nm (l.map modU) i = (((i + j : Nat) : Int), ((k : Nat) : Int)) ∧ l[j]? = some u ∧ (expsU u).list[k]? = some (findU nm l i).2.1) ∧
    ((findU nm l i).2.2 = false → findU nm l i = (0, zMExp, false) ∧ findRM nm (l.map modU) i = (-1, -1))
  | [], i => ⟨fun h => (by cases h), fun _ => ⟨rfl, rfl⟩⟩
  | u :: l, i => by
    obtain ⟨k1, k2⟩ := findK_rel nm (expsU u).list 0
    rw [findU, List.map_cons, findRM]
    by_cases hx : (findE nm (expsU u).list).2 = true
    · obtain ⟨k, e1, e2⟩ := k1 hx
      rw [if_pos hx]
      refine ⟨fun _ => ⟨0, k, u, rfl, ?_, rfl, e2⟩, fun h => by cases h⟩
      rw [show expsM (modU u) = expsU u from rfl, e1, Nat.zero_add]; rfl
    · have hx' : (findE nm (expsU u).list).2 = false := by simpa using hx
      rw [if_neg hx, show expsM (modU u) = expsU u from rfl, (k2 hx').2]
      obtain ⟨h1, h2⟩ := find_rel nm l (i + 1)
      refine ⟨fun h => ?_, h2⟩
      obtain ⟨j, k, v, e1, e2, e3, e4⟩ := h1 h
      refine ⟨j + 1, k, v, ?_, ?_, by simpa using e3, e4⟩
      · rw [e1]; simp only [Prod.mk.injEq, and_true]; omega
      · show findRM nm (l.map modU) (i + 1) = _
        rw [e2]; simp only [Prod.mk.injEq, and_true]; omega
theorem findRM_ok {nm : ByteArray} : ∀ {l : List MMd} {i : Nat}, ¬ (findRM nm l i).1 < 0 → ∃ (j k : Nat) (m : MMd) (x : MExp), findRM nm l i = (((i + j : Nat) : Int), ((k : Nat) : Int)) ∧ l[j]? = some m ∧ (expsM m).list[k]? = some x
  | [], i, h => absurd (show ((-1 : Int)) < 0 by decide) h
  | m :: l, i, h => by
    rw [findRM] at h ⊢
    obtain ⟨k1, k2⟩ := findK_rel nm (expsM m).list 0
    by_cases hx : (findE nm (expsM m).list).2 = true
    · obtain ⟨k, e1, e2⟩ := k1 hx
      rw [e1]
      exact ⟨0, k, m, _, by rw [Nat.zero_add]; rfl, rfl, e2⟩
    · have hx' : (findE nm (expsM m).list).2 = false := by simpa using hx
      rw [(k2 hx').2] at h ⊢
      obtain ⟨j, k, m', x, e1, e2, e3⟩ := findRM_ok (l := l) (i := i + 1) h
      refine ⟨j + 1, k, m', x, ?_, by simpa using e2, e3⟩
      show findRM nm l (i + 1) = _
      rw [e1]; simp only [Prod.mk.injEq, and_true]; omega
theorem units_map {l : List MUn} {ms : List MMd} (h1 : l.length = ms.length) (h2 : ∀ (j : Nat) (m : MMd), ms[j]? = some m → l[j]? = some (unitU j m)) : l.map modU = ms := by
  apply List.ext_getElem?
  intro j
  rw [List.getElem?_map]
  cases hm : ms[j]? with
  | none =>
    have := List.getElem?_eq_none_iff.1 hm
    rw [List.getElem?_eq_none (by omega)]; rfl
  | some m => rw [h2 j m hm]; rfl
end Go.Proofs.Ytahgkfekggkjnaa
