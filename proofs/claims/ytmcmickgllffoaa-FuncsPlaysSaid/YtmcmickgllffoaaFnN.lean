/- What is proved here: functions by numbers: the program's state and the reference's, plain. -/
import Derived.Test.YtmcmickgllffoaaFnK
namespace Go.Proofs.Ytmcmickgllffoaa
open Go.RowKit
set_option linter.unusedVariables false
set_option linter.unusedSimpArgs false
def PRj (w : World) (y : Option MFn) (s : Int) (r : MRf) : Prop := match y with
  | none => r.2.2.2.2.1 = false
  | some x => ∃ T1 T2 o m kb, x = fT T1 T2 o kb ∧ r = rT T1 T2 o m s ∧ w.heap[kb]? = some (.cells (bodyCs m) 127 (0, 0))
def PR (w : World) (L : List (Option MFn)) (Sl_ : List Int) (R : List MRf) : Prop := R.length = L.length ∧ L.length = Sl_.length ∧ ∀ (j : Nat) (y : Option MFn) (s : Int) (r : MRf), L[j]? = some y → Sl_[j]? = some s → R[j]? = some r → PRj w y s r
theorem PRj.kt {w w' : World} {y : Option MFn} {s : Int} {r : MRf} (h : PRj w y s r) (hk : KT 127 w w') : PRj w' y s r := by
  cases y with
  | none => exact h
  | some x => obtain ⟨T1, T2, o, m, kb, h1, h2, h3⟩ := h; exact ⟨T1, T2, o, m, kb, h1, h2, hk _ _ h3⟩
theorem PR.kt {w w' : World} {L : List (Option MFn)} {Sl_ : List Int} {R : List MRf} (h : PR w L Sl_ R) (hk : KT 127 w w') : PR w' L Sl_ R := ⟨h.1, h.2.1, fun j y s r h1 h2 h3 => (h.2.2 j y s r h1 h2 h3).kt hk⟩
theorem PR.nil (w : World) : PR w [] [] [] := ⟨rfl, rfl, fun j y s r h1 _ _ => by cases h1⟩
section
variable {w : World} {L : List (Option MFn)} {Sl_ : List Int} {R : List MRf}
theorem PR.all (h : PR w L Sl_ R) {j : Nat} (hj : j < R.length) : ∃ y s r, L[j]? = some y ∧ Sl_[j]? = some s ∧ R[j]? = some r ∧ PRj w y s r := by
  have h1 := h.1
  have h2 := h.2.1
  obtain ⟨y, hy⟩ : ∃ y, L[j]? = some y := ⟨_, List.getElem?_eq_getElem (by omega)⟩
  obtain ⟨s, hs⟩ : ∃ y, Sl_[j]? = some y := ⟨_, List.getElem?_eq_getElem (by omega)⟩
  obtain ⟨r, hr⟩ : ∃ y, R[j]? = some y := ⟨_, List.getElem?_eq_getElem hj⟩
  exact ⟨y, s, r, hy, hs, hr, h.2.2 j y s r hy hs hr⟩
theorem gD {α : Type} {l : List α} {j : Nat} {d x : α} (h : l[j]? = some x) : l.getD j d = x := by rw [List.getD_eq_getElem?_getD, h]; rfl
theorem PR.live (h : PR w L Sl_ R) (i : Int) : liveL L i = rlB R i := by
  have h1 := h.1
  unfold liveL rlB
  rw [← h1]
  by_cases hi : 0 ≤ i ∧ i < ((R.length : Nat) : Int)
  · obtain ⟨y, s, r, hy, hs, hr, hp⟩ := h.all (j := i.toNat) (by omega)
    rw [gD hy, gD hr]
    cases y with
    | none => rw [show r.2.2.2.2.1 = false from hp]; rfl
    | some x => obtain ⟨T1, T2, o, m, kb, e1, e2, _⟩ := hp; rw [e2]; rfl
  · rw [decide_eq_false hi, Bool.false_and, Bool.false_and]
theorem PR.at (h : PR w L Sl_ R) {i : Int} (hl : rlB R i = true) : ∃ T1 T2 o m cc kb, gotL L i = fT T1 T2 o kb ∧ R[i.toNat]? = some (rT T1 T2 o m cc) ∧ w.heap[kb]? = some (.cells (bodyCs m) 127 (0, 0)) ∧ Sl_.getD i.toNat 0 = cc ∧ L[i.toNat]? = some (some (fT T1 T2 o kb)) := by
  have hi := rlB_in hl
  obtain ⟨y, s, r, hy, hs, hr, hp⟩ := h.all (j := i.toNat) (by omega)
  have hL : liveL L i = true := by rw [h.live]; exact hl
  cases y with
  | none =>
    exfalso
    unfold rlB at hl
    rw [gD hr, show r.2.2.2.2.1 = false from hp, Bool.and_false] at hl
    cases hl
  | some x =>
    obtain ⟨T1, T2, o, m, kb, e1, e2, e3⟩ := hp
    subst e1
    subst e2
    refine ⟨T1, T2, o, m, s, kb, ?_, hr, e3, gD hs, hy⟩
    unfold gotL
    rw [if_pos hL, gD hy]
    rfl
theorem PR.sw (h : PR w L Sl_ R) : ∀ j, j < L.length → swC L Sl_ j = rwC R 0 true j := by
  intro j hj
  have h1 := h.1
  obtain ⟨y, s, r, hy, hs, hr, hp⟩ := h.all (j := j) (by omega)
  have hlv := h.live ((j : Nat) : Int)
  unfold swC rwC
  rw [hlv, gD hs, gD hr]
  unfold rlB
  rw [Int.toNat_natCast, gD hr, decide_eq_true (by omega), Bool.true_and, if_pos rfl]
  cases y with
  | none => rw [show r.2.2.2.2.1 = false from hp]; rfl
  | some x => obtain ⟨T1, T2, o, m, kb, e1, e2, e3⟩ := hp; subst e2; rfl
theorem PR.ow (h : PR w L Sl_ R) (o : Int) : ∀ j, j < L.length → owC L o j = rwC R o false j := by
  intro j hj
  have h1 := h.1
  obtain ⟨y, s, r, hy, hs, hr, hp⟩ := h.all (j := j) (by omega)
  have hlv := h.live ((j : Nat) : Int)
  have hrl : rlB R ((j : Nat) : Int) = r.2.2.2.2.1 := by
    unfold rlB
    rw [Int.toNat_natCast, gD hr, decide_eq_true (by omega), Bool.true_and]
  unfold owC rwC
  rw [hlv, hrl, gD hr, if_neg (by decide)]
  cases hb : r.2.2.2.2.1 with
  | false => rfl
  | true =>
    obtain ⟨T1, T2, o1, m, cc, kb, g1, g2, _⟩ := h.at (i := ((j : Nat) : Int)) (by rw [hrl, hb])
    rw [Int.toNat_natCast, hr] at g2
    injection g2 with g2
    subst g2
    rw [g1]
theorem PR.add (h : PR w L Sl_ R) {T1 T2 : ByteArray} {o m : Int} {kb : Nat} (hk : w.heap[kb]? = some (.cells (bodyCs m) 127 (0, 0))) : PR w (L ++ [some (fT T1 T2 o kb)]) (Sl_ ++ [((L.length : Nat) : Int)]) (R ++ [rT T1 T2 o m ((R.length : Nat) : Int)]) := by
  have h1 := h.1
  have h2 := h.2.1
  refine ⟨by rw [List.length_append, List.length_append, h1]; rfl, by rw [List.length_append, List.length_append, h2]; rfl, fun j y s r hy hs hr => ?_⟩
  by_cases hj : j < L.length
  · rw [List.getElem?_append_left hj] at hy
    rw [List.getElem?_append_left (by omega)] at hs
    rw [List.getElem?_append_left (by omega)] at hr
    exact h.2.2 j y s r hy hs hr
  · have hl := (List.getElem?_eq_some_iff.1 hy).1
    have e : j = L.length := by rw [List.length_append] at hl; simp at hl; omega
    subst e
    rw [List.getElem?_append_right (Nat.le_refl _), Nat.sub_self] at hy
    rw [← h1, List.getElem?_append_right (Nat.le_refl _), Nat.sub_self] at hr
    rw [h2, List.getElem?_append_right (Nat.le_refl _), Nat.sub_self] at hs
    injection hy with hy
    injection hr with hr
    injection hs with hs
    subst hy
    subst hr
    subst hs
    exact ⟨T1, T2, o, m, kb, rfl, by rw [h1, h2], hk⟩
theorem PR.cut (h : PR w L Sl_ R) (i : Int) : PR w (cutL L i) (cutL Sl_ i) (cutL R i) := by
  have h1 := h.1
  have h2 := h.2.1
  unfold cutL
  rw [← h2, h1]
  split
  · refine ⟨by rw [List.length_take, List.length_take, h1], by rw [List.length_take, List.length_take, h2], fun j y s r hy hs hr => ?_⟩
    rw [List.getElem?_take] at hy hs hr
    split at hy
    · rename_i hj
      rw [if_pos hj] at hs hr
      exact h.2.2 j y s r hy hs hr
    · cases hy
  · exact h
/-- One entry is another one. -/
theorem PR.set (h : PR w L Sl_ R) (i : Nat) {y : Option MFn} {s : Int} {r : MRf} (hp : PRj w y s r) : PR w (L.set i y) (Sl_.set i s) (R.set i r) := by
  refine ⟨by rw [List.length_set, List.length_set]; exact h.1, by rw [List.length_set, List.length_set]; exact h.2.1, fun j y' s' r' hy hs hr => ?_⟩
  rw [List.getElem?_set] at hy hs hr
  by_cases e : i = j
  · rw [if_pos e] at hy hs hr
    split at hy
    · split at hs
      · split at hr
        · injection hy with hy; injection hs with hs; injection hr with hr
          subst hy; subst hs; subst hr; exact hp
        · cases hr
      · cases hs
    · cases hy
  · rw [if_neg e] at hy hs hr
    exact h.2.2 j y' s' r' hy hs hr
theorem set_same {α : Type} {l : List α} {i : Nat} {x : α} (h : l[i]? = some x) : l.set i x = l := by
  apply List.ext_getElem?
  intro j
  rw [List.getElem?_set]
  by_cases e : i = j
  · subst e
    have hl := (List.getElem?_eq_some_iff.1 h).1
    rw [if_pos rfl, if_pos hl, h]
  · rw [if_neg e]
def rfrP (R : List MRf) (i : Int) : List MRf := if rlB R i = true then R.set i.toNat (zMFt, 0, 0, -1, false, ()) else R
theorem PR.free (h : PR w L Sl_ R) (i : Int) : PR w (frL L i) (frS L Sl_ i) (rfrP R i) := by
  unfold frL frS rfrP
  rw [h.live i]
  split
  · exact h.set i.toNat (y := none) (s := -1) (r := (zMFt, 0, 0, -1, false, ())) rfl
  · exact h
theorem PR.rest (h : PR w L Sl_ R) (i : Int) {T1 T2 : ByteArray} {o m c : Int} {kb : Nat} (hk : w.heap[kb]? = some (.cells (bodyCs m) 127 (0, 0))) : PR w (reL L i (fT T1 T2 o kb)) (reS L Sl_ i c) (if 0 ≤ i ∧ i < ((R.length : Nat) : Int) then R.set i.toNat (rT T1 T2 o m c) else R) := by
  have h1 := h.1
  unfold reL reS
  rw [h1]
  by_cases hi : inR L i
  · rw [if_pos hi, if_pos hi, if_pos (show 0 ≤ i ∧ i < ((L.length : Nat) : Int) from hi)]
    exact h.set i.toNat (y := some (fT T1 T2 o kb)) (s := c) (r := rT T1 T2 o m c) ⟨T1, T2, o, m, kb, rfl, rfl, hk⟩
  · rw [if_neg hi, if_neg hi, if_neg (show ¬ (0 ≤ i ∧ i < ((L.length : Nat) : Int)) from hi)]
    exact h
/-- What Swap tells, and what it leaves, is what the reference says. -/
theorem PR.swap (h : PR w L Sl_ R) (i j : Int) : PR w L (swR L Sl_ i j).2.2 (rswP R i j).1 ∧ (swR L Sl_ i j).2.1 = (rswP R i j).2 ∧ ((rswP R i j).2 = 0 → rlB R i = true ∧ (swR L Sl_ i j).1 = (R.getD i.toNat zMRf).2.2.2.1) ∧ (¬ (rswP R i j).2 = 0 → (swR L Sl_ i j).1 = 0) := by
  by_cases hlv : rlB R i = true ∧ rlB R j = true
  · obtain ⟨T1, T2, o, m, cc, kb, g1, g2, g3, g4, g5⟩ := h.at hlv.1
    obtain ⟨U1, U2, o2, m2, c2, kb2, k1, k2, k3, k4, k5⟩ := h.at hlv.2
    have hLv : liveL L i = true ∧ liveL L j = true := by rw [h.live, h.live]; exact hlv
    by_cases ht : T1 = U1 ∧ T2 = U2
    · obtain ⟨rfl, rfl⟩ := ht
      have e1 : swR L Sl_ i j = (cc, 0, Sl_.set i.toNat j) := by unfold swR; rw [if_pos hLv, g1, k1, if_pos ⟨rfl, rfl⟩, g4]
      have e2 : rswP R i j = (R.set i.toNat (rT T1 T2 o m j), 0) := by unfold rswP; rw [if_pos hlv, gD g2, gD k2, if_pos rfl]
      rw [e1, e2]
      refine ⟨?_, rfl, fun _ => ⟨hlv.1, ?_⟩, fun hn => absurd rfl hn⟩
      · have := h.set i.toNat (y := some (fT T1 T2 o kb)) (s := j) (r := rT T1 T2 o m j) ⟨T1, T2, o, m, kb, rfl, rfl, g3⟩
        rw [set_same g5] at this
        exact this
      · show cc = _; rw [gD g2]
    · have e1 : swR L Sl_ i j = (0, 66, Sl_) := by unfold swR; rw [if_pos hLv, g1, k1, if_neg ht]
      have e2 : rswP R i j = (R, 66) := by
        unfold rswP
        rw [if_pos hlv, gD g2, gD k2, if_neg (fun e => ht (by injection e with e1 e2; injection e2 with e2 _; exact ⟨e1, e2⟩))]
      rw [e1, e2]
      exact ⟨h, rfl, fun hz => absurd (show (66 : Int) = 0 from hz) (by decide), fun _ => rfl⟩
  · have hLv : ¬ (liveL L i = true ∧ liveL L j = true) := by rw [h.live, h.live]; exact hlv
    have e1 : swR L Sl_ i j = (0, 47, Sl_) := by unfold swR; rw [if_neg hLv]
    have e2 : rswP R i j = (R, 47) := by unfold rswP; rw [if_neg hlv]
    rw [e1, e2]
    exact ⟨h, rfl, fun hz => absurd (show (47 : Int) = 0 from hz) (by decide), fun _ => rfl⟩
end
/-- The program's state stands for the reference's. -/
def St29 (B : Nat) (w : World) (p : Nat) (R : List MRf) : Prop := ∃ L Sl_, FSt B w p L Sl_ ∧ PR w L Sl_ R
theorem St29.ext {B p : Nat} {w w' : World} {R : List MRf} (h : St29 B w p R) (hb : Below w.heap.size w w') : St29 B w' p R := by
  obtain ⟨L, S, h1, h2⟩ := h
  exact ⟨L, S, h1.ext hb, h2.kt (KT.of_below hb)⟩
theorem KT.grown {T T2 b : Nat} {w w' : World} {cs : Array Value} {fr : Nat × Nat} (hg : w.grownBy w' (some b)) (hb : w.heap[b]? = some (.cells cs T2 fr)) (hne : (T == T2) = false) : KT T w w' := fun bf cs2 h => blk_grown h hg (blk_ty h hb hne)
theorem FSt.kt {B p : Nat} {w w' : World} {L : List (Option MFn)} {Sl_ : List Int} (h : FSt B w p L Sl_) (k1 : KT 122 w w') (k2 : KT 123 w w') (k3 : KT 3 w w') (k4 : KT 37 w w') : FSt B w' p L Sl_ := by
  obtain ⟨a, b, c, d, ps, h1, h2, h3, h4, h5, h6, h7⟩ := h
  exact ⟨a, b, c, d, ps, k1 _ _ h1, h2.kt k2, h3.kt k3, h4, h5, h6, h7.map k4⟩
/-- A block of another type was written. -/
theorem St29.grown {B p b : Nat} {w w' : World} {R : List MRf} {cs : Array Value} {fr : Nat × Nat} (h : St29 B w p R) (hg : w.grownBy w' (some b)) (hb : w.heap[b]? = some (.cells cs 132 fr)) : St29 B w' p R := by
  obtain ⟨L, S, h1, h2⟩ := h
  exact ⟨L, S, h1.kt (KT.grown hg hb (by decide)) (KT.grown hg hb (by decide)) (KT.grown hg hb (by decide)) (KT.grown hg hb (by decide)), h2.kt (KT.grown hg hb (by decide))⟩
section
variable {w0 w : World} {p : Nat} {R : List MRf}
theorem free_S (hb : Below w0.heap.size w0 w) (hF : St29 w0.heap.size w p R) (i : Int) : Calls Try.prog 15 #[.pointer (some ⟨p, 0, none⟩), .int .i64 i] w fun e w' => ∃ x, e = .returned x ∧ x = .int .i64 (if rlB R i = true then 0 else 47) ∧ St29 w0.heap.size w' p (rfrP R i) ∧ Below w0.heap.size w0 w' ∧ Pk w w' := by
  obtain ⟨L, S, h1, h2⟩ := hF
  refine (freeK_F hb h1 i).mono (fun e w' h => ?_)
  obtain ⟨z, e1, e2, e3, e4, e5⟩ := h
  rw [h2.live] at e2
  exact ⟨z, e1, e2, ⟨_, _, e3, (h2.kt e5.2.1).free i⟩, e4, e5⟩
theorem swap_S (hb : Below w0.heap.size w0 w) (hF : St29 w0.heap.size w p R) (i j : Int) : Calls Try.prog 14 #[.pointer (some ⟨p, 0, none⟩), .int .i64 i, .int .i64 j] w fun e w' => ∃ x, e = .returned x ∧ ∃ q : Int, (x = .tuple #[.int .i64 q, .int .i64 (rswP R i j).2] ∧ ((rswP R i j).2 = 0 → rlB R i = true ∧ q = (R.getD i.toNat zMRf).2.2.2.1) ∧ (¬ (rswP R i j).2 = 0 → q = 0)) ∧ St29 w0.heap.size w' p (rswP R i j).1 ∧ Below w0.heap.size w0 w' ∧ Pk w w' := by
  obtain ⟨L, S, h1, h2⟩ := hF
  refine (swapK_F hb h1 i j).mono (fun e w' h => ?_)
  obtain ⟨z, e1, e2, e3, e4, e5⟩ := h
  obtain ⟨g1, g2, g3, g4⟩ := h2.swap i j
  rw [g2] at e2
  exact ⟨z, e1, _, ⟨e2, g3, g4⟩, ⟨_, _, e3, g1.kt e5.2.1⟩, e4, e5⟩
theorem add_S (hb : Below w0.heap.size w0 w) (hF : St29 w0.heap.size w p R) {T1 T2 : ByteArray} {o m : Int} {kb : Nat} (hk : w.heap[kb]? = some (.cells (bodyCs m) 127 (0, 0))) (hl : R.length + 1 ≤ 1000) : Calls Try.prog 12 #[.pointer (some ⟨p, 0, none⟩), fnV (fT T1 T2 o kb)] w fun e w' => ∃ x, e = .returned x ∧ x = .int .i64 ((R.length : Nat) : Int) ∧ St29 w0.heap.size w' p (R ++ [rT T1 T2 o m ((R.length : Nat) : Int)]) ∧ Below w0.heap.size w0 w' ∧ Pk w w' := by
  obtain ⟨L, S, h1, h2⟩ := hF
  refine (addK_F hb h1 (fT T1 T2 o kb) (by rw [← h2.1]; exact hl)).mono (fun e w' h => ?_)
  obtain ⟨z, e1, e2, e3, e4, e5⟩ := h
  rw [← h2.1] at e2
  exact ⟨z, e1, e2, ⟨_, _, e3, (h2.kt e5.2.1).add (e5.2.1 _ _ hk)⟩, e4, e5⟩
theorem cut_S (hb : Below w0.heap.size w0 w) (hF : St29 w0.heap.size w p R) (i : Int) : Calls Try.prog 70 #[.pointer (some ⟨p, 0, none⟩), .int .i64 i] w fun e w' => ∃ x, e = .returned x ∧ x = .tuple #[] ∧ St29 w0.heap.size w' p (cutL R i) ∧ Below w0.heap.size w0 w' ∧ Pk w w' := by
  obtain ⟨L, S, h1, h2⟩ := hF
  refine (cutK_F hb h1 i).mono (fun e w' h => ?_)
  obtain ⟨z, e1, e2, e3, e4, e5⟩ := h
  exact ⟨z, e1, e2, ⟨_, _, e3, (h2.kt e5.2.1).cut i⟩, e4, e5⟩
def rreP (R : List MRf) (i : Int) (x : MRf) : List MRf := if 0 ≤ i ∧ i < ((R.length : Nat) : Int) then R.set i.toNat x else R
theorem rest_S (hb : Below w0.heap.size w0 w) (hF : St29 w0.heap.size w p R) {T1 T2 : ByteArray} {o m : Int} {kb : Nat} (hk : w.heap[kb]? = some (.cells (bodyCs m) 127 (0, 0))) (i c : Int) : Calls Try.prog 71 #[.pointer (some ⟨p, 0, none⟩), .int .i64 i, fnV (fT T1 T2 o kb), .int .i64 c] w fun e w' => ∃ x, e = .returned x ∧ x = .int .i64 (if 0 ≤ i ∧ i < ((R.length : Nat) : Int) then 0 else 1) ∧ St29 w0.heap.size w' p (rreP R i (rT T1 T2 o m c)) ∧ Below w0.heap.size w0 w' ∧ Pk w w' := by
  obtain ⟨L, S, h1, h2⟩ := hF
  refine (restK_F hb h1 i (fT T1 T2 o kb) c).mono (fun e w' h => ?_)
  obtain ⟨z, e1, e2, e3, e4, e5⟩ := h
  refine ⟨z, e1, ?_, ⟨_, _, e3, (h2.kt e5.2.1).rest i (e5.2.1 _ _ hk)⟩, e4, e5⟩
  rw [e2, h2.1]
  by_cases hi : inR L i
  · rw [if_pos hi, if_pos (show 0 ≤ i ∧ i < ((L.length : Nat) : Int) from hi)]
  · rw [if_neg hi, if_neg (show ¬ (0 ≤ i ∧ i < ((L.length : Nat) : Int)) from hi)]
theorem len_S {B : Nat} (hF : St29 B w p R) : Calls Try.prog 37 #[.pointer (some ⟨p, 0, none⟩)] w fun e w' => e = .returned (.int .i64 ((R.length : Nat) : Int)) ∧ Below w.heap.size w w' := by
  obtain ⟨L, S, h1, h2⟩ := hF
  have h := len_F h1
  rw [← h2.1] at h
  exact h
theorem swapped_S {B : Nat} (hF : St29 B w p R) : Calls Try.prog 40 #[.pointer (some ⟨p, 0, none⟩)] w fun e w' => ∃ v, e = .returned v ∧ Row 1 (vInt .i64) 3 w.heap.size w' v (rwF R 0 true R.length) ∧ Below w.heap.size w w' := by
  obtain ⟨L, S, h1, h2⟩ := hF
  have h := swapped_F h1
  rw [filF_eq _ h2.sw, ← rwF_fil, ← h2.1] at h
  exact h
theorem owned_S {B : Nat} (hF : St29 B w p R) (o : Int) : Calls Try.prog 42 #[.pointer (some ⟨p, 0, none⟩), .int .i64 o] w fun e w' => ∃ v, e = .returned v ∧ Row 1 (vInt .i64) 3 w.heap.size w' v (rwF R o false R.length) ∧ Below w.heap.size w w' := by
  obtain ⟨L, S, h1, h2⟩ := hF
  have h := owned_F h1 o
  rw [filF_eq _ (h2.ow o), ← rwF_fil, ← h2.1] at h
  exact h
theorem shows_S {B : Nat} (hF : St29 B w p R) {ar : Option Addr} {cr : Nat} (hl : RdS 6 vMRf w ar R) (hlc : R.length ≤ 1000) (hcc : R.length ≤ cr ∧ cr ≤ 9223372036854775807) (hcn : ar = none → cr = 0) (i : Int) : Calls Try.prog 38 #[.pointer (some ⟨p, 0, none⟩), .slice ar R.length cr, .int .i64 i] w fun e w' => e = .returned (.bool true) ∧ Below w.heap.size w w' := by
  obtain ⟨L, S, h1, h2⟩ := hF
  cases hr : rlB R i with
  | false => exact shows_dead B p L S w h1 ar R cr hl hlc hcc hcn i (by rw [h2.live]; exact hr) hr
  | true =>
    obtain ⟨T1, T2, o, m, cc, kb, g1, g2, g3, g4, _⟩ := h2.at hr
    cases hr2 : rlB R cc with
    | false => exact shows_A B p L S w h1 ar R cr hl hlc hcc hcn i T1 T2 o m cc kb (by rw [h2.live]; exact hr) hr g1 g2 g3 g4 (by rw [h2.live]; exact hr2) hr2
    | true =>
      obtain ⟨U1, U2, o2, m2, c2, kb2, k1, k2, k3, k4, _⟩ := h2.at hr2
      exact shows_B B p L S w h1 ar R cr hl hlc hcc hcn i T1 T2 o m cc kb (by rw [h2.live]; exact hr) hr g1 g2 g3 g4 U1 U2 o2 m2 c2 kb2 (by rw [h2.live]; exact hr2) hr2 k1 k2 k3
theorem new_S (w : World) : Calls Try.prog 11 #[] w fun e w' => ∃ x, e = .returned x ∧ ∃ p, x = .pointer (some ⟨p, 0, none⟩) ∧ St29 w.heap.size w' p [] ∧ Below w.heap.size w w' :=
  (fnew_F w).mono (fun e w' h => by obtain ⟨x, h1, p, h2, h3, h4⟩ := h; exact ⟨x, h1, p, h2, ⟨[], [], h3, PR.nil _⟩, h4⟩)
theorem St29.low {B B2 : Nat} {R : List MRf} {w : World} {p : Nat} (h : St29 B w p R) (hB : B2 ≤ B) : St29 B2 w p R := by
  obtain ⟨L, S, ⟨a, b, c, d, ps, h1, h2, h3, h4, h5, h6, h7⟩, h8⟩ := h
  exact ⟨L, S, ⟨a, b, c, d, ps, h1, h2.rebase hB, h3.rebase hB, Nat.le_trans hB h4, h5, h6, h7⟩, h8⟩
end
end Go.Proofs.Ytmcmickgllffoaa
