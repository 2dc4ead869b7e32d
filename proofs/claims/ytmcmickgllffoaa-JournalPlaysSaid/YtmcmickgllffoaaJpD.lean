/- What is proved here: the journal's state and the reference's, plain. -/
import Derived.Test.YtmcmickgllffoaaJpC
namespace Go.Proofs.Ytmcmickgllffoaa
open Go.RowKit
set_option linter.unusedVariables false
set_option linter.unusedSimpArgs false
/-- Where each row begins. -/
def offs (Rr : List (List Ent)) : List Int := (List.range Rr.length).map (fun i => (((Rr.take i).flatten.length : Nat) : Int))
theorem offs_len (Rr : List (List Ent)) : (offs Rr).length = Rr.length := by unfold offs; rw [List.length_map, List.length_range]
theorem offs_at (Rr : List (List Ent)) (i : Nat) : (offs Rr)[i]? = if i < Rr.length then some (((Rr.take i).flatten.length : Nat) : Int) else none := by
  unfold offs
  rw [List.getElem?_map]
  by_cases h : i < Rr.length
  · rw [List.getElem?_range h, if_pos h]
    rfl
  · rw [List.getElem?_eq_none (by rw [List.length_range]; omega), if_neg h]
    rfl
theorem offs_congr {Rr Q : List (List Ent)} (hl : Rr.length = Q.length) (h : ∀ i, i < Rr.length → (Rr.take i).flatten.length = (Q.take i).flatten.length) : offs Rr = offs Q := by
  apply List.ext_getElem?
  intro i
  rw [offs_at, offs_at, hl]
  split
  · rename_i hi
    rw [h i (by omega)]
  · rfl
theorem offs_snoc (Rr : List (List Ent)) : offs (Rr ++ [[]]) = offs Rr ++ [((Rr.flatten.length : Nat) : Int)] := by
  apply List.ext_getElem?
  intro i
  rw [offs_at, List.length_append, List.length_singleton]
  by_cases hi : i < Rr.length
  · rw [if_pos (by omega), List.getElem?_append_left (by rw [offs_len]; exact hi), offs_at, if_pos hi, List.take_append_of_le_length (by omega)]
  · by_cases he : i = Rr.length
    · subst he
      rw [if_pos (by omega), List.getElem?_append_right (by rw [offs_len]; exact Nat.le_refl _), offs_len, Nat.sub_self, List.take_left']
      · rfl
      · rfl
    · rw [if_neg (by omega), List.getElem?_eq_none (by rw [List.length_append, offs_len, List.length_singleton]; omega)]
theorem rNote_take (Rr : List (List Ent)) (x : Ent) {i : Nat} (h : i < Rr.length) : (rNote Rr x).take i = Rr.take i := by
  unfold rNote
  rw [if_neg (by omega), List.take_set, List.set_eq_of_length_le (by rw [List.length_take]; omega)]
theorem offs_note (Rr : List (List Ent)) (x : Ent) : offs (rNote Rr x) = offs Rr := offs_congr (rNote_len Rr x) (fun i hi => by rw [rNote_take _ _ (by rw [rNote_len] at hi; exact hi)])
theorem offs_notes (Q : List (List Ent)) (l : List Ent) : offs (rNotes Q l) = offs Q := by
  unfold rNotes
  induction l generalizing Q with
  | nil => rfl
  | cons x l ih => rw [List.foldl_cons, ih, offs_note]
theorem offs_take (Rr : List (List Ent)) (n : Nat) : offs (Rr.take n) = (offs Rr).take n := by
  apply List.ext_getElem?
  intro i
  rw [offs_at, List.getElem?_take, offs_at, List.length_take]
  by_cases h1 : i < n
  · rw [if_pos h1]
    by_cases h2 : i < Rr.length
    · rw [if_pos (by omega), if_pos h2, List.take_take, Nat.min_eq_left (by omega)]
    · rw [if_neg (by omega), if_neg h2]
  · rw [if_neg h1, if_neg (by omega)]
theorem rNotes_flat {Q : List (List Ent)} (l : List Ent) (h : 0 < Q.length) : (rNotes Q l).flatten = Q.flatten ++ l := by
  unfold rNotes
  induction l generalizing Q with
  | nil => simp
  | cons x l ih => rw [List.foldl_cons, ih (by rw [rNote_len]; exact h), rNote_flat x h]; simp
theorem rNotes_nil (l : List Ent) : rNotes [] l = [] := List.length_eq_zero_iff.1 (by rw [rNotes_len]; rfl)
theorem rKeep_len (Rr : List (List Ent)) : (rKeep Rr).length = Rr.length - 1 := by unfold rKeep; rw [rNotes_len, List.length_take]; omega
theorem offs_keep (Rr : List (List Ent)) : offs (rKeep Rr) = (offs Rr).take (Rr.length - 1) := by unfold rKeep; rw [offs_notes, offs_take]
theorem rKeep_flat {Rr : List (List Ent)} (h : 0 < Rr.length) : (rKeep Rr).flatten = if (offs Rr).length = 1 then [] else Rr.flatten := by
  rw [offs_len]
  unfold rKeep
  by_cases h1 : Rr.length = 1
  · rw [if_pos h1, h1]
    rw [show Rr.take (1 - 1) = [] from rfl, rNotes_nil]
    rfl
  · rw [if_neg h1, rNotes_flat _ (by rw [List.length_take]; omega), ← last_flat h]
theorem rKeep_flen {Rr : List (List Ent)} (h : 0 < Rr.length) : (rKeep Rr).flatten.length ≤ Rr.flatten.length := by
  rw [rKeep_flat h]
  split
  · exact Nat.zero_le _
  · exact Nat.le_refl _
abbrev Rl (Rr : List (List Ent)) : List Ent := Rr.getD (Rr.length - 1) []
abbrev Rq (Rr : List (List Ent)) : List (List Ent) := Rr.take (Rr.length - 1)
theorem flat_len {Rr : List (List Ent)} (h : 0 < Rr.length) : Rr.flatten.length = (Rq Rr).flatten.length + (Rl Rr).length := by
  have h1 := congrArg List.length (last_flat h)
  rw [List.length_append] at h1
  exact h1
theorem outE_last {Rr : List (List Ent)} (h : 0 < Rr.length) : outE Rr.flatten (Rr.flatten.length - (Rq Rr).flatten.length) = outE (Rl Rr) (Rl Rr).length := by
  unfold outE
  rw [show Rr.flatten.length - (Rr.flatten.length - (Rq Rr).flatten.length) = (Rq Rr).flatten.length by have := flat_len h; omega, Nat.sub_self]
  conv => lhs; rw [last_flat h]
  rw [List.drop_left]
  rfl
theorem drop_last {Rr : List (List Ent)} (h : 0 < Rr.length) : Rr.flatten.drop (Rq Rr).flatten.length = Rl Rr := by
  conv => lhs; rw [last_flat h]
  rw [List.drop_left]
theorem take_last {Rr : List (List Ent)} (h : 0 < Rr.length) : Rr.flatten.take (Rq Rr).flatten.length = (Rq Rr).flatten := by
  conv => lhs; rw [last_flat h]
  rw [List.take_left]
theorem offs_last {Rr : List (List Ent)} (h : 0 < Rr.length) : (offs Rr)[(offs Rr).length - 1]? = some (((Rq Rr).flatten.length : Nat) : Int) := by
  rw [offs_at, offs_len, if_pos (by omega)]
/-- A journal whose blocks lie below X. -/
def JRx (X B : Nat) (w : World) (p : Nat) (L : List Ent) (M : List Int) (N : Int) : Prop := ∃ la lc ma mc, w.heap[p]? = some (.cells #[.slice la L.length lc, .slice ma M.length mc, .int .i64 N] 130 (0, 0)) ∧ Row 4 vE 54 B w (.slice la L.length lc) L ∧ Row 1 (vInt .i64) 3 B w (.slice ma M.length mc) M ∧ B ≤ p ∧ p < X ∧ (∀ q, (Value.slice la L.length lc).ownBlock = some q → q < X) ∧ (∀ q, (Value.slice ma M.length mc).ownBlock = some q → q < X)
section
variable {X B p : Nat} {w w' w0 : World} {L : List Ent} {M : List Int} {N : Int}
theorem JR.toX (h : JR B w p L M N) : JRx w.heap.size B w p L M N := by
  obtain ⟨la, lc, ma, mc, h1, h2, h3, h4⟩ := h.parts
  exact ⟨la, lc, ma, mc, h1, h2, h3, h4, blk_lt h1, fun q hq => (Row.lt h2 q hq).2, fun q hq => (Row.lt h3 q hq).2⟩
theorem JRx.jr (h : JRx X B w p L M N) : JR B w p L M N := by
  obtain ⟨la, lc, ma, mc, h1, h2, h3, h4, _⟩ := h
  exact ⟨h4, _, _, h1, rowE h2, rowM h3⟩
theorem JRx.ext (h : JRx X B w p L M N) (hb : Below w.heap.size w w') : JRx X B w' p L M N := by
  obtain ⟨la, lc, ma, mc, h1, h2, h3, h4⟩ := h
  exact ⟨la, lc, ma, mc, blk_ext h1 hb, h2.ext hb, h3.ext hb, h4⟩
theorem JRx.grown {b : Nat} (h : JRx X B w p L M N) (hg : w.grownBy w' (some b)) (hX : X ≤ b) : JRx X B w' p L M N := by
  obtain ⟨la, lc, ma, mc, h1, h2, h3, h4, h5, h6, h7⟩ := h
  exact ⟨la, lc, ma, mc, blk_grown h1 hg (by omega), Row.grown h2 hg (fun e => by have := h6 _ e; omega), Row.grown h3 hg (fun e => by have := h7 _ e; omega), h4, h5, h6, h7⟩
theorem JRx.kt (h : JRx X B w p L M N) (k1 : KT 130 w w') (k2 : KT 54 w w') (k3 : KT 3 w w') : JRx X B w' p L M N := by
  obtain ⟨la, lc, ma, mc, h1, h2, h3, h4⟩ := h
  exact ⟨la, lc, ma, mc, k1 _ _ h1, h2.kt k2, h3.kt k3, h4⟩
end
section
variable {X p : Nat} {w w0 : World} {Rr : List (List Ent)} {N : Nat}
theorem note_S (hb : Below w0.heap.size w0 w) (hJ : JRx X w0.heap.size w p Rr.flatten (offs Rr) ((N : Nat) : Int)) (h0 : 0 < Rr.length) (hRs : Rr.length ≤ 1000) (hRf : Rr.flatten.length ≤ 1000) (hN : N ≤ 1000) (a b c : Int) (d : ByteArray) : Calls Try.prog 20 #[.pointer (some ⟨p, 0, none⟩), .agg #[.int .i64 a, .int .i64 b, .int .u64 c, .string d]] w fun e w' => ∃ x, e = .returned x ∧ x = .tuple #[] ∧ JR w0.heap.size w' p (rNote Rr (a, b, c, d)).flatten (offs (rNote Rr (a, b, c, d))) (((N + 1 : Nat)) : Int) ∧ Below w0.heap.size w0 w' ∧ Qk X w w' := by
  obtain ⟨la, lc, ma, mc, h1, h2, h3, h4, h5, h6, h7⟩ := hJ
  refine (noteT p la ma lc mc _ _ _ w0 w hb h1 h2 h3 h4 (by omega) (by rw [offs_len]; omega) (by omega) X h5 h6 h7 (by rw [offs_len]; exact h0) (a, b, c, d)).mono (fun e w' h => ?_)
  obtain ⟨e1, e2, e3, e4⟩ := h
  rw [offs_note, rNote_flat _ h0]
  exact ⟨_, e1, rfl, e2, e3, e4⟩
theorem mark_S (hb : Below w0.heap.size w0 w) (hJ : JRx X w0.heap.size w p Rr.flatten (offs Rr) ((N : Nat) : Int)) (hRs : Rr.length ≤ 1000) (hRf : Rr.flatten.length ≤ 1000) (hN : N ≤ 1000) : Calls Try.prog 22 #[.pointer (some ⟨p, 0, none⟩)] w fun e w' => ∃ x, e = .returned x ∧ x = .int .i64 (((Rr.length + 1 : Nat)) : Int) ∧ JR w0.heap.size w' p (Rr ++ [[]]).flatten (offs (Rr ++ [[]])) ((N : Nat) : Int) ∧ Below w0.heap.size w0 w' ∧ Qk X w w' := by
  obtain ⟨la, lc, ma, mc, h1, h2, h3, h4, h5, h6, h7⟩ := hJ
  refine (markT p la ma lc mc _ _ _ w0 w hb h1 h2 h3 h4 (by omega) (by rw [offs_len]; omega) (by omega) X h5 h6 h7).mono (fun e w' h => ?_)
  obtain ⟨e1, e2, e3, e4⟩ := h
  have hfl : (Rr ++ [([] : List Ent)]).flatten = Rr.flatten := by simp
  rw [offs_snoc, hfl]
  rw [offs_len] at e1
  exact ⟨_, e1, rfl, e2, e3, e4⟩
theorem keep_S (hb : Below w0.heap.size w0 w) (hJ : JRx X w0.heap.size w p Rr.flatten (offs Rr) ((N : Nat) : Int)) (h0 : 0 < Rr.length) (hRs : Rr.length ≤ 1000) (hRf : Rr.flatten.length ≤ 1000) (hN : N ≤ 1000) : Calls Try.prog 26 #[.pointer (some ⟨p, 0, none⟩)] w fun e w' => ∃ x, e = .returned x ∧ x = .int .i64 0 ∧ JR w0.heap.size w' p (rKeep Rr).flatten (offs (rKeep Rr)) ((N : Nat) : Int) ∧ Below w0.heap.size w0 w' ∧ Qk X w w' := by
  obtain ⟨la, lc, ma, mc, h1, h2, h3, h4, h5, h6, h7⟩ := hJ
  refine (keepT p la ma lc mc _ _ _ w0 w hb h1 h2 h3 h4 (by omega) (by rw [offs_len]; omega) (by omega) X h5 h6 h7 (by rw [offs_len]; exact h0)).mono (fun e w' h => ?_)
  obtain ⟨e1, e2, e3, e4⟩ := h
  rw [offs_keep, rKeep_flat h0, show Rr.length - 1 = (offs Rr).length - 1 by rw [offs_len]]
  exact ⟨_, e1, rfl, e2, e3, e4⟩
theorem back_S (hb : Below w0.heap.size w0 w) (hJ : JRx X w0.heap.size w p Rr.flatten (offs Rr) ((N : Nat) : Int)) (h0 : 0 < Rr.length) (hRs : Rr.length ≤ 1000) (hRf : Rr.flatten.length ≤ 1000) (hN : N ≤ 1000) : Calls Try.prog 23 #[.pointer (some ⟨p, 0, none⟩)] w fun e w' => ∃ x, e = .returned x ∧ ∃ oa oc, x = .tuple #[.slice oa (outE (Rl Rr) (Rl Rr).length).length oc, .int .i64 0] ∧ Row 4 vE 54 w.heap.size w' (.slice oa (outE (Rl Rr) (Rl Rr).length).length oc) (outE (Rl Rr) (Rl Rr).length) ∧ JR w0.heap.size w' p (Rq Rr).flatten (offs (Rq Rr)) ((N : Nat) : Int) ∧ Below w0.heap.size w0 w' ∧ Qk X w w' := by
  obtain ⟨la, lc, ma, mc, h1, h2, h3, h4, h5, h6, h7⟩ := hJ
  refine (backT p la ma lc mc _ _ _ w0 w hb h1 h2 h3 h4 (by omega) (by rw [offs_len]; omega) (by omega) X h5 h6 h7 (by rw [offs_len]; exact h0) (Rq Rr).flatten.length (offs_last h0) (by have := flat_len h0; omega)).mono (fun e w' h => ?_)
  obtain ⟨v, e1, oa, oc, e2, e3, e4, e5, e6⟩ := h
  rw [outE_last h0] at e2 e3
  rw [take_last h0, show (offs Rr).length - 1 = Rr.length - 1 by rw [offs_len], ← offs_take] at e4
  exact ⟨_, e1, oa, oc, e2, e3, e4, e5, e6⟩
end
section
variable {B p : Nat} {w : World} {Rr : List (List Ent)} {N : Nat}
theorem note_0 (hJ : JR B w p Rr.flatten (offs Rr) ((N : Nat) : Int)) (hRs : Rr.length ≤ 1000) (hRf : Rr.flatten.length ≤ 1000) (h0 : Rr.length = 0) (a b c : Int) (d : ByteArray) : Calls Try.prog 20 #[.pointer (some ⟨p, 0, none⟩), .agg #[.int .i64 a, .int .i64 b, .int .u64 c, .string d]] w fun e w' => e = .returned (.tuple #[]) ∧ Below w.heap.size w w' := by
  obtain ⟨la, lc, ma, mc, h1, h2, h3, h4⟩ := hJ.parts
  exact noteF p la ma lc mc _ _ _ B w h1 h2 h3 (by omega) (by rw [offs_len]; omega) (by rw [offs_len]; exact h0) (a, b, c, d)
theorem back_0 (hJ : JR B w p Rr.flatten (offs Rr) ((N : Nat) : Int)) (hRs : Rr.length ≤ 1000) (hRf : Rr.flatten.length ≤ 1000) (h0 : Rr.length = 0) : Calls Try.prog 23 #[.pointer (some ⟨p, 0, none⟩)] w fun e w' => e = .returned (.tuple #[.slice none 0 0, .int .i64 1]) ∧ Below w.heap.size w w' := by
  obtain ⟨la, lc, ma, mc, h1, h2, h3, h4⟩ := hJ.parts
  exact backF p la ma lc mc _ _ _ B w h1 h2 h3 (by omega) (by rw [offs_len]; omega) (by rw [offs_len]; exact h0)
theorem keep_0 (hJ : JR B w p Rr.flatten (offs Rr) ((N : Nat) : Int)) (hRs : Rr.length ≤ 1000) (hRf : Rr.flatten.length ≤ 1000) (h0 : Rr.length = 0) : Calls Try.prog 26 #[.pointer (some ⟨p, 0, none⟩)] w fun e w' => e = .returned (.int .i64 1) ∧ Below w.heap.size w w' := by
  obtain ⟨la, lc, ma, mc, h1, h2, h3, h4⟩ := hJ.parts
  exact keepF p la ma lc mc _ _ _ B w h1 h2 h3 (by omega) (by rw [offs_len]; omega) (by rw [offs_len]; exact h0)
theorem open_S (hJ : JR B w p Rr.flatten (offs Rr) ((N : Nat) : Int)) (hRs : Rr.length ≤ 1000) (hRf : Rr.flatten.length ≤ 1000)  : Calls Try.prog 28 #[.pointer (some ⟨p, 0, none⟩)] w fun e w' => e = .returned (.bool (decide (((Rr.length : Nat) : Int) > 0))) ∧ Below w.heap.size w w' := by
  obtain ⟨la, lc, ma, mc, h1, h2, h3, h4⟩ := hJ.parts
  have h := jopen_p p _ mc ma _ _ w h1
  rw [offs_len] at h
  exact h
theorem depth_S (hJ : JR B w p Rr.flatten (offs Rr) ((N : Nat) : Int)) (hRs : Rr.length ≤ 1000) (hRf : Rr.flatten.length ≤ 1000)  : Calls Try.prog 29 #[.pointer (some ⟨p, 0, none⟩)] w fun e w' => e = .returned (.int .i64 ((Rr.length : Nat) : Int)) ∧ Below w.heap.size w w' := by
  obtain ⟨la, lc, ma, mc, h1, h2, h3, h4⟩ := hJ.parts
  have h := depth_p p la ma lc mc _ _ _ B w h1 h2 h3 (by omega) (by rw [offs_len]; omega)
  rw [offs_len] at h
  exact h
theorem jlen_S (hJ : JR B w p Rr.flatten (offs Rr) ((N : Nat) : Int)) (hRs : Rr.length ≤ 1000) (hRf : Rr.flatten.length ≤ 1000)  : Calls Try.prog 30 #[.pointer (some ⟨p, 0, none⟩)] w fun e w' => e = .returned (.int .i64 ((Rr.flatten.length : Nat) : Int)) ∧ Below w.heap.size w w' := by
  obtain ⟨la, lc, ma, mc, h1, h2, h3, h4⟩ := hJ.parts
  exact jlen_p p la ma lc mc _ _ _ B w h1 h2 h3 (by omega) (by rw [offs_len]; omega)
theorem notes_S (hJ : JR B w p Rr.flatten (offs Rr) ((N : Nat) : Int)) (hRs : Rr.length ≤ 1000) (hRf : Rr.flatten.length ≤ 1000)  : Calls Try.prog 32 #[.pointer (some ⟨p, 0, none⟩)] w fun e w' => e = .returned (.int .i64 ((N : Nat) : Int)) ∧ Below w.heap.size w w' := by
  obtain ⟨la, lc, ma, mc, h1, h2, h3, h4⟩ := hJ.parts
  exact notes_p p la ma lc mc _ _ _ B w h1 h2 h3 (by omega) (by rw [offs_len]; omega)
theorem kinds_S (hJ : JR B w p Rr.flatten (offs Rr) ((N : Nat) : Int)) (hRs : Rr.length ≤ 1000) (hRf : Rr.flatten.length ≤ 1000) (hwf : ∀ y ∈ Rr.flatten, (Lit.int .i64 y.1).wf = true) : Calls Try.prog 33 #[.pointer (some ⟨p, 0, none⟩)] w fun e w' => ∃ v, e = .returned v ∧ ∃ b, v = .map (some b) ∧ CntM Try.prog 3 3 w' b (kds Rr.flatten) ∧ Below w.heap.size w w' := by
  obtain ⟨la, lc, ma, mc, h1, h2, h3, h4⟩ := hJ.parts
  exact kinds_p p la ma lc mc _ _ _ B w h1 h2 h3 (by omega) (by rw [offs_len]; omega) hwf
theorem since_0 (hJ : JR B w p Rr.flatten (offs Rr) ((N : Nat) : Int)) (hRs : Rr.length ≤ 1000) (hRf : Rr.flatten.length ≤ 1000) (h0 : Rr.length = 0) : Calls Try.prog 35 #[.pointer (some ⟨p, 0, none⟩)] w fun e w' => e = .returned (.slice none 0 0) ∧ Below w.heap.size w w' := by
  obtain ⟨la, lc, ma, mc, h1, h2, h3, h4⟩ := hJ.parts
  exact sinceF p la ma lc mc _ _ _ B w h1 h2 h3 (by omega) (by rw [offs_len]; omega) (by rw [offs_len]; exact h0)
theorem since_S (hJ : JR B w p Rr.flatten (offs Rr) ((N : Nat) : Int)) (hRs : Rr.length ≤ 1000) (hRf : Rr.flatten.length ≤ 1000) (h0 : 0 < Rr.length) : Calls Try.prog 35 #[.pointer (some ⟨p, 0, none⟩)] w fun e w' => ∃ v, e = .returned v ∧ Row 4 vE 54 w.heap.size w' v (Rl Rr) ∧ Below w.heap.size w w' := by
  obtain ⟨la, lc, ma, mc, h1, h2, h3, h4⟩ := hJ.parts
  have h := sinceT p la ma lc mc _ _ _ B w h1 h2 h3 (by omega) (by rw [offs_len]; omega) (by rw [offs_len]; exact h0) (Rq Rr).flatten.length (offs_last h0) (by have := flat_len h0; omega)
  rw [drop_last h0] at h
  exact h
end
theorem same_to (a b : Option Addr) (l : List Ent) (n m c d : Nat) (w : World) (hl : RdS 4 vE w a l) (hm : RdS 4 vE w b l) (hlc : l.length ≤ 9223372036854775807) (h1 : n = l.length) (h2 : m = l.length) : Calls Try.prog 25 #[.slice a n c, .slice b m d] w fun e w' => e = .returned (.bool true) ∧ Below w.heap.size w w' := by
  subst h1
  subst h2
  exact same28_any a b l c d w hl hm hlc
theorem new_S28 (w : World) : Calls Try.prog 19 #[] w fun e w' => ∃ x, e = .returned x ∧ ∃ p, x = .pointer (some ⟨p, 0, none⟩) ∧ JR w.heap.size w' p ([] : List (List Ent)).flatten (offs []) ((0 : Nat) : Int) ∧ Below w.heap.size w w' :=
  (jnew_any w).mono (fun e w' h => by obtain ⟨b, h1, h2, h3, h4⟩ := h; exact ⟨_, h1, b, rfl, h3 _ (Nat.le_refl _), h4⟩)
theorem JR.lower {B B2 p : Nat} {w : World} {L : List Ent} {M : List Int} {N : Int} (h : JR B w p L M N) (hB : B2 ≤ B) : JR B2 w p L M N := by
  obtain ⟨la, lc, ma, mc, h1, h2, h3, h4⟩ := h.parts
  exact ⟨Nat.le_trans hB h4, _, _, h1, rowE (h2.rebase hB), rowM (h3.rebase hB)⟩
end Go.Proofs.Ytmcmickgllffoaa
