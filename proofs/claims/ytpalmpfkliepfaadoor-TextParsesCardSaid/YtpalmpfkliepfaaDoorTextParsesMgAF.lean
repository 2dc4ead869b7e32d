/- What is proved here: the words of a line, by the document; numbers behind names. What is proved here: numbers among words; types by name. What is proved here: what stands behind a name, by the program. What is proved here: equal instructions are the same, by the document; the example. What is proved here: what stands behind a name, by the program: rest. What is proved here: the words of a line (plain). What is proved here: a line read back (plain). What is proved here: a line read, by the program (plain part). What is proved here: a line read, by the program: text.Parse. What is proved here: the law TextLines is true. What is proved here: what the document reads off a line, and that it is what the program reads. -/
import Derived.Test.YtpalmpfkliepfaaDoorTextParsesMgAE
namespace Go.Proofs.YtpalmpfkliepfaaDoor
open Go.RowKit Ut
set_option linter.unusedVariables false
set_option linter.unusedSimpArgs false
attribute [local irreducible] infP ofP chkP rchkP

theorem ext_snoc {s : ByteArray} {a b : Nat} (h : a ≤ b) (hb : b < s.size) : bl (s.extract a (b + 1)) = bl (s.extract a b) ++ [sbt s b] := by
  rw [bl_mid, bl_mid, show b + 1 - a = (b - a) + 1 by omega, List.take_add_one, List.getElem?_drop, show a + (b - a) = b by omega, bl_get hb]; rfl
theorem ext_nil (s : ByteArray) (a : Nat) : bl (s.extract a a) = [] := by rw [bl_mid]; simp
theorem words_out {l : ByteArray} {o : List ByteArray} {a : Nat} (h : splitL (bl l) = o.map bl ++ [bl (l.extract a l.size)]) : o ++ [l.extract a l.size] = wordsS l := by
  unfold wordsS
  rw [h, List.map_append, List.map_map]
  congr 1
  · conv => lhs; rw [← List.map_id o]
    apply List.map_congr_left
    intro x _
    exact (strN_bl x).symm
  · rw [List.map_singleton, strN_bl]
theorem rowToG {α : Type} {k e base : Nat} {V : α → List Value} {w : World} {v : Value} {l l' : List α} (h : Row k V e base w v l) (he : l = l') : Row k V e base w v l' := he ▸ h

set_option maxHeartbeats 1000000 in
set_option maxRecDepth 100000 in
theorem rwords_any (s : ByteArray) (w : World) (hs : s.size ≤ 100000) : Calls Tryd.prog 31 #[(.string s)] w fun e w' => ∃ v, e = .returned v ∧ Row 1 vStr 9 w.heap.size w' v (wordsS s) ∧ Below w.heap.size w w' := by
  refine sx_enter (L := [(0, (.string s))]) Tryd.func31 rfl rfl rfl rfl (fun fa hf => ?_)
  have hb : Below w.heap.size w w := Below.refl _ _
  refine wp_seq_k (fun K1 hK1 => ?_)
  refine wp_region_lit ?_
  refine sqv hf (r_assign rfl) rfl rfl rfl ?_; clear hf fa; intro fa hf
  apply wpList_nil
  (try simp only [Exit.then, Exit.inBlock, ↓reduceIte, Nat.reduceEqDiff])
  refine hK1 _ _ ?_
  refine wp_seq_k (fun K2 hK2 => ?_)
  refine wp_region_lit ?_
  refine sqv hf (r_assign rfl) rfl rfl rfl ?_; clear hf fa; intro fa hf
  apply wpList_nil
  (try simp only [Exit.then, Exit.inBlock, ↓reduceIte, Nat.reduceEqDiff])
  refine hK2 _ _ ?_
  refine wp_seq_k (fun K3 hK3 => ?_)
  refine wp_region_lit ?_
  refine sqv hf (r_assign rfl) rfl rfl rfl ?_; clear hf fa; intro fa hf
  apply wpList_nil
  (try simp only [Exit.then, Exit.inBlock, ↓reduceIte, Nat.reduceEqDiff])
  refine hK3 _ _ ?_
  refine wp_seq_k (fun K4 hK4 => ?_)
  refine wp_seq_k (fun K5 hK5 => ?_)
  refine wp_region_lit ?_
  refine sqv hf (r_assign rfl) rfl rfl rfl ?_; clear hf fa; intro fa hf
  apply wpList_nil
  (try simp only [Exit.then, Exit.inBlock, ↓reduceIte, Nat.reduceEqDiff])
  refine hK5 _ _ ?_
  refine wp_block ?_
  refine wp_loop_k (fun mq fa wr => ∃ (k : Nat) (fr : Nat) (o : List ByteArray) (roa : Option Addr) (roc : Nat), mq = s.size - k ∧ Fr 31 fa [(0, (.string s)), (4, (.int .i64 ((fr : Nat) : Int))), (5, (.int .i64 ((k : Nat) : Int))), (3, (.slice roa o.length roc))] ∧ Below w.heap.size w wr ∧ Row 1 vStr 9 (w.heap.size) wr (.slice roa (o.length) roc) o ∧ (k ≤ s.size) ∧ (fr ≤ k) ∧ (o.length ≤ k) ∧ (splitL (bl s) = o.map bl ++ splitA (bl (s.extract fr k)) ((bl s).drop k))) ?_ ?_
  · skip
    exact ⟨_, 0, 0, [], none, 0, rfl, hf.sub ⟨rfl, (some_int (by first | rfl | omega)), (some_int (by first | rfl | omega)), (some_sl (by first | omega | rfl | (simp only [List.length_append, List.length_cons, List.length_nil]; omega) | (simp <;> omega)) rfl), trivial⟩, hb, Row.nil, by omega, by omega, by simp, (by rw [ext_nil]; rfl)⟩
  · skip
    clear hf fa; intro mq1 fa w1 hI KL1 hKL1
    clear hb
    obtain ⟨k, fr, o, roa, roc, hmq1, hf, hb, hro, hk, hfr, hlo, HW⟩ := hI
    have hcro := Row.caps hro
    refine wp_seq_k (fun K6 hK6 => ?_)
    refine wp_seq_k (fun K7 hK7 => ?_)
    refine wp_region_lit ?_
    refine sqv hf (r_move rfl) rfl rfl rfl ?_; clear hf fa; intro fa hf
    refine sqv hf (r_move rfl) rfl rfl rfl ?_; clear hf fa; intro fa hf
    refine sqv hf (r_lens rfl Tryd.underlying9) rfl rfl rfl ?_; clear hf fa; intro fa hf
    refine sqv hf (r_lt rfl rfl) rfl rfl rfl ?_; clear hf fa; intro fa hf
    apply wpList_nil
    (try simp only [Exit.then, Exit.inBlock, ↓reduceIte, Nat.reduceEqDiff])
    refine hK7 _ _ ?_
    refine wp_cond_split (t := (decide (((k : Nat) : Int) < ((s.size : Nat) : Int)))) (hf.ev rfl) (fun hqt9_1 => ?_) (fun hqt9_1 => ?_)
    · have hqt9_1b := hqt9_1
      try simp only [decide_eq_true_eq, Bool.and_eq_true, Bool.or_eq_true, Bool.not_eq_true', decide_eq_false_iff_not, ne_eq, Bool.not_eq_true] at hqt9_1
      refine wp_skip ?_
      (try simp only [Exit.then, Exit.inBlock, ↓reduceIte, Nat.reduceEqDiff])
      refine hK6 _ _ ?_
      refine wp_seq_k (fun K8 hK8 => ?_)
      refine wp_block ?_
      refine wp_seq_k (fun K9 hK9 => ?_)
      refine wp_region_lit ?_
      refine sqv hf (r_move rfl) rfl rfl rfl ?_; clear hf fa; intro fa hf
      refine sqv hf (r_move rfl) rfl rfl rfl ?_; clear hf fa; intro fa hf
      refine sqv hf (r_sindexD (j := k) rfl rfl Tryd.underlying9 rfl (by omega)) rfl rfl rfl ?_; clear hf fa; intro fa hf
      refine sqv hf (r_eq rfl rfl) rfl rfl rfl ?_; clear hf fa; intro fa hf
      apply wpList_nil
      (try simp only [Exit.then, Exit.inBlock, ↓reduceIte, Nat.reduceEqDiff])
      refine hK9 _ _ ?_
      refine wp_cond_split (t := (decide (((sbt s k : Nat) : Int) = (32 : Int)))) (hf.ev rfl) (fun hqt15_1 => ?_) (fun hqt15_1 => ?_)
      · have hqt15_1b := hqt15_1
        try simp only [decide_eq_true_eq, Bool.and_eq_true, Bool.or_eq_true, Bool.not_eq_true', decide_eq_false_iff_not, ne_eq, Bool.not_eq_true] at hqt15_1
        refine wp_seq_k (fun K10 hK10 => ?_)
        refine wp_region_lit ?_
        refine sqv hf (r_move rfl) rfl rfl rfl ?_; clear hf fa; intro fa hf
        refine sqv hf (r_move rfl) rfl rfl rfl ?_; clear hf fa; intro fa hf
        refine sqv hf (r_move rfl) rfl rfl rfl ?_; clear hf fa; intro fa hf
        refine sqv hf (r_move rfl) rfl rfl rfl ?_; clear hf fa; intro fa hf
        refine sqv hf (r_sslice (a := fr) (b := k) (k1 := .i64) (k2 := .i64) (A := ((fr : Nat) : Int)) (B := ((k : Nat) : Int)) rfl Tryd.underlying9 (.inr ⟨_, rfl, rfl, rfl⟩) (.inr ⟨_, rfl, rfl, rfl⟩) (by omega) (by omega)) rfl rfl rfl ?_; clear hf fa; intro fa hf
        refine sqdt hf (d_bslice (z := (.string ⟨#[]⟩)) (sz := 1) (vs := [(0, (.string (s.extract fr k)))]) (cs := #[(.string (s.extract fr k))]) rfl Tryd.underlying43 (by kernel_rfl) rfl (by kernel_rfl)) rfl rfl rfl ?_; clear hf fa; rintro fa _ w2 ⟨b1, rfl, hle1, hk1, he1⟩ hf
        have hBb1 : w.heap.size ≤ b1 := Nat.le_trans hb.size hle1
        have hnr1 : (Value.slice roa (o.length) roc).ownBlock ≠ some b1 := fun hq => by have := (Row.lt hro _ hq).2; omega
        have hnl1 : ∀ q, (Value.slice roa (o.length) roc).ownBlock = some q → q < b1 := fun q hq => Nat.lt_of_lt_of_le (Row.lt hro q hq).2 hle1
        replace hro := Row.ext hro he1
        replace hb := hb.trans (Below.mono he1 hb.size)
        have hs1 := Row.rd (by intros; rfl) (Row.of_new (k := 1) (V := vStr) (l := [(s.extract fr k)]) hk1 (Nat.le_refl _) rfl rfl (Nat.le_of_ble_eq_true rfl))
        refine sqdt hf (d_append (V := vStr) (k := 1) (e := 9) (bytes := 16) (z := (.string ⟨#[]⟩)) (news := [(s.extract fr k)]) (base := w.heap.size) (by intros; rfl) (by intro x u hu; simp only [vStr, List.mem_singleton] at hu; subst hu; rfl) rfl rfl Tryd.underlying43 (by kernel_rfl) rfl rfl rfl hro hs1 rfl (fun h => by cases h) (by first | omega | (simp only [List.length_cons, List.length_nil, List.length_append, nums_len]; omega)) (by have := hb.size; omega)) rfl rfl rfl ?_; clear hf fa; rintro fa v w3 ⟨hr1, hg1⟩ hf; obtain ⟨ra1, rc1, rfl, hcrc1, hmrc1⟩ := Row.slice hr1
        replace hb := hb.trans (row_below hro hg1 hb.size (by have := hb.size; omega))
        refine sqv hf (r_assign rfl) rfl rfl rfl ?_; clear hf fa; intro fa hf
        apply wpList_nil
        (try simp only [Exit.then, Exit.inBlock, ↓reduceIte, Nat.reduceEqDiff])
        refine hK10 _ _ ?_
        refine wp_region_lit ?_
        refine sqv hf (r_move rfl) rfl rfl rfl ?_; clear hf fa; intro fa hf
        refine sqv hf (r_add (C := (((k : Nat) : Int) + (1 : Int))) rfl rfl (by rw [IntKind.wrap_i64]; omega)) rfl rfl rfl ?_; clear hf fa; intro fa hf
        refine sqv hf (r_assign rfl) rfl rfl rfl ?_; clear hf fa; intro fa hf
        apply wpList_nil
        (try simp only [Exit.then, Exit.inBlock, ↓reduceIte, Nat.reduceEqDiff])
        refine hK8 _ _ ?_
        refine wp_region_lit ?_
        refine sqv hf (r_move rfl) rfl rfl rfl ?_; clear hf fa; intro fa hf
        refine sqv hf (r_add (C := (((k : Nat) : Int) + (1 : Int))) rfl rfl (by rw [IntKind.wrap_i64]; omega)) rfl rfl rfl ?_; clear hf fa; intro fa hf
        refine sqv hf (r_assign rfl) rfl rfl rfl ?_; clear hf fa; intro fa hf
        apply wpList_nil
        (try simp only [Exit.then, Exit.inBlock, ↓reduceIte, Nat.reduceEqDiff])
        refine hKL1 _ _ _ (by omega) ⟨(k + 1), (k + 1), (o ++ [s.extract fr k]), ra1, rc1, rfl, hf.sub ⟨rfl, (some_int (by first | rfl | omega)), (some_int (by first | rfl | omega)), (some_sl (by first | omega | rfl | (simp only [List.length_append, List.length_cons, List.length_nil]; omega) | (simp <;> omega)) rfl), trivial⟩, hb, (Row.relen hr1), by omega, by omega, (by rw [List.length_append]; simp; omega), (by rw [HW, bl_dropc s k (by omega), splitA, if_pos (by have h := hqt15_1; omega), ext_nil, List.map_append]; simp)⟩
      · have hqt15_1b := hqt15_1
        replace hqt15_1 := Bool.eq_false_iff.1 hqt15_1
        try simp only [ne_eq, decide_eq_true_eq, Bool.and_eq_true, Bool.or_eq_true, Bool.not_eq_true', decide_eq_false_iff_not] at hqt15_1
        refine wp_skip ?_
        (try simp only [Exit.then, Exit.inBlock, ↓reduceIte, Nat.reduceEqDiff])
        refine hK8 _ _ ?_
        refine wp_region_lit ?_
        refine sqv hf (r_move rfl) rfl rfl rfl ?_; clear hf fa; intro fa hf
        refine sqv hf (r_add (C := (((k : Nat) : Int) + (1 : Int))) rfl rfl (by rw [IntKind.wrap_i64]; omega)) rfl rfl rfl ?_; clear hf fa; intro fa hf
        refine sqv hf (r_assign rfl) rfl rfl rfl ?_; clear hf fa; intro fa hf
        apply wpList_nil
        (try simp only [Exit.then, Exit.inBlock, ↓reduceIte, Nat.reduceEqDiff])
        refine hKL1 _ _ _ (by omega) ⟨(k + 1), fr, o, roa, roc, rfl, hf.sub ⟨rfl, rfl, (some_int (by first | rfl | omega)), rfl, trivial⟩, hb, (Row.relen hro), by omega, by omega, by omega, (by rw [HW, bl_dropc s k (by omega), splitA, if_neg (by have h := hqt15_1; omega), ext_snoc (by omega) (by omega)])⟩
    · have hqt9_1b := hqt9_1
      replace hqt9_1 := Bool.eq_false_iff.1 hqt9_1
      try simp only [ne_eq, decide_eq_true_eq, Bool.and_eq_true, Bool.or_eq_true, Bool.not_eq_true', decide_eq_false_iff_not] at hqt9_1
      refine wp_exit ?_
      (try simp only [Exit.then, Exit.inBlock, ↓reduceIte, Nat.reduceEqDiff])
      refine hK4 _ _ ?_
      refine wp_seq_k (fun K11 hK11 => ?_)
      refine wp_region_lit ?_
      refine sqv hf (r_move rfl) rfl rfl rfl ?_; clear hf fa; intro fa hf
      refine sqv hf (r_move rfl) rfl rfl rfl ?_; clear hf fa; intro fa hf
      refine sqv hf (r_move rfl) rfl rfl rfl ?_; clear hf fa; intro fa hf
      refine sqv hf (r_sslice (a := fr) (b := s.size) (k1 := .i64) (k2 := .i64) (A := ((fr : Nat) : Int)) (B := 0) rfl Tryd.underlying9 (.inr ⟨_, rfl, rfl, rfl⟩) (.inl ⟨rfl, rfl⟩) (by omega) (by omega)) rfl rfl rfl ?_; clear hf fa; intro fa hf
      refine sqdt hf (d_bslice (z := (.string ⟨#[]⟩)) (sz := 1) (vs := [(0, (.string (s.extract fr s.size)))]) (cs := #[(.string (s.extract fr s.size))]) rfl Tryd.underlying43 (by kernel_rfl) rfl (by kernel_rfl)) rfl rfl rfl ?_; clear hf fa; rintro fa _ w4 ⟨b2, rfl, hle2, hk2, he2⟩ hf
      have hBb2 : w.heap.size ≤ b2 := Nat.le_trans hb.size hle2
      have hnr2 : (Value.slice roa (o.length) roc).ownBlock ≠ some b2 := fun hq => by have := (Row.lt hro _ hq).2; omega
      have hnl2 : ∀ q, (Value.slice roa (o.length) roc).ownBlock = some q → q < b2 := fun q hq => Nat.lt_of_lt_of_le (Row.lt hro q hq).2 hle2
      replace hro := Row.ext hro he2
      replace hb := hb.trans (Below.mono he2 hb.size)
      have hs2 := Row.rd (by intros; rfl) (Row.of_new (k := 1) (V := vStr) (l := [(s.extract fr s.size)]) hk2 (Nat.le_refl _) rfl rfl (Nat.le_of_ble_eq_true rfl))
      refine sqdt hf (d_append (V := vStr) (k := 1) (e := 9) (bytes := 16) (z := (.string ⟨#[]⟩)) (news := [(s.extract fr s.size)]) (base := w.heap.size) (by intros; rfl) (by intro x u hu; simp only [vStr, List.mem_singleton] at hu; subst hu; rfl) rfl rfl Tryd.underlying43 (by kernel_rfl) rfl rfl rfl hro hs2 rfl (fun h => by cases h) (by first | omega | (simp only [List.length_cons, List.length_nil, List.length_append, nums_len]; omega)) (by have := hb.size; omega)) rfl rfl rfl ?_; clear hf fa; rintro fa v w5 ⟨hr2, hg2⟩ hf; obtain ⟨ra2, rc2, rfl, hcrc2, hmrc2⟩ := Row.slice hr2
      replace hb := hb.trans (row_below hro hg2 hb.size (by have := hb.size; omega))
      refine sqv hf (r_assign rfl) rfl rfl rfl ?_; clear hf fa; intro fa hf
      apply wpList_nil
      (try simp only [Exit.then, Exit.inBlock, ↓reduceIte, Nat.reduceEqDiff])
      refine hK11 _ _ ?_
      refine wp_ret ?_
      (try simp only [Exit.then, Exit.inBlock])
      refine ret1 hf rfl rfl ?_
      have hks : k = s.size := by omega
      have HW2 : splitL (bl s) = o.map bl ++ [bl (s.extract fr s.size)] := by rw [HW, hks, List.drop_eq_nil_of_le (by rw [bl_length]; omega)]; rfl
      exact ⟨_, rfl, rowToG hr2 (words_out HW2), hb⟩
end Go.Proofs.YtpalmpfkliepfaaDoor

namespace Go.Proofs.YtpalmpfkliepfaaDoor
open Go.RowKit Ut
set_option linter.unusedVariables false
set_option linter.unusedSimpArgs false
attribute [local irreducible] infP ofP chkP rchkP

def uA (n : Int) : Int := if n < 0 then n + 18446744073709551616 else n
theorem wrap_uA {n : Int} (h : inI n) : IntKind.wrap .u64 n = uA n := by unfold uA inI at *; rw [IntKind.wrap_u64]; split <;> omega
theorem numP_in (l : List Nat) : inI (numP l).1 := by
  cases h : (numP l).2 with
  | false => rw [numP_no h]; unfold inI; decide
  | true => exact (numP_yes (n := (numP l).1) (by rw [← h])).1
def tailP (s h : ByteArray) : Int := if ((s.size : Nat) : Int) < ((h.size : Nat) : Int) ∨ ¬ s.extract 0 h.size = h then 0 else uA (numP (bl (s.extract h.size s.size))).1
def bytL : List Int := [127, 126, 125, 124, 112]
def bytO (j : Nat) : Int := bytL.getD j 0
theorem bytO_at {j : Nat} (h : j < 5) : bytL[j]? = some (bytO j) := by
  unfold bytO
  exact getD_at (l := bytL) (j := j) _ h
def bytR (s : ByteArray) : Nat → Nat → Int
  | 0, _ => 0
  | f + 1, i => if tnameP (bytO i) = s then bytO i else bytR s f (i + 1)
def bytP (s : ByteArray) : Int := bytR s 5 0
def okN (y : ByteArray) : Bool := (numP (bl y)).2 && decide (0 ≤ (numP (bl y)).1 ∧ (numP (bl y)).1 < 4294967296)
def nbsA (o : List Int) : List ByteArray → List Int × Bool
  | [] => (o, true)
  | y :: l => if okN y = true then nbsA (o ++ [(numP (bl y)).1]) l else ([], false)
def nbsP (W : List ByteArray) : List Int × Bool := nbsA [] W
theorem drop_atH {α : Type} {l : List α} {k : Nat} {y : α} (h : l[k]? = some y) : l.drop k = y :: l.drop (k + 1) := by
  obtain ⟨hk, rfl⟩ := List.getElem?_eq_some_iff.1 h
  exact List.drop_eq_getElem_cons hk
theorem nbsA_len (W : List ByteArray) : ∀ o, (nbsA o W).1.length ≤ o.length + W.length := by
  induction W with
  | nil => intro o; exact Nat.le_refl _
  | cons y l ih =>
    intro o
    rw [nbsA]
    split
    · have := ih (o ++ [(numP (bl y)).1]); simp only [List.length_append, List.length_cons, List.length_nil] at this ⊢; omega
    · exact Nat.zero_le _

set_option maxHeartbeats 1000000 in
set_option maxRecDepth 100000 in
theorem rtail_any (s hd : ByteArray) (w : World) (hs : s.size ≤ 100000) (hh : hd.size ≤ 100000) : Calls Tryd.prog 33 #[(.string s), (.string hd)] w fun e w' => e = .returned (.int .u64 (tailP s hd)) ∧ Below w.heap.size w w' := by
  refine sx_enter (L := [(0, (.string s)), (1, (.string hd))]) Tryd.func33 rfl rfl rfl rfl (fun fa hf => ?_)
  have hb : Below w.heap.size w w := Below.refl _ _
  refine wp_seq_k (fun K1 hK1 => ?_)
  refine wp_region_lit ?_
  refine sqv hf (r_assign rfl) rfl rfl rfl ?_; clear hf fa; intro fa hf
  apply wpList_nil
  (try simp only [Exit.then, Exit.inBlock, ↓reduceIte, Nat.reduceEqDiff])
  refine hK1 _ _ ?_
  refine wp_seq_k (fun K2 hK2 => ?_)
  refine wp_seq_k (fun K3 hK3 => ?_)
  refine wp_region_lit ?_
  refine sqv hf (r_move rfl) rfl rfl rfl ?_; clear hf fa; intro fa hf
  refine sqv hf (r_lens rfl Tryd.underlying9) rfl rfl rfl ?_; clear hf fa; intro fa hf
  refine sqv hf (r_move rfl) rfl rfl rfl ?_; clear hf fa; intro fa hf
  refine sqv hf (r_lens rfl Tryd.underlying9) rfl rfl rfl ?_; clear hf fa; intro fa hf
  refine sqv hf (r_lt rfl rfl) rfl rfl rfl ?_; clear hf fa; intro fa hf
  refine sqv hf (r_move rfl) rfl rfl rfl ?_; clear hf fa; intro fa hf
  refine sqgF (act := (!(decide (((s.size : Nat) : Int) < ((hd.size : Nat) : Int))))) (ag := true) (c := (decide (((s.size : Nat) : Int) < ((hd.size : Nat) : Int)))) (v := (.string s)) hf rfl rfl rfl (fun hact => (r_move rfl)) rfl rfl ?_; clear hf fa; intro fa hf
  refine sqgF (act := (!(decide (((s.size : Nat) : Int) < ((hd.size : Nat) : Int))))) (ag := true) (c := (decide (((s.size : Nat) : Int) < ((hd.size : Nat) : Int)))) (v := (.string hd)) hf rfl rfl rfl (fun hact => (r_move rfl)) rfl rfl ?_; clear hf fa; intro fa hf
  refine sqgF (act := (!(decide (((s.size : Nat) : Int) < ((hd.size : Nat) : Int))))) (ag := true) (c := (decide (((s.size : Nat) : Int) < ((hd.size : Nat) : Int)))) (v := (.int .i64 ((hd.size : Nat) : Int))) hf rfl rfl rfl (fun hact => (r_lens (gb_ev hact rfl) Tryd.underlying9)) rfl rfl ?_; clear hf fa; intro fa hf
  refine sqgF (act := (!(decide (((s.size : Nat) : Int) < ((hd.size : Nat) : Int))))) (ag := true) (c := (decide (((s.size : Nat) : Int) < ((hd.size : Nat) : Int)))) (v := (.string (s.extract 0 hd.size))) hf rfl rfl rfl (fun hact => (by have hact0 := hact; (try simp only [Bool.and_eq_true, Bool.not_eq_true', Bool.or_eq_false_iff, Bool.or_eq_true, Bool.and_eq_false_iff, ne_eq, decide_eq_true_eq, decide_eq_false_iff_not] at hact0); exact (r_sslice (a := 0) (b := hd.size) (k1 := .i64) (k2 := .i64) (A := 0) (B := ((hd.size : Nat) : Int)) (gb_ev hact rfl) Tryd.underlying9 (.inl ⟨rfl, rfl⟩) (.inr ⟨_, rfl, (gb_ev hact rfl), rfl⟩) (by omega) (by omega)))) rfl rfl ?_; clear hf fa; intro fa hf
  refine sqgF (act := (!(decide (((s.size : Nat) : Int) < ((hd.size : Nat) : Int))))) (ag := true) (c := (decide (((s.size : Nat) : Int) < ((hd.size : Nat) : Int)))) (v := (.string hd)) hf rfl rfl rfl (fun hact => (r_move rfl)) rfl rfl ?_; clear hf fa; intro fa hf
  refine sqgF (act := (!(decide (((s.size : Nat) : Int) < ((hd.size : Nat) : Int))))) (ag := true) (c := (decide (((s.size : Nat) : Int) < ((hd.size : Nat) : Int)))) (v := (.bool (decide ((s.extract 0 hd.size) ≠ hd)))) hf rfl rfl rfl (fun hact => (r_sne (gb_ev hact rfl) (gb_ev hact rfl))) rfl rfl ?_; clear hf fa; intro fa hf
  refine sqv hf (r_pickO (b := (decide (((s.size : Nat) : Int) < ((hd.size : Nat) : Int)))) (e := (decide ((s.extract 0 hd.size) ≠ hd))) rfl rfl rfl) rfl rfl rfl ?_; clear hf fa; intro fa hf
  apply wpList_nil
  (try simp only [Exit.then, Exit.inBlock, ↓reduceIte, Nat.reduceEqDiff])
  refine hK3 _ _ ?_
  refine wp_cond_split (t := ((decide (((s.size : Nat) : Int) < ((hd.size : Nat) : Int))) || (decide ((s.extract 0 hd.size) ≠ hd)))) (hf.ev rfl) (fun hqt19_1 => ?_) (fun hqt19_1 => ?_)
  · have hqt19_1b := hqt19_1
    try simp only [decide_eq_true_eq, Bool.and_eq_true, Bool.or_eq_true, Bool.not_eq_true', decide_eq_false_iff_not, ne_eq, Bool.not_eq_true] at hqt19_1
    refine wp_seq_k (fun K4 hK4 => ?_)
    refine wp_region_lit ?_
    refine sqv hf (r_assign rfl) rfl rfl rfl ?_; clear hf fa; intro fa hf
    apply wpList_nil
    (try simp only [Exit.then, Exit.inBlock, ↓reduceIte, Nat.reduceEqDiff])
    refine hK4 _ _ ?_
    refine wp_ret ?_
    (try simp only [Exit.then, Exit.inBlock])
    refine ret1 hf rfl rfl ?_
    refine ⟨congrArg (fun n => Ending.returned (.int .u64 n)) ?_, hb⟩; unfold tailP; rw [if_pos hqt19_1]
  · have hqt19_1b := hqt19_1
    replace hqt19_1 := Bool.eq_false_iff.1 hqt19_1
    try simp only [ne_eq, decide_eq_true_eq, Bool.and_eq_true, Bool.or_eq_true, Bool.not_eq_true', decide_eq_false_iff_not] at hqt19_1
    refine wp_skip ?_
    (try simp only [Exit.then, Exit.inBlock, ↓reduceIte, Nat.reduceEqDiff])
    refine hK2 _ _ ?_
    refine wp_seq_k (fun K5 hK5 => ?_)
    refine wp_region_lit ?_
    refine sqv hf (r_move rfl) rfl rfl rfl ?_; clear hf fa; intro fa hf
    refine sqv hf (r_move rfl) rfl rfl rfl ?_; clear hf fa; intro fa hf
    refine sqv hf (r_lens rfl Tryd.underlying9) rfl rfl rfl ?_; clear hf fa; intro fa hf
    refine sqv hf (r_sslice (a := hd.size) (b := s.size) (k1 := .i64) (k2 := .i64) (A := ((hd.size : Nat) : Int)) (B := 0) rfl Tryd.underlying9 (.inr ⟨_, rfl, rfl, rfl⟩) (.inl ⟨rfl, rfl⟩) (by omega) (by omega)) rfl rfl rfl ?_; clear hf fa; intro fa hf
    refine sqdt hf (d_callB (vs := [(.string (s.extract hd.size s.size))]) rfl Tryd.func59 (by kernel_rfl) (by kernel_rfl) (rnumber_any (s.extract hd.size s.size) _ (by rw [ByteArray.size_extract]; omega))) rfl rfl rfl ?_; clear hf fa; rintro fa _ w1 ⟨rfl, he1⟩ hf
    replace hb := hb.trans (Below.mono he1 hb.size)
    refine sqv hf (r_move rfl) rfl rfl rfl ?_; clear hf fa; intro fa hf
    refine sqv hf (r_extract rfl (i := 0) rfl) rfl rfl rfl ?_; clear hf fa; intro fa hf
    refine sqv hf (r_extract rfl (i := 1) rfl) rfl rfl rfl ?_; clear hf fa; intro fa hf
    refine sqv hf (r_assign rfl) rfl rfl rfl ?_; clear hf fa; intro fa hf
    refine sqv hf (r_assign rfl) rfl rfl rfl ?_; clear hf fa; intro fa hf
    apply wpList_nil
    (try simp only [Exit.then, Exit.inBlock, ↓reduceIte, Nat.reduceEqDiff])
    refine hK5 _ _ ?_
    refine wp_seq_k (fun K6 hK6 => ?_)
    refine wp_region_lit ?_
    refine sqv hf (r_move rfl) rfl rfl rfl ?_; clear hf fa; intro fa hf
    refine sqv hf (r_conv (C := ((uA (numP (bl (s.extract hd.size s.size))).1))) rfl Tryd.underlying3 Tryd.underlying22 (wrap_uA (numP_in _))) rfl rfl rfl ?_; clear hf fa; intro fa hf
    refine sqv hf (r_assign rfl) rfl rfl rfl ?_; clear hf fa; intro fa hf
    apply wpList_nil
    (try simp only [Exit.then, Exit.inBlock, ↓reduceIte, Nat.reduceEqDiff])
    refine hK6 _ _ ?_
    refine wp_ret ?_
    (try simp only [Exit.then, Exit.inBlock])
    refine ret1 hf rfl rfl ?_
    refine ⟨congrArg (fun n => Ending.returned (.int .u64 n)) ?_, hb⟩; unfold tailP; rw [if_neg hqt19_1]

set_option maxHeartbeats 1000000 in
set_option maxRecDepth 100000 in
theorem byte_any (s : ByteArray) (w : World) : Calls Tryd.prog 54 #[(.string s)] w fun e w' => e = .returned (.int .u8 (bytP s)) ∧ Below w.heap.size w w' := by
  refine sx_enter (L := [(0, (.string s))]) Tryd.func54 rfl rfl rfl rfl (fun fa hf => ?_)
  have hb : Below w.heap.size w w := Below.refl _ _
  refine wp_seq_k (fun K1 hK1 => ?_)
  refine wp_region_lit ?_
  refine sqv hf (r_assign rfl) rfl rfl rfl ?_; clear hf fa; intro fa hf
  apply wpList_nil
  (try simp only [Exit.then, Exit.inBlock, ↓reduceIte, Nat.reduceEqDiff])
  refine hK1 _ _ ?_
  refine wp_seq_k (fun K2 hK2 => ?_)
  refine wp_seq_k (fun K3 hK3 => ?_)
  refine wp_region_lit ?_
  refine sqdt hf (d_bslice (z := (.int .u8 (0 : Int))) (sz := 1) (vs := [(0, (.int .u8 (127 : Int))), (1, (.int .u8 (126 : Int))), (2, (.int .u8 (125 : Int))), (3, (.int .u8 (124 : Int))), (4, (.int .u8 (112 : Int)))]) (cs := #[(.int .u8 (127 : Int)), (.int .u8 (126 : Int)), (.int .u8 (125 : Int)), (.int .u8 (124 : Int)), (.int .u8 (112 : Int))]) rfl Tryd.underlying87 (by kernel_rfl) rfl (by kernel_rfl)) rfl rfl rfl ?_; clear hf fa; rintro fa _ w1 ⟨b1, rfl, hle1, hk1, he1⟩ hf
  have hBb1 : w.heap.size ≤ b1 := Nat.le_trans hb.size hle1
  replace hb := hb.trans (Below.mono he1 hb.size)
  have hr1 := Row.of_new (k := 1) (V := (vInt .u8)) (l := [(127 : Int), (126 : Int), (125 : Int), (124 : Int), (112 : Int)]) (base := w.heap.size) hk1 (by omega) rfl rfl (Nat.le_of_ble_eq_true rfl)
  refine sqv hf (r_lensl rfl Tryd.underlying87) rfl rfl rfl ?_; clear hf fa; intro fa hf
  refine sqv hf (r_move rfl) rfl rfl rfl ?_; clear hf fa; intro fa hf
  apply wpList_nil
  (try simp only [Exit.then, Exit.inBlock, ↓reduceIte, Nat.reduceEqDiff])
  refine hK3 _ _ ?_
  refine wp_block ?_
  refine wp_loop_k (fun mq fa wr => ∃ (k : Nat), mq = 5 - k ∧ Fr 17 fa [(0, (.string s)), (6, (.int .i64 (5 : Int))), (7, (.int .i64 ((k : Nat) : Int))), (5, (.slice (some ⟨b1, 0, none⟩) 5 5))] ∧ Below w.heap.size w wr ∧ Row 1 (vInt .u8) 5 (w.heap.size) wr (.slice (some ⟨b1, 0, none⟩) (5) 5) [(127 : Int), (126 : Int), (125 : Int), (124 : Int), (112 : Int)] ∧ (k ≤ 5) ∧ (bytP s = bytR s (5 - k) k)) ?_ ?_
  · skip
    exact ⟨_, 0, rfl, hf.sub ⟨rfl, rfl, (some_int (by first | rfl | omega)), rfl, trivial⟩, hb, hr1, by omega, rfl⟩
  · skip
    clear hf fa; intro mq1 fa w2 hI KL1 hKL1
    clear hb
    clear hr1
    obtain ⟨k, hmq1, hf, hb, hrhr1, hk, Hs⟩ := hI
    have hcrhr1 := Row.caps hrhr1
    refine wp_seq_k (fun K4 hK4 => ?_)
    refine wp_region_lit ?_
    refine sqv hf (r_lt rfl rfl) rfl rfl rfl ?_; clear hf fa; intro fa hf
    apply wpList_nil
    (try simp only [Exit.then, Exit.inBlock, ↓reduceIte, Nat.reduceEqDiff])
    refine hK4 _ _ ?_
    refine wp_seq_k (fun K5 hK5 => ?_)
    refine wp_cond_split (t := (decide (((k : Nat) : Int) < (5 : Int)))) (hf.ev rfl) (fun hqt8_1 => ?_) (fun hqt8_1 => ?_)
    · have hqt8_1b := hqt8_1
      try simp only [decide_eq_true_eq, Bool.and_eq_true, Bool.or_eq_true, Bool.not_eq_true', decide_eq_false_iff_not, ne_eq, Bool.not_eq_true] at hqt8_1
      refine wp_skip ?_
      (try simp only [Exit.then, Exit.inBlock, ↓reduceIte, Nat.reduceEqDiff])
      refine hK5 _ _ ?_
      refine wp_seq_k (fun K6 hK6 => ?_)
      refine wp_block ?_
      refine wp_seq_k (fun K7 hK7 => ?_)
      refine wp_region_lit ?_
      have hy1 : ([(127 : Int), (126 : Int), (125 : Int), (124 : Int), (112 : Int)])[k]? = some (bytO k) := (bytO_at (by omega))
      have hel1 := RdS.at (Row.rd (by intros; rfl) hrhr1) hy1
      obtain ⟨_, _, hab, hlr1, hel1⟩ := hel1
      cases hab
      refine sqv hf (r_ixa (sz := 1) (j := k) rfl rfl Tryd.underlying87 (by kernel_rfl) rfl (by omega) rfl) rfl rfl rfl ?_; clear hf fa; intro fa hf
      refine sqv hf (r_load (v := (.int .u8 ((bytO k)))) rfl Tryd.underlying5 rfl (cellsAt_cell hel1 (i := 0) rfl rfl)) rfl rfl rfl ?_; clear hf fa; intro fa hf
      refine sqv hf (r_assign rfl) rfl rfl rfl ?_; clear hf fa; intro fa hf
      apply wpList_nil
      (try simp only [Exit.then, Exit.inBlock, ↓reduceIte, Nat.reduceEqDiff])
      refine hK7 _ _ ?_
      refine wp_seq_k (fun K8 hK8 => ?_)
      refine wp_region_lit ?_
      refine sqv hf (r_move rfl) rfl rfl rfl ?_; clear hf fa; intro fa hf
      refine sqdt hf (d_callB (vs := [(.int .u8 ((bytO k)))]) rfl Tryd.func74 (by kernel_rfl) (by kernel_rfl) (tname_any ((bytO k)) _)) rfl rfl rfl ?_; clear hf fa; rintro fa _ w3 ⟨rfl, he2⟩ hf
      replace hrhr1 := Row.ext hrhr1 he2
      replace hb := hb.trans (Below.mono he2 hb.size)
      refine sqv hf (r_move rfl) rfl rfl rfl ?_; clear hf fa; intro fa hf
      refine sqv hf (r_seq rfl rfl) rfl rfl rfl ?_; clear hf fa; intro fa hf
      apply wpList_nil
      (try simp only [Exit.then, Exit.inBlock, ↓reduceIte, Nat.reduceEqDiff])
      refine hK8 _ _ ?_
      refine wp_cond_split (t := (decide ((tnameP ((bytO k))) = s))) (hf.ev rfl) (fun hqt14_1 => ?_) (fun hqt14_1 => ?_)
      · have hqt14_1b := hqt14_1
        try simp only [decide_eq_true_eq, Bool.and_eq_true, Bool.or_eq_true, Bool.not_eq_true', decide_eq_false_iff_not, ne_eq, Bool.not_eq_true] at hqt14_1
        refine wp_seq_k (fun K9 hK9 => ?_)
        refine wp_region_lit ?_
        refine sqv hf (r_move rfl) rfl rfl rfl ?_; clear hf fa; intro fa hf
        refine sqv hf (r_assign rfl) rfl rfl rfl ?_; clear hf fa; intro fa hf
        apply wpList_nil
        (try simp only [Exit.then, Exit.inBlock, ↓reduceIte, Nat.reduceEqDiff])
        refine hK9 _ _ ?_
        refine wp_ret ?_
        (try simp only [Exit.then, Exit.inBlock])
        refine ret1 hf rfl rfl ?_
        refine ⟨congrArg (fun n => Ending.returned (.int .u8 n)) ?_, hb⟩; rw [Hs, show 5 - k = (5 - (k + 1)) + 1 by omega, bytR, if_pos hqt14_1]
      · have hqt14_1b := hqt14_1
        replace hqt14_1 := Bool.eq_false_iff.1 hqt14_1
        try simp only [ne_eq, decide_eq_true_eq, Bool.and_eq_true, Bool.or_eq_true, Bool.not_eq_true', decide_eq_false_iff_not] at hqt14_1
        refine wp_skip ?_
        (try simp only [Exit.then, Exit.inBlock, ↓reduceIte, Nat.reduceEqDiff])
        refine hK6 _ _ ?_
        refine wp_region_lit ?_
        refine sqv hf (r_add (C := (((k : Nat) : Int) + (1 : Int))) rfl rfl (by rw [IntKind.wrap_i64]; omega)) rfl rfl rfl ?_; clear hf fa; intro fa hf
        refine sqv hf (r_move rfl) rfl rfl rfl ?_; clear hf fa; intro fa hf
        apply wpList_nil
        (try simp only [Exit.then, Exit.inBlock, ↓reduceIte, Nat.reduceEqDiff])
        refine hKL1 _ _ _ (by omega) ⟨(k + 1), rfl, hf.sub ⟨rfl, rfl, (some_int (by first | rfl | omega)), rfl, trivial⟩, hb, hrhr1, by omega, (by rw [Hs, show 5 - k = (5 - (k + 1)) + 1 by omega, bytR, if_neg hqt14_1])⟩
    · have hqt8_1b := hqt8_1
      replace hqt8_1 := Bool.eq_false_iff.1 hqt8_1
      try simp only [ne_eq, decide_eq_true_eq, Bool.and_eq_true, Bool.or_eq_true, Bool.not_eq_true', decide_eq_false_iff_not] at hqt8_1
      refine wp_exit ?_
      (try simp only [Exit.then, Exit.inBlock, ↓reduceIte, Nat.reduceEqDiff])
      refine hK2 _ _ ?_
      refine wp_seq_k (fun K10 hK10 => ?_)
      refine wp_region_lit ?_
      refine sqv hf (r_assign rfl) rfl rfl rfl ?_; clear hf fa; intro fa hf
      apply wpList_nil
      (try simp only [Exit.then, Exit.inBlock, ↓reduceIte, Nat.reduceEqDiff])
      refine hK10 _ _ ?_
      refine wp_ret ?_
      (try simp only [Exit.then, Exit.inBlock])
      refine ret1 hf rfl rfl ?_
      refine ⟨congrArg (fun n => Ending.returned (.int .u8 n)) ?_, hb⟩; rw [Hs, show 5 - k = 0 by omega, bytR]

set_option maxHeartbeats 1000000 in
set_option maxRecDepth 100000 in
theorem numbers_any (a : Option Addr) (W : List ByteArray) (c : Nat) (w : World) (hl : RdS 1 vStr w a W) (hc : W.length ≤ c) (hn : W.length ≤ 100000) (hW : ∀ y ∈ W, y.size ≤ 100000) : Calls Tryd.prog 57 #[(.slice a W.length c)] w fun e w' => ∃ v, e = .returned v ∧ ∃ a1 c1, v = (.tuple #[.slice a1 (nbsP W).1.length c1, .bool (nbsP W).2]) ∧ Row 1 (vInt .u64) 22 w.heap.size w' (.slice a1 (nbsP W).1.length c1) (nbsP W).1 ∧ Below w.heap.size w w' := by
  refine sx_enter (L := [(0, (.slice a W.length c))]) Tryd.func57 rfl rfl rfl rfl (fun fa hf => ?_)
  have hb : Below w.heap.size w w := Below.refl _ _
  refine wp_seq_k (fun K1 hK1 => ?_)
  refine wp_region_lit ?_
  refine sqv hf (r_assign rfl) rfl rfl rfl ?_; clear hf fa; intro fa hf
  refine sqv hf (r_assign rfl) rfl rfl rfl ?_; clear hf fa; intro fa hf
  apply wpList_nil
  (try simp only [Exit.then, Exit.inBlock, ↓reduceIte, Nat.reduceEqDiff])
  refine hK1 _ _ ?_
  refine wp_seq_k (fun K2 hK2 => ?_)
  refine wp_region_lit ?_
  refine sqv hf (r_assign rfl) rfl rfl rfl ?_; clear hf fa; intro fa hf
  apply wpList_nil
  (try simp only [Exit.then, Exit.inBlock, ↓reduceIte, Nat.reduceEqDiff])
  refine hK2 _ _ ?_
  refine wp_seq_k (fun K3 hK3 => ?_)
  refine wp_seq_k (fun K4 hK4 => ?_)
  refine wp_region_lit ?_
  refine sqv hf (r_move rfl) rfl rfl rfl ?_; clear hf fa; intro fa hf
  refine sqv hf (r_lensl rfl Tryd.underlying43) rfl rfl rfl ?_; clear hf fa; intro fa hf
  refine sqv hf (r_move rfl) rfl rfl rfl ?_; clear hf fa; intro fa hf
  apply wpList_nil
  (try simp only [Exit.then, Exit.inBlock, ↓reduceIte, Nat.reduceEqDiff])
  refine hK4 _ _ ?_
  refine wp_block ?_
  refine wp_loop_k (fun mq fa wr => ∃ (k : Nat) (o : List Int) (roa : Option Addr) (roc : Nat), mq = W.length - k ∧ Fr 37 fa [(9, (.slice a W.length c)), (10, (.int .i64 ((W.length : Nat) : Int))), (11, (.int .i64 ((k : Nat) : Int))), (4, (.slice roa o.length roc))] ∧ Below w.heap.size w wr ∧ Row 1 (vInt .u64) 22 (w.heap.size) wr (.slice roa (o.length) roc) o ∧ (k ≤ W.length) ∧ (o.length ≤ k) ∧ (nbsP W = nbsA o (W.drop k))) ?_ ?_
  · skip
    exact ⟨_, 0, [], none, 0, rfl, hf.sub ⟨rfl, rfl, (some_int (by first | rfl | omega)), (some_sl (by first | omega | rfl | (simp only [List.length_append, List.length_cons, List.length_nil]; omega) | (simp <;> omega)) rfl), trivial⟩, hb, Row.nil, by omega, by simp, rfl⟩
  · skip
    clear hf fa; intro mq1 fa w1 hI KL1 hKL1
    clear hb
    obtain ⟨k, o, roa, roc, hmq1, hf, hb, hro, hk, hlo, HW⟩ := hI
    have hcro := Row.caps hro
    refine wp_seq_k (fun K5 hK5 => ?_)
    refine wp_region_lit ?_
    refine sqv hf (r_lt rfl rfl) rfl rfl rfl ?_; clear hf fa; intro fa hf
    apply wpList_nil
    (try simp only [Exit.then, Exit.inBlock, ↓reduceIte, Nat.reduceEqDiff])
    refine hK5 _ _ ?_
    refine wp_seq_k (fun K6 hK6 => ?_)
    refine wp_cond_split (t := (decide (((k : Nat) : Int) < ((W.length : Nat) : Int)))) (hf.ev rfl) (fun hqt12_1 => ?_) (fun hqt12_1 => ?_)
    · have hqt12_1b := hqt12_1
      try simp only [decide_eq_true_eq, Bool.and_eq_true, Bool.or_eq_true, Bool.not_eq_true', decide_eq_false_iff_not, ne_eq, Bool.not_eq_true] at hqt12_1
      refine wp_skip ?_
      (try simp only [Exit.then, Exit.inBlock, ↓reduceIte, Nat.reduceEqDiff])
      refine hK6 _ _ ?_
      refine wp_seq_k (fun K7 hK7 => ?_)
      refine wp_block ?_
      refine wp_seq_k (fun K8 hK8 => ?_)
      obtain ⟨y, hy⟩ : ∃ y, W[k]? = some y := ⟨_, List.getElem?_eq_getElem (by omega)⟩
      have hys := hW y (List.mem_of_getElem? hy)
      have hyi := numP_in (bl y)
      unfold inI at hyi
      refine wp_region_lit ?_
      have hy1 : (W)[k]? = some y := hy
      obtain ⟨ab1, aoff1, hat1, hlb1, hel1⟩ := RdS.at hl hy1
      refine sqv hf (r_ixa (sz := 1) (j := k) (evAt rfl hat1) rfl Tryd.underlying43 (by kernel_rfl) rfl (by omega) rfl) rfl rfl rfl ?_; clear hf fa; intro fa hf
      refine sqv hf (r_load (v := (.string y)) rfl Tryd.underlying9 rfl (cellsAt_cell (cellsAt_below hel1 hb hlb1) (i := 0) rfl rfl)) rfl rfl rfl ?_; clear hf fa; intro fa hf
      refine sqv hf (r_assign rfl) rfl rfl rfl ?_; clear hf fa; intro fa hf
      apply wpList_nil
      (try simp only [Exit.then, Exit.inBlock, ↓reduceIte, Nat.reduceEqDiff])
      refine hK8 _ _ ?_
      refine wp_seq_k (fun K9 hK9 => ?_)
      refine wp_region_lit ?_
      refine sqv hf (r_move rfl) rfl rfl rfl ?_; clear hf fa; intro fa hf
      refine sqdt hf (d_callB (vs := [(.string y)]) rfl Tryd.func80 (by kernel_rfl) (by kernel_rfl) (number_any y _ (by omega))) rfl rfl rfl ?_; clear hf fa; rintro fa _ w2 ⟨rfl, he1⟩ hf
      replace hro := Row.ext hro he1
      replace hb := hb.trans (Below.mono he1 hb.size)
      refine sqv hf (r_move rfl) rfl rfl rfl ?_; clear hf fa; intro fa hf
      refine sqv hf (r_extract rfl (i := 0) rfl) rfl rfl rfl ?_; clear hf fa; intro fa hf
      refine sqv hf (r_extract rfl (i := 1) rfl) rfl rfl rfl ?_; clear hf fa; intro fa hf
      refine sqv hf (r_assign rfl) rfl rfl rfl ?_; clear hf fa; intro fa hf
      refine sqv hf (r_assign rfl) rfl rfl rfl ?_; clear hf fa; intro fa hf
      apply wpList_nil
      (try simp only [Exit.then, Exit.inBlock, ↓reduceIte, Nat.reduceEqDiff])
      refine hK9 _ _ ?_
      refine wp_seq_k (fun K10 hK10 => ?_)
      refine wp_seq_k (fun K11 hK11 => ?_)
      refine wp_region_lit ?_
      refine sqv hf (r_move rfl) rfl rfl rfl ?_; clear hf fa; intro fa hf
      refine sqv hf (r_not rfl) rfl rfl rfl ?_; clear hf fa; intro fa hf
      refine sqv hf (r_move rfl) rfl rfl rfl ?_; clear hf fa; intro fa hf
      refine sqgF (act := (!(!(numP (bl y)).2))) (ag := true) (c := (!(numP (bl y)).2)) (v := (.int .i64 ((numP (bl y)).1))) hf rfl rfl rfl (fun hact => (r_move rfl)) rfl rfl ?_; clear hf fa; intro fa hf
      refine sqgF (act := (!(!(numP (bl y)).2))) (ag := true) (c := (!(numP (bl y)).2)) (v := (.bool (decide (((numP (bl y)).1) < (0 : Int))))) hf rfl rfl rfl (fun hact => (r_lt (gb_ev hact rfl) rfl)) rfl rfl ?_; clear hf fa; intro fa hf
      refine sqv hf (r_pickO (b := (!(numP (bl y)).2)) (e := (decide (((numP (bl y)).1) < (0 : Int)))) rfl rfl rfl) rfl rfl rfl ?_; clear hf fa; intro fa hf
      refine sqv hf (r_move rfl) rfl rfl rfl ?_; clear hf fa; intro fa hf
      refine sqgF (act := (!((!(numP (bl y)).2) || (decide (((numP (bl y)).1) < (0 : Int)))))) (ag := true) (c := ((!(numP (bl y)).2) || (decide (((numP (bl y)).1) < (0 : Int))))) (v := (.int .i64 ((numP (bl y)).1))) hf rfl rfl rfl (fun hact => (r_move rfl)) rfl rfl ?_; clear hf fa; intro fa hf
      refine sqgF (act := (!((!(numP (bl y)).2) || (decide (((numP (bl y)).1) < (0 : Int)))))) (ag := true) (c := ((!(numP (bl y)).2) || (decide (((numP (bl y)).1) < (0 : Int))))) (v := (.bool (decide ((4294967296 : Int) ≤ ((numP (bl y)).1))))) hf rfl rfl rfl (fun hact => (r_ge (gb_ev hact rfl) rfl)) rfl rfl ?_; clear hf fa; intro fa hf
      refine sqv hf (r_pickO (b := ((!(numP (bl y)).2) || (decide (((numP (bl y)).1) < (0 : Int))))) (e := (decide ((4294967296 : Int) ≤ ((numP (bl y)).1)))) rfl rfl rfl) rfl rfl rfl ?_; clear hf fa; intro fa hf
      apply wpList_nil
      (try simp only [Exit.then, Exit.inBlock, ↓reduceIte, Nat.reduceEqDiff])
      refine hK11 _ _ ?_
      refine wp_cond_split (t := (((!(numP (bl y)).2) || (decide (((numP (bl y)).1) < (0 : Int)))) || (decide ((4294967296 : Int) ≤ ((numP (bl y)).1))))) (hf.ev rfl) (fun hqt29_1 => ?_) (fun hqt29_1 => ?_)
      · have hqt29_1b := hqt29_1
        try simp only [decide_eq_true_eq, Bool.and_eq_true, Bool.or_eq_true, Bool.not_eq_true', decide_eq_false_iff_not, ne_eq, Bool.not_eq_true] at hqt29_1
        refine wp_seq_k (fun K12 hK12 => ?_)
        refine wp_region_lit ?_
        refine sqv hf (r_assign rfl) rfl rfl rfl ?_; clear hf fa; intro fa hf
        refine sqv hf (r_assign rfl) rfl rfl rfl ?_; clear hf fa; intro fa hf
        apply wpList_nil
        (try simp only [Exit.then, Exit.inBlock, ↓reduceIte, Nat.reduceEqDiff])
        refine hK12 _ _ ?_
        refine wp_ret ?_
        (try simp only [Exit.then, Exit.inBlock])
        refine ret2 hf rfl rfl rfl ?_
        have hno : ¬ okN y = true := by
          intro he
          unfold okN at he
          have h := hqt29_1
          simp at he h
          rcases h with h | h
          · rcases h with h | h
            · rw [he.1] at h; cases h
            · omega
          · omega
        have hN : nbsP W = ([], false) := by rw [HW, drop_atH hy, nbsA, if_neg hno]
        rw [hN]; exact ⟨_, rfl, none, 0, rfl, Row.nil, hb⟩
      · have hqt29_1b := hqt29_1
        replace hqt29_1 := Bool.eq_false_iff.1 hqt29_1
        try simp only [ne_eq, decide_eq_true_eq, Bool.and_eq_true, Bool.or_eq_true, Bool.not_eq_true', decide_eq_false_iff_not] at hqt29_1
        refine wp_skip ?_
        (try simp only [Exit.then, Exit.inBlock, ↓reduceIte, Nat.reduceEqDiff])
        refine hK10 _ _ ?_
        refine wp_region_lit ?_
        refine sqv hf (r_move rfl) rfl rfl rfl ?_; clear hf fa; intro fa hf
        refine sqv hf (r_move rfl) rfl rfl rfl ?_; clear hf fa; intro fa hf
        refine sqv hf (r_conv (C := ((numP (bl y)).1)) rfl Tryd.underlying3 Tryd.underlying22 (by rw [IntKind.wrap_u64]; omega)) rfl rfl rfl ?_; clear hf fa; intro fa hf
        refine sqdt hf (d_bslice (z := (.int .u64 (0 : Int))) (sz := 1) (vs := [(0, (.int .u64 ((numP (bl y)).1)))]) (cs := #[(.int .u64 ((numP (bl y)).1))]) rfl Tryd.underlying91 (by kernel_rfl) rfl (by kernel_rfl)) rfl rfl rfl ?_; clear hf fa; rintro fa _ w3 ⟨b1, rfl, hle1, hk1, he2⟩ hf
        have hBb1 : w.heap.size ≤ b1 := Nat.le_trans hb.size hle1
        have hnr1 : (Value.slice roa (o.length) roc).ownBlock ≠ some b1 := fun hq => by have := (Row.lt hro _ hq).2; omega
        have hnl1 : ∀ q, (Value.slice roa (o.length) roc).ownBlock = some q → q < b1 := fun q hq => Nat.lt_of_lt_of_le (Row.lt hro q hq).2 hle1
        replace hro := Row.ext hro he2
        replace hb := hb.trans (Below.mono he2 hb.size)
        have hs1 := Row.rd (by intros; rfl) (Row.of_new (k := 1) (V := (vInt .u64)) (l := [((numP (bl y)).1)]) hk1 (Nat.le_refl _) rfl rfl (Nat.le_of_ble_eq_true rfl))
        refine sqdt hf (d_append (V := (vInt .u64)) (k := 1) (e := 22) (bytes := 8) (z := (.int .u64 (0 : Int))) (news := [((numP (bl y)).1)]) (base := w.heap.size) (by intros; rfl) (by intro x u hu; simp only [vInt, List.mem_singleton] at hu; subst hu; rfl) rfl rfl Tryd.underlying91 (by kernel_rfl) rfl rfl rfl hro hs1 rfl (fun h => by cases h) (by first | omega | (simp only [List.length_cons, List.length_nil, List.length_append, nums_len]; omega)) (by have := hb.size; omega)) rfl rfl rfl ?_; clear hf fa; rintro fa v w4 ⟨hr1, hg1⟩ hf; obtain ⟨ra1, rc1, rfl, hcrc1, hmrc1⟩ := Row.slice hr1
        replace hb := hb.trans (row_below hro hg1 hb.size (by have := hb.size; omega))
        refine sqv hf (r_assign rfl) rfl rfl rfl ?_; clear hf fa; intro fa hf
        apply wpList_nil
        (try simp only [Exit.then, Exit.inBlock, ↓reduceIte, Nat.reduceEqDiff])
        refine hK7 _ _ ?_
        refine wp_region_lit ?_
        refine sqv hf (r_add (C := (((k : Nat) : Int) + (1 : Int))) rfl rfl (by rw [IntKind.wrap_i64]; omega)) rfl rfl rfl ?_; clear hf fa; intro fa hf
        refine sqv hf (r_move rfl) rfl rfl rfl ?_; clear hf fa; intro fa hf
        apply wpList_nil
        (try simp only [Exit.then, Exit.inBlock, ↓reduceIte, Nat.reduceEqDiff])
        have hok : okN y = true := by
          have h := hqt29_1
          unfold okN
          simp only [not_or, Int.not_lt, Int.not_le, ge_iff_le] at h
          cases hz : (numP (bl y)).2 <;> simp [hz] at h ⊢ <;> omega
        refine hKL1 _ _ _ (by omega) ⟨(k + 1), (o ++ [(numP (bl y)).1]), ra1, rc1, rfl, hf.sub ⟨rfl, rfl, (some_int (by first | rfl | omega)), (some_sl (by first | omega | rfl | (simp only [List.length_append, List.length_cons, List.length_nil]; omega) | (simp <;> omega)) rfl), trivial⟩, hb, (Row.relen hr1), by omega, (by rw [List.length_append]; simp; omega), (by rw [HW, drop_atH hy, nbsA, if_pos hok])⟩
    · have hqt12_1b := hqt12_1
      replace hqt12_1 := Bool.eq_false_iff.1 hqt12_1
      try simp only [ne_eq, decide_eq_true_eq, Bool.and_eq_true, Bool.or_eq_true, Bool.not_eq_true', decide_eq_false_iff_not] at hqt12_1
      refine wp_exit ?_
      (try simp only [Exit.then, Exit.inBlock, ↓reduceIte, Nat.reduceEqDiff])
      refine hK3 _ _ ?_
      refine wp_seq_k (fun K13 hK13 => ?_)
      refine wp_region_lit ?_
      refine sqv hf (r_move rfl) rfl rfl rfl ?_; clear hf fa; intro fa hf
      refine sqv hf (r_assign rfl) rfl rfl rfl ?_; clear hf fa; intro fa hf
      refine sqv hf (r_assign rfl) rfl rfl rfl ?_; clear hf fa; intro fa hf
      apply wpList_nil
      (try simp only [Exit.then, Exit.inBlock, ↓reduceIte, Nat.reduceEqDiff])
      refine hK13 _ _ ?_
      refine wp_ret ?_
      (try simp only [Exit.then, Exit.inBlock])
      refine ret2 hf rfl rfl rfl ?_
      have hN : nbsP W = (o, true) := by rw [HW, List.drop_eq_nil_of_le (by omega)]; rfl
      rw [hN]; exact ⟨_, rfl, _, _, rfl, hro, hb⟩
end Go.Proofs.YtpalmpfkliepfaaDoor

namespace Go.Proofs.YtpalmpfkliepfaaDoor
open Go.RowKit Ut
set_option linter.unusedVariables false
set_option linter.unusedSimpArgs false
attribute [local irreducible] infP ofP chkP rchkP

theorem cellsAt_kb {w w' : World} {b o B bi : Nat} {cs : List Value} (h : cellsAt w b o cs) (hb : KB bi B w w') (hl : b < B) (hne : b ≠ bi) : cellsAt w' b o cs := fun j v hv => by
  have h1 := h j v hv
  have h2 := hb.block b hl hne
  unfold World.cell? at h1 ⊢
  simp only [h2]
  exact h1
theorem cellsAt_grown {w w' : World} {b o bi : Nat} {cs : List Value} (h : cellsAt w b o cs) (hg : w.grownBy w' (some bi)) (hl : b < w.heap.size) (hne : b ≠ bi) : cellsAt w' b o cs := fun j v hv => by
  have h1 := h j v hv
  have h2 := hg.block b hl (fun e => hne (Option.some.inj e))
  unfold World.cell? at h1 ⊢
  simp only [h2]
  exact h1
def wd (W : List ByteArray) (j : Nat) : ByteArray := W.getD j ⟨#[]⟩
theorem wd_at {W : List ByteArray} {j : Nat} (h : j < W.length) : W[j]? = some (wd W j) := by
  unfold wd
  exact getD_at (l := W) (j := j) _ h
def i32w (n : Int) : Int := if n % 4294967296 < 2147483648 then n % 4294967296 else n % 4294967296 - 4294967296
def conP (W : List ByteArray) (sh : Bool) : Int × Bool :=
  if W.length ≠ 1 then (0, false)
  else if sh = true then ((numP (bl (wd W 0))).1 % 4294967296, (numP (bl (wd W 0))).2 && decide ((numP (bl (wd W 0))).1 = i32w (numP (bl (wd W 0))).1))
  else (uA (numP (bl (wd W 0))).1, (numP (bl (wd W 0))).2)

set_option maxHeartbeats 1000000 in
set_option maxRecDepth 100000 in
theorem constant_any (op bi : Nat) (a : Option Addr) (W : List ByteArray) (c : Nat) (sh : Bool) (w : World) (hnb : ∀ q : Addr, a = some q → q.block ≠ bi) (hki : w.heap[bi]? = some (.cells #[(.int .u8 ((op : Nat) : Int)), (.int .u64 (0 : Int)), (.int .u64 (0 : Int)), (.slice none 0 0)] 25 (0, 0))) (hl : RdS 1 vStr w a W) (hc : W.length ≤ c) (hn : W.length ≤ 100000) (hW : ∀ y ∈ W, y.size ≤ 100000) (hop : op < 256) : Calls Tryd.prog 56 #[(.pointer (some ⟨bi, 0, none⟩)), (.slice a W.length c), (.bool sh)] w fun e w' => e = .returned (.bool (conP W sh).2) ∧ Wrote w bi #[(.int .u8 ((op : Nat) : Int)), (.int .u64 ((conP W sh).1)), (.int .u64 (0 : Int)), (.slice none 0 0)] 25 w' := by
  have hy0 : (wd W 0).size ≤ 100000 := by
    unfold wd
    rw [List.getD_eq_getElem?_getD]
    cases h : W[0]? with
    | none => decide
    | some y => exact hW y (List.mem_of_getElem? h)
  have hin := numP_in (bl (wd W 0))
  have hin2 := hin
  unfold inI at hin2
  refine sx_enter (L := [(0, (.pointer (some ⟨bi, 0, none⟩))), (1, (.slice a W.length c)), (2, (.bool sh))]) Tryd.func56 rfl rfl rfl rfl (fun fa hf => ?_)
  have hb : KB bi w.heap.size w w := KB.refl _ _ _
  refine wp_seq_k (fun K1 hK1 => ?_)
  refine wp_region_lit ?_
  refine sqv hf (r_assign rfl) rfl rfl rfl ?_; clear hf fa; intro fa hf
  apply wpList_nil
  (try simp only [Exit.then, Exit.inBlock, ↓reduceIte, Nat.reduceEqDiff])
  refine hK1 _ _ ?_
  refine wp_seq_k (fun K2 hK2 => ?_)
  refine wp_seq_k (fun K3 hK3 => ?_)
  refine wp_region_lit ?_
  refine sqv hf (r_move rfl) rfl rfl rfl ?_; clear hf fa; intro fa hf
  refine sqv hf (r_lensl rfl Tryd.underlying43) rfl rfl rfl ?_; clear hf fa; intro fa hf
  refine sqv hf (r_ne rfl rfl) rfl rfl rfl ?_; clear hf fa; intro fa hf
  apply wpList_nil
  (try simp only [Exit.then, Exit.inBlock, ↓reduceIte, Nat.reduceEqDiff])
  refine hK3 _ _ ?_
  refine wp_cond_split (t := (decide (((W.length : Nat) : Int) ≠ (1 : Int)))) (hf.ev rfl) (fun hqt11_1 => ?_) (fun hqt11_1 => ?_)
  · have hqt11_1b := hqt11_1
    try simp only [decide_eq_true_eq, Bool.and_eq_true, Bool.or_eq_true, Bool.not_eq_true', decide_eq_false_iff_not, ne_eq, Bool.not_eq_true] at hqt11_1
    refine wp_seq_k (fun K4 hK4 => ?_)
    refine wp_region_lit ?_
    refine sqv hf (r_assign rfl) rfl rfl rfl ?_; clear hf fa; intro fa hf
    apply wpList_nil
    (try simp only [Exit.then, Exit.inBlock, ↓reduceIte, Nat.reduceEqDiff])
    refine hK4 _ _ ?_
    refine wp_ret ?_
    (try simp only [Exit.then, Exit.inBlock])
    refine ret1 hf rfl rfl ?_
    have hC : conP W sh = (0, false) := by unfold conP; rw [if_pos (by have h := hqt11_1; omega)]
    rw [hC]; exact ⟨rfl, hki, hb.grown⟩
  · have hqt11_1b := hqt11_1
    replace hqt11_1 := Bool.eq_false_iff.1 hqt11_1
    try simp only [ne_eq, decide_eq_true_eq, Bool.and_eq_true, Bool.or_eq_true, Bool.not_eq_true', decide_eq_false_iff_not] at hqt11_1
    refine wp_skip ?_
    (try simp only [Exit.then, Exit.inBlock, ↓reduceIte, Nat.reduceEqDiff])
    refine hK2 _ _ ?_
    refine wp_seq_k (fun K5 hK5 => ?_)
    refine wp_region_lit ?_
    refine sqv hf (r_move rfl) rfl rfl rfl ?_; clear hf fa; intro fa hf
    have hy1 : (W)[0]? = some (wd W 0) := (wd_at (by omega))
    obtain ⟨ab1, aoff1, hat1, hlb1, hel1⟩ := RdS.at hl hy1
    have hneab1 : ab1 ≠ bi := hnb _ hat1
    refine sqv hf (r_ixa (sz := 1) (j := 0) (evAt rfl hat1) rfl Tryd.underlying43 (by kernel_rfl) rfl (by omega) rfl) rfl rfl rfl ?_; clear hf fa; intro fa hf
    refine sqv hf (r_load (v := (.string (wd W 0))) rfl Tryd.underlying9 rfl (cellsAt_cell (cellsAt_kb hel1 hb hlb1 hneab1) (i := 0) rfl rfl)) rfl rfl rfl ?_; clear hf fa; intro fa hf
    refine sqdt hf (d_callB (vs := [(.string (wd W 0))]) rfl Tryd.func80 (by kernel_rfl) (by kernel_rfl) (number_any (wd W 0) _ hy0)) rfl rfl rfl ?_; clear hf fa; rintro fa _ w1 ⟨rfl, he1⟩ hf
    replace hki := blk_ext hki he1
    replace hb := hb.trans (Below.mono he1 hb.size)
    refine sqv hf (r_move rfl) rfl rfl rfl ?_; clear hf fa; intro fa hf
    refine sqv hf (r_extract rfl (i := 0) rfl) rfl rfl rfl ?_; clear hf fa; intro fa hf
    refine sqv hf (r_extract rfl (i := 1) rfl) rfl rfl rfl ?_; clear hf fa; intro fa hf
    refine sqv hf (r_assign rfl) rfl rfl rfl ?_; clear hf fa; intro fa hf
    refine sqv hf (r_assign rfl) rfl rfl rfl ?_; clear hf fa; intro fa hf
    apply wpList_nil
    (try simp only [Exit.then, Exit.inBlock, ↓reduceIte, Nat.reduceEqDiff])
    refine hK5 _ _ ?_
    refine wp_seq_k (fun K6 hK6 => ?_)
    refine wp_region_lit ?_
    refine sqv hf (r_move rfl) rfl rfl rfl ?_; clear hf fa; intro fa hf
    refine sqv hf (r_move rfl) rfl rfl rfl ?_; clear hf fa; intro fa hf
    refine sqv hf (r_conv (C := ((uA (numP (bl (wd W 0))).1))) rfl Tryd.underlying3 Tryd.underlying22 (wrap_uA hin)) rfl rfl rfl ?_; clear hf fa; intro fa hf
    refine sqv hf (r_nilCheck rfl) rfl rfl rfl ?_; clear hf fa; intro fa hf
    refine sqv hf (r_fa rfl Tryd.underlying25 (f := 1) (q := 1) rfl (by kernel_rfl) rfl) rfl rfl rfl ?_; clear hf fa; intro fa hf
    refine sqn hf (d_storeK (T := 25) (v := (.int .u64 ((uA (numP (bl (wd W 0))).1)))) (cs := #[(.int .u8 ((op : Nat) : Int)), (.int .u64 (0 : Int)), (.int .u64 (0 : Int)), (.slice none 0 0)]) (cs' := #[(.int .u8 ((op : Nat) : Int)), (.int .u64 ((uA (numP (bl (wd W 0))).1))), (.int .u64 (0 : Int)), (.slice none 0 0)]) rfl rfl (by kernel_rfl) (by kernel_rfl) hki (by kernel_rfl) (by kernel_rfl)) rfl rfl ?_; clear hf fa; rintro fa _ w2 ⟨hk1, hg1⟩ hf
    replace hb := hb.wrote hg1 hb.size
    apply wpList_nil
    (try simp only [Exit.then, Exit.inBlock, ↓reduceIte, Nat.reduceEqDiff])
    refine hK6 _ _ ?_
    refine wp_seq_k (fun K7 hK7 => ?_)
    refine wp_seq_k (fun K8 hK8 => ?_)
    refine wp_region_lit ?_
    refine sqv hf (r_move rfl) rfl rfl rfl ?_; clear hf fa; intro fa hf
    apply wpList_nil
    (try simp only [Exit.then, Exit.inBlock, ↓reduceIte, Nat.reduceEqDiff])
    refine hK8 _ _ ?_
    refine wp_cond_split (t := sh) (hf.ev rfl) (fun hqt24_1 => ?_) (fun hqt24_1 => ?_)
    · have hqt24_1b := hqt24_1
      try simp only [decide_eq_true_eq, Bool.and_eq_true, Bool.or_eq_true, Bool.not_eq_true', decide_eq_false_iff_not, ne_eq, Bool.not_eq_true] at hqt24_1
      refine wp_seq_k (fun K9 hK9 => ?_)
      refine wp_region_lit ?_
      refine sqv hf (r_move rfl) rfl rfl rfl ?_; clear hf fa; intro fa hf
      refine sqv hf (r_move rfl) rfl rfl rfl ?_; clear hf fa; intro fa hf
      refine sqgT (act := (numP (bl (wd W 0))).2) (ag := true) (c := (numP (bl (wd W 0))).2) (v := (.int .i64 ((numP (bl (wd W 0))).1))) hf rfl rfl rfl (fun hact => (r_move rfl)) rfl rfl ?_; clear hf fa; intro fa hf
      refine sqgT (act := (numP (bl (wd W 0))).2) (ag := true) (c := (numP (bl (wd W 0))).2) (v := (.int .i64 ((numP (bl (wd W 0))).1))) hf rfl rfl rfl (fun hact => (r_move rfl)) rfl rfl ?_; clear hf fa; intro fa hf
      refine sqgT (act := (numP (bl (wd W 0))).2) (ag := true) (c := (numP (bl (wd W 0))).2) (v := (.int .i32 ((i32w (numP (bl (wd W 0))).1)))) hf rfl rfl rfl (fun hact => (by have hact0 := hact; (try simp only [Bool.and_eq_true, Bool.not_eq_true', Bool.or_eq_false_iff, Bool.or_eq_true, Bool.and_eq_false_iff, ne_eq, decide_eq_true_eq, decide_eq_false_iff_not] at hact0); exact (r_conv (C := ((i32w (numP (bl (wd W 0))).1))) (gb_ev hact rfl) Tryd.underlying3 Tryd.underlying21 (by unfold i32w; rw [IntKind.wrap_i32]; split <;> omega)))) rfl rfl ?_; clear hf fa; intro fa hf
      refine sqgT (act := (numP (bl (wd W 0))).2) (ag := true) (c := (numP (bl (wd W 0))).2) (v := (.int .i64 ((i32w (numP (bl (wd W 0))).1)))) hf rfl rfl rfl (fun hact => (by have hact0 := hact; (try simp only [Bool.and_eq_true, Bool.not_eq_true', Bool.or_eq_false_iff, Bool.or_eq_true, Bool.and_eq_false_iff, ne_eq, decide_eq_true_eq, decide_eq_false_iff_not] at hact0); exact (r_conv (C := ((i32w (numP (bl (wd W 0))).1))) (gb_ev hact rfl) Tryd.underlying21 Tryd.underlying3 (by have hw32 : -2147483648 ≤ i32w (numP (bl (wd W 0))).1 ∧ i32w (numP (bl (wd W 0))).1 < 2147483648 := (by unfold i32w; split <;> omega); rw [IntKind.wrap_i64]; omega)))) rfl rfl ?_; clear hf fa; intro fa hf
      refine sqgT (act := (numP (bl (wd W 0))).2) (ag := true) (c := (numP (bl (wd W 0))).2) (v := (.bool (decide (((numP (bl (wd W 0))).1) = ((i32w (numP (bl (wd W 0))).1)))))) hf rfl rfl rfl (fun hact => (r_eq (gb_ev hact rfl) (gb_ev hact rfl))) rfl rfl ?_; clear hf fa; intro fa hf
      refine sqv hf (r_pickA (b := (numP (bl (wd W 0))).2) (e := (decide (((numP (bl (wd W 0))).1) = ((i32w (numP (bl (wd W 0))).1))))) rfl rfl rfl) rfl rfl rfl ?_; clear hf fa; intro fa hf
      refine sqv hf (r_assign rfl) rfl rfl rfl ?_; clear hf fa; intro fa hf
      apply wpList_nil
      (try simp only [Exit.then, Exit.inBlock, ↓reduceIte, Nat.reduceEqDiff])
      refine hK9 _ _ ?_
      refine wp_region_lit ?_
      refine sqv hf (r_move rfl) rfl rfl rfl ?_; clear hf fa; intro fa hf
      refine sqv hf (r_move rfl) rfl rfl rfl ?_; clear hf fa; intro fa hf
      refine sqv hf (r_conv (C := (((numP (bl (wd W 0))).1 % 4294967296))) rfl Tryd.underlying3 Tryd.underlying62 (by rw [IntKind.wrap_u32])) rfl rfl rfl ?_; clear hf fa; intro fa hf
      refine sqv hf (r_conv (C := (((numP (bl (wd W 0))).1 % 4294967296))) rfl Tryd.underlying62 Tryd.underlying22 (by rw [IntKind.wrap_u64]; omega)) rfl rfl rfl ?_; clear hf fa; intro fa hf
      refine sqv hf (r_nilCheck rfl) rfl rfl rfl ?_; clear hf fa; intro fa hf
      refine sqv hf (r_fa rfl Tryd.underlying25 (f := 1) (q := 1) rfl (by kernel_rfl) rfl) rfl rfl rfl ?_; clear hf fa; intro fa hf
      refine sqn hf (d_storeK (T := 25) (v := (.int .u64 (((numP (bl (wd W 0))).1 % 4294967296)))) (cs := #[(.int .u8 ((op : Nat) : Int)), (.int .u64 ((uA (numP (bl (wd W 0))).1))), (.int .u64 (0 : Int)), (.slice none 0 0)]) (cs' := #[(.int .u8 ((op : Nat) : Int)), (.int .u64 (((numP (bl (wd W 0))).1 % 4294967296))), (.int .u64 (0 : Int)), (.slice none 0 0)]) rfl rfl (by kernel_rfl) (by kernel_rfl) hk1 (by kernel_rfl) (by kernel_rfl)) rfl rfl ?_; clear hf fa; rintro fa _ w3 ⟨hk2, hg2⟩ hf
      replace hb := hb.wrote hg2 hb.size
      apply wpList_nil
      (try simp only [Exit.then, Exit.inBlock, ↓reduceIte, Nat.reduceEqDiff])
      refine hK7 _ _ ?_
      refine wp_seq_k (fun K10 hK10 => ?_)
      refine wp_region_lit ?_
      refine sqv hf (r_move rfl) rfl rfl rfl ?_; clear hf fa; intro fa hf
      refine sqv hf (r_assign rfl) rfl rfl rfl ?_; clear hf fa; intro fa hf
      apply wpList_nil
      (try simp only [Exit.then, Exit.inBlock, ↓reduceIte, Nat.reduceEqDiff])
      refine hK10 _ _ ?_
      refine wp_ret ?_
      (try simp only [Exit.then, Exit.inBlock])
      refine ret1 hf rfl rfl ?_
      have hC : conP W sh = ((numP (bl (wd W 0))).1 % 4294967296, (numP (bl (wd W 0))).2 && decide ((numP (bl (wd W 0))).1 = i32w (numP (bl (wd W 0))).1)) := by unfold conP; rw [if_neg (by have h := hqt11_1; omega), if_pos hqt24_1]
      rw [hC]; exact ⟨rfl, hk2, hb.grown⟩
    · have hqt24_1b := hqt24_1
      replace hqt24_1 := Bool.eq_false_iff.1 hqt24_1
      try simp only [ne_eq, decide_eq_true_eq, Bool.and_eq_true, Bool.or_eq_true, Bool.not_eq_true', decide_eq_false_iff_not] at hqt24_1
      refine wp_skip ?_
      (try simp only [Exit.then, Exit.inBlock, ↓reduceIte, Nat.reduceEqDiff])
      refine hK7 _ _ ?_
      refine wp_seq_k (fun K11 hK11 => ?_)
      refine wp_region_lit ?_
      refine sqv hf (r_move rfl) rfl rfl rfl ?_; clear hf fa; intro fa hf
      refine sqv hf (r_assign rfl) rfl rfl rfl ?_; clear hf fa; intro fa hf
      apply wpList_nil
      (try simp only [Exit.then, Exit.inBlock, ↓reduceIte, Nat.reduceEqDiff])
      refine hK11 _ _ ?_
      refine wp_ret ?_
      (try simp only [Exit.then, Exit.inBlock])
      refine ret1 hf rfl rfl ?_
      have hC : conP W sh = (uA (numP (bl (wd W 0))).1, (numP (bl (wd W 0))).2) := by unfold conP; rw [if_neg (by have h := hqt11_1; omega), if_neg hqt24_1]
      rw [hC]; exact ⟨rfl, hk1, hb.grown⟩

def accL (W : List ByteArray) : List ByteArray := [cutS (wd W 0) (⟨#[97, 108, 105, 103, 110, 61]⟩ : ByteArray), cutS (wd W 1) (⟨#[111, 102, 102, 115, 101, 116, 61]⟩ : ByteArray)]
def accK (W : List ByteArray) : Bool := decide (W.length = 2) && (hasP (wd W 0) (⟨#[97, 108, 105, 103, 110, 61]⟩ : ByteArray) && (hasP (wd W 1) (⟨#[111, 102, 102, 115, 101, 116, 61]⟩ : ByteArray) && (nbsP (accL W)).2))
def accP (W : List ByteArray) : Int × Int := if accK W = true then ((nbsP (accL W)).1.getD 0 0, (nbsP (accL W)).1.getD 1 0) else (0, 0)
theorem nbsA_all (W : List ByteArray) : ∀ o, (nbsA o W).2 = true → (nbsA o W).1.length = o.length + W.length := by
  induction W with
  | nil => intro o _; rfl
  | cons y l ih =>
    intro o h
    rw [nbsA] at h ⊢
    split
    · rename_i hk
      rw [if_pos hk] at h
      rw [ih _ h, List.length_append, List.length_cons, List.length_cons, List.length_nil]; omega
    · rename_i hk
      rw [if_neg hk] at h; cases h
theorem getD_int {l : List Int} {j : Nat} (h : j < l.length) : l[j]? = some (l.getD j 0) := getD_at (l := l) (j := j) _ h

set_option maxHeartbeats 1000000 in
set_option maxRecDepth 100000 in
theorem access_any (op bi : Nat) (a : Option Addr) (W : List ByteArray) (c : Nat) (w : World) (hnb : ∀ q : Addr, a = some q → q.block ≠ bi) (hki : w.heap[bi]? = some (.cells #[(.int .u8 ((op : Nat) : Int)), (.int .u64 (0 : Int)), (.int .u64 (0 : Int)), (.slice none 0 0)] 25 (0, 0))) (hl : RdS 1 vStr w a W) (hc : W.length ≤ c) (hn : W.length ≤ 100000) (hW : ∀ y ∈ W, y.size ≤ 100000) (hop : op < 256) : Calls Tryd.prog 55 #[(.pointer (some ⟨bi, 0, none⟩)), (.slice a W.length c)] w fun e w' => e = .returned (.bool (accK W)) ∧ Wrote w bi #[(.int .u8 ((op : Nat) : Int)), (.int .u64 ((accP W).1)), (.int .u64 ((accP W).2)), (.slice none 0 0)] 25 w' := by
  have hy0 : (wd W 0).size ≤ 100000 := by
    unfold wd
    rw [List.getD_eq_getElem?_getD]
    cases h : W[0]? with
    | none => decide
    | some y => exact hW y (List.mem_of_getElem? h)
  have hy1 : (wd W 1).size ≤ 100000 := by
    unfold wd
    rw [List.getD_eq_getElem?_getD]
    cases h : W[1]? with
    | none => decide
    | some y => exact hW y (List.mem_of_getElem? h)
  have hcut : ∀ y ∈ accL W, y.size ≤ 100000 := by
    intro y hy
    unfold accL at hy
    simp only [List.mem_cons, List.not_mem_nil, or_false] at hy
    have h1 := cutS_len (wd W 0) (⟨#[97, 108, 105, 103, 110, 61]⟩ : ByteArray)
    have h2 := cutS_len (wd W 1) (⟨#[111, 102, 102, 115, 101, 116, 61]⟩ : ByteArray)
    rcases hy with rfl | rfl <;> omega
  refine sx_enter (L := [(0, (.pointer (some ⟨bi, 0, none⟩))), (1, (.slice a W.length c))]) Tryd.func55 rfl rfl rfl rfl (fun fa hf => ?_)
  have hb : KB bi w.heap.size w w := KB.refl _ _ _
  refine wp_seq_k (fun K1 hK1 => ?_)
  refine wp_region_lit ?_
  refine sqv hf (r_assign rfl) rfl rfl rfl ?_; clear hf fa; intro fa hf
  apply wpList_nil
  (try simp only [Exit.then, Exit.inBlock, ↓reduceIte, Nat.reduceEqDiff])
  refine hK1 _ _ ?_
  refine wp_seq_k (fun K2 hK2 => ?_)
  refine wp_seq_k (fun K3 hK3 => ?_)
  refine wp_region_lit ?_
  refine sqv hf (r_move rfl) rfl rfl rfl ?_; clear hf fa; intro fa hf
  refine sqv hf (r_lensl rfl Tryd.underlying43) rfl rfl rfl ?_; clear hf fa; intro fa hf
  refine sqv hf (r_ne rfl rfl) rfl rfl rfl ?_; clear hf fa; intro fa hf
  apply wpList_nil
  (try simp only [Exit.then, Exit.inBlock, ↓reduceIte, Nat.reduceEqDiff])
  refine hK3 _ _ ?_
  refine wp_cond_split (t := (decide (((W.length : Nat) : Int) ≠ (2 : Int)))) (hf.ev rfl) (fun hqt13_1 => ?_) (fun hqt13_1 => ?_)
  · have hqt13_1b := hqt13_1
    try simp only [decide_eq_true_eq, Bool.and_eq_true, Bool.or_eq_true, Bool.not_eq_true', decide_eq_false_iff_not, ne_eq, Bool.not_eq_true] at hqt13_1
    refine wp_seq_k (fun K4 hK4 => ?_)
    refine wp_region_lit ?_
    refine sqv hf (r_assign rfl) rfl rfl rfl ?_; clear hf fa; intro fa hf
    apply wpList_nil
    (try simp only [Exit.then, Exit.inBlock, ↓reduceIte, Nat.reduceEqDiff])
    refine hK4 _ _ ?_
    refine wp_ret ?_
    (try simp only [Exit.then, Exit.inBlock])
    refine ret1 hf rfl rfl ?_
    have hK : accK W = false := by unfold accK; rw [decide_eq_false (by have h := hqt13_1; omega)]; rfl
    have hA : accP W = (0, 0) := by unfold accP; rw [hK]; rfl
    rw [hK, hA]; exact ⟨rfl, hki, hb.grown⟩
  · have hqt13_1b := hqt13_1
    replace hqt13_1 := Bool.eq_false_iff.1 hqt13_1
    try simp only [ne_eq, decide_eq_true_eq, Bool.and_eq_true, Bool.or_eq_true, Bool.not_eq_true', decide_eq_false_iff_not] at hqt13_1
    refine wp_skip ?_
    (try simp only [Exit.then, Exit.inBlock, ↓reduceIte, Nat.reduceEqDiff])
    refine hK2 _ _ ?_
    refine wp_seq_k (fun K5 hK5 => ?_)
    refine wp_region_lit ?_
    refine sqv hf (r_move rfl) rfl rfl rfl ?_; clear hf fa; intro fa hf
    have hy1 : (W)[0]? = some (wd W 0) := (wd_at (by omega))
    obtain ⟨ab1, aoff1, hat1, hlb1, hel1⟩ := RdS.at hl hy1
    have hneab1 : ab1 ≠ bi := hnb _ hat1
    refine sqv hf (r_ixa (sz := 1) (j := 0) (evAt rfl hat1) rfl Tryd.underlying43 (by kernel_rfl) rfl (by omega) rfl) rfl rfl rfl ?_; clear hf fa; intro fa hf
    refine sqv hf (r_load (v := (.string (wd W 0))) rfl Tryd.underlying9 rfl (cellsAt_cell (cellsAt_kb hel1 hb hlb1 hneab1) (i := 0) rfl rfl)) rfl rfl rfl ?_; clear hf fa; intro fa hf
    refine sqdt hf (d_callS (vs := [(.string (wd W 0)), (.string ⟨#[97, 108, 105, 103, 110, 61]⟩)]) rfl Tryd.func79 (by kernel_rfl) (by kernel_rfl) (cutPrefix_any (wd W 0) _ _)) rfl rfl rfl ?_; clear hf fa; rintro fa _ _ ⟨rfl, rfl⟩ hf
    refine sqv hf (r_move rfl) rfl rfl rfl ?_; clear hf fa; intro fa hf
    refine sqv hf (r_extract rfl (i := 0) rfl) rfl rfl rfl ?_; clear hf fa; intro fa hf
    refine sqv hf (r_extract rfl (i := 1) rfl) rfl rfl rfl ?_; clear hf fa; intro fa hf
    refine sqv hf (r_assign rfl) rfl rfl rfl ?_; clear hf fa; intro fa hf
    refine sqv hf (r_assign rfl) rfl rfl rfl ?_; clear hf fa; intro fa hf
    apply wpList_nil
    (try simp only [Exit.then, Exit.inBlock, ↓reduceIte, Nat.reduceEqDiff])
    refine hK5 _ _ ?_
    refine wp_seq_k (fun K6 hK6 => ?_)
    refine wp_region_lit ?_
    refine sqv hf (r_move rfl) rfl rfl rfl ?_; clear hf fa; intro fa hf
    have hy2 : (W)[1]? = some (wd W 1) := (wd_at (by omega))
    obtain ⟨_, _, hab1, hlb2, hel2⟩ := RdS.at hl hy2
    rw [hat1] at hab1; cases hab1
    refine sqv hf (r_ixa (sz := 1) (j := 1) (evAt rfl hat1) rfl Tryd.underlying43 (by kernel_rfl) rfl (by omega) rfl) rfl rfl rfl ?_; clear hf fa; intro fa hf
    refine sqv hf (r_load (v := (.string (wd W 1))) rfl Tryd.underlying9 rfl (cellsAt_cell (cellsAt_kb hel2 hb hlb2 hneab1) (i := 0) rfl rfl)) rfl rfl rfl ?_; clear hf fa; intro fa hf
    refine sqdt hf (d_callS (vs := [(.string (wd W 1)), (.string ⟨#[111, 102, 102, 115, 101, 116, 61]⟩)]) rfl Tryd.func79 (by kernel_rfl) (by kernel_rfl) (cutPrefix_any (wd W 1) _ _)) rfl rfl rfl ?_; clear hf fa; rintro fa _ _ ⟨rfl, rfl⟩ hf
    refine sqv hf (r_move rfl) rfl rfl rfl ?_; clear hf fa; intro fa hf
    refine sqv hf (r_extract rfl (i := 0) rfl) rfl rfl rfl ?_; clear hf fa; intro fa hf
    refine sqv hf (r_extract rfl (i := 1) rfl) rfl rfl rfl ?_; clear hf fa; intro fa hf
    refine sqv hf (r_assign rfl) rfl rfl rfl ?_; clear hf fa; intro fa hf
    refine sqv hf (r_assign rfl) rfl rfl rfl ?_; clear hf fa; intro fa hf
    apply wpList_nil
    (try simp only [Exit.then, Exit.inBlock, ↓reduceIte, Nat.reduceEqDiff])
    refine hK6 _ _ ?_
    refine wp_seq_k (fun K7 hK7 => ?_)
    refine wp_region_lit ?_
    refine sqv hf (r_move rfl) rfl rfl rfl ?_; clear hf fa; intro fa hf
    refine sqv hf (r_move rfl) rfl rfl rfl ?_; clear hf fa; intro fa hf
    refine sqdt hf (d_bslice (z := (.string ⟨#[]⟩)) (sz := 1) (vs := [(0, (.string (cutS (wd W 0) (⟨#[97, 108, 105, 103, 110, 61]⟩ : ByteArray)))), (1, (.string (cutS (wd W 1) (⟨#[111, 102, 102, 115, 101, 116, 61]⟩ : ByteArray))))]) (cs := #[(.string (cutS (wd W 0) (⟨#[97, 108, 105, 103, 110, 61]⟩ : ByteArray))), (.string (cutS (wd W 1) (⟨#[111, 102, 102, 115, 101, 116, 61]⟩ : ByteArray)))]) rfl Tryd.underlying43 (by kernel_rfl) rfl (by kernel_rfl)) rfl rfl rfl ?_; clear hf fa; rintro fa _ w1 ⟨b1, rfl, hle1, hk1, he1⟩ hf
    have hBb1 : w.heap.size ≤ b1 := Nat.le_trans hb.size hle1
    have : bi < b1 := Nat.lt_of_lt_of_le (blk_lt hki) hle1
    replace hki := blk_ext hki he1
    replace hb := hb.trans (Below.mono he1 hb.size)
    have hr1 := Row.of_new (k := 1) (V := vStr) (l := [(cutS (wd W 0) (⟨#[97, 108, 105, 103, 110, 61]⟩ : ByteArray)), (cutS (wd W 1) (⟨#[111, 102, 102, 115, 101, 116, 61]⟩ : ByteArray))]) (base := w.heap.size) hk1 (by omega) rfl rfl (Nat.le_of_ble_eq_true rfl)
    refine sqdt hf (d_callX (vs := [(.slice (some ⟨b1, 0, none⟩) 2 2)]) rfl Tryd.func57 (by kernel_rfl) (by kernel_rfl) (numbers_any (some ⟨b1, 0, none⟩) (accL W) 2 _ (Row.rd (by intros; rfl) hr1) (Nat.le_refl 2) (show 2 ≤ 100000 by decide) hcut)) rfl rfl rfl ?_; clear hf fa; rintro fa _ w2 ⟨ra1, rc1, rfl, hr2, he2⟩ hf
    replace hr2 := Row.rebase hr2 hb.size
    replace hki := blk_ext hki he2
    replace hr1 := Row.ext hr1 he2
    replace hb := hb.trans (Below.mono he2 hb.size)
    have hchr2 := Row.caps hr2
    refine sqv hf (r_move rfl) rfl rfl rfl ?_; clear hf fa; intro fa hf
    refine sqv hf (r_extract rfl (i := 0) rfl) rfl rfl rfl ?_; clear hf fa; intro fa hf
    refine sqv hf (r_extract rfl (i := 1) rfl) rfl rfl rfl ?_; clear hf fa; intro fa hf
    refine sqv hf (r_assign rfl) rfl rfl rfl ?_; clear hf fa; intro fa hf
    refine sqv hf (r_assign rfl) rfl rfl rfl ?_; clear hf fa; intro fa hf
    apply wpList_nil
    (try simp only [Exit.then, Exit.inBlock, ↓reduceIte, Nat.reduceEqDiff])
    refine hK7 _ _ ?_
    refine wp_seq_k (fun K8 hK8 => ?_)
    refine wp_seq_k (fun K9 hK9 => ?_)
    refine wp_region_lit ?_
    refine sqv hf (r_move rfl) rfl rfl rfl ?_; clear hf fa; intro fa hf
    refine sqv hf (r_not rfl) rfl rfl rfl ?_; clear hf fa; intro fa hf
    refine sqv hf (r_move rfl) rfl rfl rfl ?_; clear hf fa; intro fa hf
    refine sqgF (act := (!(!(hasP (wd W 0) (⟨#[97, 108, 105, 103, 110, 61]⟩ : ByteArray))))) (ag := true) (c := (!(hasP (wd W 0) (⟨#[97, 108, 105, 103, 110, 61]⟩ : ByteArray)))) (v := (.bool (hasP (wd W 1) (⟨#[111, 102, 102, 115, 101, 116, 61]⟩ : ByteArray)))) hf rfl rfl rfl (fun hact => (r_move rfl)) rfl rfl ?_; clear hf fa; intro fa hf
    refine sqgF (act := (!(!(hasP (wd W 0) (⟨#[97, 108, 105, 103, 110, 61]⟩ : ByteArray))))) (ag := true) (c := (!(hasP (wd W 0) (⟨#[97, 108, 105, 103, 110, 61]⟩ : ByteArray)))) (v := (.bool (!(hasP (wd W 1) (⟨#[111, 102, 102, 115, 101, 116, 61]⟩ : ByteArray))))) hf rfl rfl rfl (fun hact => (r_not (gb_ev hact rfl))) rfl rfl ?_; clear hf fa; intro fa hf
    refine sqv hf (r_pickO (b := (!(hasP (wd W 0) (⟨#[97, 108, 105, 103, 110, 61]⟩ : ByteArray)))) (e := (!(hasP (wd W 1) (⟨#[111, 102, 102, 115, 101, 116, 61]⟩ : ByteArray)))) rfl rfl rfl) rfl rfl rfl ?_; clear hf fa; intro fa hf
    refine sqv hf (r_move rfl) rfl rfl rfl ?_; clear hf fa; intro fa hf
    refine sqgF (act := (!((!(hasP (wd W 0) (⟨#[97, 108, 105, 103, 110, 61]⟩ : ByteArray))) || (!(hasP (wd W 1) (⟨#[111, 102, 102, 115, 101, 116, 61]⟩ : ByteArray)))))) (ag := true) (c := ((!(hasP (wd W 0) (⟨#[97, 108, 105, 103, 110, 61]⟩ : ByteArray))) || (!(hasP (wd W 1) (⟨#[111, 102, 102, 115, 101, 116, 61]⟩ : ByteArray))))) (v := (.bool (nbsP (accL W)).2)) hf rfl rfl rfl (fun hact => (r_move rfl)) rfl rfl ?_; clear hf fa; intro fa hf
    refine sqgF (act := (!((!(hasP (wd W 0) (⟨#[97, 108, 105, 103, 110, 61]⟩ : ByteArray))) || (!(hasP (wd W 1) (⟨#[111, 102, 102, 115, 101, 116, 61]⟩ : ByteArray)))))) (ag := true) (c := ((!(hasP (wd W 0) (⟨#[97, 108, 105, 103, 110, 61]⟩ : ByteArray))) || (!(hasP (wd W 1) (⟨#[111, 102, 102, 115, 101, 116, 61]⟩ : ByteArray))))) (v := (.bool (!(nbsP (accL W)).2))) hf rfl rfl rfl (fun hact => (r_not (gb_ev hact rfl))) rfl rfl ?_; clear hf fa; intro fa hf
    refine sqv hf (r_pickO (b := ((!(hasP (wd W 0) (⟨#[97, 108, 105, 103, 110, 61]⟩ : ByteArray))) || (!(hasP (wd W 1) (⟨#[111, 102, 102, 115, 101, 116, 61]⟩ : ByteArray))))) (e := (!(nbsP (accL W)).2)) rfl rfl rfl) rfl rfl rfl ?_; clear hf fa; intro fa hf
    apply wpList_nil
    (try simp only [Exit.then, Exit.inBlock, ↓reduceIte, Nat.reduceEqDiff])
    refine hK9 _ _ ?_
    refine wp_cond_split (t := (((!(hasP (wd W 0) (⟨#[97, 108, 105, 103, 110, 61]⟩ : ByteArray))) || (!(hasP (wd W 1) (⟨#[111, 102, 102, 115, 101, 116, 61]⟩ : ByteArray)))) || (!(nbsP (accL W)).2))) (hf.ev rfl) (fun hqt44_1 => ?_) (fun hqt44_1 => ?_)
    · have hqt44_1b := hqt44_1
      try simp only [decide_eq_true_eq, Bool.and_eq_true, Bool.or_eq_true, Bool.not_eq_true', decide_eq_false_iff_not, ne_eq, Bool.not_eq_true] at hqt44_1
      refine wp_seq_k (fun K10 hK10 => ?_)
      refine wp_region_lit ?_
      refine sqv hf (r_assign rfl) rfl rfl rfl ?_; clear hf fa; intro fa hf
      apply wpList_nil
      (try simp only [Exit.then, Exit.inBlock, ↓reduceIte, Nat.reduceEqDiff])
      refine hK10 _ _ ?_
      refine wp_ret ?_
      (try simp only [Exit.then, Exit.inBlock])
      refine ret1 hf rfl rfl ?_
      have hK : accK W = false := by
        have h := hqt44_1
        unfold accK
        cases h1 : hasP (wd W 0) (⟨#[97, 108, 105, 103, 110, 61]⟩ : ByteArray) <;> cases h2 : hasP (wd W 1) (⟨#[111, 102, 102, 115, 101, 116, 61]⟩ : ByteArray) <;> cases h3 : (nbsP (accL W)).2 <;> simp [h1, h2, h3] at h ⊢
      have hA : accP W = (0, 0) := by unfold accP; rw [hK]; rfl
      rw [hK, hA]; exact ⟨rfl, hki, hb.grown⟩
    · have hqt44_1b := hqt44_1
      replace hqt44_1 := Bool.eq_false_iff.1 hqt44_1
      try simp only [ne_eq, decide_eq_true_eq, Bool.and_eq_true, Bool.or_eq_true, Bool.not_eq_true', decide_eq_false_iff_not] at hqt44_1
      refine wp_skip ?_
      (try simp only [Exit.then, Exit.inBlock, ↓reduceIte, Nat.reduceEqDiff])
      refine hK8 _ _ ?_
      refine wp_seq_k (fun K11 hK11 => ?_)
      have hln : (nbsP (accL W)).1.length = 2 := by have h := hqt44_1; simp at h; exact nbsA_all (accL W) [] h.2
      obtain ⟨rb1, rfl, hbbrb1, hlbrb1⟩ := Row.some hr2 (by first | omega | (simp only [Sl.list_length, List.length_set, List.length_take, List.length_append, List.length_replicate, List.length_cons, List.length_nil, List.length_map, nums_len]; omega))
      have hy3 : ((nbsP (accL W)).1)[0]? = some ((nbsP (accL W)).1.getD 0 0) := (getD_int (by omega))
      have hel3 := RdS.at (Row.rd (by intros; rfl) hr2) hy3
      obtain ⟨_, _, hab, hlr1, hel3⟩ := hel3
      cases hab
      have hy4 : ((nbsP (accL W)).1)[1]? = some ((nbsP (accL W)).1.getD 1 0) := (getD_int (by omega))
      have hel4 := RdS.at (Row.rd (by intros; rfl) hr2) hy4
      obtain ⟨_, _, hab, hlr2, hel4⟩ := hel4
      cases hab
      have hne_hel3 : rb1 ≠ bi := fun e => (Row.ne_type hr2 hki rfl) (congrArg some e)
      have hne_hel4 : rb1 ≠ bi := fun e => (Row.ne_type hr2 hki rfl) (congrArg some e)
      refine wp_region_unT 13 (fun wc => (w2.grownBy wc (some bi) ∧ (wc.heap[bi]? = some (.cells #[(.int .u8 ((op : Nat) : Int)), (.int .u64 (0 : Int)), (.int .u64 (0 : Int)), (.slice none 0 0)] 25 (0, 0)) ∨ wc.heap[bi]? = some (.cells #[(.int .u8 ((op : Nat) : Int)), (.int .u64 (((nbsP (accL W)).1.getD 0 0))), (.int .u64 (0 : Int)), (.slice none 0 0)] 25 (0, 0))))) (fun wa wc => ((w2.grownBy wa (some bi) ∧ (wa.heap[bi]? = some (.cells #[(.int .u8 ((op : Nat) : Int)), (.int .u64 (0 : Int)), (.int .u64 (0 : Int)), (.slice none 0 0)] 25 (0, 0)) ∨ wa.heap[bi]? = some (.cells #[(.int .u8 ((op : Nat) : Int)), (.int .u64 (((nbsP (accL W)).1.getD 0 0))), (.int .u64 (0 : Int)), (.slice none 0 0)] 25 (0, 0)))) → (w2.grownBy wc (some bi) ∧ (wc.heap[bi]? = some (.cells #[(.int .u8 ((op : Nat) : Int)), (.int .u64 (0 : Int)), (.int .u64 (0 : Int)), (.slice none 0 0)] 25 (0, 0)) ∨ wc.heap[bi]? = some (.cells #[(.int .u8 ((op : Nat) : Int)), (.int .u64 (((nbsP (accL W)).1.getD 0 0))), (.int .u64 (0 : Int)), (.slice none 0 0)] 25 (0, 0))))) ∧ wa.heap.size ≤ wc.heap.size ∧ (wa.heap[bi]? = some (.cells #[(.int .u8 ((op : Nat) : Int)), (.int .u64 (((nbsP (accL W)).1.getD 0 0))), (.int .u64 (0 : Int)), (.slice none 0 0)] 25 (0, 0)) → wc.heap[bi]? = some (.cells #[(.int .u8 ((op : Nat) : Int)), (.int .u64 (((nbsP (accL W)).1.getD 0 0))), (.int .u64 (0 : Int)), (.slice none 0 0)] 25 (0, 0))))
        (fun V => [(fun x _ => x = (.pointer (some ⟨bi, 0, none⟩))), (fun x _ => x = (.pointer (some ⟨bi, 0, none⟩))), (fun x _ => x = (.slice (some ⟨rb1, 0, none⟩) (((nbsP (accL W)).1.length)) rc1)), (fun x _ => x = (.pointer (some ⟨rb1, (0 + 0 * 1), none⟩))), (fun x _ => x = (.int .u64 (((nbsP (accL W)).1.getD 0 0)))), (fun x _ => x = (.slice (some ⟨rb1, 0, none⟩) (((nbsP (accL W)).1.length)) rc1)), (fun x _ => x = (.pointer (some ⟨rb1, (0 + 1 * 1), none⟩))), (fun x _ => x = (.int .u64 (((nbsP (accL W)).1.getD 1 0)))), (fun x _ => x = (.pointer (some ⟨bi, 0, none⟩))), (fun x _ => x = (.pointer (some ⟨bi, 1, none⟩))), (fun _ wq => wq.heap[bi]? = some (.cells #[(.int .u8 ((op : Nat) : Int)), (.int .u64 (((nbsP (accL W)).1.getD 0 0))), (.int .u64 (0 : Int)), (.slice none 0 0)] 25 (0, 0))), (fun x _ => x = (.pointer (some ⟨bi, 0, none⟩))), (fun x _ => x = (.pointer (some ⟨bi, 2, none⟩)))])
        []
        [[], [], [], [2], [3], [], [5], [6], [0, 2, 3, 4, 7], [0, 2, 3, 4, 7, 8], [0, 2, 3, 4, 7, 9], [0, 1, 2, 3, 4, 5, 6, 7, 8, 9, 10], [0, 1, 2, 3, 4, 5, 6, 7, 8, 9, 10, 11], []]
        hf (by kernel_rfl) (by kernel_rfl) (by kernel_rfl) (fun _ => rfl) ⟨below_grown (Below.refl _ _).drew, .inl (blk_ext hki (Below.refl _ _).drew)⟩ (fun a b h1 h2 => h2.1 h1) (fun _ _ h => h.2.1) (fun V => ⟨(fun _ _ _ h _ => h), (fun _ _ _ h _ => h), (fun _ _ _ h _ => h), (fun _ _ _ h _ => h), (fun _ _ _ h _ => h), (fun _ _ _ h _ => h), (fun _ _ _ h _ => h), (fun _ _ _ h _ => h), (fun _ _ _ h _ => h), (fun _ _ _ h _ => h), (fun _ _ _ h hG => hG.2.2 h), (fun _ _ _ h _ => h), (fun _ _ _ h _ => h), trivial⟩) (fun _ _ _ _ _ => rfl) ?_ ?_
      · skip
        intro V
        refine ⟨fun wu0 hC hd => ?_, ?_⟩
        · clear hd
          have hgC := hC.1
          replace hr1 := Row.grown hr1 hgC (Row.ne_type hr1 hki rfl)
          replace hr2 := Row.grown hr2 hgC (Row.ne_type hr2 hki rfl)
          replace hb := hb.wrote hgC hb.size
          exact Runs.does (r_move rfl) ⟨⟨id, Nat.le_refl _, id⟩, rfl, nofr rfl⟩
        refine ⟨fun wu1 hC hd => ?_, ?_⟩
        · clear hd
          have hgC := hC.1
          replace hr1 := Row.grown hr1 hgC (Row.ne_type hr1 hki rfl)
          replace hr2 := Row.grown hr2 hgC (Row.ne_type hr2 hki rfl)
          replace hb := hb.wrote hgC hb.size
          exact Runs.does (r_move rfl) ⟨⟨id, Nat.le_refl _, id⟩, rfl, nofr rfl⟩
        refine ⟨fun wu2 hC hd => ?_, ?_⟩
        · clear hd
          have hgC := hC.1
          replace hr1 := Row.grown hr1 hgC (Row.ne_type hr1 hki rfl)
          replace hr2 := Row.grown hr2 hgC (Row.ne_type hr2 hki rfl)
          replace hb := hb.wrote hgC hb.size
          exact Runs.does (r_move rfl) ⟨⟨id, Nat.le_refl _, id⟩, rfl, nofr rfl⟩
        refine ⟨fun wu3 hC hd => ?_, ?_⟩
        · obtain ⟨h2, _⟩ := hd
          replace h2 : V 2 = (.slice (some ⟨rb1, 0, none⟩) (((nbsP (accL W)).1.length)) rc1) := h2
          have hgC := hC.1
          replace hr1 := Row.grown hr1 hgC (Row.ne_type hr1 hki rfl)
          replace hr2 := Row.grown hr2 hgC (Row.ne_type hr2 hki rfl)
          replace hb := hb.wrote hgC hb.size
          exact Runs.does (r_ixa (sz := 1) (j := 0) (congrArg some h2) rfl Tryd.underlying91 (by kernel_rfl) rfl (by omega) rfl) ⟨⟨id, Nat.le_refl _, id⟩, rfl, nofr rfl⟩
        refine ⟨fun wu4 hC hd => ?_, ?_⟩
        · obtain ⟨h3, _⟩ := hd
          replace h3 : V 3 = (.pointer (some ⟨rb1, (0 + 0 * 1), none⟩)) := h3
          have hgC := hC.1
          replace hr1 := Row.grown hr1 hgC (Row.ne_type hr1 hki rfl)
          replace hr2 := Row.grown hr2 hgC (Row.ne_type hr2 hki rfl)
          replace hb := hb.wrote hgC hb.size
          exact Runs.does (r_load (v := (.int .u64 (((nbsP (accL W)).1.getD 0 0)))) (congrArg some h3) Tryd.underlying22 rfl (cellsAt_cell (cellsAt_grown hel3 hgC hlr1 hne_hel3) (i := 0) rfl rfl)) ⟨⟨id, Nat.le_refl _, id⟩, rfl, nofr rfl⟩
        refine ⟨fun wu5 hC hd => ?_, ?_⟩
        · clear hd
          have hgC := hC.1
          replace hr1 := Row.grown hr1 hgC (Row.ne_type hr1 hki rfl)
          replace hr2 := Row.grown hr2 hgC (Row.ne_type hr2 hki rfl)
          replace hb := hb.wrote hgC hb.size
          exact Runs.does (r_move rfl) ⟨⟨id, Nat.le_refl _, id⟩, rfl, nofr rfl⟩
        refine ⟨fun wu6 hC hd => ?_, ?_⟩
        · obtain ⟨h5, _⟩ := hd
          replace h5 : V 5 = (.slice (some ⟨rb1, 0, none⟩) (((nbsP (accL W)).1.length)) rc1) := h5
          have hgC := hC.1
          replace hr1 := Row.grown hr1 hgC (Row.ne_type hr1 hki rfl)
          replace hr2 := Row.grown hr2 hgC (Row.ne_type hr2 hki rfl)
          replace hb := hb.wrote hgC hb.size
          exact Runs.does (r_ixa (sz := 1) (j := 1) (congrArg some h5) rfl Tryd.underlying91 (by kernel_rfl) rfl (by omega) rfl) ⟨⟨id, Nat.le_refl _, id⟩, rfl, nofr rfl⟩
        refine ⟨fun wu7 hC hd => ?_, ?_⟩
        · obtain ⟨h6, _⟩ := hd
          replace h6 : V 6 = (.pointer (some ⟨rb1, (0 + 1 * 1), none⟩)) := h6
          have hgC := hC.1
          replace hr1 := Row.grown hr1 hgC (Row.ne_type hr1 hki rfl)
          replace hr2 := Row.grown hr2 hgC (Row.ne_type hr2 hki rfl)
          replace hb := hb.wrote hgC hb.size
          exact Runs.does (r_load (v := (.int .u64 (((nbsP (accL W)).1.getD 1 0)))) (congrArg some h6) Tryd.underlying22 rfl (cellsAt_cell (cellsAt_grown hel4 hgC hlr2 hne_hel4) (i := 0) rfl rfl)) ⟨⟨id, Nat.le_refl _, id⟩, rfl, nofr rfl⟩
        refine ⟨fun wu8 hC hd => ?_, ?_⟩
        · obtain ⟨h0, h2, h3, h4, h7, _⟩ := hd
          replace h0 : V 0 = (.pointer (some ⟨bi, 0, none⟩)) := h0
          replace h2 : V 2 = (.slice (some ⟨rb1, 0, none⟩) (((nbsP (accL W)).1.length)) rc1) := h2
          replace h3 : V 3 = (.pointer (some ⟨rb1, (0 + 0 * 1), none⟩)) := h3
          replace h4 : V 4 = (.int .u64 (((nbsP (accL W)).1.getD 0 0))) := h4
          replace h7 : V 7 = (.int .u64 (((nbsP (accL W)).1.getD 1 0))) := h7
          have hgC := hC.1
          replace hr1 := Row.grown hr1 hgC (Row.ne_type hr1 hki rfl)
          replace hr2 := Row.grown hr2 hgC (Row.ne_type hr2 hki rfl)
          replace hb := hb.wrote hgC hb.size
          exact Runs.does (r_nilCheck (congrArg some h0)) ⟨⟨id, Nat.le_refl _, id⟩, rfl, nofr rfl⟩
        refine ⟨fun wu9 hC hd => ?_, ?_⟩
        · obtain ⟨h0, h2, h3, h4, h7, h8, _⟩ := hd
          replace h0 : V 0 = (.pointer (some ⟨bi, 0, none⟩)) := h0
          replace h2 : V 2 = (.slice (some ⟨rb1, 0, none⟩) (((nbsP (accL W)).1.length)) rc1) := h2
          replace h3 : V 3 = (.pointer (some ⟨rb1, (0 + 0 * 1), none⟩)) := h3
          replace h4 : V 4 = (.int .u64 (((nbsP (accL W)).1.getD 0 0))) := h4
          replace h7 : V 7 = (.int .u64 (((nbsP (accL W)).1.getD 1 0))) := h7
          replace h8 : V 8 = (.pointer (some ⟨bi, 0, none⟩)) := h8
          have hgC := hC.1
          replace hr1 := Row.grown hr1 hgC (Row.ne_type hr1 hki rfl)
          replace hr2 := Row.grown hr2 hgC (Row.ne_type hr2 hki rfl)
          replace hb := hb.wrote hgC hb.size
          exact Runs.does (r_fa (congrArg some h8) Tryd.underlying25 (f := 1) (q := 1) rfl (by kernel_rfl) rfl) ⟨⟨id, Nat.le_refl _, id⟩, rfl, nofr rfl⟩
        refine ⟨fun wu10 hC hd => ?_, ?_⟩
        · obtain ⟨h0, h2, h3, h4, h7, h9, _⟩ := hd
          replace h0 : V 0 = (.pointer (some ⟨bi, 0, none⟩)) := h0
          replace h2 : V 2 = (.slice (some ⟨rb1, 0, none⟩) (((nbsP (accL W)).1.length)) rc1) := h2
          replace h3 : V 3 = (.pointer (some ⟨rb1, (0 + 0 * 1), none⟩)) := h3
          replace h4 : V 4 = (.int .u64 (((nbsP (accL W)).1.getD 0 0))) := h4
          replace h7 : V 7 = (.int .u64 (((nbsP (accL W)).1.getD 1 0))) := h7
          replace h9 : V 9 = (.pointer (some ⟨bi, 1, none⟩)) := h9
          have hgC := hC.1
          replace hr1 := Row.grown hr1 hgC (Row.ne_type hr1 hki rfl)
          replace hr2 := Row.grown hr2 hgC (Row.ne_type hr2 hki rfl)
          replace hb := hb.wrote hgC hb.size
          rcases hC.2 with hX | hX
          · refine Does.mono (d_storeK (T := 25) (v := (.int .u64 (((nbsP (accL W)).1.getD 0 0)))) (cs := #[(.int .u8 ((op : Nat) : Int)), (.int .u64 (0 : Int)), (.int .u64 (0 : Int)), (.slice none 0 0)]) (cs' := #[(.int .u8 ((op : Nat) : Int)), (.int .u64 (((nbsP (accL W)).1.getD 0 0))), (.int .u64 (0 : Int)), (.slice none 0 0)]) (congrArg some h9) (congrArg some h4) (by kernel_rfl) (by kernel_rfl) hX (by kernel_rfl) (by kernel_rfl)) ?_
            rintro _ wz ⟨hY, hgY⟩
            exact ⟨⟨fun _ => ⟨grownBy_trans hgC hgY, .inr hY⟩, hgY.size, fun _ => hY⟩, hY, nofr rfl⟩
          · refine Does.mono (d_storeK (T := 25) (v := (.int .u64 (((nbsP (accL W)).1.getD 0 0)))) (cs := #[(.int .u8 ((op : Nat) : Int)), (.int .u64 (((nbsP (accL W)).1.getD 0 0))), (.int .u64 (0 : Int)), (.slice none 0 0)]) (cs' := #[(.int .u8 ((op : Nat) : Int)), (.int .u64 (((nbsP (accL W)).1.getD 0 0))), (.int .u64 (0 : Int)), (.slice none 0 0)]) (congrArg some h9) (congrArg some h4) (by kernel_rfl) (by kernel_rfl) hX (by kernel_rfl) (by kernel_rfl)) ?_
            rintro _ wz ⟨hY, hgY⟩
            exact ⟨⟨fun _ => ⟨grownBy_trans hgC hgY, .inr hY⟩, hgY.size, fun _ => hY⟩, hY, nofr rfl⟩
        refine ⟨fun wu11 hC hd => ?_, ?_⟩
        · obtain ⟨h0, h1, h2, h3, h4, h5, h6, h7, h8, h9, h10, _⟩ := hd
          replace h0 : V 0 = (.pointer (some ⟨bi, 0, none⟩)) := h0
          replace h1 : V 1 = (.pointer (some ⟨bi, 0, none⟩)) := h1
          replace h2 : V 2 = (.slice (some ⟨rb1, 0, none⟩) (((nbsP (accL W)).1.length)) rc1) := h2
          replace h3 : V 3 = (.pointer (some ⟨rb1, (0 + 0 * 1), none⟩)) := h3
          replace h4 : V 4 = (.int .u64 (((nbsP (accL W)).1.getD 0 0))) := h4
          replace h5 : V 5 = (.slice (some ⟨rb1, 0, none⟩) (((nbsP (accL W)).1.length)) rc1) := h5
          replace h6 : V 6 = (.pointer (some ⟨rb1, (0 + 1 * 1), none⟩)) := h6
          replace h7 : V 7 = (.int .u64 (((nbsP (accL W)).1.getD 1 0))) := h7
          replace h8 : V 8 = (.pointer (some ⟨bi, 0, none⟩)) := h8
          replace h9 : V 9 = (.pointer (some ⟨bi, 1, none⟩)) := h9
          have hgC := hC.1
          replace hr1 := Row.grown hr1 hgC (Row.ne_type hr1 hki rfl)
          replace hr2 := Row.grown hr2 hgC (Row.ne_type hr2 hki rfl)
          replace hb := hb.wrote hgC hb.size
          exact Runs.does (r_nilCheck (congrArg some h1)) ⟨⟨id, Nat.le_refl _, id⟩, rfl, nofr rfl⟩
        refine ⟨fun wu12 hC hd => ?_, ?_⟩
        · obtain ⟨h0, h1, h2, h3, h4, h5, h6, h7, h8, h9, h10, h11, _⟩ := hd
          replace h0 : V 0 = (.pointer (some ⟨bi, 0, none⟩)) := h0
          replace h1 : V 1 = (.pointer (some ⟨bi, 0, none⟩)) := h1
          replace h2 : V 2 = (.slice (some ⟨rb1, 0, none⟩) (((nbsP (accL W)).1.length)) rc1) := h2
          replace h3 : V 3 = (.pointer (some ⟨rb1, (0 + 0 * 1), none⟩)) := h3
          replace h4 : V 4 = (.int .u64 (((nbsP (accL W)).1.getD 0 0))) := h4
          replace h5 : V 5 = (.slice (some ⟨rb1, 0, none⟩) (((nbsP (accL W)).1.length)) rc1) := h5
          replace h6 : V 6 = (.pointer (some ⟨rb1, (0 + 1 * 1), none⟩)) := h6
          replace h7 : V 7 = (.int .u64 (((nbsP (accL W)).1.getD 1 0))) := h7
          replace h8 : V 8 = (.pointer (some ⟨bi, 0, none⟩)) := h8
          replace h9 : V 9 = (.pointer (some ⟨bi, 1, none⟩)) := h9
          replace h11 : V 11 = (.pointer (some ⟨bi, 0, none⟩)) := h11
          have hgC := hC.1
          replace hr1 := Row.grown hr1 hgC (Row.ne_type hr1 hki rfl)
          replace hr2 := Row.grown hr2 hgC (Row.ne_type hr2 hki rfl)
          replace hb := hb.wrote hgC hb.size
          exact Runs.does (r_fa (congrArg some h11) Tryd.underlying25 (f := 2) (q := 2) rfl (by kernel_rfl) rfl) ⟨⟨id, Nat.le_refl _, id⟩, rfl, nofr rfl⟩
        trivial
      · skip
        clear hf fa; intro V w3 fa he3 hp hnb hf
        have hg1 := he3.1
        have hv0 : V 0 = (.pointer (some ⟨bi, 0, none⟩)) := postsHold_at hp 0 rfl
        have hv1 : V 1 = (.pointer (some ⟨bi, 0, none⟩)) := postsHold_at hp 1 rfl
        have hv2 : V 2 = (.slice (some ⟨rb1, 0, none⟩) (((nbsP (accL W)).1.length)) rc1) := postsHold_at hp 2 rfl
        have hv3 : V 3 = (.pointer (some ⟨rb1, (0 + 0 * 1), none⟩)) := postsHold_at hp 3 rfl
        have hv4 : V 4 = (.int .u64 (((nbsP (accL W)).1.getD 0 0))) := postsHold_at hp 4 rfl
        have hv5 : V 5 = (.slice (some ⟨rb1, 0, none⟩) (((nbsP (accL W)).1.length)) rc1) := postsHold_at hp 5 rfl
        have hv6 : V 6 = (.pointer (some ⟨rb1, (0 + 1 * 1), none⟩)) := postsHold_at hp 6 rfl
        have hv7 : V 7 = (.int .u64 (((nbsP (accL W)).1.getD 1 0))) := postsHold_at hp 7 rfl
        have hv8 : V 8 = (.pointer (some ⟨bi, 0, none⟩)) := postsHold_at hp 8 rfl
        have hv9 : V 9 = (.pointer (some ⟨bi, 1, none⟩)) := postsHold_at hp 9 rfl
        have hv11 : V 11 = (.pointer (some ⟨bi, 0, none⟩)) := postsHold_at hp 11 rfl
        have hv12 : V 12 = (.pointer (some ⟨bi, 2, none⟩)) := postsHold_at hp 12 rfl
        have hk2 := postsHold_at hp 10 rfl
        simp only [List.take_succ_cons, List.take_zero, insAll, ins, hv0, hv1, hv2, hv3, hv4, hv5, hv6, hv7, hv8, hv9, hv11, hv12] at hf
        clear hp hnb hv0 hv1 hv2 hv3 hv4 hv5 hv6 hv7 hv8 hv9 hv11 hv12
        replace hr1 := Row.grown hr1 hg1 (Row.ne_type hr1 hki rfl)
        replace hr2 := Row.grown hr2 hg1 (Row.ne_type hr2 hki rfl)
        replace hb := hb.wrote hg1 hb.size
        replace hk2 : w3.heap[bi]? = some (.cells #[(.int .u8 ((op : Nat) : Int)), (.int .u64 (((nbsP (accL W)).1.getD 0 0))), (.int .u64 (0 : Int)), (.slice none 0 0)] 25 (0, 0)) := hk2
        simp only [List.drop_succ_cons, List.drop_zero]
        refine sqn hf (d_storeK (T := 25) (v := (.int .u64 (((nbsP (accL W)).1.getD 1 0)))) (cs := #[(.int .u8 ((op : Nat) : Int)), (.int .u64 (((nbsP (accL W)).1.getD 0 0))), (.int .u64 (0 : Int)), (.slice none 0 0)]) (cs' := #[(.int .u8 ((op : Nat) : Int)), (.int .u64 (((nbsP (accL W)).1.getD 0 0))), (.int .u64 (((nbsP (accL W)).1.getD 1 0))), (.slice none 0 0)]) rfl rfl (by kernel_rfl) (by kernel_rfl) hk2 (by kernel_rfl) (by kernel_rfl)) rfl rfl ?_; clear hf fa; rintro fa _ w4 ⟨hk3, hg2⟩ hf
        replace hr1 := Row.grown hr1 hg2 (Row.ne_type hr1 hk2 rfl)
        replace hr2 := Row.grown hr2 hg2 (Row.ne_type hr2 hk2 rfl)
        replace hb := hb.wrote hg2 hb.size
        apply wpList_nil
        (try simp only [Exit.then, Exit.inBlock, ↓reduceIte, Nat.reduceEqDiff])
        refine hK11 _ _ ?_
        refine wp_seq_k (fun K12 hK12 => ?_)
        refine wp_region_lit ?_
        refine sqv hf (r_assign rfl) rfl rfl rfl ?_; clear hf fa; intro fa hf
        apply wpList_nil
        (try simp only [Exit.then, Exit.inBlock, ↓reduceIte, Nat.reduceEqDiff])
        refine hK12 _ _ ?_
        refine wp_ret ?_
        (try simp only [Exit.then, Exit.inBlock])
        refine ret1 hf rfl rfl ?_
        have hK : accK W = true := by have h := hqt44_1; unfold accK; rw [decide_eq_true (by omega)]; simp at h ⊢; exact ⟨h.1.1, h.1.2, h.2⟩
        have hA : accP W = ((nbsP (accL W)).1.getD 0 0, (nbsP (accL W)).1.getD 1 0) := by unfold accP; rw [if_pos hK]
        rw [hK, hA]; exact ⟨rfl, hk3, hb.grown⟩
end Go.Proofs.YtpalmpfkliepfaaDoor

namespace Go.Proofs.YtpalmpfkliepfaaDoor
open Go.RowKit Ut
set_option linter.unusedVariables false
set_option linter.unusedSimpArgs false

set_option maxHeartbeats 1000000 in
set_option maxRecDepth 100000 in
theorem same07_any (op : Nat) (A B : Int) (L : List Int) (a a2 : Option Addr) (c c2 : Nat) (w : World) (hl : RdS 1 (vInt .u32) w a L) (hl2 : RdS 1 (vInt .u32) w a2 L) (hc : L.length ≤ c) (hc2 : L.length ≤ c2) (hn : L.length ≤ 100000) : Calls Tryd.prog 11 #[(.agg #[(.int .u8 ((op : Nat) : Int)), (.int .u64 A), (.int .u64 B), (.slice a L.length c)]), (.agg #[(.int .u8 ((op : Nat) : Int)), (.int .u64 A), (.int .u64 B), (.slice a2 L.length c2)])] w fun e w' => e = .returned (.bool true) ∧ Below w.heap.size w w' := by
  refine sx_enter (L := [(0, (.agg #[(.int .u8 ((op : Nat) : Int)), (.int .u64 A), (.int .u64 B), (.slice a L.length c)])), (1, (.agg #[(.int .u8 ((op : Nat) : Int)), (.int .u64 A), (.int .u64 B), (.slice a2 L.length c2)]))]) Tryd.func11 rfl rfl rfl rfl (fun fa hf => ?_)
  have hb : Below w.heap.size w w := Below.refl _ _
  refine wp_seq_k (fun K1 hK1 => ?_)
  refine wp_region_lit ?_
  refine sqdt hf (d_box (cs := #[(.int .u8 ((op : Nat) : Int)), (.int .u64 A), (.int .u64 B), (.slice a L.length c)]) rfl rfl) rfl rfl rfl ?_; clear hf fa; rintro fa _ w1 ⟨b1, rfl, hle1, hk1, he1⟩ hf
  have hBb1 : w.heap.size ≤ b1 := Nat.le_trans hb.size hle1
  replace hb := hb.trans (Below.mono he1 hb.size)
  refine sqdt hf (d_box (cs := #[(.int .u8 ((op : Nat) : Int)), (.int .u64 A), (.int .u64 B), (.slice a2 L.length c2)]) rfl rfl) rfl rfl rfl ?_; clear hf fa; rintro fa _ w2 ⟨b2, rfl, hle2, hk2, he2⟩ hf
  have hBb2 : w.heap.size ≤ b2 := Nat.le_trans hb.size hle2
  have : b1 < b2 := Nat.lt_of_lt_of_le (blk_lt hk1) hle2
  replace hk1 := blk_ext hk1 he2
  replace hb := hb.trans (Below.mono he2 hb.size)
  refine sqv hf (r_assign rfl) rfl rfl rfl ?_; clear hf fa; intro fa hf
  apply wpList_nil
  (try simp only [Exit.then, Exit.inBlock, ↓reduceIte, Nat.reduceEqDiff])
  refine hK1 _ _ ?_
  refine wp_seq_k (fun K2 hK2 => ?_)
  refine wp_seq_k (fun K3 hK3 => ?_)
  refine wp_region_lit ?_
  refine sqv hf (r_fa rfl Tryd.underlying25 (f := 0) (q := 0) rfl (by kernel_rfl) rfl) rfl rfl rfl ?_; clear hf fa; intro fa hf
  refine sqv hf (r_load (v := (.int .u8 ((op : Nat) : Int))) rfl Tryd.underlying5 rfl (cell_blk hk1 rfl)) rfl rfl rfl ?_; clear hf fa; intro fa hf
  refine sqv hf (r_fa rfl Tryd.underlying25 (f := 0) (q := 0) rfl (by kernel_rfl) rfl) rfl rfl rfl ?_; clear hf fa; intro fa hf
  refine sqv hf (r_load (v := (.int .u8 ((op : Nat) : Int))) rfl Tryd.underlying5 rfl (cell_blk hk2 rfl)) rfl rfl rfl ?_; clear hf fa; intro fa hf
  refine sqv hf (Runs.veq (r_ne rfl rfl) (congrArg Value.bool (show _ = false from (by simp)))) rfl rfl rfl ?_; clear hf fa; intro fa hf
  refine sqv hf (r_move rfl) rfl rfl rfl ?_; clear hf fa; intro fa hf
  refine sqgd (act := true) (g := 5) (want := false) (ag := true) (c := false) hf (by rfl) (by rfl) rfl (fun _ =>  Runs.does (R := fun vq wq => vq = (.pointer (some ⟨b1, 1, none⟩)) ∧ w2 = wq) (r_fa rfl Tryd.underlying25 (f := 1) (q := 1) rfl (by kernel_rfl) rfl) ⟨rfl, rfl⟩) (fun h => by cases h) rfl ?_; clear hf fa; rintro fa _ _ ⟨rfl, rfl⟩ hf
  change Fr _ _ ((12, (.pointer (some ⟨b1, 1, none⟩))) :: _) at hf
  refine sqgd (act := true) (g := 5) (want := false) (ag := true) (c := false) hf (by rfl) (by rfl) rfl (fun _ =>  Runs.does (R := fun vq wq => vq = (.int .u64 A) ∧ w2 = wq) (r_load (v := (.int .u64 A)) rfl Tryd.underlying22 rfl (cell_blk hk1 rfl)) ⟨rfl, rfl⟩) (fun h => by cases h) rfl ?_; clear hf fa; rintro fa _ _ ⟨rfl, rfl⟩ hf
  change Fr _ _ ((13, (.int .u64 A)) :: _) at hf
  refine sqgd (act := true) (g := 5) (want := false) (ag := true) (c := false) hf (by rfl) (by rfl) rfl (fun _ =>  Runs.does (R := fun vq wq => vq = (.pointer (some ⟨b2, 1, none⟩)) ∧ w2 = wq) (r_fa rfl Tryd.underlying25 (f := 1) (q := 1) rfl (by kernel_rfl) rfl) ⟨rfl, rfl⟩) (fun h => by cases h) rfl ?_; clear hf fa; rintro fa _ _ ⟨rfl, rfl⟩ hf
  change Fr _ _ ((14, (.pointer (some ⟨b2, 1, none⟩))) :: _) at hf
  refine sqgd (act := true) (g := 5) (want := false) (ag := true) (c := false) hf (by rfl) (by rfl) rfl (fun _ =>  Runs.does (R := fun vq wq => vq = (.int .u64 A) ∧ w2 = wq) (r_load (v := (.int .u64 A)) rfl Tryd.underlying22 rfl (cell_blk hk2 rfl)) ⟨rfl, rfl⟩) (fun h => by cases h) rfl ?_; clear hf fa; rintro fa _ _ ⟨rfl, rfl⟩ hf
  change Fr _ _ ((15, (.int .u64 A)) :: _) at hf
  refine sqgd (act := true) (g := 5) (want := false) (ag := true) (c := false) hf (by rfl) (by rfl) rfl (fun _ =>  Runs.does (R := fun vq wq => vq = (.bool false) ∧ w2 = wq) (Runs.veq (r_ne rfl rfl) (congrArg Value.bool (show _ = false from (by simp)))) ⟨rfl, rfl⟩) (fun h => by cases h) rfl ?_; clear hf fa; rintro fa _ _ ⟨rfl, rfl⟩ hf
  change Fr _ _ ((16, (.bool false)) :: _) at hf
  refine sqv hf (r_pick (b := false) rfl rfl rfl rfl) rfl rfl rfl ?_; clear hf fa; intro fa hf
  refine sqv hf (r_move rfl) rfl rfl rfl ?_; clear hf fa; intro fa hf
  refine sqgd (act := true) (g := 12) (want := false) (ag := true) (c := false) hf (by rfl) (by rfl) rfl (fun _ =>  Runs.does (R := fun vq wq => vq = (.pointer (some ⟨b1, 2, none⟩)) ∧ w2 = wq) (r_fa rfl Tryd.underlying25 (f := 2) (q := 2) rfl (by kernel_rfl) rfl) ⟨rfl, rfl⟩) (fun h => by cases h) rfl ?_; clear hf fa; rintro fa _ _ ⟨rfl, rfl⟩ hf
  change Fr _ _ ((19, (.pointer (some ⟨b1, 2, none⟩))) :: _) at hf
  refine sqgd (act := true) (g := 12) (want := false) (ag := true) (c := false) hf (by rfl) (by rfl) rfl (fun _ =>  Runs.does (R := fun vq wq => vq = (.int .u64 B) ∧ w2 = wq) (r_load (v := (.int .u64 B)) rfl Tryd.underlying22 rfl (cell_blk hk1 rfl)) ⟨rfl, rfl⟩) (fun h => by cases h) rfl ?_; clear hf fa; rintro fa _ _ ⟨rfl, rfl⟩ hf
  change Fr _ _ ((20, (.int .u64 B)) :: _) at hf
  refine sqgd (act := true) (g := 12) (want := false) (ag := true) (c := false) hf (by rfl) (by rfl) rfl (fun _ =>  Runs.does (R := fun vq wq => vq = (.pointer (some ⟨b2, 2, none⟩)) ∧ w2 = wq) (r_fa rfl Tryd.underlying25 (f := 2) (q := 2) rfl (by kernel_rfl) rfl) ⟨rfl, rfl⟩) (fun h => by cases h) rfl ?_; clear hf fa; rintro fa _ _ ⟨rfl, rfl⟩ hf
  change Fr _ _ ((21, (.pointer (some ⟨b2, 2, none⟩))) :: _) at hf
  refine sqgd (act := true) (g := 12) (want := false) (ag := true) (c := false) hf (by rfl) (by rfl) rfl (fun _ =>  Runs.does (R := fun vq wq => vq = (.int .u64 B) ∧ w2 = wq) (r_load (v := (.int .u64 B)) rfl Tryd.underlying22 rfl (cell_blk hk2 rfl)) ⟨rfl, rfl⟩) (fun h => by cases h) rfl ?_; clear hf fa; rintro fa _ _ ⟨rfl, rfl⟩ hf
  change Fr _ _ ((22, (.int .u64 B)) :: _) at hf
  refine sqgd (act := true) (g := 12) (want := false) (ag := true) (c := false) hf (by rfl) (by rfl) rfl (fun _ =>  Runs.does (R := fun vq wq => vq = (.bool false) ∧ w2 = wq) (Runs.veq (r_ne rfl rfl) (congrArg Value.bool (show _ = false from (by simp)))) ⟨rfl, rfl⟩) (fun h => by cases h) rfl ?_; clear hf fa; rintro fa _ _ ⟨rfl, rfl⟩ hf
  change Fr _ _ ((23, (.bool false)) :: _) at hf
  refine sqv hf (r_pick (b := false) rfl rfl rfl rfl) rfl rfl rfl ?_; clear hf fa; intro fa hf
  refine sqv hf (r_move rfl) rfl rfl rfl ?_; clear hf fa; intro fa hf
  refine sqgd (act := true) (g := 19) (want := false) (ag := true) (c := false) hf (by rfl) (by rfl) rfl (fun _ =>  Runs.does (R := fun vq wq => vq = (.pointer (some ⟨b1, 3, none⟩)) ∧ w2 = wq) (r_fa rfl Tryd.underlying25 (f := 3) (q := 3) rfl (by kernel_rfl) rfl) ⟨rfl, rfl⟩) (fun h => by cases h) rfl ?_; clear hf fa; rintro fa _ _ ⟨rfl, rfl⟩ hf
  change Fr _ _ ((26, (.pointer (some ⟨b1, 3, none⟩))) :: _) at hf
  refine sqgd (act := true) (g := 19) (want := false) (ag := true) (c := false) hf (by rfl) (by rfl) rfl (fun _ =>  Runs.does (R := fun vq wq => vq = (.slice a L.length c) ∧ w2 = wq) (r_load (v := (.slice a L.length c)) rfl Tryd.underlying23 rfl (cell_blk hk1 rfl)) ⟨rfl, rfl⟩) (fun h => by cases h) rfl ?_; clear hf fa; rintro fa _ _ ⟨rfl, rfl⟩ hf
  change Fr _ _ ((27, (.slice a L.length c)) :: _) at hf
  refine sqgd (act := true) (g := 19) (want := false) (ag := true) (c := false) hf (by rfl) (by rfl) rfl (fun _ =>  Runs.does (R := fun vq wq => vq = (.int .i64 ((L.length : Nat) : Int)) ∧ w2 = wq) (r_lensl rfl Tryd.underlying23) ⟨rfl, rfl⟩) (fun h => by cases h) rfl ?_; clear hf fa; rintro fa _ _ ⟨rfl, rfl⟩ hf
  change Fr _ _ ((28, (.int .i64 ((L.length : Nat) : Int))) :: _) at hf
  refine sqgd (act := true) (g := 19) (want := false) (ag := true) (c := false) hf (by rfl) (by rfl) rfl (fun _ =>  Runs.does (R := fun vq wq => vq = (.pointer (some ⟨b2, 3, none⟩)) ∧ w2 = wq) (r_fa rfl Tryd.underlying25 (f := 3) (q := 3) rfl (by kernel_rfl) rfl) ⟨rfl, rfl⟩) (fun h => by cases h) rfl ?_; clear hf fa; rintro fa _ _ ⟨rfl, rfl⟩ hf
  change Fr _ _ ((29, (.pointer (some ⟨b2, 3, none⟩))) :: _) at hf
  refine sqgd (act := true) (g := 19) (want := false) (ag := true) (c := false) hf (by rfl) (by rfl) rfl (fun _ =>  Runs.does (R := fun vq wq => vq = (.slice a2 L.length c2) ∧ w2 = wq) (r_load (v := (.slice a2 L.length c2)) rfl Tryd.underlying23 rfl (cell_blk hk2 rfl)) ⟨rfl, rfl⟩) (fun h => by cases h) rfl ?_; clear hf fa; rintro fa _ _ ⟨rfl, rfl⟩ hf
  change Fr _ _ ((30, (.slice a2 L.length c2)) :: _) at hf
  refine sqgd (act := true) (g := 19) (want := false) (ag := true) (c := false) hf (by rfl) (by rfl) rfl (fun _ =>  Runs.does (R := fun vq wq => vq = (.int .i64 ((L.length : Nat) : Int)) ∧ w2 = wq) (r_lensl rfl Tryd.underlying23) ⟨rfl, rfl⟩) (fun h => by cases h) rfl ?_; clear hf fa; rintro fa _ _ ⟨rfl, rfl⟩ hf
  change Fr _ _ ((31, (.int .i64 ((L.length : Nat) : Int))) :: _) at hf
  refine sqgd (act := true) (g := 19) (want := false) (ag := true) (c := false) hf (by rfl) (by rfl) rfl (fun _ =>  Runs.does (R := fun vq wq => vq = (.bool false) ∧ w2 = wq) (Runs.veq (r_ne rfl rfl) (congrArg Value.bool (show _ = false from (by simp)))) ⟨rfl, rfl⟩) (fun h => by cases h) rfl ?_; clear hf fa; rintro fa _ _ ⟨rfl, rfl⟩ hf
  change Fr _ _ ((32, (.bool false)) :: _) at hf
  refine sqv hf (r_pick (b := false) rfl rfl rfl rfl) rfl rfl rfl ?_; clear hf fa; intro fa hf
  apply wpList_nil
  (try simp only [Exit.then, Exit.inBlock, ↓reduceIte, Nat.reduceEqDiff])
  refine hK3 _ _ ?_
  refine wp_cond_false (hf.ev rfl) ?_
  refine wp_skip ?_
  (try simp only [Exit.then, Exit.inBlock, ↓reduceIte, Nat.reduceEqDiff])
  refine hK2 _ _ ?_
  refine wp_seq_k (fun K4 hK4 => ?_)
  refine wp_seq_k (fun K5 hK5 => ?_)
  refine wp_region_lit ?_
  refine sqv hf (r_assign rfl) rfl rfl rfl ?_; clear hf fa; intro fa hf
  apply wpList_nil
  (try simp only [Exit.then, Exit.inBlock, ↓reduceIte, Nat.reduceEqDiff])
  refine hK5 _ _ ?_
  refine wp_block ?_
  refine wp_loop_k (fun mq fa wr => ∃ (k : Nat), mq = L.length - k ∧ Fr 52 fa [(2, (.pointer (some ⟨b1, 0, none⟩))), (3, (.pointer (some ⟨b2, 0, none⟩))), (5, (.int .i64 ((k : Nat) : Int)))] ∧ Below w.heap.size w wr ∧ wr.heap[b1]? = some (.cells #[(.int .u8 ((op : Nat) : Int)), (.int .u64 A), (.int .u64 B), (.slice a L.length c)] 25 (0, 0)) ∧ wr.heap[b2]? = some (.cells #[(.int .u8 ((op : Nat) : Int)), (.int .u64 A), (.int .u64 B), (.slice a2 L.length c2)] 25 (0, 0)) ∧ (k ≤ L.length)) ?_ ?_
  · skip
    exact ⟨_, 0, rfl, hf.sub ⟨rfl, rfl, (some_int (by first | rfl | omega)), trivial⟩, hb, hk1, hk2, by omega⟩
  · skip
    clear hf fa; intro mq1 fa w3 hI KL1 hKL1
    clear hb
    clear hk1
    clear hk2
    obtain ⟨k, hmq1, hf, hb, hkb1, hkb2, hk⟩ := hI
    refine wp_seq_k (fun K6 hK6 => ?_)
    refine wp_seq_k (fun K7 hK7 => ?_)
    refine wp_region_lit ?_
    refine sqv hf (r_move rfl) rfl rfl rfl ?_; clear hf fa; intro fa hf
    refine sqv hf (r_fa rfl Tryd.underlying25 (f := 3) (q := 3) rfl (by kernel_rfl) rfl) rfl rfl rfl ?_; clear hf fa; intro fa hf
    refine sqv hf (r_load (v := (.slice a L.length c)) rfl Tryd.underlying23 rfl (cell_blk hkb1 rfl)) rfl rfl rfl ?_; clear hf fa; intro fa hf
    refine sqv hf (r_lensl rfl Tryd.underlying23) rfl rfl rfl ?_; clear hf fa; intro fa hf
    refine sqv hf (r_lt rfl rfl) rfl rfl rfl ?_; clear hf fa; intro fa hf
    apply wpList_nil
    (try simp only [Exit.then, Exit.inBlock, ↓reduceIte, Nat.reduceEqDiff])
    refine hK7 _ _ ?_
    refine wp_cond_split (t := (decide (((k : Nat) : Int) < ((L.length : Nat) : Int)))) (hf.ev rfl) (fun hqt38_1 => ?_) (fun hqt38_1 => ?_)
    · have hqt38_1b := hqt38_1
      try simp only [decide_eq_true_eq, Bool.and_eq_true, Bool.or_eq_true, Bool.not_eq_true', decide_eq_false_iff_not, ne_eq, Bool.not_eq_true] at hqt38_1
      refine wp_skip ?_
      (try simp only [Exit.then, Exit.inBlock, ↓reduceIte, Nat.reduceEqDiff])
      refine hK6 _ _ ?_
      refine wp_seq_k (fun K8 hK8 => ?_)
      refine wp_block ?_
      refine wp_seq_k (fun K9 hK9 => ?_)
      obtain ⟨y, hy⟩ : ∃ y, L[k]? = some y := ⟨_, List.getElem?_eq_getElem (by omega)⟩
      have hy1 : (L)[k]? = some y := hy
      obtain ⟨ab1, aoff1, hat1, hlb1, hel1⟩ := RdS.at hl hy1
      have hy2 : (L)[k]? = some y := hy
      obtain ⟨ab2, aoff2, hat2, hlb2, hel2⟩ := RdS.at hl2 hy2
      refine wp_region_un (fun wq => Below w3.heap.size w3 wq) (fun w w' => Below w.heap.size w w')
        (fun V => [(fun x _ => x = (.pointer (some ⟨b1, 3, none⟩))), (fun x _ => x = (.slice a L.length c)), (fun x _ => x = (.int .i64 ((k : Nat) : Int))), (fun x _ => x = (.pointer (some ⟨ab1, (aoff1 + k * 1), none⟩))), (fun x _ => x = (.int .u32 y)), (fun x _ => x = (.pointer (some ⟨b2, 3, none⟩))), (fun x _ => x = (.slice a2 L.length c2)), (fun x _ => x = (.int .i64 ((k : Nat) : Int))), (fun x _ => x = (.pointer (some ⟨ab2, (aoff2 + k * 1), none⟩))), (fun x _ => x = (.int .u32 y)), (fun x _ => x = (.bool false))])
        []
        [[], [0], [], [1, 2], [3], [], [5], [], [6, 7], [8], [4, 9]]
        hf (by kernel_rfl) (by kernel_rfl) (fun _ => rfl) ((Below.refl _ _).drew) (fun a b h1 h2 => h1.trans (h2.mono h1.size)) (fun _ _ h => h.size) (fun V => ⟨kept_eq, kept_eq, kept_eq, kept_eq, kept_eq, kept_eq, kept_eq, kept_eq, kept_eq, kept_eq, kept_eq, trivial⟩) (fun _ _ _ _ _ => rfl) ?_ ?_
      · skip
        intro V
        refine ⟨fun wu0 hC hd => ?_, ?_⟩
        · clear hd
          replace hb := hb.trans (hC.mono hb.size)
          replace hkb1 := blk_ext hkb1 hC
          replace hkb2 := blk_ext hkb2 hC
          exact Runs.does (r_fa rfl Tryd.underlying25 (f := 3) (q := 3) rfl (by kernel_rfl) rfl) ⟨Below.refl _ _, rfl, nofr rfl⟩
        refine ⟨fun wu1 hC hd => ?_, ?_⟩
        · obtain ⟨h0, _⟩ := hd
          skip
          replace h0 : V 0 = (.pointer (some ⟨b1, 3, none⟩)) := h0
          replace hb := hb.trans (hC.mono hb.size)
          replace hkb1 := blk_ext hkb1 hC
          replace hkb2 := blk_ext hkb2 hC
          exact Runs.does (r_load (v := (.slice a L.length c)) (congrArg some h0) Tryd.underlying23 rfl (cell_blk hkb1 rfl)) ⟨Below.refl _ _, rfl, nofr rfl⟩
        refine ⟨fun wu2 hC hd => ?_, ?_⟩
        · clear hd
          replace hb := hb.trans (hC.mono hb.size)
          replace hkb1 := blk_ext hkb1 hC
          replace hkb2 := blk_ext hkb2 hC
          exact Runs.does (r_move rfl) ⟨Below.refl _ _, rfl, nofr rfl⟩
        refine ⟨fun wu3 hC hd => ?_, ?_⟩
        · obtain ⟨h1, h2, _⟩ := hd
          skip
          skip
          replace h1 : V 1 = (.slice a L.length c) := h1
          replace h2 : V 2 = (.int .i64 ((k : Nat) : Int)) := h2
          replace hb := hb.trans (hC.mono hb.size)
          replace hkb1 := blk_ext hkb1 hC
          replace hkb2 := blk_ext hkb2 hC
          exact Runs.does (r_ixa (sz := 1) (j := k) (evAt (congrArg some h1) hat1) (congrArg some h2) Tryd.underlying23 (by kernel_rfl) rfl (by omega) rfl) ⟨Below.refl _ _, rfl, nofr rfl⟩
        refine ⟨fun wu4 hC hd => ?_, ?_⟩
        · obtain ⟨h3, _⟩ := hd
          skip
          replace h3 : V 3 = (.pointer (some ⟨ab1, (aoff1 + k * 1), none⟩)) := h3
          replace hb := hb.trans (hC.mono hb.size)
          replace hkb1 := blk_ext hkb1 hC
          replace hkb2 := blk_ext hkb2 hC
          exact Runs.does (r_load (v := (.int .u32 y)) (congrArg some h3) Tryd.underlying62 rfl (cellsAt_cell (cellsAt_below hel1 hb hlb1) (i := 0) rfl rfl)) ⟨Below.refl _ _, rfl, nofr rfl⟩
        refine ⟨fun wu5 hC hd => ?_, ?_⟩
        · clear hd
          replace hb := hb.trans (hC.mono hb.size)
          replace hkb1 := blk_ext hkb1 hC
          replace hkb2 := blk_ext hkb2 hC
          exact Runs.does (r_fa rfl Tryd.underlying25 (f := 3) (q := 3) rfl (by kernel_rfl) rfl) ⟨Below.refl _ _, rfl, nofr rfl⟩
        refine ⟨fun wu6 hC hd => ?_, ?_⟩
        · obtain ⟨h5, _⟩ := hd
          skip
          replace h5 : V 5 = (.pointer (some ⟨b2, 3, none⟩)) := h5
          replace hb := hb.trans (hC.mono hb.size)
          replace hkb1 := blk_ext hkb1 hC
          replace hkb2 := blk_ext hkb2 hC
          exact Runs.does (r_load (v := (.slice a2 L.length c2)) (congrArg some h5) Tryd.underlying23 rfl (cell_blk hkb2 rfl)) ⟨Below.refl _ _, rfl, nofr rfl⟩
        refine ⟨fun wu7 hC hd => ?_, ?_⟩
        · clear hd
          replace hb := hb.trans (hC.mono hb.size)
          replace hkb1 := blk_ext hkb1 hC
          replace hkb2 := blk_ext hkb2 hC
          exact Runs.does (r_move rfl) ⟨Below.refl _ _, rfl, nofr rfl⟩
        refine ⟨fun wu8 hC hd => ?_, ?_⟩
        · obtain ⟨h6, h7, _⟩ := hd
          skip
          skip
          replace h6 : V 6 = (.slice a2 L.length c2) := h6
          replace h7 : V 7 = (.int .i64 ((k : Nat) : Int)) := h7
          replace hb := hb.trans (hC.mono hb.size)
          replace hkb1 := blk_ext hkb1 hC
          replace hkb2 := blk_ext hkb2 hC
          exact Runs.does (r_ixa (sz := 1) (j := k) (evAt (congrArg some h6) hat2) (congrArg some h7) Tryd.underlying23 (by kernel_rfl) rfl (by omega) rfl) ⟨Below.refl _ _, rfl, nofr rfl⟩
        refine ⟨fun wu9 hC hd => ?_, ?_⟩
        · obtain ⟨h8, _⟩ := hd
          skip
          replace h8 : V 8 = (.pointer (some ⟨ab2, (aoff2 + k * 1), none⟩)) := h8
          replace hb := hb.trans (hC.mono hb.size)
          replace hkb1 := blk_ext hkb1 hC
          replace hkb2 := blk_ext hkb2 hC
          exact Runs.does (r_load (v := (.int .u32 y)) (congrArg some h8) Tryd.underlying62 rfl (cellsAt_cell (cellsAt_below hel2 hb hlb2) (i := 0) rfl rfl)) ⟨Below.refl _ _, rfl, nofr rfl⟩
        refine ⟨fun wu10 hC hd => ?_, ?_⟩
        · obtain ⟨h4, h9, _⟩ := hd
          skip
          skip
          replace h4 : V 4 = (.int .u32 y) := h4
          replace h9 : V 9 = (.int .u32 y) := h9
          replace hb := hb.trans (hC.mono hb.size)
          replace hkb1 := blk_ext hkb1 hC
          replace hkb2 := blk_ext hkb2 hC
          exact Runs.does (Runs.veq (r_ne (congrArg some h4) (congrArg some h9)) (congrArg Value.bool (show _ = false from (by simp)))) ⟨Below.refl _ _, rfl, nofr rfl⟩
        trivial
      · skip
        clear hf fa; intro V w4 fa he3 hp hnb hf
        have hv0 : V 0 = (.pointer (some ⟨b1, 3, none⟩)) := postsHold_at hp 0 rfl
        have hv1 : V 1 = (.slice a L.length c) := postsHold_at hp 1 rfl
        have hv2 : V 2 = (.int .i64 ((k : Nat) : Int)) := postsHold_at hp 2 rfl
        have hv3 : V 3 = (.pointer (some ⟨ab1, (aoff1 + k * 1), none⟩)) := postsHold_at hp 3 rfl
        have hv4 : V 4 = (.int .u32 y) := postsHold_at hp 4 rfl
        have hv5 : V 5 = (.pointer (some ⟨b2, 3, none⟩)) := postsHold_at hp 5 rfl
        have hv6 : V 6 = (.slice a2 L.length c2) := postsHold_at hp 6 rfl
        have hv7 : V 7 = (.int .i64 ((k : Nat) : Int)) := postsHold_at hp 7 rfl
        have hv8 : V 8 = (.pointer (some ⟨ab2, (aoff2 + k * 1), none⟩)) := postsHold_at hp 8 rfl
        have hv9 : V 9 = (.int .u32 y) := postsHold_at hp 9 rfl
        have hv10 : V 10 = (.bool false) := postsHold_at hp 10 rfl
        simp only [List.take_succ_cons, List.take_zero, insAll, ins, hv0, hv1, hv2, hv3, hv4, hv5, hv6, hv7, hv8, hv9, hv10] at hf
        clear hp hnb hv0 hv1 hv2 hv3 hv4 hv5 hv6 hv7 hv8 hv9 hv10
        replace hkb1 := blk_ext hkb1 he3
        replace hkb2 := blk_ext hkb2 he3
        replace hb := hb.trans (Below.mono he3 hb.size)
        (try simp only [Exit.then, Exit.inBlock, ↓reduceIte, Nat.reduceEqDiff])
        refine hK9 _ _ ?_
        refine wp_cond_false (hf.ev rfl) ?_
        refine wp_skip ?_
        (try simp only [Exit.then, Exit.inBlock, ↓reduceIte, Nat.reduceEqDiff])
        refine hK8 _ _ ?_
        refine wp_region_lit ?_
        refine sqv hf (r_move rfl) rfl rfl rfl ?_; clear hf fa; intro fa hf
        refine sqv hf (r_add (C := (((k : Nat) : Int) + (1 : Int))) rfl rfl (by rw [IntKind.wrap_i64]; omega)) rfl rfl rfl ?_; clear hf fa; intro fa hf
        refine sqv hf (r_assign rfl) rfl rfl rfl ?_; clear hf fa; intro fa hf
        apply wpList_nil
        (try simp only [Exit.then, Exit.inBlock, ↓reduceIte, Nat.reduceEqDiff])
        refine hKL1 _ _ _ (by omega) ⟨(k + 1), rfl, hf.sub ⟨rfl, rfl, (some_int (by first | rfl | omega)), trivial⟩, hb, hkb1, hkb2, by omega⟩
    · have hqt38_1b := hqt38_1
      replace hqt38_1 := Bool.eq_false_iff.1 hqt38_1
      try simp only [ne_eq, decide_eq_true_eq, Bool.and_eq_true, Bool.or_eq_true, Bool.not_eq_true', decide_eq_false_iff_not] at hqt38_1
      refine wp_exit ?_
      (try simp only [Exit.then, Exit.inBlock, ↓reduceIte, Nat.reduceEqDiff])
      refine hK4 _ _ ?_
      refine wp_seq_k (fun K10 hK10 => ?_)
      refine wp_region_lit ?_
      refine sqv hf (r_assign rfl) rfl rfl rfl ?_; clear hf fa; intro fa hf
      apply wpList_nil
      (try simp only [Exit.then, Exit.inBlock, ↓reduceIte, Nat.reduceEqDiff])
      refine hK10 _ _ ?_
      refine wp_ret ?_
      (try simp only [Exit.then, Exit.inBlock])
      refine ret1 hf rfl rfl ?_
      exact ⟨rfl, hb⟩

theorem dS2 : dS 2 = ⟨#[50]⟩ := by unfold dS digB; rw [if_neg (by decide), show (2 : Int).natAbs = 2 from rfl, natB_lt (by decide)]; rfl
theorem dS8 : dS 8 = ⟨#[56]⟩ := by unfold dS digB; rw [if_neg (by decide), show (8 : Int).natAbs = 8 from rfl, natB_lt (by decide)]; rfl
theorem right_ex : rightP 40 2 8 0 = 0 := by decide +kernel
theorem imm_ex : (infP 40).2.1 = 8 := by decide +kernel
theorem nm_ex : nmO 40 = ⟨#[105, 51, 50, 46, 108, 111, 97, 100]⟩ := by decide +kernel
theorem line_ex : lineP 40 2 8 [] = ⟨#[105, 51, 50, 46, 108, 111, 97, 100, 32, 97, 108, 105, 103, 110, 61, 50, 32, 111, 102, 102, 115, 101, 116, 61, 56]⟩ := by
  unfold lineP
  rw [if_pos (show rightP 40 2 8 ([] : List Int).length = 0 from right_ex)]
  unfold behindP
  rw [imm_ex, if_neg (by decide), if_neg (by decide), if_neg (by decide), if_pos rfl, nm_ex, show sA 2 = 2 from rfl, show sA 8 = 8 from rfl, dS2, dS8]
  rfl
theorem line46 (w : World) : Calls Tryd.prog 7 #[.agg #[.int .u8 40, .int .u64 2, .int .u64 8, .slice none 0 0]] w fun e w' => e = .returned (.string ⟨#[105, 51, 50, 46, 108, 111, 97, 100, 32, 97, 108, 105, 103, 110, 61, 50, 32, 111, 102, 102, 115, 101, 116, 61, 56]⟩) ∧ Below w.heap.size w w' := by
  have h := line_any 40 2 8 [] none 0 w RdS.nil (fun y hy => by cases hy) (by decide) (by decide) (by decide) (Nat.le_refl 0) (by decide)
  rw [line_ex] at h
  exact h

set_option maxHeartbeats 1000000 in
set_option maxRecDepth 100000 in
theorem awake46_any (w : World) : Calls Tryd.prog 6 #[] w fun e w' => e = .returned (.bool true) ∧ Below w.heap.size w w' := by
  refine sx_enter (L := []) Tryd.func6 rfl rfl rfl rfl (fun fa hf => ?_)
  have hb : Below w.heap.size w w := Below.refl _ _
  refine wp_seq_k (fun K1 hK1 => ?_)
  refine wp_region_lit ?_
  refine sqv hf (r_assign rfl) rfl rfl rfl ?_; clear hf fa; intro fa hf
  apply wpList_nil
  (try simp only [Exit.then, Exit.inBlock, ↓reduceIte, Nat.reduceEqDiff])
  refine hK1 _ _ ?_
  refine wp_seq_k (fun K2 hK2 => ?_)
  refine wp_region_lit ?_
  refine sqv hf (r_build (vs := [(0, (.int .u8 (40 : Int))), (1, (.int .u64 (2 : Int))), (2, (.int .u64 (8 : Int)))]) (cs := #[(.int .u8 (40 : Int)), (.int .u64 (2 : Int)), (.int .u64 (8 : Int)), (.slice none 0 0)]) rfl (fun _ => by kernel_rfl)) rfl rfl rfl ?_; clear hf fa; intro fa hf
  refine sqdt hf (d_callB (vs := [(.agg #[(.int .u8 (40 : Int)), (.int .u64 (2 : Int)), (.int .u64 (8 : Int)), (.slice none 0 0)])]) rfl Tryd.func7 (by kernel_rfl) (by kernel_rfl) (line46 _)) rfl rfl rfl ?_; clear hf fa; rintro fa _ w1 ⟨rfl, he1⟩ hf
  replace hb := hb.trans (Below.mono he1 hb.size)
  refine sqv hf (Runs.veq (r_seq rfl rfl) (congrArg Value.bool (show _ = true from (by simp)))) rfl rfl rfl ?_; clear hf fa; intro fa hf
  refine sqv hf (r_assign rfl) rfl rfl rfl ?_; clear hf fa; intro fa hf
  apply wpList_nil
  (try simp only [Exit.then, Exit.inBlock, ↓reduceIte, Nat.reduceEqDiff])
  refine hK2 _ _ ?_
  refine wp_ret ?_
  (try simp only [Exit.then, Exit.inBlock])
  refine ret1 hf rfl rfl ?_
  exact ⟨rfl, hb⟩
end Go.Proofs.YtpalmpfkliepfaaDoor

namespace Go.Proofs.YtpalmpfkliepfaaDoor
open Go.RowKit Ut
set_option linter.unusedVariables false
set_option linter.unusedSimpArgs false
attribute [local irreducible] infP ofP chkP rchkP

theorem RdS.kb {α : Type} {k bi : Nat} {V : α → List Value} {w w' : World} {a : Option Addr} {l : List α} (h : RdS k V w a l) (hb : KB bi w.heap.size w w') (hnb : ∀ q : Addr, a = some q → q.block ≠ bi) : RdS k V w' a l := by
  intro j x hx
  obtain ⟨b, off, ha, hl, he⟩ := h j x hx
  exact ⟨b, off, ha, Nat.lt_of_lt_of_le hl hb.size, cellsAt_kb he hb hl (hnb _ ha)⟩
def lblK (op : Nat) (W : List ByteArray) : Bool := (nbsP W).2 && (!decide ((nbsP W).1.length = 0) && !(decide (1 < (nbsP W).1.length) && decide ((infP op).2.1 ≠ 3)))
def resK (op : Nat) (W : List ByteArray) : Bool :=
  if (infP op).2.1 = 0 ∨ (infP op).2.1 = 9 then decide (W.length = 0)
  else if (infP op).2.1 = 1 then decide (W.length ≤ 1)
  else if (infP op).2.1 = 8 then accK W
  else if (infP op).2.1 = 10 then (conP W true).2
  else if (infP op).2.1 = 11 then (conP W false).2
  else lblK op W
def resA (op : Nat) (W : List ByteArray) : Int :=
  if (infP op).2.1 = 0 ∨ (infP op).2.1 = 9 then 0
  else if (infP op).2.1 = 1 then (if W.length = 1 then bytP (wd W 0) else 64)
  else if (infP op).2.1 = 8 then (accP W).1
  else if (infP op).2.1 = 10 then (conP W true).1
  else if (infP op).2.1 = 11 then (conP W false).1
  else if lblK op W = true then (nbsP W).1.getD ((nbsP W).1.length - 1) 0 else 0
def resB (op : Nat) (W : List ByteArray) : Int := if (infP op).2.1 = 8 then (accP W).2 else 0
def resL (op : Nat) (W : List ByteArray) : List Int :=
  if (infP op).2.1 = 0 ∨ (infP op).2.1 = 9 ∨ (infP op).2.1 = 1 ∨ (infP op).2.1 = 8 ∨ (infP op).2.1 = 10 ∨ (infP op).2.1 = 11 then []
  else if lblK op W = true then (nbsP W).1.take ((nbsP W).1.length - 1) else []
theorem nbsA_rng (W : List ByteArray) : ∀ o, (∀ y ∈ o, 0 ≤ y ∧ y < (4294967296 : Int)) → ∀ y ∈ (nbsA o W).1, 0 ≤ y ∧ y < (4294967296 : Int) := by
  induction W with
  | nil => intro o h; exact h
  | cons z l ih =>
    intro o h
    rw [nbsA]
    split
    · rename_i hk
      refine ih _ (fun y hy => ?_)
      rcases List.mem_append.1 hy with h1 | h1
      · exact h y h1
      · rw [List.mem_singleton] at h1
        subst h1
        unfold okN at hk
        simp at hk
        omega
    · intro y hy; cases hy
theorem nbs_rng (W : List ByteArray) : ∀ y ∈ (nbsP W).1, 0 ≤ y ∧ y < (4294967296 : Int) := nbsA_rng W [] (fun y hy => by cases hy)

theorem bytO_rng (j : Nat) : 0 ≤ bytO j ∧ bytO j < 256 := by
  match j with
  | 0 => decide
  | 1 => decide
  | 2 => decide
  | 3 => decide
  | 4 => decide
  | n + 5 => exact ⟨Int.le_refl 0, by show (0 : Int) < 256; decide⟩
theorem bytR_rng (s : ByteArray) : ∀ f i, 0 ≤ bytR s f i ∧ bytR s f i < 256 := by
  intro f
  induction f with
  | zero => intro i; exact ⟨Int.le_refl 0, by show (0 : Int) < 256; decide⟩
  | succ f ih =>
    intro i
    rw [bytR]
    split
    · exact bytO_rng i
    · exact ih (i + 1)
theorem bytP_rng (s : ByteArray) : 0 ≤ bytP s ∧ bytP s < 256 := bytR_rng s 5 0
theorem lblK_no {op : Nat} {W : List ByteArray} (h : ((nbsP W).2 = false ∨ (((nbsP W).1.length : Nat) : Int) = 0) ∨ (1 : Int) < (((nbsP W).1.length : Nat) : Int) ∧ ¬ (infP op).2.1 = 3) : lblK op W = false := by
  unfold lblK
  rcases h with (h | h) | ⟨h, h3⟩
  · rw [h]; rfl
  · rw [decide_eq_true (show (nbsP W).1.length = 0 by omega)]; simp
  · rw [decide_eq_true (show 1 < (nbsP W).1.length by omega), decide_eq_true (show (infP op).2.1 ≠ 3 from h3)]; simp
theorem lblK_yes {op : Nat} {W : List ByteArray} (h : ¬ (((nbsP W).2 = false ∨ (((nbsP W).1.length : Nat) : Int) = 0) ∨ (1 : Int) < (((nbsP W).1.length : Nat) : Int) ∧ ¬ (infP op).2.1 = 3)) : lblK op W = true := by
  have h1 : (nbsP W).2 = true := by
    cases hz : (nbsP W).2 with
    | true => rfl
    | false => exact absurd (.inl (.inl hz)) h
  unfold lblK
  rw [h1, decide_eq_false (show ¬ (nbsP W).1.length = 0 from fun e => h (.inl (.inr (by omega))))]
  by_cases h3 : (infP op).2.1 = 3
  · rw [decide_eq_false (show ¬ (infP op).2.1 ≠ 3 from fun e => e h3)]; simp
  · rw [decide_eq_false (show ¬ 1 < (nbsP W).1.length from fun e => h (.inr ⟨by omega, h3⟩))]; rfl

set_option maxHeartbeats 1000000 in
set_option maxRecDepth 100000 in
theorem rest_any (op bi : Nat) (a : Option Addr) (W : List ByteArray) (c : Nat) (w : World) (hnb : ∀ q : Addr, a = some q → q.block ≠ bi) (hki : w.heap[bi]? = some (.cells #[(.int .u8 ((op : Nat) : Int)), (.int .u64 (0 : Int)), (.int .u64 (0 : Int)), (.slice none 0 0)] 25 (0, 0))) (hl : RdS 1 vStr w a W) (hc : W.length ≤ c) (hn : W.length ≤ 100000) (hW : ∀ y ∈ W, y.size ≤ 100000) (hop : op < 256) : Calls Tryd.prog 28 #[(.pointer (some ⟨bi, 0, none⟩)), (.slice a W.length c)] w fun e w' => e = .returned (.bool (resK op W)) ∧ ∃ aL cL, w'.heap[bi]? = some (.cells #[.int .u8 ((op : Nat) : Int), .int .u64 (resA op W), .int .u64 (resB op W), .slice aL (resL op W).length cL] 25 (0, 0)) ∧ Row 1 (vInt .u32) 62 w.heap.size w' (.slice aL (resL op W).length cL) (resL op W) ∧ w.grownBy w' (some bi) := by
  have hnl : (nbsP W).1.length ≤ W.length := (by have h := nbsA_len W []; simp at h; exact h)
  have hby := bytP_rng (wd W 0)
  refine sx_enter (L := [(0, (.pointer (some ⟨bi, 0, none⟩))), (1, (.slice a W.length c))]) Tryd.func28 rfl rfl rfl rfl (fun fa hf => ?_)
  have hb : KB bi w.heap.size w w := KB.refl _ _ _
  refine wp_seq_k (fun K1 hK1 => ?_)
  refine wp_region_lit ?_
  refine sqv hf (r_assign rfl) rfl rfl rfl ?_; clear hf fa; intro fa hf
  apply wpList_nil
  (try simp only [Exit.then, Exit.inBlock, ↓reduceIte, Nat.reduceEqDiff])
  refine hK1 _ _ ?_
  refine wp_seq_k (fun K2 hK2 => ?_)
  refine wp_seq_k (fun K3 hK3 => ?_)
  refine wp_region_lit ?_
  refine sqv hf (r_move rfl) rfl rfl rfl ?_; clear hf fa; intro fa hf
  refine sqv hf (r_nilCheck rfl) rfl rfl rfl ?_; clear hf fa; intro fa hf
  refine sqv hf (r_fa rfl Tryd.underlying25 (f := 0) (q := 0) rfl (by kernel_rfl) rfl) rfl rfl rfl ?_; clear hf fa; intro fa hf
  refine sqv hf (r_load (v := (.int .u8 ((op : Nat) : Int))) rfl Tryd.underlying5 rfl (cell_blk hki rfl)) rfl rfl rfl ?_; clear hf fa; intro fa hf
  refine sqdt hf (d_callB (vs := [(.int .u8 ((op : Nat) : Int))]) rfl Tryd.func20 (by kernel_rfl) (by kernel_rfl) (inf_any op _ hop)) rfl rfl rfl ?_; clear hf fa; rintro fa _ w1 ⟨rfl, he1⟩ hf
  replace hki := blk_ext hki he1
  replace hb := hb.trans (Below.mono he1 hb.size)
  refine sqv hf (r_field (cs := #[(.string (infP op).1), (.int .i64 ((infP op).2.1)), (.string (infP op).2.2.1), (.string (infP op).2.2.2.1), (.bool (infP op).2.2.2.2.1)]) (v := (.int .i64 ((infP op).2.1))) rfl (fun _ => by kernel_rfl)) rfl rfl rfl ?_; clear hf fa; intro fa hf
  apply wpList_nil
  (try simp only [Exit.then, Exit.inBlock, ↓reduceIte, Nat.reduceEqDiff])
  refine hK3 _ _ ?_
  refine wp_block ?_
  refine wp_seq_k (fun K4 hK4 => ?_)
  refine wp_seq_k (fun K5 hK5 => ?_)
  refine wp_region_lit ?_
  refine sqv hf (r_eq rfl rfl) rfl rfl rfl ?_; clear hf fa; intro fa hf
  refine sqv hf (r_assign rfl) rfl rfl rfl ?_; clear hf fa; intro fa hf
  apply wpList_nil
  (try simp only [Exit.then, Exit.inBlock, ↓reduceIte, Nat.reduceEqDiff])
  refine hK5 _ _ ?_
  refine wp_cond_split (t := (decide (((infP op).2.1) = (0 : Int)))) (hf.ev rfl) (fun hqt15_1 => ?_) (fun hqt15_1 => ?_)
  · have hqt15_1b := hqt15_1
    try simp only [decide_eq_true_eq, Bool.and_eq_true, Bool.or_eq_true, Bool.not_eq_true', decide_eq_false_iff_not, ne_eq, Bool.not_eq_true] at hqt15_1
    refine wp_skip ?_
    (try simp only [Exit.then, Exit.inBlock, ↓reduceIte, Nat.reduceEqDiff])
    refine hK4 _ _ ?_
    refine wp_cond_true ((hf.ev rfl).trans (congrArg Value.bool (show (decide (((infP op).2.1) = (0 : Int))) = true from hqt15_1b))) ?_
    refine wp_seq_k (fun K6 hK6 => ?_)
    refine wp_region_lit ?_
    refine sqv hf (r_move rfl) rfl rfl rfl ?_; clear hf fa; intro fa hf
    refine sqv hf (r_lensl rfl Tryd.underlying43) rfl rfl rfl ?_; clear hf fa; intro fa hf
    refine sqv hf (r_eq rfl rfl) rfl rfl rfl ?_; clear hf fa; intro fa hf
    refine sqv hf (r_assign rfl) rfl rfl rfl ?_; clear hf fa; intro fa hf
    apply wpList_nil
    (try simp only [Exit.then, Exit.inBlock, ↓reduceIte, Nat.reduceEqDiff])
    refine hK6 _ _ ?_
    refine wp_ret ?_
    (try simp only [Exit.then, Exit.inBlock])
    refine ret1 hf rfl rfl ?_
    have hB : resB op W = 0 := by unfold resB; rw [if_neg (by have h0 := hqt15_1; omega)]
    have hL : resL op W = [] := by unfold resL; rw [if_pos (by have h0 := hqt15_1; omega)]
    have hK : resK op W = (decide (((W.length : Nat) : Int) = (0 : Int))) := by unfold resK; rw [if_pos (by have h0 := hqt15_1; omega)]; exact decide_eq_decide.2 (by omega)
    have hA : resA op W = (0 : Int) := by unfold resA; rw [if_pos (by have h0 := hqt15_1; omega)]
    rw [hK, hA, hB, hL]
    exact ⟨rfl, none, 0, hki, Row.nil, hb.grown⟩
  · have hqt15_1b := hqt15_1
    replace hqt15_1 := Bool.eq_false_iff.1 hqt15_1
    try simp only [ne_eq, decide_eq_true_eq, Bool.and_eq_true, Bool.or_eq_true, Bool.not_eq_true', decide_eq_false_iff_not] at hqt15_1
    refine wp_region_lit ?_
    refine sqv hf (r_eq rfl rfl) rfl rfl rfl ?_; clear hf fa; intro fa hf
    refine sqv hf (r_assign rfl) rfl rfl rfl ?_; clear hf fa; intro fa hf
    apply wpList_nil
    (try simp only [Exit.then, Exit.inBlock, ↓reduceIte, Nat.reduceEqDiff])
    refine hK4 _ _ ?_
    refine wp_cond_split (t := (decide (((infP op).2.1) = (9 : Int)))) (hf.ev rfl) (fun hqt15_3 => ?_) (fun hqt15_3 => ?_)
    · have hqt15_3b := hqt15_3
      try simp only [decide_eq_true_eq, Bool.and_eq_true, Bool.or_eq_true, Bool.not_eq_true', decide_eq_false_iff_not, ne_eq, Bool.not_eq_true] at hqt15_3
      refine wp_seq_k (fun K7 hK7 => ?_)
      refine wp_region_lit ?_
      refine sqv hf (r_move rfl) rfl rfl rfl ?_; clear hf fa; intro fa hf
      refine sqv hf (r_lensl rfl Tryd.underlying43) rfl rfl rfl ?_; clear hf fa; intro fa hf
      refine sqv hf (r_eq rfl rfl) rfl rfl rfl ?_; clear hf fa; intro fa hf
      refine sqv hf (r_assign rfl) rfl rfl rfl ?_; clear hf fa; intro fa hf
      apply wpList_nil
      (try simp only [Exit.then, Exit.inBlock, ↓reduceIte, Nat.reduceEqDiff])
      refine hK7 _ _ ?_
      refine wp_ret ?_
      (try simp only [Exit.then, Exit.inBlock])
      refine ret1 hf rfl rfl ?_
      have hB : resB op W = 0 := by unfold resB; rw [if_neg (by have h0 := hqt15_1; have h1 := hqt15_3; omega)]
      have hL : resL op W = [] := by unfold resL; rw [if_pos (by have h0 := hqt15_1; have h1 := hqt15_3; omega)]
      have hK : resK op W = (decide (((W.length : Nat) : Int) = (0 : Int))) := by unfold resK; rw [if_pos (by have h0 := hqt15_1; have h1 := hqt15_3; omega)]; exact decide_eq_decide.2 (by omega)
      have hA : resA op W = (0 : Int) := by unfold resA; rw [if_pos (by have h0 := hqt15_1; have h1 := hqt15_3; omega)]
      rw [hK, hA, hB, hL]
      exact ⟨rfl, none, 0, hki, Row.nil, hb.grown⟩
    · have hqt15_3b := hqt15_3
      replace hqt15_3 := Bool.eq_false_iff.1 hqt15_3
      try simp only [ne_eq, decide_eq_true_eq, Bool.and_eq_true, Bool.or_eq_true, Bool.not_eq_true', decide_eq_false_iff_not] at hqt15_3
      refine wp_seq_k (fun K8 hK8 => ?_)
      refine wp_region_lit ?_
      refine sqv hf (r_eq rfl rfl) rfl rfl rfl ?_; clear hf fa; intro fa hf
      refine sqv hf (r_assign rfl) rfl rfl rfl ?_; clear hf fa; intro fa hf
      apply wpList_nil
      (try simp only [Exit.then, Exit.inBlock, ↓reduceIte, Nat.reduceEqDiff])
      refine hK8 _ _ ?_
      refine wp_cond_split (t := (decide (((infP op).2.1) = (1 : Int)))) (hf.ev rfl) (fun hqt21_1 => ?_) (fun hqt21_1 => ?_)
      · have hqt21_1b := hqt21_1
        try simp only [decide_eq_true_eq, Bool.and_eq_true, Bool.or_eq_true, Bool.not_eq_true', decide_eq_false_iff_not, ne_eq, Bool.not_eq_true] at hqt21_1
        refine wp_seq_k (fun K9 hK9 => ?_)
        refine wp_region_lit ?_
        refine sqv hf (r_move rfl) rfl rfl rfl ?_; clear hf fa; intro fa hf
        refine sqv hf (r_nilCheck rfl) rfl rfl rfl ?_; clear hf fa; intro fa hf
        refine sqv hf (r_fa rfl Tryd.underlying25 (f := 1) (q := 1) rfl (by kernel_rfl) rfl) rfl rfl rfl ?_; clear hf fa; intro fa hf
        refine sqn hf (d_storeK (T := 25) (v := (.int .u64 (64 : Int))) (cs := #[(.int .u8 ((op : Nat) : Int)), (.int .u64 (0 : Int)), (.int .u64 (0 : Int)), (.slice none 0 0)]) (cs' := #[(.int .u8 ((op : Nat) : Int)), (.int .u64 (64 : Int)), (.int .u64 (0 : Int)), (.slice none 0 0)]) rfl rfl (by kernel_rfl) (by kernel_rfl) hki (by kernel_rfl) (by kernel_rfl)) rfl rfl ?_; clear hf fa; rintro fa _ w2 ⟨hk1, hg1⟩ hf
        replace hb := hb.wrote hg1 hb.size
        apply wpList_nil
        (try simp only [Exit.then, Exit.inBlock, ↓reduceIte, Nat.reduceEqDiff])
        refine hK9 _ _ ?_
        refine wp_seq_k (fun K10 hK10 => ?_)
        refine wp_seq_k (fun K11 hK11 => ?_)
        refine wp_region_lit ?_
        refine sqv hf (r_move rfl) rfl rfl rfl ?_; clear hf fa; intro fa hf
        refine sqv hf (r_lensl rfl Tryd.underlying43) rfl rfl rfl ?_; clear hf fa; intro fa hf
        refine sqv hf (r_eq rfl rfl) rfl rfl rfl ?_; clear hf fa; intro fa hf
        apply wpList_nil
        (try simp only [Exit.then, Exit.inBlock, ↓reduceIte, Nat.reduceEqDiff])
        refine hK11 _ _ ?_
        refine wp_cond_split (t := (decide (((W.length : Nat) : Int) = (1 : Int)))) (hf.ev rfl) (fun hqt28_1 => ?_) (fun hqt28_1 => ?_)
        · have hqt28_1b := hqt28_1
          try simp only [decide_eq_true_eq, Bool.and_eq_true, Bool.or_eq_true, Bool.not_eq_true', decide_eq_false_iff_not, ne_eq, Bool.not_eq_true] at hqt28_1
          refine wp_region_lit ?_
          refine sqv hf (r_move rfl) rfl rfl rfl ?_; clear hf fa; intro fa hf
          refine sqv hf (r_move rfl) rfl rfl rfl ?_; clear hf fa; intro fa hf
          have hy1 : (W)[0]? = some (wd W 0) := (wd_at (by omega))
          obtain ⟨ab1, aoff1, hat1, hlb1, hel1⟩ := RdS.at hl hy1
          have hneab1 : ab1 ≠ bi := hnb _ hat1
          refine sqv hf (r_ixa (sz := 1) (j := 0) (evAt rfl hat1) rfl Tryd.underlying43 (by kernel_rfl) rfl (by omega) rfl) rfl rfl rfl ?_; clear hf fa; intro fa hf
          refine sqv hf (r_load (v := (.string (wd W 0))) rfl Tryd.underlying9 rfl (cellsAt_cell (cellsAt_kb hel1 hb hlb1 hneab1) (i := 0) rfl rfl)) rfl rfl rfl ?_; clear hf fa; intro fa hf
          refine sqdt hf (d_callB (v := (.int .u8 ((bytP (wd W 0))))) (vs := [(.string (wd W 0))]) rfl Tryd.func54 (by kernel_rfl) (by kernel_rfl) (byte_any (wd W 0) _)) rfl rfl rfl ?_; clear hf fa; rintro fa _ w3 ⟨rfl, he2⟩ hf
          replace hk1 := blk_ext hk1 he2
          replace hb := hb.trans (Below.mono he2 hb.size)
          refine sqv hf (r_conv (C := ((bytP (wd W 0)))) rfl Tryd.underlying5 Tryd.underlying22 (by rw [IntKind.wrap_u64]; omega)) rfl rfl rfl ?_; clear hf fa; intro fa hf
          refine sqv hf (r_nilCheck rfl) rfl rfl rfl ?_; clear hf fa; intro fa hf
          refine sqv hf (r_fa rfl Tryd.underlying25 (f := 1) (q := 1) rfl (by kernel_rfl) rfl) rfl rfl rfl ?_; clear hf fa; intro fa hf
          refine sqn hf (d_storeK (T := 25) (v := (.int .u64 ((bytP (wd W 0))))) (cs := #[(.int .u8 ((op : Nat) : Int)), (.int .u64 (64 : Int)), (.int .u64 (0 : Int)), (.slice none 0 0)]) (cs' := #[(.int .u8 ((op : Nat) : Int)), (.int .u64 ((bytP (wd W 0)))), (.int .u64 (0 : Int)), (.slice none 0 0)]) rfl rfl (by kernel_rfl) (by kernel_rfl) hk1 (by kernel_rfl) (by kernel_rfl)) rfl rfl ?_; clear hf fa; rintro fa _ w4 ⟨hk2, hg2⟩ hf
          replace hb := hb.wrote hg2 hb.size
          apply wpList_nil
          (try simp only [Exit.then, Exit.inBlock, ↓reduceIte, Nat.reduceEqDiff])
          refine hK10 _ _ ?_
          refine wp_seq_k (fun K12 hK12 => ?_)
          refine wp_region_lit ?_
          refine sqv hf (r_move rfl) rfl rfl rfl ?_; clear hf fa; intro fa hf
          refine sqv hf (r_lensl rfl Tryd.underlying43) rfl rfl rfl ?_; clear hf fa; intro fa hf
          refine sqv hf (r_le rfl rfl) rfl rfl rfl ?_; clear hf fa; intro fa hf
          refine sqv hf (r_assign rfl) rfl rfl rfl ?_; clear hf fa; intro fa hf
          apply wpList_nil
          (try simp only [Exit.then, Exit.inBlock, ↓reduceIte, Nat.reduceEqDiff])
          refine hK12 _ _ ?_
          refine wp_ret ?_
          (try simp only [Exit.then, Exit.inBlock])
          refine ret1 hf rfl rfl ?_
          have hB : resB op W = 0 := by unfold resB; rw [if_neg (by have h0 := hqt15_1; have h1 := hqt15_3; have h2 := hqt21_1; omega)]
          have hL : resL op W = [] := by unfold resL; rw [if_pos (by have h0 := hqt15_1; have h1 := hqt15_3; have h2 := hqt21_1; omega)]
          have hK : resK op W = (decide (((W.length : Nat) : Int) ≤ (1 : Int))) := by unfold resK; rw [if_neg (by have h0 := hqt15_1; have h1 := hqt15_3; have h2 := hqt21_1; omega), if_pos (by have h0 := hqt15_1; have h1 := hqt15_3; have h2 := hqt21_1; omega)]; exact decide_eq_decide.2 (by omega)
          have hA : resA op W = ((bytP (wd W 0))) := by unfold resA; rw [if_neg (by have h0 := hqt15_1; have h1 := hqt15_3; have h2 := hqt21_1; omega), if_pos (by have h0 := hqt15_1; have h1 := hqt15_3; have h2 := hqt21_1; omega)]; rw [if_pos (by have h := hqt28_1; omega)]
          rw [hK, hA, hB, hL]
          exact ⟨rfl, none, 0, hk2, Row.nil, hb.grown⟩
        · have hqt28_1b := hqt28_1
          replace hqt28_1 := Bool.eq_false_iff.1 hqt28_1
          try simp only [ne_eq, decide_eq_true_eq, Bool.and_eq_true, Bool.or_eq_true, Bool.not_eq_true', decide_eq_false_iff_not] at hqt28_1
          refine wp_skip ?_
          (try simp only [Exit.then, Exit.inBlock, ↓reduceIte, Nat.reduceEqDiff])
          refine hK10 _ _ ?_
          refine wp_seq_k (fun K13 hK13 => ?_)
          refine wp_region_lit ?_
          refine sqv hf (r_move rfl) rfl rfl rfl ?_; clear hf fa; intro fa hf
          refine sqv hf (r_lensl rfl Tryd.underlying43) rfl rfl rfl ?_; clear hf fa; intro fa hf
          refine sqv hf (r_le rfl rfl) rfl rfl rfl ?_; clear hf fa; intro fa hf
          refine sqv hf (r_assign rfl) rfl rfl rfl ?_; clear hf fa; intro fa hf
          apply wpList_nil
          (try simp only [Exit.then, Exit.inBlock, ↓reduceIte, Nat.reduceEqDiff])
          refine hK13 _ _ ?_
          refine wp_ret ?_
          (try simp only [Exit.then, Exit.inBlock])
          refine ret1 hf rfl rfl ?_
          have hB : resB op W = 0 := by unfold resB; rw [if_neg (by have h0 := hqt15_1; have h1 := hqt15_3; have h2 := hqt21_1; omega)]
          have hL : resL op W = [] := by unfold resL; rw [if_pos (by have h0 := hqt15_1; have h1 := hqt15_3; have h2 := hqt21_1; omega)]
          have hK : resK op W = (decide (((W.length : Nat) : Int) ≤ (1 : Int))) := by unfold resK; rw [if_neg (by have h0 := hqt15_1; have h1 := hqt15_3; have h2 := hqt21_1; omega), if_pos (by have h0 := hqt15_1; have h1 := hqt15_3; have h2 := hqt21_1; omega)]; exact decide_eq_decide.2 (by omega)
          have hA : resA op W = (64 : Int) := by unfold resA; rw [if_neg (by have h0 := hqt15_1; have h1 := hqt15_3; have h2 := hqt21_1; omega), if_pos (by have h0 := hqt15_1; have h1 := hqt15_3; have h2 := hqt21_1; omega)]; rw [if_neg (by have h := hqt28_1; omega)]
          rw [hK, hA, hB, hL]
          exact ⟨rfl, none, 0, hk1, Row.nil, hb.grown⟩
      · have hqt21_1b := hqt21_1
        replace hqt21_1 := Bool.eq_false_iff.1 hqt21_1
        try simp only [ne_eq, decide_eq_true_eq, Bool.and_eq_true, Bool.or_eq_true, Bool.not_eq_true', decide_eq_false_iff_not] at hqt21_1
        refine wp_seq_k (fun K14 hK14 => ?_)
        refine wp_region_lit ?_
        refine sqv hf (r_eq rfl rfl) rfl rfl rfl ?_; clear hf fa; intro fa hf
        refine sqv hf (r_assign rfl) rfl rfl rfl ?_; clear hf fa; intro fa hf
        apply wpList_nil
        (try simp only [Exit.then, Exit.inBlock, ↓reduceIte, Nat.reduceEqDiff])
        refine hK14 _ _ ?_
        refine wp_cond_split (t := (decide (((infP op).2.1) = (8 : Int)))) (hf.ev rfl) (fun hqt40_1 => ?_) (fun hqt40_1 => ?_)
        · have hqt40_1b := hqt40_1
          try simp only [decide_eq_true_eq, Bool.and_eq_true, Bool.or_eq_true, Bool.not_eq_true', decide_eq_false_iff_not, ne_eq, Bool.not_eq_true] at hqt40_1
          refine wp_seq_k (fun K15 hK15 => ?_)
          refine wp_region_lit ?_
          refine sqv hf (r_move rfl) rfl rfl rfl ?_; clear hf fa; intro fa hf
          refine sqv hf (r_move rfl) rfl rfl rfl ?_; clear hf fa; intro fa hf
          refine sqdt hf (d_callW (v := (.bool (accK W))) (b := bi) (T := 25) (cs := #[(.int .u8 ((op : Nat) : Int)), (.int .u64 ((accP W).1)), (.int .u64 ((accP W).2)), (.slice none 0 0)]) (vs := [(.pointer (some ⟨bi, 0, none⟩)), (.slice a W.length c)]) rfl Tryd.func55 (by kernel_rfl) (by kernel_rfl) (access_any op bi a W c _ hnb hki (RdS.kb hl hb hnb) hc hn hW hop)) rfl rfl rfl ?_; clear hf fa; rintro fa _ w5 ⟨rfl, hk3, hg3⟩ hf
          replace hb := hb.wrote hg3 hb.size
          refine sqv hf (r_assign rfl) rfl rfl rfl ?_; clear hf fa; intro fa hf
          apply wpList_nil
          (try simp only [Exit.then, Exit.inBlock, ↓reduceIte, Nat.reduceEqDiff])
          refine hK15 _ _ ?_
          refine wp_ret ?_
          (try simp only [Exit.then, Exit.inBlock])
          refine ret1 hf rfl rfl ?_
          have hB : resB op W = (accP W).2 := by unfold resB; rw [if_pos (by have h0 := hqt15_1; have h1 := hqt15_3; have h2 := hqt21_1; have h3 := hqt40_1; omega)]
          have hL : resL op W = [] := by unfold resL; rw [if_pos (by have h0 := hqt15_1; have h1 := hqt15_3; have h2 := hqt21_1; have h3 := hqt40_1; omega)]
          have hK : resK op W = (accK W) := by unfold resK; rw [if_neg (by have h0 := hqt15_1; have h1 := hqt15_3; have h2 := hqt21_1; have h3 := hqt40_1; omega), if_neg (by have h0 := hqt15_1; have h1 := hqt15_3; have h2 := hqt21_1; have h3 := hqt40_1; omega), if_pos (by have h0 := hqt15_1; have h1 := hqt15_3; have h2 := hqt21_1; have h3 := hqt40_1; omega)]
          have hA : resA op W = ((accP W).1) := by unfold resA; rw [if_neg (by have h0 := hqt15_1; have h1 := hqt15_3; have h2 := hqt21_1; have h3 := hqt40_1; omega), if_neg (by have h0 := hqt15_1; have h1 := hqt15_3; have h2 := hqt21_1; have h3 := hqt40_1; omega), if_pos (by have h0 := hqt15_1; have h1 := hqt15_3; have h2 := hqt21_1; have h3 := hqt40_1; omega)]
          rw [hK, hA, hB, hL]
          exact ⟨rfl, none, 0, hk3, Row.nil, hb.grown⟩
        · have hqt40_1b := hqt40_1
          replace hqt40_1 := Bool.eq_false_iff.1 hqt40_1
          try simp only [ne_eq, decide_eq_true_eq, Bool.and_eq_true, Bool.or_eq_true, Bool.not_eq_true', decide_eq_false_iff_not] at hqt40_1
          refine wp_seq_k (fun K16 hK16 => ?_)
          refine wp_region_lit ?_
          refine sqv hf (r_eq rfl rfl) rfl rfl rfl ?_; clear hf fa; intro fa hf
          refine sqv hf (r_assign rfl) rfl rfl rfl ?_; clear hf fa; intro fa hf
          apply wpList_nil
          (try simp only [Exit.then, Exit.inBlock, ↓reduceIte, Nat.reduceEqDiff])
          refine hK16 _ _ ?_
          refine wp_cond_split (t := (decide (((infP op).2.1) = (10 : Int)))) (hf.ev rfl) (fun hqt45_1 => ?_) (fun hqt45_1 => ?_)
          · have hqt45_1b := hqt45_1
            try simp only [decide_eq_true_eq, Bool.and_eq_true, Bool.or_eq_true, Bool.not_eq_true', decide_eq_false_iff_not, ne_eq, Bool.not_eq_true] at hqt45_1
            refine wp_seq_k (fun K17 hK17 => ?_)
            refine wp_region_lit ?_
            refine sqv hf (r_move rfl) rfl rfl rfl ?_; clear hf fa; intro fa hf
            refine sqv hf (r_move rfl) rfl rfl rfl ?_; clear hf fa; intro fa hf
            refine sqdt hf (d_callW (v := (.bool (conP W true).2)) (b := bi) (T := 25) (cs := #[(.int .u8 ((op : Nat) : Int)), (.int .u64 ((conP W true).1)), (.int .u64 (0 : Int)), (.slice none 0 0)]) (vs := [(.pointer (some ⟨bi, 0, none⟩)), (.slice a W.length c), (.bool true)]) rfl Tryd.func56 (by kernel_rfl) (by kernel_rfl) (constant_any op bi a W c true _ hnb hki (RdS.kb hl hb hnb) hc hn hW hop)) rfl rfl rfl ?_; clear hf fa; rintro fa _ w6 ⟨rfl, hk4, hg4⟩ hf
            replace hb := hb.wrote hg4 hb.size
            refine sqv hf (r_assign rfl) rfl rfl rfl ?_; clear hf fa; intro fa hf
            apply wpList_nil
            (try simp only [Exit.then, Exit.inBlock, ↓reduceIte, Nat.reduceEqDiff])
            refine hK17 _ _ ?_
            refine wp_ret ?_
            (try simp only [Exit.then, Exit.inBlock])
            refine ret1 hf rfl rfl ?_
            have hB : resB op W = 0 := by unfold resB; rw [if_neg (by have h0 := hqt15_1; have h1 := hqt15_3; have h2 := hqt21_1; have h3 := hqt40_1; have h4 := hqt45_1; omega)]
            have hL : resL op W = [] := by unfold resL; rw [if_pos (by have h0 := hqt15_1; have h1 := hqt15_3; have h2 := hqt21_1; have h3 := hqt40_1; have h4 := hqt45_1; omega)]
            have hK : resK op W = (conP W true).2 := by unfold resK; rw [if_neg (by have h0 := hqt15_1; have h1 := hqt15_3; have h2 := hqt21_1; have h3 := hqt40_1; have h4 := hqt45_1; omega), if_neg (by have h0 := hqt15_1; have h1 := hqt15_3; have h2 := hqt21_1; have h3 := hqt40_1; have h4 := hqt45_1; omega), if_neg (by have h0 := hqt15_1; have h1 := hqt15_3; have h2 := hqt21_1; have h3 := hqt40_1; have h4 := hqt45_1; omega), if_pos (by have h0 := hqt15_1; have h1 := hqt15_3; have h2 := hqt21_1; have h3 := hqt40_1; have h4 := hqt45_1; omega)]
            have hA : resA op W = ((conP W true).1) := by unfold resA; rw [if_neg (by have h0 := hqt15_1; have h1 := hqt15_3; have h2 := hqt21_1; have h3 := hqt40_1; have h4 := hqt45_1; omega), if_neg (by have h0 := hqt15_1; have h1 := hqt15_3; have h2 := hqt21_1; have h3 := hqt40_1; have h4 := hqt45_1; omega), if_neg (by have h0 := hqt15_1; have h1 := hqt15_3; have h2 := hqt21_1; have h3 := hqt40_1; have h4 := hqt45_1; omega), if_pos (by have h0 := hqt15_1; have h1 := hqt15_3; have h2 := hqt21_1; have h3 := hqt40_1; have h4 := hqt45_1; omega)]
            rw [hK, hA, hB, hL]
            exact ⟨rfl, none, 0, hk4, Row.nil, hb.grown⟩
          · have hqt45_1b := hqt45_1
            replace hqt45_1 := Bool.eq_false_iff.1 hqt45_1
            try simp only [ne_eq, decide_eq_true_eq, Bool.and_eq_true, Bool.or_eq_true, Bool.not_eq_true', decide_eq_false_iff_not] at hqt45_1
            refine wp_seq_k (fun K18 hK18 => ?_)
            refine wp_region_lit ?_
            refine sqv hf (r_eq rfl rfl) rfl rfl rfl ?_; clear hf fa; intro fa hf
            refine sqv hf (r_assign rfl) rfl rfl rfl ?_; clear hf fa; intro fa hf
            apply wpList_nil
            (try simp only [Exit.then, Exit.inBlock, ↓reduceIte, Nat.reduceEqDiff])
            refine hK18 _ _ ?_
            refine wp_cond_split (t := (decide (((infP op).2.1) = (11 : Int)))) (hf.ev rfl) (fun hqt50_1 => ?_) (fun hqt50_1 => ?_)
            · have hqt50_1b := hqt50_1
              try simp only [decide_eq_true_eq, Bool.and_eq_true, Bool.or_eq_true, Bool.not_eq_true', decide_eq_false_iff_not, ne_eq, Bool.not_eq_true] at hqt50_1
              refine wp_seq_k (fun K19 hK19 => ?_)
              refine wp_region_lit ?_
              refine sqv hf (r_move rfl) rfl rfl rfl ?_; clear hf fa; intro fa hf
              refine sqv hf (r_move rfl) rfl rfl rfl ?_; clear hf fa; intro fa hf
              refine sqdt hf (d_callW (v := (.bool (conP W false).2)) (b := bi) (T := 25) (cs := #[(.int .u8 ((op : Nat) : Int)), (.int .u64 ((conP W false).1)), (.int .u64 (0 : Int)), (.slice none 0 0)]) (vs := [(.pointer (some ⟨bi, 0, none⟩)), (.slice a W.length c), (.bool false)]) rfl Tryd.func56 (by kernel_rfl) (by kernel_rfl) (constant_any op bi a W c false _ hnb hki (RdS.kb hl hb hnb) hc hn hW hop)) rfl rfl rfl ?_; clear hf fa; rintro fa _ w7 ⟨rfl, hk5, hg5⟩ hf
              replace hb := hb.wrote hg5 hb.size
              refine sqv hf (r_assign rfl) rfl rfl rfl ?_; clear hf fa; intro fa hf
              apply wpList_nil
              (try simp only [Exit.then, Exit.inBlock, ↓reduceIte, Nat.reduceEqDiff])
              refine hK19 _ _ ?_
              refine wp_ret ?_
              (try simp only [Exit.then, Exit.inBlock])
              refine ret1 hf rfl rfl ?_
              have hB : resB op W = 0 := by unfold resB; rw [if_neg (by have h0 := hqt15_1; have h1 := hqt15_3; have h2 := hqt21_1; have h3 := hqt40_1; have h4 := hqt45_1; have h5 := hqt50_1; omega)]
              have hL : resL op W = [] := by unfold resL; rw [if_pos (by have h0 := hqt15_1; have h1 := hqt15_3; have h2 := hqt21_1; have h3 := hqt40_1; have h4 := hqt45_1; have h5 := hqt50_1; omega)]
              have hK : resK op W = (conP W false).2 := by unfold resK; rw [if_neg (by have h0 := hqt15_1; have h1 := hqt15_3; have h2 := hqt21_1; have h3 := hqt40_1; have h4 := hqt45_1; have h5 := hqt50_1; omega), if_neg (by have h0 := hqt15_1; have h1 := hqt15_3; have h2 := hqt21_1; have h3 := hqt40_1; have h4 := hqt45_1; have h5 := hqt50_1; omega), if_neg (by have h0 := hqt15_1; have h1 := hqt15_3; have h2 := hqt21_1; have h3 := hqt40_1; have h4 := hqt45_1; have h5 := hqt50_1; omega), if_neg (by have h0 := hqt15_1; have h1 := hqt15_3; have h2 := hqt21_1; have h3 := hqt40_1; have h4 := hqt45_1; have h5 := hqt50_1; omega), if_pos (by have h0 := hqt15_1; have h1 := hqt15_3; have h2 := hqt21_1; have h3 := hqt40_1; have h4 := hqt45_1; have h5 := hqt50_1; omega)]
              have hA : resA op W = ((conP W false).1) := by unfold resA; rw [if_neg (by have h0 := hqt15_1; have h1 := hqt15_3; have h2 := hqt21_1; have h3 := hqt40_1; have h4 := hqt45_1; have h5 := hqt50_1; omega), if_neg (by have h0 := hqt15_1; have h1 := hqt15_3; have h2 := hqt21_1; have h3 := hqt40_1; have h4 := hqt45_1; have h5 := hqt50_1; omega), if_neg (by have h0 := hqt15_1; have h1 := hqt15_3; have h2 := hqt21_1; have h3 := hqt40_1; have h4 := hqt45_1; have h5 := hqt50_1; omega), if_neg (by have h0 := hqt15_1; have h1 := hqt15_3; have h2 := hqt21_1; have h3 := hqt40_1; have h4 := hqt45_1; have h5 := hqt50_1; omega), if_pos (by have h0 := hqt15_1; have h1 := hqt15_3; have h2 := hqt21_1; have h3 := hqt40_1; have h4 := hqt45_1; have h5 := hqt50_1; omega)]
              rw [hK, hA, hB, hL]
              exact ⟨rfl, none, 0, hk5, Row.nil, hb.grown⟩
            · have hqt50_1b := hqt50_1
              replace hqt50_1 := Bool.eq_false_iff.1 hqt50_1
              try simp only [ne_eq, decide_eq_true_eq, Bool.and_eq_true, Bool.or_eq_true, Bool.not_eq_true', decide_eq_false_iff_not] at hqt50_1
              refine wp_skip ?_
              (try simp only [Exit.then, Exit.inBlock, ↓reduceIte, Nat.reduceEqDiff])
              refine hK2 _ _ ?_
              refine wp_seq_k (fun K20 hK20 => ?_)
              refine wp_region_lit ?_
              refine sqv hf (r_move rfl) rfl rfl rfl ?_; clear hf fa; intro fa hf
              refine sqdt hf (d_callX (vs := [(.slice a W.length c)]) rfl Tryd.func57 (by kernel_rfl) (by kernel_rfl) (numbers_any a W c _ (RdS.kb hl hb hnb) hc hn hW)) rfl rfl rfl ?_; clear hf fa; rintro fa _ w8 ⟨ra1, rc1, rfl, hr1, he3⟩ hf
              replace hr1 := Row.rebase hr1 hb.size
              replace hki := blk_ext hki he3
              replace hb := hb.trans (Below.mono he3 hb.size)
              have hchr1 := Row.caps hr1
              refine sqv hf (r_move rfl) rfl rfl rfl ?_; clear hf fa; intro fa hf
              refine sqv hf (r_extract rfl (i := 0) rfl) rfl rfl rfl ?_; clear hf fa; intro fa hf
              refine sqv hf (r_extract rfl (i := 1) rfl) rfl rfl rfl ?_; clear hf fa; intro fa hf
              refine sqv hf (r_assign rfl) rfl rfl rfl ?_; clear hf fa; intro fa hf
              refine sqv hf (r_assign rfl) rfl rfl rfl ?_; clear hf fa; intro fa hf
              apply wpList_nil
              (try simp only [Exit.then, Exit.inBlock, ↓reduceIte, Nat.reduceEqDiff])
              refine hK20 _ _ ?_
              refine wp_seq_k (fun K21 hK21 => ?_)
              refine wp_seq_k (fun K22 hK22 => ?_)
              refine wp_region_lit ?_
              refine sqv hf (r_move rfl) rfl rfl rfl ?_; clear hf fa; intro fa hf
              refine sqv hf (r_not rfl) rfl rfl rfl ?_; clear hf fa; intro fa hf
              refine sqv hf (r_move rfl) rfl rfl rfl ?_; clear hf fa; intro fa hf
              refine sqgF (act := (!(!(nbsP W).2))) (ag := true) (c := (!(nbsP W).2)) (v := (.slice ra1 (((nbsP W).1.length)) rc1)) hf rfl rfl rfl (fun hact => (r_move rfl)) rfl rfl ?_; clear hf fa; intro fa hf
              refine sqgF (act := (!(!(nbsP W).2))) (ag := true) (c := (!(nbsP W).2)) (v := (.int .i64 ((((nbsP W).1.length) : Nat) : Int))) hf rfl rfl rfl (fun hact => (r_lensl (gb_ev hact rfl) Tryd.underlying91)) rfl rfl ?_; clear hf fa; intro fa hf
              refine sqgF (act := (!(!(nbsP W).2))) (ag := true) (c := (!(nbsP W).2)) (v := (.bool (decide (((((nbsP W).1.length) : Nat) : Int) = (0 : Int))))) hf rfl rfl rfl (fun hact => (r_eq (gb_ev hact rfl) rfl)) rfl rfl ?_; clear hf fa; intro fa hf
              refine sqv hf (r_pickO (b := (!(nbsP W).2)) (e := (decide (((((nbsP W).1.length) : Nat) : Int) = (0 : Int)))) rfl rfl rfl) rfl rfl rfl ?_; clear hf fa; intro fa hf
              refine sqv hf (r_move rfl) rfl rfl rfl ?_; clear hf fa; intro fa hf
              refine sqgF (act := (!((!(nbsP W).2) || (decide (((((nbsP W).1.length) : Nat) : Int) = (0 : Int)))))) (ag := true) (c := ((!(nbsP W).2) || (decide (((((nbsP W).1.length) : Nat) : Int) = (0 : Int))))) (v := (.slice ra1 (((nbsP W).1.length)) rc1)) hf rfl rfl rfl (fun hact => (r_move rfl)) rfl rfl ?_; clear hf fa; intro fa hf
              refine sqgF (act := (!((!(nbsP W).2) || (decide (((((nbsP W).1.length) : Nat) : Int) = (0 : Int)))))) (ag := true) (c := ((!(nbsP W).2) || (decide (((((nbsP W).1.length) : Nat) : Int) = (0 : Int))))) (v := (.int .i64 ((((nbsP W).1.length) : Nat) : Int))) hf rfl rfl rfl (fun hact => (r_lensl (gb_ev hact rfl) Tryd.underlying91)) rfl rfl ?_; clear hf fa; intro fa hf
              refine sqgF (act := (!((!(nbsP W).2) || (decide (((((nbsP W).1.length) : Nat) : Int) = (0 : Int)))))) (ag := true) (c := ((!(nbsP W).2) || (decide (((((nbsP W).1.length) : Nat) : Int) = (0 : Int))))) (v := (.bool (decide ((1 : Int) < ((((nbsP W).1.length) : Nat) : Int))))) hf rfl rfl rfl (fun hact => (r_gt (gb_ev hact rfl) rfl)) rfl rfl ?_; clear hf fa; intro fa hf
              refine sqgF (act := (!((!(nbsP W).2) || (decide (((((nbsP W).1.length) : Nat) : Int) = (0 : Int)))))) (ag := true) (c := ((!(nbsP W).2) || (decide (((((nbsP W).1.length) : Nat) : Int) = (0 : Int))))) (v := (.bool (decide ((1 : Int) < ((((nbsP W).1.length) : Nat) : Int))))) hf rfl rfl rfl (fun hact => (r_move (gb_ev hact rfl))) rfl rfl ?_; clear hf fa; intro fa hf
              refine sqgT (act := ((!((!(nbsP W).2) || (decide (((((nbsP W).1.length) : Nat) : Int) = (0 : Int))))) && (decide ((1 : Int) < ((((nbsP W).1.length) : Nat) : Int))))) (ag := (!((!(nbsP W).2) || (decide (((((nbsP W).1.length) : Nat) : Int) = (0 : Int)))))) (c := (decide ((1 : Int) < ((((nbsP W).1.length) : Nat) : Int)))) (v := (.pointer (some ⟨bi, 0, none⟩))) hf rfl rfl rfl (fun hact => (r_move rfl)) rfl rfl ?_; clear hf fa; intro fa hf
              refine sqgT (act := ((!((!(nbsP W).2) || (decide (((((nbsP W).1.length) : Nat) : Int) = (0 : Int))))) && (decide ((1 : Int) < ((((nbsP W).1.length) : Nat) : Int))))) (ag := (!((!(nbsP W).2) || (decide (((((nbsP W).1.length) : Nat) : Int) = (0 : Int)))))) (c := (decide ((1 : Int) < ((((nbsP W).1.length) : Nat) : Int)))) (v := (.pointer (some ⟨bi, 0, none⟩))) hf rfl rfl rfl (fun hact => (r_nilCheck (gb_ev hact rfl))) rfl rfl ?_; clear hf fa; intro fa hf
              refine sqgT (act := ((!((!(nbsP W).2) || (decide (((((nbsP W).1.length) : Nat) : Int) = (0 : Int))))) && (decide ((1 : Int) < ((((nbsP W).1.length) : Nat) : Int))))) (ag := (!((!(nbsP W).2) || (decide (((((nbsP W).1.length) : Nat) : Int) = (0 : Int)))))) (c := (decide ((1 : Int) < ((((nbsP W).1.length) : Nat) : Int)))) (v := (.pointer (some ⟨bi, 0, none⟩))) hf rfl rfl rfl (fun hact => (r_fa (gb_ev hact rfl) Tryd.underlying25 (f := 0) (q := 0) rfl (by kernel_rfl) rfl)) rfl rfl ?_; clear hf fa; intro fa hf
              refine sqgT (act := ((!((!(nbsP W).2) || (decide (((((nbsP W).1.length) : Nat) : Int) = (0 : Int))))) && (decide ((1 : Int) < ((((nbsP W).1.length) : Nat) : Int))))) (ag := (!((!(nbsP W).2) || (decide (((((nbsP W).1.length) : Nat) : Int) = (0 : Int)))))) (c := (decide ((1 : Int) < ((((nbsP W).1.length) : Nat) : Int)))) (v := (.int .u8 ((op : Nat) : Int))) hf rfl rfl rfl (fun hact => (r_load (v := (.int .u8 ((op : Nat) : Int))) (gb_ev hact rfl) Tryd.underlying5 rfl (cell_blk hki rfl))) rfl rfl ?_; clear hf fa; intro fa hf
              refine sqgd (R := fun vq wq => vq = gb ((!((!(nbsP W).2) || (decide (((((nbsP W).1.length) : Nat) : Int) = (0 : Int))))) && (decide ((1 : Int) < ((((nbsP W).1.length) : Nat) : Int)))) (.agg #[(.string (infP op).1), (.int .i64 ((infP op).2.1)), (.string (infP op).2.2.1), (.string (infP op).2.2.2.1), (.bool (infP op).2.2.2.2.1)]) ∧ Below w8.heap.size w8 wq) (act := ((!((!(nbsP W).2) || (decide (((((nbsP W).1.length) : Nat) : Int) = (0 : Int))))) && (decide ((1 : Int) < ((((nbsP W).1.length) : Nat) : Int))))) (g := 11) (want := true) (ag := (!((!(nbsP W).2) || (decide (((((nbsP W).1.length) : Nat) : Int) = (0 : Int)))))) (c := (decide ((1 : Int) < ((((nbsP W).1.length) : Nat) : Int)))) hf (by rfl) (by rfl) (act_T _ _) (fun hact => (d_callB (vs := [(.int .u8 ((op : Nat) : Int))]) (cons_ev (gb_ev hact rfl) rfl) Tryd.func20 (by kernel_rfl) (by kernel_rfl) (inf_any op _ hop)).mono (fun _ _ h => ⟨by rw [h.1, hact]; rfl, h.2⟩)) (fun h => ⟨by rw [h]; rfl, Below.refl _ _⟩) rfl ?_; clear hf fa; rintro fa _ w9 ⟨rfl, he4⟩ hf
              replace hki := blk_ext hki he4
              replace hr1 := Row.ext hr1 he4
              replace hb := hb.trans (Below.mono he4 hb.size)
              change Fr _ _ ((76, (gb ((!((!(nbsP W).2) || (decide (((((nbsP W).1.length) : Nat) : Int) = (0 : Int))))) && (decide ((1 : Int) < ((((nbsP W).1.length) : Nat) : Int)))) (.agg #[(.string (infP op).1), (.int .i64 ((infP op).2.1)), (.string (infP op).2.2.1), (.string (infP op).2.2.2.1), (.bool (infP op).2.2.2.2.1)]))) :: _) at hf
              refine sqgT (act := ((!((!(nbsP W).2) || (decide (((((nbsP W).1.length) : Nat) : Int) = (0 : Int))))) && (decide ((1 : Int) < ((((nbsP W).1.length) : Nat) : Int))))) (ag := (!((!(nbsP W).2) || (decide (((((nbsP W).1.length) : Nat) : Int) = (0 : Int)))))) (c := (decide ((1 : Int) < ((((nbsP W).1.length) : Nat) : Int)))) (v := (.int .i64 ((infP op).2.1))) hf rfl rfl rfl (fun hact => (r_field (cs := #[(.string (infP op).1), (.int .i64 ((infP op).2.1)), (.string (infP op).2.2.1), (.string (infP op).2.2.2.1), (.bool (infP op).2.2.2.2.1)]) (v := (.int .i64 ((infP op).2.1))) (gb_ev hact rfl) (fun _ => by kernel_rfl))) rfl rfl ?_; clear hf fa; intro fa hf
              refine sqgT (act := ((!((!(nbsP W).2) || (decide (((((nbsP W).1.length) : Nat) : Int) = (0 : Int))))) && (decide ((1 : Int) < ((((nbsP W).1.length) : Nat) : Int))))) (ag := (!((!(nbsP W).2) || (decide (((((nbsP W).1.length) : Nat) : Int) = (0 : Int)))))) (c := (decide ((1 : Int) < ((((nbsP W).1.length) : Nat) : Int)))) (v := (.bool (decide (((infP op).2.1) ≠ (3 : Int))))) hf rfl rfl rfl (fun hact => (r_ne (gb_ev hact rfl) rfl)) rfl rfl ?_; clear hf fa; intro fa hf
              refine sqgF (act := (!((!(nbsP W).2) || (decide (((((nbsP W).1.length) : Nat) : Int) = (0 : Int)))))) (ag := true) (c := ((!(nbsP W).2) || (decide (((((nbsP W).1.length) : Nat) : Int) = (0 : Int))))) (v := (.bool ((decide ((1 : Int) < ((((nbsP W).1.length) : Nat) : Int))) && (decide (((infP op).2.1) ≠ (3 : Int)))))) hf rfl rfl rfl (fun hact => (r_pickA2 (q := (!((!(nbsP W).2) || (decide (((((nbsP W).1.length) : Nat) : Int) = (0 : Int)))))) (b := (decide ((1 : Int) < ((((nbsP W).1.length) : Nat) : Int)))) (e := (decide (((infP op).2.1) ≠ (3 : Int)))) hact rfl rfl rfl)) rfl rfl ?_; clear hf fa; intro fa hf
              refine sqv hf (r_pickO (b := ((!(nbsP W).2) || (decide (((((nbsP W).1.length) : Nat) : Int) = (0 : Int))))) (e := ((decide ((1 : Int) < ((((nbsP W).1.length) : Nat) : Int))) && (decide (((infP op).2.1) ≠ (3 : Int))))) rfl rfl rfl) rfl rfl rfl ?_; clear hf fa; intro fa hf
              apply wpList_nil
              (try simp only [Exit.then, Exit.inBlock, ↓reduceIte, Nat.reduceEqDiff])
              refine hK22 _ _ ?_
              refine wp_cond_split (t := (((!(nbsP W).2) || (decide (((((nbsP W).1.length) : Nat) : Int) = (0 : Int)))) || ((decide ((1 : Int) < ((((nbsP W).1.length) : Nat) : Int))) && (decide (((infP op).2.1) ≠ (3 : Int)))))) (hf.ev rfl) (fun hqt80_1 => ?_) (fun hqt80_1 => ?_)
              · have hqt80_1b := hqt80_1
                try simp only [decide_eq_true_eq, Bool.and_eq_true, Bool.or_eq_true, Bool.not_eq_true', decide_eq_false_iff_not, ne_eq, Bool.not_eq_true] at hqt80_1
                refine wp_seq_k (fun K23 hK23 => ?_)
                refine wp_region_lit ?_
                refine sqv hf (r_assign rfl) rfl rfl rfl ?_; clear hf fa; intro fa hf
                apply wpList_nil
                (try simp only [Exit.then, Exit.inBlock, ↓reduceIte, Nat.reduceEqDiff])
                refine hK23 _ _ ?_
                refine wp_ret ?_
                (try simp only [Exit.then, Exit.inBlock])
                refine ret1 hf rfl rfl ?_
                have h8 : lblK op W = false := lblK_no hqt80_1
                have hB : resB op W = 0 := by unfold resB; rw [if_neg (by have h0 := hqt15_1; have h1 := hqt15_3; have h2 := hqt21_1; have h3 := hqt40_1; have h4 := hqt45_1; have h5 := hqt50_1; omega)]
                have hK : resK op W = false := by unfold resK; rw [if_neg (by have h0 := hqt15_1; have h1 := hqt15_3; have h2 := hqt21_1; have h3 := hqt40_1; have h4 := hqt45_1; have h5 := hqt50_1; omega), if_neg (by have h0 := hqt15_1; have h1 := hqt15_3; have h2 := hqt21_1; have h3 := hqt40_1; have h4 := hqt45_1; have h5 := hqt50_1; omega), if_neg (by have h0 := hqt15_1; have h1 := hqt15_3; have h2 := hqt21_1; have h3 := hqt40_1; have h4 := hqt45_1; have h5 := hqt50_1; omega), if_neg (by have h0 := hqt15_1; have h1 := hqt15_3; have h2 := hqt21_1; have h3 := hqt40_1; have h4 := hqt45_1; have h5 := hqt50_1; omega), if_neg (by have h0 := hqt15_1; have h1 := hqt15_3; have h2 := hqt21_1; have h3 := hqt40_1; have h4 := hqt45_1; have h5 := hqt50_1; omega)]; exact h8
                have hA : resA op W = (0 : Int) := by unfold resA; rw [if_neg (by have h0 := hqt15_1; have h1 := hqt15_3; have h2 := hqt21_1; have h3 := hqt40_1; have h4 := hqt45_1; have h5 := hqt50_1; omega), if_neg (by have h0 := hqt15_1; have h1 := hqt15_3; have h2 := hqt21_1; have h3 := hqt40_1; have h4 := hqt45_1; have h5 := hqt50_1; omega), if_neg (by have h0 := hqt15_1; have h1 := hqt15_3; have h2 := hqt21_1; have h3 := hqt40_1; have h4 := hqt45_1; have h5 := hqt50_1; omega), if_neg (by have h0 := hqt15_1; have h1 := hqt15_3; have h2 := hqt21_1; have h3 := hqt40_1; have h4 := hqt45_1; have h5 := hqt50_1; omega), if_neg (by have h0 := hqt15_1; have h1 := hqt15_3; have h2 := hqt21_1; have h3 := hqt40_1; have h4 := hqt45_1; have h5 := hqt50_1; omega)]; rw [if_neg (by rw [h8]; decide)]
                have hL : resL op W = [] := by unfold resL; rw [if_neg (by have h0 := hqt15_1; have h1 := hqt15_3; have h2 := hqt21_1; have h3 := hqt40_1; have h4 := hqt45_1; have h5 := hqt50_1; omega), if_neg (by rw [h8]; decide)]
                rw [hK, hA, hB, hL]
                exact ⟨rfl, _, _, hki, Row.nil, hb.grown⟩
              · have hqt80_1b := hqt80_1
                replace hqt80_1 := Bool.eq_false_iff.1 hqt80_1
                try simp only [ne_eq, decide_eq_true_eq, Bool.and_eq_true, Bool.or_eq_true, Bool.not_eq_true', decide_eq_false_iff_not] at hqt80_1
                refine wp_skip ?_
                (try simp only [Exit.then, Exit.inBlock, ↓reduceIte, Nat.reduceEqDiff])
                refine hK21 _ _ ?_
                refine wp_seq_k (fun K24 hK24 => ?_)
                refine wp_region_lit ?_
                refine sqv hf (r_move rfl) rfl rfl rfl ?_; clear hf fa; intro fa hf
                refine sqv hf (r_move rfl) rfl rfl rfl ?_; clear hf fa; intro fa hf
                refine sqv hf (r_move rfl) rfl rfl rfl ?_; clear hf fa; intro fa hf
                refine sqv hf (r_lensl rfl Tryd.underlying91) rfl rfl rfl ?_; clear hf fa; intro fa hf
                refine sqv hf (r_sub (C := (((((nbsP W).1.length) : Nat) : Int) - (1 : Int))) rfl rfl (by rw [IntKind.wrap_i64]; omega)) rfl rfl rfl ?_; clear hf fa; intro fa hf
                obtain ⟨rb1, rfl, hbbrb1, hlbrb1⟩ := Row.some hr1 (by first | omega | (simp only [Sl.list_length, List.length_set, List.length_take, List.length_append, List.length_replicate, List.length_cons, List.length_nil, List.length_map, nums_len]; omega))
                have hy2 : ((nbsP W).1)[((((nbsP W).1.length)) - 1)]? = some ((nbsP W).1.getD ((((nbsP W).1.length)) - 1) 0) := (getD_int (by omega))
                have hel2 := RdS.at (Row.rd (by intros; rfl) hr1) hy2
                obtain ⟨_, _, hab, hlr1, hel2⟩ := hel2
                cases hab
                refine sqv hf (r_ixa (sz := 1) (j := ((((nbsP W).1.length)) - 1)) rfl rfl Tryd.underlying91 (by kernel_rfl) (by omega) (by omega) rfl) rfl rfl rfl ?_; clear hf fa; intro fa hf
                refine sqv hf (r_load (v := (.int .u64 (((nbsP W).1.getD ((((nbsP W).1.length)) - 1) 0)))) rfl Tryd.underlying22 rfl (cellsAt_cell hel2 (i := 0) rfl rfl)) rfl rfl rfl ?_; clear hf fa; intro fa hf
                refine sqv hf (r_nilCheck rfl) rfl rfl rfl ?_; clear hf fa; intro fa hf
                refine sqv hf (r_fa rfl Tryd.underlying25 (f := 1) (q := 1) rfl (by kernel_rfl) rfl) rfl rfl rfl ?_; clear hf fa; intro fa hf
                refine sqn hf (d_storeK (T := 25) (v := (.int .u64 (((nbsP W).1.getD ((((nbsP W).1.length)) - 1) 0)))) (cs := #[(.int .u8 ((op : Nat) : Int)), (.int .u64 (0 : Int)), (.int .u64 (0 : Int)), (.slice none 0 0)]) (cs' := #[(.int .u8 ((op : Nat) : Int)), (.int .u64 (((nbsP W).1.getD ((((nbsP W).1.length)) - 1) 0))), (.int .u64 (0 : Int)), (.slice none 0 0)]) rfl rfl (by kernel_rfl) (by kernel_rfl) hki (by kernel_rfl) (by kernel_rfl)) rfl rfl ?_; clear hf fa; rintro fa _ w10 ⟨hk6, hg6⟩ hf
                replace hr1 := Row.grown hr1 hg6 (Row.ne_type hr1 hki rfl)
                replace hb := hb.wrote hg6 hb.size
                apply wpList_nil
                (try simp only [Exit.then, Exit.inBlock, ↓reduceIte, Nat.reduceEqDiff])
                refine hK24 _ _ ?_
                refine wp_seq_k (fun K25 hK25 => ?_)
                refine wp_seq_k (fun K26 hK26 => ?_)
                refine wp_region_lit ?_
                refine sqv hf (r_move rfl) rfl rfl rfl ?_; clear hf fa; intro fa hf
                refine sqv hf (r_move rfl) rfl rfl rfl ?_; clear hf fa; intro fa hf
                refine sqv hf (r_lensl rfl Tryd.underlying91) rfl rfl rfl ?_; clear hf fa; intro fa hf
                refine sqv hf (r_sub (C := (((((nbsP W).1.length) : Nat) : Int) - (1 : Int))) rfl rfl (by rw [IntKind.wrap_i64]; omega)) rfl rfl rfl ?_; clear hf fa; intro fa hf
                refine sqv hf (r_slto (m := ((((nbsP W).1.length)) - 1)) rfl rfl Tryd.underlying91 (by kernel_rfl) (by omega) (by omega)) rfl rfl rfl ?_; clear hf fa; intro fa hf
                have hr2 := Row.cut (m := ((((nbsP W).1.length)) - 1)) (by intros; rfl) hr1 (Row.caps hr1).1 (by (try simp only [Sl.list_length]); omega) (by (try simp only [Sl.list_length]); omega)
                refine sqv hf (r_lensl rfl Tryd.underlying91) rfl rfl rfl ?_; clear hf fa; intro fa hf
                refine sqv hf (r_move rfl) rfl rfl rfl ?_; clear hf fa; intro fa hf
                apply wpList_nil
                (try simp only [Exit.then, Exit.inBlock, ↓reduceIte, Nat.reduceEqDiff])
                refine hK26 _ _ ?_
                refine wp_block ?_
                refine wp_loop_k (fun mq fa wr => ∃ (k : Nat) (roa : Option Addr) (roc : Nat), mq = ((nbsP W).1.length - 1) - k ∧ Fr 112 fa [(0, (.pointer (some ⟨bi, 0, none⟩))), (94, (.slice (some ⟨rb1, 0, none⟩) (((((nbsP W).1.length)) - 1)) rc1)), (95, (.int .i64 ((((((nbsP W).1.length)) - 1) : Nat) : Int))), (96, (.int .i64 ((k : Nat) : Int)))] ∧ KB bi w.heap.size w wr ∧ Row 1 (vInt .u32) 62 (w.heap.size) wr (.slice roa ((((((nbsP W).1).take ((((nbsP W).1.length)) - 1)).take k)).length) roc) ((((nbsP W).1).take ((((nbsP W).1.length)) - 1)).take k) ∧ Row 1 (vInt .u64) 22 (w.heap.size) wr (.slice (some ⟨rb1, 0, none⟩) ((((((nbsP W).1.length)) - 1))) rc1) (((nbsP W).1).take ((((nbsP W).1.length)) - 1)) ∧ wr.heap[bi]? = some (.cells #[(.int .u8 ((op : Nat) : Int)), (.int .u64 (((nbsP W).1.getD ((((nbsP W).1.length)) - 1) 0))), (.int .u64 (0 : Int)), (.slice roa (((((nbsP W).1).take ((((nbsP W).1.length)) - 1)).take k).length) roc)] 25 (0, 0)) ∧ (k ≤ ((nbsP W).1.length - 1))) ?_ ?_
                · skip
                  exact ⟨_, 0, none, 0, rfl, hf.sub ⟨rfl, rfl, rfl, (some_int (by first | rfl | omega)), trivial⟩, hb, Row.nil, hr2, hk6, by omega⟩
                · skip
                  clear hf fa; intro mq1 fa w11 hI KL1 hKL1
                  clear hb
                  clear hk6
                  clear hr2
                  obtain ⟨k, roa, roc, hmq1, hf, hb, hro, hra1, hkbi, hk⟩ := hI
                  have hcro := Row.caps hro
                  have hcra1 := Row.caps hra1
                  have hol : ((((nbsP W).1).take ((((nbsP W).1.length)) - 1)).take k).length ≤ 200000 := by rw [List.length_take, List.length_take]; omega
                  refine wp_seq_k (fun K27 hK27 => ?_)
                  refine wp_region_lit ?_
                  refine sqv hf (r_lt rfl rfl) rfl rfl rfl ?_; clear hf fa; intro fa hf
                  apply wpList_nil
                  (try simp only [Exit.then, Exit.inBlock, ↓reduceIte, Nat.reduceEqDiff])
                  refine hK27 _ _ ?_
                  refine wp_seq_k (fun K28 hK28 => ?_)
                  refine wp_cond_split (t := (decide (((k : Nat) : Int) < ((((((nbsP W).1.length)) - 1) : Nat) : Int)))) (hf.ev rfl) (fun hqt97_1 => ?_) (fun hqt97_1 => ?_)
                  · have hqt97_1b := hqt97_1
                    try simp only [decide_eq_true_eq, Bool.and_eq_true, Bool.or_eq_true, Bool.not_eq_true', decide_eq_false_iff_not, ne_eq, Bool.not_eq_true] at hqt97_1
                    refine wp_skip ?_
                    (try simp only [Exit.then, Exit.inBlock, ↓reduceIte, Nat.reduceEqDiff])
                    refine hK28 _ _ ?_
                    refine wp_seq_k (fun K29 hK29 => ?_)
                    refine wp_block ?_
                    refine wp_seq_k (fun K30 hK30 => ?_)
                    obtain ⟨y, hy⟩ : ∃ y, (((nbsP W).1).take ((((nbsP W).1.length)) - 1))[k]? = some y := ⟨_, List.getElem?_eq_getElem (by rw [List.length_take]; omega)⟩
                    have hyr := nbs_rng W y (List.mem_of_mem_take (List.mem_of_getElem? hy))
                    refine wp_region_lit ?_
                    have hy3 : ((((nbsP W).1).take ((((nbsP W).1.length)) - 1)))[k]? = some y := hy
                    have hel3 := RdS.at (Row.rd (by intros; rfl) hra1) hy3
                    obtain ⟨_, _, hab, hlr2, hel3⟩ := hel3
                    cases hab
                    refine sqv hf (r_ixa (sz := 1) (j := k) rfl rfl Tryd.underlying91 (by kernel_rfl) rfl (by omega) rfl) rfl rfl rfl ?_; clear hf fa; intro fa hf
                    refine sqv hf (r_load (v := (.int .u64 y)) rfl Tryd.underlying22 rfl (cellsAt_cell hel3 (i := 0) rfl rfl)) rfl rfl rfl ?_; clear hf fa; intro fa hf
                    refine sqv hf (r_assign rfl) rfl rfl rfl ?_; clear hf fa; intro fa hf
                    apply wpList_nil
                    (try simp only [Exit.then, Exit.inBlock, ↓reduceIte, Nat.reduceEqDiff])
                    refine hK30 _ _ ?_
                    refine wp_region_lit ?_
                    refine sqv hf (r_move rfl) rfl rfl rfl ?_; clear hf fa; intro fa hf
                    refine sqv hf (r_move rfl) rfl rfl rfl ?_; clear hf fa; intro fa hf
                    refine sqv hf (r_nilCheck rfl) rfl rfl rfl ?_; clear hf fa; intro fa hf
                    refine sqv hf (r_fa rfl Tryd.underlying25 (f := 3) (q := 3) rfl (by kernel_rfl) rfl) rfl rfl rfl ?_; clear hf fa; intro fa hf
                    refine sqv hf (r_load (v := (.slice roa (((((nbsP W).1).take ((((nbsP W).1.length)) - 1)).take k).length) roc)) rfl Tryd.underlying23 rfl (cell_blk hkbi rfl)) rfl rfl rfl ?_; clear hf fa; intro fa hf
                    refine sqv hf (r_move rfl) rfl rfl rfl ?_; clear hf fa; intro fa hf
                    refine sqv hf (r_conv (C := y) rfl Tryd.underlying22 Tryd.underlying62 (by rw [IntKind.wrap_u32]; omega)) rfl rfl rfl ?_; clear hf fa; intro fa hf
                    refine sqdt hf (d_bslice (z := (.int .u32 (0 : Int))) (sz := 1) (vs := [(0, (.int .u32 y))]) (cs := #[(.int .u32 y)]) rfl Tryd.underlying23 (by kernel_rfl) rfl (by kernel_rfl)) rfl rfl rfl ?_; clear hf fa; rintro fa _ w12 ⟨b1, rfl, hle1, hk7, he5⟩ hf
                    have hBb1 : w.heap.size ≤ b1 := Nat.le_trans hb.size hle1
                    have : bi < b1 := Nat.lt_of_lt_of_le (blk_lt hkbi) hle1
                    have hnr1 : (Value.slice roa (((((((nbsP W).1).take ((((nbsP W).1.length)) - 1)).take k)).length)) roc).ownBlock ≠ some b1 := fun hq => by have := (Row.lt hro _ hq).2; omega
                    have hnl1 : ∀ q, (Value.slice roa (((((((nbsP W).1).take ((((nbsP W).1.length)) - 1)).take k)).length)) roc).ownBlock = some q → q < b1 := fun q hq => Nat.lt_of_lt_of_le (Row.lt hro q hq).2 hle1
                    have : rb1 < b1 := Nat.lt_of_lt_of_le (Row.lt hra1 _ rfl).2 hle1
                    replace hkbi := blk_ext hkbi he5
                    replace hro := Row.ext hro he5
                    replace hra1 := Row.ext hra1 he5
                    replace hb := hb.trans (Below.mono he5 hb.size)
                    have hs1 := Row.rd (by intros; rfl) (Row.of_new (k := 1) (V := (vInt .u32)) (l := [y]) hk7 (Nat.le_refl _) rfl rfl (Nat.le_of_ble_eq_true rfl))
                    refine sqdt hf (d_append (V := (vInt .u32)) (k := 1) (e := 62) (bytes := 4) (z := (.int .u32 (0 : Int))) (news := [y]) (base := w.heap.size) (by intros; rfl) (by intro x u hu; simp only [vInt, List.mem_singleton] at hu; subst hu; rfl) rfl rfl Tryd.underlying23 (by kernel_rfl) rfl rfl rfl hro hs1 rfl (fun h => by cases h) (by first | omega | (simp only [List.length_cons, List.length_nil, List.length_append, nums_len]; omega)) (by have := hb.size; omega)) rfl rfl rfl ?_; clear hf fa; rintro fa v w13 ⟨hr3, hg7⟩ hf; obtain ⟨ra2, rc2, rfl, hcrc2, hmrc2⟩ := Row.slice hr3
                    replace hkbi := blk_row' hkbi hg7 (Row.ne_type hro hkbi rfl)
                    replace hra1 := Row.grown' hra1 hg7 (Row.ne_row hra1 hro rfl)
                    replace hb := hb.trans (row_below hro hg7 hb.size (by have := hb.size; omega))
                    refine sqv hf (r_nilCheck rfl) rfl rfl rfl ?_; clear hf fa; intro fa hf
                    refine sqv hf (r_fa rfl Tryd.underlying25 (f := 3) (q := 3) rfl (by kernel_rfl) rfl) rfl rfl rfl ?_; clear hf fa; intro fa hf
                    refine sqn hf (d_storeK (T := 25) (v := (.slice ra2 (((((((nbsP W).1).take ((((nbsP W).1.length)) - 1)).take k) ++ [y])).length) rc2)) (cs := #[(.int .u8 ((op : Nat) : Int)), (.int .u64 (((nbsP W).1.getD ((((nbsP W).1.length)) - 1) 0))), (.int .u64 (0 : Int)), (.slice roa (((((nbsP W).1).take ((((nbsP W).1.length)) - 1)).take k).length) roc)]) (cs' := #[(.int .u8 ((op : Nat) : Int)), (.int .u64 (((nbsP W).1.getD ((((nbsP W).1.length)) - 1) 0))), (.int .u64 (0 : Int)), (.slice ra2 (((((((nbsP W).1).take ((((nbsP W).1.length)) - 1)).take k) ++ [y])).length) rc2)]) rfl rfl (by kernel_rfl) (by kernel_rfl) hkbi (by kernel_rfl) (by kernel_rfl)) rfl rfl ?_; clear hf fa; rintro fa _ w14 ⟨hk8, hg8⟩ hf
                    replace hr3 := Row.grown hr3 hg8 (Row.ne_type hr3 hkbi rfl)
                    replace hra1 := Row.grown hra1 hg8 (Row.ne_type hra1 hkbi rfl)
                    replace hb := hb.wrote hg8 hb.size
                    apply wpList_nil
                    (try simp only [Exit.then, Exit.inBlock, ↓reduceIte, Nat.reduceEqDiff])
                    refine hK29 _ _ ?_
                    refine wp_region_lit ?_
                    refine sqv hf (r_add (C := (((k : Nat) : Int) + (1 : Int))) rfl rfl (by rw [IntKind.wrap_i64]; omega)) rfl rfl rfl ?_; clear hf fa; intro fa hf
                    refine sqv hf (r_move rfl) rfl rfl rfl ?_; clear hf fa; intro fa hf
                    apply wpList_nil
                    (try simp only [Exit.then, Exit.inBlock, ↓reduceIte, Nat.reduceEqDiff])
                    have hsn : ((((nbsP W).1).take ((((nbsP W).1.length)) - 1)).take k) ++ [y] = (((nbsP W).1).take ((((nbsP W).1.length)) - 1)).take (k + 1) := by rw [List.take_add_one, hy]; rfl
                    have hk9 := hk8
                    rw [hsn] at hk9
                    refine hKL1 _ _ _ (by omega) ⟨(k + 1), ra2, rc2, rfl, hf.sub ⟨rfl, (some_sl (by first | omega | rfl | (simp only [List.length_append, List.length_cons, List.length_nil]; omega) | (simp <;> omega)) rfl), rfl, (some_int (by first | rfl | omega)), trivial⟩, hb, (rowTo6 hr3 hsn), hra1, hk9, by omega⟩
                  · have hqt97_1b := hqt97_1
                    replace hqt97_1 := Bool.eq_false_iff.1 hqt97_1
                    try simp only [ne_eq, decide_eq_true_eq, Bool.and_eq_true, Bool.or_eq_true, Bool.not_eq_true', decide_eq_false_iff_not] at hqt97_1
                    refine wp_exit ?_
                    (try simp only [Exit.then, Exit.inBlock, ↓reduceIte, Nat.reduceEqDiff])
                    refine hK25 _ _ ?_
                    refine wp_seq_k (fun K31 hK31 => ?_)
                    refine wp_region_lit ?_
                    refine sqv hf (r_assign rfl) rfl rfl rfl ?_; clear hf fa; intro fa hf
                    apply wpList_nil
                    (try simp only [Exit.then, Exit.inBlock, ↓reduceIte, Nat.reduceEqDiff])
                    refine hK31 _ _ ?_
                    refine wp_ret ?_
                    (try simp only [Exit.then, Exit.inBlock])
                    refine ret1 hf rfl rfl ?_
                    have h8 : lblK op W = true := lblK_yes hqt80_1
                    have hB : resB op W = 0 := by unfold resB; rw [if_neg (by have h0 := hqt15_1; have h1 := hqt15_3; have h2 := hqt21_1; have h3 := hqt40_1; have h4 := hqt45_1; have h5 := hqt50_1; omega)]
                    have hK : resK op W = true := by unfold resK; rw [if_neg (by have h0 := hqt15_1; have h1 := hqt15_3; have h2 := hqt21_1; have h3 := hqt40_1; have h4 := hqt45_1; have h5 := hqt50_1; omega), if_neg (by have h0 := hqt15_1; have h1 := hqt15_3; have h2 := hqt21_1; have h3 := hqt40_1; have h4 := hqt45_1; have h5 := hqt50_1; omega), if_neg (by have h0 := hqt15_1; have h1 := hqt15_3; have h2 := hqt21_1; have h3 := hqt40_1; have h4 := hqt45_1; have h5 := hqt50_1; omega), if_neg (by have h0 := hqt15_1; have h1 := hqt15_3; have h2 := hqt21_1; have h3 := hqt40_1; have h4 := hqt45_1; have h5 := hqt50_1; omega), if_neg (by have h0 := hqt15_1; have h1 := hqt15_3; have h2 := hqt21_1; have h3 := hqt40_1; have h4 := hqt45_1; have h5 := hqt50_1; omega)]; exact h8
                    have hA : resA op W = (((nbsP W).1.getD ((((nbsP W).1.length)) - 1) 0)) := by unfold resA; rw [if_neg (by have h0 := hqt15_1; have h1 := hqt15_3; have h2 := hqt21_1; have h3 := hqt40_1; have h4 := hqt45_1; have h5 := hqt50_1; omega), if_neg (by have h0 := hqt15_1; have h1 := hqt15_3; have h2 := hqt21_1; have h3 := hqt40_1; have h4 := hqt45_1; have h5 := hqt50_1; omega), if_neg (by have h0 := hqt15_1; have h1 := hqt15_3; have h2 := hqt21_1; have h3 := hqt40_1; have h4 := hqt45_1; have h5 := hqt50_1; omega), if_neg (by have h0 := hqt15_1; have h1 := hqt15_3; have h2 := hqt21_1; have h3 := hqt40_1; have h4 := hqt45_1; have h5 := hqt50_1; omega), if_neg (by have h0 := hqt15_1; have h1 := hqt15_3; have h2 := hqt21_1; have h3 := hqt40_1; have h4 := hqt45_1; have h5 := hqt50_1; omega)]; rw [if_pos h8]
                    have hL : resL op W = ((((nbsP W).1).take ((((nbsP W).1.length)) - 1)).take k) := by unfold resL; rw [if_neg (by have h0 := hqt15_1; have h1 := hqt15_3; have h2 := hqt21_1; have h3 := hqt40_1; have h4 := hqt45_1; have h5 := hqt50_1; omega), if_pos h8]; exact (List.take_of_length_le (i := k) (l := (((nbsP W).1).take ((((nbsP W).1.length)) - 1))) (by rw [List.length_take]; omega)).symm
                    rw [hK, hA, hB, hL]
                    exact ⟨rfl, _, _, hkbi, hro, hb.grown⟩
end Go.Proofs.YtpalmpfkliepfaaDoor

namespace Go.Proofs.YtpalmpfkliepfaaDoor
open Go.RowKit Ut
set_option linter.unusedVariables false
set_option linter.unusedSimpArgs false
attribute [local irreducible] infP ofP chkP rchkP

def no32 (s : ByteArray) : Prop := ∀ c ∈ bl s, c ≠ 32
theorem splitL_cat (ps : List (List Nat)) (h : ∀ p ∈ ps, ∀ c ∈ p, c ≠ 32) : ∀ (p : List Nat), (∀ c ∈ p, c ≠ 32) → splitL (p ++ ps.flatMap (fun q => 32 :: q)) = p :: ps := by
  induction ps with
  | nil =>
    intro p hp
    rw [List.flatMap_nil, List.append_nil]
    unfold splitL
    rw [splitA_no p hp]; rfl
  | cons q ps ih =>
    intro p hp
    have h2 := ih (fun r hr => h r (List.mem_cons_of_mem _ hr)) q (h q (List.mem_cons_self ..))
    unfold splitL at h2 ⊢
    rw [List.flatMap_cons, List.cons_append, splitA_hit p _ hp, h2]; rfl
theorem bl_fold (ws : List ByteArray) : ∀ w0, bl (foldD id w0 ws) = bl w0 ++ (ws.map bl).flatMap (fun q => 32 :: q) := by
  induction ws with
  | nil => intro w0; rw [List.map_nil, List.flatMap_nil, List.append_nil]; rfl
  | cons y ws ih =>
    intro w0
    show bl (foldD id (w0 ++ ((⟨#[32]⟩ : ByteArray) ++ y)) ws) = _
    rw [ih, bl_app, bl_app, List.map_cons, List.flatMap_cons, List.append_assoc]
    rfl
theorem words_join (w0 : ByteArray) (ws : List ByteArray) (h0 : no32 w0) (h : ∀ y ∈ ws, no32 y) : wordsS (foldD id w0 ws) = w0 :: ws := by
  unfold wordsS
  rw [bl_fold, splitL_cat _ (fun p hp => by obtain ⟨y, hy, rfl⟩ := List.mem_map.1 hp; exact h y hy) _ h0, List.map_cons, strN_bl, List.map_map]
  congr 1
  conv => rhs; rw [← List.map_id ws]
  apply List.map_congr_left
  intro y _
  exact strN_bl y

def argsW (op : Nat) (A B : Int) (L : List Int) : List ByteArray :=
  if (infP op).2.1 = 0 ∨ (infP op).2.1 = 9 then []
  else if (infP op).2.1 = 1 then (if A = 64 then [] else [tnameP (A % 256)])
  else if (infP op).2.1 = 3 then L.map dS ++ [dS (sA A)]
  else if (infP op).2.1 = 8 then [(⟨#[97, 108, 105, 103, 110, 61]⟩ : ByteArray) ++ dS (sA A), (⟨#[111, 102, 102, 115, 101, 116, 61]⟩ : ByteArray) ++ dS (sA B)]
  else if (infP op).2.1 = 10 then [dS (s32 A)]
  else [dS (sA A)]
theorem foldD_map {α : Type} (f : α → ByteArray) (l : List α) : ∀ w, foldD id w (l.map f) = foldD f w l := by
  induction l with
  | nil => intro w; rfl
  | cons y l ih => intro w; exact ih _
theorem foldD_one (w y : ByteArray) : foldD id w [y] = w ++ ((⟨#[32]⟩ : ByteArray) ++ y) := rfl
theorem foldD_app {α : Type} (f : α → ByteArray) (l m : List α) (w : ByteArray) : foldD f w (l ++ m) = foldD f (foldD f w l) m := List.foldl_append ..
theorem line_join (op : Nat) (A B : Int) (L : List Int) : nmO op ++ behindP op A B L = foldD id (nmO op) (argsW op A B L) := by
  unfold behindP argsW
  split
  · exact app_nil _
  split
  · unfold blkS
    split
    · exact app_nil _
    · rfl
  split
  · rw [foldD_app, foldD_map, foldD_one, show foldD dS (nmO op) L = nmO op ++ foldD dS (⟨#[]⟩ : ByteArray) L by rw [← foldD_base, app_nil]]
    simp only [ByteArray.append_assoc]
  split
  · show _ = (nmO op ++ ((⟨#[32]⟩ : ByteArray) ++ ((⟨#[97, 108, 105, 103, 110, 61]⟩ : ByteArray) ++ dS (sA A)))) ++ ((⟨#[32]⟩ : ByteArray) ++ ((⟨#[111, 102, 102, 115, 101, 116, 61]⟩ : ByteArray) ++ dS (sA B)))
    rw [show (⟨#[32, 97, 108, 105, 103, 110, 61]⟩ : ByteArray) = (⟨#[32]⟩ : ByteArray) ++ (⟨#[97, 108, 105, 103, 110, 61]⟩ : ByteArray) from rfl, show (⟨#[32, 111, 102, 102, 115, 101, 116, 61]⟩ : ByteArray) = (⟨#[32]⟩ : ByteArray) ++ (⟨#[111, 102, 102, 115, 101, 116, 61]⟩ : ByteArray) from rfl]
    simp only [ByteArray.append_assoc]
  split
  · rfl
  · rfl
theorem dS_no (n : Int) : no32 (dS n) := by
  intro c hc
  rw [bl_dS] at hc
  unfold digB at hc
  split at hc
  · rcases List.mem_cons.1 hc with rfl | hc
    · decide
    · have := natB_dig _ c hc; omega
  · have := natB_dig _ c hc; omega
theorem tname_no32 (b : Int) : no32 (tnameP b) := by
  unfold tnameP no32
  generalize decide (b = 127) = a1
  generalize decide (b = 126) = a2
  generalize decide (b = 125) = a3
  generalize decide (b = 124) = a4
  generalize decide (b = 112) = a5
  cases a1 <;> cases a2 <;> cases a3 <;> cases a4 <;> cases a5 <;> decide
theorem no32_app {s t : ByteArray} (h1 : no32 s) (h2 : no32 t) : no32 (s ++ t) := by
  intro c hc
  rw [bl_app] at hc
  rcases List.mem_append.1 hc with h | h
  · exact h1 c h
  · exact h2 c h
theorem args_no (op : Nat) (A B : Int) (L : List Int) : ∀ y ∈ argsW op A B L, no32 y := by
  have ha : no32 (⟨#[97, 108, 105, 103, 110, 61]⟩ : ByteArray) := by unfold no32; decide
  have ho : no32 (⟨#[111, 102, 102, 115, 101, 116, 61]⟩ : ByteArray) := by unfold no32; decide
  intro y hy
  unfold argsW at hy
  split at hy
  · cases hy
  split at hy
  · split at hy
    · cases hy
    · rw [List.mem_singleton] at hy; subst hy; exact tname_no32 _
  split at hy
  · rcases List.mem_append.1 hy with h | h
    · obtain ⟨z, _, rfl⟩ := List.mem_map.1 h; exact dS_no z
    · rw [List.mem_singleton] at h; subst h; exact dS_no _
  split at hy
  · simp only [List.mem_cons, List.not_mem_nil, or_false] at hy
    rcases hy with rfl | rfl
    · exact no32_app ha (dS_no _)
    · exact no32_app ho (dS_no _)
  split at hy
  · rw [List.mem_singleton] at hy; subst hy; exact dS_no _
  · rw [List.mem_singleton] at hy; subst hy; exact dS_no _
theorem words_line {op : Nat} {A B : Int} {L : List Int} (hop : op < 256) (h : rightP op A B L.length = 0) : wordsS (lineP op A B L) = nmO op :: argsW op A B L := by
  unfold lineP
  rw [if_pos h, line_join]
  exact words_join _ _ (nmO_sp hop) (args_no op A B L)
end Go.Proofs.YtpalmpfkliepfaaDoor

namespace Go.Proofs.YtpalmpfkliepfaaDoor
open Go.RowKit Ut
set_option linter.unusedVariables false
set_option linter.unusedSimpArgs false
attribute [local irreducible] infP ofP chkP rchkP

theorem num_dS {n : Int} (h : inI n) : numP (bl (dS n)) = (n, true) := by rw [bl_dS]; exact numP_dig h
theorem inI_lo {n : Int} (h : 0 ≤ n ∧ n < 4294967296) : inI n := inI_u32 (by omega)
theorem nbs_dig (l : List Int) (h : ∀ y ∈ l, 0 ≤ y ∧ y < 4294967296) : ∀ o, nbsA o (l.map dS) = (o ++ l, true) := by
  induction l with
  | nil => intro o; rw [List.append_nil]; rfl
  | cons y l ih =>
    intro o
    have hy := h y (List.mem_cons_self ..)
    rw [List.map_cons, nbsA, if_pos (by unfold okN; rw [num_dS (inI_lo hy)]; simp; omega), num_dS (inI_lo hy), ih (fun z hz => h z (List.mem_cons_of_mem _ hz)), List.append_assoc]; rfl
theorem hasP_app (p x : ByteArray) : hasP (p ++ x) p = true := by
  rw [hasP_bl, bl_app, List.isPrefixOf_iff_prefix]; exact List.prefix_append _ _
theorem cutS_app (p x : ByteArray) : cutS (p ++ x) p = x := by
  apply bl_inj
  rw [cutS_bl, if_pos (hasP_app p x), bl_app, ← bl_length, List.drop_left]
theorem uA_sA {A : Int} (h : 0 ≤ A ∧ A < 18446744073709551616) : uA (sA A) = A := by unfold uA sA; split <;> split <;> omega
theorem s32_back {A : Int} (h : 0 ≤ A ∧ A < 4294967296) : s32 A % 4294967296 = A ∧ s32 A = i32w (s32 A) := by unfold i32w s32; constructor <;> (repeat' split) <;> omega
theorem sA_low {A : Int} (h : 0 ≤ A ∧ A < 4294967296) : sA A = A := by unfold sA; rw [if_pos (by omega)]

theorem byt_back : bytP (tnameP 127) = 127 ∧ bytP (tnameP 126) = 126 := by decide +kernel
theorem acc_back {A B : Int} (hA : 0 ≤ A ∧ A < 4294967296) (hB : 0 ≤ B ∧ B < 4294967296) : accK [(⟨#[97, 108, 105, 103, 110, 61]⟩ : ByteArray) ++ dS A, (⟨#[111, 102, 102, 115, 101, 116, 61]⟩ : ByteArray) ++ dS B] = true ∧ accP [(⟨#[97, 108, 105, 103, 110, 61]⟩ : ByteArray) ++ dS A, (⟨#[111, 102, 102, 115, 101, 116, 61]⟩ : ByteArray) ++ dS B] = (A, B) := by
  have hl : accL [(⟨#[97, 108, 105, 103, 110, 61]⟩ : ByteArray) ++ dS A, (⟨#[111, 102, 102, 115, 101, 116, 61]⟩ : ByteArray) ++ dS B] = [dS A, dS B] := by
    show [cutS ((⟨#[97, 108, 105, 103, 110, 61]⟩ : ByteArray) ++ dS A) (⟨#[97, 108, 105, 103, 110, 61]⟩ : ByteArray), cutS ((⟨#[111, 102, 102, 115, 101, 116, 61]⟩ : ByteArray) ++ dS B) (⟨#[111, 102, 102, 115, 101, 116, 61]⟩ : ByteArray)] = _
    rw [cutS_app, cutS_app]
  have hn : nbsP [dS A, dS B] = ([A, B], true) := nbs_dig [A, B] (fun y hy => by simp only [List.mem_cons, List.not_mem_nil, or_false] at hy; rcases hy with rfl | rfl <;> assumption) []
  have hk : accK [(⟨#[97, 108, 105, 103, 110, 61]⟩ : ByteArray) ++ dS A, (⟨#[111, 102, 102, 115, 101, 116, 61]⟩ : ByteArray) ++ dS B] = true := by
    unfold accK
    rw [hl, hn]
    show (decide (2 = 2) && (hasP ((⟨#[97, 108, 105, 103, 110, 61]⟩ : ByteArray) ++ dS A) (⟨#[97, 108, 105, 103, 110, 61]⟩ : ByteArray) && (hasP ((⟨#[111, 102, 102, 115, 101, 116, 61]⟩ : ByteArray) ++ dS B) (⟨#[111, 102, 102, 115, 101, 116, 61]⟩ : ByteArray) && true))) = true
    rw [hasP_app, hasP_app]; rfl
  refine ⟨hk, ?_⟩
  unfold accP
  rw [if_pos hk, hl, hn]
  rfl
theorem con_short {A : Int} (h : 0 ≤ A ∧ A < 4294967296) : conP [dS (s32 A)] true = (A, true) := by
  have hb := s32_back h
  unfold conP
  rw [if_neg (show ¬ [dS (s32 A)].length ≠ 1 from fun e => e rfl), if_pos rfl, show wd [dS (s32 A)] 0 = dS (s32 A) from rfl, num_dS (inI_s32 A), decide_eq_true hb.2]
  simp only [hb.1]
  rfl
theorem con_long {A : Int} (h : 0 ≤ A ∧ A < 18446744073709551616) : conP [dS (sA A)] false = (A, true) := by
  unfold conP
  rw [if_neg (show ¬ [dS (sA A)].length ≠ 1 from fun e => e rfl), if_neg (by decide), show wd [dS (sA A)] 0 = dS (sA A) from rfl, num_dS (inI_sA h)]
  simp only [uA_sA h]

theorem rest_back {op : Nat} {A B : Int} {L : List Int} (hr : rightP op A B L.length = 0) (hA : 0 ≤ A ∧ A < 18446744073709551616) (hB : 0 ≤ B) (hL : ∀ y ∈ L, 0 ≤ y ∧ y < 4294967296) :
    resK op (argsW op A B L) = true ∧ resA op (argsW op A B L) = A ∧ resB op (argsW op A B L) = B ∧ resL op (argsW op A B L) = L := by
  obtain ⟨_, h1, _, h3, h4, h5, h6⟩ := right_out hr
  generalize him : (infP op).2.1 = im at h1 h3 h4 h5 h6
  by_cases c0 : im = 0 ∨ im = 9
  · have hl : L = [] := List.eq_nil_of_length_eq_zero (by omega)
    have c8 : ¬ im = 8 := by omega
    have cl : im = 0 ∨ im = 9 ∨ im = 1 ∨ im = 8 ∨ im = 10 ∨ im = 11 := by omega
    simp only [resK, resA, resB, resL, argsW, him, if_pos c0, if_neg c8, if_pos cl, hl]
    exact ⟨rfl, (h4 c0).symm, by omega, trivial⟩
  by_cases c1 : im = 1
  · have hl : L = [] := List.eq_nil_of_length_eq_zero (by omega)
    have c8 : ¬ im = 8 := by omega
    have cl : im = 0 ∨ im = 9 ∨ im = 1 ∨ im = 8 ∨ im = 10 ∨ im = 11 := by omega
    simp only [resK, resA, resB, resL, argsW, him, if_neg c0, if_pos c1, if_neg c8, if_pos cl, hl]
    rcases h5 c1 with e | e | e
    · rw [if_pos e]; exact ⟨rfl, by rw [e]; rfl, by omega, trivial⟩
    · rw [if_neg (show ¬ A = 64 by omega), e]; exact ⟨rfl, byt_back.1, by omega, trivial⟩
    · rw [if_neg (show ¬ A = 64 by omega), e]; exact ⟨rfl, byt_back.2, by omega, trivial⟩
  by_cases c10 : im = 10
  · have hl : L = [] := List.eq_nil_of_length_eq_zero (by omega)
    have c8 : ¬ im = 8 := by omega
    have c3 : ¬ im = 3 := by omega
    have cl : im = 0 ∨ im = 9 ∨ im = 1 ∨ im = 8 ∨ im = 10 ∨ im = 11 := by omega
    have hlo := h6 c0 c1 (by omega)
    simp only [resK, resA, resB, resL, argsW, him, if_neg c0, if_neg c1, if_neg c3, if_neg c8, if_pos c10, if_pos cl, hl, con_short (A := A) ⟨hA.1, hlo.1⟩]
    exact ⟨trivial, trivial, by omega, trivial⟩
  by_cases c11 : im = 11
  · have hl : L = [] := List.eq_nil_of_length_eq_zero (by omega)
    have c8 : ¬ im = 8 := by omega
    have c3 : ¬ im = 3 := by omega
    have cl : im = 0 ∨ im = 9 ∨ im = 1 ∨ im = 8 ∨ im = 10 ∨ im = 11 := by omega
    simp only [resK, resA, resB, resL, argsW, him, if_neg c0, if_neg c1, if_neg c3, if_neg c8, if_neg c10, if_pos c11, if_pos cl, hl, con_long (A := A) hA]
    exact ⟨trivial, trivial, by omega, trivial⟩
  have hlo := h6 c0 c1 c11
  have hsa : sA A = A := sA_low ⟨hA.1, hlo.1⟩
  have hsb : sA B = B := sA_low ⟨hB, hlo.2⟩
  by_cases c8 : im = 8
  · have hl : L = [] := List.eq_nil_of_length_eq_zero (by omega)
    have c3 : ¬ im = 3 := by omega
    have cl : im = 0 ∨ im = 9 ∨ im = 1 ∨ im = 8 ∨ im = 10 ∨ im = 11 := by omega
    have hac := acc_back (A := A) (B := B) ⟨hA.1, hlo.1⟩ ⟨hB, hlo.2⟩
    simp only [resK, resA, resB, resL, argsW, him, if_neg c0, if_neg c1, if_neg c3, if_pos c8, if_pos cl, hl, hsa, hsb, hac.1, hac.2]
    exact ⟨trivial, trivial, trivial, trivial⟩
  have cl : ¬ (im = 0 ∨ im = 9 ∨ im = 1 ∨ im = 8 ∨ im = 10 ∨ im = 11) := by omega
  have hn : nbsP (L.map dS ++ [dS A]) = (L ++ [A], true) := by
    have h := nbs_dig (L ++ [A]) (fun y hy => by
      rcases List.mem_append.1 hy with h | h
      · exact hL y h
      · rw [List.mem_singleton] at h; subst h; exact ⟨hA.1, hlo.1⟩) []
    rw [List.map_append] at h
    exact h
  have ha : argsW op A B L = L.map dS ++ [dS A] := by
    by_cases c3 : im = 3
    · simp only [argsW, him, if_neg c0, if_neg c1, if_pos c3, hsa]
    · have hl : L = [] := List.eq_nil_of_length_eq_zero (by omega)
      simp only [argsW, him, if_neg c0, if_neg c1, if_neg c3, if_neg c8, if_neg c10, hsa, hl]; rfl
  have hk : lblK op (L.map dS ++ [dS A]) = true := by
    refine lblK_yes ?_
    rw [hn, him]
    rintro ((h | h) | ⟨h, h7⟩)
    · cases h
    · rw [List.length_append] at h; simp at h; omega
    · rw [List.length_append] at h; simp at h; omega
  rw [ha]
  simp only [resK, resA, resB, resL, him, if_neg c0, if_neg c1, if_neg c8, if_neg c10, if_neg c11, if_neg cl, hk, if_true, hn]
  refine ⟨trivial, ?_, by omega, ?_⟩
  · simp
  · simp
end Go.Proofs.YtpalmpfkliepfaaDoor

namespace Go.Proofs.YtpalmpfkliepfaaDoor
open Go.RowKit Ut
set_option linter.unusedVariables false
set_option linter.unusedSimpArgs false
attribute [local irreducible] infP ofP chkP rchkP

def w0P (s : ByteArray) : ByteArray := wd (wordsS s) 0
def opN (s : ByteArray) : Nat := (findP (w0P s)).1.toNat
def wsP (s : ByteArray) : List ByteArray := (wordsS s).drop 1
def parK (s : ByteArray) : Bool := (findP (w0P s)).2 && (resK (opN s) (wsP s) && decide (lineP (opN s) (resA (opN s) (wsP s)) (resB (opN s) (wsP s)) (resL (opN s) (wsP s)) = s))
theorem opN_lt (s : ByteArray) : opN s < 256 ∧ (findP (w0P s)).1 = ((opN s : Nat) : Int) := by
  have h := (findP_out (w0P s)).2
  unfold opN
  omega
/-- A right instruction's line is read as it. -/
theorem par_back {op : Nat} {A B : Int} {L : List Int} (hop : op < 256) (hr : rightP op A B L.length = 0) (hA : 0 ≤ A ∧ A < 18446744073709551616) (hB : 0 ≤ B) (hL : ∀ y ∈ L, 0 ≤ y ∧ y < 4294967296) :
    opN (lineP op A B L) = op ∧ wsP (lineP op A B L) = argsW op A B L ∧ parK (lineP op A B L) = true := by
  have hw := words_line (A := A) (B := B) (L := L) hop hr
  have hn := nmO_ok hop (right_out hr).1
  have h0 : w0P (lineP op A B L) = nmO op := by unfold w0P; rw [hw]; rfl
  have hf := findP_hit hop hn
  have ho : opN (lineP op A B L) = op := by unfold opN; rw [h0, hf]; simp
  have hs : wsP (lineP op A B L) = argsW op A B L := by unfold wsP; rw [hw]; rfl
  obtain ⟨b1, b2, b3, b4⟩ := rest_back hr hA hB hL
  refine ⟨ho, hs, ?_⟩
  unfold parK
  rw [ho, hs, h0, hf, b1, b2, b3, b4]
  simp
end Go.Proofs.YtpalmpfkliepfaaDoor

namespace Go.Proofs.YtpalmpfkliepfaaDoor
open Go.RowKit Ut
set_option linter.unusedVariables false
set_option linter.unusedSimpArgs false
attribute [local irreducible] infP ofP chkP rchkP

theorem uA_rng {n : Int} (h : inI n) : 0 ≤ uA n ∧ uA n < 18446744073709551616 := by unfold uA inI at *; split <;> omega
theorem getD_rng {l : List Int} {j : Nat} (h : ∀ y ∈ l, 0 ≤ y ∧ y < (4294967296 : Int)) : 0 ≤ l.getD j 0 ∧ l.getD j 0 < 4294967296 := by
  rw [List.getD_eq_getElem?_getD]
  cases hk : l[j]? with
  | none => exact ⟨by decide, by decide⟩
  | some y => exact h y (List.mem_of_getElem? hk)
theorem conP_rng (W : List ByteArray) (sh : Bool) : 0 ≤ (conP W sh).1 ∧ (conP W sh).1 < 18446744073709551616 := by
  unfold conP
  split
  · exact ⟨by decide, by decide⟩
  · split
    · constructor
      · exact Int.emod_nonneg _ (by decide)
      · have := Int.emod_lt_of_pos (numP (bl (wd W 0))).1 (show (0 : Int) < 4294967296 by decide)
        show (numP (bl (wd W 0))).1 % 4294967296 < _
        omega
    · exact uA_rng (numP_in _)
theorem accP_rng (W : List ByteArray) : (0 ≤ (accP W).1 ∧ (accP W).1 < 4294967296) ∧ (0 ≤ (accP W).2 ∧ (accP W).2 < 4294967296) := by
  unfold accP
  split
  · exact ⟨getD_rng (nbs_rng _), getD_rng (nbs_rng _)⟩
  · exact ⟨⟨by decide, by decide⟩, ⟨by decide, by decide⟩⟩
theorem resA_rng (op : Nat) (W : List ByteArray) : 0 ≤ resA op W ∧ resA op W < 18446744073709551616 := by
  unfold resA
  split
  · exact ⟨by decide, by decide⟩
  split
  · split
    · have := bytP_rng (wd W 0); omega
    · exact ⟨by decide, by decide⟩
  split
  · have := (accP_rng W).1; omega
  split
  · exact conP_rng W true
  split
  · exact conP_rng W false
  split
  · have := getD_rng (j := (nbsP W).1.length - 1) (nbs_rng W); omega
  · exact ⟨by decide, by decide⟩
theorem resB_rng (op : Nat) (W : List ByteArray) : 0 ≤ resB op W ∧ resB op W < 18446744073709551616 := by
  unfold resB
  split
  · have := (accP_rng W).2; omega
  · exact ⟨by decide, by decide⟩
theorem resL_rng (op : Nat) (W : List ByteArray) : (∀ y ∈ resL op W, 0 ≤ y ∧ y < (4294967296 : Int)) ∧ (resL op W).length ≤ W.length := by
  unfold resL
  split
  · exact ⟨fun y hy => (by cases hy), Nat.zero_le _⟩
  split
  · refine ⟨fun y hy => nbs_rng W y (List.mem_of_mem_take hy), ?_⟩
    have := nbsA_len W []
    simp at this
    rw [List.length_take]
    unfold nbsP
    omega
  · exact ⟨fun y hy => (by cases hy), Nat.zero_le _⟩
def pO (s : ByteArray) : Int := if parK s = true then ((opN s : Nat) : Int) else 0
def pA (s : ByteArray) : Int := if parK s = true then resA (opN s) (wsP s) else 0
def pB (s : ByteArray) : Int := if parK s = true then resB (opN s) (wsP s) else 0
def pL (s : ByteArray) : List Int := if parK s = true then resL (opN s) (wsP s) else []
def pE (s : ByteArray) : Int := if parK s = true then 0 else 49
theorem par_yes {s : ByteArray} (h : parK s = true) : pO s = ((opN s : Nat) : Int) ∧ pA s = resA (opN s) (wsP s) ∧ pB s = resB (opN s) (wsP s) ∧ pL s = resL (opN s) (wsP s) ∧ pE s = 0 := by
  unfold pO pA pB pL pE
  rw [if_pos h, if_pos h, if_pos h, if_pos h, if_pos h]
  exact ⟨rfl, rfl, rfl, rfl, rfl⟩
theorem par_no {s : ByteArray} (h : parK s = false) : pO s = 0 ∧ pA s = 0 ∧ pB s = 0 ∧ pL s = [] ∧ pE s = 49 := by
  have h2 : ¬ parK s = true := by rw [h]; decide
  unfold pO pA pB pL pE
  rw [if_neg h2, if_neg h2, if_neg h2, if_neg h2, if_neg h2]
  exact ⟨rfl, rfl, rfl, rfl, rfl⟩
theorem parK_1 {s : ByteArray} (h : ¬ (findP (w0P s)).2 = true) : parK s = false := by
  have h2 : (findP (w0P s)).2 = false := by cases hz : (findP (w0P s)).2; rfl; exact absurd hz h
  unfold parK; rw [h2]; rfl
theorem parK_2 {s : ByteArray} (h : ¬ resK (opN s) (wsP s) = true) : parK s = false := by
  have h2 : resK (opN s) (wsP s) = false := by cases hz : resK (opN s) (wsP s); rfl; exact absurd hz h
  unfold parK; rw [h2]; simp
theorem parK_3 {s : ByteArray} (h : ¬ lineP (opN s) (resA (opN s) (wsP s)) (resB (opN s) (wsP s)) (resL (opN s) (wsP s)) = s) : parK s = false := by
  unfold parK; rw [decide_eq_false h]; simp
theorem parK_4 {s : ByteArray} (h1 : (findP (w0P s)).2 = true) (h2 : resK (opN s) (wsP s) = true) (h : lineP (opN s) (resA (opN s) (wsP s)) (resB (opN s) (wsP s)) (resL (opN s) (wsP s)) = s) : parK s = true := by
  unfold parK; rw [decide_eq_true h, h1, h2]; rfl

theorem calls_val {P : Program} {f : FuncId} {xs : Array Value} {w : World} {v : Value} {R : World → Prop} (h : Calls P f xs w fun e w' => e = .returned v ∧ R w') : Calls P f xs w fun e w' => ∃ x, e = .returned x ∧ (x = v ∧ R w') := h.mono (fun e w' h => ⟨v, h.1, rfl, h.2⟩)
theorem slAt_ne {a : Option Addr} {c l k n cc b : Nat} {q : Addr} (h : slAt a c l k = some q) (hne : (Value.slice a n cc).ownBlock ≠ some b) : q.block ≠ b := by
  cases a with
  | none => unfold slAt at h; split at h <;> cases h
  | some p =>
    intro e
    refine hne ?_
    show some p.block = some b
    unfold slAt at h
    split at h
    · cases h; rw [← e]
    · cases h
      rw [← e]
      show some p.block = some (p.add (l * k)).block
      unfold Addr.add
      split <;> rfl

set_option maxHeartbeats 1000000 in
set_option maxRecDepth 100000 in
theorem parse_any (s : ByteArray) (w : World) (hs : s.size ≤ 50000) : Calls Tryd.prog 9 #[(.string s)] w fun e w' => ∃ v, e = .returned v ∧ ∃ aL cL, v = (.tuple #[.agg #[.int .u8 (pO s), .int .u64 (pA s), .int .u64 (pB s), .slice aL (pL s).length cL], .int .i64 (pE s)]) ∧ Row 1 (vInt .u32) 62 w.heap.size w' (.slice aL (pL s).length cL) (pL s) ∧ Below w.heap.size w w' := by
  have hop := (opN_lt s).1
  have hfo := (opN_lt s).2
  have hwn := words_len s
  have hwl : (wsP s).length = (wordsS s).length - 1 := by unfold wsP; rw [List.length_drop]
  have hwW : ∀ y ∈ wsP s, y.size ≤ 100000 := fun y hy => by
    have := hwn.2.2 y (List.mem_of_mem_drop hy)
    omega
  refine sx_enter (L := [(0, (.string s))]) Tryd.func9 rfl rfl rfl rfl (fun fa hf => ?_)
  have hb : Below w.heap.size w w := Below.refl _ _
  refine wp_seq_k (fun K1 hK1 => ?_)
  refine wp_region_lit ?_
  refine sqdt hf (d_alloc (z := (.agg #[(.int .u8 (0 : Int)), (.int .u64 (0 : Int)), (.int .u64 (0 : Int)), (.slice none 0 0)])) (cs := #[(.int .u8 (0 : Int)), (.int .u64 (0 : Int)), (.int .u64 (0 : Int)), (.slice none 0 0)]) (by kernel_rfl) rfl) rfl rfl rfl ?_; clear hf fa; rintro fa _ w1 ⟨b1, rfl, hle1, hk1, he1⟩ hf
  have hBb1 : w.heap.size ≤ b1 := Nat.le_trans hb.size hle1
  replace hb := hb.trans (Below.mono he1 hb.size)
  refine sqv hf (r_assign rfl) rfl rfl rfl ?_; clear hf fa; intro fa hf
  apply wpList_nil
  (try simp only [Exit.then, Exit.inBlock, ↓reduceIte, Nat.reduceEqDiff])
  refine hK1 _ _ ?_
  refine wp_seq_k (fun K2 hK2 => ?_)
  refine wp_region_lit ?_
  refine sqv hf (r_move rfl) rfl rfl rfl ?_; clear hf fa; intro fa hf
  refine sqdt hf (d_callX (vs := [(.string s), (.string ⟨#[32]⟩)]) rfl Tryd.func26 (by kernel_rfl) (by kernel_rfl) (split_any s _ (by omega))) rfl rfl rfl ?_; clear hf fa; rintro fa v w2 ⟨hr1, he2⟩ hf; obtain ⟨ra1, rc1, rfl, hcrc1, hmrc1⟩ := Row.slice hr1
  replace hr1 := Row.rebase hr1 hb.size
  replace hk1 := blk_ext hk1 he2
  replace hb := hb.trans (Below.mono he2 hb.size)
  refine sqv hf (r_assign rfl) rfl rfl rfl ?_; clear hf fa; intro fa hf
  apply wpList_nil
  (try simp only [Exit.then, Exit.inBlock, ↓reduceIte, Nat.reduceEqDiff])
  refine hK2 _ _ ?_
  refine wp_seq_k (fun K3 hK3 => ?_)
  refine wp_region_lit ?_
  refine sqv hf (r_move rfl) rfl rfl rfl ?_; clear hf fa; intro fa hf
  obtain ⟨rb1, rfl, hbbrb1, hlbrb1⟩ := Row.some hr1 (by first | omega | (simp only [Sl.list_length, List.length_set, List.length_take, List.length_append, List.length_replicate, List.length_cons, List.length_nil, List.length_map, nums_len]; omega))
  have hy1 : ((wordsS s))[0]? = some (w0P s) := (wd_at (by omega))
  have hel1 := RdS.at (Row.rd (by intros; rfl) hr1) hy1
  obtain ⟨_, _, hab, hlr1, hel1⟩ := hel1
  cases hab
  refine sqv hf (r_ixa (sz := 1) (j := 0) rfl rfl Tryd.underlying43 (by kernel_rfl) rfl (by omega) rfl) rfl rfl rfl ?_; clear hf fa; intro fa hf
  refine sqv hf (r_load (v := (.string (w0P s))) rfl Tryd.underlying9 rfl (cellsAt_cell hel1 (i := 0) rfl rfl)) rfl rfl rfl ?_; clear hf fa; intro fa hf
  refine sqdt hf (d_callB (vs := [(.string (w0P s))]) rfl Tryd.func27 (by kernel_rfl) (by kernel_rfl) ((find_any (w0P s) _).mono (fun e w' h => ⟨by rw [h.1, hfo], h.2⟩))) rfl rfl rfl ?_; clear hf fa; rintro fa _ w3 ⟨rfl, he3⟩ hf
  replace hk1 := blk_ext hk1 he3
  replace hr1 := Row.ext hr1 he3
  replace hb := hb.trans (Below.mono he3 hb.size)
  refine sqv hf (r_move rfl) rfl rfl rfl ?_; clear hf fa; intro fa hf
  refine sqv hf (r_extract rfl (i := 0) rfl) rfl rfl rfl ?_; clear hf fa; intro fa hf
  refine sqv hf (r_extract rfl (i := 1) rfl) rfl rfl rfl ?_; clear hf fa; intro fa hf
  refine sqv hf (r_assign rfl) rfl rfl rfl ?_; clear hf fa; intro fa hf
  refine sqv hf (r_assign rfl) rfl rfl rfl ?_; clear hf fa; intro fa hf
  apply wpList_nil
  (try simp only [Exit.then, Exit.inBlock, ↓reduceIte, Nat.reduceEqDiff])
  refine hK3 _ _ ?_
  refine wp_seq_k (fun K4 hK4 => ?_)
  refine wp_region_lit ?_
  refine sqv hf (r_move rfl) rfl rfl rfl ?_; clear hf fa; intro fa hf
  refine sqv hf (r_build (vs := [(0, (.int .u8 ((opN s : Nat) : Int)))]) (cs := #[(.int .u8 ((opN s : Nat) : Int)), (.int .u64 (0 : Int)), (.int .u64 (0 : Int)), (.slice none 0 0)]) rfl (fun _ => by kernel_rfl)) rfl rfl rfl ?_; clear hf fa; intro fa hf
  refine sqdt hf (d_alloc (z := (.agg #[(.int .u8 (0 : Int)), (.int .u64 (0 : Int)), (.int .u64 (0 : Int)), (.slice none 0 0)])) (cs := #[(.int .u8 (0 : Int)), (.int .u64 (0 : Int)), (.int .u64 (0 : Int)), (.slice none 0 0)]) (by kernel_rfl) rfl) rfl rfl rfl ?_; clear hf fa; rintro fa _ w4 ⟨b2, rfl, hle2, hk2, he4⟩ hf
  have hBb2 : w.heap.size ≤ b2 := Nat.le_trans hb.size hle2
  have : b1 < b2 := Nat.lt_of_lt_of_le (blk_lt hk1) hle2
  have : rb1 < b2 := Nat.lt_of_lt_of_le (Row.lt hr1 _ rfl).2 hle2
  replace hk1 := blk_ext hk1 he4
  replace hr1 := Row.ext hr1 he4
  replace hb := hb.trans (Below.mono he4 hb.size)
  refine sqn hf (d_storeK (T := 25) (v := (.agg #[(.int .u8 ((opN s : Nat) : Int)), (.int .u64 (0 : Int)), (.int .u64 (0 : Int)), (.slice none 0 0)])) (cs := #[(.int .u8 (0 : Int)), (.int .u64 (0 : Int)), (.int .u64 (0 : Int)), (.slice none 0 0)]) (cs' := #[(.int .u8 ((opN s : Nat) : Int)), (.int .u64 (0 : Int)), (.int .u64 (0 : Int)), (.slice none 0 0)]) rfl rfl (by kernel_rfl) (by kernel_rfl) hk2 (by kernel_rfl) (by kernel_rfl)) rfl rfl ?_; clear hf fa; rintro fa _ w5 ⟨hk3, hg1⟩ hf
  replace hk1 := blk_grown hk1 hg1 (by omega)
  replace hr1 := Row.grown hr1 hg1 (Row.ne_type hr1 hk2 rfl)
  replace hb := hb.trans (grown_below hg1 hb.size hBb2)
  apply wpList_nil
  (try simp only [Exit.then, Exit.inBlock, ↓reduceIte, Nat.reduceEqDiff])
  refine hK4 _ _ ?_
  refine wp_seq_k (fun K5 hK5 => ?_)
  refine wp_seq_k (fun K6 hK6 => ?_)
  by_cases hsp1 : (findP (w0P s)).2 = true
  · have hsp1b : decide ((findP (w0P s)).2 = true) = true := decide_eq_true hsp1
    by_cases hsp2 : resK (opN s) (wsP s) = true
    · have hsp2b : decide (resK (opN s) (wsP s) = true) = true := decide_eq_true hsp2
      refine wp_region_lit ?_
      refine sqv hf (Runs.veq (r_move rfl) (congrArg Value.bool (show _ = true from hsp1))) rfl rfl rfl ?_; clear hf fa; intro fa hf
      refine sqv hf (Runs.veq (v' := (.bool false)) (r_not rfl) rfl) rfl rfl rfl ?_; clear hf fa; intro fa hf
      refine sqv hf (r_move rfl) rfl rfl rfl ?_; clear hf fa; intro fa hf
      refine sqgd (act := true) (g := 2) (want := false) (ag := true) (c := false) hf (by rfl) (by rfl) rfl (fun _ =>  Runs.does (R := fun vq wq => vq = (.slice (some ⟨rb1, 0, none⟩) (((wordsS s)).length) rc1) ∧ w5 = wq) (r_move rfl) ⟨rfl, rfl⟩) (fun h => by cases h) rfl ?_; clear hf fa; rintro fa _ _ ⟨rfl, rfl⟩ hf
      change Fr _ _ ((22, (.slice (some ⟨rb1, 0, none⟩) (((wordsS s)).length) rc1)) :: _) at hf
      refine sqgd (act := true) (g := 2) (want := false) (ag := true) (c := false) hf (by rfl) (by rfl) rfl (fun _ =>  Runs.does (R := fun vq wq => vq = (.slice (slAt (some ⟨rb1, 0, none⟩) rc1 1 1) (((((wordsS s)).length) - 1)) (rc1 - 1)) ∧ w5 = wq) (r_slfrom (l := 1) (sz := 1) rfl rfl Tryd.underlying43 (by kernel_rfl) rfl (by omega)) ⟨rfl, rfl⟩) (fun h => by cases h) rfl ?_; clear hf fa; rintro fa _ _ ⟨rfl, rfl⟩ hf
      change Fr _ _ ((23, (.slice (slAt (some ⟨rb1, 0, none⟩) rc1 1 1) (((((wordsS s)).length) - 1)) (rc1 - 1))) :: _) at hf
      have hrest := (rest_any (opN s) b2 (slAt (some ⟨rb1, 0, none⟩) rc1 1 1) (wsP s) ((rc1 - 1)) _ (fun q hq => slAt_ne hq (Row.ne_type hr1 hk3 rfl)) hk3 (slAt_rd (l := 1) (X := wsP s) (by intros; rfl) hr1 (by show (wsP s).take (wsP s).length = wsP s; exact List.take_length) (by rw [hwl]; omega)) (by have := Row.caps hr1; omega) (by omega) hwW hop)
      rw [hwl] at hrest
      refine sqgd (act := true) (g := 2) (want := false) (ag := true) (c := false) hf (by rfl) (by rfl) rfl (fun _ =>  (d_callX (vs := [(.pointer (some ⟨b2, 0, none⟩)), (.slice (slAt (some ⟨rb1, 0, none⟩) rc1 1 1) (((((wordsS s)).length) - 1)) (rc1 - 1))]) rfl Tryd.func28 (by kernel_rfl) (by kernel_rfl) (calls_val hrest))) (fun h => by cases h) rfl ?_; clear hf fa; rintro fa _ w6 ⟨rfl, aL, cL, hk4, hr2, hg2⟩ hf
      replace hr2 := Row.rebase hr2 hb.size
      replace hk1 := blk_grown hk1 hg2 (by omega)
      replace hr1 := Row.grown hr1 hg2 (Row.ne_type hr1 hk3 rfl)
      replace hb := hb.trans (grown_below hg2 hb.size hBb2)
      have hcl := Row.caps hr2
      change Fr _ _ ((24, (.bool (resK (opN s) (wsP s)))) :: _) at hf
      refine sqgd (act := true) (g := 2) (want := false) (ag := true) (c := false) hf (by rfl) (by rfl) rfl (fun _ =>  Runs.does (R := fun vq wq => vq = (.bool false) ∧ w6 = wq) (Runs.veq (r_not rfl) (congrArg Value.bool (show _ = false from (by rw [hsp2]; rfl)))) ⟨rfl, rfl⟩) (fun h => by cases h) rfl ?_; clear hf fa; rintro fa _ _ ⟨rfl, rfl⟩ hf
      change Fr _ _ ((25, (.bool false)) :: _) at hf
      refine sqv hf (r_pick (b := false) rfl rfl rfl rfl) rfl rfl rfl ?_; clear hf fa; intro fa hf
      refine sqv hf (r_move rfl) rfl rfl rfl ?_; clear hf fa; intro fa hf
      refine sqgd (act := true) (g := 8) (want := false) (ag := true) (c := false) hf (by rfl) (by rfl) rfl (fun _ =>  Runs.does (R := fun vq wq => vq = (.agg #[(.int .u8 ((opN s : Nat) : Int)), (.int .u64 ((resA (opN s) (wsP s)))), (.int .u64 ((resB (opN s) (wsP s)))), (.slice aL (((resL (opN s) (wsP s)).length)) cL)]) ∧ w6 = wq) (r_loadA (cs := [(.int .u8 ((opN s : Nat) : Int)), (.int .u64 ((resA (opN s) (wsP s)))), (.int .u64 ((resB (opN s) (wsP s)))), (.slice aL (((resL (opN s) (wsP s)).length)) cL)]) rfl Tryd.underlying25 rfl (by kernel_rfl) (cellsAt_blk hk4)) ⟨rfl, rfl⟩) (fun h => by cases h) rfl ?_; clear hf fa; rintro fa _ _ ⟨rfl, rfl⟩ hf
      change Fr _ _ ((28, (.agg #[(.int .u8 ((opN s : Nat) : Int)), (.int .u64 ((resA (opN s) (wsP s)))), (.int .u64 ((resB (opN s) (wsP s)))), (.slice aL (((resL (opN s) (wsP s)).length)) cL)])) :: _) at hf
      refine sqgd (act := true) (g := 8) (want := false) (ag := true) (c := false) hf (by rfl) (by rfl) rfl (fun _ =>  (d_callB (vs := [(.agg #[(.int .u8 ((opN s : Nat) : Int)), (.int .u64 ((resA (opN s) (wsP s)))), (.int .u64 ((resB (opN s) (wsP s)))), (.slice aL (((resL (opN s) (wsP s)).length)) cL)])]) rfl Tryd.func7 (by kernel_rfl) (by kernel_rfl) (line_any (opN s) _ _ (resL (opN s) (wsP s)) _ _ _ (Row.rd (by intros; rfl) hr2) (resL_rng _ _).1 hop (resA_rng _ _) (resB_rng _ _) (by have := Row.caps hr2; omega) (by have := (resL_rng (opN s) (wsP s)).2; omega))) ) (fun h => by cases h) rfl ?_; clear hf fa; rintro fa _ w7 ⟨rfl, he5⟩ hf
      replace hk1 := blk_ext hk1 he5
      replace hk4 := blk_ext hk4 he5
      replace hr1 := Row.ext hr1 he5
      replace hr2 := Row.ext hr2 he5
      replace hb := hb.trans (Below.mono he5 hb.size)
      change Fr _ _ ((29, (.string (lineP (opN s) (resA (opN s) (wsP s)) (resB (opN s) (wsP s)) (resL (opN s) (wsP s))))) :: _) at hf
      refine sqgd (act := true) (g := 8) (want := false) (ag := true) (c := false) hf (by rfl) (by rfl) rfl (fun _ =>  Runs.does (R := fun vq wq => vq = (.string s) ∧ w7 = wq) (r_move rfl) ⟨rfl, rfl⟩) (fun h => by cases h) rfl ?_; clear hf fa; rintro fa _ _ ⟨rfl, rfl⟩ hf
      change Fr _ _ ((30, (.string s)) :: _) at hf
      refine sqgd (act := true) (g := 8) (want := false) (ag := true) (c := false) hf (by rfl) (by rfl) rfl (fun _ =>  Runs.does (R := fun vq wq => vq = (.bool (decide ((lineP (opN s) (resA (opN s) (wsP s)) (resB (opN s) (wsP s)) (resL (opN s) (wsP s))) ≠ s))) ∧ w7 = wq) (r_sne rfl rfl) ⟨rfl, rfl⟩) (fun h => by cases h) rfl ?_; clear hf fa; rintro fa _ _ ⟨rfl, rfl⟩ hf
      change Fr _ _ ((31, (.bool (decide ((lineP (opN s) (resA (opN s) (wsP s)) (resB (opN s) (wsP s)) (resL (opN s) (wsP s))) ≠ s)))) :: _) at hf
      refine sqv hf (r_pick (b := false) rfl rfl rfl rfl) rfl rfl rfl ?_; clear hf fa; intro fa hf
      apply wpList_nil
      (try simp only [Exit.then, Exit.inBlock, ↓reduceIte, Nat.reduceEqDiff])
      refine hK6 _ _ ?_
      refine wp_cond_split (t := (decide ((lineP (opN s) (resA (opN s) (wsP s)) (resB (opN s) (wsP s)) (resL (opN s) (wsP s))) ≠ s))) (hf.ev rfl) (fun hqt32_1 => ?_) (fun hqt32_1 => ?_)
      · have hqt32_1b := hqt32_1
        try simp only [decide_eq_true_eq, Bool.and_eq_true, Bool.or_eq_true, Bool.not_eq_true', decide_eq_false_iff_not, ne_eq, Bool.not_eq_true] at hqt32_1
        refine wp_seq_k (fun K7 hK7 => ?_)
        refine wp_region_lit ?_
        refine sqv hf (r_build (vs := []) (cs := #[(.int .u8 (0 : Int)), (.int .u64 (0 : Int)), (.int .u64 (0 : Int)), (.slice none 0 0)]) rfl (fun _ => by kernel_rfl)) rfl rfl rfl ?_; clear hf fa; intro fa hf
        refine sqn hf (d_storeK (T := 25) (v := (.agg #[(.int .u8 (0 : Int)), (.int .u64 (0 : Int)), (.int .u64 (0 : Int)), (.slice none 0 0)])) (cs := #[(.int .u8 (0 : Int)), (.int .u64 (0 : Int)), (.int .u64 (0 : Int)), (.slice none 0 0)]) (cs' := #[(.int .u8 (0 : Int)), (.int .u64 (0 : Int)), (.int .u64 (0 : Int)), (.slice none 0 0)]) rfl rfl (by kernel_rfl) (by kernel_rfl) hk1 (by kernel_rfl) (by kernel_rfl)) rfl rfl ?_; clear hf fa; rintro fa _ w8 ⟨hk5, hg3⟩ hf
        replace hk4 := blk_grown hk4 hg3 (by omega)
        replace hr1 := Row.grown hr1 hg3 (Row.ne_type hr1 hk1 rfl)
        replace hr2 := Row.grown hr2 hg3 (Row.ne_type hr2 hk1 rfl)
        replace hb := hb.trans (grown_below hg3 hb.size hBb1)
        refine sqv hf (r_assign rfl) rfl rfl rfl ?_; clear hf fa; intro fa hf
        apply wpList_nil
        (try simp only [Exit.then, Exit.inBlock, ↓reduceIte, Nat.reduceEqDiff])
        refine hK7 _ _ ?_
        refine wp_ret ?_
        (try simp only [Exit.then, Exit.inBlock])
        refine retCT hf rfl rfl hk5 Tryd.underlying25 rfl (by kernel_rfl) rfl ?_
        obtain ⟨e1, e2, e3, e4, e5⟩ := par_no (parK_3 hqt32_1)
        rw [e1, e2, e3, e4, e5]
        exact ⟨_, rfl, none, 0, rfl, Row.nil, hb⟩
      · have hqt32_1b := hqt32_1
        replace hqt32_1 := Bool.eq_false_iff.1 hqt32_1
        try simp only [ne_eq, decide_eq_true_eq, Bool.and_eq_true, Bool.or_eq_true, Bool.not_eq_true', decide_eq_false_iff_not] at hqt32_1
        refine wp_skip ?_
        (try simp only [Exit.then, Exit.inBlock, ↓reduceIte, Nat.reduceEqDiff])
        refine hK5 _ _ ?_
        refine wp_seq_k (fun K8 hK8 => ?_)
        refine wp_region_lit ?_
        refine sqv hf (r_loadA (cs := [(.int .u8 ((opN s : Nat) : Int)), (.int .u64 ((resA (opN s) (wsP s)))), (.int .u64 ((resB (opN s) (wsP s)))), (.slice aL (((resL (opN s) (wsP s)).length)) cL)]) rfl Tryd.underlying25 rfl (by kernel_rfl) (cellsAt_blk hk4)) rfl rfl rfl ?_; clear hf fa; intro fa hf
        refine sqn hf (d_storeK (T := 25) (v := (.agg #[(.int .u8 ((opN s : Nat) : Int)), (.int .u64 ((resA (opN s) (wsP s)))), (.int .u64 ((resB (opN s) (wsP s)))), (.slice aL (((resL (opN s) (wsP s)).length)) cL)])) (cs := #[(.int .u8 (0 : Int)), (.int .u64 (0 : Int)), (.int .u64 (0 : Int)), (.slice none 0 0)]) (cs' := #[(.int .u8 ((opN s : Nat) : Int)), (.int .u64 ((resA (opN s) (wsP s)))), (.int .u64 ((resB (opN s) (wsP s)))), (.slice aL (((resL (opN s) (wsP s)).length)) cL)]) rfl rfl (by kernel_rfl) (by kernel_rfl) hk1 (by kernel_rfl) (by kernel_rfl)) rfl rfl ?_; clear hf fa; rintro fa _ w9 ⟨hk6, hg4⟩ hf
        replace hk4 := blk_grown hk4 hg4 (by omega)
        replace hr1 := Row.grown hr1 hg4 (Row.ne_type hr1 hk1 rfl)
        replace hr2 := Row.grown hr2 hg4 (Row.ne_type hr2 hk1 rfl)
        replace hb := hb.trans (grown_below hg4 hb.size hBb1)
        refine sqv hf (r_assign rfl) rfl rfl rfl ?_; clear hf fa; intro fa hf
        apply wpList_nil
        (try simp only [Exit.then, Exit.inBlock, ↓reduceIte, Nat.reduceEqDiff])
        refine hK8 _ _ ?_
        refine wp_ret ?_
        (try simp only [Exit.then, Exit.inBlock])
        refine retCT hf rfl rfl hk6 Tryd.underlying25 rfl (by kernel_rfl) rfl ?_
        obtain ⟨e1, e2, e3, e4, e5⟩ := par_yes (parK_4 hsp1 hsp2 (Classical.not_not.1 hqt32_1))
        rw [e1, e2, e3, e4, e5]
        exact ⟨_, rfl, _, _, rfl, hr2, hb⟩
    · have hsp2b : decide (resK (opN s) (wsP s) = true) = false := decide_eq_false hsp2
      refine wp_region_lit ?_
      refine sqv hf (Runs.veq (r_move rfl) (congrArg Value.bool (show _ = true from hsp1))) rfl rfl rfl ?_; clear hf fa; intro fa hf
      refine sqv hf (Runs.veq (v' := (.bool false)) (r_not rfl) rfl) rfl rfl rfl ?_; clear hf fa; intro fa hf
      refine sqv hf (r_move rfl) rfl rfl rfl ?_; clear hf fa; intro fa hf
      refine sqgd (act := true) (g := 2) (want := false) (ag := true) (c := false) hf (by rfl) (by rfl) rfl (fun _ =>  Runs.does (R := fun vq wq => vq = (.slice (some ⟨rb1, 0, none⟩) (((wordsS s)).length) rc1) ∧ w5 = wq) (r_move rfl) ⟨rfl, rfl⟩) (fun h => by cases h) rfl ?_; clear hf fa; rintro fa _ _ ⟨rfl, rfl⟩ hf
      change Fr _ _ ((22, (.slice (some ⟨rb1, 0, none⟩) (((wordsS s)).length) rc1)) :: _) at hf
      refine sqgd (act := true) (g := 2) (want := false) (ag := true) (c := false) hf (by rfl) (by rfl) rfl (fun _ =>  Runs.does (R := fun vq wq => vq = (.slice (slAt (some ⟨rb1, 0, none⟩) rc1 1 1) (((((wordsS s)).length) - 1)) (rc1 - 1)) ∧ w5 = wq) (r_slfrom (l := 1) (sz := 1) rfl rfl Tryd.underlying43 (by kernel_rfl) rfl (by omega)) ⟨rfl, rfl⟩) (fun h => by cases h) rfl ?_; clear hf fa; rintro fa _ _ ⟨rfl, rfl⟩ hf
      change Fr _ _ ((23, (.slice (slAt (some ⟨rb1, 0, none⟩) rc1 1 1) (((((wordsS s)).length) - 1)) (rc1 - 1))) :: _) at hf
      have hrest := (rest_any (opN s) b2 (slAt (some ⟨rb1, 0, none⟩) rc1 1 1) (wsP s) ((rc1 - 1)) _ (fun q hq => slAt_ne hq (Row.ne_type hr1 hk3 rfl)) hk3 (slAt_rd (l := 1) (X := wsP s) (by intros; rfl) hr1 (by show (wsP s).take (wsP s).length = wsP s; exact List.take_length) (by rw [hwl]; omega)) (by have := Row.caps hr1; omega) (by omega) hwW hop)
      rw [hwl] at hrest
      refine sqgd (act := true) (g := 2) (want := false) (ag := true) (c := false) hf (by rfl) (by rfl) rfl (fun _ =>  (d_callX (vs := [(.pointer (some ⟨b2, 0, none⟩)), (.slice (slAt (some ⟨rb1, 0, none⟩) rc1 1 1) (((((wordsS s)).length) - 1)) (rc1 - 1))]) rfl Tryd.func28 (by kernel_rfl) (by kernel_rfl) (calls_val hrest))) (fun h => by cases h) rfl ?_; clear hf fa; rintro fa _ w10 ⟨rfl, aL, cL, hk7, hr3, hg5⟩ hf
      replace hr3 := Row.rebase hr3 hb.size
      replace hk1 := blk_grown hk1 hg5 (by omega)
      replace hr1 := Row.grown hr1 hg5 (Row.ne_type hr1 hk3 rfl)
      replace hb := hb.trans (grown_below hg5 hb.size hBb2)
      have hcl := Row.caps hr3
      change Fr _ _ ((24, (.bool (resK (opN s) (wsP s)))) :: _) at hf
      refine sqgd (act := true) (g := 2) (want := false) (ag := true) (c := false) hf (by rfl) (by rfl) rfl (fun _ =>  Runs.does (R := fun vq wq => vq = (.bool true) ∧ w10 = wq) (Runs.veq (r_not rfl) (congrArg Value.bool (show _ = true from (by rw [Bool.eq_false_iff.2 hsp2]; rfl)))) ⟨rfl, rfl⟩) (fun h => by cases h) rfl ?_; clear hf fa; rintro fa _ _ ⟨rfl, rfl⟩ hf
      change Fr _ _ ((25, (.bool true)) :: _) at hf
      refine sqv hf (r_pick (b := false) rfl rfl rfl rfl) rfl rfl rfl ?_; clear hf fa; intro fa hf
      refine sqv hf (r_move rfl) rfl rfl rfl ?_; clear hf fa; intro fa hf
      refine sqgF (act := false) (ag := true) (c := true) (v := .bool false) hf rfl rfl rfl (fun hact => by cases hact) rfl rfl ?_; clear hf fa; intro fa hf
      refine sqgF (act := false) (ag := true) (c := true) (v := .bool false) hf rfl rfl rfl (fun hact => by cases hact) rfl rfl ?_; clear hf fa; intro fa hf
      refine sqgF (act := false) (ag := true) (c := true) (v := .bool false) hf rfl rfl rfl (fun hact => by cases hact) rfl rfl ?_; clear hf fa; intro fa hf
      refine sqgF (act := false) (ag := true) (c := true) (v := .bool false) hf rfl rfl rfl (fun hact => by cases hact) rfl rfl ?_; clear hf fa; intro fa hf
      refine sqv hf (r_pick (b := true) rfl rfl rfl rfl) rfl rfl rfl ?_; clear hf fa; intro fa hf
      apply wpList_nil
      (try simp only [Exit.then, Exit.inBlock, ↓reduceIte, Nat.reduceEqDiff])
      refine hK6 _ _ ?_
      refine wp_cond_true (hf.ev rfl) ?_
      refine wp_seq_k (fun K9 hK9 => ?_)
      refine wp_region_lit ?_
      refine sqv hf (r_build (vs := []) (cs := #[(.int .u8 (0 : Int)), (.int .u64 (0 : Int)), (.int .u64 (0 : Int)), (.slice none 0 0)]) rfl (fun _ => by kernel_rfl)) rfl rfl rfl ?_; clear hf fa; intro fa hf
      refine sqn hf (d_storeK (T := 25) (v := (.agg #[(.int .u8 (0 : Int)), (.int .u64 (0 : Int)), (.int .u64 (0 : Int)), (.slice none 0 0)])) (cs := #[(.int .u8 (0 : Int)), (.int .u64 (0 : Int)), (.int .u64 (0 : Int)), (.slice none 0 0)]) (cs' := #[(.int .u8 (0 : Int)), (.int .u64 (0 : Int)), (.int .u64 (0 : Int)), (.slice none 0 0)]) rfl rfl (by kernel_rfl) (by kernel_rfl) hk1 (by kernel_rfl) (by kernel_rfl)) rfl rfl ?_; clear hf fa; rintro fa _ w11 ⟨hk8, hg6⟩ hf
      replace hk7 := blk_grown hk7 hg6 (by omega)
      replace hr1 := Row.grown hr1 hg6 (Row.ne_type hr1 hk1 rfl)
      replace hr3 := Row.grown hr3 hg6 (Row.ne_type hr3 hk1 rfl)
      replace hb := hb.trans (grown_below hg6 hb.size hBb1)
      refine sqv hf (r_assign rfl) rfl rfl rfl ?_; clear hf fa; intro fa hf
      apply wpList_nil
      (try simp only [Exit.then, Exit.inBlock, ↓reduceIte, Nat.reduceEqDiff])
      refine hK9 _ _ ?_
      refine wp_ret ?_
      (try simp only [Exit.then, Exit.inBlock])
      refine retCT hf rfl rfl hk8 Tryd.underlying25 rfl (by kernel_rfl) rfl ?_
      obtain ⟨e1, e2, e3, e4, e5⟩ := par_no (parK_2 hsp2)
      rw [e1, e2, e3, e4, e5]
      exact ⟨_, rfl, none, 0, rfl, Row.nil, hb⟩
  · have hsp1b : decide ((findP (w0P s)).2 = true) = false := decide_eq_false hsp1
    refine wp_region_lit ?_
    refine sqv hf (Runs.veq (r_move rfl) (congrArg Value.bool (show _ = false from (Bool.eq_false_iff.2 hsp1)))) rfl rfl rfl ?_; clear hf fa; intro fa hf
    refine sqv hf (Runs.veq (v' := (.bool true)) (r_not rfl) rfl) rfl rfl rfl ?_; clear hf fa; intro fa hf
    refine sqv hf (r_move rfl) rfl rfl rfl ?_; clear hf fa; intro fa hf
    refine sqgF (act := false) (ag := true) (c := true) (v := .bool false) hf rfl rfl rfl (fun hact => by cases hact) rfl rfl ?_; clear hf fa; intro fa hf
    refine sqgF (act := false) (ag := true) (c := true) (v := .bool false) hf rfl rfl rfl (fun hact => by cases hact) rfl rfl ?_; clear hf fa; intro fa hf
    refine sqgF (act := false) (ag := true) (c := true) (v := .bool false) hf rfl rfl rfl (fun hact => by cases hact) rfl rfl ?_; clear hf fa; intro fa hf
    refine sqgF (act := false) (ag := true) (c := true) (v := .bool false) hf rfl rfl rfl (fun hact => by cases hact) rfl rfl ?_; clear hf fa; intro fa hf
    refine sqv hf (r_pick (b := true) rfl rfl rfl rfl) rfl rfl rfl ?_; clear hf fa; intro fa hf
    refine sqv hf (r_move rfl) rfl rfl rfl ?_; clear hf fa; intro fa hf
    refine sqgF (act := false) (ag := true) (c := true) (v := .bool false) hf rfl rfl rfl (fun hact => by cases hact) rfl rfl ?_; clear hf fa; intro fa hf
    refine sqgF (act := false) (ag := true) (c := true) (v := .bool false) hf rfl rfl rfl (fun hact => by cases hact) rfl rfl ?_; clear hf fa; intro fa hf
    refine sqgF (act := false) (ag := true) (c := true) (v := .bool false) hf rfl rfl rfl (fun hact => by cases hact) rfl rfl ?_; clear hf fa; intro fa hf
    refine sqgF (act := false) (ag := true) (c := true) (v := .bool false) hf rfl rfl rfl (fun hact => by cases hact) rfl rfl ?_; clear hf fa; intro fa hf
    refine sqv hf (r_pick (b := true) rfl rfl rfl rfl) rfl rfl rfl ?_; clear hf fa; intro fa hf
    apply wpList_nil
    (try simp only [Exit.then, Exit.inBlock, ↓reduceIte, Nat.reduceEqDiff])
    refine hK6 _ _ ?_
    refine wp_cond_true (hf.ev rfl) ?_
    refine wp_seq_k (fun K10 hK10 => ?_)
    refine wp_region_lit ?_
    refine sqv hf (r_build (vs := []) (cs := #[(.int .u8 (0 : Int)), (.int .u64 (0 : Int)), (.int .u64 (0 : Int)), (.slice none 0 0)]) rfl (fun _ => by kernel_rfl)) rfl rfl rfl ?_; clear hf fa; intro fa hf
    refine sqn hf (d_storeK (T := 25) (v := (.agg #[(.int .u8 (0 : Int)), (.int .u64 (0 : Int)), (.int .u64 (0 : Int)), (.slice none 0 0)])) (cs := #[(.int .u8 (0 : Int)), (.int .u64 (0 : Int)), (.int .u64 (0 : Int)), (.slice none 0 0)]) (cs' := #[(.int .u8 (0 : Int)), (.int .u64 (0 : Int)), (.int .u64 (0 : Int)), (.slice none 0 0)]) rfl rfl (by kernel_rfl) (by kernel_rfl) hk1 (by kernel_rfl) (by kernel_rfl)) rfl rfl ?_; clear hf fa; rintro fa _ w12 ⟨hk9, hg7⟩ hf
    replace hk3 := blk_grown hk3 hg7 (by omega)
    replace hr1 := Row.grown hr1 hg7 (Row.ne_type hr1 hk1 rfl)
    replace hb := hb.trans (grown_below hg7 hb.size hBb1)
    refine sqv hf (r_assign rfl) rfl rfl rfl ?_; clear hf fa; intro fa hf
    apply wpList_nil
    (try simp only [Exit.then, Exit.inBlock, ↓reduceIte, Nat.reduceEqDiff])
    refine hK10 _ _ ?_
    refine wp_ret ?_
    (try simp only [Exit.then, Exit.inBlock])
    refine retCT hf rfl rfl hk9 Tryd.underlying25 rfl (by kernel_rfl) rfl ?_
    obtain ⟨e1, e2, e3, e4, e5⟩ := par_no (parK_1 hsp1)
    rw [e1, e2, e3, e4, e5]
    exact ⟨_, rfl, none, 0, rfl, Row.nil, hb⟩
end Go.Proofs.YtpalmpfkliepfaaDoor

namespace Go.Proofs.YtpalmpfkliepfaaDoor
open Go.RowKit Ut
set_option linter.unusedVariables false
set_option linter.unusedSimpArgs false
attribute [local irreducible] infP ofP chkP rchkP

theorem line_bad {op : Nat} {A B : Int} {L : List Int} (h : rightP op A B L.length ≠ 0) : lineP op A B L = ⟨#[]⟩ := by unfold lineP; rw [if_neg h]
end Go.Proofs.YtpalmpfkliepfaaDoor

namespace Go.Proofs.YtpalmpfkliepfaaDoor
open Go.RowKit Ut
set_option linter.unusedVariables false
set_option linter.unusedSimpArgs false
attribute [local irreducible] infP ofP chkP rchkP

def lastP (s : ByteArray) : ByteArray := wd (wordsS s) ((wordsS s).length - 1)
def tlN (y : ByteArray) : Int := tailP y (⟨#[]⟩ : ByteArray) % 4294967296
def qaW (im : Int) (W : List ByteArray) : Int :=
  if im = 0 ∨ im = 9 then 0
  else if im = 1 then (if wd W (W.length - 1) = (⟨#[105, 54, 52]⟩ : ByteArray) then 126 else if wd W (W.length - 1) = (⟨#[105, 51, 50]⟩ : ByteArray) then 127 else 64)
  else if im = 3 then tailP (wd W (W.length - 1)) (⟨#[]⟩ : ByteArray)
  else if im = 8 then (if W.length = 3 then tailP (wd W 1) (⟨#[97, 108, 105, 103, 110, 61]⟩ : ByteArray) else 0)
  else if im = 10 then tailP (wd W (W.length - 1)) (⟨#[]⟩ : ByteArray) % 4294967296
  else tailP (wd W (W.length - 1)) (⟨#[]⟩ : ByteArray)
def qbW (im : Int) (W : List ByteArray) : Int := if im = 8 ∧ W.length = 3 then tailP (wd W 2) (⟨#[111, 102, 102, 115, 101, 116, 61]⟩ : ByteArray) else 0
def qlW (im : Int) (W : List ByteArray) : List Int := if im = 3 then ((W.drop 1).take (W.length - 2)).map tlN else []
def rqA (s : ByteArray) : Int := qaW (infP (opN s)).2.1 (wordsS s)
def rqB (s : ByteArray) : Int := qbW (infP (opN s)).2.1 (wordsS s)
def rqL (s : ByteArray) : List Int := qlW (infP (opN s)).2.1 (wordsS s)
def rK (s : ByteArray) : Bool := (findP (w0P s)).2 && decide (lineP (opN s) (rqA s) (rqB s) (rqL s) = s)
theorem tailP_rng (s h : ByteArray) : 0 ≤ tailP s h ∧ tailP s h < 18446744073709551616 := by
  unfold tailP
  split
  · exact ⟨by decide, by decide⟩
  · exact uA_rng (numP_in _)
theorem tlN_rng (y : ByteArray) : 0 ≤ tlN y ∧ tlN y < 4294967296 := by
  unfold tlN
  omega
theorem qaW_rng (im : Int) (W : List ByteArray) : 0 ≤ qaW im W ∧ qaW im W < 18446744073709551616 := by
  unfold qaW
  split
  · exact ⟨by decide, by decide⟩
  split
  · split
    · exact ⟨by decide, by decide⟩
    split
    · exact ⟨by decide, by decide⟩
    · exact ⟨by decide, by decide⟩
  split
  · exact tailP_rng _ _
  split
  · split
    · exact tailP_rng _ _
    · exact ⟨by decide, by decide⟩
  split
  · omega
  · exact tailP_rng _ _
theorem qbW_rng (im : Int) (W : List ByteArray) : 0 ≤ qbW im W ∧ qbW im W < 18446744073709551616 := by
  unfold qbW
  split
  · exact tailP_rng _ _
  · exact ⟨by decide, by decide⟩
theorem qlW_rng (im : Int) (W : List ByteArray) : (∀ y ∈ qlW im W, 0 ≤ y ∧ y < (4294967296 : Int)) ∧ (qlW im W).length ≤ W.length := by
  unfold qlW
  split
  · refine ⟨fun y hy => ?_, ?_⟩
    · obtain ⟨x, _, rfl⟩ := List.mem_map.1 hy
      exact tlN_rng x
    · rw [List.length_map, List.length_take, List.length_drop]; omega
  · exact ⟨fun y hy => (by cases hy), Nat.zero_le _⟩
theorem tail_dS {n : Int} (h : inI n) : tailP (dS n) (⟨#[]⟩ : ByteArray) = uA n := by
  unfold tailP
  have e0 : (⟨#[]⟩ : ByteArray).size = 0 := rfl
  have e1 : (dS n).extract 0 0 = (⟨#[]⟩ : ByteArray) := bl_inj (by rw [ext_nil]; rfl)
  rw [e0, if_neg (by rintro (h | h); omega; exact h e1)]
  have e2 : (dS n).extract 0 (dS n).size = dS n := bl_inj (by rw [bl_mid, List.drop_zero, Nat.sub_zero, List.take_of_length_le (by rw [bl_length]; exact Nat.le_refl _)])
  rw [e2, num_dS h]
theorem tail_app {n : Int} (p : ByteArray) (h : inI n) : tailP (p ++ dS n) p = uA n := by
  unfold tailP
  have e1 : (p ++ dS n).extract 0 p.size = p := bl_inj (by rw [bl_mid, bl_app, List.drop_zero, Nat.sub_zero, ← bl_length, List.take_left])
  have e2 : (p ++ dS n).extract p.size (p ++ dS n).size = dS n := bl_inj (by rw [bl_mid, bl_app, ← bl_length p, List.drop_left, List.take_of_length_le (by rw [bl_length, bl_length, ByteArray.size_append]; omega)])
  rw [e1, e2, if_neg (by rintro (h | h); rw [ByteArray.size_append] at h; omega; exact h rfl), num_dS h]
theorem nm_not : ∀ j : Fin 256, bl (nmO j.val) ≠ [105, 51, 50] ∧ bl (nmO j.val) ≠ [105, 54, 52] := by decide +kernel
theorem nm_i32 {op : Nat} (h : op < 256) : nmO op ≠ (⟨#[105, 51, 50]⟩ : ByteArray) := fun e => (nm_not ⟨op, h⟩).1 (by show bl (nmO op) = _; rw [e]; rfl)
theorem nm_i64 {op : Nat} (h : op < 256) : nmO op ≠ (⟨#[105, 54, 52]⟩ : ByteArray) := fun e => (nm_not ⟨op, h⟩).2 (by show bl (nmO op) = _; rw [e]; rfl)
theorem tn_lit : tnameP 127 = (⟨#[105, 51, 50]⟩ : ByteArray) ∧ tnameP 126 = (⟨#[105, 54, 52]⟩ : ByteArray) ∧ (⟨#[105, 51, 50]⟩ : ByteArray) ≠ (⟨#[105, 54, 52]⟩ : ByteArray) := by decide +kernel

theorem rq_back {op : Nat} {A B : Int} {L : List Int} (hop : op < 256) (hr : rightP op A B L.length = 0) (hA : 0 ≤ A ∧ A < 18446744073709551616) (hB : 0 ≤ B) (hL : ∀ y ∈ L, 0 ≤ y ∧ y < 4294967296) :
    qaW (infP op).2.1 (nmO op :: argsW op A B L) = A ∧ qbW (infP op).2.1 (nmO op :: argsW op A B L) = B ∧ qlW (infP op).2.1 (nmO op :: argsW op A B L) = L := by
  obtain ⟨_, h1, _, h3, h4, h5, h6⟩ := right_out hr
  have hn1 := nm_i32 hop
  have hn2 := nm_i64 hop
  generalize hnm : nmO op = nm at hn1 hn2
  generalize him : (infP op).2.1 = im at h1 h3 h4 h5 h6
  by_cases c0 : im = 0 ∨ im = 9
  · have hl : L = [] := List.eq_nil_of_length_eq_zero (by omega)
    have c8 : ¬ (im = 8 ∧ (nm :: argsW op A B L).length = 3) := by omega
    have c3 : ¬ im = 3 := by omega
    have ea : qaW im (nm :: argsW op A B L) = 0 := by unfold qaW; rw [if_pos c0]
    have eb : qbW im (nm :: argsW op A B L) = 0 := by unfold qbW; rw [if_neg c8]
    have el : qlW im (nm :: argsW op A B L) = [] := by unfold qlW; rw [if_neg c3]
    exact ⟨by rw [ea]; exact (h4 c0).symm, by rw [eb]; omega, by rw [el, hl]⟩
  by_cases c1 : im = 1
  · have hl : L = [] := List.eq_nil_of_length_eq_zero (by omega)
    have c8 : ¬ (im = 8 ∧ (nm :: argsW op A B L).length = 3) := by omega
    have c3 : ¬ im = 3 := by omega
    have eb : qbW im (nm :: argsW op A B L) = 0 := by unfold qbW; rw [if_neg c8]
    have el : qlW im (nm :: argsW op A B L) = [] := by unfold qlW; rw [if_neg c3]
    refine ⟨?_, by rw [eb]; omega, by rw [el, hl]⟩
    have ha : argsW op A B L = if A = 64 then [] else [tnameP (A % 256)] := by simp only [argsW, him, if_neg c0, if_pos c1]
    rw [ha]
    unfold qaW
    rw [if_neg c0, if_pos c1]
    rcases h5 c1 with e | e | e
    · rw [if_pos e]
      show (if nm = _ then (126 : Int) else if nm = _ then 127 else 64) = A
      rw [if_neg hn2, if_neg hn1, e]
    · rw [if_neg (show ¬ A = 64 by omega), e]
      show (if tnameP 127 = _ then (126 : Int) else if tnameP 127 = _ then 127 else 64) = 127
      rw [tn_lit.1, if_neg tn_lit.2.2, if_pos rfl]
    · rw [if_neg (show ¬ A = 64 by omega), e]
      show (if tnameP 126 = _ then (126 : Int) else if tnameP 126 = _ then 127 else 64) = 126
      rw [tn_lit.2.1, if_pos rfl]
  by_cases c10 : im = 10
  · have hl : L = [] := List.eq_nil_of_length_eq_zero (by omega)
    have c8 : ¬ im = 8 := by omega
    have c3 : ¬ im = 3 := by omega
    have hlo := h6 c0 c1 (by omega)
    have ha : argsW op A B L = [dS (s32 A)] := by simp only [argsW, him, if_neg c0, if_neg c1, if_neg c3, if_neg c8, if_pos c10]
    have eb : qbW im (nm :: argsW op A B L) = 0 := by unfold qbW; rw [if_neg (fun h => c8 h.1)]
    have el : qlW im (nm :: argsW op A B L) = [] := by unfold qlW; rw [if_neg c3]
    refine ⟨?_, by rw [eb]; omega, by rw [el, hl]⟩
    rw [ha]
    unfold qaW
    rw [if_neg c0, if_neg c1, if_neg c3, if_neg c8, if_pos c10]
    show tailP (dS (s32 A)) (⟨#[]⟩ : ByteArray) % 4294967296 = A
    rw [tail_dS (inI_s32 A)]
    have h2 := (s32_back (A := A) ⟨hA.1, hlo.1⟩).1
    unfold uA
    split <;> omega
  by_cases c11 : im = 11
  · have hl : L = [] := List.eq_nil_of_length_eq_zero (by omega)
    have c8 : ¬ im = 8 := by omega
    have c3 : ¬ im = 3 := by omega
    have ha : argsW op A B L = [dS (sA A)] := by simp only [argsW, him, if_neg c0, if_neg c1, if_neg c3, if_neg c8, if_neg c10]
    have eb : qbW im (nm :: argsW op A B L) = 0 := by unfold qbW; rw [if_neg (fun h => c8 h.1)]
    have el : qlW im (nm :: argsW op A B L) = [] := by unfold qlW; rw [if_neg c3]
    refine ⟨?_, by rw [eb]; omega, by rw [el, hl]⟩
    rw [ha]
    unfold qaW
    rw [if_neg c0, if_neg c1, if_neg c3, if_neg c8, if_neg c10]
    show tailP (dS (sA A)) (⟨#[]⟩ : ByteArray) = A
    rw [tail_dS (inI_sA hA), uA_sA hA]
  have hlo := h6 c0 c1 c11
  have hsa : sA A = A := sA_low ⟨hA.1, hlo.1⟩
  have hsb : sA B = B := sA_low ⟨hB, hlo.2⟩
  have hua : uA A = A := by unfold uA; rw [if_neg (by omega)]
  have hub : uA B = B := by unfold uA; rw [if_neg (by omega)]
  have hiA : inI A := inI_lo ⟨hA.1, hlo.1⟩
  have hiB : inI B := inI_lo ⟨hB, hlo.2⟩
  by_cases c8 : im = 8
  · have hl : L = [] := List.eq_nil_of_length_eq_zero (by omega)
    have c3 : ¬ im = 3 := by omega
    have ha : argsW op A B L = [(⟨#[97, 108, 105, 103, 110, 61]⟩ : ByteArray) ++ dS A, (⟨#[111, 102, 102, 115, 101, 116, 61]⟩ : ByteArray) ++ dS B] := by simp only [argsW, him, if_neg c0, if_neg c1, if_neg c3, if_pos c8, hsa, hsb]
    have el : qlW im (nm :: argsW op A B L) = [] := by unfold qlW; rw [if_neg c3]
    refine ⟨?_, ?_, by rw [el, hl]⟩
    · rw [ha]
      unfold qaW
      rw [if_neg c0, if_neg c1, if_neg c3, if_pos c8]
      show (if (3 : Nat) = 3 then tailP ((⟨#[97, 108, 105, 103, 110, 61]⟩ : ByteArray) ++ dS A) (⟨#[97, 108, 105, 103, 110, 61]⟩ : ByteArray) else 0) = A
      rw [if_pos rfl, tail_app _ hiA, hua]
    · rw [ha]
      unfold qbW
      rw [if_pos ⟨c8, rfl⟩]
      show tailP ((⟨#[111, 102, 102, 115, 101, 116, 61]⟩ : ByteArray) ++ dS B) (⟨#[111, 102, 102, 115, 101, 116, 61]⟩ : ByteArray) = B
      rw [tail_app _ hiB, hub]
  have eb : qbW im (nm :: argsW op A B L) = 0 := by unfold qbW; rw [if_neg (fun h => c8 h.1)]
  by_cases c3 : im = 3
  · have ha : argsW op A B L = L.map dS ++ [dS A] := by simp only [argsW, him, if_neg c0, if_neg c1, if_pos c3, hsa]
    have hlen : (nm :: argsW op A B L).length = L.length + 2 := by rw [ha]; simp
    have hlast : wd (nm :: argsW op A B L) ((nm :: argsW op A B L).length - 1) = dS A := by
      rw [hlen]
      unfold wd
      rw [List.getD_eq_getElem?_getD, ha, show L.length + 2 - 1 = L.length + 1 by omega, List.getElem?_cons_succ, List.getElem?_append_right (by rw [List.length_map]; omega), List.length_map, Nat.sub_self]; rfl
    refine ⟨?_, by rw [eb]; omega, ?_⟩
    · unfold qaW
      rw [if_neg c0, if_neg c1, if_pos c3, hlast, tail_dS hiA, hua]
    · unfold qlW
      rw [if_pos c3, hlen, List.drop_succ_cons, List.drop_zero, ha, List.take_append_of_le_length (by rw [List.length_map]; omega), List.take_of_length_le (by rw [List.length_map]; omega), List.map_map]
      conv => rhs; rw [← List.map_id L]
      apply List.map_congr_left
      intro y hy
      have hy2 := hL y hy
      show tlN (dS y) = y
      unfold tlN
      rw [tail_dS (inI_lo hy2)]
      unfold uA
      rw [if_neg (by omega)]
      omega
  · have hl : L = [] := List.eq_nil_of_length_eq_zero (by omega)
    have ha : argsW op A B L = [dS A] := by simp only [argsW, him, if_neg c0, if_neg c1, if_neg c3, if_neg c8, if_neg c10, hsa]
    have el : qlW im (nm :: argsW op A B L) = [] := by unfold qlW; rw [if_neg c3]
    refine ⟨?_, by rw [eb]; omega, by rw [el, hl]⟩
    rw [ha]
    unfold qaW
    rw [if_neg c0, if_neg c1, if_neg c3, if_neg c8, if_neg c10]
    show tailP (dS A) (⟨#[]⟩ : ByteArray) = A
    rw [tail_dS hiA, hua]
/-- A line that is the line of some instruction under its first word's name is the line of a right one. -/
theorem line_right {s : ByteArray} {op : Nat} {A B : Int} {L : List Int} (hf : (findP (w0P s)).2 = true) (h : lineP op A B L = s) : rightP op A B L.length = 0 := by
  by_cases hr : rightP op A B L.length = 0
  · exact hr
  · exfalso
    rw [line_bad hr] at h
    subst h
    have e : w0P (⟨#[]⟩ : ByteArray) = (⟨#[]⟩ : ByteArray) := rfl
    unfold findP at hf
    rw [e, if_pos rfl] at hf
    cases hf
theorem par_agree (s : ByteArray) : rK s = parK s ∧ (parK s = true → resA (opN s) (wsP s) = rqA s ∧ resB (opN s) (wsP s) = rqB s ∧ resL (opN s) (wsP s) = rqL s) := by
  have hop := (opN_lt s).1
  have fwd : parK s = true → rK s = true ∧ (resA (opN s) (wsP s) = rqA s ∧ resB (opN s) (wsP s) = rqB s ∧ resL (opN s) (wsP s) = rqL s) := by
    intro h
    have hf : (findP (w0P s)).2 = true ∧ lineP (opN s) (resA (opN s) (wsP s)) (resB (opN s) (wsP s)) (resL (opN s) (wsP s)) = s := by
      unfold parK at h
      rw [Bool.and_eq_true, Bool.and_eq_true, decide_eq_true_eq] at h
      exact ⟨h.1, h.2.2⟩
    have hr := line_right hf.1 hf.2
    have hA := resA_rng (opN s) (wsP s)
    have hB := resB_rng (opN s) (wsP s)
    have hL := (resL_rng (opN s) (wsP s)).1
    have hw := words_line (A := resA (opN s) (wsP s)) (B := resB (opN s) (wsP s)) (L := resL (opN s) (wsP s)) hop hr
    rw [hf.2] at hw
    obtain ⟨b1, b2, b3⟩ := rq_back hop hr hA hB.1 hL
    rw [← hw] at b1 b2 b3
    have e1 : rqA s = resA (opN s) (wsP s) := b1
    have e2 : rqB s = resB (opN s) (wsP s) := b2
    have e3 : rqL s = resL (opN s) (wsP s) := b3
    refine ⟨?_, e1.symm, e2.symm, e3.symm⟩
    unfold rK
    rw [hf.1, e1, e2, e3, decide_eq_true hf.2]; rfl
  have bwd : rK s = true → parK s = true := by
    intro h
    have hf : (findP (w0P s)).2 = true ∧ lineP (opN s) (rqA s) (rqB s) (rqL s) = s := by
      unfold rK at h
      rw [Bool.and_eq_true, decide_eq_true_eq] at h
      exact h
    have hr := line_right hf.1 hf.2
    have h3 := (par_back hop hr (qaW_rng _ _) (qbW_rng _ _).1 (qlW_rng _ _).1).2.2
    rw [hf.2] at h3
    exact h3
  refine ⟨?_, fun h => (fwd h).2⟩
  cases hp : parK s with
  | true => exact (fwd hp).1
  | false =>
    cases hq : rK s with
    | false => rfl
    | true => rw [bwd hq] at hp; cases hp
theorem row_hit {s : ByteArray} {k : Nat} {r : MGr} (h : (rowsT 256)[k]? = some r) (he : r.2.1 = w0P s) : (findP (w0P s)).2 = true ∧ r.1 = ((opN s : Nat) : Int) ∧ r.2.2.1 = (infP (opN s)).2.1 := by
  obtain ⟨i, hi, ho, hri⟩ := rows_mem (List.mem_of_getElem? h)
  have e1 : r.1 = ((i : Nat) : Int) := by rw [hri]; exact of_op hi ho
  have e2 : r.2.1 = nmO i := by rw [hri]; exact of_name hi
  have e3 : r.2.2.1 = (infP i).2.1 := by rw [hri]; exact of_imm hi
  have hw : w0P s = nmO i := by rw [← he, e2]
  have hf := findP_hit hi ((of_ok hi).1 ho)
  have hn : opN s = i := by unfold opN; rw [hw, hf]; simp
  rw [hn, hw, hf]
  exact ⟨rfl, e1, e3⟩
theorem row_miss {s : ByteArray} (h : ∀ j, j < (rowsT 256).length → ∀ r, (rowsT 256)[j]? = some r → r.2.1 ≠ w0P s) : (findP (w0P s)).2 = false := by
  cases hf : (findP (w0P s)).2 with
  | false => rfl
  | true =>
    exfalso
    obtain ⟨i, hi, _, hn, h0⟩ := (findP_out (w0P s)).1 hf
    rw [← hn] at h0
    have hh := rfind_hit hi h0
    unfold rfindP at hh
    obtain ⟨hp, l1, l2, hl, _⟩ := List.find?_eq_some_iff_append.1 hh
    have hm : (ofP i).1 ∈ rowsT 256 := by rw [hl]; simp
    obtain ⟨j, hj, e⟩ := List.getElem_of_mem hm
    refine h j hj (ofP i).1 (by rw [← e]; exact List.getElem?_eq_getElem hj) ?_
    rw [of_name hi, hn]
end Go.Proofs.YtpalmpfkliepfaaDoor
