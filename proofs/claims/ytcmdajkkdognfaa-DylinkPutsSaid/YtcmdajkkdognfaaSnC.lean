/- What is proved here: the scanner: types. -/
import Derived.Test.YtcmdajkkdognfaaSnB
namespace Go.Proofs.Ytcmdajkkdognfaa
open Go.RowKit
set_option linter.unusedVariables false
set_option linter.unusedSimpArgs false
theorem rowToT {α : Type} {k e base n c : Nat} {V : α → List Value} {w : World} {a : Option Addr} {l l' : List α} (h : Row k V e base w (.slice a n c) l) (he : l = l') : Row k V e base w (.slice a l'.length c) l' := he ▸ h.relen

set_option maxHeartbeats 1000000 in
set_option maxRecDepth 100000 in
theorem stypes_any (bs base p : Nat) (a : Option Addr) (c : Nat) (l : List Int) (w : World) (hks : w.heap[bs]? = some (.cells #[(.slice a l.length c), (.int .i64 ((p : Nat) : Int))] 161 (0, 0))) (hr0 : Row 1 (vInt .u8) 5 base w (.slice a l.length c) l) (hp : p ≤ l.length) (hb6 : ∀ y ∈ l, 0 ≤ y ∧ y < 256) (hlm : l.length ≤ 1000000) (X : List Int) (hA : At l p (uL X.length ++ X)) (hX : X.length ≤ 10000) (hv : ∀ y ∈ X, tvalP y = 0) : Calls Try.prog 120 #[(.pointer (some ⟨bs, 0, none⟩))] w fun e w' => e = .returned (.string (strOfNums X)) ∧ Wrote w bs #[(.slice a l.length c), (.int .i64 (((p + (uL X.length).length + X.length) : Nat) : Int))] 161 w' := by
  have hcap := Row.caps hr0; have hR0lt := fun q hq => (Row.lt hr0 q hq).2; have hle := hA.le; simp only [List.length_append] at hle
  refine sx_enter (L := [(0, (.pointer (some ⟨bs, 0, none⟩)))]) Try.func120 rfl rfl rfl rfl (fun fa hf => ?_)
  have hb : KB bs w.heap.size w w := KB.refl _ _ _
  refine wp_seq_k (fun K1 hK1 => ?_)
  refine wp_region_lit ?_
  refine sqv hf (r_assign rfl) rfl rfl rfl ?_; clear hf fa; intro fa hf
  apply wpList_nil
  (try simp only [Exit.then, Exit.inBlock, ↓reduceIte, Nat.reduceEqDiff])
  refine hK1 _ _ ?_
  refine wp_seq_k (fun K2 hK2 => ?_)
  refine wp_region_lit ?_
  refine sqv hf (r_move rfl) rfl rfl rfl ?_; clear hf fa; intro fa hf
  refine sqdt hf (d_callW (v := (.int .i64 ((X.length : Nat) : Int))) (b := bs) (T := 161) (cs := #[(.slice a l.length c), (.int .i64 (((p + (uL X.length).length) : Nat) : Int))]) (vs := [(.pointer (some ⟨bs, 0, none⟩))]) rfl Try.func128 (by kernel_rfl) (by kernel_rfl) (scount_any bs base p a c l _ hks hr0 (by omega) hb6 hlm X.length (At.fst hA) hX)) rfl rfl rfl ?_; clear hf fa; rintro fa _ w1 ⟨rfl, hk1, hg1⟩ hf
  replace hr0 := Row.grown hr0 hg1 (Row.ne_type hr0 hks rfl)
  replace hb := hb.wrote hg1 hb.size
  refine sqv hf (r_assign rfl) rfl rfl rfl ?_; clear hf fa; intro fa hf
  apply wpList_nil
  (try simp only [Exit.then, Exit.inBlock, ↓reduceIte, Nat.reduceEqDiff])
  refine hK2 _ _ ?_
  refine wp_seq_k (fun K3 hK3 => ?_)
  refine wp_region_lit ?_
  refine sqv hf (r_move rfl) rfl rfl rfl ?_; clear hf fa; intro fa hf
  refine sqdt hf (d_make0 (V := (vInt .u8)) (bytes := 1) (z := (.int .u8 (0 : Int))) (m := X.length) rfl rfl Try.underlying47 (by kernel_rfl) rfl (by omega) (by unfold maxLen; omega)) rfl rfl rfl ?_; clear hf fa; rintro fa _ w2 ⟨mb1, rfl, hle1, hr1, he1⟩ hf
  have hBmb1 : w.heap.size ≤ mb1 := Nat.le_trans hb.size hle1
  have : bs < mb1 := Nat.lt_of_lt_of_le (blk_lt hk1) hle1
  have hnr1 : (Value.slice a (l.length) c).ownBlock ≠ some mb1 := fun hq => by have := (Row.lt hr0 _ hq).2; omega
  replace hr1 := Row.rebase hr1 hb.size
  replace hk1 := blk_ext hk1 he1
  replace hr0 := Row.ext hr0 he1
  replace hb := hb.trans (Below.mono he1 hb.size)
  refine sqv hf (r_assign rfl) rfl rfl rfl ?_; clear hf fa; intro fa hf
  apply wpList_nil
  (try simp only [Exit.then, Exit.inBlock, ↓reduceIte, Nat.reduceEqDiff])
  refine hK3 _ _ ?_
  refine wp_seq_k (fun K4 hK4 => ?_)
  refine wp_seq_k (fun K5 hK5 => ?_)
  refine wp_region_lit ?_
  refine sqv hf (r_move rfl) rfl rfl rfl ?_; clear hf fa; intro fa hf
  refine sqv hf (r_move rfl) rfl rfl rfl ?_; clear hf fa; intro fa hf
  apply wpList_nil
  (try simp only [Exit.then, Exit.inBlock, ↓reduceIte, Nat.reduceEqDiff])
  refine hK5 _ _ ?_
  refine wp_block ?_
  refine wp_loop_k (fun mq fa wr => ∃ (k : Nat) (roa : Option Addr) (roc : Nat), mq = X.length - k ∧ Fr 20 fa [(0, (.pointer (some ⟨bs, 0, none⟩))), (9, (.int .i64 ((X.length : Nat) : Int))), (10, (.int .i64 ((k : Nat) : Int))), (4, (.slice roa (((X.take k)).length) roc))] ∧ KB bs w.heap.size w wr ∧ Row 1 (vInt .u8) 5 (w.heap.size) wr (.slice roa (((X.take k)).length) roc) (X.take k) ∧ Row 1 (vInt .u8) 5 (base) wr (.slice a (l.length) c) l ∧ wr.heap[bs]? = some (.cells #[(.slice a l.length c), (.int .i64 (((p + (uL X.length).length + k) : Nat) : Int))] 161 (0, 0)) ∧ (k ≤ X.length)) ?_ ?_
  · skip
    exact ⟨_, 0, (some ⟨mb1, 0, none⟩), X.length, rfl, hf.sub ⟨rfl, rfl, (some_int (by first | rfl | omega)), (some_sl (by first | omega | (simp only [List.length_append, List.length_cons, List.length_nil]; omega) | (simp <;> omega)) rfl), trivial⟩, hb, (Row.relen hr1), hr0, hk1, by omega⟩
  · skip
    clear hf fa; intro mq1 fa w3 hI KL1 hKL1
    clear hb
    clear hk1
    clear hr0
    clear hr1
    obtain ⟨k, roa, roc, hmq1, hf, hb, hro, hR0, hkbs, hk⟩ := hI
    have hcro := Row.caps hro
    have hcR0 := Row.caps hR0
    have hlk : (X.take k).length ≤ k := by rw [List.length_take]; omega
    refine wp_seq_k (fun K6 hK6 => ?_)
    refine wp_region_lit ?_
    refine sqv hf (r_lt rfl rfl) rfl rfl rfl ?_; clear hf fa; intro fa hf
    apply wpList_nil
    (try simp only [Exit.then, Exit.inBlock, ↓reduceIte, Nat.reduceEqDiff])
    refine hK6 _ _ ?_
    refine wp_seq_k (fun K7 hK7 => ?_)
    refine wp_cond_split (t := (decide (((k : Nat) : Int) < ((X.length : Nat) : Int)))) (hf.ev rfl) (fun hqt11_1 => ?_) (fun hqt11_1 => ?_)
    · have hqt11_1b := hqt11_1
      try simp only [decide_eq_true_eq, Bool.and_eq_true, Bool.or_eq_true, Bool.not_eq_true', decide_eq_false_iff_not, ne_eq, Bool.not_eq_true] at hqt11_1
      refine wp_skip ?_
      (try simp only [Exit.then, Exit.inBlock, ↓reduceIte, Nat.reduceEqDiff])
      refine hK7 _ _ ?_
      refine wp_seq_k (fun K8 hK8 => ?_)
      refine wp_block ?_
      obtain ⟨bx, hXk⟩ : ∃ y, X[k]? = some y := ⟨_, List.getElem?_eq_getElem (by omega)⟩
      have hbv := hv bx (List.mem_of_getElem? hXk)
      have hbx : l[p + (uL X.length).length + k]? = some bx := by rw [(At.snd hA).get (by omega)]; exact hXk
      refine wp_region_lit ?_
      refine sqv hf (r_move rfl) rfl rfl rfl ?_; clear hf fa; intro fa hf
      refine sqv hf (r_move rfl) rfl rfl rfl ?_; clear hf fa; intro fa hf
      refine sqdt hf (d_callW (v := (.int .u8 bx)) (b := bs) (T := 161) (cs := #[(.slice a l.length c), (.int .i64 (((p + (uL X.length).length + (k + 1)) : Nat) : Int))]) (vs := [(.pointer (some ⟨bs, 0, none⟩))]) rfl Try.func123 (by kernel_rfl) (by kernel_rfl) (valtype_any bs base ((p + (uL X.length).length + k)) a c l _ hkbs hR0 (by omega) bx hbx hbv)) rfl rfl rfl ?_; clear hf fa; rintro fa _ w4 ⟨rfl, hk2, hg2⟩ hf
      replace hro := Row.grown hro hg2 (Row.ne_type hro hkbs rfl)
      replace hR0 := Row.grown hR0 hg2 (Row.ne_type hR0 hkbs rfl)
      replace hb := hb.wrote hg2 hb.size
      refine sqdt hf (d_bslice (z := (.int .u8 (0 : Int))) (sz := 1) (vs := [(0, (.int .u8 bx))]) (cs := #[(.int .u8 bx)]) rfl Try.underlying47 (by kernel_rfl) rfl (by kernel_rfl)) rfl rfl rfl ?_; clear hf fa; rintro fa _ w5 ⟨b1, rfl, hle2, hk3, he2⟩ hf
      have hBb1 : w.heap.size ≤ b1 := Nat.le_trans hb.size hle2
      have : bs < b1 := Nat.lt_of_lt_of_le (blk_lt hk2) hle2
      have hnr2 : (Value.slice roa ((((X.take k)).length)) roc).ownBlock ≠ some b1 := fun hq => by have := (Row.lt hro _ hq).2; omega
      have hnr3 : (Value.slice a (l.length) c).ownBlock ≠ some b1 := fun hq => by have := (Row.lt hR0 _ hq).2; omega
      replace hk2 := blk_ext hk2 he2
      replace hro := Row.ext hro he2
      replace hR0 := Row.ext hR0 he2
      replace hb := hb.trans (Below.mono he2 hb.size)
      have hs1 := Row.rd (by intros; rfl) (Row.of_new (k := 1) (V := (vInt .u8)) (l := [bx]) hk3 (Nat.le_refl _) rfl rfl (Nat.le_of_ble_eq_true rfl))
      refine sqdt hf (d_append (V := (vInt .u8)) (k := 1) (e := 5) (bytes := 1) (z := (.int .u8 (0 : Int))) (news := [bx]) (base := w.heap.size) (by intros; rfl) (by intro x u hu; simp only [vInt, List.mem_singleton] at hu; subst hu; rfl) rfl rfl Try.underlying47 (by kernel_rfl) rfl rfl rfl hro hs1 rfl (fun h => by cases h) (by first | omega | (simp only [List.length_cons, List.length_nil, List.length_append, nums_len]; omega)) (by have := hb.size; omega)) rfl rfl rfl ?_; clear hf fa; rintro fa v w6 ⟨hr2, hg3⟩ hf; obtain ⟨ra1, rc1, rfl, hcrc1, hmrc1⟩ := Row.slice hr2
      replace hk2 := blk_row' hk2 hg3 (Row.ne_type hro hk2 rfl)
      replace hR0 := Row.grown' hR0 hg3 (fun q h1 h2 => Row.ne_base hro (show q < w.heap.size by have := hR0lt q h1; omega) h2)
      replace hb := hb.trans (row_below hro hg3 hb.size (by have := hb.size; omega))
      refine sqv hf (r_assign rfl) rfl rfl rfl ?_; clear hf fa; intro fa hf
      apply wpList_nil
      (try simp only [Exit.then, Exit.inBlock, ↓reduceIte, Nat.reduceEqDiff])
      refine hK8 _ _ ?_
      refine wp_region_lit ?_
      refine sqv hf (r_add (C := (((k : Nat) : Int) + (1 : Int))) rfl rfl (by rw [IntKind.wrap_i64]; omega)) rfl rfl rfl ?_; clear hf fa; intro fa hf
      refine sqv hf (r_move rfl) rfl rfl rfl ?_; clear hf fa; intro fa hf
      apply wpList_nil
      (try simp only [Exit.then, Exit.inBlock, ↓reduceIte, Nat.reduceEqDiff])
      have htk : X.take k ++ [bx] = X.take (k + 1) := by rw [List.take_add_one, hXk]; rfl
      have hle2 := congrArg List.length htk; simp only [List.length_append, List.length_cons, List.length_nil] at hle2
      refine hKL1 _ _ _ (by omega) ⟨(k + 1), ra1, rc1, rfl, hf.sub ⟨rfl, rfl, (some_int (by first | rfl | omega)), (some_sl (by first | omega | (simp only [List.length_append, List.length_cons, List.length_nil]; omega) | (simp <;> omega)) rfl), trivial⟩, hb, (rowToT hr2 htk), hR0, hk2, by omega⟩
    · have hqt11_1b := hqt11_1
      replace hqt11_1 := Bool.eq_false_iff.1 hqt11_1
      try simp only [ne_eq, decide_eq_true_eq, Bool.and_eq_true, Bool.or_eq_true, Bool.not_eq_true', decide_eq_false_iff_not] at hqt11_1
      refine wp_exit ?_
      (try simp only [Exit.then, Exit.inBlock, ↓reduceIte, Nat.reduceEqDiff])
      refine hK4 _ _ ?_
      refine wp_seq_k (fun K9 hK9 => ?_)
      refine wp_region_lit ?_
      refine sqv hf (r_move rfl) rfl rfl rfl ?_; clear hf fa; intro fa hf
      refine sqv hf (r_rowstr rfl Try.underlying47 Try.underlying5 Try.underlying9 hro) rfl rfl rfl ?_; clear hf fa; intro fa hf
      refine sqv hf (r_assign rfl) rfl rfl rfl ?_; clear hf fa; intro fa hf
      apply wpList_nil
      (try simp only [Exit.then, Exit.inBlock, ↓reduceIte, Nat.reduceEqDiff])
      refine hK9 _ _ ?_
      refine wp_ret ?_
      (try simp only [Exit.then, Exit.inBlock])
      refine ret1 hf rfl rfl ?_
      have hkk : X.take k = X := List.take_of_length_le (by omega)
      have hkl : k = X.length := by omega
      exact ⟨by rw [hkk], by rw [show p + (uL X.length).length + X.length = p + (uL X.length).length + k by omega]; exact hkbs, hb.grown⟩

set_option maxHeartbeats 1000000 in
set_option maxRecDepth 100000 in
theorem sfunc_any (bs base p : Nat) (a : Option Addr) (c : Nat) (l : List Int) (w : World) (hks : w.heap[bs]? = some (.cells #[(.slice a l.length c), (.int .i64 ((p : Nat) : Int))] 161 (0, 0))) (hr0 : Row 1 (vInt .u8) 5 base w (.slice a l.length c) l) (hp : p ≤ l.length) (hb6 : ∀ y ∈ l, 0 ≤ y ∧ y < 256) (hlm : l.length ≤ 1000000) (X Y : List Int) (hA : At l p ([(96 : Int)] ++ ((uL X.length ++ X) ++ (uL Y.length ++ Y)))) (hX : X.length ≤ 1100) (hY : Y.length ≤ 300) (hv : ∀ y ∈ X, tvalP y = 0) (hv2 : ∀ y ∈ Y, tvalP y = 0) (hf0 : tfuncP (strOfNums X, strOfNums Y, ()) = 0) : Calls Try.prog 63 #[(.pointer (some ⟨bs, 0, none⟩))] w fun e w' => e = .returned (.agg #[.string (strOfNums X), .string (strOfNums Y)]) ∧ Wrote w bs #[(.slice a l.length c), (.int .i64 (((p + 1 + (uL X.length).length + X.length + (uL Y.length).length + Y.length) : Nat) : Int))] 161 w' := by
  have hcap := Row.caps hr0; have hR0lt := fun q hq => (Row.lt hr0 q hq).2; have hle := hA.le; simp only [List.length_append, List.length_cons, List.length_nil] at hle
  refine sx_enter (L := [(0, (.pointer (some ⟨bs, 0, none⟩)))]) Try.func63 rfl rfl rfl rfl (fun fa hf => ?_)
  have hb : KB bs w.heap.size w w := KB.refl _ _ _
  refine wp_seq_k (fun K1 hK1 => ?_)
  refine wp_region_lit ?_
  refine sqdt hf (d_alloc (z := (.agg #[(.string ⟨#[]⟩), (.string ⟨#[]⟩)])) (cs := #[(.string ⟨#[]⟩), (.string ⟨#[]⟩)]) (by kernel_rfl) rfl) rfl rfl rfl ?_; clear hf fa; rintro fa _ w1 ⟨b1, rfl, hle1, hk1, he1⟩ hf
  have hBb1 : w.heap.size ≤ b1 := Nat.le_trans hb.size hle1
  have : bs < b1 := Nat.lt_of_lt_of_le (blk_lt hks) hle1
  replace hks := blk_ext hks he1
  replace hr0 := Row.ext hr0 he1
  replace hb := hb.trans (Below.mono he1 hb.size)
  apply wpList_nil
  (try simp only [Exit.then, Exit.inBlock, ↓reduceIte, Nat.reduceEqDiff])
  refine hK1 _ _ ?_
  refine wp_seq_k (fun K2 hK2 => ?_)
  refine wp_region_lit ?_
  refine sqv hf (r_move rfl) rfl rfl rfl ?_; clear hf fa; intro fa hf
  refine sqv hf (r_nilCheck rfl) rfl rfl rfl ?_; clear hf fa; intro fa hf
  refine sqv hf (r_fa rfl Try.underlying161 (f := 1) (q := 1) rfl (by kernel_rfl) rfl) rfl rfl rfl ?_; clear hf fa; intro fa hf
  refine sqv hf (r_load (v := (.int .i64 ((p : Nat) : Int))) rfl Try.underlying3 rfl (cell_blk hks rfl)) rfl rfl rfl ?_; clear hf fa; intro fa hf
  refine sqv hf (r_assign rfl) rfl rfl rfl ?_; clear hf fa; intro fa hf
  apply wpList_nil
  (try simp only [Exit.then, Exit.inBlock, ↓reduceIte, Nat.reduceEqDiff])
  refine hK2 _ _ ?_
  refine wp_seq_k (fun K3 hK3 => ?_)
  refine wp_region_lit ?_
  refine sqv hf (r_move rfl) rfl rfl rfl ?_; clear hf fa; intro fa hf
  refine sqdt hf (d_callW (v := (.int .u8 96)) (b := bs) (T := 161) (cs := #[(.slice a l.length c), (.int .i64 (((p + 1) : Nat) : Int))]) (vs := [(.pointer (some ⟨bs, 0, none⟩))]) rfl Try.func61 (by kernel_rfl) (by kernel_rfl) (sbyte_any bs base p a c l _ hks hr0 (by omega) 96 (At.head hA))) rfl rfl rfl ?_; clear hf fa; rintro fa _ w2 ⟨rfl, hk2, hg1⟩ hf
  replace hk1 := blk_grown hk1 hg1 (by omega)
  replace hr0 := Row.grown hr0 hg1 (Row.ne_type hr0 hks rfl)
  replace hb := hb.wrote hg1 hb.size
  refine sqv hf (r_eq rfl rfl) rfl rfl rfl ?_; clear hf fa; intro fa hf
  refine sqv hf (r_move rfl) rfl rfl rfl ?_; clear hf fa; intro fa hf
  refine sqdt hf (d_callB (vs := [(.bool (decide (96 = (96 : Int)))), (.int .i64 (7 : Int)), (.int .i64 ((p : Nat) : Int))]) rfl Try.func118 (by kernel_rfl) (by kernel_rfl) (unless_any (decide (96 = (96 : Int))) (7 : Int) ((p : Nat) : Int) _ (by first | rfl | assumption | (simp; done) | (simp; omega)))) rfl rfl rfl ?_; clear hf fa; rintro fa _ w3 ⟨rfl, he2⟩ hf
  replace hk2 := blk_ext hk2 he2
  replace hk1 := blk_ext hk1 he2
  replace hr0 := Row.ext hr0 he2
  replace hb := hb.trans (Below.mono he2 hb.size)
  apply wpList_nil
  (try simp only [Exit.then, Exit.inBlock, ↓reduceIte, Nat.reduceEqDiff])
  refine hK3 _ _ ?_
  refine wp_seq_k (fun K4 hK4 => ?_)
  refine wp_region_lit ?_
  refine sqv hf (r_move rfl) rfl rfl rfl ?_; clear hf fa; intro fa hf
  refine sqdt hf (d_callW (v := (.string (strOfNums X))) (b := bs) (T := 161) (cs := #[(.slice a l.length c), (.int .i64 (((((p + 1)) + (uL X.length).length + X.length) : Nat) : Int))]) (vs := [(.pointer (some ⟨bs, 0, none⟩))]) rfl Try.func120 (by kernel_rfl) (by kernel_rfl) (stypes_any bs base ((p + 1)) a c l _ hk2 hr0 (by omega) hb6 hlm X (At.fst (At.tail hA)) (by omega) hv)) rfl rfl rfl ?_; clear hf fa; rintro fa _ w4 ⟨rfl, hk3, hg2⟩ hf
  replace hk1 := blk_grown hk1 hg2 (by omega)
  replace hr0 := Row.grown hr0 hg2 (Row.ne_type hr0 hk2 rfl)
  replace hb := hb.wrote hg2 hb.size
  refine sqv hf (r_move rfl) rfl rfl rfl ?_; clear hf fa; intro fa hf
  refine sqdt hf (d_callW (v := (.string (strOfNums Y))) (b := bs) (T := 161) (cs := #[(.slice a l.length c), (.int .i64 (((((((p + 1)) + (uL X.length).length + X.length)) + (uL Y.length).length + Y.length) : Nat) : Int))]) (vs := [(.pointer (some ⟨bs, 0, none⟩))]) rfl Try.func120 (by kernel_rfl) (by kernel_rfl) (stypes_any bs base ((((p + 1)) + (uL X.length).length + X.length)) a c l _ hk3 hr0 (by omega) hb6 hlm Y (by have h := At.snd (show At l (p + 1) ((uL X.length ++ X) ++ (uL Y.length ++ Y)) from At.tail hA); rwa [List.length_append, ← Nat.add_assoc] at h) (by omega) hv2)) rfl rfl rfl ?_; clear hf fa; rintro fa _ w5 ⟨rfl, hk4, hg3⟩ hf
  replace hk1 := blk_grown hk1 hg3 (by omega)
  replace hr0 := Row.grown hr0 hg3 (Row.ne_type hr0 hk3 rfl)
  replace hb := hb.wrote hg3 hb.size
  refine sqv hf (r_build (vs := [(0, (.string (strOfNums X))), (1, (.string (strOfNums Y)))]) (cs := #[(.string (strOfNums X)), (.string (strOfNums Y))]) rfl (fun _ => by kernel_rfl)) rfl rfl rfl ?_; clear hf fa; intro fa hf
  refine sqdt hf (d_alloc (z := (.agg #[(.string ⟨#[]⟩), (.string ⟨#[]⟩)])) (cs := #[(.string ⟨#[]⟩), (.string ⟨#[]⟩)]) (by kernel_rfl) rfl) rfl rfl rfl ?_; clear hf fa; rintro fa _ w6 ⟨b2, rfl, hle2, hk5, he3⟩ hf
  have hBb2 : w.heap.size ≤ b2 := Nat.le_trans hb.size hle2
  have : bs < b2 := Nat.lt_of_lt_of_le (blk_lt hk4) hle2
  have : b1 < b2 := Nat.lt_of_lt_of_le (blk_lt hk1) hle2
  replace hk4 := blk_ext hk4 he3
  replace hk1 := blk_ext hk1 he3
  replace hr0 := Row.ext hr0 he3
  replace hb := hb.trans (Below.mono he3 hb.size)
  refine sqn hf (d_storeK (T := 67) (v := (.agg #[(.string (strOfNums X)), (.string (strOfNums Y))])) (cs := #[(.string ⟨#[]⟩), (.string ⟨#[]⟩)]) (cs' := #[(.string (strOfNums X)), (.string (strOfNums Y))]) rfl rfl (by kernel_rfl) (by kernel_rfl) hk5 (by kernel_rfl) (by kernel_rfl)) rfl rfl ?_; clear hf fa; rintro fa _ w7 ⟨hk6, hg4⟩ hf
  replace hk4 := blk_grown hk4 hg4 (by omega)
  replace hk1 := blk_grown hk1 hg4 (by omega)
  replace hr0 := Row.grown hr0 hg4 (Row.ne_type hr0 hk5 rfl)
  replace hb := hb.trans (grown_below hg4 hb.size hBb2)
  apply wpList_nil
  (try simp only [Exit.then, Exit.inBlock, ↓reduceIte, Nat.reduceEqDiff])
  refine hK4 _ _ ?_
  refine wp_seq_k (fun K5 hK5 => ?_)
  refine wp_region_lit ?_
  refine sqv hf (r_loadA (cs := [(.string (strOfNums X)), (.string (strOfNums Y))]) rfl Try.underlying67 rfl (by kernel_rfl) (cellsAt_blk hk6)) rfl rfl rfl ?_; clear hf fa; intro fa hf
  refine sqdt hf (d_callB (vs := [(.agg #[(.string (strOfNums X)), (.string (strOfNums Y))])]) rfl Try.func42 (by kernel_rfl) (by kernel_rfl) (tfunc_any (strOfNums X, strOfNums Y, ()) _ (by show (strOfNums X).size ≤ _; rw [strOfNums_size]; omega) (by show (strOfNums Y).size ≤ _; rw [strOfNums_size]; omega))) rfl rfl rfl ?_; clear hf fa; rintro fa _ w8 ⟨rfl, he4⟩ hf
  replace hk4 := blk_ext hk4 he4
  replace hk1 := blk_ext hk1 he4
  replace hk6 := blk_ext hk6 he4
  replace hr0 := Row.ext hr0 he4
  replace hb := hb.trans (Below.mono he4 hb.size)
  refine sqv hf (r_assign rfl) rfl rfl rfl ?_; clear hf fa; intro fa hf
  apply wpList_nil
  (try simp only [Exit.then, Exit.inBlock, ↓reduceIte, Nat.reduceEqDiff])
  refine hK5 _ _ ?_
  refine wp_seq_k (fun K6 hK6 => ?_)
  refine wp_region_lit ?_
  refine sqv hf (r_move rfl) rfl rfl rfl ?_; clear hf fa; intro fa hf
  refine sqv hf (r_eq rfl rfl) rfl rfl rfl ?_; clear hf fa; intro fa hf
  refine sqv hf (r_move rfl) rfl rfl rfl ?_; clear hf fa; intro fa hf
  refine sqv hf (r_move rfl) rfl rfl rfl ?_; clear hf fa; intro fa hf
  refine sqdt hf (d_callB (vs := [(.bool (decide (((tfuncP (strOfNums X, strOfNums Y, ()))) = (0 : Int)))), (.int .i64 ((tfuncP (strOfNums X, strOfNums Y, ())))), (.int .i64 ((p : Nat) : Int))]) rfl Try.func118 (by kernel_rfl) (by kernel_rfl) (unless_any (decide (((tfuncP (strOfNums X, strOfNums Y, ()))) = (0 : Int))) ((tfuncP (strOfNums X, strOfNums Y, ()))) ((p : Nat) : Int) _ (by first | rfl | assumption | (simp; done) | (simp; omega)))) rfl rfl rfl ?_; clear hf fa; rintro fa _ w9 ⟨rfl, he5⟩ hf
  replace hk4 := blk_ext hk4 he5
  replace hk1 := blk_ext hk1 he5
  replace hk6 := blk_ext hk6 he5
  replace hr0 := Row.ext hr0 he5
  replace hb := hb.trans (Below.mono he5 hb.size)
  apply wpList_nil
  (try simp only [Exit.then, Exit.inBlock, ↓reduceIte, Nat.reduceEqDiff])
  refine hK6 _ _ ?_
  refine wp_seq_k (fun K7 hK7 => ?_)
  refine wp_region_lit ?_
  refine sqv hf (r_loadA (cs := [(.string (strOfNums X)), (.string (strOfNums Y))]) rfl Try.underlying67 rfl (by kernel_rfl) (cellsAt_blk hk6)) rfl rfl rfl ?_; clear hf fa; intro fa hf
  refine sqn hf (d_storeK (T := 67) (v := (.agg #[(.string (strOfNums X)), (.string (strOfNums Y))])) (cs := #[(.string ⟨#[]⟩), (.string ⟨#[]⟩)]) (cs' := #[(.string (strOfNums X)), (.string (strOfNums Y))]) rfl rfl (by kernel_rfl) (by kernel_rfl) hk1 (by kernel_rfl) (by kernel_rfl)) rfl rfl ?_; clear hf fa; rintro fa _ w10 ⟨hk7, hg5⟩ hf
  replace hk4 := blk_grown hk4 hg5 (by omega)
  replace hk6 := blk_grown hk6 hg5 (by omega)
  replace hr0 := Row.grown hr0 hg5 (Row.ne_type hr0 hk1 rfl)
  replace hb := hb.trans (grown_below hg5 hb.size hBb1)
  apply wpList_nil
  (try simp only [Exit.then, Exit.inBlock, ↓reduceIte, Nat.reduceEqDiff])
  refine hK7 _ _ ?_
  refine wp_ret ?_
  (try simp only [Exit.then, Exit.inBlock])
  refine retC hf rfl rfl hk7 Try.underlying67 rfl (by kernel_rfl) ?_
  exact ⟨rfl, hk4, hb.grown⟩
end Go.Proofs.Ytcmdajkkdognfaa
