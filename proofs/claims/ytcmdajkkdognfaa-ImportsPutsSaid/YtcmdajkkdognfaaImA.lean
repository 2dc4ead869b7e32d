/- What is proved here: imports: Of, Place, Count. -/
import Derived.Test.YtcmdajkkdognfaaTyL
import Derived.Test.YtcmdajkkdognfaaUwC
namespace Go.Proofs.Ytcmdajkkdognfaa
open Go.RowKit
set_option linter.unusedVariables false
set_option linter.unusedSimpArgs false
def ofL (L : List MImp) (kd : Int) : List MImp := L.filter fun y => decide (y.2.2.1 = kd)
def plR (m nm : ByteArray) : List MImp → Nat → Nat × Bool
  | [], _ => (0, false)
  | y :: l, i => if (decide (y.1 = m) && decide (y.2.1 = nm)) = true then (i, true) else plR m nm l (i + 1)
def plP (m nm : ByteArray) (l : List MImp) : Nat × Bool := plR m nm l 0
theorem itake_at {α : Type} {l : List α} {k : Nat} {y : α} (h : l[k]? = some y) : l.take (k + 1) = l.take k ++ [y] := by
  rw [List.take_add_one, h]; rfl
theorem of_yes {L : List MImp} {k : Nat} {kd : Int} {y : MImp} (hy : L[k]? = some y) (h : y.2.2.1 = kd) : ofL (L.take k) kd ++ [y] = ofL (L.take (k + 1)) kd := by
  unfold ofL
  rw [itake_at hy, List.filter_append, List.filter_cons, if_pos (by simpa using h)]; rfl
theorem of_no {L : List MImp} {k : Nat} {kd : Int} {y : MImp} (hy : L[k]? = some y) (h : ¬ y.2.2.1 = kd) : ofL (L.take k) kd = ofL (L.take (k + 1)) kd := by
  unfold ofL
  rw [itake_at hy, List.filter_append, List.filter_cons, if_neg (by simpa using h), List.filter_nil, List.append_nil]
@[simp] theorem ofL_nil (kd : Int) : ofL [] kd = [] := rfl
theorem of_len (L : List MImp) (k : Nat) (kd : Int) : (ofL (L.take k) kd).length ≤ k ∧ (ofL (L.take k) kd).length ≤ L.length := by
  have h := List.length_filter_le (fun y : MImp => decide (y.2.2.1 = kd)) (L.take k)
  unfold ofL
  rw [List.length_take] at h
  omega
theorem of_len2 (L : List MImp) (kd : Int) : (ofL L kd).length ≤ L.length := List.length_filter_le _ _
theorem rowToI {α : Type} {k e base n c : Nat} {V : α → List Value} {w : World} {a : Option Addr} {l l' : List α} (h : Row k V e base w (.slice a n c) l) (he : l = l') : Row k V e base w (.slice a l'.length c) l' := he ▸ h.relen
theorem rowToI' {α : Type} {k e base : Nat} {V : α → List Value} {w : World} {v : Value} {l l' : List α} (h : Row k V e base w v l) (he : l = l') : Row k V e base w v l' := he ▸ h

set_option maxHeartbeats 1000000 in
set_option maxRecDepth 100000 in
theorem of_any (a : Option Addr) (L : List MImp) (c : Nat) (kd : Int) (w : World) (hl : RdS 9 vMImp w a L) (hlc : L.length ≤ c) (hlm : L.length ≤ 4096) : Calls Try.prog 54 #[(.slice a L.length c), (.int .u8 kd)] w fun e w' => ∃ v, e = .returned v ∧ Row 9 vMImp 81 w.heap.size w' v (ofL L kd) ∧ Below w.heap.size w w' := by
  refine sx_enter (L := [(0, (.slice a L.length c)), (1, (.int .u8 kd))]) Try.func54 rfl rfl rfl rfl (fun fa hf => ?_)
  have hb : Below w.heap.size w w := Below.refl _ _
  refine wp_seq_k (fun K1 hK1 => ?_)
  refine wp_region_lit ?_
  refine sqv hf (r_assign rfl) rfl rfl rfl ?_; clear hf fa; intro fa hf
  apply wpList_nil
  (try simp only [Exit.then, Exit.inBlock, ↓reduceIte, Nat.reduceEqDiff])
  refine hK1 _ _ ?_
  refine wp_seq_k (fun K2 hK2 => ?_)
  refine wp_region_lit ?_
  refine sqv hf (r_assign rfl) rfl rfl rfl ?_; clear hf fa; intro fa hf
  apply wpList_nil
  (try simp only [Exit.then, Exit.inBlock, ↓reduceIte, Nat.reduceEqDiff])
  refine hK2 _ _ ?_
  refine wp_seq_k (fun K3 hK3 => ?_)
  refine wp_seq_k (fun K4 hK4 => ?_)
  refine wp_region_lit ?_
  refine sqv hf (r_move rfl) rfl rfl rfl ?_; clear hf fa; intro fa hf
  refine sqv hf (r_lensl rfl Try.underlying79) rfl rfl rfl ?_; clear hf fa; intro fa hf
  refine sqv hf (r_move rfl) rfl rfl rfl ?_; clear hf fa; intro fa hf
  apply wpList_nil
  (try simp only [Exit.then, Exit.inBlock, ↓reduceIte, Nat.reduceEqDiff])
  refine hK4 _ _ ?_
  refine wp_block ?_
  refine wp_loop_k (fun mq fa wr => ∃ (k : Nat) (roa : Option Addr) (roc : Nat), mq = L.length - k ∧ Fr 24 fa [(1, (.int .u8 kd)), (8, (.slice a L.length c)), (9, (.int .i64 ((L.length : Nat) : Int))), (10, (.int .i64 ((k : Nat) : Int))), (5, (.slice roa (((ofL (L.take k) kd)).length) roc))] ∧ Below w.heap.size w wr ∧ Row 9 vMImp 81 (w.heap.size) wr (.slice roa (((ofL (L.take k) kd)).length) roc) (ofL (L.take k) kd) ∧ (k ≤ L.length)) ?_ ?_
  · skip
    exact ⟨_, 0, none, 0, rfl, hf.sub ⟨rfl, rfl, rfl, (some_int (by first | rfl | omega)), (some_sl (by first | omega | (simp only [List.length_append, List.length_cons, List.length_nil]; omega) | (simp <;> omega)) rfl), trivial⟩, hb, Row.nil, by omega⟩
  · skip
    clear hf fa; intro mq1 fa w1 hI KL1 hKL1
    clear hb
    obtain ⟨k, roa, roc, hmq1, hf, hb, hro, hk⟩ := hI
    have hcro := Row.caps hro
    have hol := of_len L k kd
    refine wp_seq_k (fun K5 hK5 => ?_)
    refine wp_region_lit ?_
    refine sqv hf (r_lt rfl rfl) rfl rfl rfl ?_; clear hf fa; intro fa hf
    apply wpList_nil
    (try simp only [Exit.then, Exit.inBlock, ↓reduceIte, Nat.reduceEqDiff])
    refine hK5 _ _ ?_
    refine wp_seq_k (fun K6 hK6 => ?_)
    refine wp_cond_split (t := (decide (((k : Nat) : Int) < ((L.length : Nat) : Int)))) (hf.ev rfl) (fun hqt11_1 => ?_) (fun hqt11_1 => ?_)
    · have hqt11_1b := hqt11_1
      try simp only [decide_eq_true_eq, Bool.and_eq_true, Bool.or_eq_true, Bool.not_eq_true', decide_eq_false_iff_not, ne_eq, Bool.not_eq_true] at hqt11_1
      refine wp_skip ?_
      (try simp only [Exit.then, Exit.inBlock, ↓reduceIte, Nat.reduceEqDiff])
      refine hK6 _ _ ?_
      refine wp_seq_k (fun K7 hK7 => ?_)
      refine wp_block ?_
      refine wp_seq_k (fun K8 hK8 => ?_)
      obtain ⟨y, hy⟩ : ∃ x, L[k]? = some x := ⟨_, List.getElem?_eq_getElem (by omega)⟩
      refine wp_region_lit ?_
      have hy1 : (L)[k]? = some y := hy
      obtain ⟨ab1, aoff1, hat1, hlb1, hel1⟩ := RdS.at hl hy1
      refine sqv hf (r_ixa (sz := 9) (j := k) (evAt rfl hat1) rfl Try.underlying79 (by kernel_rfl) rfl (by omega) rfl) rfl rfl rfl ?_; clear hf fa; intro fa hf
      refine sqv hf (r_loadA (cs := [(.string y.1), (.string y.2.1), (.int .u8 y.2.2.1), (.int .u32 y.2.2.2.1), (.int .u32 y.2.2.2.2.1.1), (.int .u32 y.2.2.2.2.1.2.1), (.bool y.2.2.2.2.1.2.2.1), (.int .u8 y.2.2.2.2.2.1.1), (.bool y.2.2.2.2.2.1.2.1)]) rfl Try.underlying81 rfl (by kernel_rfl) (cellsAt_below hel1 hb hlb1)) rfl rfl rfl ?_; clear hf fa; intro fa hf
      refine sqdt hf (d_alloc (z := (.agg #[(.string ⟨#[]⟩), (.string ⟨#[]⟩), (.int .u8 (0 : Int)), (.int .u32 (0 : Int)), (.int .u32 (0 : Int)), (.int .u32 (0 : Int)), (.bool false), (.int .u8 (0 : Int)), (.bool false)])) (cs := #[(.string ⟨#[]⟩), (.string ⟨#[]⟩), (.int .u8 (0 : Int)), (.int .u32 (0 : Int)), (.int .u32 (0 : Int)), (.int .u32 (0 : Int)), (.bool false), (.int .u8 (0 : Int)), (.bool false)]) (by kernel_rfl) rfl) rfl rfl rfl ?_; clear hf fa; rintro fa _ w2 ⟨b1, rfl, hle1, hk1, he1⟩ hf
      have hBb1 : w.heap.size ≤ b1 := Nat.le_trans hb.size hle1
      have hnr1 : (Value.slice roa ((((ofL (L.take k) kd)).length)) roc).ownBlock ≠ some b1 := fun hq => by have := (Row.lt hro _ hq).2; omega
      replace hro := Row.ext hro he1
      replace hb := hb.trans (Below.mono he1 hb.size)
      refine sqn hf (d_storeK (T := 81) (v := (.agg #[(.string y.1), (.string y.2.1), (.int .u8 y.2.2.1), (.int .u32 y.2.2.2.1), (.int .u32 y.2.2.2.2.1.1), (.int .u32 y.2.2.2.2.1.2.1), (.bool y.2.2.2.2.1.2.2.1), (.int .u8 y.2.2.2.2.2.1.1), (.bool y.2.2.2.2.2.1.2.1)])) (cs := #[(.string ⟨#[]⟩), (.string ⟨#[]⟩), (.int .u8 (0 : Int)), (.int .u32 (0 : Int)), (.int .u32 (0 : Int)), (.int .u32 (0 : Int)), (.bool false), (.int .u8 (0 : Int)), (.bool false)]) (cs' := #[(.string y.1), (.string y.2.1), (.int .u8 y.2.2.1), (.int .u32 y.2.2.2.1), (.int .u32 y.2.2.2.2.1.1), (.int .u32 y.2.2.2.2.1.2.1), (.bool y.2.2.2.2.1.2.2.1), (.int .u8 y.2.2.2.2.2.1.1), (.bool y.2.2.2.2.2.1.2.1)]) rfl rfl (by kernel_rfl) (by kernel_rfl) hk1 (by kernel_rfl) (by kernel_rfl)) rfl rfl ?_; clear hf fa; rintro fa _ w3 ⟨hk2, hg1⟩ hf
      replace hro := Row.grown hro hg1 hnr1
      replace hb := hb.trans (grown_below hg1 hb.size hBb1)
      apply wpList_nil
      (try simp only [Exit.then, Exit.inBlock, ↓reduceIte, Nat.reduceEqDiff])
      refine hK8 _ _ ?_
      refine wp_seq_k (fun K9 hK9 => ?_)
      refine wp_region_lit ?_
      refine sqv hf (r_fa rfl Try.underlying81 (f := 2) (q := 2) rfl (by kernel_rfl) rfl) rfl rfl rfl ?_; clear hf fa; intro fa hf
      refine sqv hf (r_load (v := (.int .u8 y.2.2.1)) rfl Try.underlying5 rfl (cell_blk hk2 rfl)) rfl rfl rfl ?_; clear hf fa; intro fa hf
      refine sqv hf (r_move rfl) rfl rfl rfl ?_; clear hf fa; intro fa hf
      refine sqv hf (r_eq rfl rfl) rfl rfl rfl ?_; clear hf fa; intro fa hf
      apply wpList_nil
      (try simp only [Exit.then, Exit.inBlock, ↓reduceIte, Nat.reduceEqDiff])
      refine hK9 _ _ ?_
      refine wp_cond_split (t := (decide (y.2.2.1 = kd))) (hf.ev rfl) (fun hqt17_1 => ?_) (fun hqt17_1 => ?_)
      · have hqt17_1b := hqt17_1
        try simp only [decide_eq_true_eq, Bool.and_eq_true, Bool.or_eq_true, Bool.not_eq_true', decide_eq_false_iff_not, ne_eq, Bool.not_eq_true] at hqt17_1
        refine wp_region_lit ?_
        refine sqv hf (r_move rfl) rfl rfl rfl ?_; clear hf fa; intro fa hf
        refine sqv hf (r_loadA (cs := [(.string y.1), (.string y.2.1), (.int .u8 y.2.2.1), (.int .u32 y.2.2.2.1), (.int .u32 y.2.2.2.2.1.1), (.int .u32 y.2.2.2.2.1.2.1), (.bool y.2.2.2.2.1.2.2.1), (.int .u8 y.2.2.2.2.2.1.1), (.bool y.2.2.2.2.2.1.2.1)]) rfl Try.underlying81 rfl (by kernel_rfl) (cellsAt_blk hk2)) rfl rfl rfl ?_; clear hf fa; intro fa hf
        refine sqdt hf (d_bslice (z := (.agg #[(.string ⟨#[]⟩), (.string ⟨#[]⟩), (.int .u8 (0 : Int)), (.int .u32 (0 : Int)), (.int .u32 (0 : Int)), (.int .u32 (0 : Int)), (.bool false), (.int .u8 (0 : Int)), (.bool false)])) (sz := 9) (vs := [(0, (.agg #[(.string y.1), (.string y.2.1), (.int .u8 y.2.2.1), (.int .u32 y.2.2.2.1), (.int .u32 y.2.2.2.2.1.1), (.int .u32 y.2.2.2.2.1.2.1), (.bool y.2.2.2.2.1.2.2.1), (.int .u8 y.2.2.2.2.2.1.1), (.bool y.2.2.2.2.2.1.2.1)]))]) (cs := #[(.string y.1), (.string y.2.1), (.int .u8 y.2.2.1), (.int .u32 y.2.2.2.1), (.int .u32 y.2.2.2.2.1.1), (.int .u32 y.2.2.2.2.1.2.1), (.bool y.2.2.2.2.1.2.2.1), (.int .u8 y.2.2.2.2.2.1.1), (.bool y.2.2.2.2.2.1.2.1)]) rfl Try.underlying79 (by kernel_rfl) rfl (by kernel_rfl)) rfl rfl rfl ?_; clear hf fa; rintro fa _ w4 ⟨b2, rfl, hle2, hk3, he2⟩ hf
        have hBb2 : w.heap.size ≤ b2 := Nat.le_trans hb.size hle2
        have : b1 < b2 := Nat.lt_of_lt_of_le (blk_lt hk2) hle2
        have hnr2 : (Value.slice roa ((((ofL (L.take k) kd)).length)) roc).ownBlock ≠ some b2 := fun hq => by have := (Row.lt hro _ hq).2; omega
        replace hk2 := blk_ext hk2 he2
        replace hro := Row.ext hro he2
        replace hb := hb.trans (Below.mono he2 hb.size)
        have hs1 := Row.rd (by intros; rfl) (Row.of_new (k := 9) (V := vMImp) (l := [y]) hk3 (Nat.le_refl _) rfl rfl (Nat.le_of_ble_eq_true rfl))
        refine sqdt hf (d_append (V := vMImp) (k := 9) (e := 81) (bytes := 56) (z := (.agg #[(.string ⟨#[]⟩), (.string ⟨#[]⟩), (.int .u8 (0 : Int)), (.int .u32 (0 : Int)), (.int .u32 (0 : Int)), (.int .u32 (0 : Int)), (.bool false), (.int .u8 (0 : Int)), (.bool false)])) (news := [y]) (base := w.heap.size) (by intros; rfl) (by exact oneMImp) rfl rfl Try.underlying79 (by kernel_rfl) rfl rfl rfl hro hs1 rfl (fun h => by cases h) (by first | omega | (simp only [List.length_cons, List.length_nil, List.length_append, nums_len, List.length_replicate]; omega)) (by have := hb.size; omega)) rfl rfl rfl ?_; clear hf fa; rintro fa v w5 ⟨hr1, hg2⟩ hf; obtain ⟨ra1, rc1, rfl, hcrc1, hmrc1⟩ := Row.slice hr1
        replace hk2 := blk_row' hk2 hg2 hnr1
        replace hb := hb.trans (row_below hro hg2 hb.size (by have := hb.size; omega))
        refine sqv hf (r_assign rfl) rfl rfl rfl ?_; clear hf fa; intro fa hf
        apply wpList_nil
        (try simp only [Exit.then, Exit.inBlock, ↓reduceIte, Nat.reduceEqDiff])
        refine hK7 _ _ ?_
        refine wp_region_lit ?_
        refine sqv hf (r_add (C := (((k : Nat) : Int) + (1 : Int))) rfl rfl (by rw [IntKind.wrap_i64]; omega)) rfl rfl rfl ?_; clear hf fa; intro fa hf
        refine sqv hf (r_move rfl) rfl rfl rfl ?_; clear hf fa; intro fa hf
        apply wpList_nil
        (try simp only [Exit.then, Exit.inBlock, ↓reduceIte, Nat.reduceEqDiff])
        have hle := congrArg List.length (of_yes hy hqt17_1); try simp only [List.length_append, List.length_cons, List.length_nil] at hle
        refine hKL1 _ _ _ (by omega) ⟨(k + 1), ra1, rc1, rfl, hf.sub ⟨rfl, rfl, rfl, (some_int (by first | rfl | omega)), (some_sl (by first | omega | (simp only [List.length_append, List.length_cons, List.length_nil]; omega) | (simp <;> omega)) rfl), trivial⟩, hb, (rowToI hr1 (of_yes hy hqt17_1)), by omega⟩
      · have hqt17_1b := hqt17_1
        replace hqt17_1 := Bool.eq_false_iff.1 hqt17_1
        try simp only [ne_eq, decide_eq_true_eq, Bool.and_eq_true, Bool.or_eq_true, Bool.not_eq_true', decide_eq_false_iff_not] at hqt17_1
        refine wp_skip ?_
        (try simp only [Exit.then, Exit.inBlock, ↓reduceIte, Nat.reduceEqDiff])
        refine hK7 _ _ ?_
        refine wp_region_lit ?_
        refine sqv hf (r_add (C := (((k : Nat) : Int) + (1 : Int))) rfl rfl (by rw [IntKind.wrap_i64]; omega)) rfl rfl rfl ?_; clear hf fa; intro fa hf
        refine sqv hf (r_move rfl) rfl rfl rfl ?_; clear hf fa; intro fa hf
        apply wpList_nil
        (try simp only [Exit.then, Exit.inBlock, ↓reduceIte, Nat.reduceEqDiff])
        have hle := congrArg List.length (of_no hy hqt17_1); try simp only [List.length_append, List.length_cons, List.length_nil] at hle
        refine hKL1 _ _ _ (by omega) ⟨(k + 1), roa, roc, rfl, hf.sub ⟨rfl, rfl, rfl, (some_int (by first | rfl | omega)), (some_sl (by first | omega | (simp only [List.length_append, List.length_cons, List.length_nil]; omega) | (simp <;> omega)) rfl), trivial⟩, hb, (rowToI hro (of_no hy hqt17_1)), by omega⟩
    · have hqt11_1b := hqt11_1
      replace hqt11_1 := Bool.eq_false_iff.1 hqt11_1
      try simp only [ne_eq, decide_eq_true_eq, Bool.and_eq_true, Bool.or_eq_true, Bool.not_eq_true', decide_eq_false_iff_not] at hqt11_1
      refine wp_exit ?_
      (try simp only [Exit.then, Exit.inBlock, ↓reduceIte, Nat.reduceEqDiff])
      refine hK3 _ _ ?_
      refine wp_seq_k (fun K10 hK10 => ?_)
      refine wp_region_lit ?_
      refine sqv hf (r_move rfl) rfl rfl rfl ?_; clear hf fa; intro fa hf
      refine sqv hf (r_assign rfl) rfl rfl rfl ?_; clear hf fa; intro fa hf
      apply wpList_nil
      (try simp only [Exit.then, Exit.inBlock, ↓reduceIte, Nat.reduceEqDiff])
      refine hK10 _ _ ?_
      refine wp_ret ?_
      (try simp only [Exit.then, Exit.inBlock])
      refine ret1 hf rfl rfl ?_
      exact ⟨_, rfl, rowToI' hro (by rw [List.take_of_length_le (by omega)]), hb⟩

set_option maxHeartbeats 1000000 in
set_option maxRecDepth 100000 in
theorem icount_any (a : Option Addr) (L : List MImp) (c : Nat) (kd : Int) (w : World) (hl : RdS 9 vMImp w a L) (hlc : L.length ≤ c) (hlm : L.length ≤ 4096) : Calls Try.prog 56 #[(.slice a L.length c), (.int .u8 kd)] w fun e w' => e = .returned (.int .i64 ((ofL L kd).length : Nat)) ∧ Below w.heap.size w w' := by
  refine sx_enter (L := [(0, (.slice a L.length c)), (1, (.int .u8 kd))]) Try.func56 rfl rfl rfl rfl (fun fa hf => ?_)
  have hb : Below w.heap.size w w := Below.refl _ _
  refine wp_seq_k (fun K1 hK1 => ?_)
  refine wp_region_lit ?_
  refine sqv hf (r_assign rfl) rfl rfl rfl ?_; clear hf fa; intro fa hf
  apply wpList_nil
  (try simp only [Exit.then, Exit.inBlock, ↓reduceIte, Nat.reduceEqDiff])
  refine hK1 _ _ ?_
  refine wp_seq_k (fun K2 hK2 => ?_)
  refine wp_region_lit ?_
  refine sqv hf (r_move rfl) rfl rfl rfl ?_; clear hf fa; intro fa hf
  refine sqv hf (r_move rfl) rfl rfl rfl ?_; clear hf fa; intro fa hf
  refine sqdt hf (d_callX (vs := [(.slice a L.length c), (.int .u8 kd)]) rfl Try.func54 (by kernel_rfl) (by kernel_rfl) (of_any a L c kd _ (RdS.ext hl hb) hlc hlm)) rfl rfl rfl ?_; clear hf fa; rintro fa v w1 ⟨hr1, he1⟩ hf; obtain ⟨ra1, rc1, rfl, hcrc1, hmrc1⟩ := Row.slice hr1
  replace hr1 := Row.rebase hr1 hb.size
  replace hb := hb.trans (Below.mono he1 hb.size)
  refine sqv hf (r_lensl rfl Try.underlying79) rfl rfl rfl ?_; clear hf fa; intro fa hf
  refine sqv hf (r_assign rfl) rfl rfl rfl ?_; clear hf fa; intro fa hf
  apply wpList_nil
  (try simp only [Exit.then, Exit.inBlock, ↓reduceIte, Nat.reduceEqDiff])
  refine hK2 _ _ ?_
  refine wp_ret ?_
  (try simp only [Exit.then, Exit.inBlock])
  refine ret1 hf rfl rfl ?_
  exact ⟨rfl, hb⟩

set_option maxHeartbeats 1000000 in
set_option maxRecDepth 100000 in
theorem place_any (a : Option Addr) (L : List MImp) (c : Nat) (kd : Int) (m nm : ByteArray) (w : World) (hl : RdS 9 vMImp w a L) (hlc : L.length ≤ c) (hlm : L.length ≤ 4096) : Calls Try.prog 55 #[(.slice a L.length c), (.int .u8 kd), (.string m), (.string nm)] w fun e w' => e = .returned (.tuple #[.int .i64 (((plP m nm (ofL L kd)).1 : Nat) : Int), .bool (plP m nm (ofL L kd)).2]) ∧ Below w.heap.size w w' := by
  refine sx_enter (L := [(0, (.slice a L.length c)), (1, (.int .u8 kd)), (2, (.string m)), (3, (.string nm))]) Try.func55 rfl rfl rfl rfl (fun fa hf => ?_)
  have hb : Below w.heap.size w w := Below.refl _ _
  refine wp_seq_k (fun K1 hK1 => ?_)
  refine wp_region_lit ?_
  refine sqv hf (r_assign rfl) rfl rfl rfl ?_; clear hf fa; intro fa hf
  refine sqv hf (r_assign rfl) rfl rfl rfl ?_; clear hf fa; intro fa hf
  apply wpList_nil
  (try simp only [Exit.then, Exit.inBlock, ↓reduceIte, Nat.reduceEqDiff])
  refine hK1 _ _ ?_
  refine wp_seq_k (fun K2 hK2 => ?_)
  refine wp_seq_k (fun K3 hK3 => ?_)
  refine wp_region_lit ?_
  refine sqv hf (r_move rfl) rfl rfl rfl ?_; clear hf fa; intro fa hf
  refine sqv hf (r_move rfl) rfl rfl rfl ?_; clear hf fa; intro fa hf
  refine sqdt hf (d_callX (vs := [(.slice a L.length c), (.int .u8 kd)]) rfl Try.func54 (by kernel_rfl) (by kernel_rfl) (of_any a L c kd _ (RdS.ext hl hb) hlc hlm)) rfl rfl rfl ?_; clear hf fa; rintro fa v w1 ⟨hr1, he1⟩ hf; obtain ⟨ra1, rc1, rfl, hcrc1, hmrc1⟩ := Row.slice hr1
  replace hr1 := Row.rebase hr1 hb.size
  replace hb := hb.trans (Below.mono he1 hb.size)
  refine sqv hf (r_lensl rfl Try.underlying79) rfl rfl rfl ?_; clear hf fa; intro fa hf
  refine sqv hf (r_move rfl) rfl rfl rfl ?_; clear hf fa; intro fa hf
  apply wpList_nil
  (try simp only [Exit.then, Exit.inBlock, ↓reduceIte, Nat.reduceEqDiff])
  refine hK3 _ _ ?_
  refine wp_block ?_
  refine wp_loop_k (fun mq fa wr => ∃ (k : Nat) (roa : Option Addr) (roc : Nat), mq = (ofL L kd).length - k ∧ Fr 33 fa [(2, (.string m)), (3, (.string nm)), (15, (.int .i64 (((ofL L kd).length : Nat) : Int))), (16, (.int .i64 ((k : Nat) : Int))), (14, (.slice roa (((ofL L kd)).length) roc))] ∧ Below w.heap.size w wr ∧ Row 9 vMImp 81 (w.heap.size) wr (.slice roa (((ofL L kd)).length) roc) (ofL L kd) ∧ (k ≤ (ofL L kd).length) ∧ (plP m nm (ofL L kd) = plR m nm ((ofL L kd).drop k) k)) ?_ ?_
  · skip
    exact ⟨_, 0, ra1, rc1, rfl, hf.sub ⟨rfl, rfl, (some_int (by first | rfl | omega)), (some_int (by first | rfl | omega)), rfl, trivial⟩, hb, (Row.relen hr1), by omega, rfl⟩
  · skip
    clear hf fa; intro mq1 fa w2 hI KL1 hKL1
    clear hb
    clear hr1
    obtain ⟨k, roa, roc, hmq1, hf, hb, hro, hk, Hs⟩ := hI
    have hcro := Row.caps hro
    refine wp_seq_k (fun K4 hK4 => ?_)
    refine wp_region_lit ?_
    refine sqv hf (r_lt rfl rfl) rfl rfl rfl ?_; clear hf fa; intro fa hf
    apply wpList_nil
    (try simp only [Exit.then, Exit.inBlock, ↓reduceIte, Nat.reduceEqDiff])
    refine hK4 _ _ ?_
    refine wp_seq_k (fun K5 hK5 => ?_)
    refine wp_cond_split (t := (decide (((k : Nat) : Int) < (((ofL L kd).length : Nat) : Int)))) (hf.ev rfl) (fun hqt17_1 => ?_) (fun hqt17_1 => ?_)
    · have hqt17_1b := hqt17_1
      try simp only [decide_eq_true_eq, Bool.and_eq_true, Bool.or_eq_true, Bool.not_eq_true', decide_eq_false_iff_not, ne_eq, Bool.not_eq_true] at hqt17_1
      refine wp_skip ?_
      (try simp only [Exit.then, Exit.inBlock, ↓reduceIte, Nat.reduceEqDiff])
      refine hK5 _ _ ?_
      refine wp_seq_k (fun K6 hK6 => ?_)
      refine wp_block ?_
      refine wp_seq_k (fun K7 hK7 => ?_)
      have hol2 := of_len2 L kd
      obtain ⟨y, hy⟩ : ∃ x, (ofL L kd)[k]? = some x := ⟨_, List.getElem?_eq_getElem (by omega)⟩
      refine wp_region_lit ?_
      refine sqv hf (r_move rfl) rfl rfl rfl ?_; clear hf fa; intro fa hf
      obtain ⟨rb1, rfl, hbbrb1, hlbrb1⟩ := Row.some hro (by first | omega | (simp only [Sl.list_length, List.length_set, List.length_take, List.length_append, List.length_replicate, List.length_cons, List.length_nil, List.length_map, nums_len]; omega))
      have hy1 : ((ofL L kd))[k]? = some y := hy
      have hel1 := RdS.at (Row.rd (by intros; rfl) hro) hy1
      obtain ⟨_, _, hab, hlr1, hel1⟩ := hel1
      cases hab
      refine sqv hf (r_ixa (sz := 9) (j := k) rfl rfl Try.underlying79 (by kernel_rfl) rfl (by omega) rfl) rfl rfl rfl ?_; clear hf fa; intro fa hf
      refine sqv hf (r_loadA (cs := [(.string y.1), (.string y.2.1), (.int .u8 y.2.2.1), (.int .u32 y.2.2.2.1), (.int .u32 y.2.2.2.2.1.1), (.int .u32 y.2.2.2.2.1.2.1), (.bool y.2.2.2.2.1.2.2.1), (.int .u8 y.2.2.2.2.2.1.1), (.bool y.2.2.2.2.2.1.2.1)]) rfl Try.underlying81 rfl (by kernel_rfl) hel1) rfl rfl rfl ?_; clear hf fa; intro fa hf
      refine sqdt hf (d_alloc (z := (.agg #[(.string ⟨#[]⟩), (.string ⟨#[]⟩), (.int .u8 (0 : Int)), (.int .u32 (0 : Int)), (.int .u32 (0 : Int)), (.int .u32 (0 : Int)), (.bool false), (.int .u8 (0 : Int)), (.bool false)])) (cs := #[(.string ⟨#[]⟩), (.string ⟨#[]⟩), (.int .u8 (0 : Int)), (.int .u32 (0 : Int)), (.int .u32 (0 : Int)), (.int .u32 (0 : Int)), (.bool false), (.int .u8 (0 : Int)), (.bool false)]) (by kernel_rfl) rfl) rfl rfl rfl ?_; clear hf fa; rintro fa _ w3 ⟨b1, rfl, hle1, hk1, he2⟩ hf
      have hBb1 : w.heap.size ≤ b1 := Nat.le_trans hb.size hle1
      have : rb1 < b1 := Nat.lt_of_lt_of_le (Row.lt hro _ rfl).2 hle1
      replace hro := Row.ext hro he2
      replace hb := hb.trans (Below.mono he2 hb.size)
      refine sqv hf (r_assign rfl) rfl rfl rfl ?_; clear hf fa; intro fa hf
      refine sqn hf (d_storeK (T := 81) (v := (.agg #[(.string y.1), (.string y.2.1), (.int .u8 y.2.2.1), (.int .u32 y.2.2.2.1), (.int .u32 y.2.2.2.2.1.1), (.int .u32 y.2.2.2.2.1.2.1), (.bool y.2.2.2.2.1.2.2.1), (.int .u8 y.2.2.2.2.2.1.1), (.bool y.2.2.2.2.2.1.2.1)])) (cs := #[(.string ⟨#[]⟩), (.string ⟨#[]⟩), (.int .u8 (0 : Int)), (.int .u32 (0 : Int)), (.int .u32 (0 : Int)), (.int .u32 (0 : Int)), (.bool false), (.int .u8 (0 : Int)), (.bool false)]) (cs' := #[(.string y.1), (.string y.2.1), (.int .u8 y.2.2.1), (.int .u32 y.2.2.2.1), (.int .u32 y.2.2.2.2.1.1), (.int .u32 y.2.2.2.2.1.2.1), (.bool y.2.2.2.2.1.2.2.1), (.int .u8 y.2.2.2.2.2.1.1), (.bool y.2.2.2.2.2.1.2.1)]) rfl rfl (by kernel_rfl) (by kernel_rfl) hk1 (by kernel_rfl) (by kernel_rfl)) rfl rfl ?_; clear hf fa; rintro fa _ w4 ⟨hk2, hg1⟩ hf
      replace hro := Row.grown hro hg1 (fun e => by have e : rb1 = b1 := Option.some.inj e; omega)
      replace hb := hb.trans (grown_below hg1 hb.size hBb1)
      apply wpList_nil
      (try simp only [Exit.then, Exit.inBlock, ↓reduceIte, Nat.reduceEqDiff])
      refine hK7 _ _ ?_
      refine wp_seq_k (fun K8 hK8 => ?_)
      refine wp_region_lit ?_
      refine sqv hf (r_fa rfl Try.underlying81 (f := 0) (q := 0) rfl (by kernel_rfl) rfl) rfl rfl rfl ?_; clear hf fa; intro fa hf
      refine sqv hf (r_load (v := (.string y.1)) rfl Try.underlying9 rfl (cell_blk hk2 rfl)) rfl rfl rfl ?_; clear hf fa; intro fa hf
      refine sqv hf (r_move rfl) rfl rfl rfl ?_; clear hf fa; intro fa hf
      refine sqv hf (r_seq rfl rfl) rfl rfl rfl ?_; clear hf fa; intro fa hf
      refine sqv hf (r_move rfl) rfl rfl rfl ?_; clear hf fa; intro fa hf
      refine sqgT (act := (decide (y.1 = m))) (ag := true) (c := (decide (y.1 = m))) (v := (.pointer (some ⟨b1, 1, none⟩))) hf rfl rfl rfl (fun hact => (r_fa rfl Try.underlying81 (f := 1) (q := 1) rfl (by kernel_rfl) rfl)) rfl rfl ?_; clear hf fa; intro fa hf
      refine sqgT (act := (decide (y.1 = m))) (ag := true) (c := (decide (y.1 = m))) (v := (.string y.2.1)) hf rfl rfl rfl (fun hact => (r_load (v := (.string y.2.1)) (gb_ev hact rfl) Try.underlying9 rfl (cell_blk hk2 rfl))) rfl rfl ?_; clear hf fa; intro fa hf
      refine sqgT (act := (decide (y.1 = m))) (ag := true) (c := (decide (y.1 = m))) (v := (.string nm)) hf rfl rfl rfl (fun hact => (r_move rfl)) rfl rfl ?_; clear hf fa; intro fa hf
      refine sqgT (act := (decide (y.1 = m))) (ag := true) (c := (decide (y.1 = m))) (v := (.bool (decide (y.2.1 = nm)))) hf rfl rfl rfl (fun hact => (r_seq (gb_ev hact rfl) (gb_ev hact rfl))) rfl rfl ?_; clear hf fa; intro fa hf
      refine sqv hf (r_pickA (b := (decide (y.1 = m))) (e := (decide (y.2.1 = nm))) rfl rfl rfl) rfl rfl rfl ?_; clear hf fa; intro fa hf
      apply wpList_nil
      (try simp only [Exit.then, Exit.inBlock, ↓reduceIte, Nat.reduceEqDiff])
      refine hK8 _ _ ?_
      refine wp_cond_split (t := ((decide (y.1 = m)) && (decide (y.2.1 = nm)))) (hf.ev rfl) (fun hqt30_1 => ?_) (fun hqt30_1 => ?_)
      · have hqt30_1b := hqt30_1
        try simp only [decide_eq_true_eq, Bool.and_eq_true, Bool.or_eq_true, Bool.not_eq_true', decide_eq_false_iff_not, ne_eq, Bool.not_eq_true] at hqt30_1
        refine wp_seq_k (fun K9 hK9 => ?_)
        refine wp_region_lit ?_
        refine sqv hf (r_move rfl) rfl rfl rfl ?_; clear hf fa; intro fa hf
        refine sqv hf (r_assign rfl) rfl rfl rfl ?_; clear hf fa; intro fa hf
        refine sqv hf (r_assign rfl) rfl rfl rfl ?_; clear hf fa; intro fa hf
        apply wpList_nil
        (try simp only [Exit.then, Exit.inBlock, ↓reduceIte, Nat.reduceEqDiff])
        refine hK9 _ _ ?_
        refine wp_ret ?_
        (try simp only [Exit.then, Exit.inBlock])
        refine ret2 hf rfl rfl rfl ?_
        refine ⟨congrArg (fun n : Nat × Bool => Ending.returned (.tuple #[.int .i64 ((n.1 : Nat) : Int), .bool n.2])) (show (k, true) = _ from ?_), hb⟩; rw [Hs, drop_at hy, plR, if_pos hqt30_1b]
      · have hqt30_1b := hqt30_1
        replace hqt30_1 := Bool.eq_false_iff.1 hqt30_1
        try simp only [ne_eq, decide_eq_true_eq, Bool.and_eq_true, Bool.or_eq_true, Bool.not_eq_true', decide_eq_false_iff_not] at hqt30_1
        refine wp_skip ?_
        (try simp only [Exit.then, Exit.inBlock, ↓reduceIte, Nat.reduceEqDiff])
        refine hK6 _ _ ?_
        refine wp_region_lit ?_
        refine sqv hf (r_add (C := (((k : Nat) : Int) + (1 : Int))) rfl rfl (by rw [IntKind.wrap_i64]; omega)) rfl rfl rfl ?_; clear hf fa; intro fa hf
        refine sqv hf (r_move rfl) rfl rfl rfl ?_; clear hf fa; intro fa hf
        apply wpList_nil
        (try simp only [Exit.then, Exit.inBlock, ↓reduceIte, Nat.reduceEqDiff])
        refine hKL1 _ _ _ (by omega) ⟨(k + 1), (some ⟨rb1, 0, none⟩), roc, rfl, hf.sub ⟨rfl, rfl, rfl, (some_int (by first | rfl | omega)), rfl, trivial⟩, hb, (Row.relen hro), by omega, (by have h := Hs; rw [drop_at hy, plR, if_neg (by have h := hqt30_1b; simpa using h)] at h; exact h)⟩
    · have hqt17_1b := hqt17_1
      replace hqt17_1 := Bool.eq_false_iff.1 hqt17_1
      try simp only [ne_eq, decide_eq_true_eq, Bool.and_eq_true, Bool.or_eq_true, Bool.not_eq_true', decide_eq_false_iff_not] at hqt17_1
      refine wp_exit ?_
      (try simp only [Exit.then, Exit.inBlock, ↓reduceIte, Nat.reduceEqDiff])
      refine hK2 _ _ ?_
      refine wp_seq_k (fun K10 hK10 => ?_)
      refine wp_region_lit ?_
      refine sqv hf (r_assign rfl) rfl rfl rfl ?_; clear hf fa; intro fa hf
      refine sqv hf (r_assign rfl) rfl rfl rfl ?_; clear hf fa; intro fa hf
      apply wpList_nil
      (try simp only [Exit.then, Exit.inBlock, ↓reduceIte, Nat.reduceEqDiff])
      refine hK10 _ _ ?_
      refine wp_ret ?_
      (try simp only [Exit.then, Exit.inBlock])
      refine ret2 hf rfl rfl rfl ?_
      refine ⟨congrArg (fun n : Nat × Bool => Ending.returned (.tuple #[.int .i64 ((n.1 : Nat) : Int), .bool n.2])) (show (0, false) = _ from ?_), hb⟩; rw [Hs, List.drop_eq_nil_of_le (by omega)]; rfl
end Go.Proofs.Ytcmdajkkdognfaa
