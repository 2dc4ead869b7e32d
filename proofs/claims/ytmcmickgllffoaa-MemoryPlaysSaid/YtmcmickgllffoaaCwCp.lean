/- What is proved here: conversions: bytes, numbers, signs. -/
import Derived.Test.YtmcmickgllffoaaCwBp
import Derived.Test.YtmcmickgllffoaaCvMp
namespace Go.Proofs.Ytmcmickgllffoaa
open Go.RowKit
set_option linter.unusedVariables false
set_option linter.unusedSimpArgs false
set_option maxHeartbeats 1000000 in
set_option maxRecDepth 100000 in
theorem bytes_any (v : Nat) (n : Int) (w : World) (hv : v < 18446744073709551616) : Calls Try.prog 53 #[(.int .u64 ((v : Nat) : Int)), (.int .i64 n)] w fun e w' => ∃ u, e = .returned u ∧ Row 1 (vInt .u8) 5 w.heap.size w' u (bytesN (capN n) v) ∧ Below w.heap.size w w' := by
  have hv0 : v = v / 256 ^ 0 := by simp
  have hb0 : (bytesN 0 v).length = 0 := rfl
  refine sx_enter (L := [(0, (.int .u64 ((v : Nat) : Int))), (1, (.int .i64 n))]) Try.func53 rfl rfl rfl rfl (fun fa hf => ?_)
  have hb : Below w.heap.size w w := Below.refl _ _
  refine wp_seq_k (fun K1 hK1 => ?_)
  refine wp_region_lit ?_
  refine sqv hf (r_assign rfl) rfl rfl rfl ?_; clear hf fa; intro fa hf
  apply wpList_nil
  (try simp only [Exit.then, Exit.inBlock, ↓reduceIte, Nat.reduceEqDiff])
  refine hK1 _ _ ?_
  refine wp_seq_k (fun K2 hK2 => ?_)
  refine wp_region_lit ?_
  refine sqv hf (r_assign rfl) rfl rfl rfl ?_; clear hf fa; intro fa hf
  apply wpList_nil
  (try simp only [Exit.then, Exit.inBlock, ↓reduceIte, Nat.reduceEqDiff])
  refine hK2 _ _ ?_
  refine wp_seq_k (fun K3 hK3 => ?_)
  refine wp_seq_k (fun K4 hK4 => ?_)
  refine wp_region_lit ?_
  refine sqv hf (r_move rfl) rfl rfl rfl ?_; clear hf fa; intro fa hf
  refine sqv hf (r_max rfl rfl) rfl rfl rfl ?_; clear hf fa; intro fa hf
  refine sqv hf (Runs.veq (v' := (.int .i64 (((capN n) : Nat) : Int))) (r_min rfl rfl) (congrArg (Value.int .i64) (capN_eq n))) rfl rfl rfl ?_; clear hf fa; intro fa hf
  refine sqv hf (r_move rfl) rfl rfl rfl ?_; clear hf fa; intro fa hf
  apply wpList_nil
  (try simp only [Exit.then, Exit.inBlock, ↓reduceIte, Nat.reduceEqDiff])
  refine hK4 _ _ ?_
  refine wp_block ?_
  refine wp_loop_k (fun mq fa wr => ∃ (k : Nat) (roa : Option Addr) (roc : Nat), mq = capN n - k ∧ Fr 20 fa [(0, (.int .u64 (((v / 256 ^ k) : Nat) : Int))), (8, (.int .i64 (((capN n) : Nat) : Int))), (9, (.int .i64 ((k : Nat) : Int))), (5, (.slice roa (((bytesN k v)).length) roc))] ∧ Below w.heap.size w wr ∧ Row 1 (vInt .u8) 5 (w.heap.size) wr (.slice roa (((bytesN k v)).length) roc) (bytesN k v) ∧ (k ≤ capN n)) ?_ ?_
  · skip
    exact ⟨_, 0, none, 0, rfl, hf.sub ⟨(some_int (by first | rfl | omega)), rfl, (some_int (by first | rfl | omega)), (some_sl (by first | omega | (simp only [List.length_append, List.length_cons, List.length_nil]; omega) | (simp <;> omega)) rfl), trivial⟩, hb, Row.nil, by omega⟩
  · skip
    clear hf fa; intro mq1 fa w1 hI KL1 hKL1
    clear hb
    obtain ⟨k, roa, roc, hmq1, hf, hb, hro, hk⟩ := hI
    have hcro := Row.caps hro
    have hkl := bytesN_len k v; have hc8 := capN_le n
    refine wp_seq_k (fun K5 hK5 => ?_)
    skip
    refine wp_region_lit ?_
    refine sqv hf (r_lt rfl rfl) rfl rfl rfl ?_; clear hf fa; intro fa hf
    apply wpList_nil
    (try simp only [Exit.then, Exit.inBlock, ↓reduceIte, Nat.reduceEqDiff])
    refine hK5 _ _ ?_
    refine wp_seq_k (fun K6 hK6 => ?_)
    refine wp_cond_split (t := (decide (((k : Nat) : Int) < (((capN n) : Nat) : Int)))) (hf.ev rfl) (fun hqt10_1 => ?_) (fun hqt10_1 => ?_)
    · have hqt10_1b := hqt10_1
      try simp only [decide_eq_true_eq, Bool.and_eq_true, Bool.or_eq_true, Bool.not_eq_true', decide_eq_false_iff_not, ne_eq, Bool.not_eq_true] at hqt10_1
      refine wp_skip ?_
      (try simp only [Exit.then, Exit.inBlock, ↓reduceIte, Nat.reduceEqDiff])
      refine hK6 _ _ ?_
      refine wp_seq_k (fun K7 hK7 => ?_)
      refine wp_block ?_
      refine wp_seq_k (fun K8 hK8 => ?_)
      refine wp_region_lit ?_
      refine sqv hf (r_move rfl) rfl rfl rfl ?_; clear hf fa; intro fa hf
      refine sqv hf (r_move rfl) rfl rfl rfl ?_; clear hf fa; intro fa hf
      refine sqv hf (r_conv (C := (((v / 256 ^ k % 256) : Nat) : Int)) rfl Try.underlying26 Try.underlying5 (wrap8 _)) rfl rfl rfl ?_; clear hf fa; intro fa hf
      refine sqdt hf (d_bslice (z := (.int .u8 (0 : Int))) (sz := 1) (vs := [(0, (.int .u8 (((v / 256 ^ k % 256) : Nat) : Int)))]) (cs := #[(.int .u8 (((v / 256 ^ k % 256) : Nat) : Int))]) rfl Try.underlying84 (by kernel_rfl) rfl (by kernel_rfl)) rfl rfl rfl ?_; clear hf fa; rintro fa _ w2 ⟨b1, rfl, hle1, hk1, he1⟩ hf
      have hBb1 : w.heap.size ≤ b1 := Nat.le_trans hb.size hle1
      have hnr1 : (Value.slice roa ((((bytesN k v)).length)) roc).ownBlock ≠ some b1 := fun hq => by have := (Row.lt hro _ hq).2; omega
      have hnl1 : ∀ q, (Value.slice roa ((((bytesN k v)).length)) roc).ownBlock = some q → q < b1 := fun q hq => Nat.lt_of_lt_of_le (Row.lt hro q hq).2 hle1
      replace hro := Row.ext hro he1
      replace hb := hb.trans (Below.mono he1 hb.size)
      have hs1 := Row.rd (by intros; rfl) (Row.of_new (k := 1) (V := (vInt .u8)) (l := [(((v / 256 ^ k % 256) : Nat) : Int)]) hk1 (Nat.le_refl _) rfl rfl (Nat.le_of_ble_eq_true rfl))
      refine sqdt hf (d_append (V := (vInt .u8)) (k := 1) (e := 5) (bytes := 1) (z := (.int .u8 (0 : Int))) (news := [(((v / 256 ^ k % 256) : Nat) : Int)]) (base := w.heap.size) (by intros; rfl) (by intro x u hu; simp only [vInt, List.mem_singleton] at hu; subst hu; rfl) rfl rfl Try.underlying84 (by kernel_rfl) rfl rfl rfl hro hs1 rfl (fun h => by cases h) (by first | omega | (simp only [List.length_cons, List.length_nil, List.length_append, nums_len]; omega)) (by have := hb.size; omega)) rfl rfl rfl ?_; clear hf fa; rintro fa v w3 ⟨hr1, hg1⟩ hf; obtain ⟨ra1, rc1, rfl, hcrc1, hmrc1⟩ := Row.slice hr1
      replace hb := hb.trans (row_below hro hg1 hb.size (by have := hb.size; omega))
      refine sqv hf (r_assign rfl) rfl rfl rfl ?_; clear hf fa; intro fa hf
      apply wpList_nil
      (try simp only [Exit.then, Exit.inBlock, ↓reduceIte, Nat.reduceEqDiff])
      refine hK8 _ _ ?_
      refine wp_region_lit ?_
      refine sqv hf (r_move rfl) rfl rfl rfl ?_; clear hf fa; intro fa hf
      refine sqv hf (r_shr (n := 8) (C := (((v / 256 ^ (k + 1)) : Nat) : Int)) rfl rfl rfl (shr8 v k)) rfl rfl rfl ?_; clear hf fa; intro fa hf
      refine sqv hf (r_assign rfl) rfl rfl rfl ?_; clear hf fa; intro fa hf
      apply wpList_nil
      (try simp only [Exit.then, Exit.inBlock, ↓reduceIte, Nat.reduceEqDiff])
      refine hK7 _ _ ?_
      refine wp_region_lit ?_
      refine sqv hf (r_add (C := (((k : Nat) : Int) + (1 : Int))) rfl rfl (by rw [IntKind.wrap_i64]; omega)) rfl rfl rfl ?_; clear hf fa; intro fa hf
      refine sqv hf (r_move rfl) rfl rfl rfl ?_; clear hf fa; intro fa hf
      apply wpList_nil
      (try simp only [Exit.then, Exit.inBlock, ↓reduceIte, Nat.reduceEqDiff])
      have hbl := congrArg List.length (bytesN_snoc k v)
      refine hKL1 _ _ _ (by omega) ⟨(k + 1), ra1, rc1, rfl, hf.sub ⟨rfl, rfl, (some_int (by first | rfl | omega)), (some_sl (by first | omega | (simp only [List.length_append, List.length_cons, List.length_nil]; omega) | (simp <;> omega)) rfl), trivial⟩, hb, (crowTo hr1 (bytesN_snoc k v).symm), by omega⟩
    · have hqt10_1b := hqt10_1
      replace hqt10_1 := Bool.eq_false_iff.1 hqt10_1
      try simp only [ne_eq, decide_eq_true_eq, Bool.and_eq_true, Bool.or_eq_true, Bool.not_eq_true', decide_eq_false_iff_not] at hqt10_1
      refine wp_exit ?_
      (try simp only [Exit.then, Exit.inBlock, ↓reduceIte, Nat.reduceEqDiff])
      refine hK3 _ _ ?_
      refine wp_seq_k (fun K9 hK9 => ?_)
      refine wp_region_lit ?_
      refine sqv hf (r_move rfl) rfl rfl rfl ?_; clear hf fa; intro fa hf
      refine sqv hf (r_assign rfl) rfl rfl rfl ?_; clear hf fa; intro fa hf
      apply wpList_nil
      (try simp only [Exit.then, Exit.inBlock, ↓reduceIte, Nat.reduceEqDiff])
      refine hK9 _ _ ?_
      refine wp_ret ?_
      (try simp only [Exit.then, Exit.inBlock])
      refine ret1 hf rfl rfl ?_
      have hkk : k = capN n := by omega
      exact ⟨_, rfl, by rw [← hkk]; exact hro, hb⟩

set_option maxHeartbeats 1000000 in
set_option maxRecDepth 100000 in
theorem number_any (a : Option Addr) (l : List Int) (c : Nat) (w : World) (hl : RdS 1 (vInt .u8) w a l) (hb6 : ∀ y ∈ l, 0 ≤ y ∧ y < 256) (hlc : l.length ≤ 9223372036854775807) : Calls Try.prog 48 #[(.slice a l.length c)] w fun e w' => e = .returned (.int .u64 ((numL (l.take 8) : Nat) : Int)) ∧ Below w.heap.size w w' := by
  have hn0 : numL ((l.take 8).drop (min l.length 8)) = 0 := by rw [List.drop_eq_nil_of_le (by rw [List.length_take]; omega)]; rfl
  refine sx_enter (L := [(0, (.slice a l.length c))]) Try.func48 rfl rfl rfl rfl (fun fa hf => ?_)
  have hb : Below w.heap.size w w := Below.refl _ _
  refine wp_seq_k (fun K1 hK1 => ?_)
  refine wp_region_lit ?_
  refine sqv hf (r_assign rfl) rfl rfl rfl ?_; clear hf fa; intro fa hf
  apply wpList_nil
  (try simp only [Exit.then, Exit.inBlock, ↓reduceIte, Nat.reduceEqDiff])
  refine hK1 _ _ ?_
  refine wp_seq_k (fun K2 hK2 => ?_)
  refine wp_region_lit ?_
  refine sqv hf (r_assign rfl) rfl rfl rfl ?_; clear hf fa; intro fa hf
  apply wpList_nil
  (try simp only [Exit.then, Exit.inBlock, ↓reduceIte, Nat.reduceEqDiff])
  refine hK2 _ _ ?_
  refine wp_seq_k (fun K3 hK3 => ?_)
  refine wp_seq_k (fun K4 hK4 => ?_)
  refine wp_region_lit ?_
  refine sqv hf (r_move rfl) rfl rfl rfl ?_; clear hf fa; intro fa hf
  refine sqv hf (r_lensl rfl Try.underlying84) rfl rfl rfl ?_; clear hf fa; intro fa hf
  refine sqv hf (r_min rfl rfl) rfl rfl rfl ?_; clear hf fa; intro fa hf
  refine sqv hf (Runs.veq (v' := (.int .i64 ((((min l.length 8) : Nat) : Int) - (1 : Int)))) (r_sub (C := ((if (8 : Int) < ((l.length : Nat) : Int) then (8 : Int) else ((l.length : Nat) : Int)) - (1 : Int))) rfl rfl (by rw [IntKind.wrap_i64]; omega)) (congrArg (Value.int .i64) (show (if (8 : Int) < ((l.length : Nat) : Int) then (8 : Int) else ((l.length : Nat) : Int)) - 1 = ((min l.length 8 : Nat) : Int) - 1 from by split <;> omega))) rfl rfl rfl ?_; clear hf fa; intro fa hf
  refine sqv hf (r_assign rfl) rfl rfl rfl ?_; clear hf fa; intro fa hf
  apply wpList_nil
  (try simp only [Exit.then, Exit.inBlock, ↓reduceIte, Nat.reduceEqDiff])
  refine hK4 _ _ ?_
  refine wp_block ?_
  refine wp_loop_k (fun mq fa wr => ∃ (r : Nat), mq = r ∧ Fr 22 fa [(0, (.slice a l.length c)), (3, (.int .u64 (((numL ((l.take 8).drop r)) : Nat) : Int))), (4, (.int .i64 (((r : Nat) : Int) - (1 : Int))))] ∧ Below w.heap.size w wr ∧ (r ≤ l.length) ∧ (r ≤ 8)) ?_ ?_
  · skip
    exact ⟨_, (min l.length 8), rfl, hf.sub ⟨rfl, (some_int (by first | rfl | omega)), rfl, trivial⟩, hb, by omega, by omega⟩
  · skip
    clear hf fa; intro mq1 fa w1 hI KL1 hKL1
    clear hb
    obtain ⟨r, hmq1, hf, hb, hr, hr8⟩ := hI
    refine wp_seq_k (fun K5 hK5 => ?_)
    refine wp_seq_k (fun K6 hK6 => ?_)
    skip
    refine wp_region_lit ?_
    refine sqv hf (r_move rfl) rfl rfl rfl ?_; clear hf fa; intro fa hf
    refine sqv hf (r_ge rfl rfl) rfl rfl rfl ?_; clear hf fa; intro fa hf
    apply wpList_nil
    (try simp only [Exit.then, Exit.inBlock, ↓reduceIte, Nat.reduceEqDiff])
    refine hK6 _ _ ?_
    refine wp_cond_split (t := (decide ((0 : Int) ≤ (((r : Nat) : Int) - (1 : Int))))) (hf.ev rfl) (fun hqt10_1 => ?_) (fun hqt10_1 => ?_)
    · have hqt10_1b := hqt10_1
      try simp only [decide_eq_true_eq, Bool.and_eq_true, Bool.or_eq_true, Bool.not_eq_true', decide_eq_false_iff_not, ne_eq, Bool.not_eq_true] at hqt10_1
      refine wp_skip ?_
      (try simp only [Exit.then, Exit.inBlock, ↓reduceIte, Nat.reduceEqDiff])
      refine hK5 _ _ ?_
      refine wp_seq_k (fun K7 hK7 => ?_)
      refine wp_block ?_
      have hr1 : 1 ≤ r := by omega
      obtain ⟨y, hy⟩ : ∃ x, l[r - 1]? = some x := ⟨_, List.getElem?_eq_getElem (by omega)⟩
      have hyb := hb6 y (List.mem_of_getElem? hy)
      have hnb := num_bound hb6 hr1
      refine wp_region_lit ?_
      refine sqv hf (r_move rfl) rfl rfl rfl ?_; clear hf fa; intro fa hf
      refine sqv hf (r_shl (n := 8) (C := ((((numL ((l.take 8).drop r)) * 256) : Nat) : Int)) rfl rfl rfl (shl8 hnb)) rfl rfl rfl ?_; clear hf fa; intro fa hf
      refine sqv hf (r_move rfl) rfl rfl rfl ?_; clear hf fa; intro fa hf
      refine sqv hf (r_move rfl) rfl rfl rfl ?_; clear hf fa; intro fa hf
      have hy1 : (l)[(r - 1)]? = some y := hy
      obtain ⟨ab1, aoff1, hat1, hlb1, hel1⟩ := RdS.at hl hy1
      refine sqv hf (r_ixa (sz := 1) (j := (r - 1)) (evAt rfl hat1) rfl Try.underlying84 (by kernel_rfl) (by omega) (by omega) rfl) rfl rfl rfl ?_; clear hf fa; intro fa hf
      refine sqv hf (r_load (v := (.int .u8 y)) rfl Try.underlying5 rfl (cellsAt_cell (cellsAt_below hel1 hb hlb1) (i := 0) rfl rfl)) rfl rfl rfl ?_; clear hf fa; intro fa hf
      refine sqv hf (r_conv (C := y) rfl Try.underlying5 Try.underlying26 (by rw [IntKind.wrap_u64]; omega)) rfl rfl rfl ?_; clear hf fa; intro fa hf
      refine sqv hf (r_or (C := (((numL ((l.take 8).drop (r - 1))) : Nat) : Int)) rfl rfl (by rw [num_step hr1 hr8 hy]; exact num_byte hnb hyb)) rfl rfl rfl ?_; clear hf fa; intro fa hf
      refine sqv hf (r_assign rfl) rfl rfl rfl ?_; clear hf fa; intro fa hf
      apply wpList_nil
      (try simp only [Exit.then, Exit.inBlock, ↓reduceIte, Nat.reduceEqDiff])
      refine hK7 _ _ ?_
      refine wp_region_lit ?_
      refine sqv hf (r_move rfl) rfl rfl rfl ?_; clear hf fa; intro fa hf
      refine sqv hf (r_sub (C := ((((r : Nat) : Int) - (1 : Int)) - (1 : Int))) rfl rfl (by rw [IntKind.wrap_i64]; omega)) rfl rfl rfl ?_; clear hf fa; intro fa hf
      refine sqv hf (r_assign rfl) rfl rfl rfl ?_; clear hf fa; intro fa hf
      apply wpList_nil
      (try simp only [Exit.then, Exit.inBlock, ↓reduceIte, Nat.reduceEqDiff])
      refine hKL1 _ _ _ (by omega) ⟨(r - 1), rfl, hf.sub ⟨rfl, rfl, (some_int (by first | rfl | omega)), trivial⟩, hb, by omega, by omega⟩
    · have hqt10_1b := hqt10_1
      replace hqt10_1 := Bool.eq_false_iff.1 hqt10_1
      try simp only [ne_eq, decide_eq_true_eq, Bool.and_eq_true, Bool.or_eq_true, Bool.not_eq_true', decide_eq_false_iff_not] at hqt10_1
      refine wp_exit ?_
      (try simp only [Exit.then, Exit.inBlock, ↓reduceIte, Nat.reduceEqDiff])
      refine hK3 _ _ ?_
      refine wp_seq_k (fun K8 hK8 => ?_)
      refine wp_region_lit ?_
      refine sqv hf (r_move rfl) rfl rfl rfl ?_; clear hf fa; intro fa hf
      refine sqv hf (r_assign rfl) rfl rfl rfl ?_; clear hf fa; intro fa hf
      apply wpList_nil
      (try simp only [Exit.then, Exit.inBlock, ↓reduceIte, Nat.reduceEqDiff])
      refine hK8 _ _ ?_
      refine wp_ret ?_
      (try simp only [Exit.then, Exit.inBlock])
      refine ret1 hf rfl rfl ?_
      have hr0 : r = 0 := by omega
      subst hr0
      exact ⟨rfl, hb⟩

set_option maxHeartbeats 1000000 in
set_option maxRecDepth 100000 in
theorem extend_any (v : Nat) (n : Int) (w : World) (hv : v < 18446744073709551616) : Calls Try.prog 54 #[(.int .u64 ((v : Nat) : Int)), (.int .i64 n)] w fun e w' => e = .returned (.int .u64 ((extP v n : Nat) : Int)) ∧ Below w.heap.size w w' := by
  refine sx_enter (L := [(0, (.int .u64 ((v : Nat) : Int))), (1, (.int .i64 n))]) Try.func54 rfl rfl rfl rfl (fun fa hf => ?_)
  have hb : Below w.heap.size w w := Below.refl _ _
  refine wp_seq_k (fun K1 hK1 => ?_)
  refine wp_region_lit ?_
  refine sqv hf (r_assign rfl) rfl rfl rfl ?_; clear hf fa; intro fa hf
  apply wpList_nil
  (try simp only [Exit.then, Exit.inBlock, ↓reduceIte, Nat.reduceEqDiff])
  refine hK1 _ _ ?_
  refine wp_seq_k (fun K2 hK2 => ?_)
  refine wp_seq_k (fun K3 hK3 => ?_)
  refine wp_region_lit ?_
  refine sqv hf (r_move rfl) rfl rfl rfl ?_; clear hf fa; intro fa hf
  refine sqv hf (r_lt rfl rfl) rfl rfl rfl ?_; clear hf fa; intro fa hf
  refine sqv hf (r_move rfl) rfl rfl rfl ?_; clear hf fa; intro fa hf
  refine sqgF (act := (!(decide (n < (1 : Int))))) (ag := true) (c := (decide (n < (1 : Int)))) (v := (.int .i64 n)) hf rfl rfl rfl (fun hact => (r_move rfl)) rfl rfl ?_; clear hf fa; intro fa hf
  refine sqgF (act := (!(decide (n < (1 : Int))))) (ag := true) (c := (decide (n < (1 : Int)))) (v := (.bool (decide ((8 : Int) < n)))) hf rfl rfl rfl (fun hact => (r_gt (gb_ev hact rfl) rfl)) rfl rfl ?_; clear hf fa; intro fa hf
  refine sqv hf (r_pickO (b := (decide (n < (1 : Int)))) (e := (decide ((8 : Int) < n))) rfl rfl rfl) rfl rfl rfl ?_; clear hf fa; intro fa hf
  apply wpList_nil
  (try simp only [Exit.then, Exit.inBlock, ↓reduceIte, Nat.reduceEqDiff])
  refine hK3 _ _ ?_
  refine wp_cond_split (t := ((decide (n < (1 : Int))) || (decide ((8 : Int) < n)))) (hf.ev rfl) (fun hqt11_1 => ?_) (fun hqt11_1 => ?_)
  · have hqt11_1b := hqt11_1
    try simp only [decide_eq_true_eq, Bool.and_eq_true, Bool.or_eq_true, Bool.not_eq_true', decide_eq_false_iff_not, ne_eq, Bool.not_eq_true] at hqt11_1
    refine wp_seq_k (fun K4 hK4 => ?_)
    refine wp_region_lit ?_
    refine sqv hf (r_move rfl) rfl rfl rfl ?_; clear hf fa; intro fa hf
    refine sqv hf (r_assign rfl) rfl rfl rfl ?_; clear hf fa; intro fa hf
    apply wpList_nil
    (try simp only [Exit.then, Exit.inBlock, ↓reduceIte, Nat.reduceEqDiff])
    refine hK4 _ _ ?_
    refine wp_ret ?_
    (try simp only [Exit.then, Exit.inBlock])
    refine ret1 hf rfl rfl ?_
    refine ⟨?_, hb⟩
    unfold extP; rw [if_pos (by have h := hqt11_1; omega)]
  · have hqt11_1b := hqt11_1
    replace hqt11_1 := Bool.eq_false_iff.1 hqt11_1
    try simp only [ne_eq, decide_eq_true_eq, Bool.and_eq_true, Bool.or_eq_true, Bool.not_eq_true', decide_eq_false_iff_not] at hqt11_1
    refine wp_skip ?_
    (try simp only [Exit.then, Exit.inBlock, ↓reduceIte, Nat.reduceEqDiff])
    refine hK2 _ _ ?_
    refine wp_seq_k (fun K5 hK5 => ?_)
    refine wp_region_lit ?_
    refine sqv hf (r_move rfl) rfl rfl rfl ?_; clear hf fa; intro fa hf
    refine sqv hf (r_mul (C := ((8 : Int) * n)) rfl rfl (by rw [IntKind.wrap_i64]; omega)) rfl rfl rfl ?_; clear hf fa; intro fa hf
    refine sqv hf (r_sub (C := ((64 : Int) - ((8 : Int) * n))) rfl rfl (by rw [IntKind.wrap_i64]; omega)) rfl rfl rfl ?_; clear hf fa; intro fa hf
    refine sqv hf (r_conv (C := ((64 : Int) - ((8 : Int) * n))) rfl Try.underlying3 Try.underlying98 (by rw [IntKind.wrap_u64]; omega)) rfl rfl rfl ?_; clear hf fa; intro fa hf
    refine sqv hf (r_assign rfl) rfl rfl rfl ?_; clear hf fa; intro fa hf
    apply wpList_nil
    (try simp only [Exit.then, Exit.inBlock, ↓reduceIte, Nat.reduceEqDiff])
    refine hK5 _ _ ?_
    refine wp_seq_k (fun K6 hK6 => ?_)
    refine wp_region_lit ?_
    refine sqv hf (r_move rfl) rfl rfl rfl ?_; clear hf fa; intro fa hf
    refine sqv hf (r_move rfl) rfl rfl rfl ?_; clear hf fa; intro fa hf
    refine sqv hf (r_shl (n := (64 - (8 * (n).toNat))) (C := (((v * 2 ^ (64 - 8 * n.toNat) % 18446744073709551616) : Nat) : Int)) rfl rfl (by omega) (wrap_shl (by omega))) rfl rfl rfl ?_; clear hf fa; intro fa hf
    refine sqv hf (r_conv (C := ((IntKind.i64.wrap (((v * 2 ^ (64 - 8 * n.toNat) % 18446744073709551616) : Nat) : Int)))) rfl Try.underlying26 Try.underlying2 rfl) rfl rfl rfl ?_; clear hf fa; intro fa hf
    refine sqv hf (r_move rfl) rfl rfl rfl ?_; clear hf fa; intro fa hf
    refine sqv hf (r_shr (n := (64 - (8 * (n).toNat))) (C := (((IntKind.i64.wrap (((v * 2 ^ (64 - 8 * n.toNat) % 18446744073709551616) : Nat) : Int)).fdiv (2 ^ (min (64 - 8 * n.toNat) IntKind.i64.bits))))) rfl rfl (by omega) rfl) rfl rfl rfl ?_; clear hf fa; intro fa hf
    refine sqv hf (r_conv (C := (((extN v n.toNat) : Nat) : Int)) rfl Try.underlying2 Try.underlying26 (ext_fin (by omega) hv)) rfl rfl rfl ?_; clear hf fa; intro fa hf
    refine sqv hf (r_assign rfl) rfl rfl rfl ?_; clear hf fa; intro fa hf
    apply wpList_nil
    (try simp only [Exit.then, Exit.inBlock, ↓reduceIte, Nat.reduceEqDiff])
    refine hK6 _ _ ?_
    refine wp_ret ?_
    (try simp only [Exit.then, Exit.inBlock])
    refine ret1 hf rfl rfl ?_
    refine ⟨?_, hb⟩
    unfold extP; rw [if_neg (by have h := hqt11_1; omega)]

set_option maxHeartbeats 1000000 in
set_option maxRecDepth 100000 in
theorem low_any (v : Nat) (b : Int) (w : World) (hv : v < 18446744073709551616) : Calls Try.prog 74 #[(.int .u64 ((v : Nat) : Int)), (.int .i64 b)] w fun e w' => e = .returned (.int .u64 ((v % 2 ^ lowB b : Nat) : Int)) ∧ Below w.heap.size w w' := by
  refine sx_enter (L := [(0, (.int .u64 ((v : Nat) : Int))), (1, (.int .i64 b))]) Try.func74 rfl rfl rfl rfl (fun fa hf => ?_)
  have hb : Below w.heap.size w w := Below.refl _ _
  refine wp_seq_k (fun K1 hK1 => ?_)
  refine wp_region_lit ?_
  refine sqv hf (r_assign rfl) rfl rfl rfl ?_; clear hf fa; intro fa hf
  apply wpList_nil
  (try simp only [Exit.then, Exit.inBlock, ↓reduceIte, Nat.reduceEqDiff])
  refine hK1 _ _ ?_
  refine wp_seq_k (fun K2 hK2 => ?_)
  refine wp_region_lit ?_
  refine sqv hf (r_assign rfl) rfl rfl rfl ?_; clear hf fa; intro fa hf
  refine sqv hf (r_assign rfl) rfl rfl rfl ?_; clear hf fa; intro fa hf
  apply wpList_nil
  (try simp only [Exit.then, Exit.inBlock, ↓reduceIte, Nat.reduceEqDiff])
  refine hK2 _ _ ?_
  refine wp_seq_k (fun K3 hK3 => ?_)
  refine wp_seq_k (fun K4 hK4 => ?_)
  refine wp_region_lit ?_
  refine sqv hf (r_assign rfl) rfl rfl rfl ?_; clear hf fa; intro fa hf
  apply wpList_nil
  (try simp only [Exit.then, Exit.inBlock, ↓reduceIte, Nat.reduceEqDiff])
  refine hK4 _ _ ?_
  refine wp_block ?_
  refine wp_loop_k (fun mq fa wr => ∃ (i : Nat) (x : Nat) (o : Nat) (k : Nat), mq = lowB b - i ∧ Fr 28 fa [(0, (.int .u64 ((x : Nat) : Int))), (1, (.int .i64 b)), (5, (.int .u64 ((o : Nat) : Int))), (6, (.int .u64 ((k : Nat) : Int))), (7, (.int .i64 ((i : Nat) : Int)))] ∧ Below w.heap.size w wr ∧ (i ≤ lowB b) ∧ (x = v / 2 ^ i) ∧ (o = v % 2 ^ i) ∧ (k = 2 ^ i % 18446744073709551616)) ?_ ?_
  · skip
    exact ⟨_, 0, v, 0, 1, rfl, hf.sub ⟨rfl, rfl, (some_int (by first | rfl | omega)), (some_int (by first | rfl | omega)), (some_int (by first | rfl | omega)), trivial⟩, hb, by omega, by simp, by simp [Nat.mod_one], by simp⟩
  · skip
    clear hf fa; intro mq1 fa w1 hI KL1 hKL1
    clear hb
    obtain ⟨i, x, o, k, hmq1, hf, hb, hi, hx, ho, hkk⟩ := hI
    have hlb := lowB_le b
    refine wp_seq_k (fun K5 hK5 => ?_)
    refine wp_seq_k (fun K6 hK6 => ?_)
    refine wp_region_lit ?_
    refine sqv hf (r_move rfl) rfl rfl rfl ?_; clear hf fa; intro fa hf
    refine sqv hf (r_move rfl) rfl rfl rfl ?_; clear hf fa; intro fa hf
    refine sqv hf (r_lt rfl rfl) rfl rfl rfl ?_; clear hf fa; intro fa hf
    refine sqv hf (r_move rfl) rfl rfl rfl ?_; clear hf fa; intro fa hf
    refine sqgT (act := (decide (((i : Nat) : Int) < b))) (ag := true) (c := (decide (((i : Nat) : Int) < b))) (v := (.int .i64 ((i : Nat) : Int))) hf rfl rfl rfl (fun hact => (r_move rfl)) rfl rfl ?_; clear hf fa; intro fa hf
    refine sqgT (act := (decide (((i : Nat) : Int) < b))) (ag := true) (c := (decide (((i : Nat) : Int) < b))) (v := (.bool (decide (((i : Nat) : Int) < (64 : Int))))) hf rfl rfl rfl (fun hact => (r_lt (gb_ev hact rfl) rfl)) rfl rfl ?_; clear hf fa; intro fa hf
    refine sqv hf (r_pickA (b := (decide (((i : Nat) : Int) < b))) (e := (decide (((i : Nat) : Int) < (64 : Int)))) rfl rfl rfl) rfl rfl rfl ?_; clear hf fa; intro fa hf
    apply wpList_nil
    (try simp only [Exit.then, Exit.inBlock, ↓reduceIte, Nat.reduceEqDiff])
    refine hK6 _ _ ?_
    refine wp_cond_split (t := ((decide (((i : Nat) : Int) < b)) && (decide (((i : Nat) : Int) < (64 : Int))))) (hf.ev rfl) (fun hqt14_1 => ?_) (fun hqt14_1 => ?_)
    · have hqt14_1b := hqt14_1
      try simp only [decide_eq_true_eq, Bool.and_eq_true, Bool.or_eq_true, Bool.not_eq_true', decide_eq_false_iff_not, ne_eq, Bool.not_eq_true] at hqt14_1
      refine wp_skip ?_
      (try simp only [Exit.then, Exit.inBlock, ↓reduceIte, Nat.reduceEqDiff])
      refine hK5 _ _ ?_
      refine wp_seq_k (fun K7 hK7 => ?_)
      refine wp_block ?_
      refine wp_seq_k (fun K8 hK8 => ?_)
      refine wp_seq_k (fun K9 hK9 => ?_)
      have hil : i < lowB b := lowB_lt.1 (by have h := hqt14_1; omega)
      obtain ⟨hs1, hs2, hs3, hk2, hok, hkb⟩ := low_step (v := v) (i := i) (x := x) (o := o) (k := k) (by omega) hx ho hkk
      have hxl : x < 18446744073709551616 := by rw [hx]; exact Nat.lt_of_le_of_lt (Nat.div_le_self _ _) hv
      refine wp_region_lit ?_
      refine sqv hf (r_move rfl) rfl rfl rfl ?_; clear hf fa; intro fa hf
      refine sqv hf (r_rem (C := (((x : Nat) : Int) % (2 : Int))) rfl rfl (by omega) (Int.tmod_eq_emod_of_nonneg (by omega))) rfl rfl rfl ?_; clear hf fa; intro fa hf
      refine sqv hf (r_eq rfl rfl) rfl rfl rfl ?_; clear hf fa; intro fa hf
      apply wpList_nil
      (try simp only [Exit.then, Exit.inBlock, ↓reduceIte, Nat.reduceEqDiff])
      refine hK9 _ _ ?_
      refine wp_cond_split (t := (decide ((((x : Nat) : Int) % (2 : Int)) = (1 : Int)))) (hf.ev rfl) (fun hqt19_1 => ?_) (fun hqt19_1 => ?_)
      · have hqt19_1b := hqt19_1
        try simp only [decide_eq_true_eq, Bool.and_eq_true, Bool.or_eq_true, Bool.not_eq_true', decide_eq_false_iff_not, ne_eq, Bool.not_eq_true] at hqt19_1
        refine wp_region_lit ?_
        refine sqv hf (r_move rfl) rfl rfl rfl ?_; clear hf fa; intro fa hf
        refine sqv hf (r_move rfl) rfl rfl rfl ?_; clear hf fa; intro fa hf
        refine sqv hf (r_add (C := (((o + k) : Nat) : Int)) rfl rfl (by rw [IntKind.wrap_u64]; omega)) rfl rfl rfl ?_; clear hf fa; intro fa hf
        refine sqv hf (r_assign rfl) rfl rfl rfl ?_; clear hf fa; intro fa hf
        apply wpList_nil
        (try simp only [Exit.then, Exit.inBlock, ↓reduceIte, Nat.reduceEqDiff])
        refine hK8 _ _ ?_
        refine wp_region_lit ?_
        refine sqv hf (r_move rfl) rfl rfl rfl ?_; clear hf fa; intro fa hf
        refine sqv hf (r_quo (C := (((x / 2) : Nat) : Int)) rfl rfl (by omega) (by rw [Int.tdiv_eq_ediv_of_nonneg (by omega), IntKind.wrap_u64]; omega)) rfl rfl rfl ?_; clear hf fa; intro fa hf
        refine sqv hf (r_move rfl) rfl rfl rfl ?_; clear hf fa; intro fa hf
        refine sqv hf (r_mul (C := (((k * 2 % 18446744073709551616) : Nat) : Int)) rfl rfl (by rw [IntKind.wrap_u64]; omega)) rfl rfl rfl ?_; clear hf fa; intro fa hf
        refine sqv hf (r_assign rfl) rfl rfl rfl ?_; clear hf fa; intro fa hf
        refine sqv hf (r_assign rfl) rfl rfl rfl ?_; clear hf fa; intro fa hf
        apply wpList_nil
        (try simp only [Exit.then, Exit.inBlock, ↓reduceIte, Nat.reduceEqDiff])
        refine hK7 _ _ ?_
        refine wp_region_lit ?_
        refine sqv hf (r_move rfl) rfl rfl rfl ?_; clear hf fa; intro fa hf
        refine sqv hf (r_add (C := (((i : Nat) : Int) + (1 : Int))) rfl rfl (by rw [IntKind.wrap_i64]; omega)) rfl rfl rfl ?_; clear hf fa; intro fa hf
        refine sqv hf (r_assign rfl) rfl rfl rfl ?_; clear hf fa; intro fa hf
        apply wpList_nil
        (try simp only [Exit.then, Exit.inBlock, ↓reduceIte, Nat.reduceEqDiff])
        refine hKL1 _ _ _ (by omega) ⟨(i + 1), (x / 2), ((o + k)), (k * 2 % 18446744073709551616), rfl, hf.sub ⟨rfl, rfl, (some_int (by first | rfl | omega)), rfl, (some_int (by first | rfl | omega)), trivial⟩, hb, (by have := lowB_lt (b := b) (i := i); omega), hs1, (by have h := hs2; rw [if_pos (by have h := hqt19_1; omega)] at h; exact h), hs3⟩
      · have hqt19_1b := hqt19_1
        replace hqt19_1 := Bool.eq_false_iff.1 hqt19_1
        try simp only [ne_eq, decide_eq_true_eq, Bool.and_eq_true, Bool.or_eq_true, Bool.not_eq_true', decide_eq_false_iff_not] at hqt19_1
        refine wp_skip ?_
        (try simp only [Exit.then, Exit.inBlock, ↓reduceIte, Nat.reduceEqDiff])
        refine hK8 _ _ ?_
        refine wp_region_lit ?_
        refine sqv hf (r_move rfl) rfl rfl rfl ?_; clear hf fa; intro fa hf
        refine sqv hf (r_quo (C := (((x / 2) : Nat) : Int)) rfl rfl (by omega) (by rw [Int.tdiv_eq_ediv_of_nonneg (by omega), IntKind.wrap_u64]; omega)) rfl rfl rfl ?_; clear hf fa; intro fa hf
        refine sqv hf (r_move rfl) rfl rfl rfl ?_; clear hf fa; intro fa hf
        refine sqv hf (r_mul (C := (((k * 2 % 18446744073709551616) : Nat) : Int)) rfl rfl (by rw [IntKind.wrap_u64]; omega)) rfl rfl rfl ?_; clear hf fa; intro fa hf
        refine sqv hf (r_assign rfl) rfl rfl rfl ?_; clear hf fa; intro fa hf
        refine sqv hf (r_assign rfl) rfl rfl rfl ?_; clear hf fa; intro fa hf
        apply wpList_nil
        (try simp only [Exit.then, Exit.inBlock, ↓reduceIte, Nat.reduceEqDiff])
        refine hK7 _ _ ?_
        refine wp_region_lit ?_
        refine sqv hf (r_move rfl) rfl rfl rfl ?_; clear hf fa; intro fa hf
        refine sqv hf (r_add (C := (((i : Nat) : Int) + (1 : Int))) rfl rfl (by rw [IntKind.wrap_i64]; omega)) rfl rfl rfl ?_; clear hf fa; intro fa hf
        refine sqv hf (r_assign rfl) rfl rfl rfl ?_; clear hf fa; intro fa hf
        apply wpList_nil
        (try simp only [Exit.then, Exit.inBlock, ↓reduceIte, Nat.reduceEqDiff])
        refine hKL1 _ _ _ (by omega) ⟨(i + 1), (x / 2), o, (k * 2 % 18446744073709551616), rfl, hf.sub ⟨rfl, rfl, rfl, rfl, (some_int (by first | rfl | omega)), trivial⟩, hb, (by have := lowB_lt (b := b) (i := i); omega), hs1, (by have h := hs2; rw [if_neg (by have h := hqt19_1; omega)] at h; exact h), hs3⟩
    · have hqt14_1b := hqt14_1
      replace hqt14_1 := Bool.eq_false_iff.1 hqt14_1
      try simp only [ne_eq, decide_eq_true_eq, Bool.and_eq_true, Bool.or_eq_true, Bool.not_eq_true', decide_eq_false_iff_not] at hqt14_1
      refine wp_exit ?_
      (try simp only [Exit.then, Exit.inBlock, ↓reduceIte, Nat.reduceEqDiff])
      refine hK3 _ _ ?_
      refine wp_seq_k (fun K10 hK10 => ?_)
      refine wp_region_lit ?_
      refine sqv hf (r_move rfl) rfl rfl rfl ?_; clear hf fa; intro fa hf
      refine sqv hf (r_assign rfl) rfl rfl rfl ?_; clear hf fa; intro fa hf
      apply wpList_nil
      (try simp only [Exit.then, Exit.inBlock, ↓reduceIte, Nat.reduceEqDiff])
      refine hK10 _ _ ?_
      refine wp_ret ?_
      (try simp only [Exit.then, Exit.inBlock])
      refine ret1 hf rfl rfl ?_
      have hie : i = lowB b := by have h := hqt14_1; have := lowB_lt (b := b) (i := i); omega
      rw [ho, hie]; exact ⟨rfl, hb⟩

theorem lowB_8 {n : Int} (h : 1 ≤ n) (h8 : n ≤ 8) : lowB ((8 : Int) * n) = 8 * n.toNat := by unfold lowB; (repeat' split) <;> omega
theorem lowB_7 {n : Int} (h : 1 ≤ n) (h8 : n ≤ 8) : lowB (((8 : Int) * n) - (1 : Int)) = 8 * n.toNat - 1 := by unfold lowB; (repeat' split) <;> omega
theorem low8_any (v : Nat) (n : Int) (w : World) (hv : v < 18446744073709551616) (h : 1 ≤ n) (h8 : n ≤ 8) : Calls Try.prog 74 #[(.int .u64 ((v : Nat) : Int)), (.int .i64 ((8 : Int) * n))] w fun e w' => e = .returned (.int .u64 ((v % 2 ^ (8 * n.toNat) : Nat) : Int)) ∧ Below w.heap.size w w' := by
  have hh := low_any v ((8 : Int) * n) w hv
  rw [lowB_8 h h8] at hh
  exact hh
theorem low7_any (v : Nat) (n : Int) (w : World) (hv : v < 18446744073709551616) (h : 1 ≤ n) (h8 : n ≤ 8) : Calls Try.prog 74 #[(.int .u64 ((v : Nat) : Int)), (.int .i64 (((8 : Int) * n) - (1 : Int)))] w fun e w' => e = .returned (.int .u64 ((v % 2 ^ (8 * n.toNat - 1) : Nat) : Int)) ∧ Below w.heap.size w w' := by
  have hh := low_any v (((8 : Int) * n) - (1 : Int)) w hv
  rw [lowB_7 h h8] at hh
  exact hh

set_option maxHeartbeats 1000000 in
set_option maxRecDepth 100000 in
theorem rextend_any (v : Nat) (n : Int) (w : World) (hv : v < 18446744073709551616) : Calls Try.prog 55 #[(.int .u64 ((v : Nat) : Int)), (.int .i64 n)] w fun e w' => e = .returned (.int .u64 ((extP v n : Nat) : Int)) ∧ Below w.heap.size w w' := by
  refine sx_enter (L := [(0, (.int .u64 ((v : Nat) : Int))), (1, (.int .i64 n))]) Try.func55 rfl rfl rfl rfl (fun fa hf => ?_)
  have hb : Below w.heap.size w w := Below.refl _ _
  refine wp_seq_k (fun K1 hK1 => ?_)
  refine wp_region_lit ?_
  refine sqv hf (r_assign rfl) rfl rfl rfl ?_; clear hf fa; intro fa hf
  apply wpList_nil
  (try simp only [Exit.then, Exit.inBlock, ↓reduceIte, Nat.reduceEqDiff])
  refine hK1 _ _ ?_
  refine wp_seq_k (fun K2 hK2 => ?_)
  refine wp_seq_k (fun K3 hK3 => ?_)
  refine wp_region_lit ?_
  refine sqv hf (r_move rfl) rfl rfl rfl ?_; clear hf fa; intro fa hf
  refine sqv hf (r_lt rfl rfl) rfl rfl rfl ?_; clear hf fa; intro fa hf
  refine sqv hf (r_move rfl) rfl rfl rfl ?_; clear hf fa; intro fa hf
  refine sqgF (act := (!(decide (n < (1 : Int))))) (ag := true) (c := (decide (n < (1 : Int)))) (v := (.int .i64 n)) hf rfl rfl rfl (fun hact => (r_move rfl)) rfl rfl ?_; clear hf fa; intro fa hf
  refine sqgF (act := (!(decide (n < (1 : Int))))) (ag := true) (c := (decide (n < (1 : Int)))) (v := (.bool (decide ((8 : Int) < n)))) hf rfl rfl rfl (fun hact => (r_gt (gb_ev hact rfl) rfl)) rfl rfl ?_; clear hf fa; intro fa hf
  refine sqv hf (r_pickO (b := (decide (n < (1 : Int)))) (e := (decide ((8 : Int) < n))) rfl rfl rfl) rfl rfl rfl ?_; clear hf fa; intro fa hf
  apply wpList_nil
  (try simp only [Exit.then, Exit.inBlock, ↓reduceIte, Nat.reduceEqDiff])
  refine hK3 _ _ ?_
  refine wp_cond_split (t := ((decide (n < (1 : Int))) || (decide ((8 : Int) < n)))) (hf.ev rfl) (fun hqt12_1 => ?_) (fun hqt12_1 => ?_)
  · have hqt12_1b := hqt12_1
    try simp only [decide_eq_true_eq, Bool.and_eq_true, Bool.or_eq_true, Bool.not_eq_true', decide_eq_false_iff_not, ne_eq, Bool.not_eq_true] at hqt12_1
    refine wp_seq_k (fun K4 hK4 => ?_)
    refine wp_region_lit ?_
    refine sqv hf (r_move rfl) rfl rfl rfl ?_; clear hf fa; intro fa hf
    refine sqv hf (r_assign rfl) rfl rfl rfl ?_; clear hf fa; intro fa hf
    apply wpList_nil
    (try simp only [Exit.then, Exit.inBlock, ↓reduceIte, Nat.reduceEqDiff])
    refine hK4 _ _ ?_
    refine wp_ret ?_
    (try simp only [Exit.then, Exit.inBlock])
    refine ret1 hf rfl rfl ?_
    refine ⟨?_, hb⟩
    unfold extP; rw [if_pos (by have h := hqt12_1; omega)]
  · have hqt12_1b := hqt12_1
    replace hqt12_1 := Bool.eq_false_iff.1 hqt12_1
    try simp only [ne_eq, decide_eq_true_eq, Bool.and_eq_true, Bool.or_eq_true, Bool.not_eq_true', decide_eq_false_iff_not] at hqt12_1
    refine wp_skip ?_
    (try simp only [Exit.then, Exit.inBlock, ↓reduceIte, Nat.reduceEqDiff])
    refine hK2 _ _ ?_
    refine wp_seq_k (fun K5 hK5 => ?_)
    refine wp_region_lit ?_
    refine sqv hf (r_move rfl) rfl rfl rfl ?_; clear hf fa; intro fa hf
    refine sqv hf (r_move rfl) rfl rfl rfl ?_; clear hf fa; intro fa hf
    refine sqv hf (r_mul (C := ((8 : Int) * n)) rfl rfl (by rw [IntKind.wrap_i64]; omega)) rfl rfl rfl ?_; clear hf fa; intro fa hf
    refine sqdt hf (d_callB (vs := [(.int .u64 ((v : Nat) : Int)), (.int .i64 ((8 : Int) * n))]) rfl Try.func74 (by kernel_rfl) (by kernel_rfl) (low8_any v n _ (by omega) (by omega) (by omega))) rfl rfl rfl ?_; clear hf fa; rintro fa _ w1 ⟨rfl, he1⟩ hf
    replace hb := hb.trans (Below.mono he1 hb.size)
    refine sqv hf (r_assign rfl) rfl rfl rfl ?_; clear hf fa; intro fa hf
    apply wpList_nil
    (try simp only [Exit.then, Exit.inBlock, ↓reduceIte, Nat.reduceEqDiff])
    refine hK5 _ _ ?_
    refine wp_seq_k (fun K6 hK6 => ?_)
    refine wp_seq_k (fun K7 hK7 => ?_)
    refine wp_region_lit ?_
    refine sqv hf (r_move rfl) rfl rfl rfl ?_; clear hf fa; intro fa hf
    refine sqv hf (r_move rfl) rfl rfl rfl ?_; clear hf fa; intro fa hf
    refine sqv hf (r_mul (C := ((8 : Int) * n)) rfl rfl (by rw [IntKind.wrap_i64]; omega)) rfl rfl rfl ?_; clear hf fa; intro fa hf
    refine sqdt hf (d_callB (vs := [(.int .u64 ((v : Nat) : Int)), (.int .i64 ((8 : Int) * n))]) rfl Try.func74 (by kernel_rfl) (by kernel_rfl) (low8_any v n _ (by omega) (by omega) (by omega))) rfl rfl rfl ?_; clear hf fa; rintro fa _ w2 ⟨rfl, he2⟩ hf
    replace hb := hb.trans (Below.mono he2 hb.size)
    refine sqv hf (r_move rfl) rfl rfl rfl ?_; clear hf fa; intro fa hf
    refine sqv hf (r_move rfl) rfl rfl rfl ?_; clear hf fa; intro fa hf
    refine sqv hf (r_mul (C := ((8 : Int) * n)) rfl rfl (by rw [IntKind.wrap_i64]; omega)) rfl rfl rfl ?_; clear hf fa; intro fa hf
    refine sqv hf (r_sub (C := (((8 : Int) * n) - (1 : Int))) rfl rfl (by rw [IntKind.wrap_i64]; omega)) rfl rfl rfl ?_; clear hf fa; intro fa hf
    refine sqdt hf (d_callB (vs := [(.int .u64 ((v : Nat) : Int)), (.int .i64 (((8 : Int) * n) - (1 : Int)))]) rfl Try.func74 (by kernel_rfl) (by kernel_rfl) (low7_any v n _ (by omega) (by omega) (by omega))) rfl rfl rfl ?_; clear hf fa; rintro fa _ w3 ⟨rfl, he3⟩ hf
    replace hb := hb.trans (Below.mono he3 hb.size)
    refine sqv hf (r_eq rfl rfl) rfl rfl rfl ?_; clear hf fa; intro fa hf
    apply wpList_nil
    (try simp only [Exit.then, Exit.inBlock, ↓reduceIte, Nat.reduceEqDiff])
    refine hK7 _ _ ?_
    refine wp_cond_split (t := (decide ((((v % 2 ^ (8 * n.toNat)) : Nat) : Int) = (((v % 2 ^ (8 * n.toNat - 1)) : Nat) : Int)))) (hf.ev rfl) (fun hqt27_1 => ?_) (fun hqt27_1 => ?_)
    · have hqt27_1b := hqt27_1
      try simp only [decide_eq_true_eq, Bool.and_eq_true, Bool.or_eq_true, Bool.not_eq_true', decide_eq_false_iff_not, ne_eq, Bool.not_eq_true] at hqt27_1
      refine wp_seq_k (fun K8 hK8 => ?_)
      refine wp_region_lit ?_
      refine sqv hf (r_move rfl) rfl rfl rfl ?_; clear hf fa; intro fa hf
      refine sqv hf (r_assign rfl) rfl rfl rfl ?_; clear hf fa; intro fa hf
      apply wpList_nil
      (try simp only [Exit.then, Exit.inBlock, ↓reduceIte, Nat.reduceEqDiff])
      refine hK8 _ _ ?_
      refine wp_ret ?_
      (try simp only [Exit.then, Exit.inBlock])
      refine ret1 hf rfl rfl ?_
      refine ⟨?_, hb⟩
      unfold extP extN; rw [if_neg (by have h := hqt12_1; omega), if_pos ((ext_cond (by omega)).1 (by have h := hqt27_1; omega))]
    · have hqt27_1b := hqt27_1
      replace hqt27_1 := Bool.eq_false_iff.1 hqt27_1
      try simp only [ne_eq, decide_eq_true_eq, Bool.and_eq_true, Bool.or_eq_true, Bool.not_eq_true', decide_eq_false_iff_not] at hqt27_1
      refine wp_skip ?_
      (try simp only [Exit.then, Exit.inBlock, ↓reduceIte, Nat.reduceEqDiff])
      refine hK6 _ _ ?_
      refine wp_seq_k (fun K9 hK9 => ?_)
      refine wp_seq_k (fun K10 hK10 => ?_)
      refine wp_region_lit ?_
      refine sqv hf (r_move rfl) rfl rfl rfl ?_; clear hf fa; intro fa hf
      refine sqv hf (r_mul (C := ((8 : Int) * n)) rfl rfl (by rw [IntKind.wrap_i64]; omega)) rfl rfl rfl ?_; clear hf fa; intro fa hf
      refine sqv hf (r_assign rfl) rfl rfl rfl ?_; clear hf fa; intro fa hf
      apply wpList_nil
      (try simp only [Exit.then, Exit.inBlock, ↓reduceIte, Nat.reduceEqDiff])
      refine hK10 _ _ ?_
      refine wp_block ?_
      refine wp_loop_k (fun mq fa wr => ∃ (i : Nat) (s : Nat) (p : Nat), mq = 64 - i ∧ Fr 41 fa [(5, (.int .u64 ((s : Nat) : Int))), (6, (.int .i64 ((i : Nat) : Int)))] ∧ Below w.heap.size w wr ∧ (8 * n.toNat ≤ i) ∧ (i ≤ 64) ∧ (p = 2 ^ i) ∧ (s + 2 ^ (8 * n.toNat) = (v % 2 ^ (8 * n.toNat)) + p)) ?_ ?_
      · skip
        exact ⟨_, (8 * n.toNat), (v % 2 ^ (8 * n.toNat)), (2 ^ (8 * n.toNat)), rfl, hf.sub ⟨rfl, (some_int (by first | rfl | omega)), trivial⟩, hb, by omega, by omega, rfl, rfl⟩
      · skip
        clear hf fa; intro mq1 fa w4 hI KL1 hKL1
        clear hb
        obtain ⟨i, s, p, hmq1, hf, hb, hi, hi2, hp, hs⟩ := hI
        refine wp_seq_k (fun K11 hK11 => ?_)
        refine wp_seq_k (fun K12 hK12 => ?_)
        skip
        refine wp_region_lit ?_
        refine sqv hf (r_move rfl) rfl rfl rfl ?_; clear hf fa; intro fa hf
        refine sqv hf (r_lt rfl rfl) rfl rfl rfl ?_; clear hf fa; intro fa hf
        apply wpList_nil
        (try simp only [Exit.then, Exit.inBlock, ↓reduceIte, Nat.reduceEqDiff])
        refine hK12 _ _ ?_
        refine wp_cond_split (t := (decide (((i : Nat) : Int) < (64 : Int)))) (hf.ev rfl) (fun hqt32_1 => ?_) (fun hqt32_1 => ?_)
        · have hqt32_1b := hqt32_1
          try simp only [decide_eq_true_eq, Bool.and_eq_true, Bool.or_eq_true, Bool.not_eq_true', decide_eq_false_iff_not, ne_eq, Bool.not_eq_true] at hqt32_1
          refine wp_skip ?_
          (try simp only [Exit.then, Exit.inBlock, ↓reduceIte, Nat.reduceEqDiff])
          refine hK11 _ _ ?_
          refine wp_seq_k (fun K13 hK13 => ?_)
          refine wp_block ?_
          have hq63 := pow63 (i := i) (by omega)
          have hx8 := Nat.mod_lt v (Nat.two_pow_pos (8 * n.toNat))
          have hpi : p = 2 ^ i := hp
          refine wp_region_lit ?_
          refine sqv hf (r_move rfl) rfl rfl rfl ?_; clear hf fa; intro fa hf
          refine sqv hf (r_move rfl) rfl rfl rfl ?_; clear hf fa; intro fa hf
          refine sqv hf (r_conv (C := ((i : Nat) : Int)) rfl Try.underlying3 Try.underlying98 (by rw [IntKind.wrap_u64]; omega)) rfl rfl rfl ?_; clear hf fa; intro fa hf
          refine sqv hf (r_shl (n := i) (C := (((2 ^ i) : Nat) : Int)) rfl rfl rfl (shl1 (by omega))) rfl rfl rfl ?_; clear hf fa; intro fa hf
          refine sqv hf (r_add (C := (((s + 2 ^ i) : Nat) : Int)) rfl rfl (by rw [IntKind.wrap_u64, ← hpi] ; omega)) rfl rfl rfl ?_; clear hf fa; intro fa hf
          refine sqv hf (r_assign rfl) rfl rfl rfl ?_; clear hf fa; intro fa hf
          apply wpList_nil
          (try simp only [Exit.then, Exit.inBlock, ↓reduceIte, Nat.reduceEqDiff])
          refine hK13 _ _ ?_
          refine wp_region_lit ?_
          refine sqv hf (r_move rfl) rfl rfl rfl ?_; clear hf fa; intro fa hf
          refine sqv hf (r_add (C := (((i : Nat) : Int) + (1 : Int))) rfl rfl (by rw [IntKind.wrap_i64]; omega)) rfl rfl rfl ?_; clear hf fa; intro fa hf
          refine sqv hf (r_assign rfl) rfl rfl rfl ?_; clear hf fa; intro fa hf
          apply wpList_nil
          (try simp only [Exit.then, Exit.inBlock, ↓reduceIte, Nat.reduceEqDiff])
          refine hKL1 _ _ _ (by omega) ⟨(i + 1), (s + 2 ^ i), (p * 2), rfl, hf.sub ⟨rfl, (some_int (by first | rfl | omega)), trivial⟩, hb, by omega, by omega, (by rw [hp, Nat.pow_succ]), (by rw [← hp]; omega)⟩
        · have hqt32_1b := hqt32_1
          replace hqt32_1 := Bool.eq_false_iff.1 hqt32_1
          try simp only [ne_eq, decide_eq_true_eq, Bool.and_eq_true, Bool.or_eq_true, Bool.not_eq_true', decide_eq_false_iff_not] at hqt32_1
          refine wp_exit ?_
          (try simp only [Exit.then, Exit.inBlock, ↓reduceIte, Nat.reduceEqDiff])
          refine hK9 _ _ ?_
          refine wp_seq_k (fun K14 hK14 => ?_)
          refine wp_region_lit ?_
          refine sqv hf (r_move rfl) rfl rfl rfl ?_; clear hf fa; intro fa hf
          refine sqv hf (r_assign rfl) rfl rfl rfl ?_; clear hf fa; intro fa hf
          apply wpList_nil
          (try simp only [Exit.then, Exit.inBlock, ↓reduceIte, Nat.reduceEqDiff])
          refine hK14 _ _ ?_
          refine wp_ret ?_
          (try simp only [Exit.then, Exit.inBlock])
          refine ret1 hf rfl rfl ?_
          refine ⟨?_, hb⟩
          have hie : i = 64 := by omega
          have hp2 : p = 18446744073709551616 := by rw [hp, hie]
          unfold extP extN; rw [if_neg (by have h := hqt12_1; omega), if_neg (fun h2 => by have h := hqt27_1; have := (ext_cond (v := v) (n := n.toNat) (by omega)).2 h2; omega)]
          rw [show s = (v % 2 ^ (8 * n.toNat)) + (18446744073709551616 - 2 ^ (8 * n.toNat)) by have := pow64 (i := 8 * n.toNat) (by omega); omega]
end Go.Proofs.Ytmcmickgllffoaa
