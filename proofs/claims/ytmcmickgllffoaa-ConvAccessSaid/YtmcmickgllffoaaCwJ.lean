/- What is proved here: ConvAccess, walked. -/
import Derived.Test.YtmcmickgllffoaaCwI
namespace Go.Proofs.Ytmcmickgllffoaa
open Go.RowKit
set_option linter.unusedVariables false
set_option linter.unusedSimpArgs false
theorem r_rdstr {P : Program} {L : List (Nat × Value)} {w : World} {d : Option Tmp} {ty : TypeId} {ps : String} {af : Array Edge} {g : Option (Nat × Bool)} {src dst e c : Nat} {x : Operand} {a : Option Addr} {l : List Int}
    (hx : evO L x = some (.slice a l.length c)) (hs : P.underlying src = some (.slice e)) (he : P.underlying e = some (.int .u8)) (hd : P.underlying dst = some .string) (hr : RdS 1 (vInt .u8) w a l) :
    Runs P L ⟨d, .convert src dst x, ty, ps, af, g⟩ w (.string (strOfNums l)) w := by
  have key : (convert src dst (.slice a l.length c)).run P w = .ok (.string (strOfNums l)) w := by
    cases l with
    | nil =>
      cases a with
      | none => exact run_convert_bytes_nil w src e hs he _ c dst hd
      | some p =>
        have hl : (loadCells p 0).run P w = .ok (([] : List Int).map (Value.int .u8)).toArray w := run_loadCells_list (P := P) w p [] (by simp)
        rw [run_convert_bytes_string w src dst e _ _ c hs he hd]
        exact run_bytesToString w p 0 c [] hl
    | cons y l =>
      obtain ⟨b, off, ha, hlt, hc⟩ := hr 0 y rfl
      subst ha
      refine run_convert_bytes_arg w src e hs he b off _ c (y :: l) rfl (fun i hi => ?_) dst hd
      obtain ⟨b2, off2, ha2, _, hc2⟩ := hr i _ (List.getElem?_eq_getElem hi)
      cases ha2
      have h0 := hc2 0 _ rfl
      rw [Nat.mul_one, Nat.add_zero] at h0
      rw [h0, List.getD_eq_getElem?_getD, List.getElem?_eq_getElem hi]
      rfl
  intro ρ hρ
  simp only [execOp, hρ x _ hx]
  simp [key]
theorem writeT_snd (op v : Nat) : (writeT op v).2 = ((accT op).2.2.2.2 && (accT op).2.2.1) := by
  unfold writeT
  cases (accT op).2.2.2.2 <;> cases (accT op).2.2.1 <;> rfl
theorem writeT_no {op v : Nat} (h : (writeT op v).2 = false) : (writeT op v).1 = [] := by
  unfold writeT at h ⊢
  split
  · rename_i h2; rw [if_pos h2] at h; cases h
  · rfl
theorem writeT_yes {op v : Nat} (h : (writeT op v).2 = true) : (writeT op v).1 = bytesN (capN (accT op).1) v := by
  unfold writeT at h ⊢
  split
  · rfl
  · rename_i h2; rw [if_neg h2] at h; cases h

theorem rread_l (op : Nat) (l : List Int) (w : World) (hop : op < 256) (hb6 : ∀ y ∈ l, 0 ≤ y ∧ y < 256) (hl : l.length ≤ 9223372036854775807) : Calls Try.prog 45 #[(.int .i64 ((op : Nat) : Int)), .string (strOfNums l)] w fun e w' => e = .returned (.tuple #[.agg #[.int .u8 (readT op l).1, .int .u64 (((readT op l).2.1 : Nat) : Int)], .bool (readT op l).2.2]) ∧ Below w.heap.size w w' := by
  have h := rread_any op (strOfNums l) w hop (by rw [strOfNums_size]; exact hl)
  rw [nums_str hb6] at h
  exact h
theorem rnumber_l (l : List Int) (w : World) (hb6 : ∀ y ∈ l, 0 ≤ y ∧ y < 256) (hl : l.length ≤ 9223372036854775807) : Calls Try.prog 49 #[.string (strOfNums l)] w fun e w' => e = .returned (.int .u64 ((numL (l.take 8) : Nat) : Int)) ∧ Below w.heap.size w w' := by
  have h := dnumber_any (strOfNums l) w (by rw [strOfNums_size]; exact hl)
  rw [nums_str hb6] at h
  exact h

set_option maxHeartbeats 1000000 in
set_option maxRecDepth 100000 in
theorem access20_any (op v : Nat) (a : Option Addr) (l : List Int) (c : Nat) (w : World) (hl : RdS 1 (vInt .u8) w a l) (hb6 : ∀ y ∈ l, 0 ≤ y ∧ y < 256) (hlc : l.length ≤ 9223372036854775807) (hop : op < 256) (hv : v < 18446744073709551616) : Calls Try.prog 6 #[(.int .u8 ((op : Nat) : Int)), (.slice a l.length c), (.int .u64 ((v : Nat) : Int))] w fun e w' => e = .returned (.bool true) ∧ Below w.heap.size w w' := by
  refine sx_enter (L := [(0, (.int .u8 ((op : Nat) : Int))), (1, (.slice a l.length c)), (2, (.int .u64 ((v : Nat) : Int)))]) Try.func6 rfl rfl rfl rfl (fun fa hf => ?_)
  have hb : Below w.heap.size w w := Below.refl _ _
  refine wp_seq_k (fun K1 hK1 => ?_)
  refine wp_region_lit ?_
  refine sqv hf (r_assign rfl) rfl rfl rfl ?_; clear hf fa; intro fa hf
  apply wpList_nil
  (try simp only [Exit.then, Exit.inBlock, ↓reduceIte, Nat.reduceEqDiff])
  refine hK1 _ _ ?_
  refine wp_seq_k (fun K2 hK2 => ?_)
  refine wp_seq_k (fun K3 hK3 => ?_)
  refine wp_region_lit ?_
  refine sqdt hf (d_callB (vs := []) rfl Try.func43 (by kernel_rfl) (by kernel_rfl) (awake_any _)) rfl rfl rfl ?_; clear hf fa; rintro fa _ w1 ⟨rfl, he1⟩ hf
  replace hb := hb.trans (Below.mono he1 hb.size)
  refine sqv hf (Runs.veq (v' := (.bool false)) (r_not rfl) rfl) rfl rfl rfl ?_; clear hf fa; intro fa hf
  apply wpList_nil
  (try simp only [Exit.then, Exit.inBlock, ↓reduceIte, Nat.reduceEqDiff])
  refine hK3 _ _ ?_
  refine wp_cond_false (hf.ev rfl) ?_
  refine wp_skip ?_
  (try simp only [Exit.then, Exit.inBlock, ↓reduceIte, Nat.reduceEqDiff])
  refine hK2 _ _ ?_
  refine wp_seq_k (fun K4 hK4 => ?_)
  refine wp_seq_k (fun K5 hK5 => ?_)
  refine wp_region_lit ?_
  refine sqv hf (r_move rfl) rfl rfl rfl ?_; clear hf fa; intro fa hf
  refine sqv hf (r_lensl rfl Try.underlying84) rfl rfl rfl ?_; clear hf fa; intro fa hf
  refine sqv hf (r_gt rfl rfl) rfl rfl rfl ?_; clear hf fa; intro fa hf
  apply wpList_nil
  (try simp only [Exit.then, Exit.inBlock, ↓reduceIte, Nat.reduceEqDiff])
  refine hK5 _ _ ?_
  refine wp_cond_split (t := (decide ((100 : Int) < ((l.length : Nat) : Int)))) (hf.ev rfl) (fun hqt22_1 => ?_) (fun hqt22_1 => ?_)
  · have hqt22_1b := hqt22_1
    try simp only [decide_eq_true_eq, Bool.and_eq_true, Bool.or_eq_true, Bool.not_eq_true', decide_eq_false_iff_not, ne_eq, Bool.not_eq_true] at hqt22_1
    refine wp_seq_k (fun K6 hK6 => ?_)
    refine wp_region_lit ?_
    refine sqv hf (r_assign rfl) rfl rfl rfl ?_; clear hf fa; intro fa hf
    apply wpList_nil
    (try simp only [Exit.then, Exit.inBlock, ↓reduceIte, Nat.reduceEqDiff])
    refine hK6 _ _ ?_
    refine wp_ret ?_
    (try simp only [Exit.then, Exit.inBlock])
    refine ret1 hf rfl rfl ?_
    exact ⟨rfl, hb⟩
  · have hqt22_1b := hqt22_1
    replace hqt22_1 := Bool.eq_false_iff.1 hqt22_1
    try simp only [ne_eq, decide_eq_true_eq, Bool.and_eq_true, Bool.or_eq_true, Bool.not_eq_true', decide_eq_false_iff_not] at hqt22_1
    refine wp_skip ?_
    (try simp only [Exit.then, Exit.inBlock, ↓reduceIte, Nat.reduceEqDiff])
    refine hK4 _ _ ?_
    refine wp_seq_k (fun K7 hK7 => ?_)
    refine wp_region_lit ?_
    refine sqv hf (r_move rfl) rfl rfl rfl ?_; clear hf fa; intro fa hf
    refine sqv hf (r_move rfl) rfl rfl rfl ?_; clear hf fa; intro fa hf
    refine sqdt hf (d_callB (vs := [(.int .u8 ((op : Nat) : Int)), (.slice a l.length c)]) rfl Try.func44 (by kernel_rfl) (by kernel_rfl) (read_any op a l c _ (RdS.ext hl hb) hb6 hlc hop)) rfl rfl rfl ?_; clear hf fa; rintro fa _ w2 ⟨rfl, he2⟩ hf
    replace hb := hb.trans (Below.mono he2 hb.size)
    refine sqv hf (r_move rfl) rfl rfl rfl ?_; clear hf fa; intro fa hf
    refine sqv hf (r_extract rfl (i := 0) rfl) rfl rfl rfl ?_; clear hf fa; intro fa hf
    refine sqv hf (r_extract rfl (i := 1) rfl) rfl rfl rfl ?_; clear hf fa; intro fa hf
    refine sqdt hf (d_alloc (z := (.agg #[(.int .u8 (0 : Int)), (.int .u64 (0 : Int))])) (cs := #[(.int .u8 (0 : Int)), (.int .u64 (0 : Int))]) (by kernel_rfl) rfl) rfl rfl rfl ?_; clear hf fa; rintro fa _ w3 ⟨b1, rfl, hle1, hk1, he3⟩ hf
    have hBb1 : w.heap.size ≤ b1 := Nat.le_trans hb.size hle1
    replace hb := hb.trans (Below.mono he3 hb.size)
    refine sqn hf (d_storeK (T := 86) (v := (.agg #[(.int .u8 ((readT op l).1)), (.int .u64 (((readT op l).2.1 : Nat) : Int))])) (cs := #[(.int .u8 (0 : Int)), (.int .u64 (0 : Int))]) (cs' := #[(.int .u8 ((readT op l).1)), (.int .u64 (((readT op l).2.1 : Nat) : Int))]) rfl rfl (by kernel_rfl) (by kernel_rfl) hk1 (by kernel_rfl) (by kernel_rfl)) rfl rfl ?_; clear hf fa; rintro fa _ w4 ⟨hk2, hg1⟩ hf
    replace hb := hb.trans (grown_below hg1 hb.size hBb1)
    refine sqv hf (r_assign rfl) rfl rfl rfl ?_; clear hf fa; intro fa hf
    apply wpList_nil
    (try simp only [Exit.then, Exit.inBlock, ↓reduceIte, Nat.reduceEqDiff])
    refine hK7 _ _ ?_
    refine wp_seq_k (fun K8 hK8 => ?_)
    refine wp_region_lit ?_
    refine sqv hf (r_move rfl) rfl rfl rfl ?_; clear hf fa; intro fa hf
    refine sqv hf (r_conv (C := ((op : Nat) : Int)) rfl Try.underlying5 Try.underlying3 (by rw [IntKind.wrap_i64]; omega)) rfl rfl rfl ?_; clear hf fa; intro fa hf
    refine sqv hf (r_move rfl) rfl rfl rfl ?_; clear hf fa; intro fa hf
    refine sqv hf (r_rdstr rfl Try.underlying84 Try.underlying5 Try.underlying9 (RdS.ext hl hb)) rfl rfl rfl ?_; clear hf fa; intro fa hf
    refine sqdt hf (d_callB (vs := [(.int .i64 ((op : Nat) : Int)), (.string (strOfNums l))]) rfl Try.func45 (by kernel_rfl) (by kernel_rfl) (rread_l op l _ hop hb6 hlc)) rfl rfl rfl ?_; clear hf fa; rintro fa _ w5 ⟨rfl, he4⟩ hf
    replace hk2 := blk_ext hk2 he4
    replace hb := hb.trans (Below.mono he4 hb.size)
    refine sqv hf (r_move rfl) rfl rfl rfl ?_; clear hf fa; intro fa hf
    refine sqv hf (r_extract rfl (i := 0) rfl) rfl rfl rfl ?_; clear hf fa; intro fa hf
    refine sqv hf (r_extract rfl (i := 1) rfl) rfl rfl rfl ?_; clear hf fa; intro fa hf
    refine sqdt hf (d_alloc (z := (.agg #[(.int .u8 (0 : Int)), (.int .u64 (0 : Int))])) (cs := #[(.int .u8 (0 : Int)), (.int .u64 (0 : Int))]) (by kernel_rfl) rfl) rfl rfl rfl ?_; clear hf fa; rintro fa _ w6 ⟨b2, rfl, hle2, hk3, he5⟩ hf
    have hBb2 : w.heap.size ≤ b2 := Nat.le_trans hb.size hle2
    have : b1 < b2 := Nat.lt_of_lt_of_le (blk_lt hk2) hle2
    replace hk2 := blk_ext hk2 he5
    replace hb := hb.trans (Below.mono he5 hb.size)
    refine sqn hf (d_storeK (T := 86) (v := (.agg #[(.int .u8 ((readT op l).1)), (.int .u64 (((readT op l).2.1 : Nat) : Int))])) (cs := #[(.int .u8 (0 : Int)), (.int .u64 (0 : Int))]) (cs' := #[(.int .u8 ((readT op l).1)), (.int .u64 (((readT op l).2.1 : Nat) : Int))]) rfl rfl (by kernel_rfl) (by kernel_rfl) hk3 (by kernel_rfl) (by kernel_rfl)) rfl rfl ?_; clear hf fa; rintro fa _ w7 ⟨hk4, hg2⟩ hf
    replace hk2 := blk_grown hk2 hg2 (by omega)
    replace hb := hb.trans (grown_below hg2 hb.size hBb2)
    refine sqv hf (r_assign rfl) rfl rfl rfl ?_; clear hf fa; intro fa hf
    apply wpList_nil
    (try simp only [Exit.then, Exit.inBlock, ↓reduceIte, Nat.reduceEqDiff])
    refine hK8 _ _ ?_
    refine wp_seq_k (fun K9 hK9 => ?_)
    refine wp_region_lit ?_
    refine sqv hf (r_move rfl) rfl rfl rfl ?_; clear hf fa; intro fa hf
    refine sqv hf (r_move rfl) rfl rfl rfl ?_; clear hf fa; intro fa hf
    refine sqdt hf (d_callX (vs := [(.int .u8 ((op : Nat) : Int)), (.int .u64 ((v : Nat) : Int))]) rfl Try.func46 (by kernel_rfl) (by kernel_rfl) (write_any op v _ hv hop)) rfl rfl rfl ?_; clear hf fa; rintro fa _ w8 ⟨qa1, qc1, rfl, hr1, he6⟩ hf
    replace hr1 := Row.rebase hr1 hb.size
    replace hk2 := blk_ext hk2 he6
    replace hk4 := blk_ext hk4 he6
    replace hb := hb.trans (Below.mono he6 hb.size)
    have hchr1 := Row.caps hr1
    refine sqv hf (r_move rfl) rfl rfl rfl ?_; clear hf fa; intro fa hf
    refine sqv hf (r_extract rfl (i := 0) rfl) rfl rfl rfl ?_; clear hf fa; intro fa hf
    refine sqv hf (r_extract rfl (i := 1) rfl) rfl rfl rfl ?_; clear hf fa; intro fa hf
    refine sqv hf (r_assign rfl) rfl rfl rfl ?_; clear hf fa; intro fa hf
    refine sqv hf (r_assign rfl) rfl rfl rfl ?_; clear hf fa; intro fa hf
    apply wpList_nil
    (try simp only [Exit.then, Exit.inBlock, ↓reduceIte, Nat.reduceEqDiff])
    refine hK9 _ _ ?_
    refine wp_seq_k (fun K10 hK10 => ?_)
    refine wp_region_lit ?_
    refine sqv hf (r_move rfl) rfl rfl rfl ?_; clear hf fa; intro fa hf
    refine sqv hf (r_conv (C := ((op : Nat) : Int)) rfl Try.underlying5 Try.underlying3 (by rw [IntKind.wrap_i64]; omega)) rfl rfl rfl ?_; clear hf fa; intro fa hf
    refine sqdt hf (d_callB (vs := [(.int .i64 ((op : Nat) : Int))]) rfl Try.func47 (by kernel_rfl) (by kernel_rfl) (racc_any op _ hop)) rfl rfl rfl ?_; clear hf fa; rintro fa _ w9 ⟨rfl, he7⟩ hf
    replace hk2 := blk_ext hk2 he7
    replace hk4 := blk_ext hk4 he7
    replace hr1 := Row.ext hr1 he7
    replace hb := hb.trans (Below.mono he7 hb.size)
    refine sqv hf (r_move rfl) rfl rfl rfl ?_; clear hf fa; intro fa hf
    refine sqv hf (r_extract rfl (i := 0) rfl) rfl rfl rfl ?_; clear hf fa; intro fa hf
    refine sqv hf (r_extract rfl (i := 1) rfl) rfl rfl rfl ?_; clear hf fa; intro fa hf
    refine sqv hf (r_extract rfl (i := 2) rfl) rfl rfl rfl ?_; clear hf fa; intro fa hf
    refine sqv hf (r_extract rfl (i := 3) rfl) rfl rfl rfl ?_; clear hf fa; intro fa hf
    refine sqv hf (r_extract rfl (i := 4) rfl) rfl rfl rfl ?_; clear hf fa; intro fa hf
    refine sqv hf (r_assign rfl) rfl rfl rfl ?_; clear hf fa; intro fa hf
    refine sqv hf (r_assign rfl) rfl rfl rfl ?_; clear hf fa; intro fa hf
    refine sqv hf (r_assign rfl) rfl rfl rfl ?_; clear hf fa; intro fa hf
    refine sqv hf (r_assign rfl) rfl rfl rfl ?_; clear hf fa; intro fa hf
    refine sqv hf (r_assign rfl) rfl rfl rfl ?_; clear hf fa; intro fa hf
    apply wpList_nil
    (try simp only [Exit.then, Exit.inBlock, ↓reduceIte, Nat.reduceEqDiff])
    refine hK10 _ _ ?_
    refine wp_seq_k (fun K11 hK11 => ?_)
    refine wp_seq_k (fun K12 hK12 => ?_)
    refine wp_region_un (fun wq => Below w9.heap.size w9 wq) (fun w w' => Below w.heap.size w w')
      (fun V => [(fun x _ => x = (.agg #[(.int .u8 ((readT op l).1)), (.int .u64 (((readT op l).2.1 : Nat) : Int))])), (fun x _ => x = (.agg #[(.int .u8 ((readT op l).1)), (.int .u64 (((readT op l).2.1 : Nat) : Int))])), (fun x _ => x = (.bool false)), (fun x _ => x = (.bool false)), (fun x _ => x = (.bool (readT op l).2.2)), (fun x _ => x = (.bool (readT op l).2.2)), (fun x _ => x = (.bool false)), (fun x _ => x = (.bool false)), (fun x _ => x = (.bool false)), (fun x _ => x = (.bool (writeT op v).2)), (fun x _ => x = (.bool (accT op).2.2.2.2)), (fun x _ => x = (.bool (accT op).2.2.2.2)), (fun x _ => x = (gb (accT op).2.2.2.2 (.bool (accT op).2.2.1))), (fun x _ => x = (.bool ((accT op).2.2.2.2 && (accT op).2.2.1))), (fun x _ => x = (.bool false)), (fun x _ => x = (.bool false)), (fun x _ => x = (.bool false)), (fun x _ => x = (.slice a l.length c)), (fun x _ => x = (.int .u64 (((numL (l.take 8)) : Nat) : Int))), (fun x _ => x = (.slice a l.length c)), (fun x _ => x = (.string (strOfNums l))), (fun x _ => x = (.int .u64 (((numL (l.take 8)) : Nat) : Int))), (fun x _ => x = (.bool false)), (fun x _ => x = (.bool false))])
      []
      [[], [], [0, 1], [2], [3], [3], [3, 4, 5], [3, 6], [3, 7], [8], [8], [8, 10], [11], [8, 11, 12], [8, 9, 13], [8, 14], [11, 15], [16], [16, 17], [16], [16, 19], [16, 18, 20], [16, 18, 21], [16, 22]]
      hf (by kernel_rfl) (by kernel_rfl) (fun _ => rfl) ((Below.refl _ _).drew) (fun a b h1 h2 => h1.trans (h2.mono h1.size)) (fun _ _ h => h.size) (fun V => ⟨kept_eq, kept_eq, kept_eq, kept_eq, kept_eq, kept_eq, kept_eq, kept_eq, kept_eq, kept_eq, kept_eq, kept_eq, kept_eq, kept_eq, kept_eq, kept_eq, kept_eq, kept_eq, kept_eq, kept_eq, kept_eq, kept_eq, kept_eq, kept_eq, trivial⟩) (fun _ _ _ _ _ => rfl) ?_ ?_
    · skip
      intro V
      refine ⟨fun wu0 hC hd => ?_, ?_⟩
      · clear hd
        replace hb := hb.trans (hC.mono hb.size)
        replace hk2 := blk_ext hk2 hC
        replace hk4 := blk_ext hk4 hC
        replace hr1 := Row.ext hr1 hC
        exact Runs.does (r_loadA (cs := [(.int .u8 ((readT op l).1)), (.int .u64 (((readT op l).2.1 : Nat) : Int))]) rfl Try.underlying86 rfl (by kernel_rfl) (cellsAt_blk hk2)) ⟨Below.refl _ _, rfl, nofr rfl⟩
      refine ⟨fun wu1 hC hd => ?_, ?_⟩
      · clear hd
        replace hb := hb.trans (hC.mono hb.size)
        replace hk2 := blk_ext hk2 hC
        replace hk4 := blk_ext hk4 hC
        replace hr1 := Row.ext hr1 hC
        exact Runs.does (r_loadA (cs := [(.int .u8 ((readT op l).1)), (.int .u64 (((readT op l).2.1 : Nat) : Int))]) rfl Try.underlying86 rfl (by kernel_rfl) (cellsAt_blk hk4)) ⟨Below.refl _ _, rfl, nofr rfl⟩
      refine ⟨fun wu2 hC hd => ?_, ?_⟩
      · obtain ⟨h0, h1, _⟩ := hd
        skip
        skip
        replace h0 : V 0 = (.agg #[(.int .u8 ((readT op l).1)), (.int .u64 (((readT op l).2.1 : Nat) : Int))]) := h0
        replace h1 : V 1 = (.agg #[(.int .u8 ((readT op l).1)), (.int .u64 (((readT op l).2.1 : Nat) : Int))]) := h1
        replace hb := hb.trans (hC.mono hb.size)
        replace hk2 := blk_ext hk2 hC
        replace hk4 := blk_ext hk4 hC
        replace hr1 := Row.ext hr1 hC
        exact Runs.does (Runs.veq (r_ane (k := 5) (congrArg some h0) (congrArg some h1) (by kernel_rfl) (eqt_struct (xs := #[(.int .u8 ((readT op l).1)), (.int .u64 (((readT op l).2.1 : Nat) : Int))]) (ys := #[(.int .u8 ((readT op l).1)), (.int .u64 (((readT op l).2.1 : Nat) : Int))]) Try.underlying86 (by kernel_rfl) (eqf_cons (by kernel_rfl) (fun _ => by kernel_rfl) (fun _ => by kernel_rfl) (eqt_int (kk := .u8) (a := ((readT op l).1)) (b := ((readT op l).1)) Try.underlying5) (eqf_one (by kernel_rfl) (fun _ => by kernel_rfl) (fun _ => by kernel_rfl) (eqt_int (kk := .u64) (a := (((readT op l).2.1 : Nat) : Int)) (b := (((readT op l).2.1 : Nat) : Int)) Try.underlying26)))) rfl) (congrArg Value.bool (show _ = false from (by simp)))) ⟨Below.refl _ _, rfl, nofr rfl⟩
      refine ⟨fun wu3 hC hd => ?_, ?_⟩
      · obtain ⟨h2, _⟩ := hd
        skip
        replace h2 : V 2 = (.bool false) := h2
        replace hb := hb.trans (hC.mono hb.size)
        replace hk2 := blk_ext hk2 hC
        replace hk4 := blk_ext hk4 hC
        replace hr1 := Row.ext hr1 hC
        exact Runs.does (r_move (congrArg some h2)) ⟨Below.refl _ _, rfl, nofr rfl⟩
      refine ⟨fun wu4 hC hd => ?_, ?_⟩
      · obtain ⟨h3, _⟩ := hd
        skip
        replace h3 : V 3 = (.bool false) := h3
        replace hb := hb.trans (hC.mono hb.size)
        replace hk2 := blk_ext hk2 hC
        replace hk4 := blk_ext hk4 hC
        replace hr1 := Row.ext hr1 hC
        refine ⟨true, false, congrArg some h3, fun hact => ?_, fun hact => ?_⟩
        · exact Runs.does (r_move rfl) ⟨Below.refl _ _, rfl, nofr rfl⟩
        · exfalso; simp at hact
      refine ⟨fun wu5 hC hd => ?_, ?_⟩
      · obtain ⟨h3, _⟩ := hd
        skip
        replace h3 : V 3 = (.bool false) := h3
        replace hb := hb.trans (hC.mono hb.size)
        replace hk2 := blk_ext hk2 hC
        replace hk4 := blk_ext hk4 hC
        replace hr1 := Row.ext hr1 hC
        refine ⟨true, false, congrArg some h3, fun hact => ?_, fun hact => ?_⟩
        · exact Runs.does (r_move rfl) ⟨Below.refl _ _, rfl, nofr rfl⟩
        · exfalso; simp at hact
      refine ⟨fun wu6 hC hd => ?_, ?_⟩
      · obtain ⟨h3, h4, h5, _⟩ := hd
        skip
        skip
        skip
        replace h3 : V 3 = (.bool false) := h3
        replace h4 : V 4 = (.bool (readT op l).2.2) := h4
        replace h5 : V 5 = (.bool (readT op l).2.2) := h5
        replace hb := hb.trans (hC.mono hb.size)
        replace hk2 := blk_ext hk2 hC
        replace hk4 := blk_ext hk4 hC
        replace hr1 := Row.ext hr1 hC
        refine ⟨true, false, congrArg some h3, fun hact => ?_, fun hact => ?_⟩
        · exact Runs.does (Runs.veq (r_bne Try.underlying4 (congrArg some h4) (congrArg some h5)) (congrArg Value.bool (show _ = false from (by simp)))) ⟨Below.refl _ _, rfl, nofr rfl⟩
        · exfalso; simp at hact
      refine ⟨fun wu7 hC hd => ?_, ?_⟩
      · obtain ⟨h3, h6, _⟩ := hd
        skip
        skip
        replace h3 : V 3 = (.bool false) := h3
        replace h6 : V 6 = (.bool false) := h6
        replace hb := hb.trans (hC.mono hb.size)
        replace hk2 := blk_ext hk2 hC
        replace hk4 := blk_ext hk4 hC
        replace hr1 := Row.ext hr1 hC
        exact Runs.does (r_pick (b := false) (congrArg some h3) rfl (congrArg some h6) rfl) ⟨Below.refl _ _, rfl, nofr rfl⟩
      refine ⟨fun wu8 hC hd => ?_, ?_⟩
      · obtain ⟨h3, h7, _⟩ := hd
        skip
        skip
        replace h3 : V 3 = (.bool false) := h3
        replace h7 : V 7 = (.bool false) := h7
        replace hb := hb.trans (hC.mono hb.size)
        replace hk2 := blk_ext hk2 hC
        replace hk4 := blk_ext hk4 hC
        replace hr1 := Row.ext hr1 hC
        exact Runs.does (r_move (congrArg some h7)) ⟨Below.refl _ _, rfl, nofr rfl⟩
      refine ⟨fun wu9 hC hd => ?_, ?_⟩
      · obtain ⟨h8, _⟩ := hd
        skip
        replace h8 : V 8 = (.bool false) := h8
        replace hb := hb.trans (hC.mono hb.size)
        replace hk2 := blk_ext hk2 hC
        replace hk4 := blk_ext hk4 hC
        replace hr1 := Row.ext hr1 hC
        refine ⟨true, false, congrArg some h8, fun hact => ?_, fun hact => ?_⟩
        · exact Runs.does (r_move rfl) ⟨Below.refl _ _, rfl, nofr rfl⟩
        · exfalso; simp at hact
      refine ⟨fun wu10 hC hd => ?_, ?_⟩
      · obtain ⟨h8, _⟩ := hd
        skip
        replace h8 : V 8 = (.bool false) := h8
        replace hb := hb.trans (hC.mono hb.size)
        replace hk2 := blk_ext hk2 hC
        replace hk4 := blk_ext hk4 hC
        replace hr1 := Row.ext hr1 hC
        refine ⟨true, false, congrArg some h8, fun hact => ?_, fun hact => ?_⟩
        · exact Runs.does (r_move rfl) ⟨Below.refl _ _, rfl, nofr rfl⟩
        · exfalso; simp at hact
      refine ⟨fun wu11 hC hd => ?_, ?_⟩
      · obtain ⟨h8, h10, _⟩ := hd
        skip
        skip
        replace h8 : V 8 = (.bool false) := h8
        replace h10 : V 10 = (.bool (accT op).2.2.2.2) := h10
        replace hb := hb.trans (hC.mono hb.size)
        replace hk2 := blk_ext hk2 hC
        replace hk4 := blk_ext hk4 hC
        replace hr1 := Row.ext hr1 hC
        refine ⟨true, false, congrArg some h8, fun hact => ?_, fun hact => ?_⟩
        · exact Runs.does (r_move (congrArg some h10)) ⟨Below.refl _ _, rfl, nofr rfl⟩
        · exfalso; simp at hact
      refine ⟨fun wu12 hC hd => ?_, ?_⟩
      · obtain ⟨h11, _⟩ := hd
        skip
        replace h11 : V 11 = (.bool (accT op).2.2.2.2) := h11
        replace hb := hb.trans (hC.mono hb.size)
        replace hk2 := blk_ext hk2 hC
        replace hk4 := blk_ext hk4 hC
        replace hr1 := Row.ext hr1 hC
        refine ⟨true, (accT op).2.2.2.2, congrArg some h11, fun hact => ?_, fun hact => ?_⟩
        · replace hact : (accT op).2.2.2.2 = true := by simpa using hact
          refine Runs.does (v := (.bool (accT op).2.2.1)) (r_move rfl) ⟨Below.refl _ _, ?_, nofr rfl⟩
          show _ = gb _ _; rw [hact]; rfl
        · replace hact : (accT op).2.2.2.2 = false := by simpa using hact
          refine ⟨Below.refl _ _, ?_, nofr rfl⟩
          show _ = gb _ _; rw [hact]; rfl
      refine ⟨fun wu13 hC hd => ?_, ?_⟩
      · obtain ⟨h8, h11, h12, _⟩ := hd
        skip
        skip
        skip
        replace h8 : V 8 = (.bool false) := h8
        replace h11 : V 11 = (.bool (accT op).2.2.2.2) := h11
        replace h12 : V 12 = (gb (accT op).2.2.2.2 (.bool (accT op).2.2.1)) := h12
        replace hb := hb.trans (hC.mono hb.size)
        replace hk2 := blk_ext hk2 hC
        replace hk4 := blk_ext hk4 hC
        replace hr1 := Row.ext hr1 hC
        refine ⟨true, false, congrArg some h8, fun hact => ?_, fun hact => ?_⟩
        · exact Runs.does (r_pickA (b := (accT op).2.2.2.2) (e := (accT op).2.2.1) (congrArg some h11) (congrArg some h12) rfl) ⟨Below.refl _ _, rfl, nofr rfl⟩
        · exfalso; simp at hact
      refine ⟨fun wu14 hC hd => ?_, ?_⟩
      · obtain ⟨h8, h9, h13, _⟩ := hd
        skip
        skip
        skip
        replace h8 : V 8 = (.bool false) := h8
        replace h9 : V 9 = (.bool (writeT op v).2) := h9
        replace h13 : V 13 = (.bool ((accT op).2.2.2.2 && (accT op).2.2.1)) := h13
        replace hb := hb.trans (hC.mono hb.size)
        replace hk2 := blk_ext hk2 hC
        replace hk4 := blk_ext hk4 hC
        replace hr1 := Row.ext hr1 hC
        refine ⟨true, false, congrArg some h8, fun hact => ?_, fun hact => ?_⟩
        · exact Runs.does (Runs.veq (r_bne Try.underlying4 (congrArg some h9) (congrArg some h13)) (congrArg Value.bool (show _ = false from (by rw [writeT_snd]; cases (accT op).2.2.2.2 <;> cases (accT op).2.2.1 <;> rfl)))) ⟨Below.refl _ _, rfl, nofr rfl⟩
        · exfalso; simp at hact
      refine ⟨fun wu15 hC hd => ?_, ?_⟩
      · obtain ⟨h8, h14, _⟩ := hd
        skip
        skip
        replace h8 : V 8 = (.bool false) := h8
        replace h14 : V 14 = (.bool false) := h14
        replace hb := hb.trans (hC.mono hb.size)
        replace hk2 := blk_ext hk2 hC
        replace hk4 := blk_ext hk4 hC
        replace hr1 := Row.ext hr1 hC
        exact Runs.does (r_pick (b := false) (congrArg some h8) rfl (congrArg some h14) rfl) ⟨Below.refl _ _, rfl, nofr rfl⟩
      refine ⟨fun wu16 hC hd => ?_, ?_⟩
      · obtain ⟨h11, h15, _⟩ := hd
        skip
        skip
        replace h11 : V 11 = (.bool (accT op).2.2.2.2) := h11
        replace h15 : V 15 = (.bool false) := h15
        replace hb := hb.trans (hC.mono hb.size)
        replace hk2 := blk_ext hk2 hC
        replace hk4 := blk_ext hk4 hC
        replace hr1 := Row.ext hr1 hC
        exact Runs.does (r_move (congrArg some h15)) ⟨Below.refl _ _, rfl, nofr rfl⟩
      refine ⟨fun wu17 hC hd => ?_, ?_⟩
      · obtain ⟨h16, _⟩ := hd
        skip
        replace h16 : V 16 = (.bool false) := h16
        replace hb := hb.trans (hC.mono hb.size)
        replace hk2 := blk_ext hk2 hC
        replace hk4 := blk_ext hk4 hC
        replace hr1 := Row.ext hr1 hC
        refine ⟨true, false, congrArg some h16, fun hact => ?_, fun hact => ?_⟩
        · exact Runs.does (r_move rfl) ⟨Below.refl _ _, rfl, nofr rfl⟩
        · exfalso; simp at hact
      refine ⟨fun wu18 hC hd => ?_, ?_⟩
      · obtain ⟨h16, h17, _⟩ := hd
        skip
        skip
        replace h16 : V 16 = (.bool false) := h16
        replace h17 : V 17 = (.slice a l.length c) := h17
        replace hb := hb.trans (hC.mono hb.size)
        replace hk2 := blk_ext hk2 hC
        replace hk4 := blk_ext hk4 hC
        replace hr1 := Row.ext hr1 hC
        refine ⟨true, false, congrArg some h16, fun hact => ?_, fun hact => ?_⟩
        · refine Does.mono (d_callB (vs := [(.slice a l.length c)]) (show [some (V 17)] = [some (.slice a l.length c)] from by rw [h17]) Try.func48 (by kernel_rfl) (by kernel_rfl) (number_any a l c _ (RdS.ext hl hb) hb6 hlc)) (fun _ _ h => ⟨h.2, h.1, nofr rfl⟩)
        · exfalso; simp at hact
      refine ⟨fun wu19 hC hd => ?_, ?_⟩
      · obtain ⟨h16, _⟩ := hd
        skip
        replace h16 : V 16 = (.bool false) := h16
        replace hb := hb.trans (hC.mono hb.size)
        replace hk2 := blk_ext hk2 hC
        replace hk4 := blk_ext hk4 hC
        replace hr1 := Row.ext hr1 hC
        refine ⟨true, false, congrArg some h16, fun hact => ?_, fun hact => ?_⟩
        · exact Runs.does (r_move rfl) ⟨Below.refl _ _, rfl, nofr rfl⟩
        · exfalso; simp at hact
      refine ⟨fun wu20 hC hd => ?_, ?_⟩
      · obtain ⟨h16, h19, _⟩ := hd
        skip
        skip
        replace h16 : V 16 = (.bool false) := h16
        replace h19 : V 19 = (.slice a l.length c) := h19
        replace hb := hb.trans (hC.mono hb.size)
        replace hk2 := blk_ext hk2 hC
        replace hk4 := blk_ext hk4 hC
        replace hr1 := Row.ext hr1 hC
        refine ⟨true, false, congrArg some h16, fun hact => ?_, fun hact => ?_⟩
        · exact Runs.does (r_rdstr (congrArg some h19) Try.underlying84 Try.underlying5 Try.underlying9 (RdS.ext hl hb)) ⟨Below.refl _ _, rfl, nofr rfl⟩
        · exfalso; simp at hact
      refine ⟨fun wu21 hC hd => ?_, ?_⟩
      · obtain ⟨h16, h18, h20, _⟩ := hd
        skip
        skip
        skip
        replace h16 : V 16 = (.bool false) := h16
        replace h18 : V 18 = (.int .u64 (((numL (l.take 8)) : Nat) : Int)) := h18
        replace h20 : V 20 = (.string (strOfNums l)) := h20
        replace hb := hb.trans (hC.mono hb.size)
        replace hk2 := blk_ext hk2 hC
        replace hk4 := blk_ext hk4 hC
        replace hr1 := Row.ext hr1 hC
        refine ⟨true, false, congrArg some h16, fun hact => ?_, fun hact => ?_⟩
        · refine Does.mono (d_callB (vs := [(.string (strOfNums l))]) (show [some (V 20)] = [some (.string (strOfNums l))] from by rw [h20]) Try.func49 (by kernel_rfl) (by kernel_rfl) (rnumber_l l _ hb6 hlc)) (fun _ _ h => ⟨h.2, h.1, nofr rfl⟩)
        · exfalso; simp at hact
      refine ⟨fun wu22 hC hd => ?_, ?_⟩
      · obtain ⟨h16, h18, h21, _⟩ := hd
        skip
        skip
        skip
        replace h16 : V 16 = (.bool false) := h16
        replace h18 : V 18 = (.int .u64 (((numL (l.take 8)) : Nat) : Int)) := h18
        replace h21 : V 21 = (.int .u64 (((numL (l.take 8)) : Nat) : Int)) := h21
        replace hb := hb.trans (hC.mono hb.size)
        replace hk2 := blk_ext hk2 hC
        replace hk4 := blk_ext hk4 hC
        replace hr1 := Row.ext hr1 hC
        refine ⟨true, false, congrArg some h16, fun hact => ?_, fun hact => ?_⟩
        · exact Runs.does (Runs.veq (r_ne (congrArg some h18) (congrArg some h21)) (congrArg Value.bool (show _ = false from (by simp)))) ⟨Below.refl _ _, rfl, nofr rfl⟩
        · exfalso; simp at hact
      refine ⟨fun wu23 hC hd => ?_, ?_⟩
      · obtain ⟨h16, h22, _⟩ := hd
        skip
        skip
        replace h16 : V 16 = (.bool false) := h16
        replace h22 : V 22 = (.bool false) := h22
        replace hb := hb.trans (hC.mono hb.size)
        replace hk2 := blk_ext hk2 hC
        replace hk4 := blk_ext hk4 hC
        replace hr1 := Row.ext hr1 hC
        exact Runs.does (r_pick (b := false) (congrArg some h16) rfl (congrArg some h22) rfl) ⟨Below.refl _ _, rfl, nofr rfl⟩
      trivial
    · skip
      clear hf fa; intro V w10 fa he8 hp hnb hf
      have hv0 : V 0 = (.agg #[(.int .u8 ((readT op l).1)), (.int .u64 (((readT op l).2.1 : Nat) : Int))]) := postsHold_at hp 0 rfl
      have hv1 : V 1 = (.agg #[(.int .u8 ((readT op l).1)), (.int .u64 (((readT op l).2.1 : Nat) : Int))]) := postsHold_at hp 1 rfl
      have hv2 : V 2 = (.bool false) := postsHold_at hp 2 rfl
      have hv3 : V 3 = (.bool false) := postsHold_at hp 3 rfl
      have hv4 : V 4 = (.bool (readT op l).2.2) := postsHold_at hp 4 rfl
      have hv5 : V 5 = (.bool (readT op l).2.2) := postsHold_at hp 5 rfl
      have hv6 : V 6 = (.bool false) := postsHold_at hp 6 rfl
      have hv7 : V 7 = (.bool false) := postsHold_at hp 7 rfl
      have hv8 : V 8 = (.bool false) := postsHold_at hp 8 rfl
      have hv9 : V 9 = (.bool (writeT op v).2) := postsHold_at hp 9 rfl
      have hv10 : V 10 = (.bool (accT op).2.2.2.2) := postsHold_at hp 10 rfl
      have hv11 : V 11 = (.bool (accT op).2.2.2.2) := postsHold_at hp 11 rfl
      have hv12 : V 12 = (gb (accT op).2.2.2.2 (.bool (accT op).2.2.1)) := postsHold_at hp 12 rfl
      have hv13 : V 13 = (.bool ((accT op).2.2.2.2 && (accT op).2.2.1)) := postsHold_at hp 13 rfl
      have hv14 : V 14 = (.bool false) := postsHold_at hp 14 rfl
      have hv15 : V 15 = (.bool false) := postsHold_at hp 15 rfl
      have hv16 : V 16 = (.bool false) := postsHold_at hp 16 rfl
      have hv17 : V 17 = (.slice a l.length c) := postsHold_at hp 17 rfl
      have hv18 : V 18 = (.int .u64 (((numL (l.take 8)) : Nat) : Int)) := postsHold_at hp 18 rfl
      have hv19 : V 19 = (.slice a l.length c) := postsHold_at hp 19 rfl
      have hv20 : V 20 = (.string (strOfNums l)) := postsHold_at hp 20 rfl
      have hv21 : V 21 = (.int .u64 (((numL (l.take 8)) : Nat) : Int)) := postsHold_at hp 21 rfl
      have hv22 : V 22 = (.bool false) := postsHold_at hp 22 rfl
      have hv23 : V 23 = (.bool false) := postsHold_at hp 23 rfl
      simp only [List.take_succ_cons, List.take_zero, insAll, ins, hv0, hv1, hv2, hv3, hv4, hv5, hv6, hv7, hv8, hv9, hv10, hv11, hv12, hv13, hv14, hv15, hv16, hv17, hv18, hv19, hv20, hv21, hv22, hv23] at hf
      clear hp hnb hv0 hv1 hv2 hv3 hv4 hv5 hv6 hv7 hv8 hv9 hv10 hv11 hv12 hv13 hv14 hv15 hv16 hv17 hv18 hv19 hv20 hv21 hv22 hv23
      replace hk2 := blk_ext hk2 he8
      replace hk4 := blk_ext hk4 he8
      replace hr1 := Row.ext hr1 he8
      replace hb := hb.trans (Below.mono he8 hb.size)
      (try simp only [Exit.then, Exit.inBlock, ↓reduceIte, Nat.reduceEqDiff])
      refine hK12 _ _ ?_
      refine wp_cond_false (hf.ev rfl) ?_
      refine wp_skip ?_
      (try simp only [Exit.then, Exit.inBlock, ↓reduceIte, Nat.reduceEqDiff])
      refine hK11 _ _ ?_
      refine wp_seq_k (fun K13 hK13 => ?_)
      by_cases hsp1 : (writeT op v).2 = true
      · have hsp1b : decide ((writeT op v).2 = true) = true := decide_eq_true hsp1
        refine wp_region_un (fun wq => Below w10.heap.size w10 wq) (fun w w' => Below w.heap.size w w')
          (fun V => [(fun x _ => x = (.bool true)), (fun x _ => x = (.bool false)), (fun x _ => x = (.bool false)), (fun x _ => x = gb false (.bool false)), (fun x _ => x = gb false (.bool false)), (fun x _ => x = gb false (.bool false)), (fun x _ => x = (.bool false)), (fun x _ => x = (.bool false)), (fun x _ => x = (.bool true)), (fun x _ => x = (.bool true)), (fun x _ => x = (.slice qa1 ((writeT op v).1.length) qc1)), (fun x _ => x = (.string (strOfNums (writeT op v).1))), (fun x _ => x = (.int .u64 ((v : Nat) : Int))), (fun x _ => x = (.int .i64 ((accT op).1))), (fun x _ => x = (.string (strOfNums (bytesN (capN (accT op).1) v)))), (fun x _ => x = (.bool true)), (fun x _ => x = (.bool true)), (fun x _ => x = (.bool true)), (fun x _ => x = (.bool true))])
          []
          [[], [0], [1], [2], [2, 3], [2, 4], [2, 5], [2, 6], [7], [7, 8], [9], [9, 10], [9], [9], [9, 12, 13], [9, 11, 14], [7, 9, 15], [7, 16], [0, 1, 2, 3, 4, 5, 6, 7, 8, 9, 10, 11, 12, 13, 14, 15, 16, 17]]
          hf (by kernel_rfl) (by kernel_rfl) (fun _ => rfl) ((Below.refl _ _).drew) (fun a b h1 h2 => h1.trans (h2.mono h1.size)) (fun _ _ h => h.size) (fun V => ⟨kept_eq, kept_eq, kept_eq, kept_eq, kept_eq, kept_eq, kept_eq, kept_eq, kept_eq, kept_eq, kept_eq, kept_eq, kept_eq, kept_eq, kept_eq, kept_eq, kept_eq, kept_eq, kept_eq, trivial⟩) (fun _ _ _ _ _ => rfl) ?_ ?_
        · skip
          intro V
          refine ⟨fun wu0 hC hd => ?_, ?_⟩
          · clear hd
            replace hb := hb.trans (hC.mono hb.size)
            replace hk2 := blk_ext hk2 hC
            replace hk4 := blk_ext hk4 hC
            replace hr1 := Row.ext hr1 hC
            exact Runs.does (Runs.veq (r_move rfl) (congrArg Value.bool (show _ = true from hsp1))) ⟨Below.refl _ _, rfl, nofr rfl⟩
          refine ⟨fun wu1 hC hd => ?_, ?_⟩
          · obtain ⟨h0, _⟩ := hd
            skip
            replace h0 : V 0 = (.bool true) := h0
            replace hb := hb.trans (hC.mono hb.size)
            replace hk2 := blk_ext hk2 hC
            replace hk4 := blk_ext hk4 hC
            replace hr1 := Row.ext hr1 hC
            exact Runs.does (Runs.veq (v' := (.bool false)) (r_not (congrArg some h0)) rfl) ⟨Below.refl _ _, rfl, nofr rfl⟩
          refine ⟨fun wu2 hC hd => ?_, ?_⟩
          · obtain ⟨h1, _⟩ := hd
            skip
            replace h1 : V 1 = (.bool false) := h1
            replace hb := hb.trans (hC.mono hb.size)
            replace hk2 := blk_ext hk2 hC
            replace hk4 := blk_ext hk4 hC
            replace hr1 := Row.ext hr1 hC
            exact Runs.does (r_move (congrArg some h1)) ⟨Below.refl _ _, rfl, nofr rfl⟩
          refine ⟨fun wu3 hC hd => ?_, ?_⟩
          · obtain ⟨h2, _⟩ := hd
            skip
            replace h2 : V 2 = (.bool false) := h2
            replace hb := hb.trans (hC.mono hb.size)
            replace hk2 := blk_ext hk2 hC
            replace hk4 := blk_ext hk4 hC
            replace hr1 := Row.ext hr1 hC
            refine ⟨true, false, congrArg some h2, fun hact => ?_, fun hact => ?_⟩
            · exfalso; simp at hact
            · exact ⟨Below.refl _ _, rfl, nofr rfl⟩
          refine ⟨fun wu4 hC hd => ?_, ?_⟩
          · obtain ⟨h2, h3, _⟩ := hd
            skip
            skip
            replace h2 : V 2 = (.bool false) := h2
            replace h3 : V 3 = gb false (.bool false) := h3
            replace hb := hb.trans (hC.mono hb.size)
            replace hk2 := blk_ext hk2 hC
            replace hk4 := blk_ext hk4 hC
            replace hr1 := Row.ext hr1 hC
            refine ⟨true, false, congrArg some h2, fun hact => ?_, fun hact => ?_⟩
            · exfalso; simp at hact
            · exact ⟨Below.refl _ _, rfl, nofr rfl⟩
          refine ⟨fun wu5 hC hd => ?_, ?_⟩
          · obtain ⟨h2, h4, _⟩ := hd
            skip
            skip
            replace h2 : V 2 = (.bool false) := h2
            replace h4 : V 4 = gb false (.bool false) := h4
            replace hb := hb.trans (hC.mono hb.size)
            replace hk2 := blk_ext hk2 hC
            replace hk4 := blk_ext hk4 hC
            replace hr1 := Row.ext hr1 hC
            refine ⟨true, false, congrArg some h2, fun hact => ?_, fun hact => ?_⟩
            · exfalso; simp at hact
            · exact ⟨Below.refl _ _, rfl, nofr rfl⟩
          refine ⟨fun wu6 hC hd => ?_, ?_⟩
          · obtain ⟨h2, h5, _⟩ := hd
            skip
            skip
            replace h2 : V 2 = (.bool false) := h2
            replace h5 : V 5 = gb false (.bool false) := h5
            replace hb := hb.trans (hC.mono hb.size)
            replace hk2 := blk_ext hk2 hC
            replace hk4 := blk_ext hk4 hC
            replace hr1 := Row.ext hr1 hC
            exact Runs.does (r_pick (b := false) (congrArg some h2) (congrArg some h5) rfl rfl) ⟨Below.refl _ _, rfl, nofr rfl⟩
          refine ⟨fun wu7 hC hd => ?_, ?_⟩
          · obtain ⟨h2, h6, _⟩ := hd
            skip
            skip
            replace h2 : V 2 = (.bool false) := h2
            replace h6 : V 6 = (.bool false) := h6
            replace hb := hb.trans (hC.mono hb.size)
            replace hk2 := blk_ext hk2 hC
            replace hk4 := blk_ext hk4 hC
            replace hr1 := Row.ext hr1 hC
            exact Runs.does (r_move (congrArg some h6)) ⟨Below.refl _ _, rfl, nofr rfl⟩
          refine ⟨fun wu8 hC hd => ?_, ?_⟩
          · obtain ⟨h7, _⟩ := hd
            skip
            replace h7 : V 7 = (.bool false) := h7
            replace hb := hb.trans (hC.mono hb.size)
            replace hk2 := blk_ext hk2 hC
            replace hk4 := blk_ext hk4 hC
            replace hr1 := Row.ext hr1 hC
            refine ⟨true, false, congrArg some h7, fun hact => ?_, fun hact => ?_⟩
            · exact Runs.does (Runs.veq (r_move rfl) (congrArg Value.bool (show _ = true from hsp1))) ⟨Below.refl _ _, rfl, nofr rfl⟩
            · exfalso; simp at hact
          refine ⟨fun wu9 hC hd => ?_, ?_⟩
          · obtain ⟨h7, h8, _⟩ := hd
            skip
            skip
            replace h7 : V 7 = (.bool false) := h7
            replace h8 : V 8 = (.bool true) := h8
            replace hb := hb.trans (hC.mono hb.size)
            replace hk2 := blk_ext hk2 hC
            replace hk4 := blk_ext hk4 hC
            replace hr1 := Row.ext hr1 hC
            refine ⟨true, false, congrArg some h7, fun hact => ?_, fun hact => ?_⟩
            · exact Runs.does (r_move (congrArg some h8)) ⟨Below.refl _ _, rfl, nofr rfl⟩
            · exfalso; simp at hact
          refine ⟨fun wu10 hC hd => ?_, ?_⟩
          · obtain ⟨h9, _⟩ := hd
            skip
            replace h9 : V 9 = (.bool true) := h9
            replace hb := hb.trans (hC.mono hb.size)
            replace hk2 := blk_ext hk2 hC
            replace hk4 := blk_ext hk4 hC
            replace hr1 := Row.ext hr1 hC
            refine ⟨true, true, congrArg some h9, fun hact => ?_, fun hact => ?_⟩
            · exact Runs.does (r_move rfl) ⟨Below.refl _ _, rfl, nofr rfl⟩
            · exfalso; simp at hact
          refine ⟨fun wu11 hC hd => ?_, ?_⟩
          · obtain ⟨h9, h10, _⟩ := hd
            skip
            skip
            replace h9 : V 9 = (.bool true) := h9
            replace h10 : V 10 = (.slice qa1 ((writeT op v).1.length) qc1) := h10
            replace hb := hb.trans (hC.mono hb.size)
            replace hk2 := blk_ext hk2 hC
            replace hk4 := blk_ext hk4 hC
            replace hr1 := Row.ext hr1 hC
            refine ⟨true, true, congrArg some h9, fun hact => ?_, fun hact => ?_⟩
            · exact Runs.does (r_rowstr (congrArg some h10) Try.underlying84 Try.underlying5 Try.underlying9 hr1) ⟨Below.refl _ _, rfl, nofr rfl⟩
            · exfalso; simp at hact
          refine ⟨fun wu12 hC hd => ?_, ?_⟩
          · obtain ⟨h9, _⟩ := hd
            skip
            replace h9 : V 9 = (.bool true) := h9
            replace hb := hb.trans (hC.mono hb.size)
            replace hk2 := blk_ext hk2 hC
            replace hk4 := blk_ext hk4 hC
            replace hr1 := Row.ext hr1 hC
            refine ⟨true, true, congrArg some h9, fun hact => ?_, fun hact => ?_⟩
            · exact Runs.does (r_move rfl) ⟨Below.refl _ _, rfl, nofr rfl⟩
            · exfalso; simp at hact
          refine ⟨fun wu13 hC hd => ?_, ?_⟩
          · obtain ⟨h9, _⟩ := hd
            skip
            replace h9 : V 9 = (.bool true) := h9
            replace hb := hb.trans (hC.mono hb.size)
            replace hk2 := blk_ext hk2 hC
            replace hk4 := blk_ext hk4 hC
            replace hr1 := Row.ext hr1 hC
            refine ⟨true, true, congrArg some h9, fun hact => ?_, fun hact => ?_⟩
            · exact Runs.does (r_move rfl) ⟨Below.refl _ _, rfl, nofr rfl⟩
            · exfalso; simp at hact
          refine ⟨fun wu14 hC hd => ?_, ?_⟩
          · obtain ⟨h9, h12, h13, _⟩ := hd
            skip
            skip
            skip
            replace h9 : V 9 = (.bool true) := h9
            replace h12 : V 12 = (.int .u64 ((v : Nat) : Int)) := h12
            replace h13 : V 13 = (.int .i64 ((accT op).1)) := h13
            replace hb := hb.trans (hC.mono hb.size)
            replace hk2 := blk_ext hk2 hC
            replace hk4 := blk_ext hk4 hC
            replace hr1 := Row.ext hr1 hC
            refine ⟨true, true, congrArg some h9, fun hact => ?_, fun hact => ?_⟩
            · refine Does.mono (d_callB (vs := [(.int .u64 ((v : Nat) : Int)), (.int .i64 ((accT op).1))]) (show [some (V 12), some (V 13)] = [some (.int .u64 ((v : Nat) : Int)), some (.int .i64 ((accT op).1))] from by rw [h12, h13]) Try.func50 (by kernel_rfl) (by kernel_rfl) (dbytes_any v (accT op).1 _ hv)) (fun _ _ h => ⟨h.2, h.1, nofr rfl⟩)
            · exfalso; simp at hact
          refine ⟨fun wu15 hC hd => ?_, ?_⟩
          · obtain ⟨h9, h11, h14, _⟩ := hd
            skip
            skip
            skip
            replace h9 : V 9 = (.bool true) := h9
            replace h11 : V 11 = (.string (strOfNums (writeT op v).1)) := h11
            replace h14 : V 14 = (.string (strOfNums (bytesN (capN (accT op).1) v))) := h14
            replace hb := hb.trans (hC.mono hb.size)
            replace hk2 := blk_ext hk2 hC
            replace hk4 := blk_ext hk4 hC
            replace hr1 := Row.ext hr1 hC
            refine ⟨true, true, congrArg some h9, fun hact => ?_, fun hact => ?_⟩
            · exact Runs.does (Runs.veq (r_seq (congrArg some h11) (congrArg some h14)) (congrArg Value.bool (show _ = true from (by rw [writeT_yes hsp1]; simp)))) ⟨Below.refl _ _, rfl, nofr rfl⟩
            · exfalso; simp at hact
          refine ⟨fun wu16 hC hd => ?_, ?_⟩
          · obtain ⟨h7, h9, h15, _⟩ := hd
            skip
            skip
            skip
            replace h7 : V 7 = (.bool false) := h7
            replace h9 : V 9 = (.bool true) := h9
            replace h15 : V 15 = (.bool true) := h15
            replace hb := hb.trans (hC.mono hb.size)
            replace hk2 := blk_ext hk2 hC
            replace hk4 := blk_ext hk4 hC
            replace hr1 := Row.ext hr1 hC
            refine ⟨true, false, congrArg some h7, fun hact => ?_, fun hact => ?_⟩
            · exact Runs.does (r_pick (b := true) (congrArg some h9) (congrArg some h15) rfl rfl) ⟨Below.refl _ _, rfl, nofr rfl⟩
            · exfalso; simp at hact
          refine ⟨fun wu17 hC hd => ?_, ?_⟩
          · obtain ⟨h7, h16, _⟩ := hd
            skip
            skip
            replace h7 : V 7 = (.bool false) := h7
            replace h16 : V 16 = (.bool true) := h16
            replace hb := hb.trans (hC.mono hb.size)
            replace hk2 := blk_ext hk2 hC
            replace hk4 := blk_ext hk4 hC
            replace hr1 := Row.ext hr1 hC
            exact Runs.does (r_pick (b := false) (congrArg some h7) rfl (congrArg some h16) rfl) ⟨Below.refl _ _, rfl, nofr rfl⟩
          refine ⟨fun wu18 hC hd => ?_, ?_⟩
          · obtain ⟨h0, h1, h2, h3, h4, h5, h6, h7, h8, h9, h10, h11, h12, h13, h14, h15, h16, h17, _⟩ := hd
            skip
            skip
            skip
            skip
            skip
            skip
            skip
            skip
            skip
            skip
            skip
            skip
            skip
            skip
            skip
            skip
            skip
            skip
            replace h0 : V 0 = (.bool true) := h0
            replace h1 : V 1 = (.bool false) := h1
            replace h2 : V 2 = (.bool false) := h2
            replace h3 : V 3 = gb false (.bool false) := h3
            replace h4 : V 4 = gb false (.bool false) := h4
            replace h5 : V 5 = gb false (.bool false) := h5
            replace h6 : V 6 = (.bool false) := h6
            replace h7 : V 7 = (.bool false) := h7
            replace h8 : V 8 = (.bool true) := h8
            replace h9 : V 9 = (.bool true) := h9
            replace h10 : V 10 = (.slice qa1 ((writeT op v).1.length) qc1) := h10
            replace h11 : V 11 = (.string (strOfNums (writeT op v).1)) := h11
            replace h12 : V 12 = (.int .u64 ((v : Nat) : Int)) := h12
            replace h13 : V 13 = (.int .i64 ((accT op).1)) := h13
            replace h14 : V 14 = (.string (strOfNums (bytesN (capN (accT op).1) v))) := h14
            replace h15 : V 15 = (.bool true) := h15
            replace h16 : V 16 = (.bool true) := h16
            replace h17 : V 17 = (.bool true) := h17
            replace hb := hb.trans (hC.mono hb.size)
            replace hk2 := blk_ext hk2 hC
            replace hk4 := blk_ext hk4 hC
            replace hr1 := Row.ext hr1 hC
            exact Runs.does (r_assign (congrArg some h17)) ⟨Below.refl _ _, rfl, nofr rfl⟩
          trivial
        · skip
          clear hf fa; intro V w11 fa he9 hp hnb hf
          have hv0 : V 0 = (.bool true) := postsHold_at hp 0 rfl
          have hv1 : V 1 = (.bool false) := postsHold_at hp 1 rfl
          have hv2 : V 2 = (.bool false) := postsHold_at hp 2 rfl
          have hv3 : V 3 = gb false (.bool false) := postsHold_at hp 3 rfl
          have hv4 : V 4 = gb false (.bool false) := postsHold_at hp 4 rfl
          have hv5 : V 5 = gb false (.bool false) := postsHold_at hp 5 rfl
          have hv6 : V 6 = (.bool false) := postsHold_at hp 6 rfl
          have hv7 : V 7 = (.bool false) := postsHold_at hp 7 rfl
          have hv8 : V 8 = (.bool true) := postsHold_at hp 8 rfl
          have hv9 : V 9 = (.bool true) := postsHold_at hp 9 rfl
          have hv10 : V 10 = (.slice qa1 ((writeT op v).1.length) qc1) := postsHold_at hp 10 rfl
          have hv11 : V 11 = (.string (strOfNums (writeT op v).1)) := postsHold_at hp 11 rfl
          have hv12 : V 12 = (.int .u64 ((v : Nat) : Int)) := postsHold_at hp 12 rfl
          have hv13 : V 13 = (.int .i64 ((accT op).1)) := postsHold_at hp 13 rfl
          have hv14 : V 14 = (.string (strOfNums (bytesN (capN (accT op).1) v))) := postsHold_at hp 14 rfl
          have hv15 : V 15 = (.bool true) := postsHold_at hp 15 rfl
          have hv16 : V 16 = (.bool true) := postsHold_at hp 16 rfl
          have hv17 : V 17 = (.bool true) := postsHold_at hp 17 rfl
          have hv18 : V 18 = (.bool true) := postsHold_at hp 18 rfl
          simp only [List.take_succ_cons, List.take_zero, insAll, ins, hv0, hv1, hv2, hv3, hv4, hv5, hv6, hv7, hv8, hv9, hv10, hv11, hv12, hv13, hv14, hv15, hv16, hv17, hv18] at hf
          clear hp hnb hv0 hv1 hv2 hv3 hv4 hv5 hv6 hv7 hv8 hv9 hv10 hv11 hv12 hv13 hv14 hv15 hv16 hv17 hv18
          replace hk2 := blk_ext hk2 he9
          replace hk4 := blk_ext hk4 he9
          replace hr1 := Row.ext hr1 he9
          replace hb := hb.trans (Below.mono he9 hb.size)
          (try simp only [Exit.then, Exit.inBlock, ↓reduceIte, Nat.reduceEqDiff])
          refine hK13 _ _ ?_
          refine wp_ret ?_
          (try simp only [Exit.then, Exit.inBlock])
          refine ret1 hf rfl rfl ?_
          exact ⟨rfl, hb⟩
      · have hsp1b : decide ((writeT op v).2 = true) = false := decide_eq_false hsp1
        refine wp_region_un (fun wq => Below w10.heap.size w10 wq) (fun w w' => Below w.heap.size w w')
          (fun V => [(fun x _ => x = (.bool false)), (fun x _ => x = (.bool true)), (fun x _ => x = (.bool true)), (fun x _ => x = (.slice qa1 ((writeT op v).1.length) qc1)), (fun x _ => x = (.int .i64 (((writeT op v).1.length : Nat) : Int))), (fun x _ => x = (.bool true)), (fun x _ => x = (.bool true)), (fun x _ => x = (.bool true)), (fun x _ => x = gb false (.bool false)), (fun x _ => x = gb false (.bool false)), (fun x _ => x = gb false (.bool false)), (fun x _ => x = gb false (.bool false)), (fun x _ => x = gb false (.bool false)), (fun x _ => x = gb false (.bool false)), (fun x _ => x = gb false (.bool false)), (fun x _ => x = gb false (.bool false)), (fun x _ => x = gb false (.bool false)), (fun x _ => x = (.bool true)), (fun x _ => x = (.bool true))])
          []
          [[], [0], [1], [2], [2, 3], [2, 4], [2, 5], [2, 6], [7], [7, 8], [9], [9, 10], [9], [9], [9, 12, 13], [9, 11, 14], [7, 9, 15], [7, 16], [0, 1, 2, 3, 4, 5, 6, 7, 8, 9, 10, 11, 12, 13, 14, 15, 16, 17]]
          hf (by kernel_rfl) (by kernel_rfl) (fun _ => rfl) ((Below.refl _ _).drew) (fun a b h1 h2 => h1.trans (h2.mono h1.size)) (fun _ _ h => h.size) (fun V => ⟨kept_eq, kept_eq, kept_eq, kept_eq, kept_eq, kept_eq, kept_eq, kept_eq, kept_eq, kept_eq, kept_eq, kept_eq, kept_eq, kept_eq, kept_eq, kept_eq, kept_eq, kept_eq, kept_eq, trivial⟩) (fun _ _ _ _ _ => rfl) ?_ ?_
        · skip
          intro V
          refine ⟨fun wu0 hC hd => ?_, ?_⟩
          · clear hd
            replace hb := hb.trans (hC.mono hb.size)
            replace hk2 := blk_ext hk2 hC
            replace hk4 := blk_ext hk4 hC
            replace hr1 := Row.ext hr1 hC
            exact Runs.does (Runs.veq (r_move rfl) (congrArg Value.bool (show _ = false from (by have h := hsp1; simpa using h)))) ⟨Below.refl _ _, rfl, nofr rfl⟩
          refine ⟨fun wu1 hC hd => ?_, ?_⟩
          · obtain ⟨h0, _⟩ := hd
            skip
            replace h0 : V 0 = (.bool false) := h0
            replace hb := hb.trans (hC.mono hb.size)
            replace hk2 := blk_ext hk2 hC
            replace hk4 := blk_ext hk4 hC
            replace hr1 := Row.ext hr1 hC
            exact Runs.does (Runs.veq (v' := (.bool true)) (r_not (congrArg some h0)) rfl) ⟨Below.refl _ _, rfl, nofr rfl⟩
          refine ⟨fun wu2 hC hd => ?_, ?_⟩
          · obtain ⟨h1, _⟩ := hd
            skip
            replace h1 : V 1 = (.bool true) := h1
            replace hb := hb.trans (hC.mono hb.size)
            replace hk2 := blk_ext hk2 hC
            replace hk4 := blk_ext hk4 hC
            replace hr1 := Row.ext hr1 hC
            exact Runs.does (r_move (congrArg some h1)) ⟨Below.refl _ _, rfl, nofr rfl⟩
          refine ⟨fun wu3 hC hd => ?_, ?_⟩
          · obtain ⟨h2, _⟩ := hd
            skip
            replace h2 : V 2 = (.bool true) := h2
            replace hb := hb.trans (hC.mono hb.size)
            replace hk2 := blk_ext hk2 hC
            replace hk4 := blk_ext hk4 hC
            replace hr1 := Row.ext hr1 hC
            refine ⟨true, true, congrArg some h2, fun hact => ?_, fun hact => ?_⟩
            · exact Runs.does (r_move rfl) ⟨Below.refl _ _, rfl, nofr rfl⟩
            · exfalso; simp at hact
          refine ⟨fun wu4 hC hd => ?_, ?_⟩
          · obtain ⟨h2, h3, _⟩ := hd
            skip
            skip
            replace h2 : V 2 = (.bool true) := h2
            replace h3 : V 3 = (.slice qa1 ((writeT op v).1.length) qc1) := h3
            replace hb := hb.trans (hC.mono hb.size)
            replace hk2 := blk_ext hk2 hC
            replace hk4 := blk_ext hk4 hC
            replace hr1 := Row.ext hr1 hC
            refine ⟨true, true, congrArg some h2, fun hact => ?_, fun hact => ?_⟩
            · exact Runs.does (r_lensl (congrArg some h3) Try.underlying84) ⟨Below.refl _ _, rfl, nofr rfl⟩
            · exfalso; simp at hact
          refine ⟨fun wu5 hC hd => ?_, ?_⟩
          · obtain ⟨h2, h4, _⟩ := hd
            skip
            skip
            replace h2 : V 2 = (.bool true) := h2
            replace h4 : V 4 = (.int .i64 (((writeT op v).1.length : Nat) : Int)) := h4
            replace hb := hb.trans (hC.mono hb.size)
            replace hk2 := blk_ext hk2 hC
            replace hk4 := blk_ext hk4 hC
            replace hr1 := Row.ext hr1 hC
            refine ⟨true, true, congrArg some h2, fun hact => ?_, fun hact => ?_⟩
            · exact Runs.does (Runs.veq (r_eq (congrArg some h4) rfl) (congrArg Value.bool (show _ = true from (by rw [writeT_no (by have h := hsp1; simpa using h)]; rfl)))) ⟨Below.refl _ _, rfl, nofr rfl⟩
            · exfalso; simp at hact
          refine ⟨fun wu6 hC hd => ?_, ?_⟩
          · obtain ⟨h2, h5, _⟩ := hd
            skip
            skip
            replace h2 : V 2 = (.bool true) := h2
            replace h5 : V 5 = (.bool true) := h5
            replace hb := hb.trans (hC.mono hb.size)
            replace hk2 := blk_ext hk2 hC
            replace hk4 := blk_ext hk4 hC
            replace hr1 := Row.ext hr1 hC
            exact Runs.does (r_pick (b := true) (congrArg some h2) (congrArg some h5) rfl rfl) ⟨Below.refl _ _, rfl, nofr rfl⟩
          refine ⟨fun wu7 hC hd => ?_, ?_⟩
          · obtain ⟨h2, h6, _⟩ := hd
            skip
            skip
            replace h2 : V 2 = (.bool true) := h2
            replace h6 : V 6 = (.bool true) := h6
            replace hb := hb.trans (hC.mono hb.size)
            replace hk2 := blk_ext hk2 hC
            replace hk4 := blk_ext hk4 hC
            replace hr1 := Row.ext hr1 hC
            exact Runs.does (r_move (congrArg some h6)) ⟨Below.refl _ _, rfl, nofr rfl⟩
          refine ⟨fun wu8 hC hd => ?_, ?_⟩
          · obtain ⟨h7, _⟩ := hd
            skip
            replace h7 : V 7 = (.bool true) := h7
            replace hb := hb.trans (hC.mono hb.size)
            replace hk2 := blk_ext hk2 hC
            replace hk4 := blk_ext hk4 hC
            replace hr1 := Row.ext hr1 hC
            refine ⟨true, true, congrArg some h7, fun hact => ?_, fun hact => ?_⟩
            · exfalso; simp at hact
            · exact ⟨Below.refl _ _, rfl, nofr rfl⟩
          refine ⟨fun wu9 hC hd => ?_, ?_⟩
          · obtain ⟨h7, h8, _⟩ := hd
            skip
            skip
            replace h7 : V 7 = (.bool true) := h7
            replace h8 : V 8 = gb false (.bool false) := h8
            replace hb := hb.trans (hC.mono hb.size)
            replace hk2 := blk_ext hk2 hC
            replace hk4 := blk_ext hk4 hC
            replace hr1 := Row.ext hr1 hC
            refine ⟨true, true, congrArg some h7, fun hact => ?_, fun hact => ?_⟩
            · exfalso; simp at hact
            · exact ⟨Below.refl _ _, rfl, nofr rfl⟩
          refine ⟨fun wu10 hC hd => ?_, ?_⟩
          · obtain ⟨h9, _⟩ := hd
            skip
            replace h9 : V 9 = gb false (.bool false) := h9
            replace hb := hb.trans (hC.mono hb.size)
            replace hk2 := blk_ext hk2 hC
            replace hk4 := blk_ext hk4 hC
            replace hr1 := Row.ext hr1 hC
            refine ⟨false, false, congrArg some h9, fun hact => ?_, fun hact => ?_⟩
            · exfalso; simp at hact
            · exact ⟨Below.refl _ _, rfl, nofr rfl⟩
          refine ⟨fun wu11 hC hd => ?_, ?_⟩
          · obtain ⟨h9, h10, _⟩ := hd
            skip
            skip
            replace h9 : V 9 = gb false (.bool false) := h9
            replace h10 : V 10 = gb false (.bool false) := h10
            replace hb := hb.trans (hC.mono hb.size)
            replace hk2 := blk_ext hk2 hC
            replace hk4 := blk_ext hk4 hC
            replace hr1 := Row.ext hr1 hC
            refine ⟨false, false, congrArg some h9, fun hact => ?_, fun hact => ?_⟩
            · exfalso; simp at hact
            · exact ⟨Below.refl _ _, rfl, nofr rfl⟩
          refine ⟨fun wu12 hC hd => ?_, ?_⟩
          · obtain ⟨h9, _⟩ := hd
            skip
            replace h9 : V 9 = gb false (.bool false) := h9
            replace hb := hb.trans (hC.mono hb.size)
            replace hk2 := blk_ext hk2 hC
            replace hk4 := blk_ext hk4 hC
            replace hr1 := Row.ext hr1 hC
            refine ⟨false, false, congrArg some h9, fun hact => ?_, fun hact => ?_⟩
            · exfalso; simp at hact
            · exact ⟨Below.refl _ _, rfl, nofr rfl⟩
          refine ⟨fun wu13 hC hd => ?_, ?_⟩
          · obtain ⟨h9, _⟩ := hd
            skip
            replace h9 : V 9 = gb false (.bool false) := h9
            replace hb := hb.trans (hC.mono hb.size)
            replace hk2 := blk_ext hk2 hC
            replace hk4 := blk_ext hk4 hC
            replace hr1 := Row.ext hr1 hC
            refine ⟨false, false, congrArg some h9, fun hact => ?_, fun hact => ?_⟩
            · exfalso; simp at hact
            · exact ⟨Below.refl _ _, rfl, nofr rfl⟩
          refine ⟨fun wu14 hC hd => ?_, ?_⟩
          · obtain ⟨h9, h12, h13, _⟩ := hd
            skip
            skip
            skip
            replace h9 : V 9 = gb false (.bool false) := h9
            replace h12 : V 12 = gb false (.bool false) := h12
            replace h13 : V 13 = gb false (.bool false) := h13
            replace hb := hb.trans (hC.mono hb.size)
            replace hk2 := blk_ext hk2 hC
            replace hk4 := blk_ext hk4 hC
            replace hr1 := Row.ext hr1 hC
            refine ⟨false, false, congrArg some h9, fun hact => ?_, fun hact => ?_⟩
            · exfalso; simp at hact
            · exact ⟨Below.refl _ _, rfl, nofr rfl⟩
          refine ⟨fun wu15 hC hd => ?_, ?_⟩
          · obtain ⟨h9, h11, h14, _⟩ := hd
            skip
            skip
            skip
            replace h9 : V 9 = gb false (.bool false) := h9
            replace h11 : V 11 = gb false (.bool false) := h11
            replace h14 : V 14 = gb false (.bool false) := h14
            replace hb := hb.trans (hC.mono hb.size)
            replace hk2 := blk_ext hk2 hC
            replace hk4 := blk_ext hk4 hC
            replace hr1 := Row.ext hr1 hC
            refine ⟨false, false, congrArg some h9, fun hact => ?_, fun hact => ?_⟩
            · exfalso; simp at hact
            · exact ⟨Below.refl _ _, rfl, nofr rfl⟩
          refine ⟨fun wu16 hC hd => ?_, ?_⟩
          · obtain ⟨h7, h9, h15, _⟩ := hd
            skip
            skip
            skip
            replace h7 : V 7 = (.bool true) := h7
            replace h9 : V 9 = gb false (.bool false) := h9
            replace h15 : V 15 = gb false (.bool false) := h15
            replace hb := hb.trans (hC.mono hb.size)
            replace hk2 := blk_ext hk2 hC
            replace hk4 := blk_ext hk4 hC
            replace hr1 := Row.ext hr1 hC
            refine ⟨true, true, congrArg some h7, fun hact => ?_, fun hact => ?_⟩
            · exfalso; simp at hact
            · exact ⟨Below.refl _ _, rfl, nofr rfl⟩
          refine ⟨fun wu17 hC hd => ?_, ?_⟩
          · obtain ⟨h7, h16, _⟩ := hd
            skip
            skip
            replace h7 : V 7 = (.bool true) := h7
            replace h16 : V 16 = gb false (.bool false) := h16
            replace hb := hb.trans (hC.mono hb.size)
            replace hk2 := blk_ext hk2 hC
            replace hk4 := blk_ext hk4 hC
            replace hr1 := Row.ext hr1 hC
            exact Runs.does (r_pick (b := true) (congrArg some h7) rfl (congrArg some h16) rfl) ⟨Below.refl _ _, rfl, nofr rfl⟩
          refine ⟨fun wu18 hC hd => ?_, ?_⟩
          · obtain ⟨h0, h1, h2, h3, h4, h5, h6, h7, h8, h9, h10, h11, h12, h13, h14, h15, h16, h17, _⟩ := hd
            skip
            skip
            skip
            skip
            skip
            skip
            skip
            skip
            skip
            skip
            skip
            skip
            skip
            skip
            skip
            skip
            skip
            skip
            replace h0 : V 0 = (.bool false) := h0
            replace h1 : V 1 = (.bool true) := h1
            replace h2 : V 2 = (.bool true) := h2
            replace h3 : V 3 = (.slice qa1 ((writeT op v).1.length) qc1) := h3
            replace h4 : V 4 = (.int .i64 (((writeT op v).1.length : Nat) : Int)) := h4
            replace h5 : V 5 = (.bool true) := h5
            replace h6 : V 6 = (.bool true) := h6
            replace h7 : V 7 = (.bool true) := h7
            replace h8 : V 8 = gb false (.bool false) := h8
            replace h9 : V 9 = gb false (.bool false) := h9
            replace h10 : V 10 = gb false (.bool false) := h10
            replace h11 : V 11 = gb false (.bool false) := h11
            replace h12 : V 12 = gb false (.bool false) := h12
            replace h13 : V 13 = gb false (.bool false) := h13
            replace h14 : V 14 = gb false (.bool false) := h14
            replace h15 : V 15 = gb false (.bool false) := h15
            replace h16 : V 16 = gb false (.bool false) := h16
            replace h17 : V 17 = (.bool true) := h17
            replace hb := hb.trans (hC.mono hb.size)
            replace hk2 := blk_ext hk2 hC
            replace hk4 := blk_ext hk4 hC
            replace hr1 := Row.ext hr1 hC
            exact Runs.does (r_assign (congrArg some h17)) ⟨Below.refl _ _, rfl, nofr rfl⟩
          trivial
        · skip
          clear hf fa; intro V w12 fa he10 hp hnb hf
          have hv0 : V 0 = (.bool false) := postsHold_at hp 0 rfl
          have hv1 : V 1 = (.bool true) := postsHold_at hp 1 rfl
          have hv2 : V 2 = (.bool true) := postsHold_at hp 2 rfl
          have hv3 : V 3 = (.slice qa1 ((writeT op v).1.length) qc1) := postsHold_at hp 3 rfl
          have hv4 : V 4 = (.int .i64 (((writeT op v).1.length : Nat) : Int)) := postsHold_at hp 4 rfl
          have hv5 : V 5 = (.bool true) := postsHold_at hp 5 rfl
          have hv6 : V 6 = (.bool true) := postsHold_at hp 6 rfl
          have hv7 : V 7 = (.bool true) := postsHold_at hp 7 rfl
          have hv8 : V 8 = gb false (.bool false) := postsHold_at hp 8 rfl
          have hv9 : V 9 = gb false (.bool false) := postsHold_at hp 9 rfl
          have hv10 : V 10 = gb false (.bool false) := postsHold_at hp 10 rfl
          have hv11 : V 11 = gb false (.bool false) := postsHold_at hp 11 rfl
          have hv12 : V 12 = gb false (.bool false) := postsHold_at hp 12 rfl
          have hv13 : V 13 = gb false (.bool false) := postsHold_at hp 13 rfl
          have hv14 : V 14 = gb false (.bool false) := postsHold_at hp 14 rfl
          have hv15 : V 15 = gb false (.bool false) := postsHold_at hp 15 rfl
          have hv16 : V 16 = gb false (.bool false) := postsHold_at hp 16 rfl
          have hv17 : V 17 = (.bool true) := postsHold_at hp 17 rfl
          have hv18 : V 18 = (.bool true) := postsHold_at hp 18 rfl
          simp only [List.take_succ_cons, List.take_zero, insAll, ins, hv0, hv1, hv2, hv3, hv4, hv5, hv6, hv7, hv8, hv9, hv10, hv11, hv12, hv13, hv14, hv15, hv16, hv17, hv18] at hf
          clear hp hnb hv0 hv1 hv2 hv3 hv4 hv5 hv6 hv7 hv8 hv9 hv10 hv11 hv12 hv13 hv14 hv15 hv16 hv17 hv18
          replace hk2 := blk_ext hk2 he10
          replace hk4 := blk_ext hk4 he10
          replace hr1 := Row.ext hr1 he10
          replace hb := hb.trans (Below.mono he10 hb.size)
          (try simp only [Exit.then, Exit.inBlock, ↓reduceIte, Nat.reduceEqDiff])
          refine hK13 _ _ ?_
          refine wp_ret ?_
          (try simp only [Exit.then, Exit.inBlock])
          refine ret1 hf rfl rfl ?_
          exact ⟨rfl, hb⟩
end Go.Proofs.Ytmcmickgllffoaa
