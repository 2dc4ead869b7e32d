/- What is proved here: a memory: a call at both. -/
import Derived.Test.YtmcmickgllffoaaMpEp
namespace Go.Proofs.Ytmcmickgllffoaa
open Go.RowKit
set_option linter.unusedVariables false
set_option linter.unusedSimpArgs false
theorem St26.grown {B p ln b T2 : Nat} {w w' : World} {mo : Int} {C : List MCe} {cs : Array Value} {fr : Nat × Nat} (h : St26 B w p ln mo C) (hg : w.grownBy w' (some b)) (hb : w.heap[b]? = some (.cells cs T2 fr)) (h1 : (152 == T2) = false) (h2 : (5 == T2) = false) : St26 B w' p ln mo C := by
  obtain ⟨L, k1, k2⟩ := h
  obtain ⟨mg, cap, p1, p2, p3⟩ := k1.parts
  refine ⟨L, ⟨p3, mg, cap, blk_grown p1 hg (blk_ty p1 hb h1), ?_⟩, k2⟩
  have h4 : w'.ownsRow B 5 1 (.slice (some ⟨mg, 0, none⟩) L.length cap) L.length (L.flatMap (vInt .u8)) := p2.kt (KT.grown hg hb h2)
  rw [mapU8] at h4
  exact h4
theorem KT.grownI {T b : Nat} {w1 w w' : World} (h : KT T w1 w) (hg : w.grownBy w' (some b)) (hb : w1.heap.size ≤ b) : KT T w1 w' := fun bf cs h2 => blk_grown (h bf cs h2) hg (by have := (Array.getElem?_eq_some_iff.1 h2).1; omega)
theorem rdF_take (C : List MCe) (k : Nat) : ∀ n m, m ≤ n → (rdF C k n).take m = rdF C k m
  | n, m, h => by
    apply List.ext_getElem?
    intro i
    rw [List.getElem?_take]
    by_cases hi : i < m
    · rw [if_pos hi, rdF_at C k n i (by omega), rdF_at C k m i hi]
    · rw [if_neg hi, List.getElem?_eq_none (by rw [rdF_len]; omega)]
theorem loads_S {B p ln : Nat} {mo : Int} {ca : Option Addr} {C : List MCe} {cc : Nat} {w : World} (hSt : St26 B w p ln mo C) (hCd : RdS 2 vCe w ca C) (hCl : C.length ≤ 1000000) (kd nn : Int) (at_ op vv ww : Nat) (da : Option Addr) (dn dc : Nat) (ha0 : at_ < 18446744073709551616) (hop : op < 256) (hv0 : vv < 18446744073709551616) (hw0 : ww < 18446744073709551616) : Calls Try.prog 84 #[.pointer (some ⟨p, 0, none⟩), .agg #[.int .i64 ((ln : Nat) : Int), .int .i64 mo, .slice ca C.length cc], .agg #[.int .i64 kd, .int .u64 ((at_ : Nat) : Int), .int .i64 nn, .int .u8 ((op : Nat) : Int), .int .u64 ((vv : Nat) : Int), .int .u64 ((ww : Nat) : Int), .slice da dn dc]] w fun e w' => e = .returned (.bool true) ∧ Below w.heap.size w w' := by
  obtain ⟨hA1, hA2, _⟩ := accT_ok hop
  obtain ⟨n0, hn0⟩ : ∃ n : Nat, (accT op).1 = ((n : Nat) : Int) := ⟨(accT op).1.toNat, by omega⟩
  cases hok : okL op with
  | false => exact loads_A B p ln mo ca C cc w hSt hCd hCl kd nn at_ op vv ww da dn dc ha0 hop hv0 hw0 n0 hn0 (by omega) hok
  | true =>
    cases hi : (plP at_ vv n0 ln).2 with
    | false => exact loads_B B p ln mo ca C cc w hSt hCd hCl kd nn at_ op vv ww da dn dc ha0 hop hv0 hw0 n0 hn0 (by omega) hok hi
    | true => exact loads_C B p ln mo ca C cc w hSt hCd hCl kd nn at_ op vv ww da dn dc ha0 hop hv0 hw0 n0 hn0 (by omega) hok hi
theorem places_S {B p ln : Nat} {mo : Int} {ca : Option Addr} {C : List MCe} {cc : Nat} {w : World} (hSt : St26 B w p ln mo C) (hCd : RdS 2 vCe w ca C) (hCl : C.length ≤ 1000000) (kd nn : Int) (at_ op vv ww : Nat) (da : Option Addr) (dn dc : Nat) (ha0 : at_ < 18446744073709551616) (hop : op < 256) (hv0 : vv < 18446744073709551616) (hw0 : ww < 18446744073709551616) : Calls Try.prog 85 #[.pointer (some ⟨p, 0, none⟩), .agg #[.int .i64 ((ln : Nat) : Int), .int .i64 mo, .slice ca C.length cc], .agg #[.int .i64 kd, .int .u64 ((at_ : Nat) : Int), .int .i64 nn, .int .u8 ((op : Nat) : Int), .int .u64 ((vv : Nat) : Int), .int .u64 ((ww : Nat) : Int), .slice da dn dc]] w fun e w' => e = .returned (.bool true) ∧ Below w.heap.size w w' := by
  obtain ⟨hA1, hA2, _⟩ := accT_ok hop
  obtain ⟨n0, hn0⟩ : ∃ n : Nat, (accT op).1 = ((n : Nat) : Int) := ⟨(accT op).1.toNat, by omega⟩
  cases hwy : (writeT op ww).2 with
  | false => exact places_A B p ln mo ca C cc w hSt hCd hCl kd nn at_ op vv ww da dn dc ha0 hop hv0 hw0 n0 hn0 (by omega) hwy
  | true =>
    have hwn : (writeT op ww).1.length = n0 := by
      rw [writeT_yes hwy, bytesN_len, hn0, capN_nat (by omega)]
    cases hi : (plP at_ vv n0 ln).2 with
    | false => exact places_B B p ln mo ca C cc w hSt hCd hCl kd nn at_ op vv ww da dn dc ha0 hop hv0 hw0 n0 hn0 (by omega) hwy hwn hi
    | true => exact places_C B p ln mo ca C cc w hSt hCd hCl kd nn at_ op vv ww da dn dc ha0 hop hv0 hw0 n0 hn0 (by omega) hwy hwn hi
/-- How many bytes, and which cells, there are behind a call. -/
def doN (kd nn : Int) (at_ ln : Nat) (mo : Int) (C : List MCe) (M : List Int) : Nat × List MCe :=
  if kd = 0 then (ln, if inP ln at_ ((M.length : Nat) : Int) = true then wrC C at_ (strOfNums M) else C)
  else if kd = 2 then (if ((at_ : Nat) : Int) ≤ mo - ((ln / 65536 : Nat) : Int) then (ln + at_ * 65536, C.filter (szQ (((ln : Nat) : Int) + ((at_ : Nat) : Int) * 65536))) else (ln, C))
  else if kd = 3 then (if 0 ≤ nn ∧ nn < ((ln / 65536 : Nat) : Int) then (nn.toNat * 65536, C.filter (szQ (nn * 65536))) else (ln, C))
  else (ln, C)

set_option maxHeartbeats 1000000 in
set_option maxRecDepth 100000 in
theorem do26_any (w0 w : World) (hb : Below w0.heap.size w0 w) (p ln : Nat) (mo : Int) (ca : Option Addr) (C : List MCe) (cc : Nat) (hSt : St26 w0.heap.size w p ln mo C) (hrr : Row 2 vCe 162 w0.heap.size w (.slice ca C.length cc) C) (hCl : C.length ≤ 1000000) (kd nn : Int) (at_ op vv ww : Nat) (da : Option Addr) (M : List Int) (dc : Nat) (hMd : RdS 1 (vInt .u8) w0 da M) (hM6 : ∀ x ∈ M, 0 ≤ x ∧ x < 256) (hMl : M.length ≤ 1000000) (ha0 : at_ < 18446744073709551616) (hop : op < 256) (hv0 : vv < 18446744073709551616) (hw0 : ww < 18446744073709551616) (hnn : -9223372036854775808 ≤ nn ∧ nn < 9223372036854775808) : Calls Try.prog 60 #[(.pointer (some ⟨p, 0, none⟩)), (.agg #[(.int .i64 ((ln : Nat) : Int)), (.int .i64 mo), (.slice ca C.length cc)]), (.agg #[(.int .i64 kd), (.int .u64 ((at_ : Nat) : Int)), (.int .i64 nn), (.int .u8 ((op : Nat) : Int)), (.int .u64 ((vv : Nat) : Int)), (.int .u64 ((ww : Nat) : Int)), (.slice da M.length dc)])] w fun e w' => ∃ x, e = .returned x ∧ ∃ sv, x = .tuple #[.agg #[.int .i64 (((doN kd nn at_ ln mo C M).1 : Nat) : Int), .int .i64 mo, sv], .bool true] ∧ Row 2 vCe 162 w0.heap.size w' sv (doN kd nn at_ ln mo C M).2 ∧ St26 w0.heap.size w' p (doN kd nn at_ ln mo C M).1 mo (doN kd nn at_ ln mo C M).2 ∧ Below w0.heap.size w0 w' ∧ KT 111 w w' ∧ w.heap.size ≤ w'.heap.size := by
  obtain ⟨hln, hCr, hmd, hpg, hmo⟩ := hSt.nums
  have hrc := Row.caps hrr
  have hK := KT.refl 111 w
  have hZ := Nat.le_refl w.heap.size
  refine sx_enter (L := [(0, (.pointer (some ⟨p, 0, none⟩))), (1, (.agg #[(.int .i64 ((ln : Nat) : Int)), (.int .i64 mo), (.slice ca C.length cc)])), (2, (.agg #[(.int .i64 kd), (.int .u64 ((at_ : Nat) : Int)), (.int .i64 nn), (.int .u8 ((op : Nat) : Int)), (.int .u64 ((vv : Nat) : Int)), (.int .u64 ((ww : Nat) : Int)), (.slice da M.length dc)]))]) Try.func60 rfl rfl rfl rfl (fun fa hf => ?_)
  refine wp_seq_k (fun K1 hK1 => ?_)
  refine wp_region_lit ?_
  refine sqdt hf (d_box (cs := #[(.int .i64 ((ln : Nat) : Int)), (.int .i64 mo), (.slice ca C.length cc)]) rfl rfl) rfl rfl rfl ?_; clear hf fa; rintro fa _ w1 ⟨b1, rfl, hle1, hk1, he1⟩ hf
  have hBb1 : w0.heap.size ≤ b1 := Nat.le_trans hb.size hle1
  have hhZb1 := Nat.le_trans hZ hle1
  replace hrr := Row.ext hrr he1
  replace hZ := Nat.le_trans hZ he1.size
  replace hb := hb.trans (Below.mono he1 hb.size)
  replace hSt := hSt.ext he1
  replace hK := hK.trans (KT.of_below he1)
  refine sqdt hf (d_box (cs := #[(.int .i64 kd), (.int .u64 ((at_ : Nat) : Int)), (.int .i64 nn), (.int .u8 ((op : Nat) : Int)), (.int .u64 ((vv : Nat) : Int)), (.int .u64 ((ww : Nat) : Int)), (.slice da M.length dc)]) rfl rfl) rfl rfl rfl ?_; clear hf fa; rintro fa _ w2 ⟨b2, rfl, hle2, hk2, he2⟩ hf
  have hBb2 : w0.heap.size ≤ b2 := Nat.le_trans hb.size hle2
  have : b1 < b2 := Nat.lt_of_lt_of_le (blk_lt hk1) hle2
  have hhZb2 := Nat.le_trans hZ hle2
  replace hk1 := blk_ext hk1 he2
  replace hrr := Row.ext hrr he2
  replace hZ := Nat.le_trans hZ he2.size
  replace hb := hb.trans (Below.mono he2 hb.size)
  replace hSt := hSt.ext he2
  replace hK := hK.trans (KT.of_below he2)
  refine sqdt hf (d_alloc (z := (.agg #[(.int .i64 (0 : Int)), (.int .i64 (0 : Int)), (.slice none 0 0)])) (cs := #[(.int .i64 (0 : Int)), (.int .i64 (0 : Int)), (.slice none 0 0)]) (by kernel_rfl) rfl) rfl rfl rfl ?_; clear hf fa; rintro fa _ w3 ⟨b3, rfl, hle3, hk3, he3⟩ hf
  have hBb3 : w0.heap.size ≤ b3 := Nat.le_trans hb.size hle3
  have : b1 < b3 := Nat.lt_of_lt_of_le (blk_lt hk1) hle3
  have : b2 < b3 := Nat.lt_of_lt_of_le (blk_lt hk2) hle3
  have hhZb3 := Nat.le_trans hZ hle3
  replace hk1 := blk_ext hk1 he3
  replace hk2 := blk_ext hk2 he3
  replace hrr := Row.ext hrr he3
  replace hZ := Nat.le_trans hZ he3.size
  replace hb := hb.trans (Below.mono he3 hb.size)
  replace hSt := hSt.ext he3
  replace hK := hK.trans (KT.of_below he3)
  refine sqv hf (r_assign rfl) rfl rfl rfl ?_; clear hf fa; intro fa hf
  apply wpList_nil
  (try simp only [Exit.then, Exit.inBlock, ↓reduceIte, Nat.reduceEqDiff])
  refine hK1 _ _ ?_
  refine wp_seq_k (fun K2 hK2 => ?_)
  refine wp_region_lit ?_
  refine sqv hf (r_fa rfl Try.underlying113 (f := 0) (q := 0) rfl (by kernel_rfl) rfl) rfl rfl rfl ?_; clear hf fa; intro fa hf
  refine sqv hf (r_load (v := (.int .i64 kd)) rfl Try.underlying3 rfl (cell_blk hk2 rfl)) rfl rfl rfl ?_; clear hf fa; intro fa hf
  apply wpList_nil
  (try simp only [Exit.then, Exit.inBlock, ↓reduceIte, Nat.reduceEqDiff])
  refine hK2 _ _ ?_
  refine wp_block ?_
  refine wp_seq_k (fun K3 hK3 => ?_)
  refine wp_region_lit ?_
  refine sqv hf (r_eq rfl rfl) rfl rfl rfl ?_; clear hf fa; intro fa hf
  refine sqv hf (r_assign rfl) rfl rfl rfl ?_; clear hf fa; intro fa hf
  apply wpList_nil
  (try simp only [Exit.then, Exit.inBlock, ↓reduceIte, Nat.reduceEqDiff])
  refine hK3 _ _ ?_
  refine wp_cond_split (t := (decide (kd = (0 : Int)))) (hf.ev rfl) (fun hqt18_1 => ?_) (fun hqt18_1 => ?_)
  · have hqt18_1b := hqt18_1
    try simp only [decide_eq_true_eq, Bool.and_eq_true, Bool.or_eq_true, Bool.not_eq_true', decide_eq_false_iff_not, ne_eq, Bool.not_eq_true] at hqt18_1
    refine wp_seq_k (fun K4 hK4 => ?_)
    refine wp_region_lit ?_
    refine sqv hf (r_move rfl) rfl rfl rfl ?_; clear hf fa; intro fa hf
    refine sqv hf (r_fa rfl Try.underlying113 (f := 1) (q := 1) rfl (by kernel_rfl) rfl) rfl rfl rfl ?_; clear hf fa; intro fa hf
    refine sqv hf (r_load (v := (.int .u64 ((at_ : Nat) : Int))) rfl Try.underlying26 rfl (cell_blk hk2 rfl)) rfl rfl rfl ?_; clear hf fa; intro fa hf
    refine sqv hf (r_fa rfl Try.underlying113 (f := 6) (q := 6) rfl (by kernel_rfl) rfl) rfl rfl rfl ?_; clear hf fa; intro fa hf
    refine sqv hf (r_load (v := (.slice da M.length dc)) rfl Try.underlying84 rfl (cell_blk hk2 rfl)) rfl rfl rfl ?_; clear hf fa; intro fa hf
    refine sqdt hf (d_callX (vs := [(.pointer (some ⟨p, 0, none⟩)), (.int .u64 ((at_ : Nat) : Int)), (.slice da M.length dc)]) rfl Try.func77 (by kernel_rfl) (by kernel_rfl) (write_S hb hSt (RdS.ext hMd hb) hM6 (by omega) at_ ha0)) rfl rfl rfl ?_; clear hf fa; rintro fa _ w4 ⟨rfl, hS2, hb2, hP2⟩ hf; clear hSt; have hSt : St26 w0.heap.size w4 p ln mo (if inP ln at_ ((M.length : Nat) : Int) = true then wrC C at_ (strOfNums M) else C) := hS2; clear hS2; replace hb := hb2; clear hb2
    replace hk1 := hP2.1 _ _ hk1
    replace hk2 := hP2.2.1 _ _ hk2
    replace hk3 := hP2.1 _ _ hk3
    replace hrr := Row.kt hrr hP2.2.2.1
    replace hK := hK.trans hP2.1
    replace hZ := Nat.le_trans hZ hP2.2.2.2
    clear hP2
    refine sqv hf (r_assign rfl) rfl rfl rfl ?_; clear hf fa; intro fa hf
    apply wpList_nil
    (try simp only [Exit.then, Exit.inBlock, ↓reduceIte, Nat.reduceEqDiff])
    refine hK4 _ _ ?_
    refine wp_seq_k (fun K5 hK5 => ?_)
    refine wp_seq_k (fun K6 hK6 => ?_)
    refine wp_region_lit ?_
    refine sqv hf (r_loadA (cs := [(.int .i64 ((ln : Nat) : Int)), (.int .i64 mo), (.slice ca C.length cc)]) rfl Try.underlying111 rfl (by kernel_rfl) (cellsAt_blk hk1)) rfl rfl rfl ?_; clear hf fa; intro fa hf
    refine sqv hf (r_fa rfl Try.underlying113 (f := 1) (q := 1) rfl (by kernel_rfl) rfl) rfl rfl rfl ?_; clear hf fa; intro fa hf
    refine sqv hf (r_load (v := (.int .u64 ((at_ : Nat) : Int))) rfl Try.underlying26 rfl (cell_blk hk2 rfl)) rfl rfl rfl ?_; clear hf fa; intro fa hf
    refine sqv hf (r_fa rfl Try.underlying113 (f := 6) (q := 6) rfl (by kernel_rfl) rfl) rfl rfl rfl ?_; clear hf fa; intro fa hf
    refine sqv hf (r_load (v := (.slice da M.length dc)) rfl Try.underlying84 rfl (cell_blk hk2 rfl)) rfl rfl rfl ?_; clear hf fa; intro fa hf
    refine sqv hf (r_lensl rfl Try.underlying84) rfl rfl rfl ?_; clear hf fa; intro fa hf
    refine sqdt hf (d_callB (vs := [(.agg #[(.int .i64 ((ln : Nat) : Int)), (.int .i64 mo), (.slice ca C.length cc)]), (.int .u64 ((at_ : Nat) : Int)), (.int .i64 ((M.length : Nat) : Int))]) rfl Try.func78 (by kernel_rfl) (by kernel_rfl) (rin_any ln mo ca C cc _ (Row.rd (by intros; rfl) hrr) (by omega) hCl at_ ((M.length : Nat) : Int) ha0 (by omega))) rfl rfl rfl ?_; clear hf fa; rintro fa _ w5 ⟨rfl, he4⟩ hf
    replace hk1 := blk_ext hk1 he4
    replace hk2 := blk_ext hk2 he4
    replace hk3 := blk_ext hk3 he4
    replace hrr := Row.ext hrr he4
    replace hZ := Nat.le_trans hZ he4.size
    replace hb := hb.trans (Below.mono he4 hb.size)
    replace hSt := hSt.ext he4
    replace hK := hK.trans (KT.of_below he4)
    refine sqv hf (r_not rfl) rfl rfl rfl ?_; clear hf fa; intro fa hf
    apply wpList_nil
    (try simp only [Exit.then, Exit.inBlock, ↓reduceIte, Nat.reduceEqDiff])
    refine hK6 _ _ ?_
    refine wp_cond_split (t := (!(inP ln at_ ((M.length : Nat) : Int)))) (hf.ev rfl) (fun hqt33_1 => ?_) (fun hqt33_1 => ?_)
    · have hqt33_1b := hqt33_1
      try simp only [decide_eq_true_eq, Bool.and_eq_true, Bool.or_eq_true, Bool.not_eq_true', decide_eq_false_iff_not, ne_eq, Bool.not_eq_true] at hqt33_1
      refine wp_seq_k (fun K7 hK7 => ?_)
      refine wp_region_lit ?_
      refine sqv hf (r_loadA (cs := [(.int .i64 ((ln : Nat) : Int)), (.int .i64 mo), (.slice ca C.length cc)]) rfl Try.underlying111 rfl (by kernel_rfl) (cellsAt_blk hk1)) rfl rfl rfl ?_; clear hf fa; intro fa hf
      refine sqv hf (r_move rfl) rfl rfl rfl ?_; clear hf fa; intro fa hf
      refine sqv hf (Runs.veq (r_eq rfl rfl) (congrArg Value.bool (show _ = true from (by have hin : inP ln at_ ((M.length : Nat) : Int) = false := (by have h := hqt33_1; simpa using h); rw [hin]; rfl)))) rfl rfl rfl ?_; clear hf fa; intro fa hf
      refine sqn hf (d_storeK (T := 111) (v := (.agg #[(.int .i64 ((ln : Nat) : Int)), (.int .i64 mo), (.slice ca C.length cc)])) (cs := #[(.int .i64 (0 : Int)), (.int .i64 (0 : Int)), (.slice none 0 0)]) (cs' := #[(.int .i64 ((ln : Nat) : Int)), (.int .i64 mo), (.slice ca C.length cc)]) rfl rfl (by kernel_rfl) (by kernel_rfl) hk3 (by kernel_rfl) (by kernel_rfl)) rfl rfl ?_; clear hf fa; rintro fa _ w6 ⟨hk4, hg1⟩ hf
      replace hk1 := blk_grown hk1 hg1 (by omega)
      replace hk2 := blk_grown hk2 hg1 (by omega)
      replace hrr := Row.grown hrr hg1 (Row.ne_type hrr hk3 rfl)
      replace hZ := Nat.le_trans hZ hg1.size
      replace hb := hb.trans (grown_below hg1 hb.size hBb3)
      replace hSt := hSt.grown hg1 hk3 rfl rfl
      replace hK := hK.grownI hg1 hhZb3
      refine sqv hf (r_assign rfl) rfl rfl rfl ?_; clear hf fa; intro fa hf
      apply wpList_nil
      (try simp only [Exit.then, Exit.inBlock, ↓reduceIte, Nat.reduceEqDiff])
      refine hK7 _ _ ?_
      refine wp_ret ?_
      (try simp only [Exit.then, Exit.inBlock])
      refine retCT hf rfl rfl hk4 Try.underlying111 rfl (by kernel_rfl) rfl ?_
      have hzz := hrr
      have hkd : kd = 0 := hqt18_1
      subst hkd
      have hin : inP ln at_ ((M.length : Nat) : Int) = false := (by have h := hqt33_1; simpa using h)
      have hD : doN 0 nn at_ ln mo C M = (ln, C) := by unfold doN; rw [if_pos rfl, if_neg (by rw [hin]; decide)]
      rw [if_neg (by rw [hin]; decide)] at hSt
      rw [hD]
      exact ⟨_, rfl, _, rfl, hzz, hSt, hb, hK, hZ⟩
    · have hqt33_1b := hqt33_1
      replace hqt33_1 := Bool.eq_false_iff.1 hqt33_1
      try simp only [ne_eq, decide_eq_true_eq, Bool.and_eq_true, Bool.or_eq_true, Bool.not_eq_true', decide_eq_false_iff_not] at hqt33_1
      refine wp_skip ?_
      (try simp only [Exit.then, Exit.inBlock, ↓reduceIte, Nat.reduceEqDiff])
      refine hK5 _ _ ?_
      refine wp_seq_k (fun K8 hK8 => ?_)
      have hin : inP ln at_ ((M.length : Nat) : Int) = true := (by have h := hqt33_1; simpa using h)
      have hin2 : 0 ≤ ((M.length : Nat) : Int) ∧ at_ ≤ ln ∧ ((M.length : Nat) : Int) ≤ ((ln : Nat) : Int) - ((at_ : Nat) : Int) := of_decide_eq_true hin
      refine wp_region_lit ?_
      refine sqv hf (r_loadA (cs := [(.int .i64 ((ln : Nat) : Int)), (.int .i64 mo), (.slice ca C.length cc)]) rfl Try.underlying111 rfl (by kernel_rfl) (cellsAt_blk hk1)) rfl rfl rfl ?_; clear hf fa; intro fa hf
      refine sqv hf (r_fa rfl Try.underlying113 (f := 1) (q := 1) rfl (by kernel_rfl) rfl) rfl rfl rfl ?_; clear hf fa; intro fa hf
      refine sqv hf (r_load (v := (.int .u64 ((at_ : Nat) : Int))) rfl Try.underlying26 rfl (cell_blk hk2 rfl)) rfl rfl rfl ?_; clear hf fa; intro fa hf
      refine sqv hf (r_fa rfl Try.underlying113 (f := 6) (q := 6) rfl (by kernel_rfl) rfl) rfl rfl rfl ?_; clear hf fa; intro fa hf
      refine sqv hf (r_load (v := (.slice da M.length dc)) rfl Try.underlying84 rfl (cell_blk hk2 rfl)) rfl rfl rfl ?_; clear hf fa; intro fa hf
      refine sqv hf (r_rdstr rfl Try.underlying84 Try.underlying5 Try.underlying9 (RdS.ext hMd hb)) rfl rfl rfl ?_; clear hf fa; intro fa hf
      refine sqdt hf (d_callX (vs := [(.agg #[(.int .i64 ((ln : Nat) : Int)), (.int .i64 mo), (.slice ca C.length cc)]), (.int .u64 ((at_ : Nat) : Int)), (.string (strOfNums M))]) rfl Try.func79 (by kernel_rfl) (by kernel_rfl) (rwrite_any ln mo ca C cc _ (Row.rd (by intros; rfl) hrr) (by omega) hCl at_ (strOfNums M) (by omega) (by rw [sz_str hM6]; omega))) rfl rfl rfl ?_; clear hf fa; rintro fa _ w7 ⟨na, nc, rfl, hnr, he5⟩ hf
      replace hnr := Row.rebase hnr hb.size
      replace hk1 := blk_ext hk1 he5
      replace hk2 := blk_ext hk2 he5
      replace hk3 := blk_ext hk3 he5
      replace hrr := Row.ext hrr he5
      replace hZ := Nat.le_trans hZ he5.size
      replace hb := hb.trans (Below.mono he5 hb.size)
      replace hSt := hSt.ext he5
      replace hK := hK.trans (KT.of_below he5)
      refine sqv hf (r_move rfl) rfl rfl rfl ?_; clear hf fa; intro fa hf
      refine sqv hf (Runs.veq (r_eq rfl rfl) (congrArg Value.bool (show _ = true from (by have hin : inP ln at_ ((M.length : Nat) : Int) = true := (by have h := hqt33_1; simpa using h); rw [hin]; rfl)))) rfl rfl rfl ?_; clear hf fa; intro fa hf
      refine sqn hf (d_storeK (T := 111) (v := (.agg #[(.int .i64 ((ln : Nat) : Int)), (.int .i64 mo), (.slice na ((wrC C at_ (strOfNums M)).length) nc)])) (cs := #[(.int .i64 (0 : Int)), (.int .i64 (0 : Int)), (.slice none 0 0)]) (cs' := #[(.int .i64 ((ln : Nat) : Int)), (.int .i64 mo), (.slice na ((wrC C at_ (strOfNums M)).length) nc)]) rfl rfl (by kernel_rfl) (by kernel_rfl) hk3 (by kernel_rfl) (by kernel_rfl)) rfl rfl ?_; clear hf fa; rintro fa _ w8 ⟨hk5, hg2⟩ hf
      replace hk1 := blk_grown hk1 hg2 (by omega)
      replace hk2 := blk_grown hk2 hg2 (by omega)
      replace hrr := Row.grown hrr hg2 (Row.ne_type hrr hk3 rfl)
      replace hnr := Row.grown hnr hg2 (Row.ne_type hnr hk3 rfl)
      replace hZ := Nat.le_trans hZ hg2.size
      replace hb := hb.trans (grown_below hg2 hb.size hBb3)
      replace hSt := hSt.grown hg2 hk3 rfl rfl
      replace hK := hK.grownI hg2 hhZb3
      refine sqv hf (r_assign rfl) rfl rfl rfl ?_; clear hf fa; intro fa hf
      apply wpList_nil
      (try simp only [Exit.then, Exit.inBlock, ↓reduceIte, Nat.reduceEqDiff])
      refine hK8 _ _ ?_
      refine wp_ret ?_
      (try simp only [Exit.then, Exit.inBlock])
      refine retCT hf rfl rfl hk5 Try.underlying111 rfl (by kernel_rfl) rfl ?_
      have hzz := hnr
      have hkd : kd = 0 := hqt18_1
      subst hkd
      have hin : inP ln at_ ((M.length : Nat) : Int) = true := (by have h := hqt33_1; simpa using h)
      have hD : doN 0 nn at_ ln mo C M = (ln, wrC C at_ (strOfNums M)) := by unfold doN; rw [if_pos rfl, if_pos (by rw [hin])]
      rw [if_pos (by rw [hin])] at hSt
      rw [hD]
      exact ⟨_, rfl, _, rfl, hzz, hSt, hb, hK, hZ⟩
  · have hqt18_1b := hqt18_1
    replace hqt18_1 := Bool.eq_false_iff.1 hqt18_1
    try simp only [ne_eq, decide_eq_true_eq, Bool.and_eq_true, Bool.or_eq_true, Bool.not_eq_true', decide_eq_false_iff_not] at hqt18_1
    refine wp_seq_k (fun K9 hK9 => ?_)
    refine wp_region_lit ?_
    refine sqv hf (r_eq rfl rfl) rfl rfl rfl ?_; clear hf fa; intro fa hf
    refine sqv hf (r_assign rfl) rfl rfl rfl ?_; clear hf fa; intro fa hf
    apply wpList_nil
    (try simp only [Exit.then, Exit.inBlock, ↓reduceIte, Nat.reduceEqDiff])
    refine hK9 _ _ ?_
    refine wp_cond_split (t := (decide (kd = (1 : Int)))) (hf.ev rfl) (fun hqt46_1 => ?_) (fun hqt46_1 => ?_)
    · have hqt46_1b := hqt46_1
      try simp only [decide_eq_true_eq, Bool.and_eq_true, Bool.or_eq_true, Bool.not_eq_true', decide_eq_false_iff_not, ne_eq, Bool.not_eq_true] at hqt46_1
      refine wp_seq_k (fun K10 hK10 => ?_)
      refine wp_region_lit ?_
      refine sqv hf (r_move rfl) rfl rfl rfl ?_; clear hf fa; intro fa hf
      refine sqv hf (r_fa rfl Try.underlying113 (f := 1) (q := 1) rfl (by kernel_rfl) rfl) rfl rfl rfl ?_; clear hf fa; intro fa hf
      refine sqv hf (r_load (v := (.int .u64 ((at_ : Nat) : Int))) rfl Try.underlying26 rfl (cell_blk hk2 rfl)) rfl rfl rfl ?_; clear hf fa; intro fa hf
      refine sqv hf (r_fa rfl Try.underlying113 (f := 2) (q := 2) rfl (by kernel_rfl) rfl) rfl rfl rfl ?_; clear hf fa; intro fa hf
      refine sqv hf (r_load (v := (.int .i64 nn)) rfl Try.underlying3 rfl (cell_blk hk2 rfl)) rfl rfl rfl ?_; clear hf fa; intro fa hf
      refine sqdt hf (d_callX (vs := [(.pointer (some ⟨p, 0, none⟩)), (.int .u64 ((at_ : Nat) : Int)), (.int .i64 nn)]) rfl Try.func80 (by kernel_rfl) (by kernel_rfl) (read_S hSt at_ nn ha0 hnn)) rfl rfl rfl ?_; clear hf fa; rintro fa _ w9 ⟨va, vc, rfl, hrd, he6⟩ hf
      replace hrd := Row.rebase hrd hb.size
      have hcd := Row.caps hrd
      replace hk1 := blk_ext hk1 he6
      replace hk2 := blk_ext hk2 he6
      replace hk3 := blk_ext hk3 he6
      replace hrr := Row.ext hrr he6
      replace hZ := Nat.le_trans hZ he6.size
      replace hb := hb.trans (Below.mono he6 hb.size)
      replace hSt := hSt.ext he6
      replace hK := hK.trans (KT.of_below he6)
      refine sqv hf (r_move rfl) rfl rfl rfl ?_; clear hf fa; intro fa hf
      refine sqv hf (r_extract rfl (i := 0) rfl) rfl rfl rfl ?_; clear hf fa; intro fa hf
      refine sqv hf (r_extract rfl (i := 1) rfl) rfl rfl rfl ?_; clear hf fa; intro fa hf
      refine sqv hf (r_assign rfl) rfl rfl rfl ?_; clear hf fa; intro fa hf
      refine sqv hf (r_assign rfl) rfl rfl rfl ?_; clear hf fa; intro fa hf
      apply wpList_nil
      (try simp only [Exit.then, Exit.inBlock, ↓reduceIte, Nat.reduceEqDiff])
      refine hK10 _ _ ?_
      refine wp_seq_k (fun K11 hK11 => ?_)
      refine wp_seq_k (fun K12 hK12 => ?_)
      refine wp_region_lit ?_
      refine sqv hf (r_loadA (cs := [(.int .i64 ((ln : Nat) : Int)), (.int .i64 mo), (.slice ca C.length cc)]) rfl Try.underlying111 rfl (by kernel_rfl) (cellsAt_blk hk1)) rfl rfl rfl ?_; clear hf fa; intro fa hf
      refine sqv hf (r_fa rfl Try.underlying113 (f := 1) (q := 1) rfl (by kernel_rfl) rfl) rfl rfl rfl ?_; clear hf fa; intro fa hf
      refine sqv hf (r_load (v := (.int .u64 ((at_ : Nat) : Int))) rfl Try.underlying26 rfl (cell_blk hk2 rfl)) rfl rfl rfl ?_; clear hf fa; intro fa hf
      refine sqv hf (r_fa rfl Try.underlying113 (f := 2) (q := 2) rfl (by kernel_rfl) rfl) rfl rfl rfl ?_; clear hf fa; intro fa hf
      refine sqv hf (r_load (v := (.int .i64 nn)) rfl Try.underlying3 rfl (cell_blk hk2 rfl)) rfl rfl rfl ?_; clear hf fa; intro fa hf
      refine sqdt hf (d_callB (vs := [(.agg #[(.int .i64 ((ln : Nat) : Int)), (.int .i64 mo), (.slice ca C.length cc)]), (.int .u64 ((at_ : Nat) : Int)), (.int .i64 nn)]) rfl Try.func78 (by kernel_rfl) (by kernel_rfl) (rin_any ln mo ca C cc _ (Row.rd (by intros; rfl) hrr) (by omega) hCl at_ nn ha0 (by omega))) rfl rfl rfl ?_; clear hf fa; rintro fa _ w10 ⟨rfl, he7⟩ hf
      replace hk1 := blk_ext hk1 he7
      replace hk2 := blk_ext hk2 he7
      replace hk3 := blk_ext hk3 he7
      replace hrr := Row.ext hrr he7
      replace hrd := Row.ext hrd he7
      replace hZ := Nat.le_trans hZ he7.size
      replace hb := hb.trans (Below.mono he7 hb.size)
      replace hSt := hSt.ext he7
      replace hK := hK.trans (KT.of_below he7)
      refine sqv hf (r_not rfl) rfl rfl rfl ?_; clear hf fa; intro fa hf
      apply wpList_nil
      (try simp only [Exit.then, Exit.inBlock, ↓reduceIte, Nat.reduceEqDiff])
      refine hK12 _ _ ?_
      refine wp_cond_split (t := (!(inP ln at_ nn))) (hf.ev rfl) (fun hqt63_1 => ?_) (fun hqt63_1 => ?_)
      · have hqt63_1b := hqt63_1
        try simp only [decide_eq_true_eq, Bool.and_eq_true, Bool.or_eq_true, Bool.not_eq_true', decide_eq_false_iff_not, ne_eq, Bool.not_eq_true] at hqt63_1
        refine wp_seq_k (fun K13 hK13 => ?_)
        refine wp_region_lit ?_
        refine sqv hf (r_loadA (cs := [(.int .i64 ((ln : Nat) : Int)), (.int .i64 mo), (.slice ca C.length cc)]) rfl Try.underlying111 rfl (by kernel_rfl) (cellsAt_blk hk1)) rfl rfl rfl ?_; clear hf fa; intro fa hf
        refine sqv hf (r_move rfl) rfl rfl rfl ?_; clear hf fa; intro fa hf
        refine sqv hf (r_lensl rfl Try.underlying84) rfl rfl rfl ?_; clear hf fa; intro fa hf
        refine sqv hf (Runs.veq (r_eq rfl rfl) (congrArg Value.bool (show _ = true from (by have hin : inP ln at_ nn = false := (by have h := hqt63_1; simpa using h); unfold rdL; rw [if_neg (by rw [hin]; decide)]; rfl)))) rfl rfl rfl ?_; clear hf fa; intro fa hf
        refine sqv hf (r_move rfl) rfl rfl rfl ?_; clear hf fa; intro fa hf
        refine sqgd (act := true) (g := 4) (want := true) (ag := true) (c := true) hf (by rfl) (by rfl) rfl (fun _ =>  Runs.does (R := fun vq wq => vq = (.int .i64 ((if inP ln at_ nn = true then 0 else 63))) ∧ w10 = wq) (r_move rfl) ⟨rfl, rfl⟩) (fun h => by cases h) rfl ?_; clear hf fa; rintro fa _ _ ⟨rfl, rfl⟩ hf
        change Fr _ _ ((69, (.int .i64 ((if inP ln at_ nn = true then 0 else 63)))) :: _) at hf
        refine sqgd (act := true) (g := 4) (want := true) (ag := true) (c := true) hf (by rfl) (by rfl) rfl (fun _ =>  Runs.does (R := fun vq wq => vq = (.bool true) ∧ w10 = wq) (Runs.veq (r_eq rfl rfl) (congrArg Value.bool (show _ = true from (by have hin : inP ln at_ nn = false := (by have h := hqt63_1; simpa using h); rw [hin]; rfl)))) ⟨rfl, rfl⟩) (fun h => by cases h) rfl ?_; clear hf fa; rintro fa _ _ ⟨rfl, rfl⟩ hf
        change Fr _ _ ((70, (.bool true)) :: _) at hf
        refine sqv hf (r_pick (b := true) rfl rfl rfl rfl) rfl rfl rfl ?_; clear hf fa; intro fa hf
        refine sqn hf (d_storeK (T := 111) (v := (.agg #[(.int .i64 ((ln : Nat) : Int)), (.int .i64 mo), (.slice ca C.length cc)])) (cs := #[(.int .i64 (0 : Int)), (.int .i64 (0 : Int)), (.slice none 0 0)]) (cs' := #[(.int .i64 ((ln : Nat) : Int)), (.int .i64 mo), (.slice ca C.length cc)]) rfl rfl (by kernel_rfl) (by kernel_rfl) hk3 (by kernel_rfl) (by kernel_rfl)) rfl rfl ?_; clear hf fa; rintro fa _ w11 ⟨hk6, hg3⟩ hf
        replace hk1 := blk_grown hk1 hg3 (by omega)
        replace hk2 := blk_grown hk2 hg3 (by omega)
        replace hrr := Row.grown hrr hg3 (Row.ne_type hrr hk3 rfl)
        replace hrd := Row.grown hrd hg3 (Row.ne_type hrd hk3 rfl)
        replace hZ := Nat.le_trans hZ hg3.size
        replace hb := hb.trans (grown_below hg3 hb.size hBb3)
        replace hSt := hSt.grown hg3 hk3 rfl rfl
        replace hK := hK.grownI hg3 hhZb3
        refine sqv hf (r_assign rfl) rfl rfl rfl ?_; clear hf fa; intro fa hf
        apply wpList_nil
        (try simp only [Exit.then, Exit.inBlock, ↓reduceIte, Nat.reduceEqDiff])
        refine hK13 _ _ ?_
        refine wp_ret ?_
        (try simp only [Exit.then, Exit.inBlock])
        refine retCT hf rfl rfl hk6 Try.underlying111 rfl (by kernel_rfl) rfl ?_
        have hzz := hrr
        have hkd : kd = 1 := hqt46_1
        subst hkd
        have hD : doN 1 nn at_ ln mo C M = (ln, C) := by unfold doN; rw [if_neg (by decide), if_neg (by decide), if_neg (by decide)]
        rw [hD]
        exact ⟨_, rfl, _, rfl, hzz, hSt, hb, hK, hZ⟩
      · have hqt63_1b := hqt63_1
        replace hqt63_1 := Bool.eq_false_iff.1 hqt63_1
        try simp only [ne_eq, decide_eq_true_eq, Bool.and_eq_true, Bool.or_eq_true, Bool.not_eq_true', decide_eq_false_iff_not] at hqt63_1
        refine wp_skip ?_
        (try simp only [Exit.then, Exit.inBlock, ↓reduceIte, Nat.reduceEqDiff])
        refine hK11 _ _ ?_
        refine wp_seq_k (fun K14 hK14 => ?_)
        refine wp_region_lit ?_
        refine sqv hf (r_fa rfl Try.underlying113 (f := 2) (q := 2) rfl (by kernel_rfl) rfl) rfl rfl rfl ?_; clear hf fa; intro fa hf
        refine sqv hf (r_load (v := (.int .i64 nn)) rfl Try.underlying3 rfl (cell_blk hk2 rfl)) rfl rfl rfl ?_; clear hf fa; intro fa hf
        refine sqv hf (r_min rfl rfl) rfl rfl rfl ?_; clear hf fa; intro fa hf
        refine sqv hf (r_assign rfl) rfl rfl rfl ?_; clear hf fa; intro fa hf
        apply wpList_nil
        (try simp only [Exit.then, Exit.inBlock, ↓reduceIte, Nat.reduceEqDiff])
        refine hK14 _ _ ?_
        refine wp_seq_k (fun K15 hK15 => ?_)
        have hin : inP ln at_ nn = true := (by have h := hqt63_1; simpa using h)
        have hin2 : 0 ≤ nn ∧ at_ ≤ ln ∧ nn ≤ ((ln : Nat) : Int) - ((at_ : Nat) : Int) := of_decide_eq_true hin
        obtain ⟨m5, hm5⟩ : ∃ m : Nat, (if (50 : Int) < nn then (50 : Int) else nn) = ((m : Nat) : Int) := ⟨(if (50 : Int) < nn then (50 : Int) else nn).toNat, by split <;> omega⟩
        rw [hm5] at hf
        have hm6 : m5 ≤ nn.toNat ∧ m5 ≤ 50 := by split at hm5 <;> omega
        have hrl : rdL C ln at_ nn = rdF C at_ nn.toNat := by unfold rdL; rw [if_pos hin]
        have hrn : (rdL C ln at_ nn).length = nn.toNat := by rw [hrl, rdF_len]
        skip
        refine wp_region_unT 23 (fun wc => (w10.grownBy wc (some b3) ∧ (wc.heap[b3]? = some (.cells #[(.int .i64 (0 : Int)), (.int .i64 (0 : Int)), (.slice none 0 0)] 111 (0, 0)) ∨ wc.heap[b3]? = some (.cells #[(.int .i64 ((ln : Nat) : Int)), (.int .i64 mo), (.slice ca C.length cc)] 111 (0, 0))))) (fun wa wc => ((w10.grownBy wa (some b3) ∧ (wa.heap[b3]? = some (.cells #[(.int .i64 (0 : Int)), (.int .i64 (0 : Int)), (.slice none 0 0)] 111 (0, 0)) ∨ wa.heap[b3]? = some (.cells #[(.int .i64 ((ln : Nat) : Int)), (.int .i64 mo), (.slice ca C.length cc)] 111 (0, 0)))) → (w10.grownBy wc (some b3) ∧ (wc.heap[b3]? = some (.cells #[(.int .i64 (0 : Int)), (.int .i64 (0 : Int)), (.slice none 0 0)] 111 (0, 0)) ∨ wc.heap[b3]? = some (.cells #[(.int .i64 ((ln : Nat) : Int)), (.int .i64 mo), (.slice ca C.length cc)] 111 (0, 0))))) ∧ wa.heap.size ≤ wc.heap.size ∧ (wa.heap[b3]? = some (.cells #[(.int .i64 ((ln : Nat) : Int)), (.int .i64 mo), (.slice ca C.length cc)] 111 (0, 0)) → wc.heap[b3]? = some (.cells #[(.int .i64 ((ln : Nat) : Int)), (.int .i64 mo), (.slice ca C.length cc)] 111 (0, 0))))
          (fun V => [(fun x _ => x = (.agg #[(.int .i64 ((ln : Nat) : Int)), (.int .i64 mo), (.slice ca C.length cc)])), (fun x _ => x = (.int .i64 ((if inP ln at_ nn = true then 0 else 63)))), (fun x _ => x = (.bool true)), (fun x _ => x = (.bool true)), (fun x _ => x = (.slice va ((rdL C ln at_ nn).length) vc)), (fun x _ => x = (.int .i64 (((rdL C ln at_ nn).length : Nat) : Int))), (fun x _ => x = (.pointer (some ⟨b2, 2, none⟩))), (fun x _ => x = (.int .i64 nn)), (fun x _ => x = (.bool true)), (fun x _ => x = (.bool true)), (fun x _ => x = (.bool true)), (fun x _ => x = (.slice va ((rdL C ln at_ nn).length) vc)), (fun x _ => x = (.int .i64 ((m5 : Nat) : Int))), (fun x _ => x = (.slice va m5 vc)), (fun x _ => x = (.string (strOfNums ((rdL C ln at_ nn).take m5)))), (fun x _ => x = (.agg #[(.int .i64 ((ln : Nat) : Int)), (.int .i64 mo), (.slice ca C.length cc)])), (fun x _ => x = (.pointer (some ⟨b2, 1, none⟩))), (fun x _ => x = (.int .u64 ((at_ : Nat) : Int))), (fun x _ => x = (.int .i64 ((m5 : Nat) : Int))), (fun x _ => x = (.string (strOfNums (rdF C at_ m5)))), (fun x _ => x = (.bool true)), (fun x _ => x = (.bool true)), (fun _ wq => wq.heap[b3]? = some (.cells #[(.int .i64 ((ln : Nat) : Int)), (.int .i64 mo), (.slice ca C.length cc)] 111 (0, 0)))])
          []
          [[], [], [1], [2], [3], [3, 4], [3], [3, 6], [3, 5, 7], [3, 8], [3, 9], [10], [10], [10, 11, 12], [10, 13], [10], [10], [10, 16], [10], [10, 15, 17, 18], [10, 14, 19], [10, 20], [0, 19], []]
          hf (by kernel_rfl) (by kernel_rfl) (by kernel_rfl) (fun _ => rfl) ⟨below_grown (Below.refl _ _).drew, .inl (blk_ext hk3 (Below.refl _ _).drew)⟩ (fun a b h1 h2 => h2.1 h1) (fun _ _ h => h.2.1) (fun V => ⟨(fun _ _ _ h _ => h), (fun _ _ _ h _ => h), (fun _ _ _ h _ => h), (fun _ _ _ h _ => h), (fun _ _ _ h _ => h), (fun _ _ _ h _ => h), (fun _ _ _ h _ => h), (fun _ _ _ h _ => h), (fun _ _ _ h _ => h), (fun _ _ _ h _ => h), (fun _ _ _ h _ => h), (fun _ _ _ h _ => h), (fun _ _ _ h _ => h), (fun _ _ _ h _ => h), (fun _ _ _ h _ => h), (fun _ _ _ h _ => h), (fun _ _ _ h _ => h), (fun _ _ _ h _ => h), (fun _ _ _ h _ => h), (fun _ _ _ h _ => h), (fun _ _ _ h _ => h), (fun _ _ _ h _ => h), (fun _ _ _ h hG => hG.2.2 h), trivial⟩) (fun _ _ _ _ _ => rfl) ?_ ?_
        · skip
          intro V
          refine ⟨fun wu0 hC hd => ?_, ?_⟩
          · clear hd
            have hgC := hC.1
            replace hk1 := blk_grown hk1 hgC (by omega)
            replace hk2 := blk_grown hk2 hgC (by omega)
            replace hrr := Row.grown hrr hgC (Row.ne_type hrr hk3 rfl)
            replace hrd := Row.grown hrd hgC (Row.ne_type hrd hk3 rfl)
            replace hZ := Nat.le_trans hZ hgC.size
            replace hb := hb.trans (grown_below hgC hb.size hBb3)
            replace hSt := hSt.grown hgC hk3 rfl rfl
            replace hK := hK.grownI hgC hhZb3
            exact Runs.does (r_loadA (cs := [(.int .i64 ((ln : Nat) : Int)), (.int .i64 mo), (.slice ca C.length cc)]) rfl Try.underlying111 rfl (by kernel_rfl) (cellsAt_blk hk1)) ⟨⟨id, Nat.le_refl _, id⟩, rfl, nofr rfl⟩
          refine ⟨fun wu1 hC hd => ?_, ?_⟩
          · clear hd
            have hgC := hC.1
            replace hk1 := blk_grown hk1 hgC (by omega)
            replace hk2 := blk_grown hk2 hgC (by omega)
            replace hrr := Row.grown hrr hgC (Row.ne_type hrr hk3 rfl)
            replace hrd := Row.grown hrd hgC (Row.ne_type hrd hk3 rfl)
            replace hZ := Nat.le_trans hZ hgC.size
            replace hb := hb.trans (grown_below hgC hb.size hBb3)
            replace hSt := hSt.grown hgC hk3 rfl rfl
            replace hK := hK.grownI hgC hhZb3
            exact Runs.does (r_move rfl) ⟨⟨id, Nat.le_refl _, id⟩, rfl, nofr rfl⟩
          refine ⟨fun wu2 hC hd => ?_, ?_⟩
          · obtain ⟨h1, _⟩ := hd
            replace h1 : V 1 = (.int .i64 ((if inP ln at_ nn = true then 0 else 63))) := h1
            have hgC := hC.1
            replace hk1 := blk_grown hk1 hgC (by omega)
            replace hk2 := blk_grown hk2 hgC (by omega)
            replace hrr := Row.grown hrr hgC (Row.ne_type hrr hk3 rfl)
            replace hrd := Row.grown hrd hgC (Row.ne_type hrd hk3 rfl)
            replace hZ := Nat.le_trans hZ hgC.size
            replace hb := hb.trans (grown_below hgC hb.size hBb3)
            replace hSt := hSt.grown hgC hk3 rfl rfl
            replace hK := hK.grownI hgC hhZb3
            exact Runs.does (Runs.veq (r_eq (congrArg some h1) rfl) (congrArg Value.bool (show _ = true from (by rw [hin]; rfl)))) ⟨⟨id, Nat.le_refl _, id⟩, rfl, nofr rfl⟩
          refine ⟨fun wu3 hC hd => ?_, ?_⟩
          · obtain ⟨h2, _⟩ := hd
            replace h2 : V 2 = (.bool true) := h2
            have hgC := hC.1
            replace hk1 := blk_grown hk1 hgC (by omega)
            replace hk2 := blk_grown hk2 hgC (by omega)
            replace hrr := Row.grown hrr hgC (Row.ne_type hrr hk3 rfl)
            replace hrd := Row.grown hrd hgC (Row.ne_type hrd hk3 rfl)
            replace hZ := Nat.le_trans hZ hgC.size
            replace hb := hb.trans (grown_below hgC hb.size hBb3)
            replace hSt := hSt.grown hgC hk3 rfl rfl
            replace hK := hK.grownI hgC hhZb3
            exact Runs.does (r_move (congrArg some h2)) ⟨⟨id, Nat.le_refl _, id⟩, rfl, nofr rfl⟩
          refine ⟨fun wu4 hC hd => ?_, ?_⟩
          · obtain ⟨h3, _⟩ := hd
            replace h3 : V 3 = (.bool true) := h3
            have hgC := hC.1
            replace hk1 := blk_grown hk1 hgC (by omega)
            replace hk2 := blk_grown hk2 hgC (by omega)
            replace hrr := Row.grown hrr hgC (Row.ne_type hrr hk3 rfl)
            replace hrd := Row.grown hrd hgC (Row.ne_type hrd hk3 rfl)
            replace hZ := Nat.le_trans hZ hgC.size
            replace hb := hb.trans (grown_below hgC hb.size hBb3)
            replace hSt := hSt.grown hgC hk3 rfl rfl
            replace hK := hK.grownI hgC hhZb3
            refine ⟨true, true, congrArg some h3, fun hact => ?_, fun hact => ?_⟩
            · exact Runs.does (r_move rfl) ⟨⟨id, Nat.le_refl _, id⟩, rfl, nofr rfl⟩
            · exfalso; simp at hact
          refine ⟨fun wu5 hC hd => ?_, ?_⟩
          · obtain ⟨h3, h4, _⟩ := hd
            replace h3 : V 3 = (.bool true) := h3
            replace h4 : V 4 = (.slice va ((rdL C ln at_ nn).length) vc) := h4
            have hgC := hC.1
            replace hk1 := blk_grown hk1 hgC (by omega)
            replace hk2 := blk_grown hk2 hgC (by omega)
            replace hrr := Row.grown hrr hgC (Row.ne_type hrr hk3 rfl)
            replace hrd := Row.grown hrd hgC (Row.ne_type hrd hk3 rfl)
            replace hZ := Nat.le_trans hZ hgC.size
            replace hb := hb.trans (grown_below hgC hb.size hBb3)
            replace hSt := hSt.grown hgC hk3 rfl rfl
            replace hK := hK.grownI hgC hhZb3
            refine ⟨true, true, congrArg some h3, fun hact => ?_, fun hact => ?_⟩
            · exact Runs.does (r_lensl (congrArg some h4) Try.underlying84) ⟨⟨id, Nat.le_refl _, id⟩, rfl, nofr rfl⟩
            · exfalso; simp at hact
          refine ⟨fun wu6 hC hd => ?_, ?_⟩
          · obtain ⟨h3, _⟩ := hd
            replace h3 : V 3 = (.bool true) := h3
            have hgC := hC.1
            replace hk1 := blk_grown hk1 hgC (by omega)
            replace hk2 := blk_grown hk2 hgC (by omega)
            replace hrr := Row.grown hrr hgC (Row.ne_type hrr hk3 rfl)
            replace hrd := Row.grown hrd hgC (Row.ne_type hrd hk3 rfl)
            replace hZ := Nat.le_trans hZ hgC.size
            replace hb := hb.trans (grown_below hgC hb.size hBb3)
            replace hSt := hSt.grown hgC hk3 rfl rfl
            replace hK := hK.grownI hgC hhZb3
            refine ⟨true, true, congrArg some h3, fun hact => ?_, fun hact => ?_⟩
            · exact Runs.does (r_fa rfl Try.underlying113 (f := 2) (q := 2) rfl (by kernel_rfl) rfl) ⟨⟨id, Nat.le_refl _, id⟩, rfl, nofr rfl⟩
            · exfalso; simp at hact
          refine ⟨fun wu7 hC hd => ?_, ?_⟩
          · obtain ⟨h3, h6, _⟩ := hd
            replace h3 : V 3 = (.bool true) := h3
            replace h6 : V 6 = (.pointer (some ⟨b2, 2, none⟩)) := h6
            have hgC := hC.1
            replace hk1 := blk_grown hk1 hgC (by omega)
            replace hk2 := blk_grown hk2 hgC (by omega)
            replace hrr := Row.grown hrr hgC (Row.ne_type hrr hk3 rfl)
            replace hrd := Row.grown hrd hgC (Row.ne_type hrd hk3 rfl)
            replace hZ := Nat.le_trans hZ hgC.size
            replace hb := hb.trans (grown_below hgC hb.size hBb3)
            replace hSt := hSt.grown hgC hk3 rfl rfl
            replace hK := hK.grownI hgC hhZb3
            refine ⟨true, true, congrArg some h3, fun hact => ?_, fun hact => ?_⟩
            · exact Runs.does (r_load (v := (.int .i64 nn)) (congrArg some h6) Try.underlying3 rfl (cell_blk hk2 rfl)) ⟨⟨id, Nat.le_refl _, id⟩, rfl, nofr rfl⟩
            · exfalso; simp at hact
          refine ⟨fun wu8 hC hd => ?_, ?_⟩
          · obtain ⟨h3, h5, h7, _⟩ := hd
            replace h3 : V 3 = (.bool true) := h3
            replace h5 : V 5 = (.int .i64 (((rdL C ln at_ nn).length : Nat) : Int)) := h5
            replace h7 : V 7 = (.int .i64 nn) := h7
            have hgC := hC.1
            replace hk1 := blk_grown hk1 hgC (by omega)
            replace hk2 := blk_grown hk2 hgC (by omega)
            replace hrr := Row.grown hrr hgC (Row.ne_type hrr hk3 rfl)
            replace hrd := Row.grown hrd hgC (Row.ne_type hrd hk3 rfl)
            replace hZ := Nat.le_trans hZ hgC.size
            replace hb := hb.trans (grown_below hgC hb.size hBb3)
            replace hSt := hSt.grown hgC hk3 rfl rfl
            replace hK := hK.grownI hgC hhZb3
            refine ⟨true, true, congrArg some h3, fun hact => ?_, fun hact => ?_⟩
            · exact Runs.does (Runs.veq (r_eq (congrArg some h5) (congrArg some h7)) (congrArg Value.bool (show _ = true from (decide_eq_true (by omega))))) ⟨⟨id, Nat.le_refl _, id⟩, rfl, nofr rfl⟩
            · exfalso; simp at hact
          refine ⟨fun wu9 hC hd => ?_, ?_⟩
          · obtain ⟨h3, h8, _⟩ := hd
            replace h3 : V 3 = (.bool true) := h3
            replace h8 : V 8 = (.bool true) := h8
            have hgC := hC.1
            replace hk1 := blk_grown hk1 hgC (by omega)
            replace hk2 := blk_grown hk2 hgC (by omega)
            replace hrr := Row.grown hrr hgC (Row.ne_type hrr hk3 rfl)
            replace hrd := Row.grown hrd hgC (Row.ne_type hrd hk3 rfl)
            replace hZ := Nat.le_trans hZ hgC.size
            replace hb := hb.trans (grown_below hgC hb.size hBb3)
            replace hSt := hSt.grown hgC hk3 rfl rfl
            replace hK := hK.grownI hgC hhZb3
            exact Runs.does (r_pick (b := true) (congrArg some h3) (congrArg some h8) rfl rfl) ⟨⟨id, Nat.le_refl _, id⟩, rfl, nofr rfl⟩
          refine ⟨fun wu10 hC hd => ?_, ?_⟩
          · obtain ⟨h3, h9, _⟩ := hd
            replace h3 : V 3 = (.bool true) := h3
            replace h9 : V 9 = (.bool true) := h9
            have hgC := hC.1
            replace hk1 := blk_grown hk1 hgC (by omega)
            replace hk2 := blk_grown hk2 hgC (by omega)
            replace hrr := Row.grown hrr hgC (Row.ne_type hrr hk3 rfl)
            replace hrd := Row.grown hrd hgC (Row.ne_type hrd hk3 rfl)
            replace hZ := Nat.le_trans hZ hgC.size
            replace hb := hb.trans (grown_below hgC hb.size hBb3)
            replace hSt := hSt.grown hgC hk3 rfl rfl
            replace hK := hK.grownI hgC hhZb3
            exact Runs.does (r_move (congrArg some h9)) ⟨⟨id, Nat.le_refl _, id⟩, rfl, nofr rfl⟩
          refine ⟨fun wu11 hC hd => ?_, ?_⟩
          · obtain ⟨h10, _⟩ := hd
            replace h10 : V 10 = (.bool true) := h10
            have hgC := hC.1
            replace hk1 := blk_grown hk1 hgC (by omega)
            replace hk2 := blk_grown hk2 hgC (by omega)
            replace hrr := Row.grown hrr hgC (Row.ne_type hrr hk3 rfl)
            replace hrd := Row.grown hrd hgC (Row.ne_type hrd hk3 rfl)
            replace hZ := Nat.le_trans hZ hgC.size
            replace hb := hb.trans (grown_below hgC hb.size hBb3)
            replace hSt := hSt.grown hgC hk3 rfl rfl
            replace hK := hK.grownI hgC hhZb3
            refine ⟨true, true, congrArg some h10, fun hact => ?_, fun hact => ?_⟩
            · exact Runs.does (r_move rfl) ⟨⟨id, Nat.le_refl _, id⟩, rfl, nofr rfl⟩
            · exfalso; simp at hact
          refine ⟨fun wu12 hC hd => ?_, ?_⟩
          · obtain ⟨h10, _⟩ := hd
            replace h10 : V 10 = (.bool true) := h10
            have hgC := hC.1
            replace hk1 := blk_grown hk1 hgC (by omega)
            replace hk2 := blk_grown hk2 hgC (by omega)
            replace hrr := Row.grown hrr hgC (Row.ne_type hrr hk3 rfl)
            replace hrd := Row.grown hrd hgC (Row.ne_type hrd hk3 rfl)
            replace hZ := Nat.le_trans hZ hgC.size
            replace hb := hb.trans (grown_below hgC hb.size hBb3)
            replace hSt := hSt.grown hgC hk3 rfl rfl
            replace hK := hK.grownI hgC hhZb3
            refine ⟨true, true, congrArg some h10, fun hact => ?_, fun hact => ?_⟩
            · exact Runs.does (r_move rfl) ⟨⟨id, Nat.le_refl _, id⟩, rfl, nofr rfl⟩
            · exfalso; simp at hact
          refine ⟨fun wu13 hC hd => ?_, ?_⟩
          · obtain ⟨h10, h11, h12, _⟩ := hd
            replace h10 : V 10 = (.bool true) := h10
            replace h11 : V 11 = (.slice va ((rdL C ln at_ nn).length) vc) := h11
            replace h12 : V 12 = (.int .i64 ((m5 : Nat) : Int)) := h12
            have hgC := hC.1
            replace hk1 := blk_grown hk1 hgC (by omega)
            replace hk2 := blk_grown hk2 hgC (by omega)
            replace hrr := Row.grown hrr hgC (Row.ne_type hrr hk3 rfl)
            replace hrd := Row.grown hrd hgC (Row.ne_type hrd hk3 rfl)
            replace hZ := Nat.le_trans hZ hgC.size
            replace hb := hb.trans (grown_below hgC hb.size hBb3)
            replace hSt := hSt.grown hgC hk3 rfl rfl
            replace hK := hK.grownI hgC hhZb3
            refine ⟨true, true, congrArg some h10, fun hact => ?_, fun hact => ?_⟩
            · exact Runs.does (r_slto (m := m5) (congrArg some h11) (congrArg some h12) Try.underlying84 (by kernel_rfl) rfl (by omega)) ⟨⟨id, Nat.le_refl _, id⟩, rfl, nofr rfl⟩
            · exfalso; simp at hact
          refine ⟨fun wu14 hC hd => ?_, ?_⟩
          · obtain ⟨h10, h13, _⟩ := hd
            replace h10 : V 10 = (.bool true) := h10
            replace h13 : V 13 = (.slice va m5 vc) := h13
            have hgC := hC.1
            replace hk1 := blk_grown hk1 hgC (by omega)
            replace hk2 := blk_grown hk2 hgC (by omega)
            replace hrr := Row.grown hrr hgC (Row.ne_type hrr hk3 rfl)
            replace hrd := Row.grown hrd hgC (Row.ne_type hrd hk3 rfl)
            replace hZ := Nat.le_trans hZ hgC.size
            replace hb := hb.trans (grown_below hgC hb.size hBb3)
            replace hSt := hSt.grown hgC hk3 rfl rfl
            replace hK := hK.grownI hgC hhZb3
            refine ⟨true, true, congrArg some h10, fun hact => ?_, fun hact => ?_⟩
            · exact Runs.does (r_rowstr (congrArg some h13) Try.underlying84 Try.underlying5 Try.underlying9 (Row.cutA (m := m5) (by intros; rfl) hrd (Row.caps hrd).1 (by omega))) ⟨⟨id, Nat.le_refl _, id⟩, rfl, nofr rfl⟩
            · exfalso; simp at hact
          refine ⟨fun wu15 hC hd => ?_, ?_⟩
          · obtain ⟨h10, _⟩ := hd
            replace h10 : V 10 = (.bool true) := h10
            have hgC := hC.1
            replace hk1 := blk_grown hk1 hgC (by omega)
            replace hk2 := blk_grown hk2 hgC (by omega)
            replace hrr := Row.grown hrr hgC (Row.ne_type hrr hk3 rfl)
            replace hrd := Row.grown hrd hgC (Row.ne_type hrd hk3 rfl)
            replace hZ := Nat.le_trans hZ hgC.size
            replace hb := hb.trans (grown_below hgC hb.size hBb3)
            replace hSt := hSt.grown hgC hk3 rfl rfl
            replace hK := hK.grownI hgC hhZb3
            refine ⟨true, true, congrArg some h10, fun hact => ?_, fun hact => ?_⟩
            · exact Runs.does (r_loadA (cs := [(.int .i64 ((ln : Nat) : Int)), (.int .i64 mo), (.slice ca C.length cc)]) rfl Try.underlying111 rfl (by kernel_rfl) (cellsAt_blk hk1)) ⟨⟨id, Nat.le_refl _, id⟩, rfl, nofr rfl⟩
            · exfalso; simp at hact
          refine ⟨fun wu16 hC hd => ?_, ?_⟩
          · obtain ⟨h10, _⟩ := hd
            replace h10 : V 10 = (.bool true) := h10
            have hgC := hC.1
            replace hk1 := blk_grown hk1 hgC (by omega)
            replace hk2 := blk_grown hk2 hgC (by omega)
            replace hrr := Row.grown hrr hgC (Row.ne_type hrr hk3 rfl)
            replace hrd := Row.grown hrd hgC (Row.ne_type hrd hk3 rfl)
            replace hZ := Nat.le_trans hZ hgC.size
            replace hb := hb.trans (grown_below hgC hb.size hBb3)
            replace hSt := hSt.grown hgC hk3 rfl rfl
            replace hK := hK.grownI hgC hhZb3
            refine ⟨true, true, congrArg some h10, fun hact => ?_, fun hact => ?_⟩
            · exact Runs.does (r_fa rfl Try.underlying113 (f := 1) (q := 1) rfl (by kernel_rfl) rfl) ⟨⟨id, Nat.le_refl _, id⟩, rfl, nofr rfl⟩
            · exfalso; simp at hact
          refine ⟨fun wu17 hC hd => ?_, ?_⟩
          · obtain ⟨h10, h16, _⟩ := hd
            replace h10 : V 10 = (.bool true) := h10
            replace h16 : V 16 = (.pointer (some ⟨b2, 1, none⟩)) := h16
            have hgC := hC.1
            replace hk1 := blk_grown hk1 hgC (by omega)
            replace hk2 := blk_grown hk2 hgC (by omega)
            replace hrr := Row.grown hrr hgC (Row.ne_type hrr hk3 rfl)
            replace hrd := Row.grown hrd hgC (Row.ne_type hrd hk3 rfl)
            replace hZ := Nat.le_trans hZ hgC.size
            replace hb := hb.trans (grown_below hgC hb.size hBb3)
            replace hSt := hSt.grown hgC hk3 rfl rfl
            replace hK := hK.grownI hgC hhZb3
            refine ⟨true, true, congrArg some h10, fun hact => ?_, fun hact => ?_⟩
            · exact Runs.does (r_load (v := (.int .u64 ((at_ : Nat) : Int))) (congrArg some h16) Try.underlying26 rfl (cell_blk hk2 rfl)) ⟨⟨id, Nat.le_refl _, id⟩, rfl, nofr rfl⟩
            · exfalso; simp at hact
          refine ⟨fun wu18 hC hd => ?_, ?_⟩
          · obtain ⟨h10, _⟩ := hd
            replace h10 : V 10 = (.bool true) := h10
            have hgC := hC.1
            replace hk1 := blk_grown hk1 hgC (by omega)
            replace hk2 := blk_grown hk2 hgC (by omega)
            replace hrr := Row.grown hrr hgC (Row.ne_type hrr hk3 rfl)
            replace hrd := Row.grown hrd hgC (Row.ne_type hrd hk3 rfl)
            replace hZ := Nat.le_trans hZ hgC.size
            replace hb := hb.trans (grown_below hgC hb.size hBb3)
            replace hSt := hSt.grown hgC hk3 rfl rfl
            replace hK := hK.grownI hgC hhZb3
            refine ⟨true, true, congrArg some h10, fun hact => ?_, fun hact => ?_⟩
            · exact Runs.does (r_move rfl) ⟨⟨id, Nat.le_refl _, id⟩, rfl, nofr rfl⟩
            · exfalso; simp at hact
          refine ⟨fun wu19 hC hd => ?_, ?_⟩
          · obtain ⟨h10, h15, h17, h18, _⟩ := hd
            replace h10 : V 10 = (.bool true) := h10
            replace h15 : V 15 = (.agg #[(.int .i64 ((ln : Nat) : Int)), (.int .i64 mo), (.slice ca C.length cc)]) := h15
            replace h17 : V 17 = (.int .u64 ((at_ : Nat) : Int)) := h17
            replace h18 : V 18 = (.int .i64 ((m5 : Nat) : Int)) := h18
            have hgC := hC.1
            replace hk1 := blk_grown hk1 hgC (by omega)
            replace hk2 := blk_grown hk2 hgC (by omega)
            replace hrr := Row.grown hrr hgC (Row.ne_type hrr hk3 rfl)
            replace hrd := Row.grown hrd hgC (Row.ne_type hrd hk3 rfl)
            replace hZ := Nat.le_trans hZ hgC.size
            replace hb := hb.trans (grown_below hgC hb.size hBb3)
            replace hSt := hSt.grown hgC hk3 rfl rfl
            replace hK := hK.grownI hgC hhZb3
            refine ⟨true, true, congrArg some h10, fun hact => ?_, fun hact => ?_⟩
            · refine Does.mono (d_callB (vs := [(.agg #[(.int .i64 ((ln : Nat) : Int)), (.int .i64 mo), (.slice ca C.length cc)]), (.int .u64 ((at_ : Nat) : Int)), (.int .i64 ((m5 : Nat) : Int))]) (show [some (V 15), some (V 17), some (V 18)] = [some (.agg #[(.int .i64 ((ln : Nat) : Int)), (.int .i64 mo), (.slice ca C.length cc)]), some (.int .u64 ((at_ : Nat) : Int)), some (.int .i64 ((m5 : Nat) : Int))] from by rw [h15, h17, h18]) Try.func81 (by kernel_rfl) (by kernel_rfl) (rread26 ln mo ca C cc _ (Row.rd (by intros; rfl) hrr) (by omega) hCl at_ m5 (by omega) (by omega))) (fun _ _ h => ⟨⟨fun hc => ⟨grown_trans hc.1 (below_grown h.2), hc.2.imp (fun z => blk_ext z h.2) (fun z => blk_ext z h.2)⟩, h.2.size, fun z => blk_ext z h.2⟩, h.1, nofr rfl⟩)
            · exfalso; simp at hact
          refine ⟨fun wu20 hC hd => ?_, ?_⟩
          · obtain ⟨h10, h14, h19, _⟩ := hd
            replace h10 : V 10 = (.bool true) := h10
            replace h14 : V 14 = (.string (strOfNums ((rdL C ln at_ nn).take m5))) := h14
            replace h19 : V 19 = (.string (strOfNums (rdF C at_ m5))) := h19
            have hgC := hC.1
            replace hk1 := blk_grown hk1 hgC (by omega)
            replace hk2 := blk_grown hk2 hgC (by omega)
            replace hrr := Row.grown hrr hgC (Row.ne_type hrr hk3 rfl)
            replace hrd := Row.grown hrd hgC (Row.ne_type hrd hk3 rfl)
            replace hZ := Nat.le_trans hZ hgC.size
            replace hb := hb.trans (grown_below hgC hb.size hBb3)
            replace hSt := hSt.grown hgC hk3 rfl rfl
            replace hK := hK.grownI hgC hhZb3
            refine ⟨true, true, congrArg some h10, fun hact => ?_, fun hact => ?_⟩
            · exact Runs.does (Runs.veq (r_seq (congrArg some h14) (congrArg some h19)) (congrArg Value.bool (show _ = true from (by rw [hrl, rdF_take C at_ _ _ hm6.1]; simp)))) ⟨⟨id, Nat.le_refl _, id⟩, rfl, nofr rfl⟩
            · exfalso; simp at hact
          refine ⟨fun wu21 hC hd => ?_, ?_⟩
          · obtain ⟨h10, h20, _⟩ := hd
            replace h10 : V 10 = (.bool true) := h10
            replace h20 : V 20 = (.bool true) := h20
            have hgC := hC.1
            replace hk1 := blk_grown hk1 hgC (by omega)
            replace hk2 := blk_grown hk2 hgC (by omega)
            replace hrr := Row.grown hrr hgC (Row.ne_type hrr hk3 rfl)
            replace hrd := Row.grown hrd hgC (Row.ne_type hrd hk3 rfl)
            replace hZ := Nat.le_trans hZ hgC.size
            replace hb := hb.trans (grown_below hgC hb.size hBb3)
            replace hSt := hSt.grown hgC hk3 rfl rfl
            replace hK := hK.grownI hgC hhZb3
            exact Runs.does (r_pick (b := true) (congrArg some h10) (congrArg some h20) rfl rfl) ⟨⟨id, Nat.le_refl _, id⟩, rfl, nofr rfl⟩
          refine ⟨fun wu22 hC hd => ?_, ?_⟩
          · obtain ⟨h0, h19, _⟩ := hd
            replace h0 : V 0 = (.agg #[(.int .i64 ((ln : Nat) : Int)), (.int .i64 mo), (.slice ca C.length cc)]) := h0
            replace h19 : V 19 = (.string (strOfNums (rdF C at_ m5))) := h19
            have hgC := hC.1
            replace hk1 := blk_grown hk1 hgC (by omega)
            replace hk2 := blk_grown hk2 hgC (by omega)
            replace hrr := Row.grown hrr hgC (Row.ne_type hrr hk3 rfl)
            replace hrd := Row.grown hrd hgC (Row.ne_type hrd hk3 rfl)
            replace hZ := Nat.le_trans hZ hgC.size
            replace hb := hb.trans (grown_below hgC hb.size hBb3)
            replace hSt := hSt.grown hgC hk3 rfl rfl
            replace hK := hK.grownI hgC hhZb3
            rcases hC.2 with hX | hX
            · refine Does.mono (d_storeK (T := 111) (v := (.agg #[(.int .i64 ((ln : Nat) : Int)), (.int .i64 mo), (.slice ca C.length cc)])) (cs := #[(.int .i64 (0 : Int)), (.int .i64 (0 : Int)), (.slice none 0 0)]) (cs' := #[(.int .i64 ((ln : Nat) : Int)), (.int .i64 mo), (.slice ca C.length cc)]) rfl (congrArg some h0) (by kernel_rfl) (by kernel_rfl) hX (by kernel_rfl) (by kernel_rfl)) ?_
              rintro _ wz ⟨hY, hgY⟩
              exact ⟨⟨fun _ => ⟨grownBy_trans hgC hgY, .inr hY⟩, hgY.size, fun _ => hY⟩, hY, nofr rfl⟩
            · refine Does.mono (d_storeK (T := 111) (v := (.agg #[(.int .i64 ((ln : Nat) : Int)), (.int .i64 mo), (.slice ca C.length cc)])) (cs := #[(.int .i64 ((ln : Nat) : Int)), (.int .i64 mo), (.slice ca C.length cc)]) (cs' := #[(.int .i64 ((ln : Nat) : Int)), (.int .i64 mo), (.slice ca C.length cc)]) rfl (congrArg some h0) (by kernel_rfl) (by kernel_rfl) hX (by kernel_rfl) (by kernel_rfl)) ?_
              rintro _ wz ⟨hY, hgY⟩
              exact ⟨⟨fun _ => ⟨grownBy_trans hgC hgY, .inr hY⟩, hgY.size, fun _ => hY⟩, hY, nofr rfl⟩
          trivial
        · skip
          clear hf fa; intro V w12 fa he8 hp hnb hf
          have hg4 := he8.1
          have hv0 : V 0 = (.agg #[(.int .i64 ((ln : Nat) : Int)), (.int .i64 mo), (.slice ca C.length cc)]) := postsHold_at hp 0 rfl
          have hv1 : V 1 = (.int .i64 ((if inP ln at_ nn = true then 0 else 63))) := postsHold_at hp 1 rfl
          have hv2 : V 2 = (.bool true) := postsHold_at hp 2 rfl
          have hv3 : V 3 = (.bool true) := postsHold_at hp 3 rfl
          have hv4 : V 4 = (.slice va ((rdL C ln at_ nn).length) vc) := postsHold_at hp 4 rfl
          have hv5 : V 5 = (.int .i64 (((rdL C ln at_ nn).length : Nat) : Int)) := postsHold_at hp 5 rfl
          have hv6 : V 6 = (.pointer (some ⟨b2, 2, none⟩)) := postsHold_at hp 6 rfl
          have hv7 : V 7 = (.int .i64 nn) := postsHold_at hp 7 rfl
          have hv8 : V 8 = (.bool true) := postsHold_at hp 8 rfl
          have hv9 : V 9 = (.bool true) := postsHold_at hp 9 rfl
          have hv10 : V 10 = (.bool true) := postsHold_at hp 10 rfl
          have hv11 : V 11 = (.slice va ((rdL C ln at_ nn).length) vc) := postsHold_at hp 11 rfl
          have hv12 : V 12 = (.int .i64 ((m5 : Nat) : Int)) := postsHold_at hp 12 rfl
          have hv13 : V 13 = (.slice va m5 vc) := postsHold_at hp 13 rfl
          have hv14 : V 14 = (.string (strOfNums ((rdL C ln at_ nn).take m5))) := postsHold_at hp 14 rfl
          have hv15 : V 15 = (.agg #[(.int .i64 ((ln : Nat) : Int)), (.int .i64 mo), (.slice ca C.length cc)]) := postsHold_at hp 15 rfl
          have hv16 : V 16 = (.pointer (some ⟨b2, 1, none⟩)) := postsHold_at hp 16 rfl
          have hv17 : V 17 = (.int .u64 ((at_ : Nat) : Int)) := postsHold_at hp 17 rfl
          have hv18 : V 18 = (.int .i64 ((m5 : Nat) : Int)) := postsHold_at hp 18 rfl
          have hv19 : V 19 = (.string (strOfNums (rdF C at_ m5))) := postsHold_at hp 19 rfl
          have hv20 : V 20 = (.bool true) := postsHold_at hp 20 rfl
          have hv21 : V 21 = (.bool true) := postsHold_at hp 21 rfl
          have hk7 := postsHold_at hp 22 rfl
          simp only [List.take_succ_cons, List.take_zero, insAll, ins, hv0, hv1, hv2, hv3, hv4, hv5, hv6, hv7, hv8, hv9, hv10, hv11, hv12, hv13, hv14, hv15, hv16, hv17, hv18, hv19, hv20, hv21] at hf
          clear hp hnb hv0 hv1 hv2 hv3 hv4 hv5 hv6 hv7 hv8 hv9 hv10 hv11 hv12 hv13 hv14 hv15 hv16 hv17 hv18 hv19 hv20 hv21
          replace hk1 := blk_grown hk1 hg4 (by omega)
          replace hk2 := blk_grown hk2 hg4 (by omega)
          replace hrr := Row.grown hrr hg4 (Row.ne_type hrr hk3 rfl)
          replace hrd := Row.grown hrd hg4 (Row.ne_type hrd hk3 rfl)
          replace hZ := Nat.le_trans hZ hg4.size
          replace hb := hb.trans (grown_below hg4 hb.size hBb3)
          replace hSt := hSt.grown hg4 hk3 rfl rfl
          replace hK := hK.grownI hg4 hhZb3
          replace hk7 : w12.heap[b3]? = some (.cells #[(.int .i64 ((ln : Nat) : Int)), (.int .i64 mo), (.slice ca C.length cc)] 111 (0, 0)) := hk7
          simp only [List.drop_succ_cons, List.drop_zero]
          refine sqv hf (r_assign rfl) rfl rfl rfl ?_; clear hf fa; intro fa hf
          apply wpList_nil
          (try simp only [Exit.then, Exit.inBlock, ↓reduceIte, Nat.reduceEqDiff])
          refine hK15 _ _ ?_
          refine wp_ret ?_
          (try simp only [Exit.then, Exit.inBlock])
          refine retCT hf rfl rfl hk7 Try.underlying111 rfl (by kernel_rfl) rfl ?_
          have hzz := hrr
          have hkd : kd = 1 := hqt46_1
          subst hkd
          have hD : doN 1 nn at_ ln mo C M = (ln, C) := by unfold doN; rw [if_neg (by decide), if_neg (by decide), if_neg (by decide)]
          rw [hD]
          exact ⟨_, rfl, _, rfl, hzz, hSt, hb, hK, hZ⟩
    · have hqt46_1b := hqt46_1
      replace hqt46_1 := Bool.eq_false_iff.1 hqt46_1
      try simp only [ne_eq, decide_eq_true_eq, Bool.and_eq_true, Bool.or_eq_true, Bool.not_eq_true', decide_eq_false_iff_not] at hqt46_1
      refine wp_seq_k (fun K16 hK16 => ?_)
      refine wp_region_lit ?_
      refine sqv hf (r_eq rfl rfl) rfl rfl rfl ?_; clear hf fa; intro fa hf
      refine sqv hf (r_assign rfl) rfl rfl rfl ?_; clear hf fa; intro fa hf
      apply wpList_nil
      (try simp only [Exit.then, Exit.inBlock, ↓reduceIte, Nat.reduceEqDiff])
      refine hK16 _ _ ?_
      refine wp_cond_split (t := (decide (kd = (2 : Int)))) (hf.ev rfl) (fun hqt97_1 => ?_) (fun hqt97_1 => ?_)
      · have hqt97_1b := hqt97_1
        try simp only [decide_eq_true_eq, Bool.and_eq_true, Bool.or_eq_true, Bool.not_eq_true', decide_eq_false_iff_not, ne_eq, Bool.not_eq_true] at hqt97_1
        refine wp_seq_k (fun K17 hK17 => ?_)
        refine wp_region_lit ?_
        refine sqv hf (r_move rfl) rfl rfl rfl ?_; clear hf fa; intro fa hf
        refine sqv hf (r_fa rfl Try.underlying113 (f := 1) (q := 1) rfl (by kernel_rfl) rfl) rfl rfl rfl ?_; clear hf fa; intro fa hf
        refine sqv hf (r_load (v := (.int .u64 ((at_ : Nat) : Int))) rfl Try.underlying26 rfl (cell_blk hk2 rfl)) rfl rfl rfl ?_; clear hf fa; intro fa hf
        refine sqdt hf (d_callX (vs := [(.pointer (some ⟨p, 0, none⟩)), (.int .u64 ((at_ : Nat) : Int))]) rfl Try.func76 (by kernel_rfl) (by kernel_rfl) (grow_S hb hSt at_ ha0)) rfl rfl rfl ?_; clear hf fa; rintro fa _ w13 ⟨rfl, hS2, hb2, hP2⟩ hf; clear hSt; have hSt : St26 w0.heap.size w13 p (if ((at_ : Nat) : Int) ≤ mo - ((ln / 65536 : Nat) : Int) then ln + at_ * 65536 else ln) mo (if ((at_ : Nat) : Int) ≤ mo - ((ln / 65536 : Nat) : Int) then C.filter (szQ (((ln : Nat) : Int) + ((at_ : Nat) : Int) * 65536)) else C) := hS2; clear hS2; replace hb := hb2; clear hb2
        replace hk1 := hP2.1 _ _ hk1
        replace hk2 := hP2.2.1 _ _ hk2
        replace hk3 := hP2.1 _ _ hk3
        replace hrr := Row.kt hrr hP2.2.2.1
        replace hK := hK.trans hP2.1
        replace hZ := Nat.le_trans hZ hP2.2.2.2
        clear hP2
        refine sqv hf (r_move rfl) rfl rfl rfl ?_; clear hf fa; intro fa hf
        refine sqv hf (r_extract rfl (i := 0) rfl) rfl rfl rfl ?_; clear hf fa; intro fa hf
        refine sqv hf (r_extract rfl (i := 1) rfl) rfl rfl rfl ?_; clear hf fa; intro fa hf
        refine sqv hf (r_assign rfl) rfl rfl rfl ?_; clear hf fa; intro fa hf
        refine sqv hf (r_assign rfl) rfl rfl rfl ?_; clear hf fa; intro fa hf
        apply wpList_nil
        (try simp only [Exit.then, Exit.inBlock, ↓reduceIte, Nat.reduceEqDiff])
        refine hK17 _ _ ?_
        refine wp_seq_k (fun K18 hK18 => ?_)
        refine wp_region_lit ?_
        refine sqv hf (r_fa rfl Try.underlying111 (f := 0) (q := 0) rfl (by kernel_rfl) rfl) rfl rfl rfl ?_; clear hf fa; intro fa hf
        refine sqv hf (r_load (v := (.int .i64 ((ln : Nat) : Int))) rfl Try.underlying3 rfl (cell_blk hk1 rfl)) rfl rfl rfl ?_; clear hf fa; intro fa hf
        refine sqv hf (r_quo (C := (((ln / 65536) : Nat) : Int)) rfl rfl (by omega) (by rw [Int.tdiv_eq_ediv_of_nonneg (by omega), IntKind.wrap_i64]; omega)) rfl rfl rfl ?_; clear hf fa; intro fa hf
        refine sqv hf (r_assign rfl) rfl rfl rfl ?_; clear hf fa; intro fa hf
        apply wpList_nil
        (try simp only [Exit.then, Exit.inBlock, ↓reduceIte, Nat.reduceEqDiff])
        refine hK18 _ _ ?_
        refine wp_seq_k (fun K19 hK19 => ?_)
        refine wp_seq_k (fun K20 hK20 => ?_)
        refine wp_region_lit ?_
        refine sqv hf (r_fa rfl Try.underlying113 (f := 1) (q := 1) rfl (by kernel_rfl) rfl) rfl rfl rfl ?_; clear hf fa; intro fa hf
        refine sqv hf (r_load (v := (.int .u64 ((at_ : Nat) : Int))) rfl Try.underlying26 rfl (cell_blk hk2 rfl)) rfl rfl rfl ?_; clear hf fa; intro fa hf
        refine sqv hf (r_fa rfl Try.underlying111 (f := 1) (q := 1) rfl (by kernel_rfl) rfl) rfl rfl rfl ?_; clear hf fa; intro fa hf
        refine sqv hf (r_load (v := (.int .i64 mo)) rfl Try.underlying3 rfl (cell_blk hk1 rfl)) rfl rfl rfl ?_; clear hf fa; intro fa hf
        refine sqv hf (r_move rfl) rfl rfl rfl ?_; clear hf fa; intro fa hf
        refine sqv hf (r_sub (C := (mo - (((ln / 65536) : Nat) : Int))) rfl rfl (by rw [IntKind.wrap_i64]; omega)) rfl rfl rfl ?_; clear hf fa; intro fa hf
        refine sqv hf (r_conv (C := (mo - (((ln / 65536) : Nat) : Int))) rfl Try.underlying3 Try.underlying26 (by rw [IntKind.wrap_u64]; omega)) rfl rfl rfl ?_; clear hf fa; intro fa hf
        refine sqv hf (r_gt rfl rfl) rfl rfl rfl ?_; clear hf fa; intro fa hf
        apply wpList_nil
        (try simp only [Exit.then, Exit.inBlock, ↓reduceIte, Nat.reduceEqDiff])
        refine hK20 _ _ ?_
        refine wp_cond_split (t := (decide ((mo - (((ln / 65536) : Nat) : Int)) < ((at_ : Nat) : Int)))) (hf.ev rfl) (fun hqt116_1 => ?_) (fun hqt116_1 => ?_)
        · have hqt116_1b := hqt116_1
          try simp only [decide_eq_true_eq, Bool.and_eq_true, Bool.or_eq_true, Bool.not_eq_true', decide_eq_false_iff_not, ne_eq, Bool.not_eq_true] at hqt116_1
          refine wp_seq_k (fun K21 hK21 => ?_)
          refine wp_region_lit ?_
          refine sqv hf (r_loadA (cs := [(.int .i64 ((ln : Nat) : Int)), (.int .i64 mo), (.slice ca C.length cc)]) rfl Try.underlying111 rfl (by kernel_rfl) (cellsAt_blk hk1)) rfl rfl rfl ?_; clear hf fa; intro fa hf
          refine sqv hf (r_move rfl) rfl rfl rfl ?_; clear hf fa; intro fa hf
          refine sqv hf (Runs.veq (r_eq rfl rfl) (congrArg Value.bool (show _ = true from (by have h := hqt116_1; rw [if_neg (by omega)]; rfl)))) rfl rfl rfl ?_; clear hf fa; intro fa hf
          refine sqv hf (r_move rfl) rfl rfl rfl ?_; clear hf fa; intro fa hf
          refine sqgd (act := true) (g := 3) (want := true) (ag := true) (c := true) hf (by rfl) (by rfl) rfl (fun _ =>  Runs.does (R := fun vq wq => vq = (.bool (decide (((at_ : Nat) : Int) ≤ mo - ((ln / 65536 : Nat) : Int)))) ∧ w13 = wq) (r_move rfl) ⟨rfl, rfl⟩) (fun h => by cases h) rfl ?_; clear hf fa; rintro fa _ _ ⟨rfl, rfl⟩ hf
          change Fr _ _ ((121, (.bool (decide (((at_ : Nat) : Int) ≤ mo - ((ln / 65536 : Nat) : Int))))) :: _) at hf
          refine sqgd (act := true) (g := 3) (want := true) (ag := true) (c := true) hf (by rfl) (by rfl) rfl (fun _ =>  Runs.does (R := fun vq wq => vq = (.bool true) ∧ w13 = wq) (Runs.veq (r_not rfl) (congrArg Value.bool (show _ = true from (by have h := hqt116_1; rw [decide_eq_false (by omega)]; rfl)))) ⟨rfl, rfl⟩) (fun h => by cases h) rfl ?_; clear hf fa; rintro fa _ _ ⟨rfl, rfl⟩ hf
          change Fr _ _ ((122, (.bool true)) :: _) at hf
          refine sqv hf (r_pick (b := true) rfl rfl rfl rfl) rfl rfl rfl ?_; clear hf fa; intro fa hf
          refine sqn hf (d_storeK (T := 111) (v := (.agg #[(.int .i64 ((ln : Nat) : Int)), (.int .i64 mo), (.slice ca C.length cc)])) (cs := #[(.int .i64 (0 : Int)), (.int .i64 (0 : Int)), (.slice none 0 0)]) (cs' := #[(.int .i64 ((ln : Nat) : Int)), (.int .i64 mo), (.slice ca C.length cc)]) rfl rfl (by kernel_rfl) (by kernel_rfl) hk3 (by kernel_rfl) (by kernel_rfl)) rfl rfl ?_; clear hf fa; rintro fa _ w14 ⟨hk8, hg5⟩ hf
          replace hk1 := blk_grown hk1 hg5 (by omega)
          replace hk2 := blk_grown hk2 hg5 (by omega)
          replace hrr := Row.grown hrr hg5 (Row.ne_type hrr hk3 rfl)
          replace hZ := Nat.le_trans hZ hg5.size
          replace hb := hb.trans (grown_below hg5 hb.size hBb3)
          replace hSt := hSt.grown hg5 hk3 rfl rfl
          replace hK := hK.grownI hg5 hhZb3
          refine sqv hf (r_assign rfl) rfl rfl rfl ?_; clear hf fa; intro fa hf
          apply wpList_nil
          (try simp only [Exit.then, Exit.inBlock, ↓reduceIte, Nat.reduceEqDiff])
          refine hK21 _ _ ?_
          refine wp_ret ?_
          (try simp only [Exit.then, Exit.inBlock])
          refine retCT hf rfl rfl hk8 Try.underlying111 rfl (by kernel_rfl) rfl ?_
          have hzz := hrr
          have hkd : kd = 2 := hqt97_1
          subst hkd
          have hgr : ¬ ((at_ : Nat) : Int) ≤ mo - ((ln / 65536 : Nat) : Int) := by have h := hqt116_1; omega
          have hD : doN 2 nn at_ ln mo C M = (ln, C) := by unfold doN; rw [if_neg (by decide), if_pos rfl, if_neg hgr]
          rw [if_neg hgr, if_neg hgr] at hSt
          rw [hD]
          exact ⟨_, rfl, _, rfl, hzz, hSt, hb, hK, hZ⟩
        · have hqt116_1b := hqt116_1
          replace hqt116_1 := Bool.eq_false_iff.1 hqt116_1
          try simp only [ne_eq, decide_eq_true_eq, Bool.and_eq_true, Bool.or_eq_true, Bool.not_eq_true', decide_eq_false_iff_not] at hqt116_1
          refine wp_skip ?_
          (try simp only [Exit.then, Exit.inBlock, ↓reduceIte, Nat.reduceEqDiff])
          refine hK19 _ _ ?_
          refine wp_seq_k (fun K22 hK22 => ?_)
          have hgr0 : ((at_ : Nat) : Int) ≤ mo - ((ln / 65536 : Nat) : Int) := by have h := hqt116_1; omega
          refine wp_region_lit ?_
          refine sqv hf (r_loadA (cs := [(.int .i64 ((ln : Nat) : Int)), (.int .i64 mo), (.slice ca C.length cc)]) rfl Try.underlying111 rfl (by kernel_rfl) (cellsAt_blk hk1)) rfl rfl rfl ?_; clear hf fa; intro fa hf
          refine sqv hf (r_fa rfl Try.underlying111 (f := 0) (q := 0) rfl (by kernel_rfl) rfl) rfl rfl rfl ?_; clear hf fa; intro fa hf
          refine sqv hf (r_load (v := (.int .i64 ((ln : Nat) : Int))) rfl Try.underlying3 rfl (cell_blk hk1 rfl)) rfl rfl rfl ?_; clear hf fa; intro fa hf
          refine sqv hf (r_fa rfl Try.underlying113 (f := 1) (q := 1) rfl (by kernel_rfl) rfl) rfl rfl rfl ?_; clear hf fa; intro fa hf
          refine sqv hf (r_load (v := (.int .u64 ((at_ : Nat) : Int))) rfl Try.underlying26 rfl (cell_blk hk2 rfl)) rfl rfl rfl ?_; clear hf fa; intro fa hf
          refine sqv hf (r_conv (C := ((at_ : Nat) : Int)) rfl Try.underlying26 Try.underlying3 (by rw [IntKind.wrap_i64]; omega)) rfl rfl rfl ?_; clear hf fa; intro fa hf
          refine sqv hf (r_mul (C := (((at_ : Nat) : Int) * (65536 : Int))) rfl rfl (by rw [IntKind.wrap_i64]; omega)) rfl rfl rfl ?_; clear hf fa; intro fa hf
          refine sqv hf (r_add (C := (((ln : Nat) : Int) + (((at_ : Nat) : Int) * (65536 : Int)))) rfl rfl (by rw [IntKind.wrap_i64]; omega)) rfl rfl rfl ?_; clear hf fa; intro fa hf
          refine sqdt hf (d_callX (vs := [(.agg #[(.int .i64 ((ln : Nat) : Int)), (.int .i64 mo), (.slice ca C.length cc)]), (.int .i64 (((ln : Nat) : Int) + (((at_ : Nat) : Int) * (65536 : Int))))]) rfl Try.func82 (by kernel_rfl) (by kernel_rfl) (rsize_any ln mo ca C cc _ (Row.rd (by intros; rfl) hrr) (by omega) hCl (((ln : Nat) : Int) + (((at_ : Nat) : Int) * (65536 : Int))) (by omega))) rfl rfl rfl ?_; clear hf fa; rintro fa _ w15 ⟨na, nc, rfl, hnr, he9⟩ hf
          replace hnr := Row.rebase hnr hb.size
          replace hk1 := blk_ext hk1 he9
          replace hk2 := blk_ext hk2 he9
          replace hk3 := blk_ext hk3 he9
          replace hrr := Row.ext hrr he9
          replace hZ := Nat.le_trans hZ he9.size
          replace hb := hb.trans (Below.mono he9 hb.size)
          replace hSt := hSt.ext he9
          replace hK := hK.trans (KT.of_below he9)
          refine sqv hf (r_move rfl) rfl rfl rfl ?_; clear hf fa; intro fa hf
          refine sqv hf (r_move rfl) rfl rfl rfl ?_; clear hf fa; intro fa hf
          refine sqv hf (Runs.veq (r_eq rfl rfl) (congrArg Value.bool (show _ = true from (by rw [if_pos hgr0]; simp)))) rfl rfl rfl ?_; clear hf fa; intro fa hf
          refine sqv hf (r_move rfl) rfl rfl rfl ?_; clear hf fa; intro fa hf
          refine sqgd (act := true) (g := 12) (want := true) (ag := true) (c := true) hf (by rfl) (by rfl) rfl (fun _ =>  Runs.does (R := fun vq wq => vq = (.bool true) ∧ w15 = wq) (Runs.veq (r_move rfl) (congrArg Value.bool (show _ = true from (decide_eq_true hgr0)))) ⟨rfl, rfl⟩) (fun h => by cases h) rfl ?_; clear hf fa; rintro fa _ _ ⟨rfl, rfl⟩ hf
          change Fr _ _ ((137, (.bool true)) :: _) at hf
          refine sqv hf (r_pick (b := true) rfl rfl rfl rfl) rfl rfl rfl ?_; clear hf fa; intro fa hf
          refine sqn hf (d_storeK (T := 111) (v := (.agg #[(.int .i64 (((ln : Nat) : Int) + (((at_ : Nat) : Int) * (65536 : Int)))), (.int .i64 mo), (.slice na ((C.filter (szQ (((ln : Nat) : Int) + (((at_ : Nat) : Int) * (65536 : Int))))).length) nc)])) (cs := #[(.int .i64 (0 : Int)), (.int .i64 (0 : Int)), (.slice none 0 0)]) (cs' := #[(.int .i64 (((ln : Nat) : Int) + (((at_ : Nat) : Int) * (65536 : Int)))), (.int .i64 mo), (.slice na ((C.filter (szQ (((ln : Nat) : Int) + (((at_ : Nat) : Int) * (65536 : Int))))).length) nc)]) rfl rfl (by kernel_rfl) (by kernel_rfl) hk3 (by kernel_rfl) (by kernel_rfl)) rfl rfl ?_; clear hf fa; rintro fa _ w16 ⟨hk9, hg6⟩ hf
          replace hk1 := blk_grown hk1 hg6 (by omega)
          replace hk2 := blk_grown hk2 hg6 (by omega)
          replace hrr := Row.grown hrr hg6 (Row.ne_type hrr hk3 rfl)
          replace hnr := Row.grown hnr hg6 (Row.ne_type hnr hk3 rfl)
          replace hZ := Nat.le_trans hZ hg6.size
          replace hb := hb.trans (grown_below hg6 hb.size hBb3)
          replace hSt := hSt.grown hg6 hk3 rfl rfl
          replace hK := hK.grownI hg6 hhZb3
          refine sqv hf (r_assign rfl) rfl rfl rfl ?_; clear hf fa; intro fa hf
          apply wpList_nil
          (try simp only [Exit.then, Exit.inBlock, ↓reduceIte, Nat.reduceEqDiff])
          refine hK22 _ _ ?_
          refine wp_ret ?_
          (try simp only [Exit.then, Exit.inBlock])
          refine retCT hf rfl rfl hk9 Try.underlying111 rfl (by kernel_rfl) rfl ?_
          have hzz := hnr
          have hkd : kd = 2 := hqt97_1
          subst hkd
          have hgr : ((at_ : Nat) : Int) ≤ mo - ((ln / 65536 : Nat) : Int) := by have h := hqt116_1; omega
          have hD : doN 2 nn at_ ln mo C M = (ln + at_ * 65536, C.filter (szQ (((ln : Nat) : Int) + ((at_ : Nat) : Int) * 65536))) := by unfold doN; rw [if_neg (by decide), if_pos rfl, if_pos hgr]
          rw [if_pos hgr, if_pos hgr] at hSt
          rw [hD]
          exact ⟨_, rfl, _, by rw [show ((ln + at_ * 65536 : Nat) : Int) = ((ln : Nat) : Int) + ((at_ : Nat) : Int) * 65536 by omega]; first | done | rfl, hzz, hSt, hb, hK, hZ⟩
      · have hqt97_1b := hqt97_1
        replace hqt97_1 := Bool.eq_false_iff.1 hqt97_1
        try simp only [ne_eq, decide_eq_true_eq, Bool.and_eq_true, Bool.or_eq_true, Bool.not_eq_true', decide_eq_false_iff_not] at hqt97_1
        refine wp_seq_k (fun K23 hK23 => ?_)
        refine wp_region_lit ?_
        refine sqv hf (r_eq rfl rfl) rfl rfl rfl ?_; clear hf fa; intro fa hf
        refine sqv hf (r_assign rfl) rfl rfl rfl ?_; clear hf fa; intro fa hf
        apply wpList_nil
        (try simp only [Exit.then, Exit.inBlock, ↓reduceIte, Nat.reduceEqDiff])
        refine hK23 _ _ ?_
        refine wp_cond_split (t := (decide (kd = (3 : Int)))) (hf.ev rfl) (fun hqt139_1 => ?_) (fun hqt139_1 => ?_)
        · have hqt139_1b := hqt139_1
          try simp only [decide_eq_true_eq, Bool.and_eq_true, Bool.or_eq_true, Bool.not_eq_true', decide_eq_false_iff_not, ne_eq, Bool.not_eq_true] at hqt139_1
          refine wp_seq_k (fun K24 hK24 => ?_)
          refine wp_region_lit ?_
          refine sqv hf (r_move rfl) rfl rfl rfl ?_; clear hf fa; intro fa hf
          refine sqv hf (r_fa rfl Try.underlying113 (f := 2) (q := 2) rfl (by kernel_rfl) rfl) rfl rfl rfl ?_; clear hf fa; intro fa hf
          refine sqv hf (r_load (v := (.int .i64 nn)) rfl Try.underlying3 rfl (cell_blk hk2 rfl)) rfl rfl rfl ?_; clear hf fa; intro fa hf
          refine sqdt hf (d_callX (vs := [(.pointer (some ⟨p, 0, none⟩)), (.int .i64 nn)]) rfl Try.func83 (by kernel_rfl) (by kernel_rfl) (shrink_S hb hSt nn)) rfl rfl rfl ?_; clear hf fa; rintro fa _ w17 ⟨rfl, hS2, hb2, hP2⟩ hf; clear hSt; have hSt : St26 w0.heap.size w17 p (if 0 ≤ nn ∧ nn < ((ln / 65536 : Nat) : Int) then nn.toNat * 65536 else ln) mo (if 0 ≤ nn ∧ nn < ((ln / 65536 : Nat) : Int) then C.filter (szQ (nn * 65536)) else C) := hS2; clear hS2; replace hb := hb2; clear hb2
          replace hk1 := hP2.1 _ _ hk1
          replace hk2 := hP2.2.1 _ _ hk2
          replace hk3 := hP2.1 _ _ hk3
          replace hrr := Row.kt hrr hP2.2.2.1
          replace hK := hK.trans hP2.1
          replace hZ := Nat.le_trans hZ hP2.2.2.2
          clear hP2
          apply wpList_nil
          (try simp only [Exit.then, Exit.inBlock, ↓reduceIte, Nat.reduceEqDiff])
          refine hK24 _ _ ?_
          refine wp_seq_k (fun K25 hK25 => ?_)
          refine wp_seq_k (fun K26 hK26 => ?_)
          refine wp_region_lit ?_
          refine sqv hf (r_fa rfl Try.underlying113 (f := 2) (q := 2) rfl (by kernel_rfl) rfl) rfl rfl rfl ?_; clear hf fa; intro fa hf
          refine sqv hf (r_load (v := (.int .i64 nn)) rfl Try.underlying3 rfl (cell_blk hk2 rfl)) rfl rfl rfl ?_; clear hf fa; intro fa hf
          refine sqv hf (r_lt rfl rfl) rfl rfl rfl ?_; clear hf fa; intro fa hf
          refine sqv hf (r_move rfl) rfl rfl rfl ?_; clear hf fa; intro fa hf
          refine sqgF (act := (!(decide (nn < (0 : Int))))) (ag := true) (c := (decide (nn < (0 : Int)))) (v := (.pointer (some ⟨b2, 2, none⟩))) hf rfl rfl rfl (fun hact => (r_fa rfl Try.underlying113 (f := 2) (q := 2) rfl (by kernel_rfl) rfl)) rfl rfl ?_; clear hf fa; intro fa hf
          refine sqgF (act := (!(decide (nn < (0 : Int))))) (ag := true) (c := (decide (nn < (0 : Int)))) (v := (.int .i64 nn)) hf rfl rfl rfl (fun hact => (r_load (v := (.int .i64 nn)) (gb_ev hact rfl) Try.underlying3 rfl (cell_blk hk2 rfl))) rfl rfl ?_; clear hf fa; intro fa hf
          refine sqgF (act := (!(decide (nn < (0 : Int))))) (ag := true) (c := (decide (nn < (0 : Int)))) (v := (.pointer (some ⟨b1, 0, none⟩))) hf rfl rfl rfl (fun hact => (r_fa rfl Try.underlying111 (f := 0) (q := 0) rfl (by kernel_rfl) rfl)) rfl rfl ?_; clear hf fa; intro fa hf
          refine sqgF (act := (!(decide (nn < (0 : Int))))) (ag := true) (c := (decide (nn < (0 : Int)))) (v := (.int .i64 ((ln : Nat) : Int))) hf rfl rfl rfl (fun hact => (r_load (v := (.int .i64 ((ln : Nat) : Int))) (gb_ev hact rfl) Try.underlying3 rfl (cell_blk hk1 rfl))) rfl rfl ?_; clear hf fa; intro fa hf
          refine sqgF (act := (!(decide (nn < (0 : Int))))) (ag := true) (c := (decide (nn < (0 : Int)))) (v := (.int .i64 (((ln / 65536) : Nat) : Int))) hf rfl rfl rfl (fun hact => (by have hact0 := hact; (try simp only [Bool.and_eq_true, Bool.not_eq_true', Bool.or_eq_false_iff, Bool.or_eq_true, Bool.and_eq_false_iff, ne_eq, decide_eq_true_eq, decide_eq_false_iff_not] at hact0); exact (r_quo (C := (((ln / 65536) : Nat) : Int)) (gb_ev hact rfl) rfl (by omega) (by rw [Int.tdiv_eq_ediv_of_nonneg (by omega), IntKind.wrap_i64]; omega)))) rfl rfl ?_; clear hf fa; intro fa hf
          refine sqgF (act := (!(decide (nn < (0 : Int))))) (ag := true) (c := (decide (nn < (0 : Int)))) (v := (.bool (decide ((((ln / 65536) : Nat) : Int) ≤ nn)))) hf rfl rfl rfl (fun hact => (r_ge (gb_ev hact rfl) (gb_ev hact rfl))) rfl rfl ?_; clear hf fa; intro fa hf
          refine sqv hf (r_pickO (b := (decide (nn < (0 : Int)))) (e := (decide ((((ln / 65536) : Nat) : Int) ≤ nn))) rfl rfl rfl) rfl rfl rfl ?_; clear hf fa; intro fa hf
          apply wpList_nil
          (try simp only [Exit.then, Exit.inBlock, ↓reduceIte, Nat.reduceEqDiff])
          refine hK26 _ _ ?_
          refine wp_cond_split (t := ((decide (nn < (0 : Int))) || (decide ((((ln / 65536) : Nat) : Int) ≤ nn)))) (hf.ev rfl) (fun hqt155_1 => ?_) (fun hqt155_1 => ?_)
          · have hqt155_1b := hqt155_1
            try simp only [decide_eq_true_eq, Bool.and_eq_true, Bool.or_eq_true, Bool.not_eq_true', decide_eq_false_iff_not, ne_eq, Bool.not_eq_true] at hqt155_1
            refine wp_seq_k (fun K27 hK27 => ?_)
            refine wp_region_lit ?_
            refine sqv hf (r_loadA (cs := [(.int .i64 ((ln : Nat) : Int)), (.int .i64 mo), (.slice ca C.length cc)]) rfl Try.underlying111 rfl (by kernel_rfl) (cellsAt_blk hk1)) rfl rfl rfl ?_; clear hf fa; intro fa hf
            refine sqn hf (d_storeK (T := 111) (v := (.agg #[(.int .i64 ((ln : Nat) : Int)), (.int .i64 mo), (.slice ca C.length cc)])) (cs := #[(.int .i64 (0 : Int)), (.int .i64 (0 : Int)), (.slice none 0 0)]) (cs' := #[(.int .i64 ((ln : Nat) : Int)), (.int .i64 mo), (.slice ca C.length cc)]) rfl rfl (by kernel_rfl) (by kernel_rfl) hk3 (by kernel_rfl) (by kernel_rfl)) rfl rfl ?_; clear hf fa; rintro fa _ w18 ⟨hk10, hg7⟩ hf
            replace hk1 := blk_grown hk1 hg7 (by omega)
            replace hk2 := blk_grown hk2 hg7 (by omega)
            replace hrr := Row.grown hrr hg7 (Row.ne_type hrr hk3 rfl)
            replace hZ := Nat.le_trans hZ hg7.size
            replace hb := hb.trans (grown_below hg7 hb.size hBb3)
            replace hSt := hSt.grown hg7 hk3 rfl rfl
            replace hK := hK.grownI hg7 hhZb3
            refine sqv hf (r_assign rfl) rfl rfl rfl ?_; clear hf fa; intro fa hf
            apply wpList_nil
            (try simp only [Exit.then, Exit.inBlock, ↓reduceIte, Nat.reduceEqDiff])
            refine hK27 _ _ ?_
            refine wp_ret ?_
            (try simp only [Exit.then, Exit.inBlock])
            refine retCT hf rfl rfl hk10 Try.underlying111 rfl (by kernel_rfl) rfl ?_
            have hzz := hrr
            have hkd : kd = 3 := hqt139_1
            subst hkd
            have hgr : ¬ (0 ≤ nn ∧ nn < ((ln / 65536 : Nat) : Int)) := by have h := hqt155_1; first | omega | (simp at h; omega)
            have hD : doN 3 nn at_ ln mo C M = (ln, C) := by unfold doN; rw [if_neg (by decide), if_neg (by decide), if_pos rfl, if_neg hgr]
            rw [if_neg hgr, if_neg hgr] at hSt
            rw [hD]
            exact ⟨_, rfl, _, rfl, hzz, hSt, hb, hK, hZ⟩
          · have hqt155_1b := hqt155_1
            replace hqt155_1 := Bool.eq_false_iff.1 hqt155_1
            try simp only [ne_eq, decide_eq_true_eq, Bool.and_eq_true, Bool.or_eq_true, Bool.not_eq_true', decide_eq_false_iff_not] at hqt155_1
            refine wp_skip ?_
            (try simp only [Exit.then, Exit.inBlock, ↓reduceIte, Nat.reduceEqDiff])
            refine hK25 _ _ ?_
            refine wp_seq_k (fun K28 hK28 => ?_)
            have hgr0 : 0 ≤ nn ∧ nn < ((ln / 65536 : Nat) : Int) := by have h := hqt155_1; first | omega | (simp at h; omega)
            refine wp_region_lit ?_
            refine sqv hf (r_loadA (cs := [(.int .i64 ((ln : Nat) : Int)), (.int .i64 mo), (.slice ca C.length cc)]) rfl Try.underlying111 rfl (by kernel_rfl) (cellsAt_blk hk1)) rfl rfl rfl ?_; clear hf fa; intro fa hf
            refine sqv hf (r_fa rfl Try.underlying113 (f := 2) (q := 2) rfl (by kernel_rfl) rfl) rfl rfl rfl ?_; clear hf fa; intro fa hf
            refine sqv hf (r_load (v := (.int .i64 nn)) rfl Try.underlying3 rfl (cell_blk hk2 rfl)) rfl rfl rfl ?_; clear hf fa; intro fa hf
            refine sqv hf (r_mul (C := (nn * (65536 : Int))) rfl rfl (by rw [IntKind.wrap_i64]; omega)) rfl rfl rfl ?_; clear hf fa; intro fa hf
            refine sqdt hf (d_callX (vs := [(.agg #[(.int .i64 ((ln : Nat) : Int)), (.int .i64 mo), (.slice ca C.length cc)]), (.int .i64 (nn * (65536 : Int)))]) rfl Try.func82 (by kernel_rfl) (by kernel_rfl) (rsize_any ln mo ca C cc _ (Row.rd (by intros; rfl) hrr) (by omega) hCl (nn * (65536 : Int)) (by omega))) rfl rfl rfl ?_; clear hf fa; rintro fa _ w19 ⟨na, nc, rfl, hnr, he10⟩ hf
            replace hnr := Row.rebase hnr hb.size
            replace hk1 := blk_ext hk1 he10
            replace hk2 := blk_ext hk2 he10
            replace hk3 := blk_ext hk3 he10
            replace hrr := Row.ext hrr he10
            replace hZ := Nat.le_trans hZ he10.size
            replace hb := hb.trans (Below.mono he10 hb.size)
            replace hSt := hSt.ext he10
            replace hK := hK.trans (KT.of_below he10)
            refine sqn hf (d_storeK (T := 111) (v := (.agg #[(.int .i64 (nn * (65536 : Int))), (.int .i64 mo), (.slice na ((C.filter (szQ (nn * (65536 : Int)))).length) nc)])) (cs := #[(.int .i64 (0 : Int)), (.int .i64 (0 : Int)), (.slice none 0 0)]) (cs' := #[(.int .i64 (nn * (65536 : Int))), (.int .i64 mo), (.slice na ((C.filter (szQ (nn * (65536 : Int)))).length) nc)]) rfl rfl (by kernel_rfl) (by kernel_rfl) hk3 (by kernel_rfl) (by kernel_rfl)) rfl rfl ?_; clear hf fa; rintro fa _ w20 ⟨hk11, hg8⟩ hf
            replace hk1 := blk_grown hk1 hg8 (by omega)
            replace hk2 := blk_grown hk2 hg8 (by omega)
            replace hrr := Row.grown hrr hg8 (Row.ne_type hrr hk3 rfl)
            replace hnr := Row.grown hnr hg8 (Row.ne_type hnr hk3 rfl)
            replace hZ := Nat.le_trans hZ hg8.size
            replace hb := hb.trans (grown_below hg8 hb.size hBb3)
            replace hSt := hSt.grown hg8 hk3 rfl rfl
            replace hK := hK.grownI hg8 hhZb3
            refine sqv hf (r_assign rfl) rfl rfl rfl ?_; clear hf fa; intro fa hf
            apply wpList_nil
            (try simp only [Exit.then, Exit.inBlock, ↓reduceIte, Nat.reduceEqDiff])
            refine hK28 _ _ ?_
            refine wp_ret ?_
            (try simp only [Exit.then, Exit.inBlock])
            refine retCT hf rfl rfl hk11 Try.underlying111 rfl (by kernel_rfl) rfl ?_
            have hzz := hnr
            have hkd : kd = 3 := hqt139_1
            subst hkd
            have hgr : (0 ≤ nn ∧ nn < ((ln / 65536 : Nat) : Int)) := by have h := hqt155_1; first | omega | (simp at h; omega)
            have hD : doN 3 nn at_ ln mo C M = (nn.toNat * 65536, C.filter (szQ (nn * 65536))) := by unfold doN; rw [if_neg (by decide), if_neg (by decide), if_pos rfl, if_pos hgr]
            rw [if_pos hgr, if_pos hgr] at hSt
            rw [hD]
            exact ⟨_, rfl, _, by rw [show ((nn.toNat * 65536 : Nat) : Int) = nn * 65536 by omega]; first | done | rfl, hzz, hSt, hb, hK, hZ⟩
        · have hqt139_1b := hqt139_1
          replace hqt139_1 := Bool.eq_false_iff.1 hqt139_1
          try simp only [ne_eq, decide_eq_true_eq, Bool.and_eq_true, Bool.or_eq_true, Bool.not_eq_true', decide_eq_false_iff_not] at hqt139_1
          refine wp_seq_k (fun K29 hK29 => ?_)
          refine wp_region_lit ?_
          refine sqv hf (r_eq rfl rfl) rfl rfl rfl ?_; clear hf fa; intro fa hf
          refine sqv hf (r_assign rfl) rfl rfl rfl ?_; clear hf fa; intro fa hf
          apply wpList_nil
          (try simp only [Exit.then, Exit.inBlock, ↓reduceIte, Nat.reduceEqDiff])
          refine hK29 _ _ ?_
          refine wp_cond_split (t := (decide (kd = (4 : Int)))) (hf.ev rfl) (fun hqt162_1 => ?_) (fun hqt162_1 => ?_)
          · have hqt162_1b := hqt162_1
            try simp only [decide_eq_true_eq, Bool.and_eq_true, Bool.or_eq_true, Bool.not_eq_true', decide_eq_false_iff_not, ne_eq, Bool.not_eq_true] at hqt162_1
            refine wp_seq_k (fun K30 hK30 => ?_)
            refine wp_region_unT 5 (fun wq => Below w3.heap.size w3 wq) (fun w w' => Below w.heap.size w w')
              (fun V => [(fun x _ => x = (.agg #[(.int .i64 ((ln : Nat) : Int)), (.int .i64 mo), (.slice ca C.length cc)])), (fun x _ => x = (.pointer (some ⟨p, 0, none⟩))), (fun x _ => x = (.agg #[(.int .i64 ((ln : Nat) : Int)), (.int .i64 mo), (.slice ca C.length cc)])), (fun x _ => x = (.agg #[(.int .i64 kd), (.int .u64 ((at_ : Nat) : Int)), (.int .i64 nn), (.int .u8 ((op : Nat) : Int)), (.int .u64 ((vv : Nat) : Int)), (.int .u64 ((ww : Nat) : Int)), (.slice da M.length dc)])), (fun x _ => x = (.bool true))])
              []
              [[], [], [], [], [1, 2, 3], [], []]
              hf (by kernel_rfl) (by kernel_rfl) (by kernel_rfl) (fun _ => rfl) ((Below.refl _ _).drew) (fun a b h1 h2 => h1.trans (h2.mono h1.size)) (fun _ _ h => h.size) (fun V => ⟨kept_eq, kept_eq, kept_eq, kept_eq, kept_eq, trivial⟩) (fun _ _ _ _ _ => rfl) ?_ ?_
            · skip
              intro V
              refine ⟨fun wu0 hC hd => ?_, ?_⟩
              · clear hd
                replace hb := hb.trans (hC.mono hb.size)
                replace hk1 := blk_ext hk1 hC
                replace hk2 := blk_ext hk2 hC
                replace hk3 := blk_ext hk3 hC
                replace hrr := Row.ext hrr hC
                exact Runs.does (r_loadA (cs := [(.int .i64 ((ln : Nat) : Int)), (.int .i64 mo), (.slice ca C.length cc)]) rfl Try.underlying111 rfl (by kernel_rfl) (cellsAt_blk hk1)) ⟨Below.refl _ _, rfl, nofr rfl⟩
              refine ⟨fun wu1 hC hd => ?_, ?_⟩
              · clear hd
                replace hb := hb.trans (hC.mono hb.size)
                replace hk1 := blk_ext hk1 hC
                replace hk2 := blk_ext hk2 hC
                replace hk3 := blk_ext hk3 hC
                replace hrr := Row.ext hrr hC
                exact Runs.does (r_move rfl) ⟨Below.refl _ _, rfl, nofr rfl⟩
              refine ⟨fun wu2 hC hd => ?_, ?_⟩
              · clear hd
                replace hb := hb.trans (hC.mono hb.size)
                replace hk1 := blk_ext hk1 hC
                replace hk2 := blk_ext hk2 hC
                replace hk3 := blk_ext hk3 hC
                replace hrr := Row.ext hrr hC
                exact Runs.does (r_loadA (cs := [(.int .i64 ((ln : Nat) : Int)), (.int .i64 mo), (.slice ca C.length cc)]) rfl Try.underlying111 rfl (by kernel_rfl) (cellsAt_blk hk1)) ⟨Below.refl _ _, rfl, nofr rfl⟩
              refine ⟨fun wu3 hC hd => ?_, ?_⟩
              · clear hd
                replace hb := hb.trans (hC.mono hb.size)
                replace hk1 := blk_ext hk1 hC
                replace hk2 := blk_ext hk2 hC
                replace hk3 := blk_ext hk3 hC
                replace hrr := Row.ext hrr hC
                exact Runs.does (r_loadA (cs := [(.int .i64 kd), (.int .u64 ((at_ : Nat) : Int)), (.int .i64 nn), (.int .u8 ((op : Nat) : Int)), (.int .u64 ((vv : Nat) : Int)), (.int .u64 ((ww : Nat) : Int)), (.slice da M.length dc)]) rfl Try.underlying113 rfl (by kernel_rfl) (cellsAt_blk hk2)) ⟨Below.refl _ _, rfl, nofr rfl⟩
              refine ⟨fun wu4 hC hd => ?_, ?_⟩
              · obtain ⟨h1, h2, h3, _⟩ := hd
                skip
                skip
                skip
                replace h1 : V 1 = (.pointer (some ⟨p, 0, none⟩)) := h1
                replace h2 : V 2 = (.agg #[(.int .i64 ((ln : Nat) : Int)), (.int .i64 mo), (.slice ca C.length cc)]) := h2
                replace h3 : V 3 = (.agg #[(.int .i64 kd), (.int .u64 ((at_ : Nat) : Int)), (.int .i64 nn), (.int .u8 ((op : Nat) : Int)), (.int .u64 ((vv : Nat) : Int)), (.int .u64 ((ww : Nat) : Int)), (.slice da M.length dc)]) := h3
                replace hb := hb.trans (hC.mono hb.size)
                replace hk1 := blk_ext hk1 hC
                replace hk2 := blk_ext hk2 hC
                replace hk3 := blk_ext hk3 hC
                replace hrr := Row.ext hrr hC
                refine Does.mono (d_callB (vs := [(.pointer (some ⟨p, 0, none⟩)), (.agg #[(.int .i64 ((ln : Nat) : Int)), (.int .i64 mo), (.slice ca C.length cc)]), (.agg #[(.int .i64 kd), (.int .u64 ((at_ : Nat) : Int)), (.int .i64 nn), (.int .u8 ((op : Nat) : Int)), (.int .u64 ((vv : Nat) : Int)), (.int .u64 ((ww : Nat) : Int)), (.slice da M.length dc)])]) (show [some (V 1), some (V 2), some (V 3)] = [some (.pointer (some ⟨p, 0, none⟩)), some (.agg #[(.int .i64 ((ln : Nat) : Int)), (.int .i64 mo), (.slice ca C.length cc)]), some (.agg #[(.int .i64 kd), (.int .u64 ((at_ : Nat) : Int)), (.int .i64 nn), (.int .u8 ((op : Nat) : Int)), (.int .u64 ((vv : Nat) : Int)), (.int .u64 ((ww : Nat) : Int)), (.slice da M.length dc)])] from by rw [h1, h2, h3]) Try.func84 (by kernel_rfl) (by kernel_rfl) (loads_S (hSt.ext hC) (Row.rd (by intros; rfl) hrr) hCl kd nn at_ op vv ww da M.length dc ha0 hop hv0 hw0)) (fun _ _ h => ⟨h.2, h.1, nofr rfl⟩)
              trivial
            · skip
              clear hf fa; intro V w21 fa he11 hp hnb hf
              have hv0 : V 0 = (.agg #[(.int .i64 ((ln : Nat) : Int)), (.int .i64 mo), (.slice ca C.length cc)]) := postsHold_at hp 0 rfl
              have hv1 : V 1 = (.pointer (some ⟨p, 0, none⟩)) := postsHold_at hp 1 rfl
              have hv2 : V 2 = (.agg #[(.int .i64 ((ln : Nat) : Int)), (.int .i64 mo), (.slice ca C.length cc)]) := postsHold_at hp 2 rfl
              have hv3 : V 3 = (.agg #[(.int .i64 kd), (.int .u64 ((at_ : Nat) : Int)), (.int .i64 nn), (.int .u8 ((op : Nat) : Int)), (.int .u64 ((vv : Nat) : Int)), (.int .u64 ((ww : Nat) : Int)), (.slice da M.length dc)]) := postsHold_at hp 3 rfl
              have hv4 : V 4 = (.bool true) := postsHold_at hp 4 rfl
              simp only [List.take_succ_cons, List.take_zero, insAll, ins, hv0, hv1, hv2, hv3, hv4] at hf
              clear hp hnb hv0 hv1 hv2 hv3 hv4
              replace hk1 := blk_ext hk1 he11
              replace hk2 := blk_ext hk2 he11
              replace hk3 := blk_ext hk3 he11
              replace hrr := Row.ext hrr he11
              replace hZ := Nat.le_trans hZ he11.size
              replace hb := hb.trans (Below.mono he11 hb.size)
              replace hSt := hSt.ext he11
              replace hK := hK.trans (KT.of_below he11)
              simp only [List.drop_succ_cons, List.drop_zero]
              refine sqn hf (d_storeK (T := 111) (v := (.agg #[(.int .i64 ((ln : Nat) : Int)), (.int .i64 mo), (.slice ca C.length cc)])) (cs := #[(.int .i64 (0 : Int)), (.int .i64 (0 : Int)), (.slice none 0 0)]) (cs' := #[(.int .i64 ((ln : Nat) : Int)), (.int .i64 mo), (.slice ca C.length cc)]) rfl rfl (by kernel_rfl) (by kernel_rfl) hk3 (by kernel_rfl) (by kernel_rfl)) rfl rfl ?_; clear hf fa; rintro fa _ w22 ⟨hk12, hg9⟩ hf
              replace hk1 := blk_grown hk1 hg9 (by omega)
              replace hk2 := blk_grown hk2 hg9 (by omega)
              replace hrr := Row.grown hrr hg9 (Row.ne_type hrr hk3 rfl)
              replace hZ := Nat.le_trans hZ hg9.size
              replace hb := hb.trans (grown_below hg9 hb.size hBb3)
              replace hSt := hSt.grown hg9 hk3 rfl rfl
              replace hK := hK.grownI hg9 hhZb3
              refine sqv hf (r_assign rfl) rfl rfl rfl ?_; clear hf fa; intro fa hf
              apply wpList_nil
              (try simp only [Exit.then, Exit.inBlock, ↓reduceIte, Nat.reduceEqDiff])
              refine hK30 _ _ ?_
              refine wp_ret ?_
              (try simp only [Exit.then, Exit.inBlock])
              refine retCT hf rfl rfl hk12 Try.underlying111 rfl (by kernel_rfl) rfl ?_
              have hzz := hrr
              have hkd : kd = 4 := hqt162_1
              subst hkd
              have hD : doN 4 nn at_ ln mo C M = (ln, C) := by unfold doN; rw [if_neg (by decide), if_neg (by decide), if_neg (by decide)]
              rw [hD]
              exact ⟨_, rfl, _, rfl, hzz, hSt, hb, hK, hZ⟩
          · have hqt162_1b := hqt162_1
            replace hqt162_1 := Bool.eq_false_iff.1 hqt162_1
            try simp only [ne_eq, decide_eq_true_eq, Bool.and_eq_true, Bool.or_eq_true, Bool.not_eq_true', decide_eq_false_iff_not] at hqt162_1
            refine wp_seq_k (fun K31 hK31 => ?_)
            refine wp_region_lit ?_
            refine sqv hf (r_eq rfl rfl) rfl rfl rfl ?_; clear hf fa; intro fa hf
            refine sqv hf (r_assign rfl) rfl rfl rfl ?_; clear hf fa; intro fa hf
            apply wpList_nil
            (try simp only [Exit.then, Exit.inBlock, ↓reduceIte, Nat.reduceEqDiff])
            refine hK31 _ _ ?_
            refine wp_cond_split (t := (decide (kd = (5 : Int)))) (hf.ev rfl) (fun hqt169_1 => ?_) (fun hqt169_1 => ?_)
            · have hqt169_1b := hqt169_1
              try simp only [decide_eq_true_eq, Bool.and_eq_true, Bool.or_eq_true, Bool.not_eq_true', decide_eq_false_iff_not, ne_eq, Bool.not_eq_true] at hqt169_1
              refine wp_seq_k (fun K32 hK32 => ?_)
              refine wp_region_unT 5 (fun wq => Below w3.heap.size w3 wq) (fun w w' => Below w.heap.size w w')
                (fun V => [(fun x _ => x = (.agg #[(.int .i64 ((ln : Nat) : Int)), (.int .i64 mo), (.slice ca C.length cc)])), (fun x _ => x = (.pointer (some ⟨p, 0, none⟩))), (fun x _ => x = (.agg #[(.int .i64 ((ln : Nat) : Int)), (.int .i64 mo), (.slice ca C.length cc)])), (fun x _ => x = (.agg #[(.int .i64 kd), (.int .u64 ((at_ : Nat) : Int)), (.int .i64 nn), (.int .u8 ((op : Nat) : Int)), (.int .u64 ((vv : Nat) : Int)), (.int .u64 ((ww : Nat) : Int)), (.slice da M.length dc)])), (fun x _ => x = (.bool true))])
                []
                [[], [], [], [], [1, 2, 3], [], []]
                hf (by kernel_rfl) (by kernel_rfl) (by kernel_rfl) (fun _ => rfl) ((Below.refl _ _).drew) (fun a b h1 h2 => h1.trans (h2.mono h1.size)) (fun _ _ h => h.size) (fun V => ⟨kept_eq, kept_eq, kept_eq, kept_eq, kept_eq, trivial⟩) (fun _ _ _ _ _ => rfl) ?_ ?_
              · skip
                intro V
                refine ⟨fun wu0 hC hd => ?_, ?_⟩
                · clear hd
                  replace hb := hb.trans (hC.mono hb.size)
                  replace hk1 := blk_ext hk1 hC
                  replace hk2 := blk_ext hk2 hC
                  replace hk3 := blk_ext hk3 hC
                  replace hrr := Row.ext hrr hC
                  exact Runs.does (r_loadA (cs := [(.int .i64 ((ln : Nat) : Int)), (.int .i64 mo), (.slice ca C.length cc)]) rfl Try.underlying111 rfl (by kernel_rfl) (cellsAt_blk hk1)) ⟨Below.refl _ _, rfl, nofr rfl⟩
                refine ⟨fun wu1 hC hd => ?_, ?_⟩
                · clear hd
                  replace hb := hb.trans (hC.mono hb.size)
                  replace hk1 := blk_ext hk1 hC
                  replace hk2 := blk_ext hk2 hC
                  replace hk3 := blk_ext hk3 hC
                  replace hrr := Row.ext hrr hC
                  exact Runs.does (r_move rfl) ⟨Below.refl _ _, rfl, nofr rfl⟩
                refine ⟨fun wu2 hC hd => ?_, ?_⟩
                · clear hd
                  replace hb := hb.trans (hC.mono hb.size)
                  replace hk1 := blk_ext hk1 hC
                  replace hk2 := blk_ext hk2 hC
                  replace hk3 := blk_ext hk3 hC
                  replace hrr := Row.ext hrr hC
                  exact Runs.does (r_loadA (cs := [(.int .i64 ((ln : Nat) : Int)), (.int .i64 mo), (.slice ca C.length cc)]) rfl Try.underlying111 rfl (by kernel_rfl) (cellsAt_blk hk1)) ⟨Below.refl _ _, rfl, nofr rfl⟩
                refine ⟨fun wu3 hC hd => ?_, ?_⟩
                · clear hd
                  replace hb := hb.trans (hC.mono hb.size)
                  replace hk1 := blk_ext hk1 hC
                  replace hk2 := blk_ext hk2 hC
                  replace hk3 := blk_ext hk3 hC
                  replace hrr := Row.ext hrr hC
                  exact Runs.does (r_loadA (cs := [(.int .i64 kd), (.int .u64 ((at_ : Nat) : Int)), (.int .i64 nn), (.int .u8 ((op : Nat) : Int)), (.int .u64 ((vv : Nat) : Int)), (.int .u64 ((ww : Nat) : Int)), (.slice da M.length dc)]) rfl Try.underlying113 rfl (by kernel_rfl) (cellsAt_blk hk2)) ⟨Below.refl _ _, rfl, nofr rfl⟩
                refine ⟨fun wu4 hC hd => ?_, ?_⟩
                · obtain ⟨h1, h2, h3, _⟩ := hd
                  skip
                  skip
                  skip
                  replace h1 : V 1 = (.pointer (some ⟨p, 0, none⟩)) := h1
                  replace h2 : V 2 = (.agg #[(.int .i64 ((ln : Nat) : Int)), (.int .i64 mo), (.slice ca C.length cc)]) := h2
                  replace h3 : V 3 = (.agg #[(.int .i64 kd), (.int .u64 ((at_ : Nat) : Int)), (.int .i64 nn), (.int .u8 ((op : Nat) : Int)), (.int .u64 ((vv : Nat) : Int)), (.int .u64 ((ww : Nat) : Int)), (.slice da M.length dc)]) := h3
                  replace hb := hb.trans (hC.mono hb.size)
                  replace hk1 := blk_ext hk1 hC
                  replace hk2 := blk_ext hk2 hC
                  replace hk3 := blk_ext hk3 hC
                  replace hrr := Row.ext hrr hC
                  refine Does.mono (d_callB (vs := [(.pointer (some ⟨p, 0, none⟩)), (.agg #[(.int .i64 ((ln : Nat) : Int)), (.int .i64 mo), (.slice ca C.length cc)]), (.agg #[(.int .i64 kd), (.int .u64 ((at_ : Nat) : Int)), (.int .i64 nn), (.int .u8 ((op : Nat) : Int)), (.int .u64 ((vv : Nat) : Int)), (.int .u64 ((ww : Nat) : Int)), (.slice da M.length dc)])]) (show [some (V 1), some (V 2), some (V 3)] = [some (.pointer (some ⟨p, 0, none⟩)), some (.agg #[(.int .i64 ((ln : Nat) : Int)), (.int .i64 mo), (.slice ca C.length cc)]), some (.agg #[(.int .i64 kd), (.int .u64 ((at_ : Nat) : Int)), (.int .i64 nn), (.int .u8 ((op : Nat) : Int)), (.int .u64 ((vv : Nat) : Int)), (.int .u64 ((ww : Nat) : Int)), (.slice da M.length dc)])] from by rw [h1, h2, h3]) Try.func85 (by kernel_rfl) (by kernel_rfl) (places_S (hSt.ext hC) (Row.rd (by intros; rfl) hrr) hCl kd nn at_ op vv ww da M.length dc ha0 hop hv0 hw0)) (fun _ _ h => ⟨h.2, h.1, nofr rfl⟩)
                trivial
              · skip
                clear hf fa; intro V w23 fa he12 hp hnb hf
                have hv0 : V 0 = (.agg #[(.int .i64 ((ln : Nat) : Int)), (.int .i64 mo), (.slice ca C.length cc)]) := postsHold_at hp 0 rfl
                have hv1 : V 1 = (.pointer (some ⟨p, 0, none⟩)) := postsHold_at hp 1 rfl
                have hv2 : V 2 = (.agg #[(.int .i64 ((ln : Nat) : Int)), (.int .i64 mo), (.slice ca C.length cc)]) := postsHold_at hp 2 rfl
                have hv3 : V 3 = (.agg #[(.int .i64 kd), (.int .u64 ((at_ : Nat) : Int)), (.int .i64 nn), (.int .u8 ((op : Nat) : Int)), (.int .u64 ((vv : Nat) : Int)), (.int .u64 ((ww : Nat) : Int)), (.slice da M.length dc)]) := postsHold_at hp 3 rfl
                have hv4 : V 4 = (.bool true) := postsHold_at hp 4 rfl
                simp only [List.take_succ_cons, List.take_zero, insAll, ins, hv0, hv1, hv2, hv3, hv4] at hf
                clear hp hnb hv0 hv1 hv2 hv3 hv4
                replace hk1 := blk_ext hk1 he12
                replace hk2 := blk_ext hk2 he12
                replace hk3 := blk_ext hk3 he12
                replace hrr := Row.ext hrr he12
                replace hZ := Nat.le_trans hZ he12.size
                replace hb := hb.trans (Below.mono he12 hb.size)
                replace hSt := hSt.ext he12
                replace hK := hK.trans (KT.of_below he12)
                simp only [List.drop_succ_cons, List.drop_zero]
                refine sqn hf (d_storeK (T := 111) (v := (.agg #[(.int .i64 ((ln : Nat) : Int)), (.int .i64 mo), (.slice ca C.length cc)])) (cs := #[(.int .i64 (0 : Int)), (.int .i64 (0 : Int)), (.slice none 0 0)]) (cs' := #[(.int .i64 ((ln : Nat) : Int)), (.int .i64 mo), (.slice ca C.length cc)]) rfl rfl (by kernel_rfl) (by kernel_rfl) hk3 (by kernel_rfl) (by kernel_rfl)) rfl rfl ?_; clear hf fa; rintro fa _ w24 ⟨hk13, hg10⟩ hf
                replace hk1 := blk_grown hk1 hg10 (by omega)
                replace hk2 := blk_grown hk2 hg10 (by omega)
                replace hrr := Row.grown hrr hg10 (Row.ne_type hrr hk3 rfl)
                replace hZ := Nat.le_trans hZ hg10.size
                replace hb := hb.trans (grown_below hg10 hb.size hBb3)
                replace hSt := hSt.grown hg10 hk3 rfl rfl
                replace hK := hK.grownI hg10 hhZb3
                refine sqv hf (r_assign rfl) rfl rfl rfl ?_; clear hf fa; intro fa hf
                apply wpList_nil
                (try simp only [Exit.then, Exit.inBlock, ↓reduceIte, Nat.reduceEqDiff])
                refine hK32 _ _ ?_
                refine wp_ret ?_
                (try simp only [Exit.then, Exit.inBlock])
                refine retCT hf rfl rfl hk13 Try.underlying111 rfl (by kernel_rfl) rfl ?_
                have hzz := hrr
                have hkd : kd = 5 := hqt169_1
                subst hkd
                have hD : doN 5 nn at_ ln mo C M = (ln, C) := by unfold doN; rw [if_neg (by decide), if_neg (by decide), if_neg (by decide)]
                rw [hD]
                exact ⟨_, rfl, _, rfl, hzz, hSt, hb, hK, hZ⟩
            · have hqt169_1b := hqt169_1
              replace hqt169_1 := Bool.eq_false_iff.1 hqt169_1
              try simp only [ne_eq, decide_eq_true_eq, Bool.and_eq_true, Bool.or_eq_true, Bool.not_eq_true', decide_eq_false_iff_not] at hqt169_1
              refine wp_seq_k (fun K33 hK33 => ?_)
              refine wp_region_lit ?_
              refine sqv hf (r_loadA (cs := [(.int .i64 ((ln : Nat) : Int)), (.int .i64 mo), (.slice ca C.length cc)]) rfl Try.underlying111 rfl (by kernel_rfl) (cellsAt_blk hk1)) rfl rfl rfl ?_; clear hf fa; intro fa hf
              refine sqn hf (d_storeK (T := 111) (v := (.agg #[(.int .i64 ((ln : Nat) : Int)), (.int .i64 mo), (.slice ca C.length cc)])) (cs := #[(.int .i64 (0 : Int)), (.int .i64 (0 : Int)), (.slice none 0 0)]) (cs' := #[(.int .i64 ((ln : Nat) : Int)), (.int .i64 mo), (.slice ca C.length cc)]) rfl rfl (by kernel_rfl) (by kernel_rfl) hk3 (by kernel_rfl) (by kernel_rfl)) rfl rfl ?_; clear hf fa; rintro fa _ w25 ⟨hk14, hg11⟩ hf
              replace hk1 := blk_grown hk1 hg11 (by omega)
              replace hk2 := blk_grown hk2 hg11 (by omega)
              replace hrr := Row.grown hrr hg11 (Row.ne_type hrr hk3 rfl)
              replace hZ := Nat.le_trans hZ hg11.size
              replace hb := hb.trans (grown_below hg11 hb.size hBb3)
              replace hSt := hSt.grown hg11 hk3 rfl rfl
              replace hK := hK.grownI hg11 hhZb3
              refine sqv hf (r_assign rfl) rfl rfl rfl ?_; clear hf fa; intro fa hf
              apply wpList_nil
              (try simp only [Exit.then, Exit.inBlock, ↓reduceIte, Nat.reduceEqDiff])
              refine hK33 _ _ ?_
              refine wp_ret ?_
              (try simp only [Exit.then, Exit.inBlock])
              refine retCT hf rfl rfl hk14 Try.underlying111 rfl (by kernel_rfl) rfl ?_
              have hzz := hrr
              have hd0 := hqt18_1
              have hd2 := hqt97_1
              have hd3 := hqt139_1
              have hD : doN kd nn at_ ln mo C M = (ln, C) := by unfold doN; rw [if_neg hd0, if_neg hd2, if_neg hd3]
              rw [hD]
              exact ⟨_, rfl, _, rfl, hzz, hSt, hb, hK, hZ⟩
end Go.Proofs.Ytmcmickgllffoaa
