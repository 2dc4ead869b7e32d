/- What is proved here: the reading of a line, by the document. What is proved here: string(b) of bytes that came in. What is proved here: what the laws of op call: the example, Few, Ref, Same. What is proved here: the law OpParses is true. What is proved here: the statement OpParses, for every input. -/
import Derived.Test.YtpalmpfkliepfaaOpParsesMgAF
import Derived.Test.YtpalmpfkliepfaaRows
import Derived.Test.YtpalmpfkliepfaaOpParsesMgAB
import Derived.ProofKit
import Derived.OpenShut
import Derived.ShutString
import Derived.ChangeOld
import Derived.Below
namespace Go.Proofs.Ytpalmpfkliepfaa
open Go.RowKit Ut
set_option linter.unusedVariables false
set_option linter.unusedSimpArgs false
theorem kind_fin {s : ByteArray} {kk : Int} (h : (kk = 0 ∧ ∀ m : Int, 1 ≤ m → m < 10 → ¬ wordS m = s) ∨ (1 ≤ kk ∧ kk < 10 ∧ wordS kk = s)) : kindP s = kk := by
  rcases h with ⟨h1, h2⟩ | ⟨h1, h2, h3⟩
  · rw [h1]
    refine Classical.byContradiction fun hn => ?_
    obtain ⟨e1, e2, e3⟩ := kind_some hn
    exact h2 _ e2 (by omega) e1
  · rw [← h3]; exact kind_word kk ⟨h1, by omega⟩
theorem takeR_val (y : ByteArray) (st : PSt) : takeP 97 y st = (⟨st.N, st.S, st.A ++ [(rdV y).1], st.D⟩, (rdV y).2) := by unfold takeP; rw [if_neg (by decide), if_neg (by decide), if_neg (by decide)]
theorem takeR_n {c : Nat} {p : ByteArray} {st : PSt} (h : c = 110) : takeR c p st = (⟨st.N ++ [(numP (bl p)).1], st.S, st.A, st.D⟩, (numP (bl p)).2) := by unfold takeR; rw [if_pos h]
theorem takeR_s {c : Nat} {p : ByteArray} {st : PSt} (h : c = 115) : takeR c p st = (⟨st.N, st.S ++ [strN (readP (bl p)).1], st.A, st.D⟩, (readP (bl p)).2) := by unfold takeR; rw [if_neg (by omega), if_pos h]
theorem takeR_d {c : Nat} {p : ByteArray} {st : PSt} (h : c = 100) : takeR c p st = (⟨st.N, st.S, st.A, (hexR (bl p)).1⟩, (hexR (bl p)).2) := by unfold takeR; rw [if_neg (by omega), if_neg (by omega), if_pos h]
theorem takeR_o {c : Nat} {p : ByteArray} {st : PSt} (h1 : ¬ c = 110) (h2 : ¬ c = 115) (h3 : ¬ c = 100) : takeR c p st = (st, false) := by unfold takeR; rw [if_neg h1, if_neg h2, if_neg h3]
theorem takeR_inv {m c : Nat} {p : ByteArray} {st : PSt} (h : OpB2 m st) (hp : p.size ≤ 30000) (ho : (takeR c p st).2 = true) : OpB2 (m + 1) (takeR c p st).1 := by
  have hc : c = 110 ∨ c = 115 ∨ c = 100 := by
    refine Classical.byContradiction fun hn => ?_
    rw [takeR_o (by omega) (by omega) (by omega)] at ho; cases ho
  obtain ⟨e1, e2⟩ := take_eq p st hc
  rw [← e1] at ho
  rw [← e2 ho]
  exact takeP_inv h hp ho
section
variable {X : Option PSt} {F y : ByteArray} {ps : List (List Nat)} {i m : Nat} {st : PSt}
theorem ps_cons {q : List Nat} (h : (q :: ps).map strN = (q :: ps).map strN) (hy : ((q :: ps).map strN)[i + 1]? = some y) : ∃ yl, ps.drop i = yl :: ps.drop (i + 1) ∧ strN yl = y := by
  rw [List.map_cons, List.getElem?_cons_succ, List.getElem?_map] at hy
  cases hp : ps[i]? with
  | none => rw [hp] at hy; cases hy
  | some yl =>
    rw [hp] at hy
    simp only [Option.map_some, Option.some.injEq] at hy
    exact ⟨yl, drop_at hp, hy⟩
theorem pr_end (Hs : X = parseR ((bl F).drop i) (ps.drop i) st) (hi : F.size ≤ i) : X = some st := by
  rw [Hs, List.drop_eq_nil_of_le (by rw [bl_length]; exact hi), parseR]
theorem pr_a (Hs : X = parseR ((bl F).drop i) (ps.drop i) st) (hi : i < F.size) (hc : sbt F i = 97) : X = (opVals (ps.drop (i + 1 - 1)) st).bind (parseR ((bl F).drop (i + 1)) ((ps.drop i).drop 1)) := by
  rw [Hs, bl_dropc F i hi, parseR, if_pos hc, Nat.add_sub_cancel]
theorem pr_v {R : PSt → Option PSt} {yl : List Nat} (Hv : X = (opVals (ps.drop m) st).bind R) (hp : ps.drop m = yl :: ps.drop (m + 1)) (hy : strN yl = y) (ho : (rdV y).2 = true) : X = (opVals (ps.drop (m + 1)) ⟨st.N, st.S, st.A ++ [(rdV y).1], st.D⟩).bind R := by
  rw [Hv, hp, opVals, hy, if_pos ho]
theorem pr_vn {R : PSt → Option PSt} {yl : List Nat} (Hv : X = (opVals (ps.drop m) st).bind R) (hp : ps.drop m = yl :: ps.drop (m + 1)) (hy : strN yl = y) (ho : ¬ (rdV y).2 = true) : X = none := by
  rw [Hv, hp, opVals, hy, if_neg ho]; rfl
theorem pr_ve (Hv : X = (opVals (ps.drop m) st).bind (parseR ((bl F).drop (i + 1)) ((ps.drop i).drop 1))) (hm : ps.length ≤ m) : X = parseR ((bl F).drop (i + 1)) (ps.drop (i + 1)) st := by
  rw [Hv, List.drop_eq_nil_of_le hm, opVals, List.drop_drop]; rfl
theorem pr_o {yl : List Nat} (Hs : X = parseR ((bl F).drop i) (ps.drop i) st) (hi : i < F.size) (hc : ¬ sbt F i = 97) (hp : ps.drop i = yl :: ps.drop (i + 1)) (hy : strN yl = y) (ho : (takeR (sbt F i) y st).2 = true) : X = parseR ((bl F).drop (i + 1)) (ps.drop (i + 1)) (takeR (sbt F i) y st).1 := by
  rw [Hs, bl_dropc F i hi, parseR, if_neg hc, hp, if_neg (by simp), List.headD_cons, hy, if_pos ho]; rfl
theorem pr_on {yl : List Nat} (Hs : X = parseR ((bl F).drop i) (ps.drop i) st) (hi : i < F.size) (hc : ¬ sbt F i = 97) (hp : ps.drop i = yl :: ps.drop (i + 1)) (hy : strN yl = y) (ho : ¬ (takeR (sbt F i) y st).2 = true) : X = none := by
  rw [Hs, bl_dropc F i hi, parseR, if_neg hc, hp, if_neg (by simp), List.headD_cons, hy, if_neg ho]
theorem pr_oe (Hs : X = parseR ((bl F).drop i) (ps.drop i) st) (hi : i < F.size) (hc : ¬ sbt F i = 97) (hp : ps.length ≤ i) : X = none := by
  rw [Hs, bl_dropc F i hi, parseR, if_neg hc, List.drop_eq_nil_of_le hp, if_pos rfl]
end
theorem opR_zero {l : ByteArray} {p : List Nat} {ps : List (List Nat)} (h : pieces (bl l) = p :: ps) (hk : kindP (strN p) = 0) : opR l = none := by
  unfold opR; rw [h, List.headD_cons, if_pos hk]
theorem opR_none {l : ByteArray} {p : List Nat} {ps : List (List Nat)} {k : Int} (h : pieces (bl l) = p :: ps) (hk : kindP (strN p) = k) (h0 : ¬ k = 0) (hX : parseR (bl (formS k)) ps st0 = none) : opR l = none := by
  unfold opR; rw [h, List.headD_cons, List.tail_cons, hk, if_neg h0, hX]
theorem opR_some {l : ByteArray} {p : List Nat} {ps : List (List Nat)} {k : Int} {st : PSt} (h : pieces (bl l) = p :: ps) (hk : kindP (strN p) = k) (h0 : ¬ k = 0) (hX : parseR (bl (formS k)) ps st0 = some st) : opR l = if rightP k st = true ∧ lineS k st = l then some (k, st) else none := by
  unfold opR; rw [h, List.headD_cons, List.tail_cons, hk, if_neg h0, hX]
theorem rreadhex_y (p : ByteArray) (w : World) (hp : p.size ≤ 30000) : Calls Try.prog 30 #[.string p] w fun e w' => ∃ v, e = .returned v ∧ ((∃ a c, v = .tuple #[.slice a (hexR (bl p)).1.length c, .bool (hexR (bl p)).2] ∧ Row 1 (vInt .u8) 5 w.heap.size w' (.slice a (hexR (bl p)).1.length c) (nI (hexR (bl p)).1)) ∧ Below w.heap.size w w') := by
  refine (rreadhex_any p w (by omega)).mono ?_
  rintro e w' ⟨v, rfl, hr, hb⟩
  obtain ⟨a, c, rfl, _, _⟩ := Row.slice hr
  rw [nI_length] at hr
  refine ⟨_, rfl, ⟨a, c, ?_, hr⟩, hb⟩
  rw [nI_length]
theorem rread_y (p : ByteArray) (w : World) (hp : p.size ≤ 30000) : Calls Try.prog 62 #[.string p] w fun e w' => e = .returned (.tuple #[.string (strN (readP (bl p)).1), .bool (readP (bl p)).2]) ∧ Below w.heap.size w w' := refRead_p p w (by omega)

set_option maxHeartbeats 1000000 in
set_option maxRecDepth 100000 in
theorem rparse_any (l : ByteArray) (w : World) (hl : l.size ≤ 20000) : Calls Try.prog 24 #[(.string l)] w fun e w' => ∃ (aN : Option Addr) (cN : Nat) (aS : Option Addr) (cS : Nat) (aA : Option Addr) (cA : Nat) (aD : Option Addr) (cD : Nat), e = .returned (.tuple #[(.agg #[(.int .i64 ((opK (opR l)))), (.slice aN ((opS (opR l)).N.length) cN), (.slice aS ((opS (opR l)).S.length) cS), (.slice aA ((opS (opR l)).A.length) cA), (.slice aD ((opS (opR l)).D.length) cD)]), .bool (opR l).isSome]) ∧ OpF w' (opS (opR l)) aN aS aA aD ∧ Below w.heap.size w w' := by
  obtain ⟨p, ps, hPc, hp1, hcut⟩ := pieces_cuts (bl l)
  have hPL : pcsS l = (p :: ps).map strN := by unfold pcsS; rw [hPc]
  have hpsl : ps.length ≤ 20001 := by have h := pieces_len (bl l); rw [hPc, bl_length, List.length_cons] at h; omega
  refine sx_enter (L := [(0, (.string l))]) Try.func24 rfl rfl rfl rfl (fun fa hf => ?_)
  have hb : Below w.heap.size w w := Below.refl _ _
  refine wp_seq_k (fun K1 hK1 => ?_)
  refine wp_region_lit ?_
  refine sqdt hf (d_alloc (z := (.agg #[(.int .i64 (0 : Int)), (.slice none 0 0), (.slice none 0 0), (.slice none 0 0), (.slice none 0 0)])) (cs := #[(.int .i64 (0 : Int)), (.slice none 0 0), (.slice none 0 0), (.slice none 0 0), (.slice none 0 0)]) (by kernel_rfl) rfl) rfl rfl rfl ?_; clear hf fa; rintro fa _ w1 ⟨b1, rfl, hle1, hk1, he1⟩ hf
  have hBb1 : w.heap.size ≤ b1 := Nat.le_trans hb.size hle1
  replace hb := hb.trans (Below.mono he1 hb.size)
  refine sqv hf (r_assign rfl) rfl rfl rfl ?_; clear hf fa; intro fa hf
  apply wpList_nil
  (try simp only [Exit.then, Exit.inBlock, ↓reduceIte, Nat.reduceEqDiff])
  refine hK1 _ _ ?_
  refine wp_seq_k (fun K2 hK2 => ?_)
  refine wp_region_lit ?_
  refine sqv hf (r_move rfl) rfl rfl rfl ?_; clear hf fa; intro fa hf
  refine sqdt hf (d_callX (vs := [(.string l)]) rfl Try.func61 (by kernel_rfl) (by kernel_rfl) (by have h := pieces_any l w1 (by omega); rw [hPL] at h; exact h)) rfl rfl rfl ?_; clear hf fa; rintro fa v w2 ⟨hr1, he2⟩ hf; obtain ⟨ra1, rc1, rfl, hcrc1, hmrc1⟩ := Row.slice hr1
  replace hr1 := Row.rebase hr1 hb.size
  replace hk1 := blk_ext hk1 he2
  replace hb := hb.trans (Below.mono he2 hb.size)
  refine sqv hf (r_assign rfl) rfl rfl rfl ?_; clear hf fa; intro fa hf
  apply wpList_nil
  (try simp only [Exit.then, Exit.inBlock, ↓reduceIte, Nat.reduceEqDiff])
  refine hK2 _ _ ?_
  refine wp_seq_k (fun K3 hK3 => ?_)
  have hwA9 := hb.size
  have hUA : Below w2.heap.size w2 w2 := Below.refl _ _
  have hPlt : ∀ q, (Value.slice ra1 ((p :: ps).map strN).length rc1).ownBlock = some q → q < w2.heap.size := fun q hq => (Row.lt hr1 q hq).2
  have hPlen : ((p :: ps).map strN).length = ps.length + 1 := by rw [List.length_map, List.length_cons]
  refine wp_region_lit ?_
  refine sqdt hf (d_alloc (z := (.agg #[(.int .i64 (0 : Int)), (.slice none 0 0), (.slice none 0 0), (.slice none 0 0), (.slice none 0 0)])) (cs := #[(.int .i64 (0 : Int)), (.slice none 0 0), (.slice none 0 0), (.slice none 0 0), (.slice none 0 0)]) (by kernel_rfl) rfl) rfl rfl rfl ?_; clear hf fa; rintro fa _ w3 ⟨b2, rfl, hle2, hk2, he3⟩ hf
  have hBb2 : w.heap.size ≤ b2 := Nat.le_trans hb.size hle2
  have : b1 < b2 := Nat.lt_of_lt_of_le (blk_lt hk1) hle2
  have hUhUAb2 := Nat.le_trans hUA.size hle2
  replace hk1 := blk_ext hk1 he3
  replace hr1 := Row.ext hr1 he3
  replace hUA := hUA.trans (Below.mono he3 hUA.size)
  replace hb := hb.trans (Below.mono he3 hb.size)
  apply wpList_nil
  (try simp only [Exit.then, Exit.inBlock, ↓reduceIte, Nat.reduceEqDiff])
  refine hK3 _ _ ?_
  refine wp_seq_k (fun K4 hK4 => ?_)
  refine wp_seq_k (fun K5 hK5 => ?_)
  refine wp_region_lit ?_
  refine sqv hf (r_assign rfl) rfl rfl rfl ?_; clear hf fa; intro fa hf
  apply wpList_nil
  (try simp only [Exit.then, Exit.inBlock, ↓reduceIte, Nat.reduceEqDiff])
  refine hK5 _ _ ?_
  refine wp_block ?_
  refine wp_loop_k (fun mq fa wr => ∃ (j : Nat) (kk : Int), mq = 10 - j ∧ Fr 150 fa [(0, (.string l)), (2, (.pointer (some ⟨b1, 0, none⟩))), (5, (.pointer (some ⟨b2, 0, none⟩))), (6, (.int .i64 ((j : Nat) : Int))), (4, (.slice ra1 (((p :: ps).map strN).length) rc1))] ∧ Below w.heap.size w wr ∧ Row 1 vStr 9 (w.heap.size) wr (.slice ra1 ((((p :: ps).map strN)).length) rc1) ((p :: ps).map strN) ∧ wr.heap[b1]? = some (.cells #[(.int .i64 (0 : Int)), (.slice none 0 0), (.slice none 0 0), (.slice none 0 0), (.slice none 0 0)] 49 (0, 0)) ∧ wr.heap[b2]? = some (.cells #[(.int .i64 kk), (.slice none 0 0), (.slice none 0 0), (.slice none 0 0), (.slice none 0 0)] 49 (0, 0)) ∧ (Below w2.heap.size w2 wr) ∧ (1 ≤ j) ∧ (j ≤ 10) ∧ ((kk = 0 ∧ ∀ m : Int, 1 ≤ m → m < ((j : Nat) : Int) → ¬ wordS m = strN p) ∨ (1 ≤ kk ∧ kk < ((j : Nat) : Int) ∧ wordS kk = strN p))) ?_ ?_
  · skip
    exact ⟨_, 1, 0, rfl, hf.sub ⟨rfl, rfl, rfl, (some_int (by first | rfl | omega)), (some_sl (by first | omega | rfl | (simp only [List.length_append, List.length_cons, List.length_nil]; omega) | (simp <;> omega)) rfl), trivial⟩, hb, (Row.relen hr1), hk1, hk2, hUA, by omega, by omega, (.inl ⟨rfl, fun m h1 h2 => by omega⟩)⟩
  · skip
    clear hf fa; intro mq1 fa w4 hI KL1 hKL1
    clear hb
    clear hk1
    clear hk2
    clear hr1
    obtain ⟨j, kk, hmq1, hf, hb, hra1, hkb1, hkb2, hUA, hj, hj2, Hk⟩ := hI
    have hcra1 := Row.caps hra1
    refine wp_seq_k (fun K6 hK6 => ?_)
    refine wp_seq_k (fun K7 hK7 => ?_)
    refine wp_region_lit ?_
    refine sqv hf (r_move rfl) rfl rfl rfl ?_; clear hf fa; intro fa hf
    refine sqv hf (r_le rfl rfl) rfl rfl rfl ?_; clear hf fa; intro fa hf
    apply wpList_nil
    (try simp only [Exit.then, Exit.inBlock, ↓reduceIte, Nat.reduceEqDiff])
    refine hK7 _ _ ?_
    refine wp_cond_split (t := (decide (((j : Nat) : Int) ≤ (9 : Int)))) (hf.ev rfl) (fun hqt21_1 => ?_) (fun hqt21_1 => ?_)
    · have hqt21_1b := hqt21_1
      try simp only [decide_eq_true_eq, Bool.and_eq_true, Bool.or_eq_true, Bool.not_eq_true', decide_eq_false_iff_not, ne_eq, Bool.not_eq_true] at hqt21_1
      refine wp_skip ?_
      (try simp only [Exit.then, Exit.inBlock, ↓reduceIte, Nat.reduceEqDiff])
      refine hK6 _ _ ?_
      refine wp_seq_k (fun K8 hK8 => ?_)
      refine wp_block ?_
      refine wp_seq_k (fun K9 hK9 => ?_)
      refine wp_region_lit ?_
      refine sqv hf (r_move rfl) rfl rfl rfl ?_; clear hf fa; intro fa hf
      refine sqdt hf (d_callB (vs := [(.int .i64 ((j : Nat) : Int))]) rfl Try.func18 (by kernel_rfl) (by kernel_rfl) (rform_any ((j : Nat) : Int) _)) rfl rfl rfl ?_; clear hf fa; rintro fa _ w5 ⟨rfl, he4⟩ hf
      replace hkb1 := blk_ext hkb1 he4
      replace hkb2 := blk_ext hkb2 he4
      replace hra1 := Row.ext hra1 he4
      replace hUA := hUA.trans (Below.mono he4 hUA.size)
      replace hb := hb.trans (Below.mono he4 hb.size)
      refine sqv hf (r_move rfl) rfl rfl rfl ?_; clear hf fa; intro fa hf
      refine sqv hf (r_extract rfl (i := 0) rfl) rfl rfl rfl ?_; clear hf fa; intro fa hf
      refine sqv hf (r_extract rfl (i := 1) rfl) rfl rfl rfl ?_; clear hf fa; intro fa hf
      refine sqv hf (r_assign rfl) rfl rfl rfl ?_; clear hf fa; intro fa hf
      refine sqv hf (r_assign rfl) rfl rfl rfl ?_; clear hf fa; intro fa hf
      apply wpList_nil
      (try simp only [Exit.then, Exit.inBlock, ↓reduceIte, Nat.reduceEqDiff])
      refine hK9 _ _ ?_
      refine wp_seq_k (fun K10 hK10 => ?_)
      skip
      refine wp_region_lit ?_
      refine sqv hf (r_move rfl) rfl rfl rfl ?_; clear hf fa; intro fa hf
      refine sqv hf (r_move rfl) rfl rfl rfl ?_; clear hf fa; intro fa hf
      obtain ⟨rb1, rfl, hbbrb1, hlbrb1⟩ := Row.some hra1 (by first | omega | (simp only [Sl.list_length, List.length_set, List.length_take, List.length_append, List.length_replicate, List.length_cons, List.length_nil, List.length_map, nums_len]; omega))
      have hy1 : (((p :: ps).map strN))[0]? = some (strN p) := rfl
      have hel1 := RdS.at (Row.rd (by intros; rfl) hra1) hy1
      obtain ⟨_, _, hab, hlr1, hel1⟩ := hel1
      cases hab
      refine sqv hf (r_ixa (sz := 1) (j := 0) rfl rfl Try.underlying32 (by kernel_rfl) rfl (by omega) rfl) rfl rfl rfl ?_; clear hf fa; intro fa hf
      refine sqv hf (r_load (v := (.string (strN p))) rfl Try.underlying9 rfl (cellsAt_cell hel1 (i := 0) rfl rfl)) rfl rfl rfl ?_; clear hf fa; intro fa hf
      refine sqv hf (r_seq rfl rfl) rfl rfl rfl ?_; clear hf fa; intro fa hf
      apply wpList_nil
      (try simp only [Exit.then, Exit.inBlock, ↓reduceIte, Nat.reduceEqDiff])
      refine hK10 _ _ ?_
      refine wp_cond_split (t := (decide ((wordS ((j : Nat) : Int)) = (strN p)))) (hf.ev rfl) (fun hqt33_1 => ?_) (fun hqt33_1 => ?_)
      · have hqt33_1b := hqt33_1
        try simp only [decide_eq_true_eq, Bool.and_eq_true, Bool.or_eq_true, Bool.not_eq_true', decide_eq_false_iff_not, ne_eq, Bool.not_eq_true] at hqt33_1
        refine wp_region_lit ?_
        refine sqv hf (r_move rfl) rfl rfl rfl ?_; clear hf fa; intro fa hf
        refine sqv hf (r_fa rfl Try.underlying49 (f := 0) (q := 0) rfl (by kernel_rfl) rfl) rfl rfl rfl ?_; clear hf fa; intro fa hf
        refine sqn hf (d_storeK (T := 49) (v := (.int .i64 ((j : Nat) : Int))) (cs := #[(.int .i64 kk), (.slice none 0 0), (.slice none 0 0), (.slice none 0 0), (.slice none 0 0)]) (cs' := #[(.int .i64 ((j : Nat) : Int)), (.slice none 0 0), (.slice none 0 0), (.slice none 0 0), (.slice none 0 0)]) rfl rfl (by kernel_rfl) (by kernel_rfl) hkb2 (by kernel_rfl) (by kernel_rfl)) rfl rfl ?_; clear hf fa; rintro fa _ w6 ⟨hk3, hg1⟩ hf
        replace hkb1 := blk_grown hkb1 hg1 (by omega)
        replace hra1 := Row.grown hra1 hg1 (Row.ne_type hra1 hkb2 rfl)
        replace hUA := hUA.trans (grown_below hg1 hUA.size (by omega))
        replace hb := hb.trans (grown_below hg1 hb.size hBb2)
        apply wpList_nil
        (try simp only [Exit.then, Exit.inBlock, ↓reduceIte, Nat.reduceEqDiff])
        refine hK8 _ _ ?_
        refine wp_region_lit ?_
        refine sqv hf (r_move rfl) rfl rfl rfl ?_; clear hf fa; intro fa hf
        refine sqv hf (r_add (C := (((j : Nat) : Int) + (1 : Int))) rfl rfl (by rw [IntKind.wrap_i64]; omega)) rfl rfl rfl ?_; clear hf fa; intro fa hf
        refine sqv hf (r_assign rfl) rfl rfl rfl ?_; clear hf fa; intro fa hf
        apply wpList_nil
        (try simp only [Exit.then, Exit.inBlock, ↓reduceIte, Nat.reduceEqDiff])
        refine hKL1 _ _ _ (by omega) ⟨(j + 1), ((j : Nat) : Int), rfl, hf.sub ⟨rfl, rfl, rfl, (some_int (by first | rfl | omega)), (some_sl (by first | omega | rfl | (simp only [List.length_append, List.length_cons, List.length_nil]; omega) | (simp <;> omega)) rfl), trivial⟩, hb, (Row.relen hra1), hkb1, hk3, hUA, by omega, by omega, (.inr ⟨by omega, by omega, by have h := hqt33_1; exact h⟩)⟩
      · have hqt33_1b := hqt33_1
        replace hqt33_1 := Bool.eq_false_iff.1 hqt33_1
        try simp only [ne_eq, decide_eq_true_eq, Bool.and_eq_true, Bool.or_eq_true, Bool.not_eq_true', decide_eq_false_iff_not] at hqt33_1
        refine wp_skip ?_
        (try simp only [Exit.then, Exit.inBlock, ↓reduceIte, Nat.reduceEqDiff])
        refine hK8 _ _ ?_
        refine wp_region_lit ?_
        refine sqv hf (r_move rfl) rfl rfl rfl ?_; clear hf fa; intro fa hf
        refine sqv hf (r_add (C := (((j : Nat) : Int) + (1 : Int))) rfl rfl (by rw [IntKind.wrap_i64]; omega)) rfl rfl rfl ?_; clear hf fa; intro fa hf
        refine sqv hf (r_assign rfl) rfl rfl rfl ?_; clear hf fa; intro fa hf
        apply wpList_nil
        (try simp only [Exit.then, Exit.inBlock, ↓reduceIte, Nat.reduceEqDiff])
        have hk9 : (kk = 0 ∧ ∀ m : Int, 1 ≤ m → m < ((j + 1 : Nat) : Int) → ¬ wordS m = strN p) ∨ (1 ≤ kk ∧ kk < ((j + 1 : Nat) : Int) ∧ wordS kk = strN p) := by
          rcases Hk with ⟨e1, e2⟩ | ⟨e1, e2, e3⟩
          · refine .inl ⟨e1, fun m h1 h2 => ?_⟩
            rcases (by omega : m < ((j : Nat) : Int) ∨ m = ((j : Nat) : Int)) with h3 | h3
            · exact e2 m h1 h3
            · rw [h3]; exact hqt33_1
          · exact .inr ⟨e1, by omega, e3⟩
        refine hKL1 _ _ _ (by omega) ⟨(j + 1), kk, rfl, hf.sub ⟨rfl, rfl, rfl, (some_int (by first | rfl | omega)), (some_sl (by first | omega | rfl | (simp only [List.length_append, List.length_cons, List.length_nil]; omega) | (simp <;> omega)) rfl), trivial⟩, hb, (Row.relen hra1), hkb1, hkb2, hUA, by omega, by omega, hk9⟩
    · have hqt21_1b := hqt21_1
      replace hqt21_1 := Bool.eq_false_iff.1 hqt21_1
      try simp only [ne_eq, decide_eq_true_eq, Bool.and_eq_true, Bool.or_eq_true, Bool.not_eq_true', decide_eq_false_iff_not] at hqt21_1
      refine wp_exit ?_
      (try simp only [Exit.then, Exit.inBlock, ↓reduceIte, Nat.reduceEqDiff])
      refine hK4 _ _ ?_
      refine wp_seq_k (fun K11 hK11 => ?_)
      refine wp_region_lit ?_
      refine sqv hf (r_fa rfl Try.underlying49 (f := 0) (q := 0) rfl (by kernel_rfl) rfl) rfl rfl rfl ?_; clear hf fa; intro fa hf
      refine sqv hf (r_load (v := (.int .i64 kk)) rfl Try.underlying3 rfl (cell_blk hkb2 rfl)) rfl rfl rfl ?_; clear hf fa; intro fa hf
      refine sqdt hf (d_callB (vs := [(.int .i64 kk)]) rfl Try.func18 (by kernel_rfl) (by kernel_rfl) (rform_any kk _)) rfl rfl rfl ?_; clear hf fa; rintro fa _ w7 ⟨rfl, he5⟩ hf
      replace hkb1 := blk_ext hkb1 he5
      replace hkb2 := blk_ext hkb2 he5
      replace hra1 := Row.ext hra1 he5
      replace hUA := hUA.trans (Below.mono he5 hUA.size)
      replace hb := hb.trans (Below.mono he5 hb.size)
      refine sqv hf (r_move rfl) rfl rfl rfl ?_; clear hf fa; intro fa hf
      refine sqv hf (r_extract rfl (i := 0) rfl) rfl rfl rfl ?_; clear hf fa; intro fa hf
      refine sqv hf (r_extract rfl (i := 1) rfl) rfl rfl rfl ?_; clear hf fa; intro fa hf
      refine sqv hf (r_assign rfl) rfl rfl rfl ?_; clear hf fa; intro fa hf
      refine sqv hf (r_assign rfl) rfl rfl rfl ?_; clear hf fa; intro fa hf
      apply wpList_nil
      (try simp only [Exit.then, Exit.inBlock, ↓reduceIte, Nat.reduceEqDiff])
      refine hK11 _ _ ?_
      refine wp_seq_k (fun K12 hK12 => ?_)
      refine wp_seq_k (fun K13 hK13 => ?_)
      refine wp_region_lit ?_
      refine sqv hf (r_fa rfl Try.underlying49 (f := 0) (q := 0) rfl (by kernel_rfl) rfl) rfl rfl rfl ?_; clear hf fa; intro fa hf
      refine sqv hf (r_load (v := (.int .i64 kk)) rfl Try.underlying3 rfl (cell_blk hkb2 rfl)) rfl rfl rfl ?_; clear hf fa; intro fa hf
      refine sqv hf (r_eq rfl rfl) rfl rfl rfl ?_; clear hf fa; intro fa hf
      apply wpList_nil
      (try simp only [Exit.then, Exit.inBlock, ↓reduceIte, Nat.reduceEqDiff])
      refine hK13 _ _ ?_
      refine wp_cond_split (t := (decide (kk = (0 : Int)))) (hf.ev rfl) (fun hqt44_1 => ?_) (fun hqt44_1 => ?_)
      · have hqt44_1b := hqt44_1
        try simp only [decide_eq_true_eq, Bool.and_eq_true, Bool.or_eq_true, Bool.not_eq_true', decide_eq_false_iff_not, ne_eq, Bool.not_eq_true] at hqt44_1
        refine wp_seq_k (fun K14 hK14 => ?_)
        skip
        refine wp_region_lit ?_
        refine sqv hf (r_build (vs := []) (cs := #[(.int .i64 (0 : Int)), (.slice none 0 0), (.slice none 0 0), (.slice none 0 0), (.slice none 0 0)]) rfl (fun _ => by kernel_rfl)) rfl rfl rfl ?_; clear hf fa; intro fa hf
        refine sqn hf (d_storeK (T := 49) (v := (.agg #[(.int .i64 (0 : Int)), (.slice none 0 0), (.slice none 0 0), (.slice none 0 0), (.slice none 0 0)])) (cs := #[(.int .i64 (0 : Int)), (.slice none 0 0), (.slice none 0 0), (.slice none 0 0), (.slice none 0 0)]) (cs' := #[(.int .i64 (0 : Int)), (.slice none 0 0), (.slice none 0 0), (.slice none 0 0), (.slice none 0 0)]) rfl rfl (by kernel_rfl) (by kernel_rfl) hkb1 (by kernel_rfl) (by kernel_rfl)) rfl rfl ?_; clear hf fa; rintro fa _ w8 ⟨hk4, hg2⟩ hf
        replace hkb2 := blk_grown hkb2 hg2 (by omega)
        replace hra1 := Row.grown hra1 hg2 (Row.ne_type hra1 hkb1 rfl)
        replace hb := hb.trans (grown_below hg2 hb.size hBb1)
        refine sqv hf (r_assign rfl) rfl rfl rfl ?_; clear hf fa; intro fa hf
        apply wpList_nil
        (try simp only [Exit.then, Exit.inBlock, ↓reduceIte, Nat.reduceEqDiff])
        refine hK14 _ _ ?_
        refine wp_ret ?_
        (try simp only [Exit.then, Exit.inBlock])
        refine retCT hf rfl rfl hk4 Try.underlying49 rfl (by kernel_rfl) rfl ?_
        have hkf := kind_fin (s := strN p) (kk := kk) (by rw [show j = 10 by omega] at Hk; exact Hk)
        rw [opR_zero hPc (by rw [hkf]; exact hqt44_1)]; exact ⟨none, 0, none, 0, none, 0, none, 0, rfl, opF_nil _, hb⟩
      · have hqt44_1b := hqt44_1
        replace hqt44_1 := Bool.eq_false_iff.1 hqt44_1
        try simp only [ne_eq, decide_eq_true_eq, Bool.and_eq_true, Bool.or_eq_true, Bool.not_eq_true', decide_eq_false_iff_not] at hqt44_1
        refine wp_skip ?_
        (try simp only [Exit.then, Exit.inBlock, ↓reduceIte, Nat.reduceEqDiff])
        refine hK12 _ _ ?_
        refine wp_seq_k (fun K15 hK15 => ?_)
        refine wp_seq_k (fun K16 hK16 => ?_)
        have hkf := kind_fin (s := strN p) (kk := kk) (by rw [show j = 10 by omega] at Hk; exact Hk)
        have hwl := word_len kk
        have hk0 : ¬ kk = 0 := hqt44_1
        refine wp_region_lit ?_
        refine sqv hf (r_assign rfl) rfl rfl rfl ?_; clear hf fa; intro fa hf
        apply wpList_nil
        (try simp only [Exit.then, Exit.inBlock, ↓reduceIte, Nat.reduceEqDiff])
        refine hK16 _ _ ?_
        refine wp_block ?_
        refine wp_loop_k (fun mq fa wr => ∃ (i : Nat) (M : Nat) (st : PSt), mq = (formS kk).size - i ∧ Fr 150 fa [(0, (.string l)), (2, (.pointer (some ⟨b1, 0, none⟩))), (5, (.pointer (some ⟨b2, 0, none⟩))), (10, (.string (formS kk))), (11, (.int .i64 ((i : Nat) : Int))), (4, (.slice ra1 (((p :: ps).map strN).length) rc1))] ∧ Below w.heap.size w wr ∧ Row 1 vStr 9 (w.heap.size) wr (.slice ra1 ((((p :: ps).map strN)).length) rc1) ((p :: ps).map strN) ∧ wr.heap[b1]? = some (.cells #[(.int .i64 (0 : Int)), (.slice none 0 0), (.slice none 0 0), (.slice none 0 0), (.slice none 0 0)] 49 (0, 0)) ∧ (Below w2.heap.size w2 wr) ∧ (StP 49 w2.heap.size wr b2 kk st) ∧ (i ≤ (formS kk).size) ∧ (M ≤ i * 20010) ∧ (OpB2 M st) ∧ (parseR (bl (formS kk)) ps st0 = parseR ((bl (formS kk)).drop i) (ps.drop i) st)) ?_ ?_
        · skip
          exact ⟨_, 0, 0, st0, rfl, hf.sub ⟨rfl, rfl, rfl, rfl, (some_int (by first | rfl | omega)), (some_sl (by first | omega | rfl | (simp only [List.length_append, List.length_cons, List.length_nil]; omega) | (simp <;> omega)) rfl), trivial⟩, hb, (Row.relen hra1), hkb1, hUA, ⟨none, 0, none, 0, none, 0, none, 0, hkb2, Row.nil, Row.nil, Row.nil, Row.nil⟩, by omega, by omega, OpB2.zero _, (by rw [List.drop_zero, List.drop_zero])⟩
        · skip
          clear hf fa; intro mq2 fa w9 hI KL2 hKL2
          clear hb
          clear hkb1
          clear hkb2
          clear hra1
          obtain ⟨i, M, st, hmq2, hf, hb, hra1, hkb1, hUA, hst, hi, hM, hInv, Hs⟩ := hI
          have hcra1 := Row.caps hra1
          obtain ⟨aN, cN, aS, cS, aA, cA, aD, cD, hk2, hrN, hrS, hrA, hrD⟩ := hst
          have hcN9 := Row.caps hrN
          have hcS9 := Row.caps hrS
          have hcA9 := Row.caps hrA
          have hcD9 := Row.caps hrD
          have hnl9 := hInv.nl
          have hsl9 := hInv.sl
          have hal9 := hInv.al
          have hdl9 := hInv.dl
          refine wp_seq_k (fun K17 hK17 => ?_)
          refine wp_seq_k (fun K18 hK18 => ?_)
          refine wp_region_lit ?_
          refine sqv hf (r_move rfl) rfl rfl rfl ?_; clear hf fa; intro fa hf
          refine sqv hf (r_move rfl) rfl rfl rfl ?_; clear hf fa; intro fa hf
          refine sqv hf (r_lens rfl Try.underlying9) rfl rfl rfl ?_; clear hf fa; intro fa hf
          refine sqv hf (r_lt rfl rfl) rfl rfl rfl ?_; clear hf fa; intro fa hf
          apply wpList_nil
          (try simp only [Exit.then, Exit.inBlock, ↓reduceIte, Nat.reduceEqDiff])
          refine hK18 _ _ ?_
          refine wp_cond_split (t := (decide (((i : Nat) : Int) < (((formS kk).size : Nat) : Int)))) (hf.ev rfl) (fun hqt49_1 => ?_) (fun hqt49_1 => ?_)
          · have hqt49_1b := hqt49_1
            try simp only [decide_eq_true_eq, Bool.and_eq_true, Bool.or_eq_true, Bool.not_eq_true', decide_eq_false_iff_not, ne_eq, Bool.not_eq_true] at hqt49_1
            refine wp_skip ?_
            (try simp only [Exit.then, Exit.inBlock, ↓reduceIte, Nat.reduceEqDiff])
            refine hK17 _ _ ?_
            refine wp_seq_k (fun K19 hK19 => ?_)
            refine wp_block ?_
            refine wp_seq_k (fun K20 hK20 => ?_)
            refine wp_seq_k (fun K21 hK21 => ?_)
            refine wp_region_lit ?_
            refine sqv hf (r_move rfl) rfl rfl rfl ?_; clear hf fa; intro fa hf
            refine sqv hf (r_move rfl) rfl rfl rfl ?_; clear hf fa; intro fa hf
            refine sqv hf (r_sindexD (j := i) rfl rfl Try.underlying9 rfl (by omega)) rfl rfl rfl ?_; clear hf fa; intro fa hf
            refine sqv hf (r_eq rfl rfl) rfl rfl rfl ?_; clear hf fa; intro fa hf
            apply wpList_nil
            (try simp only [Exit.then, Exit.inBlock, ↓reduceIte, Nat.reduceEqDiff])
            refine hK21 _ _ ?_
            refine wp_cond_split (t := (decide (((sbt (formS kk) i : Nat) : Int) = (97 : Int)))) (hf.ev rfl) (fun hqt55_1 => ?_) (fun hqt55_1 => ?_)
            · have hqt55_1b := hqt55_1
              try simp only [decide_eq_true_eq, Bool.and_eq_true, Bool.or_eq_true, Bool.not_eq_true', decide_eq_false_iff_not, ne_eq, Bool.not_eq_true] at hqt55_1
              refine wp_seq_k (fun K22 hK22 => ?_)
              refine wp_seq_k (fun K23 hK23 => ?_)
              refine wp_region_lit ?_
              refine sqv hf (r_move rfl) rfl rfl rfl ?_; clear hf fa; intro fa hf
              refine sqv hf (r_add (C := (((i : Nat) : Int) + (1 : Int))) rfl rfl (by rw [IntKind.wrap_i64]; omega)) rfl rfl rfl ?_; clear hf fa; intro fa hf
              refine sqv hf (r_assign rfl) rfl rfl rfl ?_; clear hf fa; intro fa hf
              apply wpList_nil
              (try simp only [Exit.then, Exit.inBlock, ↓reduceIte, Nat.reduceEqDiff])
              refine hK23 _ _ ?_
              refine wp_block ?_
              refine wp_loop_k (fun mq fa wr => ∃ (m : Nat) (M2 : Nat) (st : PSt), mq = ((p :: ps).map strN).length - m ∧ Fr 150 fa [(0, (.string l)), (2, (.pointer (some ⟨b1, 0, none⟩))), (5, (.pointer (some ⟨b2, 0, none⟩))), (10, (.string (formS kk))), (11, (.int .i64 ((i : Nat) : Int))), (12, (.int .i64 (((m + 1) : Nat) : Int))), (4, (.slice ra1 (((p :: ps).map strN).length) rc1))] ∧ Below w.heap.size w wr ∧ Row 1 vStr 9 (w.heap.size) wr (.slice ra1 ((((p :: ps).map strN)).length) rc1) ((p :: ps).map strN) ∧ wr.heap[b1]? = some (.cells #[(.int .i64 (0 : Int)), (.slice none 0 0), (.slice none 0 0), (.slice none 0 0), (.slice none 0 0)] 49 (0, 0)) ∧ (Below w2.heap.size w2 wr) ∧ (StP 49 w2.heap.size wr b2 kk st) ∧ (i ≤ m) ∧ (m ≤ ps.length ∨ m = i) ∧ (M2 ≤ i * 20010 + (m - i)) ∧ (OpB2 M2 st) ∧ (parseR (bl (formS kk)) ps st0 = (opVals (ps.drop m) st).bind (parseR ((bl (formS kk)).drop (i + 1)) ((ps.drop i).drop 1)))) ?_ ?_
              · skip
                exact ⟨_, i, M, st, rfl, hf.sub ⟨rfl, rfl, rfl, rfl, rfl, (some_int (by first | rfl | omega)), (some_sl (by first | omega | rfl | (simp only [List.length_append, List.length_cons, List.length_nil]; omega) | (simp <;> omega)) rfl), trivial⟩, hb, (Row.relen hra1), hkb1, hUA, ⟨aN, cN, aS, cS, aA, cA, aD, cD, hk2, hrN, hrS, hrA, hrD⟩, by omega, by omega, by omega, hInv, (by have h := pr_a Hs (by omega) (by have h := hqt55_1; omega); rw [Nat.add_sub_cancel] at h; exact h)⟩
              · skip
                clear hf fa; intro mq3 fa w10 hI KL3 hKL3
                clear hb
                clear hkb1
                clear hk2
                clear hra1
                clear hrN
                clear hrS
                clear hrA
                clear hrD
                obtain ⟨m, M2, st, hmq3, hf, hb, hra1, hkb1, hUA, hst, hm2, hml, hM2, hInv, Hv⟩ := hI
                have hcra1 := Row.caps hra1
                obtain ⟨aN, cN, aS, cS, aA, cA, aD, cD, hk2, hrN, hrS, hrA, hrD⟩ := hst
                have hcN9 := Row.caps hrN
                have hcS9 := Row.caps hrS
                have hcA9 := Row.caps hrA
                have hcD9 := Row.caps hrD
                have hnl9 := hInv.nl
                have hsl9 := hInv.sl
                have hal9 := hInv.al
                have hdl9 := hInv.dl
                refine wp_seq_k (fun K24 hK24 => ?_)
                refine wp_seq_k (fun K25 hK25 => ?_)
                refine wp_region_lit ?_
                refine sqv hf (r_move rfl) rfl rfl rfl ?_; clear hf fa; intro fa hf
                refine sqv hf (r_move rfl) rfl rfl rfl ?_; clear hf fa; intro fa hf
                refine sqv hf (r_lensl rfl Try.underlying32) rfl rfl rfl ?_; clear hf fa; intro fa hf
                refine sqv hf (r_lt rfl rfl) rfl rfl rfl ?_; clear hf fa; intro fa hf
                apply wpList_nil
                (try simp only [Exit.then, Exit.inBlock, ↓reduceIte, Nat.reduceEqDiff])
                refine hK25 _ _ ?_
                refine wp_cond_split (t := (decide ((((m + 1) : Nat) : Int) < (((((p :: ps).map strN)).length : Nat) : Int)))) (hf.ev rfl) (fun hqt61_1 => ?_) (fun hqt61_1 => ?_)
                · have hqt61_1b := hqt61_1
                  try simp only [decide_eq_true_eq, Bool.and_eq_true, Bool.or_eq_true, Bool.not_eq_true', decide_eq_false_iff_not, ne_eq, Bool.not_eq_true] at hqt61_1
                  refine wp_skip ?_
                  (try simp only [Exit.then, Exit.inBlock, ↓reduceIte, Nat.reduceEqDiff])
                  refine hK24 _ _ ?_
                  refine wp_seq_k (fun K26 hK26 => ?_)
                  refine wp_block ?_
                  refine wp_seq_k (fun K27 hK27 => ?_)
                  obtain ⟨yp, hyp⟩ : ∃ x, ((p :: ps).map strN)[m + 1]? = some x := ⟨_, List.getElem?_eq_getElem (by omega)⟩
                  have hyz : yp.size ≤ 30000 := by have h := pcs_len l yp (by rw [hPL]; exact List.mem_of_getElem? hyp); omega
                  obtain ⟨yl, hyc, hyl⟩ := ps_cons rfl hyp
                  refine wp_region_lit ?_
                  refine sqv hf (r_move rfl) rfl rfl rfl ?_; clear hf fa; intro fa hf
                  refine sqv hf (r_move rfl) rfl rfl rfl ?_; clear hf fa; intro fa hf
                  obtain ⟨rb2, rfl, hbbrb2, hlbrb2⟩ := Row.some hra1 (by first | omega | (simp only [Sl.list_length, List.length_set, List.length_take, List.length_append, List.length_replicate, List.length_cons, List.length_nil, List.length_map, nums_len]; omega))
                  have hy2 : (((p :: ps).map strN))[((m + 1))]? = some yp := hyp
                  have hel2 := RdS.at (Row.rd (by intros; rfl) hra1) hy2
                  obtain ⟨_, _, hab, hlr2, hel2⟩ := hel2
                  cases hab
                  refine sqv hf (r_ixa (sz := 1) (j := ((m + 1))) rfl rfl Try.underlying32 (by kernel_rfl) rfl (by omega) rfl) rfl rfl rfl ?_; clear hf fa; intro fa hf
                  refine sqv hf (r_load (v := (.string yp)) rfl Try.underlying9 rfl (cellsAt_cell hel2 (i := 0) rfl rfl)) rfl rfl rfl ?_; clear hf fa; intro fa hf
                  refine sqdt hf (d_callB (vs := [(.string yp)]) rfl Try.func28 (by kernel_rfl) (by kernel_rfl) (rreadvalue_any yp _ (by omega))) rfl rfl rfl ?_; clear hf fa; rintro fa _ w11 ⟨rfl, he6⟩ hf
                  replace hkb1 := blk_ext hkb1 he6
                  replace hk2 := blk_ext hk2 he6
                  replace hra1 := Row.ext hra1 he6
                  replace hrN := Row.ext hrN he6
                  replace hrS := Row.ext hrS he6
                  replace hrA := Row.ext hrA he6
                  replace hrD := Row.ext hrD he6
                  replace hUA := hUA.trans (Below.mono he6 hUA.size)
                  replace hb := hb.trans (Below.mono he6 hb.size)
                  refine sqv hf (r_move rfl) rfl rfl rfl ?_; clear hf fa; intro fa hf
                  refine sqv hf (r_extract rfl (i := 0) rfl) rfl rfl rfl ?_; clear hf fa; intro fa hf
                  refine sqv hf (r_extract rfl (i := 1) rfl) rfl rfl rfl ?_; clear hf fa; intro fa hf
                  refine sqdt hf (d_alloc (z := (.agg #[(.int .u8 (0 : Int)), (.int .u64 (0 : Int))])) (cs := #[(.int .u8 (0 : Int)), (.int .u64 (0 : Int))]) (by kernel_rfl) rfl) rfl rfl rfl ?_; clear hf fa; rintro fa _ w12 ⟨b3, rfl, hle3, hk5, he7⟩ hf
                  have hBb3 : w.heap.size ≤ b3 := Nat.le_trans hb.size hle3
                  have : b1 < b3 := Nat.lt_of_lt_of_le (blk_lt hkb1) hle3
                  have : b2 < b3 := Nat.lt_of_lt_of_le (blk_lt hk2) hle3
                  have hUhUAb3 := Nat.le_trans hUA.size hle3
                  have : rb2 < b3 := Nat.lt_of_lt_of_le (Row.lt hra1 _ rfl).2 hle3
                  have hnr1 : (Value.slice aA (st.A.length) cA).ownBlock ≠ some b3 := fun hq => by have := (Row.lt hrA _ hq).2; omega
                  have hnl1 : ∀ q, (Value.slice aA (st.A.length) cA).ownBlock = some q → q < b3 := fun q hq => Nat.lt_of_lt_of_le (Row.lt hrA q hq).2 hle3
                  replace hkb1 := blk_ext hkb1 he7
                  replace hk2 := blk_ext hk2 he7
                  replace hra1 := Row.ext hra1 he7
                  replace hrN := Row.ext hrN he7
                  replace hrS := Row.ext hrS he7
                  replace hrA := Row.ext hrA he7
                  replace hrD := Row.ext hrD he7
                  replace hUA := hUA.trans (Below.mono he7 hUA.size)
                  replace hb := hb.trans (Below.mono he7 hb.size)
                  refine sqn hf (d_storeK (T := 65) (v := (.agg #[(.int .u8 ((rdV yp).1.1)), (.int .u64 ((rdV yp).1.2.1))])) (cs := #[(.int .u8 (0 : Int)), (.int .u64 (0 : Int))]) (cs' := #[(.int .u8 ((rdV yp).1.1)), (.int .u64 ((rdV yp).1.2.1))]) rfl rfl (by kernel_rfl) (by kernel_rfl) hk5 (by kernel_rfl) (by kernel_rfl)) rfl rfl ?_; clear hf fa; rintro fa _ w13 ⟨hk6, hg3⟩ hf
                  replace hkb1 := blk_grown hkb1 hg3 (by omega)
                  replace hk2 := blk_grown hk2 hg3 (by omega)
                  replace hra1 := Row.grown hra1 hg3 (Row.ne_type hra1 hk5 rfl)
                  replace hrN := Row.grown hrN hg3 (Row.ne_type hrN hk5 rfl)
                  replace hrS := Row.grown hrS hg3 (Row.ne_type hrS hk5 rfl)
                  replace hrA := Row.grown hrA hg3 hnr1
                  replace hrD := Row.grown hrD hg3 (Row.ne_type hrD hk5 rfl)
                  replace hUA := hUA.trans (grown_below hg3 hUA.size (by omega))
                  replace hb := hb.trans (grown_below hg3 hb.size hBb3)
                  refine sqv hf (r_assign rfl) rfl rfl rfl ?_; clear hf fa; intro fa hf
                  apply wpList_nil
                  (try simp only [Exit.then, Exit.inBlock, ↓reduceIte, Nat.reduceEqDiff])
                  refine hK27 _ _ ?_
                  refine wp_seq_k (fun K28 hK28 => ?_)
                  refine wp_seq_k (fun K29 hK29 => ?_)
                  refine wp_region_lit ?_
                  refine sqv hf (r_move rfl) rfl rfl rfl ?_; clear hf fa; intro fa hf
                  refine sqv hf (r_not rfl) rfl rfl rfl ?_; clear hf fa; intro fa hf
                  apply wpList_nil
                  (try simp only [Exit.then, Exit.inBlock, ↓reduceIte, Nat.reduceEqDiff])
                  refine hK29 _ _ ?_
                  refine wp_cond_split (t := (!(rdV yp).2)) (hf.ev rfl) (fun hqt73_1 => ?_) (fun hqt73_1 => ?_)
                  · have hqt73_1b := hqt73_1
                    try simp only [decide_eq_true_eq, Bool.and_eq_true, Bool.or_eq_true, Bool.not_eq_true', decide_eq_false_iff_not, ne_eq, Bool.not_eq_true] at hqt73_1
                    refine wp_seq_k (fun K30 hK30 => ?_)
                    skip
                    refine wp_region_lit ?_
                    refine sqv hf (r_build (vs := []) (cs := #[(.int .i64 (0 : Int)), (.slice none 0 0), (.slice none 0 0), (.slice none 0 0), (.slice none 0 0)]) rfl (fun _ => by kernel_rfl)) rfl rfl rfl ?_; clear hf fa; intro fa hf
                    refine sqn hf (d_storeK (T := 49) (v := (.agg #[(.int .i64 (0 : Int)), (.slice none 0 0), (.slice none 0 0), (.slice none 0 0), (.slice none 0 0)])) (cs := #[(.int .i64 (0 : Int)), (.slice none 0 0), (.slice none 0 0), (.slice none 0 0), (.slice none 0 0)]) (cs' := #[(.int .i64 (0 : Int)), (.slice none 0 0), (.slice none 0 0), (.slice none 0 0), (.slice none 0 0)]) rfl rfl (by kernel_rfl) (by kernel_rfl) hkb1 (by kernel_rfl) (by kernel_rfl)) rfl rfl ?_; clear hf fa; rintro fa _ w14 ⟨hk7, hg4⟩ hf
                    replace hk2 := blk_grown hk2 hg4 (by omega)
                    replace hk6 := blk_grown hk6 hg4 (by omega)
                    replace hra1 := Row.grown hra1 hg4 (Row.ne_type hra1 hkb1 rfl)
                    replace hrN := Row.grown hrN hg4 (Row.ne_type hrN hkb1 rfl)
                    replace hrS := Row.grown hrS hg4 (Row.ne_type hrS hkb1 rfl)
                    replace hrA := Row.grown hrA hg4 (Row.ne_type hrA hkb1 rfl)
                    replace hrD := Row.grown hrD hg4 (Row.ne_type hrD hkb1 rfl)
                    replace hb := hb.trans (grown_below hg4 hb.size hBb1)
                    refine sqv hf (r_assign rfl) rfl rfl rfl ?_; clear hf fa; intro fa hf
                    apply wpList_nil
                    (try simp only [Exit.then, Exit.inBlock, ↓reduceIte, Nat.reduceEqDiff])
                    refine hK30 _ _ ?_
                    refine wp_ret ?_
                    (try simp only [Exit.then, Exit.inBlock])
                    refine retCT hf rfl rfl hk7 Try.underlying49 rfl (by kernel_rfl) rfl ?_
                    rw [opR_none hPc hkf hk0 (pr_vn Hv hyc hyl (by have h := hqt73_1; simpa using h))]; exact ⟨none, 0, none, 0, none, 0, none, 0, rfl, opF_nil _, hb⟩
                  · have hqt73_1b := hqt73_1
                    replace hqt73_1 := Bool.eq_false_iff.1 hqt73_1
                    try simp only [ne_eq, decide_eq_true_eq, Bool.and_eq_true, Bool.or_eq_true, Bool.not_eq_true', decide_eq_false_iff_not] at hqt73_1
                    refine wp_skip ?_
                    (try simp only [Exit.then, Exit.inBlock, ↓reduceIte, Nat.reduceEqDiff])
                    refine hK28 _ _ ?_
                    refine wp_region_lit ?_
                    refine sqv hf (r_fa rfl Try.underlying49 (f := 3) (q := 3) rfl (by kernel_rfl) rfl) rfl rfl rfl ?_; clear hf fa; intro fa hf
                    refine sqv hf (r_load (v := (.slice aA st.A.length cA)) rfl Try.underlying42 rfl (cell_blk hk2 rfl)) rfl rfl rfl ?_; clear hf fa; intro fa hf
                    refine sqv hf (r_loadA (cs := [(.int .u8 ((rdV yp).1.1)), (.int .u64 ((rdV yp).1.2.1))]) rfl Try.underlying65 rfl (by kernel_rfl) (cellsAt_blk hk6)) rfl rfl rfl ?_; clear hf fa; intro fa hf
                    refine sqdt hf (d_bslice (z := (.agg #[(.int .u8 (0 : Int)), (.int .u64 (0 : Int))])) (sz := 2) (vs := [(0, (.agg #[(.int .u8 ((rdV yp).1.1)), (.int .u64 ((rdV yp).1.2.1))]))]) (cs := #[(.int .u8 ((rdV yp).1.1)), (.int .u64 ((rdV yp).1.2.1))]) rfl Try.underlying42 (by kernel_rfl) rfl (by kernel_rfl)) rfl rfl rfl ?_; clear hf fa; rintro fa _ w15 ⟨b4, rfl, hle4, hk8, he8⟩ hf
                    have hBb4 : w.heap.size ≤ b4 := Nat.le_trans hb.size hle4
                    have : b1 < b4 := Nat.lt_of_lt_of_le (blk_lt hkb1) hle4
                    have : b2 < b4 := Nat.lt_of_lt_of_le (blk_lt hk2) hle4
                    have : b3 < b4 := Nat.lt_of_lt_of_le (blk_lt hk6) hle4
                    have hUhUAb4 := Nat.le_trans hUA.size hle4
                    have : rb2 < b4 := Nat.lt_of_lt_of_le (Row.lt hra1 _ rfl).2 hle4
                    have hnr2 : (Value.slice aA (st.A.length) cA).ownBlock ≠ some b4 := fun hq => by have := (Row.lt hrA _ hq).2; omega
                    have hnl2 : ∀ q, (Value.slice aA (st.A.length) cA).ownBlock = some q → q < b4 := fun q hq => Nat.lt_of_lt_of_le (Row.lt hrA q hq).2 hle4
                    replace hkb1 := blk_ext hkb1 he8
                    replace hk2 := blk_ext hk2 he8
                    replace hk6 := blk_ext hk6 he8
                    replace hra1 := Row.ext hra1 he8
                    replace hrN := Row.ext hrN he8
                    replace hrS := Row.ext hrS he8
                    replace hrA := Row.ext hrA he8
                    replace hrD := Row.ext hrD he8
                    replace hUA := hUA.trans (Below.mono he8 hUA.size)
                    replace hb := hb.trans (Below.mono he8 hb.size)
                    have hs1 := Row.rd (by intros; rfl) (Row.of_new (k := 2) (V := vMVal) (l := [(rdV yp).1]) hk8 (Nat.le_refl _) rfl rfl (Nat.le_of_ble_eq_true rfl))
                    refine sqdt hf (d_append (V := vMVal) (k := 2) (e := 65) (bytes := 16) (z := (.agg #[(.int .u8 (0 : Int)), (.int .u64 (0 : Int))])) (news := [(rdV yp).1]) (base := w2.heap.size) (by intros; rfl) (by exact oneMVal) rfl rfl Try.underlying42 (by kernel_rfl) rfl rfl rfl hrA hs1 rfl (fun h => by cases h) (by first | omega | (simp only [List.length_cons, List.length_nil, List.length_append, nums_len]; omega)) (by first | (have := hb.size; have := hUA.size; have : rb2 < w15.heap.size := (Row.lt hra1 _ rfl).2; omega) | (have := Row.base_le hrA (by first | omega | (simp only [Sl.list_length, List.length_set, List.length_take, List.length_append, List.length_replicate, List.length_cons, List.length_nil, List.length_map, nums_len]; omega)); omega))) rfl rfl rfl ?_; clear hf fa; rintro fa v w16 ⟨hr2, hg5⟩ hf; obtain ⟨ra2, rc2, rfl, hcrc2, hmrc2⟩ := Row.slice hr2
                    replace hkb1 := blk_row' hkb1 hg5 (Row.ne_type hrA hkb1 rfl)
                    replace hk2 := blk_row' hk2 hg5 (Row.ne_type hrA hk2 rfl)
                    replace hk6 := blk_row' hk6 hg5 hnr1
                    replace hra1 := Row.grown' hra1 hg5 (Row.ne_row hra1 hrA rfl)
                    replace hrN := Row.grown' hrN hg5 (Row.ne_row hrN hrA rfl)
                    replace hrS := Row.grown' hrS hg5 (Row.ne_row hrS hrA rfl)
                    replace hrD := Row.grown' hrD hg5 (Row.ne_row hrD hrA rfl)
                    replace hUA := hUA.trans (row_below hrA hg5 hUA.size (by first | exact Nat.le_refl _ | omega))
                    replace hb := hb.trans (row_below hrA hg5 hb.size (by have := hb.size; omega))
                    refine sqv hf (r_fa rfl Try.underlying49 (f := 3) (q := 3) rfl (by kernel_rfl) rfl) rfl rfl rfl ?_; clear hf fa; intro fa hf
                    refine sqn hf (d_storeK (T := 49) (v := (.slice ra2 (((st.A ++ [(rdV yp).1])).length) rc2)) (cs := #[(.int .i64 kk), (.slice aN st.N.length cN), (.slice aS st.S.length cS), (.slice aA st.A.length cA), (.slice aD st.D.length cD)]) (cs' := #[(.int .i64 kk), (.slice aN st.N.length cN), (.slice aS st.S.length cS), (.slice ra2 (((st.A ++ [(rdV yp).1])).length) rc2), (.slice aD st.D.length cD)]) rfl rfl (by kernel_rfl) (by kernel_rfl) hk2 (by kernel_rfl) (by kernel_rfl)) rfl rfl ?_; clear hf fa; rintro fa _ w17 ⟨hk9, hg6⟩ hf
                    replace hkb1 := blk_grown hkb1 hg6 (by omega)
                    replace hk6 := blk_grown hk6 hg6 (by omega)
                    replace hra1 := Row.grown hra1 hg6 (Row.ne_type hra1 hk2 rfl)
                    replace hrN := Row.grown hrN hg6 (Row.ne_type hrN hk2 rfl)
                    replace hrS := Row.grown hrS hg6 (Row.ne_type hrS hk2 rfl)
                    replace hr2 := Row.grown hr2 hg6 (Row.ne_type hr2 hk2 rfl)
                    replace hrD := Row.grown hrD hg6 (Row.ne_type hrD hk2 rfl)
                    replace hUA := hUA.trans (grown_below hg6 hUA.size (by omega))
                    replace hb := hb.trans (grown_below hg6 hb.size hBb2)
                    apply wpList_nil
                    (try simp only [Exit.then, Exit.inBlock, ↓reduceIte, Nat.reduceEqDiff])
                    refine hK26 _ _ ?_
                    refine wp_region_lit ?_
                    refine sqv hf (r_move rfl) rfl rfl rfl ?_; clear hf fa; intro fa hf
                    refine sqv hf (r_add (C := ((((m + 1) : Nat) : Int) + (1 : Int))) rfl rfl (by rw [IntKind.wrap_i64]; omega)) rfl rfl rfl ?_; clear hf fa; intro fa hf
                    refine sqv hf (r_assign rfl) rfl rfl rfl ?_; clear hf fa; intro fa hf
                    apply wpList_nil
                    (try simp only [Exit.then, Exit.inBlock, ↓reduceIte, Nat.reduceEqDiff])
                    have hok : (rdV yp).2 = true := by have h := hqt73_1; simpa using h
                    have hi2 := takeP_inv hInv (p := yp) (c := 97) (by omega) (by rw [takeR_val]; exact hok)
                    rw [takeR_val] at hi2
                    refine hKL3 _ _ _ (by omega) ⟨(m + 1), (M2 + 1), ⟨st.N, st.S, st.A ++ [(rdV yp).1], st.D⟩, rfl, hf.sub ⟨rfl, rfl, rfl, rfl, rfl, (some_int (by first | rfl | omega)), (some_sl (by first | omega | rfl | (simp only [List.length_append, List.length_cons, List.length_nil]; omega) | (simp <;> omega)) rfl), trivial⟩, hb, (Row.relen hra1), hkb1, hUA, ⟨aN, cN, aS, cS, ra2, rc2, aD, cD, hk9, hrN, hrS, hr2, hrD⟩, by omega, by omega, by omega, hi2, (pr_v Hv hyc hyl hok)⟩
                · have hqt61_1b := hqt61_1
                  replace hqt61_1 := Bool.eq_false_iff.1 hqt61_1
                  try simp only [ne_eq, decide_eq_true_eq, Bool.and_eq_true, Bool.or_eq_true, Bool.not_eq_true', decide_eq_false_iff_not] at hqt61_1
                  refine wp_exit ?_
                  (try simp only [Exit.then, Exit.inBlock, ↓reduceIte, Nat.reduceEqDiff])
                  refine hK22 _ _ ?_
                  refine wp_exit ?_
                  (try simp only [Exit.then, Exit.inBlock, ↓reduceIte, Nat.reduceEqDiff])
                  refine hK19 _ _ ?_
                  refine wp_region_lit ?_
                  refine sqv hf (r_move rfl) rfl rfl rfl ?_; clear hf fa; intro fa hf
                  refine sqv hf (r_add (C := (((i : Nat) : Int) + (1 : Int))) rfl rfl (by rw [IntKind.wrap_i64]; omega)) rfl rfl rfl ?_; clear hf fa; intro fa hf
                  refine sqv hf (r_assign rfl) rfl rfl rfl ?_; clear hf fa; intro fa hf
                  apply wpList_nil
                  (try simp only [Exit.then, Exit.inBlock, ↓reduceIte, Nat.reduceEqDiff])
                  refine hKL2 _ _ _ (by omega) ⟨(i + 1), M2, st, rfl, hf.sub ⟨rfl, rfl, rfl, rfl, (some_int (by first | rfl | omega)), (some_sl (by first | omega | rfl | (simp only [List.length_append, List.length_cons, List.length_nil]; omega) | (simp <;> omega)) rfl), trivial⟩, hb, (Row.relen hra1), hkb1, hUA, ⟨aN, cN, aS, cS, aA, cA, aD, cD, hk2, hrN, hrS, hrA, hrD⟩, by omega, by omega, hInv, (pr_ve Hv (by omega))⟩
            · have hqt55_1b := hqt55_1
              replace hqt55_1 := Bool.eq_false_iff.1 hqt55_1
              try simp only [ne_eq, decide_eq_true_eq, Bool.and_eq_true, Bool.or_eq_true, Bool.not_eq_true', decide_eq_false_iff_not] at hqt55_1
              refine wp_skip ?_
              (try simp only [Exit.then, Exit.inBlock, ↓reduceIte, Nat.reduceEqDiff])
              refine hK20 _ _ ?_
              refine wp_seq_k (fun K31 hK31 => ?_)
              refine wp_seq_k (fun K32 hK32 => ?_)
              refine wp_region_lit ?_
              refine sqv hf (r_move rfl) rfl rfl rfl ?_; clear hf fa; intro fa hf
              refine sqv hf (r_add (C := (((i : Nat) : Int) + (1 : Int))) rfl rfl (by rw [IntKind.wrap_i64]; omega)) rfl rfl rfl ?_; clear hf fa; intro fa hf
              refine sqv hf (r_move rfl) rfl rfl rfl ?_; clear hf fa; intro fa hf
              refine sqv hf (r_lensl rfl Try.underlying32) rfl rfl rfl ?_; clear hf fa; intro fa hf
              refine sqv hf (r_ge rfl rfl) rfl rfl rfl ?_; clear hf fa; intro fa hf
              apply wpList_nil
              (try simp only [Exit.then, Exit.inBlock, ↓reduceIte, Nat.reduceEqDiff])
              refine hK32 _ _ ?_
              refine wp_cond_split (t := (decide ((((((p :: ps).map strN)).length : Nat) : Int) ≤ (((i : Nat) : Int) + (1 : Int))))) (hf.ev rfl) (fun hqt85_1 => ?_) (fun hqt85_1 => ?_)
              · have hqt85_1b := hqt85_1
                try simp only [decide_eq_true_eq, Bool.and_eq_true, Bool.or_eq_true, Bool.not_eq_true', decide_eq_false_iff_not, ne_eq, Bool.not_eq_true] at hqt85_1
                refine wp_seq_k (fun K33 hK33 => ?_)
                skip
                refine wp_region_lit ?_
                refine sqv hf (r_build (vs := []) (cs := #[(.int .i64 (0 : Int)), (.slice none 0 0), (.slice none 0 0), (.slice none 0 0), (.slice none 0 0)]) rfl (fun _ => by kernel_rfl)) rfl rfl rfl ?_; clear hf fa; intro fa hf
                refine sqn hf (d_storeK (T := 49) (v := (.agg #[(.int .i64 (0 : Int)), (.slice none 0 0), (.slice none 0 0), (.slice none 0 0), (.slice none 0 0)])) (cs := #[(.int .i64 (0 : Int)), (.slice none 0 0), (.slice none 0 0), (.slice none 0 0), (.slice none 0 0)]) (cs' := #[(.int .i64 (0 : Int)), (.slice none 0 0), (.slice none 0 0), (.slice none 0 0), (.slice none 0 0)]) rfl rfl (by kernel_rfl) (by kernel_rfl) hkb1 (by kernel_rfl) (by kernel_rfl)) rfl rfl ?_; clear hf fa; rintro fa _ w18 ⟨hk10, hg7⟩ hf
                replace hk2 := blk_grown hk2 hg7 (by omega)
                replace hra1 := Row.grown hra1 hg7 (Row.ne_type hra1 hkb1 rfl)
                replace hrN := Row.grown hrN hg7 (Row.ne_type hrN hkb1 rfl)
                replace hrS := Row.grown hrS hg7 (Row.ne_type hrS hkb1 rfl)
                replace hrA := Row.grown hrA hg7 (Row.ne_type hrA hkb1 rfl)
                replace hrD := Row.grown hrD hg7 (Row.ne_type hrD hkb1 rfl)
                replace hb := hb.trans (grown_below hg7 hb.size hBb1)
                refine sqv hf (r_assign rfl) rfl rfl rfl ?_; clear hf fa; intro fa hf
                apply wpList_nil
                (try simp only [Exit.then, Exit.inBlock, ↓reduceIte, Nat.reduceEqDiff])
                refine hK33 _ _ ?_
                refine wp_ret ?_
                (try simp only [Exit.then, Exit.inBlock])
                refine retCT hf rfl rfl hk10 Try.underlying49 rfl (by kernel_rfl) rfl ?_
                rw [opR_none hPc hkf hk0 (pr_oe Hs (by omega) (by have h := hqt55_1; omega) (by have h := hqt85_1; omega))]; exact ⟨none, 0, none, 0, none, 0, none, 0, rfl, opF_nil _, hb⟩
              · have hqt85_1b := hqt85_1
                replace hqt85_1 := Bool.eq_false_iff.1 hqt85_1
                try simp only [ne_eq, decide_eq_true_eq, Bool.and_eq_true, Bool.or_eq_true, Bool.not_eq_true', decide_eq_false_iff_not] at hqt85_1
                refine wp_skip ?_
                (try simp only [Exit.then, Exit.inBlock, ↓reduceIte, Nat.reduceEqDiff])
                refine hK31 _ _ ?_
                refine wp_seq_k (fun K34 hK34 => ?_)
                refine wp_region_lit ?_
                refine sqv hf (r_assign rfl) rfl rfl rfl ?_; clear hf fa; intro fa hf
                apply wpList_nil
                (try simp only [Exit.then, Exit.inBlock, ↓reduceIte, Nat.reduceEqDiff])
                refine hK34 _ _ ?_
                refine wp_seq_k (fun K35 hK35 => ?_)
                refine wp_region_lit ?_
                refine sqv hf (r_assign rfl) rfl rfl rfl ?_; clear hf fa; intro fa hf
                refine sqv hf (r_assign rfl) rfl rfl rfl ?_; clear hf fa; intro fa hf
                apply wpList_nil
                (try simp only [Exit.then, Exit.inBlock, ↓reduceIte, Nat.reduceEqDiff])
                refine hK35 _ _ ?_
                refine wp_seq_k (fun K36 hK36 => ?_)
                refine wp_seq_k (fun K37 hK37 => ?_)
                refine wp_region_lit ?_
                refine sqv hf (r_move rfl) rfl rfl rfl ?_; clear hf fa; intro fa hf
                refine sqv hf (r_move rfl) rfl rfl rfl ?_; clear hf fa; intro fa hf
                refine sqv hf (r_sindexD (j := i) rfl rfl Try.underlying9 rfl (by omega)) rfl rfl rfl ?_; clear hf fa; intro fa hf
                apply wpList_nil
                (try simp only [Exit.then, Exit.inBlock, ↓reduceIte, Nat.reduceEqDiff])
                refine hK37 _ _ ?_
                refine wp_block ?_
                refine wp_seq_k (fun K38 hK38 => ?_)
                refine wp_region_lit ?_
                refine sqv hf (r_eq rfl rfl) rfl rfl rfl ?_; clear hf fa; intro fa hf
                refine sqv hf (r_assign rfl) rfl rfl rfl ?_; clear hf fa; intro fa hf
                apply wpList_nil
                (try simp only [Exit.then, Exit.inBlock, ↓reduceIte, Nat.reduceEqDiff])
                refine hK38 _ _ ?_
                refine wp_cond_split (t := (decide (((sbt (formS kk) i : Nat) : Int) = (110 : Int)))) (hf.ev rfl) (fun hqt90_1 => ?_) (fun hqt90_1 => ?_)
                · have hqt90_1b := hqt90_1
                  try simp only [decide_eq_true_eq, Bool.and_eq_true, Bool.or_eq_true, Bool.not_eq_true', decide_eq_false_iff_not, ne_eq, Bool.not_eq_true] at hqt90_1
                  refine wp_seq_k (fun K39 hK39 => ?_)
                  obtain ⟨yp, hyp⟩ : ∃ x, ((p :: ps).map strN)[i + 1]? = some x := ⟨_, List.getElem?_eq_getElem (by omega)⟩
                  have hyz : yp.size ≤ 30000 := by have h := pcs_len l yp (by rw [hPL]; exact List.mem_of_getElem? hyp); omega
                  obtain ⟨yl, hyc, hyl⟩ := ps_cons rfl hyp
                  refine wp_region_lit ?_
                  refine sqv hf (r_move rfl) rfl rfl rfl ?_; clear hf fa; intro fa hf
                  refine sqv hf (r_move rfl) rfl rfl rfl ?_; clear hf fa; intro fa hf
                  refine sqv hf (r_add (C := (((i : Nat) : Int) + (1 : Int))) rfl rfl (by rw [IntKind.wrap_i64]; omega)) rfl rfl rfl ?_; clear hf fa; intro fa hf
                  obtain ⟨rb3, rfl, hbbrb3, hlbrb3⟩ := Row.some hra1 (by first | omega | (simp only [Sl.list_length, List.length_set, List.length_take, List.length_append, List.length_replicate, List.length_cons, List.length_nil, List.length_map, nums_len]; omega))
                  have hy3 : (((p :: ps).map strN))[(i + 1)]? = some yp := hyp
                  have hel3 := RdS.at (Row.rd (by intros; rfl) hra1) hy3
                  obtain ⟨_, _, hab, hlr3, hel3⟩ := hel3
                  cases hab
                  refine sqv hf (r_ixa (sz := 1) (j := (i + 1)) rfl rfl Try.underlying32 (by kernel_rfl) rfl (by omega) rfl) rfl rfl rfl ?_; clear hf fa; intro fa hf
                  refine sqv hf (r_load (v := (.string yp)) rfl Try.underlying9 rfl (cellsAt_cell hel3 (i := 0) rfl rfl)) rfl rfl rfl ?_; clear hf fa; intro fa hf
                  refine sqdt hf (d_callB (vs := [(.string yp)]) rfl Try.func26 (by kernel_rfl) (by kernel_rfl) (rnumber_any yp _ (by omega))) rfl rfl rfl ?_; clear hf fa; rintro fa _ w19 ⟨rfl, he9⟩ hf
                  replace hkb1 := blk_ext hkb1 he9
                  replace hk2 := blk_ext hk2 he9
                  replace hra1 := Row.ext hra1 he9
                  replace hrN := Row.ext hrN he9
                  replace hrS := Row.ext hrS he9
                  replace hrA := Row.ext hrA he9
                  replace hrD := Row.ext hrD he9
                  replace hUA := hUA.trans (Below.mono he9 hUA.size)
                  replace hb := hb.trans (Below.mono he9 hb.size)
                  refine sqv hf (r_move rfl) rfl rfl rfl ?_; clear hf fa; intro fa hf
                  refine sqv hf (r_extract rfl (i := 0) rfl) rfl rfl rfl ?_; clear hf fa; intro fa hf
                  refine sqv hf (r_extract rfl (i := 1) rfl) rfl rfl rfl ?_; clear hf fa; intro fa hf
                  refine sqv hf (r_assign rfl) rfl rfl rfl ?_; clear hf fa; intro fa hf
                  refine sqv hf (r_assign rfl) rfl rfl rfl ?_; clear hf fa; intro fa hf
                  apply wpList_nil
                  (try simp only [Exit.then, Exit.inBlock, ↓reduceIte, Nat.reduceEqDiff])
                  refine hK39 _ _ ?_
                  refine wp_region_lit ?_
                  refine sqv hf (r_fa rfl Try.underlying49 (f := 1) (q := 1) rfl (by kernel_rfl) rfl) rfl rfl rfl ?_; clear hf fa; intro fa hf
                  refine sqv hf (r_load (v := (.slice aN st.N.length cN)) rfl Try.underlying41 rfl (cell_blk hk2 rfl)) rfl rfl rfl ?_; clear hf fa; intro fa hf
                  refine sqv hf (r_move rfl) rfl rfl rfl ?_; clear hf fa; intro fa hf
                  refine sqdt hf (d_bslice (z := (.int .i64 (0 : Int))) (sz := 1) (vs := [(0, (.int .i64 ((numP (bl yp)).1)))]) (cs := #[(.int .i64 ((numP (bl yp)).1))]) rfl Try.underlying41 (by kernel_rfl) rfl (by kernel_rfl)) rfl rfl rfl ?_; clear hf fa; rintro fa _ w20 ⟨b5, rfl, hle5, hk11, he10⟩ hf
                  have hBb5 : w.heap.size ≤ b5 := Nat.le_trans hb.size hle5
                  have : b1 < b5 := Nat.lt_of_lt_of_le (blk_lt hkb1) hle5
                  have : b2 < b5 := Nat.lt_of_lt_of_le (blk_lt hk2) hle5
                  have hUhUAb5 := Nat.le_trans hUA.size hle5
                  have : rb3 < b5 := Nat.lt_of_lt_of_le (Row.lt hra1 _ rfl).2 hle5
                  have hnr3 : (Value.slice aN (st.N.length) cN).ownBlock ≠ some b5 := fun hq => by have := (Row.lt hrN _ hq).2; omega
                  have hnl3 : ∀ q, (Value.slice aN (st.N.length) cN).ownBlock = some q → q < b5 := fun q hq => Nat.lt_of_lt_of_le (Row.lt hrN q hq).2 hle5
                  replace hkb1 := blk_ext hkb1 he10
                  replace hk2 := blk_ext hk2 he10
                  replace hra1 := Row.ext hra1 he10
                  replace hrN := Row.ext hrN he10
                  replace hrS := Row.ext hrS he10
                  replace hrA := Row.ext hrA he10
                  replace hrD := Row.ext hrD he10
                  replace hUA := hUA.trans (Below.mono he10 hUA.size)
                  replace hb := hb.trans (Below.mono he10 hb.size)
                  have hs2 := Row.rd (by intros; rfl) (Row.of_new (k := 1) (V := (vInt .i64)) (l := [((numP (bl yp)).1)]) hk11 (Nat.le_refl _) rfl rfl (Nat.le_of_ble_eq_true rfl))
                  refine sqdt hf (d_append (V := (vInt .i64)) (k := 1) (e := 3) (bytes := 8) (z := (.int .i64 (0 : Int))) (news := [((numP (bl yp)).1)]) (base := w2.heap.size) (by intros; rfl) (by intro x u hu; simp only [vInt, List.mem_singleton] at hu; subst hu; rfl) rfl rfl Try.underlying41 (by kernel_rfl) rfl rfl rfl hrN hs2 rfl (fun h => by cases h) (by first | omega | (simp only [List.length_cons, List.length_nil, List.length_append, nums_len]; omega)) (by first | (have := hb.size; have := hUA.size; have : rb3 < w20.heap.size := (Row.lt hra1 _ rfl).2; omega) | (have := Row.base_le hrN (by first | omega | (simp only [Sl.list_length, List.length_set, List.length_take, List.length_append, List.length_replicate, List.length_cons, List.length_nil, List.length_map, nums_len]; omega)); omega))) rfl rfl rfl ?_; clear hf fa; rintro fa v w21 ⟨hr3, hg8⟩ hf; obtain ⟨ra3, rc3, rfl, hcrc3, hmrc3⟩ := Row.slice hr3
                  replace hkb1 := blk_row' hkb1 hg8 (Row.ne_type hrN hkb1 rfl)
                  replace hk2 := blk_row' hk2 hg8 (Row.ne_type hrN hk2 rfl)
                  replace hra1 := Row.grown' hra1 hg8 (Row.ne_row hra1 hrN rfl)
                  replace hrS := Row.grown' hrS hg8 (Row.ne_row hrS hrN rfl)
                  replace hrA := Row.grown' hrA hg8 (Row.ne_row hrA hrN rfl)
                  replace hrD := Row.grown' hrD hg8 (Row.ne_row hrD hrN rfl)
                  replace hUA := hUA.trans (row_below hrN hg8 hUA.size (by first | exact Nat.le_refl _ | omega))
                  replace hb := hb.trans (row_below hrN hg8 hb.size (by have := hb.size; omega))
                  refine sqv hf (r_fa rfl Try.underlying49 (f := 1) (q := 1) rfl (by kernel_rfl) rfl) rfl rfl rfl ?_; clear hf fa; intro fa hf
                  refine sqn hf (d_storeK (T := 49) (v := (.slice ra3 (((st.N ++ [((numP (bl yp)).1)])).length) rc3)) (cs := #[(.int .i64 kk), (.slice aN st.N.length cN), (.slice aS st.S.length cS), (.slice aA st.A.length cA), (.slice aD st.D.length cD)]) (cs' := #[(.int .i64 kk), (.slice ra3 (((st.N ++ [((numP (bl yp)).1)])).length) rc3), (.slice aS st.S.length cS), (.slice aA st.A.length cA), (.slice aD st.D.length cD)]) rfl rfl (by kernel_rfl) (by kernel_rfl) hk2 (by kernel_rfl) (by kernel_rfl)) rfl rfl ?_; clear hf fa; rintro fa _ w22 ⟨hk12, hg9⟩ hf
                  replace hkb1 := blk_grown hkb1 hg9 (by omega)
                  replace hra1 := Row.grown hra1 hg9 (Row.ne_type hra1 hk2 rfl)
                  replace hr3 := Row.grown hr3 hg9 (Row.ne_type hr3 hk2 rfl)
                  replace hrS := Row.grown hrS hg9 (Row.ne_type hrS hk2 rfl)
                  replace hrA := Row.grown hrA hg9 (Row.ne_type hrA hk2 rfl)
                  replace hrD := Row.grown hrD hg9 (Row.ne_type hrD hk2 rfl)
                  replace hUA := hUA.trans (grown_below hg9 hUA.size (by omega))
                  replace hb := hb.trans (grown_below hg9 hb.size hBb2)
                  apply wpList_nil
                  (try simp only [Exit.then, Exit.inBlock, ↓reduceIte, Nat.reduceEqDiff])
                  refine hK36 _ _ ?_
                  refine wp_seq_k (fun K40 hK40 => ?_)
                  skip
                  refine wp_region_lit ?_
                  refine sqv hf (r_move rfl) rfl rfl rfl ?_; clear hf fa; intro fa hf
                  refine sqv hf (r_not rfl) rfl rfl rfl ?_; clear hf fa; intro fa hf
                  apply wpList_nil
                  (try simp only [Exit.then, Exit.inBlock, ↓reduceIte, Nat.reduceEqDiff])
                  refine hK40 _ _ ?_
                  refine wp_cond_split (t := (!(numP (bl yp)).2)) (hf.ev rfl) (fun hqt137_1 => ?_) (fun hqt137_1 => ?_)
                  · have hqt137_1b := hqt137_1
                    try simp only [decide_eq_true_eq, Bool.and_eq_true, Bool.or_eq_true, Bool.not_eq_true', decide_eq_false_iff_not, ne_eq, Bool.not_eq_true] at hqt137_1
                    refine wp_seq_k (fun K41 hK41 => ?_)
                    skip
                    refine wp_region_lit ?_
                    refine sqv hf (r_build (vs := []) (cs := #[(.int .i64 (0 : Int)), (.slice none 0 0), (.slice none 0 0), (.slice none 0 0), (.slice none 0 0)]) rfl (fun _ => by kernel_rfl)) rfl rfl rfl ?_; clear hf fa; intro fa hf
                    refine sqn hf (d_storeK (T := 49) (v := (.agg #[(.int .i64 (0 : Int)), (.slice none 0 0), (.slice none 0 0), (.slice none 0 0), (.slice none 0 0)])) (cs := #[(.int .i64 (0 : Int)), (.slice none 0 0), (.slice none 0 0), (.slice none 0 0), (.slice none 0 0)]) (cs' := #[(.int .i64 (0 : Int)), (.slice none 0 0), (.slice none 0 0), (.slice none 0 0), (.slice none 0 0)]) rfl rfl (by kernel_rfl) (by kernel_rfl) hkb1 (by kernel_rfl) (by kernel_rfl)) rfl rfl ?_; clear hf fa; rintro fa _ w23 ⟨hk13, hg10⟩ hf
                    replace hk12 := blk_grown hk12 hg10 (by omega)
                    replace hra1 := Row.grown hra1 hg10 (Row.ne_type hra1 hkb1 rfl)
                    replace hr3 := Row.grown hr3 hg10 (Row.ne_type hr3 hkb1 rfl)
                    replace hrS := Row.grown hrS hg10 (Row.ne_type hrS hkb1 rfl)
                    replace hrA := Row.grown hrA hg10 (Row.ne_type hrA hkb1 rfl)
                    replace hrD := Row.grown hrD hg10 (Row.ne_type hrD hkb1 rfl)
                    replace hb := hb.trans (grown_below hg10 hb.size hBb1)
                    refine sqv hf (r_assign rfl) rfl rfl rfl ?_; clear hf fa; intro fa hf
                    apply wpList_nil
                    (try simp only [Exit.then, Exit.inBlock, ↓reduceIte, Nat.reduceEqDiff])
                    refine hK41 _ _ ?_
                    refine wp_ret ?_
                    (try simp only [Exit.then, Exit.inBlock])
                    refine retCT hf rfl rfl hk13 Try.underlying49 rfl (by kernel_rfl) rfl ?_
                    rw [opR_none hPc hkf hk0 (pr_on Hs (by omega) (by have h := hqt55_1; omega) hyc hyl (by rw [takeR_n (by have h := hqt90_1; omega)]; have h := hqt137_1; simpa using h))]; exact ⟨none, 0, none, 0, none, 0, none, 0, rfl, opF_nil _, hb⟩
                  · have hqt137_1b := hqt137_1
                    replace hqt137_1 := Bool.eq_false_iff.1 hqt137_1
                    try simp only [ne_eq, decide_eq_true_eq, Bool.and_eq_true, Bool.or_eq_true, Bool.not_eq_true', decide_eq_false_iff_not] at hqt137_1
                    refine wp_skip ?_
                    (try simp only [Exit.then, Exit.inBlock, ↓reduceIte, Nat.reduceEqDiff])
                    refine hK19 _ _ ?_
                    refine wp_region_lit ?_
                    refine sqv hf (r_move rfl) rfl rfl rfl ?_; clear hf fa; intro fa hf
                    refine sqv hf (r_add (C := (((i : Nat) : Int) + (1 : Int))) rfl rfl (by rw [IntKind.wrap_i64]; omega)) rfl rfl rfl ?_; clear hf fa; intro fa hf
                    refine sqv hf (r_assign rfl) rfl rfl rfl ?_; clear hf fa; intro fa hf
                    apply wpList_nil
                    (try simp only [Exit.then, Exit.inBlock, ↓reduceIte, Nat.reduceEqDiff])
                    have htk := takeR_n (p := yp) (st := st) (c := sbt (formS kk) i) (by have h := hqt90_1; omega)
                    have htk2 : (takeR (sbt (formS kk) i) yp st).2 = true := by rw [htk]; have h := hqt137_1; simpa using h
                    have hi2 := takeR_inv hInv (p := yp) (c := sbt (formS kk) i) (by omega) htk2
                    have hsx := pr_o Hs (by omega) (by have h := hqt55_1; omega) hyc hyl htk2
                    rw [htk] at hi2 hsx
                    refine hKL2 _ _ _ (by omega) ⟨(i + 1), (M + 1), ⟨st.N ++ [(numP (bl yp)).1], st.S, st.A, st.D⟩, rfl, hf.sub ⟨rfl, rfl, rfl, rfl, (some_int (by first | rfl | omega)), (some_sl (by first | omega | rfl | (simp only [List.length_append, List.length_cons, List.length_nil]; omega) | (simp <;> omega)) rfl), trivial⟩, hb, (Row.relen hra1), hkb1, hUA, ⟨ra3, rc3, aS, cS, aA, cA, aD, cD, hk12, hr3, hrS, hrA, hrD⟩, by omega, by omega, hi2, hsx⟩
                · have hqt90_1b := hqt90_1
                  replace hqt90_1 := Bool.eq_false_iff.1 hqt90_1
                  try simp only [ne_eq, decide_eq_true_eq, Bool.and_eq_true, Bool.or_eq_true, Bool.not_eq_true', decide_eq_false_iff_not] at hqt90_1
                  refine wp_seq_k (fun K42 hK42 => ?_)
                  refine wp_region_lit ?_
                  refine sqv hf (r_eq rfl rfl) rfl rfl rfl ?_; clear hf fa; intro fa hf
                  refine sqv hf (r_assign rfl) rfl rfl rfl ?_; clear hf fa; intro fa hf
                  apply wpList_nil
                  (try simp only [Exit.then, Exit.inBlock, ↓reduceIte, Nat.reduceEqDiff])
                  refine hK42 _ _ ?_
                  refine wp_cond_split (t := (decide (((sbt (formS kk) i : Nat) : Int) = (115 : Int)))) (hf.ev rfl) (fun hqt107_1 => ?_) (fun hqt107_1 => ?_)
                  · have hqt107_1b := hqt107_1
                    try simp only [decide_eq_true_eq, Bool.and_eq_true, Bool.or_eq_true, Bool.not_eq_true', decide_eq_false_iff_not, ne_eq, Bool.not_eq_true] at hqt107_1
                    refine wp_seq_k (fun K43 hK43 => ?_)
                    obtain ⟨yp, hyp⟩ : ∃ x, ((p :: ps).map strN)[i + 1]? = some x := ⟨_, List.getElem?_eq_getElem (by omega)⟩
                    have hyz : yp.size ≤ 30000 := by have h := pcs_len l yp (by rw [hPL]; exact List.mem_of_getElem? hyp); omega
                    obtain ⟨yl, hyc, hyl⟩ := ps_cons rfl hyp
                    refine wp_region_lit ?_
                    refine sqv hf (r_move rfl) rfl rfl rfl ?_; clear hf fa; intro fa hf
                    refine sqv hf (r_move rfl) rfl rfl rfl ?_; clear hf fa; intro fa hf
                    refine sqv hf (r_add (C := (((i : Nat) : Int) + (1 : Int))) rfl rfl (by rw [IntKind.wrap_i64]; omega)) rfl rfl rfl ?_; clear hf fa; intro fa hf
                    obtain ⟨rb4, rfl, hbbrb4, hlbrb4⟩ := Row.some hra1 (by first | omega | (simp only [Sl.list_length, List.length_set, List.length_take, List.length_append, List.length_replicate, List.length_cons, List.length_nil, List.length_map, nums_len]; omega))
                    have hy4 : (((p :: ps).map strN))[(i + 1)]? = some yp := hyp
                    have hel4 := RdS.at (Row.rd (by intros; rfl) hra1) hy4
                    obtain ⟨_, _, hab, hlr4, hel4⟩ := hel4
                    cases hab
                    refine sqv hf (r_ixa (sz := 1) (j := (i + 1)) rfl rfl Try.underlying32 (by kernel_rfl) rfl (by omega) rfl) rfl rfl rfl ?_; clear hf fa; intro fa hf
                    refine sqv hf (r_load (v := (.string yp)) rfl Try.underlying9 rfl (cellsAt_cell hel4 (i := 0) rfl rfl)) rfl rfl rfl ?_; clear hf fa; intro fa hf
                    refine sqdt hf (d_callB (vs := [(.string yp)]) rfl Try.func62 (by kernel_rfl) (by kernel_rfl) (rread_y yp _ hyz)) rfl rfl rfl ?_; clear hf fa; rintro fa _ w24 ⟨rfl, he11⟩ hf
                    replace hkb1 := blk_ext hkb1 he11
                    replace hk2 := blk_ext hk2 he11
                    replace hra1 := Row.ext hra1 he11
                    replace hrN := Row.ext hrN he11
                    replace hrS := Row.ext hrS he11
                    replace hrA := Row.ext hrA he11
                    replace hrD := Row.ext hrD he11
                    replace hUA := hUA.trans (Below.mono he11 hUA.size)
                    replace hb := hb.trans (Below.mono he11 hb.size)
                    refine sqv hf (r_move rfl) rfl rfl rfl ?_; clear hf fa; intro fa hf
                    refine sqv hf (r_extract rfl (i := 0) rfl) rfl rfl rfl ?_; clear hf fa; intro fa hf
                    refine sqv hf (r_extract rfl (i := 1) rfl) rfl rfl rfl ?_; clear hf fa; intro fa hf
                    refine sqv hf (r_assign rfl) rfl rfl rfl ?_; clear hf fa; intro fa hf
                    refine sqv hf (r_assign rfl) rfl rfl rfl ?_; clear hf fa; intro fa hf
                    apply wpList_nil
                    (try simp only [Exit.then, Exit.inBlock, ↓reduceIte, Nat.reduceEqDiff])
                    refine hK43 _ _ ?_
                    refine wp_region_lit ?_
                    refine sqv hf (r_fa rfl Try.underlying49 (f := 2) (q := 2) rfl (by kernel_rfl) rfl) rfl rfl rfl ?_; clear hf fa; intro fa hf
                    refine sqv hf (r_load (v := (.slice aS st.S.length cS)) rfl Try.underlying32 rfl (cell_blk hk2 rfl)) rfl rfl rfl ?_; clear hf fa; intro fa hf
                    refine sqv hf (r_move rfl) rfl rfl rfl ?_; clear hf fa; intro fa hf
                    refine sqdt hf (d_bslice (z := (.string ⟨#[]⟩)) (sz := 1) (vs := [(0, (.string (strN (readP (bl yp)).1)))]) (cs := #[(.string (strN (readP (bl yp)).1))]) rfl Try.underlying32 (by kernel_rfl) rfl (by kernel_rfl)) rfl rfl rfl ?_; clear hf fa; rintro fa _ w25 ⟨b6, rfl, hle6, hk14, he12⟩ hf
                    have hBb6 : w.heap.size ≤ b6 := Nat.le_trans hb.size hle6
                    have : b1 < b6 := Nat.lt_of_lt_of_le (blk_lt hkb1) hle6
                    have : b2 < b6 := Nat.lt_of_lt_of_le (blk_lt hk2) hle6
                    have hUhUAb6 := Nat.le_trans hUA.size hle6
                    have : rb4 < b6 := Nat.lt_of_lt_of_le (Row.lt hra1 _ rfl).2 hle6
                    have hnr4 : (Value.slice aS (st.S.length) cS).ownBlock ≠ some b6 := fun hq => by have := (Row.lt hrS _ hq).2; omega
                    have hnl4 : ∀ q, (Value.slice aS (st.S.length) cS).ownBlock = some q → q < b6 := fun q hq => Nat.lt_of_lt_of_le (Row.lt hrS q hq).2 hle6
                    replace hkb1 := blk_ext hkb1 he12
                    replace hk2 := blk_ext hk2 he12
                    replace hra1 := Row.ext hra1 he12
                    replace hrN := Row.ext hrN he12
                    replace hrS := Row.ext hrS he12
                    replace hrA := Row.ext hrA he12
                    replace hrD := Row.ext hrD he12
                    replace hUA := hUA.trans (Below.mono he12 hUA.size)
                    replace hb := hb.trans (Below.mono he12 hb.size)
                    have hs3 := Row.rd (by intros; rfl) (Row.of_new (k := 1) (V := vStr) (l := [(strN (readP (bl yp)).1)]) hk14 (Nat.le_refl _) rfl rfl (Nat.le_of_ble_eq_true rfl))
                    refine sqdt hf (d_append (V := vStr) (k := 1) (e := 9) (bytes := 16) (z := (.string ⟨#[]⟩)) (news := [(strN (readP (bl yp)).1)]) (base := w2.heap.size) (by intros; rfl) (by intro x u hu; simp only [vStr, List.mem_singleton] at hu; subst hu; rfl) rfl rfl Try.underlying32 (by kernel_rfl) rfl rfl rfl hrS hs3 rfl (fun h => by cases h) (by first | omega | (simp only [List.length_cons, List.length_nil, List.length_append, nums_len]; omega)) (by first | (have := hb.size; have := hUA.size; have : rb4 < w25.heap.size := (Row.lt hra1 _ rfl).2; omega) | (have := Row.base_le hrS (by first | omega | (simp only [Sl.list_length, List.length_set, List.length_take, List.length_append, List.length_replicate, List.length_cons, List.length_nil, List.length_map, nums_len]; omega)); omega))) rfl rfl rfl ?_; clear hf fa; rintro fa v w26 ⟨hr4, hg11⟩ hf; obtain ⟨ra4, rc4, rfl, hcrc4, hmrc4⟩ := Row.slice hr4
                    replace hkb1 := blk_row' hkb1 hg11 (Row.ne_type hrS hkb1 rfl)
                    replace hk2 := blk_row' hk2 hg11 (Row.ne_type hrS hk2 rfl)
                    replace hra1 := Row.grown' hra1 hg11 (fun q h1 h2 => Row.ne_base hrS (hPlt q h1) h2)
                    replace hrN := Row.grown' hrN hg11 (Row.ne_row hrN hrS rfl)
                    replace hrA := Row.grown' hrA hg11 (Row.ne_row hrA hrS rfl)
                    replace hrD := Row.grown' hrD hg11 (Row.ne_row hrD hrS rfl)
                    replace hUA := hUA.trans (row_below hrS hg11 hUA.size (by first | exact Nat.le_refl _ | omega))
                    replace hb := hb.trans (row_below hrS hg11 hb.size (by have := hb.size; omega))
                    refine sqv hf (r_fa rfl Try.underlying49 (f := 2) (q := 2) rfl (by kernel_rfl) rfl) rfl rfl rfl ?_; clear hf fa; intro fa hf
                    refine sqn hf (d_storeK (T := 49) (v := (.slice ra4 (((st.S ++ [(strN (readP (bl yp)).1)])).length) rc4)) (cs := #[(.int .i64 kk), (.slice aN st.N.length cN), (.slice aS st.S.length cS), (.slice aA st.A.length cA), (.slice aD st.D.length cD)]) (cs' := #[(.int .i64 kk), (.slice aN st.N.length cN), (.slice ra4 (((st.S ++ [(strN (readP (bl yp)).1)])).length) rc4), (.slice aA st.A.length cA), (.slice aD st.D.length cD)]) rfl rfl (by kernel_rfl) (by kernel_rfl) hk2 (by kernel_rfl) (by kernel_rfl)) rfl rfl ?_; clear hf fa; rintro fa _ w27 ⟨hk15, hg12⟩ hf
                    replace hkb1 := blk_grown hkb1 hg12 (by omega)
                    replace hra1 := Row.grown hra1 hg12 (Row.ne_type hra1 hk2 rfl)
                    replace hrN := Row.grown hrN hg12 (Row.ne_type hrN hk2 rfl)
                    replace hr4 := Row.grown hr4 hg12 (Row.ne_type hr4 hk2 rfl)
                    replace hrA := Row.grown hrA hg12 (Row.ne_type hrA hk2 rfl)
                    replace hrD := Row.grown hrD hg12 (Row.ne_type hrD hk2 rfl)
                    replace hUA := hUA.trans (grown_below hg12 hUA.size (by omega))
                    replace hb := hb.trans (grown_below hg12 hb.size hBb2)
                    apply wpList_nil
                    (try simp only [Exit.then, Exit.inBlock, ↓reduceIte, Nat.reduceEqDiff])
                    refine hK36 _ _ ?_
                    refine wp_seq_k (fun K44 hK44 => ?_)
                    skip
                    refine wp_region_lit ?_
                    refine sqv hf (r_move rfl) rfl rfl rfl ?_; clear hf fa; intro fa hf
                    refine sqv hf (r_not rfl) rfl rfl rfl ?_; clear hf fa; intro fa hf
                    apply wpList_nil
                    (try simp only [Exit.then, Exit.inBlock, ↓reduceIte, Nat.reduceEqDiff])
                    refine hK44 _ _ ?_
                    refine wp_cond_split (t := (!(readP (bl yp)).2)) (hf.ev rfl) (fun hqt137_2 => ?_) (fun hqt137_2 => ?_)
                    · have hqt137_2b := hqt137_2
                      try simp only [decide_eq_true_eq, Bool.and_eq_true, Bool.or_eq_true, Bool.not_eq_true', decide_eq_false_iff_not, ne_eq, Bool.not_eq_true] at hqt137_2
                      refine wp_seq_k (fun K45 hK45 => ?_)
                      skip
                      refine wp_region_lit ?_
                      refine sqv hf (r_build (vs := []) (cs := #[(.int .i64 (0 : Int)), (.slice none 0 0), (.slice none 0 0), (.slice none 0 0), (.slice none 0 0)]) rfl (fun _ => by kernel_rfl)) rfl rfl rfl ?_; clear hf fa; intro fa hf
                      refine sqn hf (d_storeK (T := 49) (v := (.agg #[(.int .i64 (0 : Int)), (.slice none 0 0), (.slice none 0 0), (.slice none 0 0), (.slice none 0 0)])) (cs := #[(.int .i64 (0 : Int)), (.slice none 0 0), (.slice none 0 0), (.slice none 0 0), (.slice none 0 0)]) (cs' := #[(.int .i64 (0 : Int)), (.slice none 0 0), (.slice none 0 0), (.slice none 0 0), (.slice none 0 0)]) rfl rfl (by kernel_rfl) (by kernel_rfl) hkb1 (by kernel_rfl) (by kernel_rfl)) rfl rfl ?_; clear hf fa; rintro fa _ w28 ⟨hk16, hg13⟩ hf
                      replace hk15 := blk_grown hk15 hg13 (by omega)
                      replace hra1 := Row.grown hra1 hg13 (Row.ne_type hra1 hkb1 rfl)
                      replace hrN := Row.grown hrN hg13 (Row.ne_type hrN hkb1 rfl)
                      replace hr4 := Row.grown hr4 hg13 (Row.ne_type hr4 hkb1 rfl)
                      replace hrA := Row.grown hrA hg13 (Row.ne_type hrA hkb1 rfl)
                      replace hrD := Row.grown hrD hg13 (Row.ne_type hrD hkb1 rfl)
                      replace hb := hb.trans (grown_below hg13 hb.size hBb1)
                      refine sqv hf (r_assign rfl) rfl rfl rfl ?_; clear hf fa; intro fa hf
                      apply wpList_nil
                      (try simp only [Exit.then, Exit.inBlock, ↓reduceIte, Nat.reduceEqDiff])
                      refine hK45 _ _ ?_
                      refine wp_ret ?_
                      (try simp only [Exit.then, Exit.inBlock])
                      refine retCT hf rfl rfl hk16 Try.underlying49 rfl (by kernel_rfl) rfl ?_
                      rw [opR_none hPc hkf hk0 (pr_on Hs (by omega) (by have h := hqt55_1; omega) hyc hyl (by rw [takeR_s (by have h := hqt107_1; omega)]; have h := hqt137_2; simpa using h))]; exact ⟨none, 0, none, 0, none, 0, none, 0, rfl, opF_nil _, hb⟩
                    · have hqt137_2b := hqt137_2
                      replace hqt137_2 := Bool.eq_false_iff.1 hqt137_2
                      try simp only [ne_eq, decide_eq_true_eq, Bool.and_eq_true, Bool.or_eq_true, Bool.not_eq_true', decide_eq_false_iff_not] at hqt137_2
                      refine wp_skip ?_
                      (try simp only [Exit.then, Exit.inBlock, ↓reduceIte, Nat.reduceEqDiff])
                      refine hK19 _ _ ?_
                      refine wp_region_lit ?_
                      refine sqv hf (r_move rfl) rfl rfl rfl ?_; clear hf fa; intro fa hf
                      refine sqv hf (r_add (C := (((i : Nat) : Int) + (1 : Int))) rfl rfl (by rw [IntKind.wrap_i64]; omega)) rfl rfl rfl ?_; clear hf fa; intro fa hf
                      refine sqv hf (r_assign rfl) rfl rfl rfl ?_; clear hf fa; intro fa hf
                      apply wpList_nil
                      (try simp only [Exit.then, Exit.inBlock, ↓reduceIte, Nat.reduceEqDiff])
                      have htk := takeR_s (p := yp) (st := st) (c := sbt (formS kk) i) (by have h := hqt107_1; omega)
                      have htk2 : (takeR (sbt (formS kk) i) yp st).2 = true := by rw [htk]; have h := hqt137_2; simpa using h
                      have hi2 := takeR_inv hInv (p := yp) (c := sbt (formS kk) i) (by omega) htk2
                      have hsx := pr_o Hs (by omega) (by have h := hqt55_1; omega) hyc hyl htk2
                      rw [htk] at hi2 hsx
                      refine hKL2 _ _ _ (by omega) ⟨(i + 1), (M + 1), ⟨st.N, st.S ++ [strN (readP (bl yp)).1], st.A, st.D⟩, rfl, hf.sub ⟨rfl, rfl, rfl, rfl, (some_int (by first | rfl | omega)), (some_sl (by first | omega | rfl | (simp only [List.length_append, List.length_cons, List.length_nil]; omega) | (simp <;> omega)) rfl), trivial⟩, hb, (Row.relen hra1), hkb1, hUA, ⟨aN, cN, ra4, rc4, aA, cA, aD, cD, hk15, hrN, hr4, hrA, hrD⟩, by omega, by omega, hi2, hsx⟩
                  · have hqt107_1b := hqt107_1
                    replace hqt107_1 := Bool.eq_false_iff.1 hqt107_1
                    try simp only [ne_eq, decide_eq_true_eq, Bool.and_eq_true, Bool.or_eq_true, Bool.not_eq_true', decide_eq_false_iff_not] at hqt107_1
                    refine wp_seq_k (fun K46 hK46 => ?_)
                    refine wp_region_lit ?_
                    refine sqv hf (r_eq rfl rfl) rfl rfl rfl ?_; clear hf fa; intro fa hf
                    refine sqv hf (r_assign rfl) rfl rfl rfl ?_; clear hf fa; intro fa hf
                    apply wpList_nil
                    (try simp only [Exit.then, Exit.inBlock, ↓reduceIte, Nat.reduceEqDiff])
                    refine hK46 _ _ ?_
                    refine wp_cond_split (t := (decide (((sbt (formS kk) i : Nat) : Int) = (100 : Int)))) (hf.ev rfl) (fun hqt124_1 => ?_) (fun hqt124_1 => ?_)
                    · have hqt124_1b := hqt124_1
                      try simp only [decide_eq_true_eq, Bool.and_eq_true, Bool.or_eq_true, Bool.not_eq_true', decide_eq_false_iff_not, ne_eq, Bool.not_eq_true] at hqt124_1
                      obtain ⟨yp, hyp⟩ : ∃ x, ((p :: ps).map strN)[i + 1]? = some x := ⟨_, List.getElem?_eq_getElem (by omega)⟩
                      have hyz : yp.size ≤ 30000 := by have h := pcs_len l yp (by rw [hPL]; exact List.mem_of_getElem? hyp); omega
                      obtain ⟨yl, hyc, hyl⟩ := ps_cons rfl hyp
                      refine wp_region_lit ?_
                      refine sqv hf (r_move rfl) rfl rfl rfl ?_; clear hf fa; intro fa hf
                      refine sqv hf (r_move rfl) rfl rfl rfl ?_; clear hf fa; intro fa hf
                      refine sqv hf (r_add (C := (((i : Nat) : Int) + (1 : Int))) rfl rfl (by rw [IntKind.wrap_i64]; omega)) rfl rfl rfl ?_; clear hf fa; intro fa hf
                      obtain ⟨rb5, rfl, hbbrb5, hlbrb5⟩ := Row.some hra1 (by first | omega | (simp only [Sl.list_length, List.length_set, List.length_take, List.length_append, List.length_replicate, List.length_cons, List.length_nil, List.length_map, nums_len]; omega))
                      have hy5 : (((p :: ps).map strN))[(i + 1)]? = some yp := hyp
                      have hel5 := RdS.at (Row.rd (by intros; rfl) hra1) hy5
                      obtain ⟨_, _, hab, hlr5, hel5⟩ := hel5
                      cases hab
                      refine sqv hf (r_ixa (sz := 1) (j := (i + 1)) rfl rfl Try.underlying32 (by kernel_rfl) rfl (by omega) rfl) rfl rfl rfl ?_; clear hf fa; intro fa hf
                      refine sqv hf (r_load (v := (.string yp)) rfl Try.underlying9 rfl (cellsAt_cell hel5 (i := 0) rfl rfl)) rfl rfl rfl ?_; clear hf fa; intro fa hf
                      refine sqdt hf (d_callX (vs := [(.string yp)]) rfl Try.func30 (by kernel_rfl) (by kernel_rfl) (rreadhex_y yp w9 hyz)) rfl rfl rfl ?_; clear hf fa; rintro fa _ w29 ⟨⟨ra5, rc5, rfl, hr5⟩, he13⟩ hf
                      replace hr5 := Row.rebase (base' := w2.heap.size) hr5 hUA.size
                      replace hkb1 := blk_ext hkb1 he13
                      replace hk2 := blk_ext hk2 he13
                      replace hra1 := Row.ext hra1 he13
                      replace hrN := Row.ext hrN he13
                      replace hrS := Row.ext hrS he13
                      replace hrA := Row.ext hrA he13
                      replace hrD := Row.ext hrD he13
                      replace hUA := hUA.trans (Below.mono he13 hUA.size)
                      replace hb := hb.trans (Below.mono he13 hb.size)
                      refine sqv hf (r_move rfl) rfl rfl rfl ?_; clear hf fa; intro fa hf
                      refine sqv hf (r_extract rfl (i := 0) rfl) rfl rfl rfl ?_; clear hf fa; intro fa hf
                      refine sqv hf (r_extract rfl (i := 1) rfl) rfl rfl rfl ?_; clear hf fa; intro fa hf
                      refine sqv hf (r_fa rfl Try.underlying49 (f := 4) (q := 4) rfl (by kernel_rfl) rfl) rfl rfl rfl ?_; clear hf fa; intro fa hf
                      refine sqn hf (d_storeK (T := 49) (v := (.slice ra5 ((hexR (bl yp)).1.length) rc5)) (cs := #[(.int .i64 kk), (.slice aN st.N.length cN), (.slice aS st.S.length cS), (.slice aA st.A.length cA), (.slice aD st.D.length cD)]) (cs' := #[(.int .i64 kk), (.slice aN st.N.length cN), (.slice aS st.S.length cS), (.slice aA st.A.length cA), (.slice ra5 ((hexR (bl yp)).1.length) rc5)]) rfl rfl (by kernel_rfl) (by kernel_rfl) hk2 (by kernel_rfl) (by kernel_rfl)) rfl rfl ?_; clear hf fa; rintro fa _ w30 ⟨hk17, hg14⟩ hf
                      replace hkb1 := blk_grown hkb1 hg14 (by omega)
                      replace hra1 := Row.grown hra1 hg14 (Row.ne_type hra1 hk2 rfl)
                      replace hrN := Row.grown hrN hg14 (Row.ne_type hrN hk2 rfl)
                      replace hrS := Row.grown hrS hg14 (Row.ne_type hrS hk2 rfl)
                      replace hrA := Row.grown hrA hg14 (Row.ne_type hrA hk2 rfl)
                      replace hrD := Row.grown hrD hg14 (Row.ne_type hrD hk2 rfl)
                      replace hr5 := Row.grown hr5 hg14 (Row.ne_type hr5 hk2 rfl)
                      replace hUA := hUA.trans (grown_below hg14 hUA.size (by omega))
                      replace hb := hb.trans (grown_below hg14 hb.size hBb2)
                      refine sqv hf (r_assign rfl) rfl rfl rfl ?_; clear hf fa; intro fa hf
                      apply wpList_nil
                      (try simp only [Exit.then, Exit.inBlock, ↓reduceIte, Nat.reduceEqDiff])
                      refine hK36 _ _ ?_
                      refine wp_seq_k (fun K47 hK47 => ?_)
                      skip
                      refine wp_region_lit ?_
                      refine sqv hf (r_move rfl) rfl rfl rfl ?_; clear hf fa; intro fa hf
                      refine sqv hf (r_not rfl) rfl rfl rfl ?_; clear hf fa; intro fa hf
                      apply wpList_nil
                      (try simp only [Exit.then, Exit.inBlock, ↓reduceIte, Nat.reduceEqDiff])
                      refine hK47 _ _ ?_
                      refine wp_cond_split (t := (!(hexR (bl yp)).2)) (hf.ev rfl) (fun hqt137_3 => ?_) (fun hqt137_3 => ?_)
                      · have hqt137_3b := hqt137_3
                        try simp only [decide_eq_true_eq, Bool.and_eq_true, Bool.or_eq_true, Bool.not_eq_true', decide_eq_false_iff_not, ne_eq, Bool.not_eq_true] at hqt137_3
                        refine wp_seq_k (fun K48 hK48 => ?_)
                        skip
                        refine wp_region_lit ?_
                        refine sqv hf (r_build (vs := []) (cs := #[(.int .i64 (0 : Int)), (.slice none 0 0), (.slice none 0 0), (.slice none 0 0), (.slice none 0 0)]) rfl (fun _ => by kernel_rfl)) rfl rfl rfl ?_; clear hf fa; intro fa hf
                        refine sqn hf (d_storeK (T := 49) (v := (.agg #[(.int .i64 (0 : Int)), (.slice none 0 0), (.slice none 0 0), (.slice none 0 0), (.slice none 0 0)])) (cs := #[(.int .i64 (0 : Int)), (.slice none 0 0), (.slice none 0 0), (.slice none 0 0), (.slice none 0 0)]) (cs' := #[(.int .i64 (0 : Int)), (.slice none 0 0), (.slice none 0 0), (.slice none 0 0), (.slice none 0 0)]) rfl rfl (by kernel_rfl) (by kernel_rfl) hkb1 (by kernel_rfl) (by kernel_rfl)) rfl rfl ?_; clear hf fa; rintro fa _ w31 ⟨hk18, hg15⟩ hf
                        replace hk17 := blk_grown hk17 hg15 (by omega)
                        replace hra1 := Row.grown hra1 hg15 (Row.ne_type hra1 hkb1 rfl)
                        replace hrN := Row.grown hrN hg15 (Row.ne_type hrN hkb1 rfl)
                        replace hrS := Row.grown hrS hg15 (Row.ne_type hrS hkb1 rfl)
                        replace hrA := Row.grown hrA hg15 (Row.ne_type hrA hkb1 rfl)
                        replace hrD := Row.grown hrD hg15 (Row.ne_type hrD hkb1 rfl)
                        replace hr5 := Row.grown hr5 hg15 (Row.ne_type hr5 hkb1 rfl)
                        replace hb := hb.trans (grown_below hg15 hb.size hBb1)
                        refine sqv hf (r_assign rfl) rfl rfl rfl ?_; clear hf fa; intro fa hf
                        apply wpList_nil
                        (try simp only [Exit.then, Exit.inBlock, ↓reduceIte, Nat.reduceEqDiff])
                        refine hK48 _ _ ?_
                        refine wp_ret ?_
                        (try simp only [Exit.then, Exit.inBlock])
                        refine retCT hf rfl rfl hk18 Try.underlying49 rfl (by kernel_rfl) rfl ?_
                        rw [opR_none hPc hkf hk0 (pr_on Hs (by omega) (by have h := hqt55_1; omega) hyc hyl (by rw [takeR_d (by have h := hqt124_1; omega)]; have h := hqt137_3; simpa using h))]; exact ⟨none, 0, none, 0, none, 0, none, 0, rfl, opF_nil _, hb⟩
                      · have hqt137_3b := hqt137_3
                        replace hqt137_3 := Bool.eq_false_iff.1 hqt137_3
                        try simp only [ne_eq, decide_eq_true_eq, Bool.and_eq_true, Bool.or_eq_true, Bool.not_eq_true', decide_eq_false_iff_not] at hqt137_3
                        refine wp_skip ?_
                        (try simp only [Exit.then, Exit.inBlock, ↓reduceIte, Nat.reduceEqDiff])
                        refine hK19 _ _ ?_
                        refine wp_region_lit ?_
                        refine sqv hf (r_move rfl) rfl rfl rfl ?_; clear hf fa; intro fa hf
                        refine sqv hf (r_add (C := (((i : Nat) : Int) + (1 : Int))) rfl rfl (by rw [IntKind.wrap_i64]; omega)) rfl rfl rfl ?_; clear hf fa; intro fa hf
                        refine sqv hf (r_assign rfl) rfl rfl rfl ?_; clear hf fa; intro fa hf
                        apply wpList_nil
                        (try simp only [Exit.then, Exit.inBlock, ↓reduceIte, Nat.reduceEqDiff])
                        have htk := takeR_d (p := yp) (st := st) (c := sbt (formS kk) i) (by have h := hqt124_1; omega)
                        have htk2 : (takeR (sbt (formS kk) i) yp st).2 = true := by rw [htk]; have h := hqt137_3; simpa using h
                        have hi2 := takeR_inv hInv (p := yp) (c := sbt (formS kk) i) (by omega) htk2
                        have hsx := pr_o Hs (by omega) (by have h := hqt55_1; omega) hyc hyl htk2
                        rw [htk] at hi2 hsx
                        refine hKL2 _ _ _ (by omega) ⟨(i + 1), (M + 1), ⟨st.N, st.S, st.A, (hexR (bl yp)).1⟩, rfl, hf.sub ⟨rfl, rfl, rfl, rfl, (some_int (by first | rfl | omega)), (some_sl (by first | omega | rfl | (simp only [List.length_append, List.length_cons, List.length_nil]; omega) | (simp <;> omega)) rfl), trivial⟩, hb, (Row.relen hra1), hkb1, hUA, ⟨aN, cN, aS, cS, aA, cA, ra5, rc5, hk17, hrN, hrS, hrA, hr5⟩, by omega, by omega, hi2, hsx⟩
                    · have hqt124_1b := hqt124_1
                      replace hqt124_1 := Bool.eq_false_iff.1 hqt124_1
                      try simp only [ne_eq, decide_eq_true_eq, Bool.and_eq_true, Bool.or_eq_true, Bool.not_eq_true', decide_eq_false_iff_not] at hqt124_1
                      refine wp_skip ?_
                      (try simp only [Exit.then, Exit.inBlock, ↓reduceIte, Nat.reduceEqDiff])
                      refine hK36 _ _ ?_
                      refine wp_seq_k (fun K49 hK49 => ?_)
                      obtain ⟨yp, hyp⟩ : ∃ x, ((p :: ps).map strN)[i + 1]? = some x := ⟨_, List.getElem?_eq_getElem (by omega)⟩
                      have hyz : yp.size ≤ 30000 := by have h := pcs_len l yp (by rw [hPL]; exact List.mem_of_getElem? hyp); omega
                      obtain ⟨yl, hyc, hyl⟩ := ps_cons rfl hyp
                      refine wp_region_lit ?_
                      refine sqv hf (r_move rfl) rfl rfl rfl ?_; clear hf fa; intro fa hf
                      refine sqv hf (Runs.veq (v' := (.bool true)) (r_not rfl) rfl) rfl rfl rfl ?_; clear hf fa; intro fa hf
                      apply wpList_nil
                      (try simp only [Exit.then, Exit.inBlock, ↓reduceIte, Nat.reduceEqDiff])
                      refine hK49 _ _ ?_
                      refine wp_cond_true (hf.ev rfl) ?_
                      refine wp_seq_k (fun K50 hK50 => ?_)
                      skip
                      refine wp_region_lit ?_
                      refine sqv hf (r_build (vs := []) (cs := #[(.int .i64 (0 : Int)), (.slice none 0 0), (.slice none 0 0), (.slice none 0 0), (.slice none 0 0)]) rfl (fun _ => by kernel_rfl)) rfl rfl rfl ?_; clear hf fa; intro fa hf
                      refine sqn hf (d_storeK (T := 49) (v := (.agg #[(.int .i64 (0 : Int)), (.slice none 0 0), (.slice none 0 0), (.slice none 0 0), (.slice none 0 0)])) (cs := #[(.int .i64 (0 : Int)), (.slice none 0 0), (.slice none 0 0), (.slice none 0 0), (.slice none 0 0)]) (cs' := #[(.int .i64 (0 : Int)), (.slice none 0 0), (.slice none 0 0), (.slice none 0 0), (.slice none 0 0)]) rfl rfl (by kernel_rfl) (by kernel_rfl) hkb1 (by kernel_rfl) (by kernel_rfl)) rfl rfl ?_; clear hf fa; rintro fa _ w32 ⟨hk19, hg16⟩ hf
                      replace hk2 := blk_grown hk2 hg16 (by omega)
                      replace hra1 := Row.grown hra1 hg16 (Row.ne_type hra1 hkb1 rfl)
                      replace hrN := Row.grown hrN hg16 (Row.ne_type hrN hkb1 rfl)
                      replace hrS := Row.grown hrS hg16 (Row.ne_type hrS hkb1 rfl)
                      replace hrA := Row.grown hrA hg16 (Row.ne_type hrA hkb1 rfl)
                      replace hrD := Row.grown hrD hg16 (Row.ne_type hrD hkb1 rfl)
                      replace hb := hb.trans (grown_below hg16 hb.size hBb1)
                      refine sqv hf (r_assign rfl) rfl rfl rfl ?_; clear hf fa; intro fa hf
                      apply wpList_nil
                      (try simp only [Exit.then, Exit.inBlock, ↓reduceIte, Nat.reduceEqDiff])
                      refine hK50 _ _ ?_
                      refine wp_ret ?_
                      (try simp only [Exit.then, Exit.inBlock])
                      refine retCT hf rfl rfl hk19 Try.underlying49 rfl (by kernel_rfl) rfl ?_
                      rw [opR_none hPc hkf hk0 (pr_on Hs (by omega) (by have h := hqt55_1; omega) hyc hyl (by rw [takeR_o (by have h := hqt90_1; omega) (by have h := hqt107_1; omega) (by have h := hqt124_1; omega)]; simp))]; exact ⟨none, 0, none, 0, none, 0, none, 0, rfl, opF_nil _, hb⟩
          · have hqt49_1b := hqt49_1
            replace hqt49_1 := Bool.eq_false_iff.1 hqt49_1
            try simp only [ne_eq, decide_eq_true_eq, Bool.and_eq_true, Bool.or_eq_true, Bool.not_eq_true', decide_eq_false_iff_not] at hqt49_1
            refine wp_exit ?_
            (try simp only [Exit.then, Exit.inBlock, ↓reduceIte, Nat.reduceEqDiff])
            refine hK15 _ _ ?_
            refine wp_seq_k (fun K51 hK51 => ?_)
            refine wp_seq_k (fun K52 hK52 => ?_)
            have hX : parseR (bl (formS kk)) ps st0 = some st := pr_end Hs (by omega)
            have hBf : OpB st := hInv.toB (by omega)
            by_cases hsp1 : rightP kk st = true
            · have hsp1b : decide (rightP kk st = true) = true := decide_eq_true hsp1
              skip
              refine wp_region_lit ?_
              refine sqv hf (r_loadA (cs := [(.int .i64 kk), (.slice aN st.N.length cN), (.slice aS st.S.length cS), (.slice aA st.A.length cA), (.slice aD st.D.length cD)]) rfl Try.underlying49 rfl (by kernel_rfl) (cellsAt_blk hk2)) rfl rfl rfl ?_; clear hf fa; intro fa hf
              refine sqdt hf (d_callB (v := (.bool true)) (vs := [(.agg #[(.int .i64 kk), (.slice aN st.N.length cN), (.slice aS st.S.length cS), (.slice aA st.A.length cA), (.slice aD st.D.length cD)])]) rfl Try.func15 (by kernel_rfl) (by kernel_rfl) (by have h := rright_any kk st aN aS aA aD cN cS cA cD w9 ⟨Row.rd (by intros; rfl) hrN, Row.rd (by intros; rfl) hrS, Row.rd (by intros; rfl) hrA, Row.rd (by intros; rfl) hrD⟩ hBf; rw [hsp1] at h; exact h)) rfl rfl rfl ?_; clear hf fa; rintro fa _ w33 ⟨rfl, he14⟩ hf
              replace hkb1 := blk_ext hkb1 he14
              replace hk2 := blk_ext hk2 he14
              replace hra1 := Row.ext hra1 he14
              replace hrN := Row.ext hrN he14
              replace hrS := Row.ext hrS he14
              replace hrA := Row.ext hrA he14
              replace hrD := Row.ext hrD he14
              replace hb := hb.trans (Below.mono he14 hb.size)
              refine sqv hf (Runs.veq (v' := (.bool false)) (r_not rfl) rfl) rfl rfl rfl ?_; clear hf fa; intro fa hf
              refine sqv hf (r_move rfl) rfl rfl rfl ?_; clear hf fa; intro fa hf
              refine sqgd (act := true) (g := 3) (want := false) (ag := true) (c := false) hf (by rfl) (by rfl) rfl (fun _ =>  Runs.does (R := fun vq wq => vq = (.agg #[(.int .i64 kk), (.slice aN st.N.length cN), (.slice aS st.S.length cS), (.slice aA st.A.length cA), (.slice aD st.D.length cD)]) ∧ w33 = wq) (r_loadA (cs := [(.int .i64 kk), (.slice aN st.N.length cN), (.slice aS st.S.length cS), (.slice aA st.A.length cA), (.slice aD st.D.length cD)]) rfl Try.underlying49 rfl (by kernel_rfl) (cellsAt_blk hk2)) ⟨rfl, rfl⟩) (fun h => by cases h) rfl ?_; clear hf fa; rintro fa _ _ ⟨rfl, rfl⟩ hf
              change Fr _ _ ((143, (.agg #[(.int .i64 kk), (.slice aN st.N.length cN), (.slice aS st.S.length cS), (.slice aA st.A.length cA), (.slice aD st.D.length cD)])) :: _) at hf
              refine sqgd (act := true) (g := 3) (want := false) (ag := true) (c := false) hf (by rfl) (by rfl) rfl (fun _ =>  (d_callB (v := (.string (lineS kk st))) (vs := [(.agg #[(.int .i64 kk), (.slice aN st.N.length cN), (.slice aS st.S.length cS), (.slice aA st.A.length cA), (.slice aD st.D.length cD)])]) rfl Try.func22 (by kernel_rfl) (by kernel_rfl) (by have h := rline_any kk st aN aS aA aD cN cS cA cD w33 ⟨Row.rd (by intros; rfl) hrN, Row.rd (by intros; rfl) hrS, Row.rd (by intros; rfl) hrA, Row.rd (by intros; rfl) hrD⟩ hBf hsp1; exact h)) ) (fun h => by cases h) rfl ?_; clear hf fa; rintro fa _ w34 ⟨rfl, he15⟩ hf
              replace hkb1 := blk_ext hkb1 he15
              replace hk2 := blk_ext hk2 he15
              replace hra1 := Row.ext hra1 he15
              replace hrN := Row.ext hrN he15
              replace hrS := Row.ext hrS he15
              replace hrA := Row.ext hrA he15
              replace hrD := Row.ext hrD he15
              replace hb := hb.trans (Below.mono he15 hb.size)
              change Fr _ _ ((144, (.string (lineS kk st))) :: _) at hf
              refine sqgd (act := true) (g := 3) (want := false) (ag := true) (c := false) hf (by rfl) (by rfl) rfl (fun _ =>  Runs.does (R := fun vq wq => vq = (.string l) ∧ w34 = wq) (r_move rfl) ⟨rfl, rfl⟩) (fun h => by cases h) rfl ?_; clear hf fa; rintro fa _ _ ⟨rfl, rfl⟩ hf
              change Fr _ _ ((145, (.string l)) :: _) at hf
              refine sqgd (act := true) (g := 3) (want := false) (ag := true) (c := false) hf (by rfl) (by rfl) rfl (fun _ =>  Runs.does (R := fun vq wq => vq = (.bool (decide ((lineS kk st) ≠ l))) ∧ w34 = wq) (r_sne rfl rfl) ⟨rfl, rfl⟩) (fun h => by cases h) rfl ?_; clear hf fa; rintro fa _ _ ⟨rfl, rfl⟩ hf
              change Fr _ _ ((146, (.bool (decide ((lineS kk st) ≠ l)))) :: _) at hf
              refine sqv hf (r_pick (b := false) rfl rfl rfl rfl) rfl rfl rfl ?_; clear hf fa; intro fa hf
              apply wpList_nil
              (try simp only [Exit.then, Exit.inBlock, ↓reduceIte, Nat.reduceEqDiff])
              refine hK52 _ _ ?_
              refine wp_cond_split (t := (decide ((lineS kk st) ≠ l))) (hf.ev rfl) (fun hqt147_1 => ?_) (fun hqt147_1 => ?_)
              · have hqt147_1b := hqt147_1
                try simp only [decide_eq_true_eq, Bool.and_eq_true, Bool.or_eq_true, Bool.not_eq_true', decide_eq_false_iff_not, ne_eq, Bool.not_eq_true] at hqt147_1
                refine wp_seq_k (fun K53 hK53 => ?_)
                skip
                refine wp_region_lit ?_
                refine sqv hf (r_build (vs := []) (cs := #[(.int .i64 (0 : Int)), (.slice none 0 0), (.slice none 0 0), (.slice none 0 0), (.slice none 0 0)]) rfl (fun _ => by kernel_rfl)) rfl rfl rfl ?_; clear hf fa; intro fa hf
                refine sqn hf (d_storeK (T := 49) (v := (.agg #[(.int .i64 (0 : Int)), (.slice none 0 0), (.slice none 0 0), (.slice none 0 0), (.slice none 0 0)])) (cs := #[(.int .i64 (0 : Int)), (.slice none 0 0), (.slice none 0 0), (.slice none 0 0), (.slice none 0 0)]) (cs' := #[(.int .i64 (0 : Int)), (.slice none 0 0), (.slice none 0 0), (.slice none 0 0), (.slice none 0 0)]) rfl rfl (by kernel_rfl) (by kernel_rfl) hkb1 (by kernel_rfl) (by kernel_rfl)) rfl rfl ?_; clear hf fa; rintro fa _ w35 ⟨hk20, hg17⟩ hf
                replace hk2 := blk_grown hk2 hg17 (by omega)
                replace hra1 := Row.grown hra1 hg17 (Row.ne_type hra1 hkb1 rfl)
                replace hrN := Row.grown hrN hg17 (Row.ne_type hrN hkb1 rfl)
                replace hrS := Row.grown hrS hg17 (Row.ne_type hrS hkb1 rfl)
                replace hrA := Row.grown hrA hg17 (Row.ne_type hrA hkb1 rfl)
                replace hrD := Row.grown hrD hg17 (Row.ne_type hrD hkb1 rfl)
                replace hb := hb.trans (grown_below hg17 hb.size hBb1)
                refine sqv hf (r_assign rfl) rfl rfl rfl ?_; clear hf fa; intro fa hf
                apply wpList_nil
                (try simp only [Exit.then, Exit.inBlock, ↓reduceIte, Nat.reduceEqDiff])
                refine hK53 _ _ ?_
                refine wp_ret ?_
                (try simp only [Exit.then, Exit.inBlock])
                refine retCT hf rfl rfl hk20 Try.underlying49 rfl (by kernel_rfl) rfl ?_
                rw [opR_some hPc hkf hk0 hX, if_neg (fun h => hqt147_1 h.2)]; exact ⟨none, 0, none, 0, none, 0, none, 0, rfl, opF_nil _, hb⟩
              · have hqt147_1b := hqt147_1
                replace hqt147_1 := Bool.eq_false_iff.1 hqt147_1
                try simp only [ne_eq, decide_eq_true_eq, Bool.and_eq_true, Bool.or_eq_true, Bool.not_eq_true', decide_eq_false_iff_not] at hqt147_1
                refine wp_skip ?_
                (try simp only [Exit.then, Exit.inBlock, ↓reduceIte, Nat.reduceEqDiff])
                refine hK51 _ _ ?_
                refine wp_seq_k (fun K54 hK54 => ?_)
                refine wp_region_lit ?_
                refine sqv hf (r_loadA (cs := [(.int .i64 kk), (.slice aN st.N.length cN), (.slice aS st.S.length cS), (.slice aA st.A.length cA), (.slice aD st.D.length cD)]) rfl Try.underlying49 rfl (by kernel_rfl) (cellsAt_blk hk2)) rfl rfl rfl ?_; clear hf fa; intro fa hf
                refine sqn hf (d_storeK (T := 49) (v := (.agg #[(.int .i64 kk), (.slice aN st.N.length cN), (.slice aS st.S.length cS), (.slice aA st.A.length cA), (.slice aD st.D.length cD)])) (cs := #[(.int .i64 (0 : Int)), (.slice none 0 0), (.slice none 0 0), (.slice none 0 0), (.slice none 0 0)]) (cs' := #[(.int .i64 kk), (.slice aN st.N.length cN), (.slice aS st.S.length cS), (.slice aA st.A.length cA), (.slice aD st.D.length cD)]) rfl rfl (by kernel_rfl) (by kernel_rfl) hkb1 (by kernel_rfl) (by kernel_rfl)) rfl rfl ?_; clear hf fa; rintro fa _ w36 ⟨hk21, hg18⟩ hf
                replace hk2 := blk_grown hk2 hg18 (by omega)
                replace hra1 := Row.grown hra1 hg18 (Row.ne_type hra1 hkb1 rfl)
                replace hrN := Row.grown hrN hg18 (Row.ne_type hrN hkb1 rfl)
                replace hrS := Row.grown hrS hg18 (Row.ne_type hrS hkb1 rfl)
                replace hrA := Row.grown hrA hg18 (Row.ne_type hrA hkb1 rfl)
                replace hrD := Row.grown hrD hg18 (Row.ne_type hrD hkb1 rfl)
                replace hb := hb.trans (grown_below hg18 hb.size hBb1)
                refine sqv hf (r_assign rfl) rfl rfl rfl ?_; clear hf fa; intro fa hf
                apply wpList_nil
                (try simp only [Exit.then, Exit.inBlock, ↓reduceIte, Nat.reduceEqDiff])
                refine hK54 _ _ ?_
                refine wp_ret ?_
                (try simp only [Exit.then, Exit.inBlock])
                refine retCT hf rfl rfl hk21 Try.underlying49 rfl (by kernel_rfl) rfl ?_
                rw [opR_some hPc hkf hk0 hX, if_pos ⟨hsp1, Classical.byContradiction hqt147_1⟩]; exact ⟨aN, cN, aS, cS, aA, cA, aD, cD, rfl, ⟨Row.rd (by intros; rfl) hrN, Row.rd (by intros; rfl) hrS, Row.rd (by intros; rfl) hrA, Row.rd (by intros; rfl) hrD⟩, hb⟩
            · have hsp1b : decide (rightP kk st = true) = false := decide_eq_false hsp1
              skip
              refine wp_region_lit ?_
              refine sqv hf (r_loadA (cs := [(.int .i64 kk), (.slice aN st.N.length cN), (.slice aS st.S.length cS), (.slice aA st.A.length cA), (.slice aD st.D.length cD)]) rfl Try.underlying49 rfl (by kernel_rfl) (cellsAt_blk hk2)) rfl rfl rfl ?_; clear hf fa; intro fa hf
              refine sqdt hf (d_callB (v := (.bool false)) (vs := [(.agg #[(.int .i64 kk), (.slice aN st.N.length cN), (.slice aS st.S.length cS), (.slice aA st.A.length cA), (.slice aD st.D.length cD)])]) rfl Try.func15 (by kernel_rfl) (by kernel_rfl) (by have h := rright_any kk st aN aS aA aD cN cS cA cD w9 ⟨Row.rd (by intros; rfl) hrN, Row.rd (by intros; rfl) hrS, Row.rd (by intros; rfl) hrA, Row.rd (by intros; rfl) hrD⟩ hBf; rw [Bool.eq_false_iff.2 hsp1] at h; exact h)) rfl rfl rfl ?_; clear hf fa; rintro fa _ w37 ⟨rfl, he16⟩ hf
              replace hkb1 := blk_ext hkb1 he16
              replace hk2 := blk_ext hk2 he16
              replace hra1 := Row.ext hra1 he16
              replace hrN := Row.ext hrN he16
              replace hrS := Row.ext hrS he16
              replace hrA := Row.ext hrA he16
              replace hrD := Row.ext hrD he16
              replace hb := hb.trans (Below.mono he16 hb.size)
              refine sqv hf (Runs.veq (v' := (.bool true)) (r_not rfl) rfl) rfl rfl rfl ?_; clear hf fa; intro fa hf
              refine sqv hf (r_move rfl) rfl rfl rfl ?_; clear hf fa; intro fa hf
              refine sqgF (act := false) (ag := true) (c := true) (v := .bool false) hf rfl rfl rfl (fun hact => by cases hact) rfl rfl ?_; clear hf fa; intro fa hf
              refine sqgF (act := false) (ag := true) (c := true) (v := .bool false) hf rfl rfl rfl (fun hact => by cases hact) rfl rfl ?_; clear hf fa; intro fa hf
              refine sqgF (act := false) (ag := true) (c := true) (v := .bool false) hf rfl rfl rfl (fun hact => by cases hact) rfl rfl ?_; clear hf fa; intro fa hf
              refine sqgF (act := false) (ag := true) (c := true) (v := .bool false) hf rfl rfl rfl (fun hact => by cases hact) rfl rfl ?_; clear hf fa; intro fa hf
              refine sqv hf (r_pick (b := true) rfl rfl rfl rfl) rfl rfl rfl ?_; clear hf fa; intro fa hf
              apply wpList_nil
              (try simp only [Exit.then, Exit.inBlock, ↓reduceIte, Nat.reduceEqDiff])
              refine hK52 _ _ ?_
              refine wp_cond_true (hf.ev rfl) ?_
              refine wp_seq_k (fun K55 hK55 => ?_)
              skip
              refine wp_region_lit ?_
              refine sqv hf (r_build (vs := []) (cs := #[(.int .i64 (0 : Int)), (.slice none 0 0), (.slice none 0 0), (.slice none 0 0), (.slice none 0 0)]) rfl (fun _ => by kernel_rfl)) rfl rfl rfl ?_; clear hf fa; intro fa hf
              refine sqn hf (d_storeK (T := 49) (v := (.agg #[(.int .i64 (0 : Int)), (.slice none 0 0), (.slice none 0 0), (.slice none 0 0), (.slice none 0 0)])) (cs := #[(.int .i64 (0 : Int)), (.slice none 0 0), (.slice none 0 0), (.slice none 0 0), (.slice none 0 0)]) (cs' := #[(.int .i64 (0 : Int)), (.slice none 0 0), (.slice none 0 0), (.slice none 0 0), (.slice none 0 0)]) rfl rfl (by kernel_rfl) (by kernel_rfl) hkb1 (by kernel_rfl) (by kernel_rfl)) rfl rfl ?_; clear hf fa; rintro fa _ w38 ⟨hk22, hg19⟩ hf
              replace hk2 := blk_grown hk2 hg19 (by omega)
              replace hra1 := Row.grown hra1 hg19 (Row.ne_type hra1 hkb1 rfl)
              replace hrN := Row.grown hrN hg19 (Row.ne_type hrN hkb1 rfl)
              replace hrS := Row.grown hrS hg19 (Row.ne_type hrS hkb1 rfl)
              replace hrA := Row.grown hrA hg19 (Row.ne_type hrA hkb1 rfl)
              replace hrD := Row.grown hrD hg19 (Row.ne_type hrD hkb1 rfl)
              replace hb := hb.trans (grown_below hg19 hb.size hBb1)
              refine sqv hf (r_assign rfl) rfl rfl rfl ?_; clear hf fa; intro fa hf
              apply wpList_nil
              (try simp only [Exit.then, Exit.inBlock, ↓reduceIte, Nat.reduceEqDiff])
              refine hK55 _ _ ?_
              refine wp_ret ?_
              (try simp only [Exit.then, Exit.inBlock])
              refine retCT hf rfl rfl hk22 Try.underlying49 rfl (by kernel_rfl) rfl ?_
              rw [opR_some hPc hkf hk0 hX, if_neg (fun h => hsp1 h.1)]; exact ⟨none, 0, none, 0, none, 0, none, 0, rfl, opF_nil _, hb⟩
end Go.Proofs.Ytpalmpfkliepfaa

namespace Go.Proofs.Ytpalmpfkliepfaa
open Go.RowKit
set_option linter.unusedVariables false
set_option linter.unusedSimpArgs false
theorem r_rdstr {P : Program} {L : List (Nat × Value)} {w : World} {d : Option Tmp} {ty : TypeId} {ps : String} {af : Array Edge} {g : Option (Nat × Bool)} {src dst e c : Nat} {x : Operand} {a : Option Addr} {l : List Int}
    (hx : evO L x = some (.slice a l.length c)) (hs : P.underlying src = some (.slice e)) (he : P.underlying e = some (.int .u8)) (hd : P.underlying dst = some .string) (hr : RdS 1 (vInt .u8) w a l) :
    Runs P L ⟨d, .convert src dst x, ty, ps, af, g⟩ w (.string (strOfNums l)) w := by
  have key : (convert src dst (.slice a l.length c)).run P w = .ok (.string (strOfNums l)) w := by
    cases l with
    | nil =>
      cases a with
      | none => exact run_convert_bytes_nil w src e hs he _ c dst hd
      | some p =>
        have hl : (loadCells p 0).run P w = .ok (([] : List Int).map (Value.int .u8)).toArray w := run_loadCells_list (P := P) w p [] (by simp)
        rw [run_convert_bytes_string w src dst e _ _ c hs he hd]
        exact run_bytesToString w p 0 c [] hl
    | cons y l =>
      obtain ⟨b, off, ha, hlt, hc⟩ := hr 0 y rfl
      subst ha
      refine run_convert_bytes_arg w src e hs he b off _ c (y :: l) rfl (fun i hi => ?_) dst hd
      obtain ⟨b2, off2, ha2, _, hc2⟩ := hr i _ (List.getElem?_eq_getElem hi)
      cases ha2
      have h0 := hc2 0 _ rfl
      rw [Nat.mul_one, Nat.add_zero] at h0
      rw [h0, List.getD_eq_getElem?_getD, List.getElem?_eq_getElem hi]
      rfl
  intro ρ hρ
  simp only [execOp, hρ x _ hx]
  simp [key]
theorem r_rdstr2 {P : Program} {L : List (Nat × Value)} {w : World} {d : Option Tmp} {ty : TypeId} {ps : String} {af : Array Edge} {g : Option (Nat × Bool)} {src dst e c n : Nat} {x : Operand} {a : Option Addr} {l : List Int}
    (hx : evO L x = some (.slice a n c)) (hn : n = l.length) (hs : P.underlying src = some (.slice e)) (he : P.underlying e = some (.int .u8)) (hd : P.underlying dst = some .string) (hr : RdS 1 (vInt .u8) w a l) :
    Runs P L ⟨d, .convert src dst x, ty, ps, af, g⟩ w (.string (strOfNums l)) w := by subst hn; exact r_rdstr hx hs he hd hr
end Go.Proofs.Ytpalmpfkliepfaa

namespace Go.Proofs.Ytpalmpfkliepfaa
open Go.RowKit Ut
set_option linter.unusedVariables false
set_option linter.unusedSimpArgs false
def stX : PSt := ⟨[3], [⟨#[102]⟩], [(127, 4294967295, ()), (126, 7, ())], []⟩
theorem stX_B : OpB stX := ⟨by intro x hx; simp only [stX, List.mem_singleton] at hx; subst hx; unfold inI; omega, by decide, by intro x hx; simp only [stX, List.mem_cons, List.not_mem_nil, or_false] at hx; rcases hx with rfl | rfl <;> exact ⟨by decide, by decide⟩, by decide, by decide, by decide, by decide, by decide⟩
theorem dg3 : digB 3 = [51] := by unfold digB; rw [if_neg (by decide), show (3 : Int).natAbs = 3 from rfl, natB_lt (by decide)]
theorem dg7 : digB 7 = [55] := by unfold digB; rw [if_neg (by decide), show (7 : Int).natAbs = 7 from rfl, natB_lt (by decide)]
theorem dgm : digB (-1) = [45, 49] := by unfold digB; rw [if_pos (by decide), show (-1 : Int).natAbs = 1 from rfl, natB_lt (by decide)]
theorem stX_line : lineS 5 stX = ⟨#[99, 97, 108, 108, 32, 51, 32, 34, 102, 34, 32, 105, 51, 50, 58, 45, 49, 32, 105, 54, 52, 58, 55]⟩ := by
  have h1 : bl (valS (127, 4294967295, ())) = [105, 51, 50, 58, 45, 49] := by rw [valS_bl (.inl rfl), show numV (127, 4294967295, ()) = -1 by decide, dgm]; rfl
  have h2 : bl (valS (126, 7, ())) = [105, 54, 52, 58, 55] := by rw [valS_bl (.inr rfl), show numV (126, 7, ()) = 7 by decide, dg7]; rfl
  have h3 : argsP (bl (formS 5)) stX.N stX.S stX.A stX.D = [digB 3, showL (bl ⟨#[102]⟩), bl (valS (127, 4294967295, ())), bl (valS (126, 7, ()))] := by
    rw [show bl (formS 5) = [110, 115, 97] from by decide]
    simp [argsP, stX]
  unfold lineS lineL
  rw [h3, h1, h2, dg3, show bl (wordS 5) = [99, 97, 108, 108] from by decide, show showL (bl ⟨#[102]⟩) = [34, 102, 34] from by decide]
  rfl
theorem stX_right : rightP 5 stX = true := by decide +kernel
theorem stX_op : opP ⟨#[99, 97, 108, 108, 32, 51, 32, 34, 102, 34, 32, 105, 51, 50, 58, 45, 49, 32, 105, 54, 52, 58, 55]⟩ = some (5, stX) := by rw [← stX_line]; exact opP_line stX_B stX_right
theorem parse_y (l : ByteArray) (w : World) (hl : l.size ≤ 20000) : Calls Try.prog 21 #[.string l] w fun e w' => ∃ v, e = .returned v ∧ ((∃ (aN : Option Addr) (cN : Nat) (aS : Option Addr) (cS : Nat) (aA : Option Addr) (cA : Nat) (aD : Option Addr) (cD : Nat), v = .tuple #[(.agg #[(.int .i64 ((opK (opP l)))), (.slice aN ((opS (opP l)).N.length) cN), (.slice aS ((opS (opP l)).S.length) cS), (.slice aA ((opS (opP l)).A.length) cA), (.slice aD ((opS (opP l)).D.length) cD)]), .int .i64 (if (opP l).isSome = true then 0 else 49)] ∧ OpF w' (opS (opP l)) aN aS aA aD) ∧ Below w.heap.size w w') := by
  refine (parse_any l w hl).mono ?_
  rintro e w' ⟨aN, cN, aS, cS, aA, cA, aD, cD, rfl, h1, h2⟩
  exact ⟨_, rfl, ⟨aN, cN, aS, cS, aA, cA, aD, cD, rfl, h1⟩, h2⟩
theorem rparse_y (l : ByteArray) (w : World) (hl : l.size ≤ 20000) : Calls Try.prog 24 #[.string l] w fun e w' => ∃ v, e = .returned v ∧ ((∃ (aN : Option Addr) (cN : Nat) (aS : Option Addr) (cS : Nat) (aA : Option Addr) (cA : Nat) (aD : Option Addr) (cD : Nat), v = .tuple #[(.agg #[(.int .i64 ((opK (opP l)))), (.slice aN ((opS (opP l)).N.length) cN), (.slice aS ((opS (opP l)).S.length) cS), (.slice aA ((opS (opP l)).A.length) cA), (.slice aD ((opS (opP l)).D.length) cD)]), .bool (opP l).isSome] ∧ OpF w' (opS (opP l)) aN aS aA aD) ∧ Below w.heap.size w w') := by
  refine (rparse_any l w hl).mono ?_
  rw [op_eq]
  rintro e w' ⟨aN, cN, aS, cS, aA, cA, aD, cD, rfl, h1, h2⟩
  exact ⟨_, rfl, ⟨aN, cN, aS, cS, aA, cA, aD, cD, rfl, h1⟩, h2⟩

theorem parse_lit (w : World) : Calls Try.prog 21 #[.string ⟨#[99, 97, 108, 108, 32, 51, 32, 34, 102, 34, 32, 105, 51, 50, 58, 45, 49, 32, 105, 54, 52, 58, 55]⟩] w fun e w' => ∃ v, e = .returned v ∧ ((∃ (aN : Option Addr) (cN : Nat) (aS : Option Addr) (cS : Nat) (aA : Option Addr) (cA : Nat) (aD : Option Addr) (cD : Nat), v = .tuple #[(.agg #[(.int .i64 5), (.slice aN stX.N.length cN), (.slice aS stX.S.length cS), (.slice aA stX.A.length cA), (.slice aD stX.D.length cD)]), .int .i64 0] ∧ OpF w' stX aN aS aA aD) ∧ Below w.heap.size w w') := by
  have h := parse_y ⟨#[99, 97, 108, 108, 32, 51, 32, 34, 102, 34, 32, 105, 51, 50, 58, 45, 49, 32, 105, 54, 52, 58, 55]⟩ w (by decide)
  rw [stX_op] at h
  exact h

set_option maxHeartbeats 1000000 in
set_option maxRecDepth 100000 in
theorem awake44_any (w : World) : Calls Try.prog 12 #[] w fun e w' => e = .returned (.bool true) ∧ Below w.heap.size w w' := by
  refine sx_enter (L := []) Try.func12 rfl rfl rfl rfl (fun fa hf => ?_)
  have hb : Below w.heap.size w w := Below.refl _ _
  refine wp_seq_k (fun K1 hK1 => ?_)
  refine wp_region_lit ?_
  refine sqv hf (r_assign rfl) rfl rfl rfl ?_; clear hf fa; intro fa hf
  apply wpList_nil
  (try simp only [Exit.then, Exit.inBlock, ↓reduceIte, Nat.reduceEqDiff])
  refine hK1 _ _ ?_
  refine wp_seq_k (fun K2 hK2 => ?_)
  refine wp_region_lit ?_
  refine sqdt hf (d_callX (vs := [(.string ⟨#[99, 97, 108, 108, 32, 51, 32, 34, 102, 34, 32, 105, 51, 50, 58, 45, 49, 32, 105, 54, 52, 58, 55]⟩)]) rfl Try.func21 (by kernel_rfl) (by kernel_rfl) (parse_lit w)) rfl rfl rfl ?_; clear hf fa; rintro fa _ w1 ⟨⟨aN, cN, aS, cS, aA, cA, aD, cD, rfl, hF⟩, he1⟩ hf
  replace hb := hb.trans (Below.mono he1 hb.size)
  have hbF : Below w1.heap.size w1 w1 := Below.refl _ _
  refine sqv hf (r_move rfl) rfl rfl rfl ?_; clear hf fa; intro fa hf
  refine sqv hf (r_extract rfl (i := 0) rfl) rfl rfl rfl ?_; clear hf fa; intro fa hf
  refine sqv hf (r_extract rfl (i := 1) rfl) rfl rfl rfl ?_; clear hf fa; intro fa hf
  refine sqdt hf (d_alloc (z := (.agg #[(.int .i64 (0 : Int)), (.slice none 0 0), (.slice none 0 0), (.slice none 0 0), (.slice none 0 0)])) (cs := #[(.int .i64 (0 : Int)), (.slice none 0 0), (.slice none 0 0), (.slice none 0 0), (.slice none 0 0)]) (by kernel_rfl) rfl) rfl rfl rfl ?_; clear hf fa; rintro fa _ w2 ⟨b1, rfl, hle1, hk1, he2⟩ hf
  have hBb1 : w.heap.size ≤ b1 := Nat.le_trans hb.size hle1
  have hUhbFb1 := Nat.le_trans hbF.size hle1
  replace hbF := hbF.trans (Below.mono he2 hbF.size)
  replace hb := hb.trans (Below.mono he2 hb.size)
  refine sqn hf (d_storeK (T := 45) (v := (.agg #[(.int .i64 (5 : Int)), (.slice aN 1 cN), (.slice aS 1 cS), (.slice aA 2 cA), (.slice aD 0 cD)])) (cs := #[(.int .i64 (0 : Int)), (.slice none 0 0), (.slice none 0 0), (.slice none 0 0), (.slice none 0 0)]) (cs' := #[(.int .i64 (5 : Int)), (.slice aN 1 cN), (.slice aS 1 cS), (.slice aA 2 cA), (.slice aD 0 cD)]) rfl rfl (by kernel_rfl) (by kernel_rfl) hk1 (by kernel_rfl) (by kernel_rfl)) rfl rfl ?_; clear hf fa; rintro fa _ w3 ⟨hk2, hg1⟩ hf
  replace hbF := hbF.trans (grown_below hg1 hbF.size (by omega))
  replace hb := hb.trans (grown_below hg1 hb.size hBb1)
  refine sqv hf (r_assign rfl) rfl rfl rfl ?_; clear hf fa; intro fa hf
  apply wpList_nil
  (try simp only [Exit.then, Exit.inBlock, ↓reduceIte, Nat.reduceEqDiff])
  refine hK2 _ _ ?_
  refine wp_seq_k (fun K3 hK3 => ?_)
  obtain ⟨ab, aoff, rfl, hlA, helA⟩ := RdS.at (hF.ext hbF).2.2.1 (show stX.A[0]? = some ((127, 4294967295, ()) : MVal) from rfl)
  skip
  refine wp_region_lit ?_
  refine sqv hf (r_move rfl) rfl rfl rfl ?_; clear hf fa; intro fa hf
  refine sqv hf (Runs.veq (r_eq rfl rfl) (congrArg Value.bool (show _ = true from by decide))) rfl rfl rfl ?_; clear hf fa; intro fa hf
  refine sqv hf (r_move rfl) rfl rfl rfl ?_; clear hf fa; intro fa hf
  refine sqgd (act := true) (g := 2) (want := true) (ag := true) (c := true) hf (by rfl) (by rfl) rfl (fun _ =>  Runs.does (R := fun vq wq => vq = (.pointer (some ⟨b1, 0, none⟩)) ∧ w3 = wq) (r_fa rfl Try.underlying45 (f := 0) (q := 0) rfl (by kernel_rfl) rfl) ⟨rfl, rfl⟩) (fun h => by cases h) rfl ?_; clear hf fa; rintro fa _ _ ⟨rfl, rfl⟩ hf
  change Fr _ _ ((10, (.pointer (some ⟨b1, 0, none⟩))) :: _) at hf
  refine sqgd (act := true) (g := 2) (want := true) (ag := true) (c := true) hf (by rfl) (by rfl) rfl (fun _ =>  Runs.does (R := fun vq wq => vq = (.int .i64 (5 : Int)) ∧ w3 = wq) (r_load (v := (.int .i64 (5 : Int))) rfl Try.underlying3 rfl (cell_blk hk2 rfl)) ⟨rfl, rfl⟩) (fun h => by cases h) rfl ?_; clear hf fa; rintro fa _ _ ⟨rfl, rfl⟩ hf
  change Fr _ _ ((11, (.int .i64 (5 : Int))) :: _) at hf
  refine sqgd (act := true) (g := 2) (want := true) (ag := true) (c := true) hf (by rfl) (by rfl) rfl (fun _ =>  Runs.does (R := fun vq wq => vq = (.bool true) ∧ w3 = wq) (Runs.veq (r_eq rfl rfl) (congrArg Value.bool (show _ = true from by decide))) ⟨rfl, rfl⟩) (fun h => by cases h) rfl ?_; clear hf fa; rintro fa _ _ ⟨rfl, rfl⟩ hf
  change Fr _ _ ((12, (.bool true)) :: _) at hf
  refine sqv hf (r_pick (b := true) rfl rfl rfl rfl) rfl rfl rfl ?_; clear hf fa; intro fa hf
  refine sqv hf (r_move rfl) rfl rfl rfl ?_; clear hf fa; intro fa hf
  refine sqgd (act := true) (g := 7) (want := true) (ag := true) (c := true) hf (by rfl) (by rfl) rfl (fun _ =>  Runs.does (R := fun vq wq => vq = (.pointer (some ⟨b1, 1, none⟩)) ∧ w3 = wq) (r_fa rfl Try.underlying45 (f := 1) (q := 1) rfl (by kernel_rfl) rfl) ⟨rfl, rfl⟩) (fun h => by cases h) rfl ?_; clear hf fa; rintro fa _ _ ⟨rfl, rfl⟩ hf
  change Fr _ _ ((15, (.pointer (some ⟨b1, 1, none⟩))) :: _) at hf
  refine sqgd (act := true) (g := 7) (want := true) (ag := true) (c := true) hf (by rfl) (by rfl) rfl (fun _ =>  Runs.does (R := fun vq wq => vq = (.slice aN 1 cN) ∧ w3 = wq) (r_load (v := (.slice aN 1 cN)) rfl Try.underlying41 rfl (cell_blk hk2 rfl)) ⟨rfl, rfl⟩) (fun h => by cases h) rfl ?_; clear hf fa; rintro fa _ _ ⟨rfl, rfl⟩ hf
  change Fr _ _ ((16, (.slice aN 1 cN)) :: _) at hf
  refine sqgd (act := true) (g := 7) (want := true) (ag := true) (c := true) hf (by rfl) (by rfl) rfl (fun _ =>  Runs.does (R := fun vq wq => vq = (.int .i64 (1 : Int)) ∧ w3 = wq) (r_lensl rfl Try.underlying41) ⟨rfl, rfl⟩) (fun h => by cases h) rfl ?_; clear hf fa; rintro fa _ _ ⟨rfl, rfl⟩ hf
  change Fr _ _ ((17, (.int .i64 (1 : Int))) :: _) at hf
  refine sqgd (act := true) (g := 7) (want := true) (ag := true) (c := true) hf (by rfl) (by rfl) rfl (fun _ =>  Runs.does (R := fun vq wq => vq = (.bool true) ∧ w3 = wq) (Runs.veq (r_eq rfl rfl) (congrArg Value.bool (show _ = true from by decide))) ⟨rfl, rfl⟩) (fun h => by cases h) rfl ?_; clear hf fa; rintro fa _ _ ⟨rfl, rfl⟩ hf
  change Fr _ _ ((18, (.bool true)) :: _) at hf
  refine sqv hf (r_pick (b := true) rfl rfl rfl rfl) rfl rfl rfl ?_; clear hf fa; intro fa hf
  refine sqv hf (r_move rfl) rfl rfl rfl ?_; clear hf fa; intro fa hf
  refine sqgd (act := true) (g := 13) (want := true) (ag := true) (c := true) hf (by rfl) (by rfl) rfl (fun _ =>  Runs.does (R := fun vq wq => vq = (.pointer (some ⟨b1, 2, none⟩)) ∧ w3 = wq) (r_fa rfl Try.underlying45 (f := 2) (q := 2) rfl (by kernel_rfl) rfl) ⟨rfl, rfl⟩) (fun h => by cases h) rfl ?_; clear hf fa; rintro fa _ _ ⟨rfl, rfl⟩ hf
  change Fr _ _ ((21, (.pointer (some ⟨b1, 2, none⟩))) :: _) at hf
  refine sqgd (act := true) (g := 13) (want := true) (ag := true) (c := true) hf (by rfl) (by rfl) rfl (fun _ =>  Runs.does (R := fun vq wq => vq = (.slice aS 1 cS) ∧ w3 = wq) (r_load (v := (.slice aS 1 cS)) rfl Try.underlying32 rfl (cell_blk hk2 rfl)) ⟨rfl, rfl⟩) (fun h => by cases h) rfl ?_; clear hf fa; rintro fa _ _ ⟨rfl, rfl⟩ hf
  change Fr _ _ ((22, (.slice aS 1 cS)) :: _) at hf
  refine sqgd (act := true) (g := 13) (want := true) (ag := true) (c := true) hf (by rfl) (by rfl) rfl (fun _ =>  Runs.does (R := fun vq wq => vq = (.int .i64 (1 : Int)) ∧ w3 = wq) (r_lensl rfl Try.underlying32) ⟨rfl, rfl⟩) (fun h => by cases h) rfl ?_; clear hf fa; rintro fa _ _ ⟨rfl, rfl⟩ hf
  change Fr _ _ ((23, (.int .i64 (1 : Int))) :: _) at hf
  refine sqgd (act := true) (g := 13) (want := true) (ag := true) (c := true) hf (by rfl) (by rfl) rfl (fun _ =>  Runs.does (R := fun vq wq => vq = (.bool true) ∧ w3 = wq) (Runs.veq (r_eq rfl rfl) (congrArg Value.bool (show _ = true from by decide))) ⟨rfl, rfl⟩) (fun h => by cases h) rfl ?_; clear hf fa; rintro fa _ _ ⟨rfl, rfl⟩ hf
  change Fr _ _ ((24, (.bool true)) :: _) at hf
  refine sqv hf (r_pick (b := true) rfl rfl rfl rfl) rfl rfl rfl ?_; clear hf fa; intro fa hf
  refine sqv hf (r_move rfl) rfl rfl rfl ?_; clear hf fa; intro fa hf
  refine sqgd (act := true) (g := 19) (want := true) (ag := true) (c := true) hf (by rfl) (by rfl) rfl (fun _ =>  Runs.does (R := fun vq wq => vq = (.pointer (some ⟨b1, 3, none⟩)) ∧ w3 = wq) (r_fa rfl Try.underlying45 (f := 3) (q := 3) rfl (by kernel_rfl) rfl) ⟨rfl, rfl⟩) (fun h => by cases h) rfl ?_; clear hf fa; rintro fa _ _ ⟨rfl, rfl⟩ hf
  change Fr _ _ ((27, (.pointer (some ⟨b1, 3, none⟩))) :: _) at hf
  refine sqgd (act := true) (g := 19) (want := true) (ag := true) (c := true) hf (by rfl) (by rfl) rfl (fun _ =>  Runs.does (R := fun vq wq => vq = (.slice (some ⟨ab, aoff, none⟩) 2 cA) ∧ w3 = wq) (r_load (v := (.slice (some ⟨ab, aoff, none⟩) 2 cA)) rfl Try.underlying42 rfl (cell_blk hk2 rfl)) ⟨rfl, rfl⟩) (fun h => by cases h) rfl ?_; clear hf fa; rintro fa _ _ ⟨rfl, rfl⟩ hf
  change Fr _ _ ((28, (.slice (some ⟨ab, aoff, none⟩) 2 cA)) :: _) at hf
  refine sqgd (act := true) (g := 19) (want := true) (ag := true) (c := true) hf (by rfl) (by rfl) rfl (fun _ =>  Runs.does (R := fun vq wq => vq = (.int .i64 (2 : Int)) ∧ w3 = wq) (r_lensl rfl Try.underlying42) ⟨rfl, rfl⟩) (fun h => by cases h) rfl ?_; clear hf fa; rintro fa _ _ ⟨rfl, rfl⟩ hf
  change Fr _ _ ((29, (.int .i64 (2 : Int))) :: _) at hf
  refine sqgd (act := true) (g := 19) (want := true) (ag := true) (c := true) hf (by rfl) (by rfl) rfl (fun _ =>  Runs.does (R := fun vq wq => vq = (.bool true) ∧ w3 = wq) (Runs.veq (r_eq rfl rfl) (congrArg Value.bool (show _ = true from by decide))) ⟨rfl, rfl⟩) (fun h => by cases h) rfl ?_; clear hf fa; rintro fa _ _ ⟨rfl, rfl⟩ hf
  change Fr _ _ ((30, (.bool true)) :: _) at hf
  refine sqv hf (r_pick (b := true) rfl rfl rfl rfl) rfl rfl rfl ?_; clear hf fa; intro fa hf
  refine sqv hf (r_move rfl) rfl rfl rfl ?_; clear hf fa; intro fa hf
  refine sqgd (act := true) (g := 25) (want := true) (ag := true) (c := true) hf (by rfl) (by rfl) rfl (fun _ =>  Runs.does (R := fun vq wq => vq = (.pointer (some ⟨b1, 3, none⟩)) ∧ w3 = wq) (r_fa rfl Try.underlying45 (f := 3) (q := 3) rfl (by kernel_rfl) rfl) ⟨rfl, rfl⟩) (fun h => by cases h) rfl ?_; clear hf fa; rintro fa _ _ ⟨rfl, rfl⟩ hf
  change Fr _ _ ((33, (.pointer (some ⟨b1, 3, none⟩))) :: _) at hf
  refine sqgd (act := true) (g := 25) (want := true) (ag := true) (c := true) hf (by rfl) (by rfl) rfl (fun _ =>  Runs.does (R := fun vq wq => vq = (.slice (some ⟨ab, aoff, none⟩) 2 cA) ∧ w3 = wq) (r_load (v := (.slice (some ⟨ab, aoff, none⟩) 2 cA)) rfl Try.underlying42 rfl (cell_blk hk2 rfl)) ⟨rfl, rfl⟩) (fun h => by cases h) rfl ?_; clear hf fa; rintro fa _ _ ⟨rfl, rfl⟩ hf
  change Fr _ _ ((34, (.slice (some ⟨ab, aoff, none⟩) 2 cA)) :: _) at hf
  refine sqgd (act := true) (g := 25) (want := true) (ag := true) (c := true) hf (by rfl) (by rfl) rfl (fun _ =>  Runs.does (R := fun vq wq => vq = (.pointer (some ⟨ab, (aoff + 0 * 2), none⟩)) ∧ w3 = wq) (r_ixa (sz := 2) (j := 0) rfl rfl Try.underlying42 (by kernel_rfl) rfl (by omega) rfl) ⟨rfl, rfl⟩) (fun h => by cases h) rfl ?_; clear hf fa; rintro fa _ _ ⟨rfl, rfl⟩ hf
  change Fr _ _ ((35, (.pointer (some ⟨ab, (aoff + 0 * 2), none⟩))) :: _) at hf
  refine sqgd (act := true) (g := 25) (want := true) (ag := true) (c := true) hf (by rfl) (by rfl) rfl (fun _ =>  Runs.does (R := fun vq wq => vq = (.pointer (some ⟨ab, ((aoff + 0 * 2) + 1), none⟩)) ∧ w3 = wq) (r_fa rfl Try.underlying65 (f := 1) (q := ((aoff + 0 * 2) + 1)) rfl (by kernel_rfl) rfl) ⟨rfl, rfl⟩) (fun h => by cases h) rfl ?_; clear hf fa; rintro fa _ _ ⟨rfl, rfl⟩ hf
  change Fr _ _ ((36, (.pointer (some ⟨ab, ((aoff + 0 * 2) + 1), none⟩))) :: _) at hf
  refine sqgd (act := true) (g := 25) (want := true) (ag := true) (c := true) hf (by rfl) (by rfl) rfl (fun _ =>  Runs.does (R := fun vq wq => vq = (.int .u64 (4294967295 : Int)) ∧ w3 = wq) (r_load (v := (.int .u64 (4294967295 : Int))) rfl Try.underlying63 rfl (cellsAt_cell helA (i := 1) rfl rfl)) ⟨rfl, rfl⟩) (fun h => by cases h) rfl ?_; clear hf fa; rintro fa _ _ ⟨rfl, rfl⟩ hf
  change Fr _ _ ((37, (.int .u64 (4294967295 : Int))) :: _) at hf
  refine sqgd (act := true) (g := 25) (want := true) (ag := true) (c := true) hf (by rfl) (by rfl) rfl (fun _ =>  Runs.does (R := fun vq wq => vq = (.bool true) ∧ w3 = wq) (Runs.veq (r_eq rfl rfl) (congrArg Value.bool (show _ = true from by decide))) ⟨rfl, rfl⟩) (fun h => by cases h) rfl ?_; clear hf fa; rintro fa _ _ ⟨rfl, rfl⟩ hf
  change Fr _ _ ((38, (.bool true)) :: _) at hf
  refine sqv hf (r_pick (b := true) rfl rfl rfl rfl) rfl rfl rfl ?_; clear hf fa; intro fa hf
  refine sqv hf (r_move rfl) rfl rfl rfl ?_; clear hf fa; intro fa hf
  refine sqv hf (r_pick (b := true) rfl rfl rfl rfl) rfl rfl rfl ?_; clear hf fa; intro fa hf
  refine sqv hf (r_move rfl) rfl rfl rfl ?_; clear hf fa; intro fa hf
  refine sqv hf (r_pick (b := true) rfl rfl rfl rfl) rfl rfl rfl ?_; clear hf fa; intro fa hf
  refine sqv hf (r_move rfl) rfl rfl rfl ?_; clear hf fa; intro fa hf
  refine sqv hf (r_pick (b := true) rfl rfl rfl rfl) rfl rfl rfl ?_; clear hf fa; intro fa hf
  refine sqv hf (r_assign rfl) rfl rfl rfl ?_; clear hf fa; intro fa hf
  apply wpList_nil
  (try simp only [Exit.then, Exit.inBlock, ↓reduceIte, Nat.reduceEqDiff])
  refine hK3 _ _ ?_
  refine wp_ret ?_
  (try simp only [Exit.then, Exit.inBlock])
  refine ret1 hf rfl rfl ?_
  exact ⟨rfl, hb⟩

set_option maxHeartbeats 1000000 in
set_option maxRecDepth 100000 in
theorem ref_any (k : Int) (nN nS nA nD : Nat) (aN aS aA aD : Option Addr) (cN cS cA cD : Nat) (w : World) : Calls Try.prog 16 #[(.agg #[(.int .i64 k), (.slice aN nN cN), (.slice aS nS cS), (.slice aA nA cA), (.slice aD nD cD)])] w fun e w' => e = .returned (.agg #[(.int .i64 k), (.slice aN nN cN), (.slice aS nS cS), (.slice aA nA cA), (.slice aD nD cD)]) ∧ Below w.heap.size w w' := by
  refine sx_enter (L := [(0, (.agg #[(.int .i64 k), (.slice aN nN cN), (.slice aS nS cS), (.slice aA nA cA), (.slice aD nD cD)]))]) Try.func16 rfl rfl rfl rfl (fun fa hf => ?_)
  have hb : Below w.heap.size w w := Below.refl _ _
  refine wp_seq_k (fun K1 hK1 => ?_)
  refine wp_region_lit ?_
  refine sqdt hf (d_box (cs := #[(.int .i64 k), (.slice aN nN cN), (.slice aS nS cS), (.slice aA nA cA), (.slice aD nD cD)]) rfl rfl) rfl rfl rfl ?_; clear hf fa; rintro fa _ w1 ⟨b1, rfl, hle1, hk1, he1⟩ hf
  have hBb1 : w.heap.size ≤ b1 := Nat.le_trans hb.size hle1
  replace hb := hb.trans (Below.mono he1 hb.size)
  refine sqdt hf (d_alloc (z := (.agg #[(.int .i64 (0 : Int)), (.slice none 0 0), (.slice none 0 0), (.slice none 0 0), (.slice none 0 0)])) (cs := #[(.int .i64 (0 : Int)), (.slice none 0 0), (.slice none 0 0), (.slice none 0 0), (.slice none 0 0)]) (by kernel_rfl) rfl) rfl rfl rfl ?_; clear hf fa; rintro fa _ w2 ⟨b2, rfl, hle2, hk2, he2⟩ hf
  have hBb2 : w.heap.size ≤ b2 := Nat.le_trans hb.size hle2
  have : b1 < b2 := Nat.lt_of_lt_of_le (blk_lt hk1) hle2
  replace hk1 := blk_ext hk1 he2
  replace hb := hb.trans (Below.mono he2 hb.size)
  apply wpList_nil
  (try simp only [Exit.then, Exit.inBlock, ↓reduceIte, Nat.reduceEqDiff])
  refine hK1 _ _ ?_
  refine wp_seq_k (fun K2 hK2 => ?_)
  refine wp_region_lit ?_
  refine sqv hf (r_fa rfl Try.underlying45 (f := 0) (q := 0) rfl (by kernel_rfl) rfl) rfl rfl rfl ?_; clear hf fa; intro fa hf
  refine sqv hf (r_load (v := (.int .i64 k)) rfl Try.underlying3 rfl (cell_blk hk1 rfl)) rfl rfl rfl ?_; clear hf fa; intro fa hf
  refine sqv hf (r_fa rfl Try.underlying45 (f := 1) (q := 1) rfl (by kernel_rfl) rfl) rfl rfl rfl ?_; clear hf fa; intro fa hf
  refine sqv hf (r_load (v := (.slice aN nN cN)) rfl Try.underlying41 rfl (cell_blk hk1 rfl)) rfl rfl rfl ?_; clear hf fa; intro fa hf
  refine sqv hf (r_fa rfl Try.underlying45 (f := 2) (q := 2) rfl (by kernel_rfl) rfl) rfl rfl rfl ?_; clear hf fa; intro fa hf
  refine sqv hf (r_load (v := (.slice aS nS cS)) rfl Try.underlying32 rfl (cell_blk hk1 rfl)) rfl rfl rfl ?_; clear hf fa; intro fa hf
  refine sqv hf (r_fa rfl Try.underlying45 (f := 3) (q := 3) rfl (by kernel_rfl) rfl) rfl rfl rfl ?_; clear hf fa; intro fa hf
  refine sqv hf (r_load (v := (.slice aA nA cA)) rfl Try.underlying42 rfl (cell_blk hk1 rfl)) rfl rfl rfl ?_; clear hf fa; intro fa hf
  refine sqv hf (r_fa rfl Try.underlying45 (f := 4) (q := 4) rfl (by kernel_rfl) rfl) rfl rfl rfl ?_; clear hf fa; intro fa hf
  refine sqv hf (r_load (v := (.slice aD nD cD)) rfl Try.underlying43 rfl (cell_blk hk1 rfl)) rfl rfl rfl ?_; clear hf fa; intro fa hf
  refine sqv hf (r_build (vs := [(0, (.int .i64 k)), (1, (.slice aN nN cN)), (2, (.slice aS nS cS)), (3, (.slice aA nA cA)), (4, (.slice aD nD cD))]) (cs := #[(.int .i64 k), (.slice aN nN cN), (.slice aS nS cS), (.slice aA nA cA), (.slice aD nD cD)]) rfl (fun _ => by kernel_rfl)) rfl rfl rfl ?_; clear hf fa; intro fa hf
  refine sqn hf (d_storeK (T := 49) (v := (.agg #[(.int .i64 k), (.slice aN nN cN), (.slice aS nS cS), (.slice aA nA cA), (.slice aD nD cD)])) (cs := #[(.int .i64 (0 : Int)), (.slice none 0 0), (.slice none 0 0), (.slice none 0 0), (.slice none 0 0)]) (cs' := #[(.int .i64 k), (.slice aN nN cN), (.slice aS nS cS), (.slice aA nA cA), (.slice aD nD cD)]) rfl rfl (by kernel_rfl) (by kernel_rfl) hk2 (by kernel_rfl) (by kernel_rfl)) rfl rfl ?_; clear hf fa; rintro fa _ w3 ⟨hk3, hg1⟩ hf
  replace hk1 := blk_grown hk1 hg1 (by omega)
  replace hb := hb.trans (grown_below hg1 hb.size hBb2)
  apply wpList_nil
  (try simp only [Exit.then, Exit.inBlock, ↓reduceIte, Nat.reduceEqDiff])
  refine hK2 _ _ ?_
  refine wp_ret ?_
  (try simp only [Exit.then, Exit.inBlock])
  refine retC hf rfl rfl hk3 Try.underlying49 rfl (by kernel_rfl) ?_
  exact ⟨rfl, hb⟩

set_option maxHeartbeats 1000000 in
set_option maxRecDepth 100000 in
theorem same_any (k : Int) (st : PSt) (aN aS aA aD : Option Addr) (cN cS cA cD : Nat) (aN2 aS2 aA2 aD2 : Option Addr) (cN2 cS2 cA2 cD2 : Nat) (w : World) (hF : OpF w st aN aS aA aD) (hF2 : OpF w st aN2 aS2 aA2 aD2) (hB : OpB st) : Calls Try.prog 23 #[(.agg #[(.int .i64 k), (.slice aN st.N.length cN), (.slice aS st.S.length cS), (.slice aA st.A.length cA), (.slice aD st.D.length cD)]), (.agg #[(.int .i64 k), (.slice aN2 st.N.length cN2), (.slice aS2 st.S.length cS2), (.slice aA2 st.A.length cA2), (.slice aD2 st.D.length cD2)])] w fun e w' => e = .returned (.bool true) ∧ Below w.heap.size w w' := by
  have hnl9 := hB.nl
  have hsl9 := hB.sl
  have hal9 := hB.al
  have hdl9 := hB.dl
  refine sx_enter (L := [(0, (.agg #[(.int .i64 k), (.slice aN st.N.length cN), (.slice aS st.S.length cS), (.slice aA st.A.length cA), (.slice aD st.D.length cD)])), (1, (.agg #[(.int .i64 k), (.slice aN2 st.N.length cN2), (.slice aS2 st.S.length cS2), (.slice aA2 st.A.length cA2), (.slice aD2 st.D.length cD2)]))]) Try.func23 rfl rfl rfl rfl (fun fa hf => ?_)
  have hb : Below w.heap.size w w := Below.refl _ _
  refine wp_seq_k (fun K1 hK1 => ?_)
  refine wp_region_lit ?_
  refine sqdt hf (d_box (cs := #[(.int .i64 k), (.slice aN st.N.length cN), (.slice aS st.S.length cS), (.slice aA st.A.length cA), (.slice aD st.D.length cD)]) rfl rfl) rfl rfl rfl ?_; clear hf fa; rintro fa _ w1 ⟨b1, rfl, hle1, hk1, he1⟩ hf
  have hBb1 : w.heap.size ≤ b1 := Nat.le_trans hb.size hle1
  replace hb := hb.trans (Below.mono he1 hb.size)
  refine sqdt hf (d_box (cs := #[(.int .i64 k), (.slice aN2 st.N.length cN2), (.slice aS2 st.S.length cS2), (.slice aA2 st.A.length cA2), (.slice aD2 st.D.length cD2)]) rfl rfl) rfl rfl rfl ?_; clear hf fa; rintro fa _ w2 ⟨b2, rfl, hle2, hk2, he2⟩ hf
  have hBb2 : w.heap.size ≤ b2 := Nat.le_trans hb.size hle2
  have : b1 < b2 := Nat.lt_of_lt_of_le (blk_lt hk1) hle2
  replace hk1 := blk_ext hk1 he2
  replace hb := hb.trans (Below.mono he2 hb.size)
  refine sqv hf (r_assign rfl) rfl rfl rfl ?_; clear hf fa; intro fa hf
  apply wpList_nil
  (try simp only [Exit.then, Exit.inBlock, ↓reduceIte, Nat.reduceEqDiff])
  refine hK1 _ _ ?_
  refine wp_seq_k (fun K2 hK2 => ?_)
  refine wp_seq_k (fun K3 hK3 => ?_)
  refine wp_region_lit ?_
  refine sqv hf (r_fa rfl Try.underlying49 (f := 0) (q := 0) rfl (by kernel_rfl) rfl) rfl rfl rfl ?_; clear hf fa; intro fa hf
  refine sqv hf (r_load (v := (.int .i64 k)) rfl Try.underlying3 rfl (cell_blk hk1 rfl)) rfl rfl rfl ?_; clear hf fa; intro fa hf
  refine sqv hf (r_fa rfl Try.underlying49 (f := 0) (q := 0) rfl (by kernel_rfl) rfl) rfl rfl rfl ?_; clear hf fa; intro fa hf
  refine sqv hf (r_load (v := (.int .i64 k)) rfl Try.underlying3 rfl (cell_blk hk2 rfl)) rfl rfl rfl ?_; clear hf fa; intro fa hf
  refine sqv hf (Runs.veq (r_ne rfl rfl) (congrArg Value.bool (show _ = false from (by simp)))) rfl rfl rfl ?_; clear hf fa; intro fa hf
  refine sqv hf (r_move rfl) rfl rfl rfl ?_; clear hf fa; intro fa hf
  refine sqgd (act := true) (g := 5) (want := false) (ag := true) (c := false) hf (by rfl) (by rfl) rfl (fun _ =>  Runs.does (R := fun vq wq => vq = (.pointer (some ⟨b1, 1, none⟩)) ∧ w2 = wq) (r_fa rfl Try.underlying49 (f := 1) (q := 1) rfl (by kernel_rfl) rfl) ⟨rfl, rfl⟩) (fun h => by cases h) rfl ?_; clear hf fa; rintro fa _ _ ⟨rfl, rfl⟩ hf
  change Fr _ _ ((14, (.pointer (some ⟨b1, 1, none⟩))) :: _) at hf
  refine sqgd (act := true) (g := 5) (want := false) (ag := true) (c := false) hf (by rfl) (by rfl) rfl (fun _ =>  Runs.does (R := fun vq wq => vq = (.slice aN st.N.length cN) ∧ w2 = wq) (r_load (v := (.slice aN st.N.length cN)) rfl Try.underlying41 rfl (cell_blk hk1 rfl)) ⟨rfl, rfl⟩) (fun h => by cases h) rfl ?_; clear hf fa; rintro fa _ _ ⟨rfl, rfl⟩ hf
  change Fr _ _ ((15, (.slice aN st.N.length cN)) :: _) at hf
  refine sqgd (act := true) (g := 5) (want := false) (ag := true) (c := false) hf (by rfl) (by rfl) rfl (fun _ =>  Runs.does (R := fun vq wq => vq = (.int .i64 ((st.N.length : Nat) : Int)) ∧ w2 = wq) (r_lensl rfl Try.underlying41) ⟨rfl, rfl⟩) (fun h => by cases h) rfl ?_; clear hf fa; rintro fa _ _ ⟨rfl, rfl⟩ hf
  change Fr _ _ ((16, (.int .i64 ((st.N.length : Nat) : Int))) :: _) at hf
  refine sqgd (act := true) (g := 5) (want := false) (ag := true) (c := false) hf (by rfl) (by rfl) rfl (fun _ =>  Runs.does (R := fun vq wq => vq = (.pointer (some ⟨b2, 1, none⟩)) ∧ w2 = wq) (r_fa rfl Try.underlying49 (f := 1) (q := 1) rfl (by kernel_rfl) rfl) ⟨rfl, rfl⟩) (fun h => by cases h) rfl ?_; clear hf fa; rintro fa _ _ ⟨rfl, rfl⟩ hf
  change Fr _ _ ((17, (.pointer (some ⟨b2, 1, none⟩))) :: _) at hf
  refine sqgd (act := true) (g := 5) (want := false) (ag := true) (c := false) hf (by rfl) (by rfl) rfl (fun _ =>  Runs.does (R := fun vq wq => vq = (.slice aN2 st.N.length cN2) ∧ w2 = wq) (r_load (v := (.slice aN2 st.N.length cN2)) rfl Try.underlying41 rfl (cell_blk hk2 rfl)) ⟨rfl, rfl⟩) (fun h => by cases h) rfl ?_; clear hf fa; rintro fa _ _ ⟨rfl, rfl⟩ hf
  change Fr _ _ ((18, (.slice aN2 st.N.length cN2)) :: _) at hf
  refine sqgd (act := true) (g := 5) (want := false) (ag := true) (c := false) hf (by rfl) (by rfl) rfl (fun _ =>  Runs.does (R := fun vq wq => vq = (.int .i64 ((st.N.length : Nat) : Int)) ∧ w2 = wq) (r_lensl rfl Try.underlying41) ⟨rfl, rfl⟩) (fun h => by cases h) rfl ?_; clear hf fa; rintro fa _ _ ⟨rfl, rfl⟩ hf
  change Fr _ _ ((19, (.int .i64 ((st.N.length : Nat) : Int))) :: _) at hf
  refine sqgd (act := true) (g := 5) (want := false) (ag := true) (c := false) hf (by rfl) (by rfl) rfl (fun _ =>  Runs.does (R := fun vq wq => vq = (.bool false) ∧ w2 = wq) (Runs.veq (r_ne rfl rfl) (congrArg Value.bool (show _ = false from (by simp)))) ⟨rfl, rfl⟩) (fun h => by cases h) rfl ?_; clear hf fa; rintro fa _ _ ⟨rfl, rfl⟩ hf
  change Fr _ _ ((20, (.bool false)) :: _) at hf
  refine sqv hf (r_pick (b := false) rfl rfl rfl rfl) rfl rfl rfl ?_; clear hf fa; intro fa hf
  refine sqv hf (r_move rfl) rfl rfl rfl ?_; clear hf fa; intro fa hf
  refine sqgd (act := true) (g := 14) (want := false) (ag := true) (c := false) hf (by rfl) (by rfl) rfl (fun _ =>  Runs.does (R := fun vq wq => vq = (.pointer (some ⟨b1, 2, none⟩)) ∧ w2 = wq) (r_fa rfl Try.underlying49 (f := 2) (q := 2) rfl (by kernel_rfl) rfl) ⟨rfl, rfl⟩) (fun h => by cases h) rfl ?_; clear hf fa; rintro fa _ _ ⟨rfl, rfl⟩ hf
  change Fr _ _ ((23, (.pointer (some ⟨b1, 2, none⟩))) :: _) at hf
  refine sqgd (act := true) (g := 14) (want := false) (ag := true) (c := false) hf (by rfl) (by rfl) rfl (fun _ =>  Runs.does (R := fun vq wq => vq = (.slice aS st.S.length cS) ∧ w2 = wq) (r_load (v := (.slice aS st.S.length cS)) rfl Try.underlying32 rfl (cell_blk hk1 rfl)) ⟨rfl, rfl⟩) (fun h => by cases h) rfl ?_; clear hf fa; rintro fa _ _ ⟨rfl, rfl⟩ hf
  change Fr _ _ ((24, (.slice aS st.S.length cS)) :: _) at hf
  refine sqgd (act := true) (g := 14) (want := false) (ag := true) (c := false) hf (by rfl) (by rfl) rfl (fun _ =>  Runs.does (R := fun vq wq => vq = (.int .i64 ((st.S.length : Nat) : Int)) ∧ w2 = wq) (r_lensl rfl Try.underlying32) ⟨rfl, rfl⟩) (fun h => by cases h) rfl ?_; clear hf fa; rintro fa _ _ ⟨rfl, rfl⟩ hf
  change Fr _ _ ((25, (.int .i64 ((st.S.length : Nat) : Int))) :: _) at hf
  refine sqgd (act := true) (g := 14) (want := false) (ag := true) (c := false) hf (by rfl) (by rfl) rfl (fun _ =>  Runs.does (R := fun vq wq => vq = (.pointer (some ⟨b2, 2, none⟩)) ∧ w2 = wq) (r_fa rfl Try.underlying49 (f := 2) (q := 2) rfl (by kernel_rfl) rfl) ⟨rfl, rfl⟩) (fun h => by cases h) rfl ?_; clear hf fa; rintro fa _ _ ⟨rfl, rfl⟩ hf
  change Fr _ _ ((26, (.pointer (some ⟨b2, 2, none⟩))) :: _) at hf
  refine sqgd (act := true) (g := 14) (want := false) (ag := true) (c := false) hf (by rfl) (by rfl) rfl (fun _ =>  Runs.does (R := fun vq wq => vq = (.slice aS2 st.S.length cS2) ∧ w2 = wq) (r_load (v := (.slice aS2 st.S.length cS2)) rfl Try.underlying32 rfl (cell_blk hk2 rfl)) ⟨rfl, rfl⟩) (fun h => by cases h) rfl ?_; clear hf fa; rintro fa _ _ ⟨rfl, rfl⟩ hf
  change Fr _ _ ((27, (.slice aS2 st.S.length cS2)) :: _) at hf
  refine sqgd (act := true) (g := 14) (want := false) (ag := true) (c := false) hf (by rfl) (by rfl) rfl (fun _ =>  Runs.does (R := fun vq wq => vq = (.int .i64 ((st.S.length : Nat) : Int)) ∧ w2 = wq) (r_lensl rfl Try.underlying32) ⟨rfl, rfl⟩) (fun h => by cases h) rfl ?_; clear hf fa; rintro fa _ _ ⟨rfl, rfl⟩ hf
  change Fr _ _ ((28, (.int .i64 ((st.S.length : Nat) : Int))) :: _) at hf
  refine sqgd (act := true) (g := 14) (want := false) (ag := true) (c := false) hf (by rfl) (by rfl) rfl (fun _ =>  Runs.does (R := fun vq wq => vq = (.bool false) ∧ w2 = wq) (Runs.veq (r_ne rfl rfl) (congrArg Value.bool (show _ = false from (by simp)))) ⟨rfl, rfl⟩) (fun h => by cases h) rfl ?_; clear hf fa; rintro fa _ _ ⟨rfl, rfl⟩ hf
  change Fr _ _ ((29, (.bool false)) :: _) at hf
  refine sqv hf (r_pick (b := false) rfl rfl rfl rfl) rfl rfl rfl ?_; clear hf fa; intro fa hf
  refine sqv hf (r_move rfl) rfl rfl rfl ?_; clear hf fa; intro fa hf
  refine sqgd (act := true) (g := 23) (want := false) (ag := true) (c := false) hf (by rfl) (by rfl) rfl (fun _ =>  Runs.does (R := fun vq wq => vq = (.pointer (some ⟨b1, 3, none⟩)) ∧ w2 = wq) (r_fa rfl Try.underlying49 (f := 3) (q := 3) rfl (by kernel_rfl) rfl) ⟨rfl, rfl⟩) (fun h => by cases h) rfl ?_; clear hf fa; rintro fa _ _ ⟨rfl, rfl⟩ hf
  change Fr _ _ ((32, (.pointer (some ⟨b1, 3, none⟩))) :: _) at hf
  refine sqgd (act := true) (g := 23) (want := false) (ag := true) (c := false) hf (by rfl) (by rfl) rfl (fun _ =>  Runs.does (R := fun vq wq => vq = (.slice aA st.A.length cA) ∧ w2 = wq) (r_load (v := (.slice aA st.A.length cA)) rfl Try.underlying42 rfl (cell_blk hk1 rfl)) ⟨rfl, rfl⟩) (fun h => by cases h) rfl ?_; clear hf fa; rintro fa _ _ ⟨rfl, rfl⟩ hf
  change Fr _ _ ((33, (.slice aA st.A.length cA)) :: _) at hf
  refine sqgd (act := true) (g := 23) (want := false) (ag := true) (c := false) hf (by rfl) (by rfl) rfl (fun _ =>  Runs.does (R := fun vq wq => vq = (.int .i64 ((st.A.length : Nat) : Int)) ∧ w2 = wq) (r_lensl rfl Try.underlying42) ⟨rfl, rfl⟩) (fun h => by cases h) rfl ?_; clear hf fa; rintro fa _ _ ⟨rfl, rfl⟩ hf
  change Fr _ _ ((34, (.int .i64 ((st.A.length : Nat) : Int))) :: _) at hf
  refine sqgd (act := true) (g := 23) (want := false) (ag := true) (c := false) hf (by rfl) (by rfl) rfl (fun _ =>  Runs.does (R := fun vq wq => vq = (.pointer (some ⟨b2, 3, none⟩)) ∧ w2 = wq) (r_fa rfl Try.underlying49 (f := 3) (q := 3) rfl (by kernel_rfl) rfl) ⟨rfl, rfl⟩) (fun h => by cases h) rfl ?_; clear hf fa; rintro fa _ _ ⟨rfl, rfl⟩ hf
  change Fr _ _ ((35, (.pointer (some ⟨b2, 3, none⟩))) :: _) at hf
  refine sqgd (act := true) (g := 23) (want := false) (ag := true) (c := false) hf (by rfl) (by rfl) rfl (fun _ =>  Runs.does (R := fun vq wq => vq = (.slice aA2 st.A.length cA2) ∧ w2 = wq) (r_load (v := (.slice aA2 st.A.length cA2)) rfl Try.underlying42 rfl (cell_blk hk2 rfl)) ⟨rfl, rfl⟩) (fun h => by cases h) rfl ?_; clear hf fa; rintro fa _ _ ⟨rfl, rfl⟩ hf
  change Fr _ _ ((36, (.slice aA2 st.A.length cA2)) :: _) at hf
  refine sqgd (act := true) (g := 23) (want := false) (ag := true) (c := false) hf (by rfl) (by rfl) rfl (fun _ =>  Runs.does (R := fun vq wq => vq = (.int .i64 ((st.A.length : Nat) : Int)) ∧ w2 = wq) (r_lensl rfl Try.underlying42) ⟨rfl, rfl⟩) (fun h => by cases h) rfl ?_; clear hf fa; rintro fa _ _ ⟨rfl, rfl⟩ hf
  change Fr _ _ ((37, (.int .i64 ((st.A.length : Nat) : Int))) :: _) at hf
  refine sqgd (act := true) (g := 23) (want := false) (ag := true) (c := false) hf (by rfl) (by rfl) rfl (fun _ =>  Runs.does (R := fun vq wq => vq = (.bool false) ∧ w2 = wq) (Runs.veq (r_ne rfl rfl) (congrArg Value.bool (show _ = false from (by simp)))) ⟨rfl, rfl⟩) (fun h => by cases h) rfl ?_; clear hf fa; rintro fa _ _ ⟨rfl, rfl⟩ hf
  change Fr _ _ ((38, (.bool false)) :: _) at hf
  refine sqv hf (r_pick (b := false) rfl rfl rfl rfl) rfl rfl rfl ?_; clear hf fa; intro fa hf
  refine sqv hf (r_move rfl) rfl rfl rfl ?_; clear hf fa; intro fa hf
  refine sqgd (act := true) (g := 32) (want := false) (ag := true) (c := false) hf (by rfl) (by rfl) rfl (fun _ =>  Runs.does (R := fun vq wq => vq = (.pointer (some ⟨b1, 4, none⟩)) ∧ w2 = wq) (r_fa rfl Try.underlying49 (f := 4) (q := 4) rfl (by kernel_rfl) rfl) ⟨rfl, rfl⟩) (fun h => by cases h) rfl ?_; clear hf fa; rintro fa _ _ ⟨rfl, rfl⟩ hf
  change Fr _ _ ((41, (.pointer (some ⟨b1, 4, none⟩))) :: _) at hf
  refine sqgd (act := true) (g := 32) (want := false) (ag := true) (c := false) hf (by rfl) (by rfl) rfl (fun _ =>  Runs.does (R := fun vq wq => vq = (.slice aD st.D.length cD) ∧ w2 = wq) (r_load (v := (.slice aD st.D.length cD)) rfl Try.underlying43 rfl (cell_blk hk1 rfl)) ⟨rfl, rfl⟩) (fun h => by cases h) rfl ?_; clear hf fa; rintro fa _ _ ⟨rfl, rfl⟩ hf
  change Fr _ _ ((42, (.slice aD st.D.length cD)) :: _) at hf
  refine sqgd (act := true) (g := 32) (want := false) (ag := true) (c := false) hf (by rfl) (by rfl) rfl (fun _ =>  Runs.does (R := fun vq wq => vq = (.string (strOfNums (nI st.D))) ∧ w2 = wq) (r_rdstr2 rfl (by first | rfl | exact (nI_length _).symm) Try.underlying43 Try.underlying5 Try.underlying9 (RdS.ext hF.2.2.2 hb)) ⟨rfl, rfl⟩) (fun h => by cases h) rfl ?_; clear hf fa; rintro fa _ _ ⟨rfl, rfl⟩ hf
  change Fr _ _ ((43, (.string (strOfNums (nI st.D)))) :: _) at hf
  refine sqgd (act := true) (g := 32) (want := false) (ag := true) (c := false) hf (by rfl) (by rfl) rfl (fun _ =>  Runs.does (R := fun vq wq => vq = (.pointer (some ⟨b2, 4, none⟩)) ∧ w2 = wq) (r_fa rfl Try.underlying49 (f := 4) (q := 4) rfl (by kernel_rfl) rfl) ⟨rfl, rfl⟩) (fun h => by cases h) rfl ?_; clear hf fa; rintro fa _ _ ⟨rfl, rfl⟩ hf
  change Fr _ _ ((44, (.pointer (some ⟨b2, 4, none⟩))) :: _) at hf
  refine sqgd (act := true) (g := 32) (want := false) (ag := true) (c := false) hf (by rfl) (by rfl) rfl (fun _ =>  Runs.does (R := fun vq wq => vq = (.slice aD2 st.D.length cD2) ∧ w2 = wq) (r_load (v := (.slice aD2 st.D.length cD2)) rfl Try.underlying43 rfl (cell_blk hk2 rfl)) ⟨rfl, rfl⟩) (fun h => by cases h) rfl ?_; clear hf fa; rintro fa _ _ ⟨rfl, rfl⟩ hf
  change Fr _ _ ((45, (.slice aD2 st.D.length cD2)) :: _) at hf
  refine sqgd (act := true) (g := 32) (want := false) (ag := true) (c := false) hf (by rfl) (by rfl) rfl (fun _ =>  Runs.does (R := fun vq wq => vq = (.string (strOfNums (nI st.D))) ∧ w2 = wq) (r_rdstr2 rfl (by first | rfl | exact (nI_length _).symm) Try.underlying43 Try.underlying5 Try.underlying9 (RdS.ext hF2.2.2.2 hb)) ⟨rfl, rfl⟩) (fun h => by cases h) rfl ?_; clear hf fa; rintro fa _ _ ⟨rfl, rfl⟩ hf
  change Fr _ _ ((46, (.string (strOfNums (nI st.D)))) :: _) at hf
  refine sqgd (act := true) (g := 32) (want := false) (ag := true) (c := false) hf (by rfl) (by rfl) rfl (fun _ =>  Runs.does (R := fun vq wq => vq = (.bool false) ∧ w2 = wq) (Runs.veq (r_sne rfl rfl) (congrArg Value.bool (show _ = false from (by simp)))) ⟨rfl, rfl⟩) (fun h => by cases h) rfl ?_; clear hf fa; rintro fa _ _ ⟨rfl, rfl⟩ hf
  change Fr _ _ ((47, (.bool false)) :: _) at hf
  refine sqv hf (r_pick (b := false) rfl rfl rfl rfl) rfl rfl rfl ?_; clear hf fa; intro fa hf
  apply wpList_nil
  (try simp only [Exit.then, Exit.inBlock, ↓reduceIte, Nat.reduceEqDiff])
  refine hK3 _ _ ?_
  refine wp_cond_false (hf.ev rfl) ?_
  refine wp_skip ?_
  (try simp only [Exit.then, Exit.inBlock, ↓reduceIte, Nat.reduceEqDiff])
  refine hK2 _ _ ?_
  refine wp_seq_k (fun K4 hK4 => ?_)
  refine wp_seq_k (fun K5 hK5 => ?_)
  refine wp_region_lit ?_
  refine sqv hf (r_assign rfl) rfl rfl rfl ?_; clear hf fa; intro fa hf
  apply wpList_nil
  (try simp only [Exit.then, Exit.inBlock, ↓reduceIte, Nat.reduceEqDiff])
  refine hK5 _ _ ?_
  refine wp_block ?_
  refine wp_loop_k (fun mq fa wr => ∃ (nx : Nat), mq = st.N.length - nx ∧ Fr 103 fa [(2, (.pointer (some ⟨b1, 0, none⟩))), (3, (.pointer (some ⟨b2, 0, none⟩))), (5, (.int .i64 ((nx : Nat) : Int)))] ∧ Below w.heap.size w wr ∧ wr.heap[b1]? = some (.cells #[(.int .i64 k), (.slice aN st.N.length cN), (.slice aS st.S.length cS), (.slice aA st.A.length cA), (.slice aD st.D.length cD)] 49 (0, 0)) ∧ wr.heap[b2]? = some (.cells #[(.int .i64 k), (.slice aN2 st.N.length cN2), (.slice aS2 st.S.length cS2), (.slice aA2 st.A.length cA2), (.slice aD2 st.D.length cD2)] 49 (0, 0)) ∧ (nx ≤ st.N.length)) ?_ ?_
  · skip
    exact ⟨_, 0, rfl, hf.sub ⟨rfl, rfl, (some_int (by first | rfl | omega)), trivial⟩, hb, hk1, hk2, by omega⟩
  · skip
    clear hf fa; intro mq1 fa w3 hI KL1 hKL1
    clear hb
    clear hk1
    clear hk2
    obtain ⟨nx, hmq1, hf, hb, hkb1, hkb2, hnx⟩ := hI
    refine wp_seq_k (fun K6 hK6 => ?_)
    refine wp_seq_k (fun K7 hK7 => ?_)
    refine wp_region_lit ?_
    refine sqv hf (r_move rfl) rfl rfl rfl ?_; clear hf fa; intro fa hf
    refine sqv hf (r_fa rfl Try.underlying49 (f := 1) (q := 1) rfl (by kernel_rfl) rfl) rfl rfl rfl ?_; clear hf fa; intro fa hf
    refine sqv hf (r_load (v := (.slice aN st.N.length cN)) rfl Try.underlying41 rfl (cell_blk hkb1 rfl)) rfl rfl rfl ?_; clear hf fa; intro fa hf
    refine sqv hf (r_lensl rfl Try.underlying41) rfl rfl rfl ?_; clear hf fa; intro fa hf
    refine sqv hf (r_lt rfl rfl) rfl rfl rfl ?_; clear hf fa; intro fa hf
    apply wpList_nil
    (try simp only [Exit.then, Exit.inBlock, ↓reduceIte, Nat.reduceEqDiff])
    refine hK7 _ _ ?_
    refine wp_cond_split (t := (decide (((nx : Nat) : Int) < ((st.N.length : Nat) : Int)))) (hf.ev rfl) (fun hqt53_1 => ?_) (fun hqt53_1 => ?_)
    · have hqt53_1b := hqt53_1
      try simp only [decide_eq_true_eq, Bool.and_eq_true, Bool.or_eq_true, Bool.not_eq_true', decide_eq_false_iff_not, ne_eq, Bool.not_eq_true] at hqt53_1
      refine wp_skip ?_
      (try simp only [Exit.then, Exit.inBlock, ↓reduceIte, Nat.reduceEqDiff])
      refine hK6 _ _ ?_
      refine wp_seq_k (fun K8 hK8 => ?_)
      refine wp_block ?_
      refine wp_seq_k (fun K9 hK9 => ?_)
      obtain ⟨yy, hyy⟩ : ∃ x, st.N[nx]? = some x := ⟨_, List.getElem?_eq_getElem (by omega)⟩
      have hy1 : (st.N)[nx]? = some yy := hyy
      obtain ⟨ab1, aoff1, rfl, hlb1, hel1⟩ := RdS.at hF.1 hy1
      have hy2 : (st.N)[nx]? = some yy := hyy
      obtain ⟨ab2, aoff2, rfl, hlb2, hel2⟩ := RdS.at hF2.1 hy2
      refine wp_region_un (fun wq => Below w3.heap.size w3 wq) (fun w w' => Below w.heap.size w w')
        (fun V => [(fun x _ => x = (.pointer (some ⟨b1, 1, none⟩))), (fun x _ => x = (.slice (some ⟨ab1, aoff1, none⟩) st.N.length cN)), (fun x _ => x = (.int .i64 ((nx : Nat) : Int))), (fun x _ => x = (.pointer (some ⟨ab1, (aoff1 + nx * 1), none⟩))), (fun x _ => x = (.int .i64 yy)), (fun x _ => x = (.pointer (some ⟨b2, 1, none⟩))), (fun x _ => x = (.slice (some ⟨ab2, aoff2, none⟩) st.N.length cN2)), (fun x _ => x = (.int .i64 ((nx : Nat) : Int))), (fun x _ => x = (.pointer (some ⟨ab2, (aoff2 + nx * 1), none⟩))), (fun x _ => x = (.int .i64 yy)), (fun x _ => x = (.bool false))])
        []
        [[], [0], [], [1, 2], [3], [], [5], [], [6, 7], [8], [4, 9]]
        hf (by kernel_rfl) (by kernel_rfl) (fun _ => rfl) ((Below.refl _ _).drew) (fun a b h1 h2 => h1.trans (h2.mono h1.size)) (fun _ _ h => h.size) (fun V => ⟨kept_eq, kept_eq, kept_eq, kept_eq, kept_eq, kept_eq, kept_eq, kept_eq, kept_eq, kept_eq, kept_eq, trivial⟩) (fun _ _ _ _ _ => rfl) ?_ ?_
      · skip
        intro V
        refine ⟨fun wu0 hC hd => ?_, ?_⟩
        · clear hd
          replace hb := hb.trans (hC.mono hb.size)
          replace hkb1 := blk_ext hkb1 hC
          replace hkb2 := blk_ext hkb2 hC
          exact Runs.does (r_fa rfl Try.underlying49 (f := 1) (q := 1) rfl (by kernel_rfl) rfl) ⟨Below.refl _ _, rfl, nofr rfl⟩
        refine ⟨fun wu1 hC hd => ?_, ?_⟩
        · obtain ⟨h0, _⟩ := hd
          skip
          replace h0 : V 0 = (.pointer (some ⟨b1, 1, none⟩)) := h0
          replace hb := hb.trans (hC.mono hb.size)
          replace hkb1 := blk_ext hkb1 hC
          replace hkb2 := blk_ext hkb2 hC
          exact Runs.does (r_load (v := (.slice (some ⟨ab1, aoff1, none⟩) st.N.length cN)) (congrArg some h0) Try.underlying41 rfl (cell_blk hkb1 rfl)) ⟨Below.refl _ _, rfl, nofr rfl⟩
        refine ⟨fun wu2 hC hd => ?_, ?_⟩
        · clear hd
          replace hb := hb.trans (hC.mono hb.size)
          replace hkb1 := blk_ext hkb1 hC
          replace hkb2 := blk_ext hkb2 hC
          exact Runs.does (r_move rfl) ⟨Below.refl _ _, rfl, nofr rfl⟩
        refine ⟨fun wu3 hC hd => ?_, ?_⟩
        · obtain ⟨h1, h2, _⟩ := hd
          skip
          skip
          replace h1 : V 1 = (.slice (some ⟨ab1, aoff1, none⟩) st.N.length cN) := h1
          replace h2 : V 2 = (.int .i64 ((nx : Nat) : Int)) := h2
          replace hb := hb.trans (hC.mono hb.size)
          replace hkb1 := blk_ext hkb1 hC
          replace hkb2 := blk_ext hkb2 hC
          exact Runs.does (r_ixa (sz := 1) (j := nx) (congrArg some h1) (congrArg some h2) Try.underlying41 (by kernel_rfl) rfl (by omega) rfl) ⟨Below.refl _ _, rfl, nofr rfl⟩
        refine ⟨fun wu4 hC hd => ?_, ?_⟩
        · obtain ⟨h3, _⟩ := hd
          skip
          replace h3 : V 3 = (.pointer (some ⟨ab1, (aoff1 + nx * 1), none⟩)) := h3
          replace hb := hb.trans (hC.mono hb.size)
          replace hkb1 := blk_ext hkb1 hC
          replace hkb2 := blk_ext hkb2 hC
          exact Runs.does (r_load (v := (.int .i64 yy)) (congrArg some h3) Try.underlying3 rfl (cellsAt_cell (cellsAt_below hel1 hb hlb1) (i := 0) rfl rfl)) ⟨Below.refl _ _, rfl, nofr rfl⟩
        refine ⟨fun wu5 hC hd => ?_, ?_⟩
        · clear hd
          replace hb := hb.trans (hC.mono hb.size)
          replace hkb1 := blk_ext hkb1 hC
          replace hkb2 := blk_ext hkb2 hC
          exact Runs.does (r_fa rfl Try.underlying49 (f := 1) (q := 1) rfl (by kernel_rfl) rfl) ⟨Below.refl _ _, rfl, nofr rfl⟩
        refine ⟨fun wu6 hC hd => ?_, ?_⟩
        · obtain ⟨h5, _⟩ := hd
          skip
          replace h5 : V 5 = (.pointer (some ⟨b2, 1, none⟩)) := h5
          replace hb := hb.trans (hC.mono hb.size)
          replace hkb1 := blk_ext hkb1 hC
          replace hkb2 := blk_ext hkb2 hC
          exact Runs.does (r_load (v := (.slice (some ⟨ab2, aoff2, none⟩) st.N.length cN2)) (congrArg some h5) Try.underlying41 rfl (cell_blk hkb2 rfl)) ⟨Below.refl _ _, rfl, nofr rfl⟩
        refine ⟨fun wu7 hC hd => ?_, ?_⟩
        · clear hd
          replace hb := hb.trans (hC.mono hb.size)
          replace hkb1 := blk_ext hkb1 hC
          replace hkb2 := blk_ext hkb2 hC
          exact Runs.does (r_move rfl) ⟨Below.refl _ _, rfl, nofr rfl⟩
        refine ⟨fun wu8 hC hd => ?_, ?_⟩
        · obtain ⟨h6, h7, _⟩ := hd
          skip
          skip
          replace h6 : V 6 = (.slice (some ⟨ab2, aoff2, none⟩) st.N.length cN2) := h6
          replace h7 : V 7 = (.int .i64 ((nx : Nat) : Int)) := h7
          replace hb := hb.trans (hC.mono hb.size)
          replace hkb1 := blk_ext hkb1 hC
          replace hkb2 := blk_ext hkb2 hC
          exact Runs.does (r_ixa (sz := 1) (j := nx) (congrArg some h6) (congrArg some h7) Try.underlying41 (by kernel_rfl) rfl (by omega) rfl) ⟨Below.refl _ _, rfl, nofr rfl⟩
        refine ⟨fun wu9 hC hd => ?_, ?_⟩
        · obtain ⟨h8, _⟩ := hd
          skip
          replace h8 : V 8 = (.pointer (some ⟨ab2, (aoff2 + nx * 1), none⟩)) := h8
          replace hb := hb.trans (hC.mono hb.size)
          replace hkb1 := blk_ext hkb1 hC
          replace hkb2 := blk_ext hkb2 hC
          exact Runs.does (r_load (v := (.int .i64 yy)) (congrArg some h8) Try.underlying3 rfl (cellsAt_cell (cellsAt_below hel2 hb hlb2) (i := 0) rfl rfl)) ⟨Below.refl _ _, rfl, nofr rfl⟩
        refine ⟨fun wu10 hC hd => ?_, ?_⟩
        · obtain ⟨h4, h9, _⟩ := hd
          skip
          skip
          replace h4 : V 4 = (.int .i64 yy) := h4
          replace h9 : V 9 = (.int .i64 yy) := h9
          replace hb := hb.trans (hC.mono hb.size)
          replace hkb1 := blk_ext hkb1 hC
          replace hkb2 := blk_ext hkb2 hC
          exact Runs.does (Runs.veq (r_ne (congrArg some h4) (congrArg some h9)) (congrArg Value.bool (show _ = false from (by simp)))) ⟨Below.refl _ _, rfl, nofr rfl⟩
        trivial
      · skip
        clear hf fa; intro V w4 fa he3 hp hnb hf
        have hv0 : V 0 = (.pointer (some ⟨b1, 1, none⟩)) := postsHold_at hp 0 rfl
        have hv1 : V 1 = (.slice (some ⟨ab1, aoff1, none⟩) st.N.length cN) := postsHold_at hp 1 rfl
        have hv2 : V 2 = (.int .i64 ((nx : Nat) : Int)) := postsHold_at hp 2 rfl
        have hv3 : V 3 = (.pointer (some ⟨ab1, (aoff1 + nx * 1), none⟩)) := postsHold_at hp 3 rfl
        have hv4 : V 4 = (.int .i64 yy) := postsHold_at hp 4 rfl
        have hv5 : V 5 = (.pointer (some ⟨b2, 1, none⟩)) := postsHold_at hp 5 rfl
        have hv6 : V 6 = (.slice (some ⟨ab2, aoff2, none⟩) st.N.length cN2) := postsHold_at hp 6 rfl
        have hv7 : V 7 = (.int .i64 ((nx : Nat) : Int)) := postsHold_at hp 7 rfl
        have hv8 : V 8 = (.pointer (some ⟨ab2, (aoff2 + nx * 1), none⟩)) := postsHold_at hp 8 rfl
        have hv9 : V 9 = (.int .i64 yy) := postsHold_at hp 9 rfl
        have hv10 : V 10 = (.bool false) := postsHold_at hp 10 rfl
        simp only [List.take_succ_cons, List.take_zero, insAll, ins, hv0, hv1, hv2, hv3, hv4, hv5, hv6, hv7, hv8, hv9, hv10] at hf
        clear hp hnb hv0 hv1 hv2 hv3 hv4 hv5 hv6 hv7 hv8 hv9 hv10
        replace hkb1 := blk_ext hkb1 he3
        replace hkb2 := blk_ext hkb2 he3
        replace hb := hb.trans (Below.mono he3 hb.size)
        (try simp only [Exit.then, Exit.inBlock, ↓reduceIte, Nat.reduceEqDiff])
        refine hK9 _ _ ?_
        refine wp_cond_false (hf.ev rfl) ?_
        refine wp_skip ?_
        (try simp only [Exit.then, Exit.inBlock, ↓reduceIte, Nat.reduceEqDiff])
        refine hK8 _ _ ?_
        refine wp_region_lit ?_
        refine sqv hf (r_move rfl) rfl rfl rfl ?_; clear hf fa; intro fa hf
        refine sqv hf (r_add (C := (((nx : Nat) : Int) + (1 : Int))) rfl rfl (by rw [IntKind.wrap_i64]; omega)) rfl rfl rfl ?_; clear hf fa; intro fa hf
        refine sqv hf (r_assign rfl) rfl rfl rfl ?_; clear hf fa; intro fa hf
        apply wpList_nil
        (try simp only [Exit.then, Exit.inBlock, ↓reduceIte, Nat.reduceEqDiff])
        refine hKL1 _ _ _ (by omega) ⟨(nx + 1), rfl, hf.sub ⟨rfl, rfl, (some_int (by first | rfl | omega)), trivial⟩, hb, hkb1, hkb2, by omega⟩
    · have hqt53_1b := hqt53_1
      replace hqt53_1 := Bool.eq_false_iff.1 hqt53_1
      try simp only [ne_eq, decide_eq_true_eq, Bool.and_eq_true, Bool.or_eq_true, Bool.not_eq_true', decide_eq_false_iff_not] at hqt53_1
      refine wp_exit ?_
      (try simp only [Exit.then, Exit.inBlock, ↓reduceIte, Nat.reduceEqDiff])
      refine hK4 _ _ ?_
      refine wp_seq_k (fun K10 hK10 => ?_)
      refine wp_seq_k (fun K11 hK11 => ?_)
      refine wp_region_lit ?_
      refine sqv hf (r_assign rfl) rfl rfl rfl ?_; clear hf fa; intro fa hf
      apply wpList_nil
      (try simp only [Exit.then, Exit.inBlock, ↓reduceIte, Nat.reduceEqDiff])
      refine hK11 _ _ ?_
      refine wp_block ?_
      refine wp_loop_k (fun mq fa wr => ∃ (ny : Nat), mq = st.S.length - ny ∧ Fr 103 fa [(2, (.pointer (some ⟨b1, 0, none⟩))), (3, (.pointer (some ⟨b2, 0, none⟩))), (6, (.int .i64 ((ny : Nat) : Int)))] ∧ Below w.heap.size w wr ∧ wr.heap[b1]? = some (.cells #[(.int .i64 k), (.slice aN st.N.length cN), (.slice aS st.S.length cS), (.slice aA st.A.length cA), (.slice aD st.D.length cD)] 49 (0, 0)) ∧ wr.heap[b2]? = some (.cells #[(.int .i64 k), (.slice aN2 st.N.length cN2), (.slice aS2 st.S.length cS2), (.slice aA2 st.A.length cA2), (.slice aD2 st.D.length cD2)] 49 (0, 0)) ∧ (ny ≤ st.S.length)) ?_ ?_
      · skip
        exact ⟨_, 0, rfl, hf.sub ⟨rfl, rfl, (some_int (by first | rfl | omega)), trivial⟩, hb, hkb1, hkb2, by omega⟩
      · skip
        clear hf fa; intro mq2 fa w5 hI KL2 hKL2
        clear hb
        clear hkb1
        clear hkb2
        obtain ⟨ny, hmq2, hf, hb, hkb1, hkb2, hny⟩ := hI
        refine wp_seq_k (fun K12 hK12 => ?_)
        refine wp_seq_k (fun K13 hK13 => ?_)
        refine wp_region_lit ?_
        refine sqv hf (r_move rfl) rfl rfl rfl ?_; clear hf fa; intro fa hf
        refine sqv hf (r_fa rfl Try.underlying49 (f := 2) (q := 2) rfl (by kernel_rfl) rfl) rfl rfl rfl ?_; clear hf fa; intro fa hf
        refine sqv hf (r_load (v := (.slice aS st.S.length cS)) rfl Try.underlying32 rfl (cell_blk hkb1 rfl)) rfl rfl rfl ?_; clear hf fa; intro fa hf
        refine sqv hf (r_lensl rfl Try.underlying32) rfl rfl rfl ?_; clear hf fa; intro fa hf
        refine sqv hf (r_lt rfl rfl) rfl rfl rfl ?_; clear hf fa; intro fa hf
        apply wpList_nil
        (try simp only [Exit.then, Exit.inBlock, ↓reduceIte, Nat.reduceEqDiff])
        refine hK13 _ _ ?_
        refine wp_cond_split (t := (decide (((ny : Nat) : Int) < ((st.S.length : Nat) : Int)))) (hf.ev rfl) (fun hqt71_1 => ?_) (fun hqt71_1 => ?_)
        · have hqt71_1b := hqt71_1
          try simp only [decide_eq_true_eq, Bool.and_eq_true, Bool.or_eq_true, Bool.not_eq_true', decide_eq_false_iff_not, ne_eq, Bool.not_eq_true] at hqt71_1
          refine wp_skip ?_
          (try simp only [Exit.then, Exit.inBlock, ↓reduceIte, Nat.reduceEqDiff])
          refine hK12 _ _ ?_
          refine wp_seq_k (fun K14 hK14 => ?_)
          refine wp_block ?_
          refine wp_seq_k (fun K15 hK15 => ?_)
          obtain ⟨yy, hyy⟩ : ∃ x, st.S[ny]? = some x := ⟨_, List.getElem?_eq_getElem (by omega)⟩
          have hy3 : (st.S)[ny]? = some yy := hyy
          obtain ⟨ab3, aoff3, rfl, hlb3, hel3⟩ := RdS.at hF.2.1 hy3
          have hy4 : (st.S)[ny]? = some yy := hyy
          obtain ⟨ab4, aoff4, rfl, hlb4, hel4⟩ := RdS.at hF2.2.1 hy4
          refine wp_region_un (fun wq => Below w5.heap.size w5 wq) (fun w w' => Below w.heap.size w w')
            (fun V => [(fun x _ => x = (.pointer (some ⟨b1, 2, none⟩))), (fun x _ => x = (.slice (some ⟨ab3, aoff3, none⟩) st.S.length cS)), (fun x _ => x = (.int .i64 ((ny : Nat) : Int))), (fun x _ => x = (.pointer (some ⟨ab3, (aoff3 + ny * 1), none⟩))), (fun x _ => x = (.string yy)), (fun x _ => x = (.pointer (some ⟨b2, 2, none⟩))), (fun x _ => x = (.slice (some ⟨ab4, aoff4, none⟩) st.S.length cS2)), (fun x _ => x = (.int .i64 ((ny : Nat) : Int))), (fun x _ => x = (.pointer (some ⟨ab4, (aoff4 + ny * 1), none⟩))), (fun x _ => x = (.string yy)), (fun x _ => x = (.bool false))])
            []
            [[], [0], [], [1, 2], [3], [], [5], [], [6, 7], [8], [4, 9]]
            hf (by kernel_rfl) (by kernel_rfl) (fun _ => rfl) ((Below.refl _ _).drew) (fun a b h1 h2 => h1.trans (h2.mono h1.size)) (fun _ _ h => h.size) (fun V => ⟨kept_eq, kept_eq, kept_eq, kept_eq, kept_eq, kept_eq, kept_eq, kept_eq, kept_eq, kept_eq, kept_eq, trivial⟩) (fun _ _ _ _ _ => rfl) ?_ ?_
          · skip
            intro V
            refine ⟨fun wu0 hC hd => ?_, ?_⟩
            · clear hd
              replace hb := hb.trans (hC.mono hb.size)
              replace hkb1 := blk_ext hkb1 hC
              replace hkb2 := blk_ext hkb2 hC
              exact Runs.does (r_fa rfl Try.underlying49 (f := 2) (q := 2) rfl (by kernel_rfl) rfl) ⟨Below.refl _ _, rfl, nofr rfl⟩
            refine ⟨fun wu1 hC hd => ?_, ?_⟩
            · obtain ⟨h0, _⟩ := hd
              skip
              replace h0 : V 0 = (.pointer (some ⟨b1, 2, none⟩)) := h0
              replace hb := hb.trans (hC.mono hb.size)
              replace hkb1 := blk_ext hkb1 hC
              replace hkb2 := blk_ext hkb2 hC
              exact Runs.does (r_load (v := (.slice (some ⟨ab3, aoff3, none⟩) st.S.length cS)) (congrArg some h0) Try.underlying32 rfl (cell_blk hkb1 rfl)) ⟨Below.refl _ _, rfl, nofr rfl⟩
            refine ⟨fun wu2 hC hd => ?_, ?_⟩
            · clear hd
              replace hb := hb.trans (hC.mono hb.size)
              replace hkb1 := blk_ext hkb1 hC
              replace hkb2 := blk_ext hkb2 hC
              exact Runs.does (r_move rfl) ⟨Below.refl _ _, rfl, nofr rfl⟩
            refine ⟨fun wu3 hC hd => ?_, ?_⟩
            · obtain ⟨h1, h2, _⟩ := hd
              skip
              skip
              replace h1 : V 1 = (.slice (some ⟨ab3, aoff3, none⟩) st.S.length cS) := h1
              replace h2 : V 2 = (.int .i64 ((ny : Nat) : Int)) := h2
              replace hb := hb.trans (hC.mono hb.size)
              replace hkb1 := blk_ext hkb1 hC
              replace hkb2 := blk_ext hkb2 hC
              exact Runs.does (r_ixa (sz := 1) (j := ny) (congrArg some h1) (congrArg some h2) Try.underlying32 (by kernel_rfl) rfl (by omega) rfl) ⟨Below.refl _ _, rfl, nofr rfl⟩
            refine ⟨fun wu4 hC hd => ?_, ?_⟩
            · obtain ⟨h3, _⟩ := hd
              skip
              replace h3 : V 3 = (.pointer (some ⟨ab3, (aoff3 + ny * 1), none⟩)) := h3
              replace hb := hb.trans (hC.mono hb.size)
              replace hkb1 := blk_ext hkb1 hC
              replace hkb2 := blk_ext hkb2 hC
              exact Runs.does (r_load (v := (.string yy)) (congrArg some h3) Try.underlying9 rfl (cellsAt_cell (cellsAt_below hel3 hb hlb3) (i := 0) rfl rfl)) ⟨Below.refl _ _, rfl, nofr rfl⟩
            refine ⟨fun wu5 hC hd => ?_, ?_⟩
            · clear hd
              replace hb := hb.trans (hC.mono hb.size)
              replace hkb1 := blk_ext hkb1 hC
              replace hkb2 := blk_ext hkb2 hC
              exact Runs.does (r_fa rfl Try.underlying49 (f := 2) (q := 2) rfl (by kernel_rfl) rfl) ⟨Below.refl _ _, rfl, nofr rfl⟩
            refine ⟨fun wu6 hC hd => ?_, ?_⟩
            · obtain ⟨h5, _⟩ := hd
              skip
              replace h5 : V 5 = (.pointer (some ⟨b2, 2, none⟩)) := h5
              replace hb := hb.trans (hC.mono hb.size)
              replace hkb1 := blk_ext hkb1 hC
              replace hkb2 := blk_ext hkb2 hC
              exact Runs.does (r_load (v := (.slice (some ⟨ab4, aoff4, none⟩) st.S.length cS2)) (congrArg some h5) Try.underlying32 rfl (cell_blk hkb2 rfl)) ⟨Below.refl _ _, rfl, nofr rfl⟩
            refine ⟨fun wu7 hC hd => ?_, ?_⟩
            · clear hd
              replace hb := hb.trans (hC.mono hb.size)
              replace hkb1 := blk_ext hkb1 hC
              replace hkb2 := blk_ext hkb2 hC
              exact Runs.does (r_move rfl) ⟨Below.refl _ _, rfl, nofr rfl⟩
            refine ⟨fun wu8 hC hd => ?_, ?_⟩
            · obtain ⟨h6, h7, _⟩ := hd
              skip
              skip
              replace h6 : V 6 = (.slice (some ⟨ab4, aoff4, none⟩) st.S.length cS2) := h6
              replace h7 : V 7 = (.int .i64 ((ny : Nat) : Int)) := h7
              replace hb := hb.trans (hC.mono hb.size)
              replace hkb1 := blk_ext hkb1 hC
              replace hkb2 := blk_ext hkb2 hC
              exact Runs.does (r_ixa (sz := 1) (j := ny) (congrArg some h6) (congrArg some h7) Try.underlying32 (by kernel_rfl) rfl (by omega) rfl) ⟨Below.refl _ _, rfl, nofr rfl⟩
            refine ⟨fun wu9 hC hd => ?_, ?_⟩
            · obtain ⟨h8, _⟩ := hd
              skip
              replace h8 : V 8 = (.pointer (some ⟨ab4, (aoff4 + ny * 1), none⟩)) := h8
              replace hb := hb.trans (hC.mono hb.size)
              replace hkb1 := blk_ext hkb1 hC
              replace hkb2 := blk_ext hkb2 hC
              exact Runs.does (r_load (v := (.string yy)) (congrArg some h8) Try.underlying9 rfl (cellsAt_cell (cellsAt_below hel4 hb hlb4) (i := 0) rfl rfl)) ⟨Below.refl _ _, rfl, nofr rfl⟩
            refine ⟨fun wu10 hC hd => ?_, ?_⟩
            · obtain ⟨h4, h9, _⟩ := hd
              skip
              skip
              replace h4 : V 4 = (.string yy) := h4
              replace h9 : V 9 = (.string yy) := h9
              replace hb := hb.trans (hC.mono hb.size)
              replace hkb1 := blk_ext hkb1 hC
              replace hkb2 := blk_ext hkb2 hC
              exact Runs.does (Runs.veq (r_sne (congrArg some h4) (congrArg some h9)) (congrArg Value.bool (show _ = false from (by simp)))) ⟨Below.refl _ _, rfl, nofr rfl⟩
            trivial
          · skip
            clear hf fa; intro V w6 fa he4 hp hnb hf
            have hv0 : V 0 = (.pointer (some ⟨b1, 2, none⟩)) := postsHold_at hp 0 rfl
            have hv1 : V 1 = (.slice (some ⟨ab3, aoff3, none⟩) st.S.length cS) := postsHold_at hp 1 rfl
            have hv2 : V 2 = (.int .i64 ((ny : Nat) : Int)) := postsHold_at hp 2 rfl
            have hv3 : V 3 = (.pointer (some ⟨ab3, (aoff3 + ny * 1), none⟩)) := postsHold_at hp 3 rfl
            have hv4 : V 4 = (.string yy) := postsHold_at hp 4 rfl
            have hv5 : V 5 = (.pointer (some ⟨b2, 2, none⟩)) := postsHold_at hp 5 rfl
            have hv6 : V 6 = (.slice (some ⟨ab4, aoff4, none⟩) st.S.length cS2) := postsHold_at hp 6 rfl
            have hv7 : V 7 = (.int .i64 ((ny : Nat) : Int)) := postsHold_at hp 7 rfl
            have hv8 : V 8 = (.pointer (some ⟨ab4, (aoff4 + ny * 1), none⟩)) := postsHold_at hp 8 rfl
            have hv9 : V 9 = (.string yy) := postsHold_at hp 9 rfl
            have hv10 : V 10 = (.bool false) := postsHold_at hp 10 rfl
            simp only [List.take_succ_cons, List.take_zero, insAll, ins, hv0, hv1, hv2, hv3, hv4, hv5, hv6, hv7, hv8, hv9, hv10] at hf
            clear hp hnb hv0 hv1 hv2 hv3 hv4 hv5 hv6 hv7 hv8 hv9 hv10
            replace hkb1 := blk_ext hkb1 he4
            replace hkb2 := blk_ext hkb2 he4
            replace hb := hb.trans (Below.mono he4 hb.size)
            (try simp only [Exit.then, Exit.inBlock, ↓reduceIte, Nat.reduceEqDiff])
            refine hK15 _ _ ?_
            refine wp_cond_false (hf.ev rfl) ?_
            refine wp_skip ?_
            (try simp only [Exit.then, Exit.inBlock, ↓reduceIte, Nat.reduceEqDiff])
            refine hK14 _ _ ?_
            refine wp_region_lit ?_
            refine sqv hf (r_move rfl) rfl rfl rfl ?_; clear hf fa; intro fa hf
            refine sqv hf (r_add (C := (((ny : Nat) : Int) + (1 : Int))) rfl rfl (by rw [IntKind.wrap_i64]; omega)) rfl rfl rfl ?_; clear hf fa; intro fa hf
            refine sqv hf (r_assign rfl) rfl rfl rfl ?_; clear hf fa; intro fa hf
            apply wpList_nil
            (try simp only [Exit.then, Exit.inBlock, ↓reduceIte, Nat.reduceEqDiff])
            refine hKL2 _ _ _ (by omega) ⟨(ny + 1), rfl, hf.sub ⟨rfl, rfl, (some_int (by first | rfl | omega)), trivial⟩, hb, hkb1, hkb2, by omega⟩
        · have hqt71_1b := hqt71_1
          replace hqt71_1 := Bool.eq_false_iff.1 hqt71_1
          try simp only [ne_eq, decide_eq_true_eq, Bool.and_eq_true, Bool.or_eq_true, Bool.not_eq_true', decide_eq_false_iff_not] at hqt71_1
          refine wp_exit ?_
          (try simp only [Exit.then, Exit.inBlock, ↓reduceIte, Nat.reduceEqDiff])
          refine hK10 _ _ ?_
          refine wp_seq_k (fun K16 hK16 => ?_)
          refine wp_seq_k (fun K17 hK17 => ?_)
          refine wp_region_lit ?_
          refine sqv hf (r_assign rfl) rfl rfl rfl ?_; clear hf fa; intro fa hf
          apply wpList_nil
          (try simp only [Exit.then, Exit.inBlock, ↓reduceIte, Nat.reduceEqDiff])
          refine hK17 _ _ ?_
          refine wp_block ?_
          refine wp_loop_k (fun mq fa wr => ∃ (nz : Nat), mq = st.A.length - nz ∧ Fr 103 fa [(2, (.pointer (some ⟨b1, 0, none⟩))), (3, (.pointer (some ⟨b2, 0, none⟩))), (7, (.int .i64 ((nz : Nat) : Int)))] ∧ Below w.heap.size w wr ∧ wr.heap[b1]? = some (.cells #[(.int .i64 k), (.slice aN st.N.length cN), (.slice aS st.S.length cS), (.slice aA st.A.length cA), (.slice aD st.D.length cD)] 49 (0, 0)) ∧ wr.heap[b2]? = some (.cells #[(.int .i64 k), (.slice aN2 st.N.length cN2), (.slice aS2 st.S.length cS2), (.slice aA2 st.A.length cA2), (.slice aD2 st.D.length cD2)] 49 (0, 0)) ∧ (nz ≤ st.A.length)) ?_ ?_
          · skip
            exact ⟨_, 0, rfl, hf.sub ⟨rfl, rfl, (some_int (by first | rfl | omega)), trivial⟩, hb, hkb1, hkb2, by omega⟩
          · skip
            clear hf fa; intro mq3 fa w7 hI KL3 hKL3
            clear hb
            clear hkb1
            clear hkb2
            obtain ⟨nz, hmq3, hf, hb, hkb1, hkb2, hnz⟩ := hI
            refine wp_seq_k (fun K18 hK18 => ?_)
            refine wp_seq_k (fun K19 hK19 => ?_)
            refine wp_region_lit ?_
            refine sqv hf (r_move rfl) rfl rfl rfl ?_; clear hf fa; intro fa hf
            refine sqv hf (r_fa rfl Try.underlying49 (f := 3) (q := 3) rfl (by kernel_rfl) rfl) rfl rfl rfl ?_; clear hf fa; intro fa hf
            refine sqv hf (r_load (v := (.slice aA st.A.length cA)) rfl Try.underlying42 rfl (cell_blk hkb1 rfl)) rfl rfl rfl ?_; clear hf fa; intro fa hf
            refine sqv hf (r_lensl rfl Try.underlying42) rfl rfl rfl ?_; clear hf fa; intro fa hf
            refine sqv hf (r_lt rfl rfl) rfl rfl rfl ?_; clear hf fa; intro fa hf
            apply wpList_nil
            (try simp only [Exit.then, Exit.inBlock, ↓reduceIte, Nat.reduceEqDiff])
            refine hK19 _ _ ?_
            refine wp_cond_split (t := (decide (((nz : Nat) : Int) < ((st.A.length : Nat) : Int)))) (hf.ev rfl) (fun hqt89_1 => ?_) (fun hqt89_1 => ?_)
            · have hqt89_1b := hqt89_1
              try simp only [decide_eq_true_eq, Bool.and_eq_true, Bool.or_eq_true, Bool.not_eq_true', decide_eq_false_iff_not, ne_eq, Bool.not_eq_true] at hqt89_1
              refine wp_skip ?_
              (try simp only [Exit.then, Exit.inBlock, ↓reduceIte, Nat.reduceEqDiff])
              refine hK18 _ _ ?_
              refine wp_seq_k (fun K20 hK20 => ?_)
              refine wp_block ?_
              refine wp_seq_k (fun K21 hK21 => ?_)
              obtain ⟨yy, hyy⟩ : ∃ x, st.A[nz]? = some x := ⟨_, List.getElem?_eq_getElem (by omega)⟩
              have hy5 : (st.A)[nz]? = some yy := hyy
              obtain ⟨ab5, aoff5, rfl, hlb5, hel5⟩ := RdS.at hF.2.2.1 hy5
              have hy6 : (st.A)[nz]? = some yy := hyy
              obtain ⟨ab6, aoff6, rfl, hlb6, hel6⟩ := RdS.at hF2.2.2.1 hy6
              refine wp_region_un (fun wq => Below w7.heap.size w7 wq) (fun w w' => Below w.heap.size w w')
                (fun V => [(fun x _ => x = (.pointer (some ⟨b1, 3, none⟩))), (fun x _ => x = (.slice (some ⟨ab5, aoff5, none⟩) st.A.length cA)), (fun x _ => x = (.int .i64 ((nz : Nat) : Int))), (fun x _ => x = (.pointer (some ⟨ab5, (aoff5 + nz * 2), none⟩))), (fun x _ => x = (.agg #[(.int .u8 yy.1), (.int .u64 yy.2.1)])), (fun x _ => x = (.pointer (some ⟨b2, 3, none⟩))), (fun x _ => x = (.slice (some ⟨ab6, aoff6, none⟩) st.A.length cA2)), (fun x _ => x = (.int .i64 ((nz : Nat) : Int))), (fun x _ => x = (.pointer (some ⟨ab6, (aoff6 + nz * 2), none⟩))), (fun x _ => x = (.agg #[(.int .u8 yy.1), (.int .u64 yy.2.1)])), (fun x _ => x = (.bool false))])
                []
                [[], [0], [], [1, 2], [3], [], [5], [], [6, 7], [8], [4, 9]]
                hf (by kernel_rfl) (by kernel_rfl) (fun _ => rfl) ((Below.refl _ _).drew) (fun a b h1 h2 => h1.trans (h2.mono h1.size)) (fun _ _ h => h.size) (fun V => ⟨kept_eq, kept_eq, kept_eq, kept_eq, kept_eq, kept_eq, kept_eq, kept_eq, kept_eq, kept_eq, kept_eq, trivial⟩) (fun _ _ _ _ _ => rfl) ?_ ?_
              · skip
                intro V
                refine ⟨fun wu0 hC hd => ?_, ?_⟩
                · clear hd
                  replace hb := hb.trans (hC.mono hb.size)
                  replace hkb1 := blk_ext hkb1 hC
                  replace hkb2 := blk_ext hkb2 hC
                  exact Runs.does (r_fa rfl Try.underlying49 (f := 3) (q := 3) rfl (by kernel_rfl) rfl) ⟨Below.refl _ _, rfl, nofr rfl⟩
                refine ⟨fun wu1 hC hd => ?_, ?_⟩
                · obtain ⟨h0, _⟩ := hd
                  skip
                  replace h0 : V 0 = (.pointer (some ⟨b1, 3, none⟩)) := h0
                  replace hb := hb.trans (hC.mono hb.size)
                  replace hkb1 := blk_ext hkb1 hC
                  replace hkb2 := blk_ext hkb2 hC
                  exact Runs.does (r_load (v := (.slice (some ⟨ab5, aoff5, none⟩) st.A.length cA)) (congrArg some h0) Try.underlying42 rfl (cell_blk hkb1 rfl)) ⟨Below.refl _ _, rfl, nofr rfl⟩
                refine ⟨fun wu2 hC hd => ?_, ?_⟩
                · clear hd
                  replace hb := hb.trans (hC.mono hb.size)
                  replace hkb1 := blk_ext hkb1 hC
                  replace hkb2 := blk_ext hkb2 hC
                  exact Runs.does (r_move rfl) ⟨Below.refl _ _, rfl, nofr rfl⟩
                refine ⟨fun wu3 hC hd => ?_, ?_⟩
                · obtain ⟨h1, h2, _⟩ := hd
                  skip
                  skip
                  replace h1 : V 1 = (.slice (some ⟨ab5, aoff5, none⟩) st.A.length cA) := h1
                  replace h2 : V 2 = (.int .i64 ((nz : Nat) : Int)) := h2
                  replace hb := hb.trans (hC.mono hb.size)
                  replace hkb1 := blk_ext hkb1 hC
                  replace hkb2 := blk_ext hkb2 hC
                  exact Runs.does (r_ixa (sz := 2) (j := nz) (congrArg some h1) (congrArg some h2) Try.underlying42 (by kernel_rfl) rfl (by omega) rfl) ⟨Below.refl _ _, rfl, nofr rfl⟩
                refine ⟨fun wu4 hC hd => ?_, ?_⟩
                · obtain ⟨h3, _⟩ := hd
                  skip
                  replace h3 : V 3 = (.pointer (some ⟨ab5, (aoff5 + nz * 2), none⟩)) := h3
                  replace hb := hb.trans (hC.mono hb.size)
                  replace hkb1 := blk_ext hkb1 hC
                  replace hkb2 := blk_ext hkb2 hC
                  exact Runs.does (r_loadA (cs := [(.int .u8 yy.1), (.int .u64 yy.2.1)]) (congrArg some h3) Try.underlying65 rfl (by kernel_rfl) (cellsAt_below hel5 hb hlb5)) ⟨Below.refl _ _, rfl, nofr rfl⟩
                refine ⟨fun wu5 hC hd => ?_, ?_⟩
                · clear hd
                  replace hb := hb.trans (hC.mono hb.size)
                  replace hkb1 := blk_ext hkb1 hC
                  replace hkb2 := blk_ext hkb2 hC
                  exact Runs.does (r_fa rfl Try.underlying49 (f := 3) (q := 3) rfl (by kernel_rfl) rfl) ⟨Below.refl _ _, rfl, nofr rfl⟩
                refine ⟨fun wu6 hC hd => ?_, ?_⟩
                · obtain ⟨h5, _⟩ := hd
                  skip
                  replace h5 : V 5 = (.pointer (some ⟨b2, 3, none⟩)) := h5
                  replace hb := hb.trans (hC.mono hb.size)
                  replace hkb1 := blk_ext hkb1 hC
                  replace hkb2 := blk_ext hkb2 hC
                  exact Runs.does (r_load (v := (.slice (some ⟨ab6, aoff6, none⟩) st.A.length cA2)) (congrArg some h5) Try.underlying42 rfl (cell_blk hkb2 rfl)) ⟨Below.refl _ _, rfl, nofr rfl⟩
                refine ⟨fun wu7 hC hd => ?_, ?_⟩
                · clear hd
                  replace hb := hb.trans (hC.mono hb.size)
                  replace hkb1 := blk_ext hkb1 hC
                  replace hkb2 := blk_ext hkb2 hC
                  exact Runs.does (r_move rfl) ⟨Below.refl _ _, rfl, nofr rfl⟩
                refine ⟨fun wu8 hC hd => ?_, ?_⟩
                · obtain ⟨h6, h7, _⟩ := hd
                  skip
                  skip
                  replace h6 : V 6 = (.slice (some ⟨ab6, aoff6, none⟩) st.A.length cA2) := h6
                  replace h7 : V 7 = (.int .i64 ((nz : Nat) : Int)) := h7
                  replace hb := hb.trans (hC.mono hb.size)
                  replace hkb1 := blk_ext hkb1 hC
                  replace hkb2 := blk_ext hkb2 hC
                  exact Runs.does (r_ixa (sz := 2) (j := nz) (congrArg some h6) (congrArg some h7) Try.underlying42 (by kernel_rfl) rfl (by omega) rfl) ⟨Below.refl _ _, rfl, nofr rfl⟩
                refine ⟨fun wu9 hC hd => ?_, ?_⟩
                · obtain ⟨h8, _⟩ := hd
                  skip
                  replace h8 : V 8 = (.pointer (some ⟨ab6, (aoff6 + nz * 2), none⟩)) := h8
                  replace hb := hb.trans (hC.mono hb.size)
                  replace hkb1 := blk_ext hkb1 hC
                  replace hkb2 := blk_ext hkb2 hC
                  exact Runs.does (r_loadA (cs := [(.int .u8 yy.1), (.int .u64 yy.2.1)]) (congrArg some h8) Try.underlying65 rfl (by kernel_rfl) (cellsAt_below hel6 hb hlb6)) ⟨Below.refl _ _, rfl, nofr rfl⟩
                refine ⟨fun wu10 hC hd => ?_, ?_⟩
                · obtain ⟨h4, h9, _⟩ := hd
                  skip
                  skip
                  replace h4 : V 4 = (.agg #[(.int .u8 yy.1), (.int .u64 yy.2.1)]) := h4
                  replace h9 : V 9 = (.agg #[(.int .u8 yy.1), (.int .u64 yy.2.1)]) := h9
                  replace hb := hb.trans (hC.mono hb.size)
                  replace hkb1 := blk_ext hkb1 hC
                  replace hkb2 := blk_ext hkb2 hC
                  exact Runs.does (Runs.veq (r_ane (k := 5) (congrArg some h4) (congrArg some h9) (by kernel_rfl) (eqt_struct (xs := #[(.int .u8 yy.1), (.int .u64 yy.2.1)]) (ys := #[(.int .u8 yy.1), (.int .u64 yy.2.1)]) Try.underlying65 (by kernel_rfl) (eqf_cons (by kernel_rfl) (fun _ => by kernel_rfl) (fun _ => by kernel_rfl) (eqt_int (kk := .u8) (a := yy.1) (b := yy.1) Try.underlying5) (eqf_one (by kernel_rfl) (fun _ => by kernel_rfl) (fun _ => by kernel_rfl) (eqt_int (kk := .u64) (a := yy.2.1) (b := yy.2.1) Try.underlying63)))) rfl) (congrArg Value.bool (show _ = false from (by simp)))) ⟨Below.refl _ _, rfl, nofr rfl⟩
                trivial
              · skip
                clear hf fa; intro V w8 fa he5 hp hnb hf
                have hv0 : V 0 = (.pointer (some ⟨b1, 3, none⟩)) := postsHold_at hp 0 rfl
                have hv1 : V 1 = (.slice (some ⟨ab5, aoff5, none⟩) st.A.length cA) := postsHold_at hp 1 rfl
                have hv2 : V 2 = (.int .i64 ((nz : Nat) : Int)) := postsHold_at hp 2 rfl
                have hv3 : V 3 = (.pointer (some ⟨ab5, (aoff5 + nz * 2), none⟩)) := postsHold_at hp 3 rfl
                have hv4 : V 4 = (.agg #[(.int .u8 yy.1), (.int .u64 yy.2.1)]) := postsHold_at hp 4 rfl
                have hv5 : V 5 = (.pointer (some ⟨b2, 3, none⟩)) := postsHold_at hp 5 rfl
                have hv6 : V 6 = (.slice (some ⟨ab6, aoff6, none⟩) st.A.length cA2) := postsHold_at hp 6 rfl
                have hv7 : V 7 = (.int .i64 ((nz : Nat) : Int)) := postsHold_at hp 7 rfl
                have hv8 : V 8 = (.pointer (some ⟨ab6, (aoff6 + nz * 2), none⟩)) := postsHold_at hp 8 rfl
                have hv9 : V 9 = (.agg #[(.int .u8 yy.1), (.int .u64 yy.2.1)]) := postsHold_at hp 9 rfl
                have hv10 : V 10 = (.bool false) := postsHold_at hp 10 rfl
                simp only [List.take_succ_cons, List.take_zero, insAll, ins, hv0, hv1, hv2, hv3, hv4, hv5, hv6, hv7, hv8, hv9, hv10] at hf
                clear hp hnb hv0 hv1 hv2 hv3 hv4 hv5 hv6 hv7 hv8 hv9 hv10
                replace hkb1 := blk_ext hkb1 he5
                replace hkb2 := blk_ext hkb2 he5
                replace hb := hb.trans (Below.mono he5 hb.size)
                (try simp only [Exit.then, Exit.inBlock, ↓reduceIte, Nat.reduceEqDiff])
                refine hK21 _ _ ?_
                refine wp_cond_false (hf.ev rfl) ?_
                refine wp_skip ?_
                (try simp only [Exit.then, Exit.inBlock, ↓reduceIte, Nat.reduceEqDiff])
                refine hK20 _ _ ?_
                refine wp_region_lit ?_
                refine sqv hf (r_move rfl) rfl rfl rfl ?_; clear hf fa; intro fa hf
                refine sqv hf (r_add (C := (((nz : Nat) : Int) + (1 : Int))) rfl rfl (by rw [IntKind.wrap_i64]; omega)) rfl rfl rfl ?_; clear hf fa; intro fa hf
                refine sqv hf (r_assign rfl) rfl rfl rfl ?_; clear hf fa; intro fa hf
                apply wpList_nil
                (try simp only [Exit.then, Exit.inBlock, ↓reduceIte, Nat.reduceEqDiff])
                refine hKL3 _ _ _ (by omega) ⟨(nz + 1), rfl, hf.sub ⟨rfl, rfl, (some_int (by first | rfl | omega)), trivial⟩, hb, hkb1, hkb2, by omega⟩
            · have hqt89_1b := hqt89_1
              replace hqt89_1 := Bool.eq_false_iff.1 hqt89_1
              try simp only [ne_eq, decide_eq_true_eq, Bool.and_eq_true, Bool.or_eq_true, Bool.not_eq_true', decide_eq_false_iff_not] at hqt89_1
              refine wp_exit ?_
              (try simp only [Exit.then, Exit.inBlock, ↓reduceIte, Nat.reduceEqDiff])
              refine hK16 _ _ ?_
              refine wp_seq_k (fun K22 hK22 => ?_)
              refine wp_region_lit ?_
              refine sqv hf (r_assign rfl) rfl rfl rfl ?_; clear hf fa; intro fa hf
              apply wpList_nil
              (try simp only [Exit.then, Exit.inBlock, ↓reduceIte, Nat.reduceEqDiff])
              refine hK22 _ _ ?_
              refine wp_ret ?_
              (try simp only [Exit.then, Exit.inBlock])
              refine ret1 hf rfl rfl ?_
              exact ⟨rfl, hb⟩
end Go.Proofs.Ytpalmpfkliepfaa

namespace Go.Proofs.Ytpalmpfkliepfaa
open Go.RowKit Ut
set_option linter.unusedVariables false
set_option linter.unusedSimpArgs false
theorem pieceP_len {r : List Nat} {pm : List Nat × List Nat} (h : pieceP r = some pm) : pm.1.length ≤ r.length ∧ pm.2.length < r.length := by
  unfold pieceP at h
  split at h
  · rename_i l
    simp only [Option.some.injEq] at h
    have := congrArg List.length (scanF_app false l)
    rw [List.length_append] at this
    rw [← h]; simp only [List.length_cons]; omega
  · cases h
theorem parse_inv : ∀ (fu : Nat) (f r : List Nat) (st st' : PSt) (m : Nat), OpB2 m st → r.length ≤ 30000 → parseP fu f r st = some st' → OpB2 (m + fu) st'
  | 0, _, _, _, _, _, _, _, h => by cases h
  | fu + 1, [], r, st, st', m, hB, _, h => by
    rw [parseP_nil] at h; cases h; exact hB.mono (by omega)
  | fu + 1, c :: f, r, st, st', m, hB, hr, h => by
    cases hp : pieceP r with
    | none =>
      rw [parseP_none hp] at h
      split at h
      · cases h; exact hB.mono (by omega)
      · cases h
    | some pm =>
      rw [parseP_some (p := pm.1) (m := pm.2) hp] at h
      have hl := pieceP_len hp
      split at h
      · rename_i ho
        have h2 := takeP_inv hB (by rw [strN_size]; omega) ho
        have := parse_inv fu _ pm.2 _ st' (m + 1) h2 (by omega) h
        rwa [show m + 1 + fu = m + (fu + 1) by omega] at this
      · cases h
theorem opP_B (l : ByteArray) (hl : l.size ≤ 20000) : OpB (opS (opP l)) := by
  have key : ∀ o, opP l = o → OpB (opS o) := by
    intro o ho
    cases o with
    | none => exact (OpB2.zero 0).toB (by omega)
    | some x =>
      unfold opP at ho
      split at ho
      · cases ho
      · rename_i st e
        have h := parse_inv _ _ _ _ st 0 (OpB2.zero 0) (by rw [List.length_drop, bl_length]; omega) e
        split at ho
        · simp only [Option.some.injEq] at ho
          rw [← ho]
          exact h.toB (by omega)
        · cases ho
  exact key _ rfl

set_option maxHeartbeats 1000000 in
set_option maxRecDepth 100000 in
theorem opParses_any (s : ByteArray) (w : World) : Calls Try.prog 5 #[(.string s)] w fun e w' => e = .returned (.bool true) ∧ Below w.heap.size w w' := by
  refine sx_enter (L := [(0, (.string s))]) Try.func5 rfl rfl rfl rfl (fun fa hf => ?_)
  have hb : Below w.heap.size w w := Below.refl _ _
  refine wp_seq_k (fun K1 hK1 => ?_)
  refine wp_region_lit ?_
  refine sqv hf (r_assign rfl) rfl rfl rfl ?_; clear hf fa; intro fa hf
  apply wpList_nil
  (try simp only [Exit.then, Exit.inBlock, ↓reduceIte, Nat.reduceEqDiff])
  refine hK1 _ _ ?_
  refine wp_seq_k (fun K2 hK2 => ?_)
  refine wp_seq_k (fun K3 hK3 => ?_)
  refine wp_region_lit ?_
  refine sqdt hf (d_callB (vs := []) rfl Try.func12 (by kernel_rfl) (by kernel_rfl) (awake44_any _)) rfl rfl rfl ?_; clear hf fa; rintro fa _ w1 ⟨rfl, he1⟩ hf
  replace hb := hb.trans (Below.mono he1 hb.size)
  refine sqv hf (Runs.veq (v' := (.bool false)) (r_not rfl) rfl) rfl rfl rfl ?_; clear hf fa; intro fa hf
  apply wpList_nil
  (try simp only [Exit.then, Exit.inBlock, ↓reduceIte, Nat.reduceEqDiff])
  refine hK3 _ _ ?_
  refine wp_cond_false (hf.ev rfl) ?_
  refine wp_skip ?_
  (try simp only [Exit.then, Exit.inBlock, ↓reduceIte, Nat.reduceEqDiff])
  refine hK2 _ _ ?_
  refine wp_seq_k (fun K4 hK4 => ?_)
  refine wp_seq_k (fun K5 hK5 => ?_)
  refine wp_region_lit ?_
  refine sqv hf (r_move rfl) rfl rfl rfl ?_; clear hf fa; intro fa hf
  refine sqv hf (r_lens rfl Try.underlying9) rfl rfl rfl ?_; clear hf fa; intro fa hf
  refine sqv hf (r_gt rfl rfl) rfl rfl rfl ?_; clear hf fa; intro fa hf
  apply wpList_nil
  (try simp only [Exit.then, Exit.inBlock, ↓reduceIte, Nat.reduceEqDiff])
  refine hK5 _ _ ?_
  refine wp_cond_split (t := (decide ((2000 : Int) < ((s.size : Nat) : Int)))) (hf.ev rfl) (fun hqt11_1 => ?_) (fun hqt11_1 => ?_)
  · have hqt11_1b := hqt11_1
    try simp only [decide_eq_true_eq, Bool.and_eq_true, Bool.or_eq_true, Bool.not_eq_true', decide_eq_false_iff_not, ne_eq, Bool.not_eq_true] at hqt11_1
    refine wp_seq_k (fun K6 hK6 => ?_)
    refine wp_region_lit ?_
    refine sqv hf (r_assign rfl) rfl rfl rfl ?_; clear hf fa; intro fa hf
    apply wpList_nil
    (try simp only [Exit.then, Exit.inBlock, ↓reduceIte, Nat.reduceEqDiff])
    refine hK6 _ _ ?_
    refine wp_ret ?_
    (try simp only [Exit.then, Exit.inBlock])
    refine ret1 hf rfl rfl ?_
    exact ⟨rfl, hb⟩
  · have hqt11_1b := hqt11_1
    replace hqt11_1 := Bool.eq_false_iff.1 hqt11_1
    try simp only [ne_eq, decide_eq_true_eq, Bool.and_eq_true, Bool.or_eq_true, Bool.not_eq_true', decide_eq_false_iff_not] at hqt11_1
    refine wp_skip ?_
    (try simp only [Exit.then, Exit.inBlock, ↓reduceIte, Nat.reduceEqDiff])
    refine hK4 _ _ ?_
    refine wp_seq_k (fun K7 hK7 => ?_)
    refine wp_region_lit ?_
    refine sqv hf (r_move rfl) rfl rfl rfl ?_; clear hf fa; intro fa hf
    refine sqdt hf (d_callX (vs := [(.string s)]) rfl Try.func21 (by kernel_rfl) (by kernel_rfl) (parse_y s w1 (by omega))) rfl rfl rfl ?_; clear hf fa; rintro fa _ w2 ⟨⟨aN, cN, aS, cS, aA, cA, aD, cD, rfl, hF⟩, he2⟩ hf
    replace hb := hb.trans (Below.mono he2 hb.size)
    have hbF : Below w2.heap.size w2 w2 := Below.refl _ _
    refine sqv hf (r_move rfl) rfl rfl rfl ?_; clear hf fa; intro fa hf
    refine sqv hf (r_extract rfl (i := 0) rfl) rfl rfl rfl ?_; clear hf fa; intro fa hf
    refine sqv hf (r_extract rfl (i := 1) rfl) rfl rfl rfl ?_; clear hf fa; intro fa hf
    refine sqdt hf (d_alloc (z := (.agg #[(.int .i64 (0 : Int)), (.slice none 0 0), (.slice none 0 0), (.slice none 0 0), (.slice none 0 0)])) (cs := #[(.int .i64 (0 : Int)), (.slice none 0 0), (.slice none 0 0), (.slice none 0 0), (.slice none 0 0)]) (by kernel_rfl) rfl) rfl rfl rfl ?_; clear hf fa; rintro fa _ w3 ⟨b1, rfl, hle1, hk1, he3⟩ hf
    have hBb1 : w.heap.size ≤ b1 := Nat.le_trans hb.size hle1
    have hUhbFb1 := Nat.le_trans hbF.size hle1
    replace hbF := hbF.trans (Below.mono he3 hbF.size)
    replace hb := hb.trans (Below.mono he3 hb.size)
    refine sqn hf (d_storeK (T := 45) (v := (.agg #[(.int .i64 ((opK (opP s)))), (.slice aN ((opS (opP s)).N.length) cN), (.slice aS ((opS (opP s)).S.length) cS), (.slice aA ((opS (opP s)).A.length) cA), (.slice aD ((opS (opP s)).D.length) cD)])) (cs := #[(.int .i64 (0 : Int)), (.slice none 0 0), (.slice none 0 0), (.slice none 0 0), (.slice none 0 0)]) (cs' := #[(.int .i64 ((opK (opP s)))), (.slice aN ((opS (opP s)).N.length) cN), (.slice aS ((opS (opP s)).S.length) cS), (.slice aA ((opS (opP s)).A.length) cA), (.slice aD ((opS (opP s)).D.length) cD)]) rfl rfl (by kernel_rfl) (by kernel_rfl) hk1 (by kernel_rfl) (by kernel_rfl)) rfl rfl ?_; clear hf fa; rintro fa _ w4 ⟨hk2, hg1⟩ hf
    replace hbF := hbF.trans (grown_below hg1 hbF.size (by omega))
    replace hb := hb.trans (grown_below hg1 hb.size hBb1)
    refine sqv hf (r_assign rfl) rfl rfl rfl ?_; clear hf fa; intro fa hf
    apply wpList_nil
    (try simp only [Exit.then, Exit.inBlock, ↓reduceIte, Nat.reduceEqDiff])
    refine hK7 _ _ ?_
    refine wp_seq_k (fun K8 hK8 => ?_)
    refine wp_region_lit ?_
    refine sqv hf (r_move rfl) rfl rfl rfl ?_; clear hf fa; intro fa hf
    refine sqdt hf (d_callX (vs := [(.string s)]) rfl Try.func24 (by kernel_rfl) (by kernel_rfl) (rparse_y s w4 (by omega))) rfl rfl rfl ?_; clear hf fa; rintro fa _ w5 ⟨⟨aN2, cN2, aS2, cS2, aA2, cA2, aD2, cD2, rfl, hF2⟩, he4⟩ hf
    replace hk2 := blk_ext hk2 he4
    replace hbF := hbF.trans (Below.mono he4 hbF.size)
    replace hb := hb.trans (Below.mono he4 hb.size)
    have hbF2 : Below w5.heap.size w5 w5 := Below.refl _ _
    refine sqv hf (r_move rfl) rfl rfl rfl ?_; clear hf fa; intro fa hf
    refine sqv hf (r_extract rfl (i := 0) rfl) rfl rfl rfl ?_; clear hf fa; intro fa hf
    refine sqv hf (r_extract rfl (i := 1) rfl) rfl rfl rfl ?_; clear hf fa; intro fa hf
    refine sqdt hf (d_alloc (z := (.agg #[(.int .i64 (0 : Int)), (.slice none 0 0), (.slice none 0 0), (.slice none 0 0), (.slice none 0 0)])) (cs := #[(.int .i64 (0 : Int)), (.slice none 0 0), (.slice none 0 0), (.slice none 0 0), (.slice none 0 0)]) (by kernel_rfl) rfl) rfl rfl rfl ?_; clear hf fa; rintro fa _ w6 ⟨b2, rfl, hle2, hk3, he5⟩ hf
    have hBb2 : w.heap.size ≤ b2 := Nat.le_trans hb.size hle2
    have : b1 < b2 := Nat.lt_of_lt_of_le (blk_lt hk2) hle2
    have hUhbFb2 := Nat.le_trans hbF.size hle2
    have hUhbF2b2 := Nat.le_trans hbF2.size hle2
    replace hk2 := blk_ext hk2 he5
    replace hbF := hbF.trans (Below.mono he5 hbF.size)
    replace hbF2 := hbF2.trans (Below.mono he5 hbF2.size)
    replace hb := hb.trans (Below.mono he5 hb.size)
    refine sqn hf (d_storeK (T := 49) (v := (.agg #[(.int .i64 ((opK (opP s)))), (.slice aN2 ((opS (opP s)).N.length) cN2), (.slice aS2 ((opS (opP s)).S.length) cS2), (.slice aA2 ((opS (opP s)).A.length) cA2), (.slice aD2 ((opS (opP s)).D.length) cD2)])) (cs := #[(.int .i64 (0 : Int)), (.slice none 0 0), (.slice none 0 0), (.slice none 0 0), (.slice none 0 0)]) (cs' := #[(.int .i64 ((opK (opP s)))), (.slice aN2 ((opS (opP s)).N.length) cN2), (.slice aS2 ((opS (opP s)).S.length) cS2), (.slice aA2 ((opS (opP s)).A.length) cA2), (.slice aD2 ((opS (opP s)).D.length) cD2)]) rfl rfl (by kernel_rfl) (by kernel_rfl) hk3 (by kernel_rfl) (by kernel_rfl)) rfl rfl ?_; clear hf fa; rintro fa _ w7 ⟨hk4, hg2⟩ hf
    replace hk2 := blk_grown hk2 hg2 (by omega)
    replace hbF := hbF.trans (grown_below hg2 hbF.size (by omega))
    replace hbF2 := hbF2.trans (grown_below hg2 hbF2.size (by omega))
    replace hb := hb.trans (grown_below hg2 hb.size hBb2)
    refine sqv hf (r_assign rfl) rfl rfl rfl ?_; clear hf fa; intro fa hf
    apply wpList_nil
    (try simp only [Exit.then, Exit.inBlock, ↓reduceIte, Nat.reduceEqDiff])
    refine hK8 _ _ ?_
    refine wp_seq_k (fun K9 hK9 => ?_)
    refine wp_region_un (fun wq => Below w7.heap.size w7 wq) (fun w w' => Below w.heap.size w w')
      (fun V => [(fun x _ => x = (.int .i64 ((if (opP s).isSome = true then 0 else 49)))), (fun x _ => x = (.bool (decide (((if (opP s).isSome = true then 0 else 49)) = (0 : Int))))), (fun x _ => x = (.bool (opP s).isSome)), (fun x _ => x = (.bool true)), (fun x _ => x = (.bool true)), (fun x _ => x = (.bool (opP s).isSome)), (fun x _ => x = (.bool (opP s).isSome)), (fun x _ => x = (gb (!(opP s).isSome) (.int .i64 ((if (opP s).isSome = true then 0 else 49))))), (fun x _ => x = (gb (!(opP s).isSome) (.bool (decide (((if (opP s).isSome = true then 0 else 49)) = (49 : Int)))))), (fun x _ => x = (.bool true)), (fun x _ => x = (.bool true)), (fun x _ => x = (.bool true)), (fun x _ => x = (.agg #[(.int .i64 ((opK (opP s)))), (.slice aN ((opS (opP s)).N.length) cN), (.slice aS ((opS (opP s)).S.length) cS), (.slice aA ((opS (opP s)).A.length) cA), (.slice aD ((opS (opP s)).D.length) cD)])), (fun x _ => x = (.agg #[(.int .i64 ((opK (opP s)))), (.slice aN ((opS (opP s)).N.length) cN), (.slice aS ((opS (opP s)).S.length) cS), (.slice aA ((opS (opP s)).A.length) cA), (.slice aD ((opS (opP s)).D.length) cD)])), (fun x _ => x = (.agg #[(.int .i64 ((opK (opP s)))), (.slice aN2 ((opS (opP s)).N.length) cN2), (.slice aS2 ((opS (opP s)).S.length) cS2), (.slice aA2 ((opS (opP s)).A.length) cA2), (.slice aD2 ((opS (opP s)).D.length) cD2)])), (fun x _ => x = (.bool true)), (fun x _ => x = (.bool true)), (fun x _ => x = (.bool true))])
      []
      [[], [0], [], [1, 2], [3], [4], [4, 5], [6], [6, 7], [4, 6, 8], [4, 9], [6, 10], [11], [11, 12], [11], [11, 13, 14], [11, 15], [0, 1, 2, 3, 4, 5, 6, 7, 8, 9, 10, 11, 12, 13, 14, 15, 16]]
      hf (by kernel_rfl) (by kernel_rfl) (fun _ => rfl) ((Below.refl _ _).drew) (fun a b h1 h2 => h1.trans (h2.mono h1.size)) (fun _ _ h => h.size) (fun V => ⟨kept_eq, kept_eq, kept_eq, kept_eq, kept_eq, kept_eq, kept_eq, kept_eq, kept_eq, kept_eq, kept_eq, kept_eq, kept_eq, kept_eq, kept_eq, kept_eq, kept_eq, kept_eq, trivial⟩) (fun _ _ _ _ _ => rfl) ?_ ?_
    · skip
      intro V
      refine ⟨fun wu0 hC hd => ?_, ?_⟩
      · clear hd
        replace hb := hb.trans (hC.mono hb.size)
        replace hk2 := blk_ext hk2 hC
        replace hk4 := blk_ext hk4 hC
        exact Runs.does (r_move rfl) ⟨Below.refl _ _, rfl, nofr rfl⟩
      refine ⟨fun wu1 hC hd => ?_, ?_⟩
      · obtain ⟨h0, _⟩ := hd
        skip
        replace h0 : V 0 = (.int .i64 ((if (opP s).isSome = true then 0 else 49))) := h0
        replace hb := hb.trans (hC.mono hb.size)
        replace hk2 := blk_ext hk2 hC
        replace hk4 := blk_ext hk4 hC
        exact Runs.does (r_eq (congrArg some h0) rfl) ⟨Below.refl _ _, rfl, nofr rfl⟩
      refine ⟨fun wu2 hC hd => ?_, ?_⟩
      · clear hd
        replace hb := hb.trans (hC.mono hb.size)
        replace hk2 := blk_ext hk2 hC
        replace hk4 := blk_ext hk4 hC
        exact Runs.does (r_move rfl) ⟨Below.refl _ _, rfl, nofr rfl⟩
      refine ⟨fun wu3 hC hd => ?_, ?_⟩
      · obtain ⟨h1, h2, _⟩ := hd
        skip
        skip
        replace h1 : V 1 = (.bool (decide (((if (opP s).isSome = true then 0 else 49)) = (0 : Int)))) := h1
        replace h2 : V 2 = (.bool (opP s).isSome) := h2
        replace hb := hb.trans (hC.mono hb.size)
        replace hk2 := blk_ext hk2 hC
        replace hk4 := blk_ext hk4 hC
        exact Runs.does (Runs.veq (r_beq Try.underlying4 (congrArg some h1) (congrArg some h2)) (congrArg Value.bool (show _ = true from (by cases (opP s).isSome <;> rfl)))) ⟨Below.refl _ _, rfl, nofr rfl⟩
      refine ⟨fun wu4 hC hd => ?_, ?_⟩
      · obtain ⟨h3, _⟩ := hd
        skip
        replace h3 : V 3 = (.bool true) := h3
        replace hb := hb.trans (hC.mono hb.size)
        replace hk2 := blk_ext hk2 hC
        replace hk4 := blk_ext hk4 hC
        exact Runs.does (r_move (congrArg some h3)) ⟨Below.refl _ _, rfl, nofr rfl⟩
      refine ⟨fun wu5 hC hd => ?_, ?_⟩
      · obtain ⟨h4, _⟩ := hd
        skip
        replace h4 : V 4 = (.bool true) := h4
        replace hb := hb.trans (hC.mono hb.size)
        replace hk2 := blk_ext hk2 hC
        replace hk4 := blk_ext hk4 hC
        refine ⟨true, true, congrArg some h4, fun hact => ?_, fun hact => ?_⟩
        · exact Runs.does (r_move rfl) ⟨Below.refl _ _, rfl, nofr rfl⟩
        · exfalso; simp at hact
      refine ⟨fun wu6 hC hd => ?_, ?_⟩
      · obtain ⟨h4, h5, _⟩ := hd
        skip
        skip
        replace h4 : V 4 = (.bool true) := h4
        replace h5 : V 5 = (.bool (opP s).isSome) := h5
        replace hb := hb.trans (hC.mono hb.size)
        replace hk2 := blk_ext hk2 hC
        replace hk4 := blk_ext hk4 hC
        refine ⟨true, true, congrArg some h4, fun hact => ?_, fun hact => ?_⟩
        · exact Runs.does (r_move (congrArg some h5)) ⟨Below.refl _ _, rfl, nofr rfl⟩
        · exfalso; simp at hact
      refine ⟨fun wu7 hC hd => ?_, ?_⟩
      · obtain ⟨h6, _⟩ := hd
        skip
        replace h6 : V 6 = (.bool (opP s).isSome) := h6
        replace hb := hb.trans (hC.mono hb.size)
        replace hk2 := blk_ext hk2 hC
        replace hk4 := blk_ext hk4 hC
        refine ⟨true, (opP s).isSome, congrArg some h6, fun hact => ?_, fun hact => ?_⟩
        · replace hact : (!(opP s).isSome) = true := by simpa using hact
          refine Runs.does (v := (.int .i64 ((if (opP s).isSome = true then 0 else 49)))) (r_move rfl) ⟨Below.refl _ _, ?_, nofr rfl⟩
          show _ = gb _ _; rw [hact]; rfl
        · replace hact : (!(opP s).isSome) = false := by simpa using hact
          refine ⟨Below.refl _ _, ?_, nofr rfl⟩
          show _ = gb _ _; rw [hact]; rfl
      refine ⟨fun wu8 hC hd => ?_, ?_⟩
      · obtain ⟨h6, h7, _⟩ := hd
        skip
        skip
        replace h6 : V 6 = (.bool (opP s).isSome) := h6
        replace h7 : V 7 = (gb (!(opP s).isSome) (.int .i64 ((if (opP s).isSome = true then 0 else 49)))) := h7
        replace hb := hb.trans (hC.mono hb.size)
        replace hk2 := blk_ext hk2 hC
        replace hk4 := blk_ext hk4 hC
        refine ⟨true, (opP s).isSome, congrArg some h6, fun hact => ?_, fun hact => ?_⟩
        · replace hact : (!(opP s).isSome) = true := by simpa using hact
          refine Runs.does (v := (.bool (decide (((if (opP s).isSome = true then 0 else 49)) = (49 : Int))))) (r_eq (gb_ev hact (congrArg some h7)) rfl) ⟨Below.refl _ _, ?_, nofr rfl⟩
          show _ = gb _ _; rw [hact]; rfl
        · replace hact : (!(opP s).isSome) = false := by simpa using hact
          refine ⟨Below.refl _ _, ?_, nofr rfl⟩
          show _ = gb _ _; rw [hact]; rfl
      refine ⟨fun wu9 hC hd => ?_, ?_⟩
      · obtain ⟨h4, h6, h8, _⟩ := hd
        skip
        skip
        skip
        replace h4 : V 4 = (.bool true) := h4
        replace h6 : V 6 = (.bool (opP s).isSome) := h6
        replace h8 : V 8 = (gb (!(opP s).isSome) (.bool (decide (((if (opP s).isSome = true then 0 else 49)) = (49 : Int))))) := h8
        replace hb := hb.trans (hC.mono hb.size)
        replace hk2 := blk_ext hk2 hC
        replace hk4 := blk_ext hk4 hC
        refine ⟨true, true, congrArg some h4, fun hact => ?_, fun hact => ?_⟩
        · exact Runs.does (Runs.veq (r_pickO (b := (opP s).isSome) (e := (decide (((if (opP s).isSome = true then 0 else 49)) = (49 : Int)))) (congrArg some h6) rfl (congrArg some h8)) (congrArg Value.bool (show _ = true from (by cases (opP s).isSome <;> rfl)))) ⟨Below.refl _ _, rfl, nofr rfl⟩
        · exfalso; simp at hact
      refine ⟨fun wu10 hC hd => ?_, ?_⟩
      · obtain ⟨h4, h9, _⟩ := hd
        skip
        skip
        replace h4 : V 4 = (.bool true) := h4
        replace h9 : V 9 = (.bool true) := h9
        replace hb := hb.trans (hC.mono hb.size)
        replace hk2 := blk_ext hk2 hC
        replace hk4 := blk_ext hk4 hC
        exact Runs.does (r_pick (b := true) (congrArg some h4) (congrArg some h9) rfl rfl) ⟨Below.refl _ _, rfl, nofr rfl⟩
      refine ⟨fun wu11 hC hd => ?_, ?_⟩
      · obtain ⟨h6, h10, _⟩ := hd
        skip
        skip
        replace h6 : V 6 = (.bool (opP s).isSome) := h6
        replace h10 : V 10 = (.bool true) := h10
        replace hb := hb.trans (hC.mono hb.size)
        replace hk2 := blk_ext hk2 hC
        replace hk4 := blk_ext hk4 hC
        exact Runs.does (r_move (congrArg some h10)) ⟨Below.refl _ _, rfl, nofr rfl⟩
      refine ⟨fun wu12 hC hd => ?_, ?_⟩
      · obtain ⟨h11, _⟩ := hd
        skip
        replace h11 : V 11 = (.bool true) := h11
        replace hb := hb.trans (hC.mono hb.size)
        replace hk2 := blk_ext hk2 hC
        replace hk4 := blk_ext hk4 hC
        refine ⟨true, true, congrArg some h11, fun hact => ?_, fun hact => ?_⟩
        · exact Runs.does (r_loadA (cs := [(.int .i64 ((opK (opP s)))), (.slice aN ((opS (opP s)).N.length) cN), (.slice aS ((opS (opP s)).S.length) cS), (.slice aA ((opS (opP s)).A.length) cA), (.slice aD ((opS (opP s)).D.length) cD)]) rfl Try.underlying45 rfl (by kernel_rfl) (cellsAt_blk hk2)) ⟨Below.refl _ _, rfl, nofr rfl⟩
        · exfalso; simp at hact
      refine ⟨fun wu13 hC hd => ?_, ?_⟩
      · obtain ⟨h11, h12, _⟩ := hd
        skip
        skip
        replace h11 : V 11 = (.bool true) := h11
        replace h12 : V 12 = (.agg #[(.int .i64 ((opK (opP s)))), (.slice aN ((opS (opP s)).N.length) cN), (.slice aS ((opS (opP s)).S.length) cS), (.slice aA ((opS (opP s)).A.length) cA), (.slice aD ((opS (opP s)).D.length) cD)]) := h12
        replace hb := hb.trans (hC.mono hb.size)
        replace hk2 := blk_ext hk2 hC
        replace hk4 := blk_ext hk4 hC
        refine ⟨true, true, congrArg some h11, fun hact => ?_, fun hact => ?_⟩
        · refine Does.mono (d_callB (vs := [(.agg #[(.int .i64 ((opK (opP s)))), (.slice aN ((opS (opP s)).N.length) cN), (.slice aS ((opS (opP s)).S.length) cS), (.slice aA ((opS (opP s)).A.length) cA), (.slice aD ((opS (opP s)).D.length) cD)])]) (show [some (V 12)] = [some (.agg #[(.int .i64 ((opK (opP s)))), (.slice aN ((opS (opP s)).N.length) cN), (.slice aS ((opS (opP s)).S.length) cS), (.slice aA ((opS (opP s)).A.length) cA), (.slice aD ((opS (opP s)).D.length) cD)])] from by rw [h12]) Try.func16 (by kernel_rfl) (by kernel_rfl) (ref_any (opK (opP s)) _ _ _ _ aN aS aA aD cN cS cA cD _)) (fun _ _ h => ⟨h.2, h.1, nofr rfl⟩)
        · exfalso; simp at hact
      refine ⟨fun wu14 hC hd => ?_, ?_⟩
      · obtain ⟨h11, _⟩ := hd
        skip
        replace h11 : V 11 = (.bool true) := h11
        replace hb := hb.trans (hC.mono hb.size)
        replace hk2 := blk_ext hk2 hC
        replace hk4 := blk_ext hk4 hC
        refine ⟨true, true, congrArg some h11, fun hact => ?_, fun hact => ?_⟩
        · exact Runs.does (r_loadA (cs := [(.int .i64 ((opK (opP s)))), (.slice aN2 ((opS (opP s)).N.length) cN2), (.slice aS2 ((opS (opP s)).S.length) cS2), (.slice aA2 ((opS (opP s)).A.length) cA2), (.slice aD2 ((opS (opP s)).D.length) cD2)]) rfl Try.underlying49 rfl (by kernel_rfl) (cellsAt_blk hk4)) ⟨Below.refl _ _, rfl, nofr rfl⟩
        · exfalso; simp at hact
      refine ⟨fun wu15 hC hd => ?_, ?_⟩
      · obtain ⟨h11, h13, h14, _⟩ := hd
        skip
        skip
        skip
        replace h11 : V 11 = (.bool true) := h11
        replace h13 : V 13 = (.agg #[(.int .i64 ((opK (opP s)))), (.slice aN ((opS (opP s)).N.length) cN), (.slice aS ((opS (opP s)).S.length) cS), (.slice aA ((opS (opP s)).A.length) cA), (.slice aD ((opS (opP s)).D.length) cD)]) := h13
        replace h14 : V 14 = (.agg #[(.int .i64 ((opK (opP s)))), (.slice aN2 ((opS (opP s)).N.length) cN2), (.slice aS2 ((opS (opP s)).S.length) cS2), (.slice aA2 ((opS (opP s)).A.length) cA2), (.slice aD2 ((opS (opP s)).D.length) cD2)]) := h14
        replace hb := hb.trans (hC.mono hb.size)
        replace hk2 := blk_ext hk2 hC
        replace hk4 := blk_ext hk4 hC
        refine ⟨true, true, congrArg some h11, fun hact => ?_, fun hact => ?_⟩
        · refine Does.mono (d_callB (vs := [(.agg #[(.int .i64 ((opK (opP s)))), (.slice aN ((opS (opP s)).N.length) cN), (.slice aS ((opS (opP s)).S.length) cS), (.slice aA ((opS (opP s)).A.length) cA), (.slice aD ((opS (opP s)).D.length) cD)]), (.agg #[(.int .i64 ((opK (opP s)))), (.slice aN2 ((opS (opP s)).N.length) cN2), (.slice aS2 ((opS (opP s)).S.length) cS2), (.slice aA2 ((opS (opP s)).A.length) cA2), (.slice aD2 ((opS (opP s)).D.length) cD2)])]) (show [some (V 13), some (V 14)] = [some (.agg #[(.int .i64 ((opK (opP s)))), (.slice aN ((opS (opP s)).N.length) cN), (.slice aS ((opS (opP s)).S.length) cS), (.slice aA ((opS (opP s)).A.length) cA), (.slice aD ((opS (opP s)).D.length) cD)]), some (.agg #[(.int .i64 ((opK (opP s)))), (.slice aN2 ((opS (opP s)).N.length) cN2), (.slice aS2 ((opS (opP s)).S.length) cS2), (.slice aA2 ((opS (opP s)).A.length) cA2), (.slice aD2 ((opS (opP s)).D.length) cD2)])] from by rw [h13, h14]) Try.func23 (by kernel_rfl) (by kernel_rfl) (same_any (opK (opP s)) (opS (opP s)) aN aS aA aD cN cS cA cD aN2 aS2 aA2 aD2 cN2 cS2 cA2 cD2 _ (hF.ext (hbF.trans (hC.mono hbF.size))) (hF2.ext (hbF2.trans (hC.mono hbF2.size))) (opP_B s (by omega)))) (fun _ _ h => ⟨h.2, h.1, nofr rfl⟩)
        · exfalso; simp at hact
      refine ⟨fun wu16 hC hd => ?_, ?_⟩
      · obtain ⟨h11, h15, _⟩ := hd
        skip
        skip
        replace h11 : V 11 = (.bool true) := h11
        replace h15 : V 15 = (.bool true) := h15
        replace hb := hb.trans (hC.mono hb.size)
        replace hk2 := blk_ext hk2 hC
        replace hk4 := blk_ext hk4 hC
        exact Runs.does (r_pick (b := true) (congrArg some h11) (congrArg some h15) rfl rfl) ⟨Below.refl _ _, rfl, nofr rfl⟩
      refine ⟨fun wu17 hC hd => ?_, ?_⟩
      · obtain ⟨h0, h1, h2, h3, h4, h5, h6, h7, h8, h9, h10, h11, h12, h13, h14, h15, h16, _⟩ := hd
        skip
        skip
        skip
        skip
        skip
        skip
        skip
        skip
        skip
        skip
        skip
        skip
        skip
        skip
        skip
        skip
        skip
        replace h0 : V 0 = (.int .i64 ((if (opP s).isSome = true then 0 else 49))) := h0
        replace h1 : V 1 = (.bool (decide (((if (opP s).isSome = true then 0 else 49)) = (0 : Int)))) := h1
        replace h2 : V 2 = (.bool (opP s).isSome) := h2
        replace h3 : V 3 = (.bool true) := h3
        replace h4 : V 4 = (.bool true) := h4
        replace h5 : V 5 = (.bool (opP s).isSome) := h5
        replace h6 : V 6 = (.bool (opP s).isSome) := h6
        replace h7 : V 7 = (gb (!(opP s).isSome) (.int .i64 ((if (opP s).isSome = true then 0 else 49)))) := h7
        replace h8 : V 8 = (gb (!(opP s).isSome) (.bool (decide (((if (opP s).isSome = true then 0 else 49)) = (49 : Int))))) := h8
        replace h9 : V 9 = (.bool true) := h9
        replace h10 : V 10 = (.bool true) := h10
        replace h11 : V 11 = (.bool true) := h11
        replace h12 : V 12 = (.agg #[(.int .i64 ((opK (opP s)))), (.slice aN ((opS (opP s)).N.length) cN), (.slice aS ((opS (opP s)).S.length) cS), (.slice aA ((opS (opP s)).A.length) cA), (.slice aD ((opS (opP s)).D.length) cD)]) := h12
        replace h13 : V 13 = (.agg #[(.int .i64 ((opK (opP s)))), (.slice aN ((opS (opP s)).N.length) cN), (.slice aS ((opS (opP s)).S.length) cS), (.slice aA ((opS (opP s)).A.length) cA), (.slice aD ((opS (opP s)).D.length) cD)]) := h13
        replace h14 : V 14 = (.agg #[(.int .i64 ((opK (opP s)))), (.slice aN2 ((opS (opP s)).N.length) cN2), (.slice aS2 ((opS (opP s)).S.length) cS2), (.slice aA2 ((opS (opP s)).A.length) cA2), (.slice aD2 ((opS (opP s)).D.length) cD2)]) := h14
        replace h15 : V 15 = (.bool true) := h15
        replace h16 : V 16 = (.bool true) := h16
        replace hb := hb.trans (hC.mono hb.size)
        replace hk2 := blk_ext hk2 hC
        replace hk4 := blk_ext hk4 hC
        exact Runs.does (r_assign (congrArg some h16)) ⟨Below.refl _ _, rfl, nofr rfl⟩
      trivial
    · skip
      clear hf fa; intro V w8 fa he6 hp hnb hf
      have hv0 : V 0 = (.int .i64 ((if (opP s).isSome = true then 0 else 49))) := postsHold_at hp 0 rfl
      have hv1 : V 1 = (.bool (decide (((if (opP s).isSome = true then 0 else 49)) = (0 : Int)))) := postsHold_at hp 1 rfl
      have hv2 : V 2 = (.bool (opP s).isSome) := postsHold_at hp 2 rfl
      have hv3 : V 3 = (.bool true) := postsHold_at hp 3 rfl
      have hv4 : V 4 = (.bool true) := postsHold_at hp 4 rfl
      have hv5 : V 5 = (.bool (opP s).isSome) := postsHold_at hp 5 rfl
      have hv6 : V 6 = (.bool (opP s).isSome) := postsHold_at hp 6 rfl
      have hv7 : V 7 = (gb (!(opP s).isSome) (.int .i64 ((if (opP s).isSome = true then 0 else 49)))) := postsHold_at hp 7 rfl
      have hv8 : V 8 = (gb (!(opP s).isSome) (.bool (decide (((if (opP s).isSome = true then 0 else 49)) = (49 : Int))))) := postsHold_at hp 8 rfl
      have hv9 : V 9 = (.bool true) := postsHold_at hp 9 rfl
      have hv10 : V 10 = (.bool true) := postsHold_at hp 10 rfl
      have hv11 : V 11 = (.bool true) := postsHold_at hp 11 rfl
      have hv12 : V 12 = (.agg #[(.int .i64 ((opK (opP s)))), (.slice aN ((opS (opP s)).N.length) cN), (.slice aS ((opS (opP s)).S.length) cS), (.slice aA ((opS (opP s)).A.length) cA), (.slice aD ((opS (opP s)).D.length) cD)]) := postsHold_at hp 12 rfl
      have hv13 : V 13 = (.agg #[(.int .i64 ((opK (opP s)))), (.slice aN ((opS (opP s)).N.length) cN), (.slice aS ((opS (opP s)).S.length) cS), (.slice aA ((opS (opP s)).A.length) cA), (.slice aD ((opS (opP s)).D.length) cD)]) := postsHold_at hp 13 rfl
      have hv14 : V 14 = (.agg #[(.int .i64 ((opK (opP s)))), (.slice aN2 ((opS (opP s)).N.length) cN2), (.slice aS2 ((opS (opP s)).S.length) cS2), (.slice aA2 ((opS (opP s)).A.length) cA2), (.slice aD2 ((opS (opP s)).D.length) cD2)]) := postsHold_at hp 14 rfl
      have hv15 : V 15 = (.bool true) := postsHold_at hp 15 rfl
      have hv16 : V 16 = (.bool true) := postsHold_at hp 16 rfl
      have hv17 : V 17 = (.bool true) := postsHold_at hp 17 rfl
      simp only [List.take_succ_cons, List.take_zero, insAll, ins, hv0, hv1, hv2, hv3, hv4, hv5, hv6, hv7, hv8, hv9, hv10, hv11, hv12, hv13, hv14, hv15, hv16, hv17] at hf
      clear hp hnb hv0 hv1 hv2 hv3 hv4 hv5 hv6 hv7 hv8 hv9 hv10 hv11 hv12 hv13 hv14 hv15 hv16 hv17
      replace hk2 := blk_ext hk2 he6
      replace hk4 := blk_ext hk4 he6
      replace hbF := hbF.trans (Below.mono he6 hbF.size)
      replace hbF2 := hbF2.trans (Below.mono he6 hbF2.size)
      replace hb := hb.trans (Below.mono he6 hb.size)
      (try simp only [Exit.then, Exit.inBlock, ↓reduceIte, Nat.reduceEqDiff])
      refine hK9 _ _ ?_
      refine wp_ret ?_
      (try simp only [Exit.then, Exit.inBlock])
      refine ret1 hf rfl rfl ?_
      exact ⟨rfl, hb⟩
end Go.Proofs.Ytpalmpfkliepfaa

namespace Go.Proofs.Ytpalmpfkliepfaa.opParses
open Go.ChangeShapes Go.WideShapes Go.ChangeAt Go.RowKit
open Go.ChangeMaps (open_string shut_string)
set_option linter.unusedVariables false
set_option linter.unusedSimpArgs false

theorem own : ownKnob Try.prog.godebug = none := by kernel_rfl
theorem laidOut : laidOutB Try.prog = true := by kernel_rfl

set_option maxRecDepth 100000 in
theorem lifted (os : Os) (started : os.Started) (H : Type) (enc : TypeId × Value → H) :
    ReturnsInHanded {} Try.checked os 5 .any (Rows.opParsesSpec.pre6 enc Try.prog Try.f5 Rows.opParsesRow.domain false) (Rows.opParsesSpec.post enc Try.prog Try.f5 false true false false) := by
  refine returnsInHanded_of_change_sized (C := Try.checked) own started (by kernel_rfl) Try.func5
    (ChangeSpec.witness6 (enc := enc) (C := Try.checked) false ⟨#[], #[.string ⟨#[]⟩], []⟩ 8 (by kernel_rfl) (by kernel_rfl) (by kernel_rfl) (by kernel_rfl)) ?_
  intro W base args ds gs before hval0 hW hcnd hsz _
  have hval : ∀ (j : Nat) t v, Try.f5.params[j]? = some t → args[j]? = some v → Value.okWide Try.prog W .any base t v := hval0
  have hW' := hW
  obtain ⟨p, q, hA0, hV, rfl, hfz, hnd⟩ := hW
  have hA : DataW.TrodAll enc Try.prog W 0 (fun _ => true) true Try.f5.params.toList args.toList ds p := hA0
  rw [Try.params5] at hA hval
  obtain ⟨v0, vs0, x0, ds0, p0, q0, hargs, rfl, rfl, h0, r0⟩ := trodAll_cons hA
  obtain ⟨rfl, rfl, rfl⟩ := trodAll_nil r0
  obtain rfl : args = #[v0] := by cases args; simp_all
  obtain ⟨rfl, rfl⟩ := trodVars_none hV
  have k0 := h0
  have lt0 : ∀ x ∈ p0, x.block < W.heap.size := by obtain ⟨m, hm⟩ := k0; exact DataW.trod_lt m _ _ _ hm
  obtain ⟨a0, rfl, _, _, w0⟩ := open_string Try.underlying9 (hval 0 9 v0 rfl rfl) h0
  clear hA0 hval0
  refine (opParses_any a0 W).mono fun e W' ⟨he, bel⟩ => ?_
  subst he
  exact ⟨_, rfl, _, _, _, [], _, [], hW', trodAll_mk1 (shut_bool Try.underlying4 _), (trodAll_cons_mk (Below.trod laidOut (by kernel_rfl) (of_decide_eq_true (by kernel_rfl)) k0 bel lt0) trodAll_mk0), rfl, bel.frame _, fun h => by cases h⟩

theorem over : Rows.opParsesRow.holds Try.pinned (OpenSpec.ofChange Rows.opParsesSpec) :=
  OpenClaim.holds_of_wide 5 Try.f5 rfl rfl rfl rfl rfl rfl rfl ⟨rfl, rfl, rfl, rfl, rfl⟩ rfl rfl rfl rfl rfl (by kernel_rfl) Try.func5 (by kernel_rfl)
    (of_decide_eq_true (by kernel_rfl)) (by unfold Func.isWrapper; first | (rw [if_pos (by decide +kernel)]; kernel_rfl) | (rw [if_neg (by decide +kernel)]; exact ⟨rfl, rfl⟩))
    (fun os started H enc _ => lifted os started H enc)

/-- The statement. -/
theorem proved : Rows.OpParsesSaid := over
#print axioms proved
end Go.Proofs.Ytpalmpfkliepfaa.opParses
