/- What is proved here: the line of an operation, by the program and by the document. What is proved here: the operation of a line: what the program's reading comes to, what the document's comes to, that they are the same, and that a line is read back: no program in sight. What is proved here: rules for maps of the call's own whose keys are strings and whose elements are bools (sets). What is proved here: rules for functions that write one block of the old memory (a scanner), and for calls of them. What is proved here: rules for functions that write several blocks of the old memory, for function values, for parts of slices, for bytes of strings. What is proved here: what a call leaves alone: blocks of a type; blocks from a number on. What is proved here: a piece of a line, and one thing of a form, by the program. -/
import Derived.Test.YtpalmpfkliepfaaOpLinesMgAD
import Derived.Test.YtpalmpfkliepfaaOpLinesMgAB
import Derived.Maps.Own
import Derived.Maps.Views
import Derived.StringKeys
import Derived.Lib.ConvBytes
import Derived.Laws.Pointers
namespace Go.Proofs.Ytpalmpfkliepfaa
open Go.RowKit Ut
set_option linter.unusedVariables false
set_option linter.unusedSimpArgs false
/-- The pieces behind the word. -/
def argsP : List Nat → List Int → List ByteArray → List MVal → List Nat → List (List Nat)
  | [], _, _, _, _ => []
  | c :: f, N, S, A, D =>
    if c = 110 then (N.take 1).map digB ++ argsP f (N.drop 1) S A D
    else if c = 115 then (S.take 1).map (fun s => showL (bl s)) ++ argsP f N (S.drop 1) A D
    else if c = 100 then hexB D :: argsP f N S A D
    else if c = 97 then A.map (fun v => bl (valS v)) ++ argsP f N S A D
    else argsP f N S A D
def lineL (k : Int) (st : PSt) : List Nat := bl (wordS k) ++ joinB (argsP (bl (formS k)) st.N st.S st.A st.D)
def lineS (k : Int) (st : PSt) : ByteArray := strN (lineL k st)
theorem joinB_app (a b : List (List Nat)) : joinB (a ++ b) = joinB a ++ joinB b := by
  induction a with
  | nil => rfl
  | cons x a ih => rw [List.cons_append, joinB, joinB, ih]; simp
section
variable {L : List Nat} {t F : ByteArray} {i n s : Nat} {N : List Int} {S : List ByteArray} {A : List MVal} {D : List Nat}
theorem line_n {y : Int} (Hs : L = bl t ++ joinB (argsP ((bl F).drop i) (N.drop n) (S.drop s) A D)) (hi : i < F.size) (hc : sbt F i = 110) (hy : N[n]? = some y) : L = (bl t ++ 32 :: digB y) ++ joinB (argsP ((bl F).drop (i + 1)) (N.drop (n + 1)) (S.drop s) A D) := by
  rw [Hs, bl_dropc F i hi, drop_at hy, argsP, if_pos hc]
  simp [joinB]
theorem line_s {y : ByteArray} (Hs : L = bl t ++ joinB (argsP ((bl F).drop i) (N.drop n) (S.drop s) A D)) (hi : i < F.size) (hc : sbt F i = 115) (hy : S[s]? = some y) : L = (bl t ++ 32 :: showL (bl y)) ++ joinB (argsP ((bl F).drop (i + 1)) (N.drop n) (S.drop (s + 1)) A D) := by
  rw [Hs, bl_dropc F i hi, drop_at hy, argsP, if_neg (by omega), if_pos hc]
  simp [joinB]
theorem line_d (Hs : L = bl t ++ joinB (argsP ((bl F).drop i) (N.drop n) (S.drop s) A D)) (hi : i < F.size) (hc : sbt F i = 100) : L = (bl t ++ 32 :: hexB D) ++ joinB (argsP ((bl F).drop (i + 1)) (N.drop n) (S.drop s) A D) := by
  rw [Hs, bl_dropc F i hi, argsP, if_neg (by omega), if_neg (by omega), if_pos hc]
  simp only [joinB]; simp
theorem line_a (Hs : L = bl t ++ joinB (argsP ((bl F).drop i) (N.drop n) (S.drop s) A D)) (hi : i < F.size) (hc : sbt F i = 97) : L = bl t ++ joinB ((A.drop 0).map (fun v => bl (valS v)) ++ argsP ((bl F).drop (i + 1)) (N.drop n) (S.drop s) A D) := by
  rw [Hs, bl_dropc F i hi, argsP, if_neg (by omega), if_neg (by omega), if_neg (by omega), if_pos hc, List.drop_zero]
theorem line_o (Hs : L = bl t ++ joinB (argsP ((bl F).drop i) (N.drop n) (S.drop s) A D)) (hi : i < F.size) (hc : ¬ sbt F i = 110 ∧ ¬ sbt F i = 115 ∧ ¬ sbt F i = 100 ∧ ¬ sbt F i = 97) : L = bl t ++ joinB (argsP ((bl F).drop (i + 1)) (N.drop n) (S.drop s) A D) := by
  rw [Hs, bl_dropc F i hi, argsP, if_neg hc.1, if_neg hc.2.1, if_neg hc.2.2.1, if_neg hc.2.2.2]
theorem line_v {R : List (List Nat)} {m : Nat} {y : MVal} (Hs : L = bl t ++ joinB ((A.drop m).map (fun v => bl (valS v)) ++ R)) (hy : A[m]? = some y) : L = (bl t ++ 32 :: bl (valS y)) ++ joinB ((A.drop (m + 1)).map (fun v => bl (valS v)) ++ R) := by
  rw [Hs, drop_at hy, List.map_cons, List.cons_append, joinB]; simp
theorem line_ve {R : List (List Nat)} {m : Nat} (Hs : L = bl t ++ joinB ((A.drop m).map (fun v => bl (valS v)) ++ R)) (hm : A.length ≤ m) : L = bl t ++ joinB R := by
  rw [Hs, List.drop_eq_nil_of_le hm]; rfl
theorem line_end (Hs : L = bl t ++ joinB (argsP ((bl F).drop i) (N.drop n) (S.drop s) A D)) (hi : F.size ≤ i) : L = bl t := by
  rw [Hs, List.drop_eq_nil_of_le (by rw [bl_length]; exact hi), argsP, joinB, List.append_nil]
end
theorem cnt_step {F : ByteArray} {i : Nat} (x : Nat) (hi : i < F.size) : ((bl F).drop i).count x = ((bl F).drop (i + 1)).count x + if sbt F i = x then 1 else 0 := by
  rw [bl_dropc F i hi, List.count_cons]; simp
theorem show_len (s : ByteArray) : (showL (bl s)).length ≤ 3 * s.size + 2 := by
  unfold showL
  have h := flat_len (bl s)
  rw [bl_length] at h
  simp only [List.length_cons, List.length_append, List.length_nil]; omega
theorem hexB_len (D : List Nat) : (hexB D).length ≤ 2 * D.length + 1 := by
  unfold hexB
  split
  · simp
  · rw [hxs_len]; omega
theorem joinA_len (A : List MVal) (h : ∀ v ∈ A, RngV v) : (joinB (A.map (fun v => bl (valS v)))).length ≤ 29 * A.length := by
  induction A with
  | nil => simp [joinB]
  | cons v A ih =>
    have h1 := valS_len (h v List.mem_cons_self).2
    have h2 := ih (fun x hx => h x (List.mem_cons_of_mem _ hx))
    simp only [List.map_cons, joinB, List.length_cons, List.length_append, bl_length]; omega
theorem args_len (A : List MVal) (D : List Nat) (hA : ∀ v ∈ A, RngV v) (hA2 : A.length ≤ 20) (hD : D.length ≤ 4096) : ∀ (f : List Nat) (N : List Int) (S : List ByteArray), (∀ n ∈ N, inI n) → (∀ s ∈ S, s.size ≤ 200) → (joinB (argsP f N S A D)).length ≤ 700 * f.length + 8200 * f.count 100
  | [], _, _, _, _ => by simp [argsP, joinB]
  | c :: f, N, S, hN, hS => by
    have h1 := joinA_len A hA
    have h2 := hexB_len D
    have hcc : (c :: f).count 100 = f.count 100 + if c = 100 then 1 else 0 := by rw [List.count_cons]; simp
    rw [argsP, hcc]
    simp only [List.length_cons]
    split
    · have := args_len A D hA hA2 hD f (N.drop 1) S (fun x hx => hN x (List.mem_of_mem_drop hx)) hS
      rw [joinB_app, List.length_append]
      cases N with
      | nil => simp [joinB] at this ⊢; omega
      | cons n N =>
        have h3 := digB_len (hN n List.mem_cons_self)
        simp [joinB] at this ⊢; omega
    · split
      · have := args_len A D hA hA2 hD f N (S.drop 1) hN (fun x hx => hS x (List.mem_of_mem_drop hx))
        rw [joinB_app, List.length_append]
        cases S with
        | nil => simp [joinB] at this ⊢; omega
        | cons s S =>
          have h3 := show_len s
          have h4 := hS s List.mem_cons_self
          simp [joinB] at this ⊢; omega
      · have := args_len A D hA hA2 hD f N S hN hS
        split
        · rename_i h9
          simp only [joinB, List.length_cons, List.length_append]; omega
        · split
          · rw [joinB_app, List.length_append]; omega
          · omega
theorem line_len {k : Int} {st : PSt} (hB : OpB st) (h : rightP k st = true) : (lineL k st).length ≤ 12000 := by
  obtain ⟨h1, h2, h3⟩ := right_split h
  have h4 := args_len st.A st.D hB.a h1.2.2.2.2.1 h1.2.2.2.1 (bl (formS k)) st.N st.S hB.n (fun s hs => ((check_iff s).1 (h2 s hs)).1)
  have h5 := word_len k
  have h6 := (form_cnt k).2.2.2.2.1
  unfold cntB at h6
  unfold lineL
  rw [List.length_append, bl_length]
  rw [bl_length] at h4
  omega

set_option maxHeartbeats 1000000 in
set_option maxRecDepth 100000 in
theorem line_any (k : Int) (st : PSt) (aN aS aA aD : Option Addr) (cN cS cA cD : Nat) (w : World) (hF : OpF w st aN aS aA aD) (hB : OpB st) : Calls Try.prog 14 #[(.agg #[(.int .i64 k), (.slice aN st.N.length cN), (.slice aS st.S.length cS), (.slice aA st.A.length cA), (.slice aD st.D.length cD)])] w fun e w' => e = .returned (.string (if rightP k st = true then lineS k st else ⟨#[]⟩)) ∧ Below w.heap.size w w' := by
  refine sx_enter (L := [(0, (.agg #[(.int .i64 k), (.slice aN st.N.length cN), (.slice aS st.S.length cS), (.slice aA st.A.length cA), (.slice aD st.D.length cD)]))]) Try.func14 rfl rfl rfl rfl (fun fa hf => ?_)
  have hb : Below w.heap.size w w := Below.refl _ _
  refine wp_seq_k (fun K1 hK1 => ?_)
  refine wp_region_lit ?_
  refine sqdt hf (d_box (cs := #[(.int .i64 k), (.slice aN st.N.length cN), (.slice aS st.S.length cS), (.slice aA st.A.length cA), (.slice aD st.D.length cD)]) rfl rfl) rfl rfl rfl ?_; clear hf fa; rintro fa _ w1 ⟨b1, rfl, hle1, hk1, he1⟩ hf
  have hBb1 : w.heap.size ≤ b1 := Nat.le_trans hb.size hle1
  replace hb := hb.trans (Below.mono he1 hb.size)
  refine sqv hf (r_assign rfl) rfl rfl rfl ?_; clear hf fa; intro fa hf
  apply wpList_nil
  (try simp only [Exit.then, Exit.inBlock, ↓reduceIte, Nat.reduceEqDiff])
  refine hK1 _ _ ?_
  refine wp_seq_k (fun K2 hK2 => ?_)
  refine wp_seq_k (fun K3 hK3 => ?_)
  refine wp_region_lit ?_
  refine sqv hf (r_loadA (cs := [(.int .i64 k), (.slice aN st.N.length cN), (.slice aS st.S.length cS), (.slice aA st.A.length cA), (.slice aD st.D.length cD)]) rfl Try.underlying45 rfl (by kernel_rfl) (cellsAt_blk hk1)) rfl rfl rfl ?_; clear hf fa; intro fa hf
  refine sqdt hf (d_callB (vs := [(.agg #[(.int .i64 k), (.slice aN st.N.length cN), (.slice aS st.S.length cS), (.slice aA st.A.length cA), (.slice aD st.D.length cD)])]) rfl Try.func19 (by kernel_rfl) (by kernel_rfl) (right_any k st aN aS aA aD cN cS cA cD _ (hF.ext hb) hB)) rfl rfl rfl ?_; clear hf fa; rintro fa _ w2 ⟨rfl, he2⟩ hf
  replace hk1 := blk_ext hk1 he2
  replace hb := hb.trans (Below.mono he2 hb.size)
  refine sqv hf (r_not rfl) rfl rfl rfl ?_; clear hf fa; intro fa hf
  apply wpList_nil
  (try simp only [Exit.then, Exit.inBlock, ↓reduceIte, Nat.reduceEqDiff])
  refine hK3 _ _ ?_
  refine wp_cond_split (t := (!(rightP k st))) (hf.ev rfl) (fun hqt12_1 => ?_) (fun hqt12_1 => ?_)
  · have hqt12_1b := hqt12_1
    try simp only [decide_eq_true_eq, Bool.and_eq_true, Bool.or_eq_true, Bool.not_eq_true', decide_eq_false_iff_not, ne_eq, Bool.not_eq_true] at hqt12_1
    refine wp_seq_k (fun K4 hK4 => ?_)
    refine wp_region_lit ?_
    refine sqv hf (r_assign rfl) rfl rfl rfl ?_; clear hf fa; intro fa hf
    apply wpList_nil
    (try simp only [Exit.then, Exit.inBlock, ↓reduceIte, Nat.reduceEqDiff])
    refine hK4 _ _ ?_
    refine wp_ret ?_
    (try simp only [Exit.then, Exit.inBlock])
    refine ret1 hf rfl rfl ?_
    refine ⟨?_, hb⟩; rw [if_neg (by have h := hqt12_1; rw [h]; decide)]
  · have hqt12_1b := hqt12_1
    replace hqt12_1 := Bool.eq_false_iff.1 hqt12_1
    try simp only [ne_eq, decide_eq_true_eq, Bool.and_eq_true, Bool.or_eq_true, Bool.not_eq_true', decide_eq_false_iff_not] at hqt12_1
    refine wp_skip ?_
    (try simp only [Exit.then, Exit.inBlock, ↓reduceIte, Nat.reduceEqDiff])
    refine hK2 _ _ ?_
    refine wp_seq_k (fun K5 hK5 => ?_)
    have hrt : rightP k st = true := by have h := hqt12_1; simpa using h
    have hsl9 := hB.sl
    have hal9 := hB.al
    have hdl9 := hB.dl
    have hnl9 := hB.nl
    have hHd := (right_split hrt).1
    have hll := line_len hB hrt
    have hwl := word_len k
    refine wp_region_lit ?_
    refine sqv hf (r_fa rfl Try.underlying45 (f := 0) (q := 0) rfl (by kernel_rfl) rfl) rfl rfl rfl ?_; clear hf fa; intro fa hf
    refine sqv hf (r_load (v := (.int .i64 k)) rfl Try.underlying3 rfl (cell_blk hk1 rfl)) rfl rfl rfl ?_; clear hf fa; intro fa hf
    refine sqdt hf (d_callB (vs := [(.int .i64 k)]) rfl Try.func17 (by kernel_rfl) (by kernel_rfl) (form_any k _)) rfl rfl rfl ?_; clear hf fa; rintro fa _ w3 ⟨rfl, he3⟩ hf
    replace hk1 := blk_ext hk1 he3
    replace hb := hb.trans (Below.mono he3 hb.size)
    refine sqv hf (r_move rfl) rfl rfl rfl ?_; clear hf fa; intro fa hf
    refine sqv hf (r_extract rfl (i := 0) rfl) rfl rfl rfl ?_; clear hf fa; intro fa hf
    refine sqv hf (r_extract rfl (i := 1) rfl) rfl rfl rfl ?_; clear hf fa; intro fa hf
    refine sqv hf (r_assign rfl) rfl rfl rfl ?_; clear hf fa; intro fa hf
    refine sqv hf (r_assign rfl) rfl rfl rfl ?_; clear hf fa; intro fa hf
    apply wpList_nil
    (try simp only [Exit.then, Exit.inBlock, ↓reduceIte, Nat.reduceEqDiff])
    refine hK5 _ _ ?_
    refine wp_seq_k (fun K6 hK6 => ?_)
    refine wp_region_lit ?_
    refine sqv hf (r_assign rfl) rfl rfl rfl ?_; clear hf fa; intro fa hf
    refine sqv hf (r_assign rfl) rfl rfl rfl ?_; clear hf fa; intro fa hf
    apply wpList_nil
    (try simp only [Exit.then, Exit.inBlock, ↓reduceIte, Nat.reduceEqDiff])
    refine hK6 _ _ ?_
    refine wp_seq_k (fun K7 hK7 => ?_)
    refine wp_seq_k (fun K8 hK8 => ?_)
    refine wp_region_lit ?_
    refine sqv hf (r_move rfl) rfl rfl rfl ?_; clear hf fa; intro fa hf
    refine sqv hf (r_lens rfl Try.underlying9) rfl rfl rfl ?_; clear hf fa; intro fa hf
    refine sqv hf (r_move rfl) rfl rfl rfl ?_; clear hf fa; intro fa hf
    apply wpList_nil
    (try simp only [Exit.then, Exit.inBlock, ↓reduceIte, Nat.reduceEqDiff])
    refine hK8 _ _ ?_
    refine wp_block ?_
    refine wp_loop_k (fun mq fa wr => ∃ (i : Nat) (n : Nat) (s : Nat) (t : ByteArray), mq = (formS k).size - i ∧ Fr 78 fa [(1, (.pointer (some ⟨b1, 0, none⟩))), (3, (.string t)), (4, (.string (formS k))), (5, (.int .i64 ((n : Nat) : Int))), (6, (.int .i64 ((s : Nat) : Int))), (20, (.int .i64 (((formS k).size : Nat) : Int))), (21, (.int .i64 ((i : Nat) : Int)))] ∧ Below w.heap.size w wr ∧ wr.heap[b1]? = some (.cells #[(.int .i64 k), (.slice aN st.N.length cN), (.slice aS st.S.length cS), (.slice aA st.A.length cA), (.slice aD st.D.length cD)] 45 (0, 0)) ∧ (i ≤ (formS k).size) ∧ (lineL k st = bl t ++ joinB (argsP ((bl (formS k)).drop i) (st.N.drop n) (st.S.drop s) st.A st.D)) ∧ (st.N.length = n + ((bl (formS k)).drop i).count 110) ∧ (st.S.length = s + ((bl (formS k)).drop i).count 115)) ?_ ?_
    · skip
      exact ⟨_, 0, 0, 0, (wordS k), rfl, hf.sub ⟨rfl, rfl, rfl, (some_int (by first | rfl | omega)), (some_int (by first | rfl | omega)), rfl, (some_int (by first | rfl | omega)), trivial⟩, hb, hk1, by omega, rfl, (by rw [List.drop_zero, Nat.zero_add]; exact hHd.2.1), (by rw [List.drop_zero, Nat.zero_add]; exact hHd.2.2.1)⟩
    · skip
      clear hf fa; intro mq1 fa w4 hI KL1 hKL1
      clear hb
      clear hk1
      obtain ⟨i, n, s, t, hmq1, hf, hb, hkb1, hi, Hs, Hn, Hsn⟩ := hI
      have htl : t.size ≤ 50000 := by have h1 := congrArg List.length Hs; rw [List.length_append, bl_length] at h1; omega
      refine wp_seq_k (fun K9 hK9 => ?_)
      refine wp_region_lit ?_
      refine sqv hf (r_lt rfl rfl) rfl rfl rfl ?_; clear hf fa; intro fa hf
      apply wpList_nil
      (try simp only [Exit.then, Exit.inBlock, ↓reduceIte, Nat.reduceEqDiff])
      refine hK9 _ _ ?_
      refine wp_seq_k (fun K10 hK10 => ?_)
      refine wp_cond_split (t := (decide (((i : Nat) : Int) < (((formS k).size : Nat) : Int)))) (hf.ev rfl) (fun hqt22_1 => ?_) (fun hqt22_1 => ?_)
      · have hqt22_1b := hqt22_1
        try simp only [decide_eq_true_eq, Bool.and_eq_true, Bool.or_eq_true, Bool.not_eq_true', decide_eq_false_iff_not, ne_eq, Bool.not_eq_true] at hqt22_1
        refine wp_skip ?_
        (try simp only [Exit.then, Exit.inBlock, ↓reduceIte, Nat.reduceEqDiff])
        refine hK10 _ _ ?_
        refine wp_seq_k (fun K11 hK11 => ?_)
        refine wp_block ?_
        refine wp_seq_k (fun K12 hK12 => ?_)
        refine wp_region_lit ?_
        refine sqv hf (r_move rfl) rfl rfl rfl ?_; clear hf fa; intro fa hf
        refine sqv hf (r_assign rfl) rfl rfl rfl ?_; clear hf fa; intro fa hf
        apply wpList_nil
        (try simp only [Exit.then, Exit.inBlock, ↓reduceIte, Nat.reduceEqDiff])
        refine hK12 _ _ ?_
        refine wp_seq_k (fun K13 hK13 => ?_)
        refine wp_region_lit ?_
        refine sqv hf (r_move rfl) rfl rfl rfl ?_; clear hf fa; intro fa hf
        refine sqv hf (r_move rfl) rfl rfl rfl ?_; clear hf fa; intro fa hf
        refine sqv hf (r_sindexD (j := i) rfl rfl Try.underlying9 rfl (by omega)) rfl rfl rfl ?_; clear hf fa; intro fa hf
        apply wpList_nil
        (try simp only [Exit.then, Exit.inBlock, ↓reduceIte, Nat.reduceEqDiff])
        refine hK13 _ _ ?_
        refine wp_block ?_
        refine wp_seq_k (fun K14 hK14 => ?_)
        refine wp_region_lit ?_
        refine sqv hf (r_eq rfl rfl) rfl rfl rfl ?_; clear hf fa; intro fa hf
        refine sqv hf (r_assign rfl) rfl rfl rfl ?_; clear hf fa; intro fa hf
        apply wpList_nil
        (try simp only [Exit.then, Exit.inBlock, ↓reduceIte, Nat.reduceEqDiff])
        refine hK14 _ _ ?_
        refine wp_cond_split (t := (decide (((sbt (formS k) i : Nat) : Int) = (110 : Int)))) (hf.ev rfl) (fun hqt27_1 => ?_) (fun hqt27_1 => ?_)
        · have hqt27_1b := hqt27_1
          try simp only [decide_eq_true_eq, Bool.and_eq_true, Bool.or_eq_true, Bool.not_eq_true', decide_eq_false_iff_not, ne_eq, Bool.not_eq_true] at hqt27_1
          refine wp_seq_k (fun K15 hK15 => ?_)
          have hcn1 := cnt_step (F := formS k) (i := i) 110 (by omega)
          have hn9 : n < st.N.length := by have h := hqt27_1; rw [if_pos (by omega)] at hcn1; omega
          refine wp_region_lit ?_
          refine sqv hf (r_move rfl) rfl rfl rfl ?_; clear hf fa; intro fa hf
          refine sqv hf (r_fa rfl Try.underlying45 (f := 1) (q := 1) rfl (by kernel_rfl) rfl) rfl rfl rfl ?_; clear hf fa; intro fa hf
          refine sqv hf (r_load (v := (.slice aN st.N.length cN)) rfl Try.underlying41 rfl (cell_blk hkb1 rfl)) rfl rfl rfl ?_; clear hf fa; intro fa hf
          refine sqv hf (r_move rfl) rfl rfl rfl ?_; clear hf fa; intro fa hf
          obtain ⟨y1, hy1⟩ : ∃ x, (st.N)[n]? = some x := ⟨_, List.getElem?_eq_getElem (by (try simp only [Sl.list_length]); omega)⟩
          obtain ⟨ab1, aoff1, rfl, hlb1, hel1⟩ := RdS.at hF.1 hy1
          refine sqv hf (r_ixa (sz := 1) (j := n) rfl rfl Try.underlying41 (by kernel_rfl) rfl (by omega) rfl) rfl rfl rfl ?_; clear hf fa; intro fa hf
          refine sqv hf (r_load (v := (.int .i64 y1)) rfl Try.underlying3 rfl (cellsAt_cell (cellsAt_below hel1 hb hlb1) (i := 0) rfl rfl)) rfl rfl rfl ?_; clear hf fa; intro fa hf
          refine sqdt hf (d_callB (vs := [(.int .i64 y1)]) rfl Try.func31 (by kernel_rfl) (by kernel_rfl) (digits_any y1 _ (hB.n _ (List.mem_of_getElem? hy1)))) rfl rfl rfl ?_; clear hf fa; rintro fa _ w5 ⟨rfl, he4⟩ hf
          replace hkb1 := blk_ext hkb1 he4
          replace hb := hb.trans (Below.mono he4 hb.size)
          refine sqv hf (r_sadd rfl rfl (by have : ((⟨#[32]⟩) : ByteArray).size = 1 := rfl; have := dS_len (hB.n _ (List.mem_of_getElem? hy1)); omega)) rfl rfl rfl ?_; clear hf fa; intro fa hf
          refine sqv hf (r_sadd rfl rfl (by have : ((⟨#[32]⟩) : ByteArray).size = 1 := rfl; have := dS_len (hB.n _ (List.mem_of_getElem? hy1)); have := sz_app ⟨#[32]⟩ (dS y1); omega)) rfl rfl rfl ?_; clear hf fa; intro fa hf
          refine sqv hf (r_assign rfl) rfl rfl rfl ?_; clear hf fa; intro fa hf
          apply wpList_nil
          (try simp only [Exit.then, Exit.inBlock, ↓reduceIte, Nat.reduceEqDiff])
          refine hK15 _ _ ?_
          refine wp_region_lit ?_
          refine sqv hf (r_move rfl) rfl rfl rfl ?_; clear hf fa; intro fa hf
          refine sqv hf (r_add (C := (((n : Nat) : Int) + (1 : Int))) rfl rfl (by rw [IntKind.wrap_i64]; omega)) rfl rfl rfl ?_; clear hf fa; intro fa hf
          refine sqv hf (r_assign rfl) rfl rfl rfl ?_; clear hf fa; intro fa hf
          apply wpList_nil
          (try simp only [Exit.then, Exit.inBlock, ↓reduceIte, Nat.reduceEqDiff])
          refine hK11 _ _ ?_
          refine wp_region_lit ?_
          refine sqv hf (r_add (C := (((i : Nat) : Int) + (1 : Int))) rfl rfl (by rw [IntKind.wrap_i64]; omega)) rfl rfl rfl ?_; clear hf fa; intro fa hf
          refine sqv hf (r_move rfl) rfl rfl rfl ?_; clear hf fa; intro fa hf
          apply wpList_nil
          (try simp only [Exit.then, Exit.inBlock, ↓reduceIte, Nat.reduceEqDiff])
          have hcn := cnt_step (F := formS k) (i := i) 110 (by omega)
          have hcs := cnt_step (F := formS k) (i := i) 115 (by omega)
          refine hKL1 _ _ _ (by omega) ⟨(i + 1), (n + 1), s, (t ++ (⟨#[32]⟩ ++ (dS y1))), rfl, hf.sub ⟨rfl, rfl, rfl, (some_int (by first | rfl | omega)), rfl, rfl, (some_int (by first | rfl | omega)), trivial⟩, hb, hkb1, by omega, (by have h := line_n Hs (by omega) (by have h := hqt27_1; omega) hy1; rw [h]; simp only [bl_app, bl_dS, bl_strN _ (showL_lt _ (bl_lt _)), bl_strN _ (hexB_byte hB.d), List.append_assoc]; rfl), (by split at hcn <;> split at hcs <;> omega), (by split at hcn <;> split at hcs <;> omega)⟩
        · have hqt27_1b := hqt27_1
          replace hqt27_1 := Bool.eq_false_iff.1 hqt27_1
          try simp only [ne_eq, decide_eq_true_eq, Bool.and_eq_true, Bool.or_eq_true, Bool.not_eq_true', decide_eq_false_iff_not] at hqt27_1
          refine wp_seq_k (fun K16 hK16 => ?_)
          refine wp_region_lit ?_
          refine sqv hf (r_eq rfl rfl) rfl rfl rfl ?_; clear hf fa; intro fa hf
          refine sqv hf (r_assign rfl) rfl rfl rfl ?_; clear hf fa; intro fa hf
          apply wpList_nil
          (try simp only [Exit.then, Exit.inBlock, ↓reduceIte, Nat.reduceEqDiff])
          refine hK16 _ _ ?_
          refine wp_cond_split (t := (decide (((sbt (formS k) i : Nat) : Int) = (115 : Int)))) (hf.ev rfl) (fun hqt40_1 => ?_) (fun hqt40_1 => ?_)
          · have hqt40_1b := hqt40_1
            try simp only [decide_eq_true_eq, Bool.and_eq_true, Bool.or_eq_true, Bool.not_eq_true', decide_eq_false_iff_not, ne_eq, Bool.not_eq_true] at hqt40_1
            refine wp_seq_k (fun K17 hK17 => ?_)
            have hcs1 := cnt_step (F := formS k) (i := i) 115 (by omega)
            have hs9 : s < st.S.length := by have h := hqt40_1; rw [if_pos (by omega)] at hcs1; omega
            refine wp_region_lit ?_
            refine sqv hf (r_move rfl) rfl rfl rfl ?_; clear hf fa; intro fa hf
            refine sqv hf (r_fa rfl Try.underlying45 (f := 2) (q := 2) rfl (by kernel_rfl) rfl) rfl rfl rfl ?_; clear hf fa; intro fa hf
            refine sqv hf (r_load (v := (.slice aS st.S.length cS)) rfl Try.underlying32 rfl (cell_blk hkb1 rfl)) rfl rfl rfl ?_; clear hf fa; intro fa hf
            refine sqv hf (r_move rfl) rfl rfl rfl ?_; clear hf fa; intro fa hf
            obtain ⟨y2, hy2⟩ : ∃ x, (st.S)[s]? = some x := ⟨_, List.getElem?_eq_getElem (by (try simp only [Sl.list_length]); omega)⟩
            obtain ⟨ab2, aoff2, rfl, hlb2, hel2⟩ := RdS.at hF.2.1 hy2
            refine sqv hf (r_ixa (sz := 1) (j := s) rfl rfl Try.underlying32 (by kernel_rfl) rfl (by omega) rfl) rfl rfl rfl ?_; clear hf fa; intro fa hf
            refine sqv hf (r_load (v := (.string y2)) rfl Try.underlying9 rfl (cellsAt_cell (cellsAt_below hel2 hb hlb2) (i := 0) rfl rfl)) rfl rfl rfl ?_; clear hf fa; intro fa hf
            refine sqdt hf (d_callB (vs := [(.string y2)]) rfl Try.func41 (by kernel_rfl) (by kernel_rfl) (show_any y2 _ (by have h9 := hB.s _ (List.mem_of_getElem? hy2); omega))) rfl rfl rfl ?_; clear hf fa; rintro fa _ w6 ⟨rfl, he5⟩ hf
            replace hkb1 := blk_ext hkb1 he5
            replace hb := hb.trans (Below.mono he5 hb.size)
            refine sqv hf (r_sadd rfl rfl (by have : ((⟨#[32]⟩) : ByteArray).size = 1 := rfl; have := show_len y2; have := strN_size (showL (bl y2)); have := hB.s _ (List.mem_of_getElem? hy2); omega)) rfl rfl rfl ?_; clear hf fa; intro fa hf
            refine sqv hf (r_sadd rfl rfl (by have : ((⟨#[32]⟩) : ByteArray).size = 1 := rfl; have := show_len y2; have := strN_size (showL (bl y2)); have := hB.s _ (List.mem_of_getElem? hy2); have := sz_app ⟨#[32]⟩ (strN (showL (bl y2))); omega)) rfl rfl rfl ?_; clear hf fa; intro fa hf
            refine sqv hf (r_assign rfl) rfl rfl rfl ?_; clear hf fa; intro fa hf
            apply wpList_nil
            (try simp only [Exit.then, Exit.inBlock, ↓reduceIte, Nat.reduceEqDiff])
            refine hK17 _ _ ?_
            refine wp_region_lit ?_
            refine sqv hf (r_move rfl) rfl rfl rfl ?_; clear hf fa; intro fa hf
            refine sqv hf (r_add (C := (((s : Nat) : Int) + (1 : Int))) rfl rfl (by rw [IntKind.wrap_i64]; omega)) rfl rfl rfl ?_; clear hf fa; intro fa hf
            refine sqv hf (r_assign rfl) rfl rfl rfl ?_; clear hf fa; intro fa hf
            apply wpList_nil
            (try simp only [Exit.then, Exit.inBlock, ↓reduceIte, Nat.reduceEqDiff])
            refine hK11 _ _ ?_
            refine wp_region_lit ?_
            refine sqv hf (r_add (C := (((i : Nat) : Int) + (1 : Int))) rfl rfl (by rw [IntKind.wrap_i64]; omega)) rfl rfl rfl ?_; clear hf fa; intro fa hf
            refine sqv hf (r_move rfl) rfl rfl rfl ?_; clear hf fa; intro fa hf
            apply wpList_nil
            (try simp only [Exit.then, Exit.inBlock, ↓reduceIte, Nat.reduceEqDiff])
            have hcn := cnt_step (F := formS k) (i := i) 110 (by omega)
            have hcs := cnt_step (F := formS k) (i := i) 115 (by omega)
            refine hKL1 _ _ _ (by omega) ⟨(i + 1), n, (s + 1), (t ++ (⟨#[32]⟩ ++ (strN (showL (bl y2))))), rfl, hf.sub ⟨rfl, rfl, rfl, rfl, (some_int (by first | rfl | omega)), rfl, (some_int (by first | rfl | omega)), trivial⟩, hb, hkb1, by omega, (by have h := line_s Hs (by omega) (by have h := hqt40_1; omega) hy2; rw [h]; simp only [bl_app, bl_dS, bl_strN _ (showL_lt _ (bl_lt _)), bl_strN _ (hexB_byte hB.d), List.append_assoc]; rfl), (by split at hcn <;> split at hcs <;> omega), (by split at hcn <;> split at hcs <;> omega)⟩
          · have hqt40_1b := hqt40_1
            replace hqt40_1 := Bool.eq_false_iff.1 hqt40_1
            try simp only [ne_eq, decide_eq_true_eq, Bool.and_eq_true, Bool.or_eq_true, Bool.not_eq_true', decide_eq_false_iff_not] at hqt40_1
            refine wp_seq_k (fun K18 hK18 => ?_)
            refine wp_region_lit ?_
            refine sqv hf (r_eq rfl rfl) rfl rfl rfl ?_; clear hf fa; intro fa hf
            refine sqv hf (r_assign rfl) rfl rfl rfl ?_; clear hf fa; intro fa hf
            apply wpList_nil
            (try simp only [Exit.then, Exit.inBlock, ↓reduceIte, Nat.reduceEqDiff])
            refine hK18 _ _ ?_
            refine wp_cond_split (t := (decide (((sbt (formS k) i : Nat) : Int) = (100 : Int)))) (hf.ev rfl) (fun hqt53_1 => ?_) (fun hqt53_1 => ?_)
            · have hqt53_1b := hqt53_1
              try simp only [decide_eq_true_eq, Bool.and_eq_true, Bool.or_eq_true, Bool.not_eq_true', decide_eq_false_iff_not, ne_eq, Bool.not_eq_true] at hqt53_1
              refine wp_region_lit ?_
              refine sqv hf (r_move rfl) rfl rfl rfl ?_; clear hf fa; intro fa hf
              refine sqv hf (r_fa rfl Try.underlying45 (f := 4) (q := 4) rfl (by kernel_rfl) rfl) rfl rfl rfl ?_; clear hf fa; intro fa hf
              refine sqv hf (r_load (v := (.slice aD st.D.length cD)) rfl Try.underlying43 rfl (cell_blk hkb1 rfl)) rfl rfl rfl ?_; clear hf fa; intro fa hf
              refine sqdt hf (d_callB (vs := [(.slice aD st.D.length cD)]) rfl Try.func32 (by kernel_rfl) (by kernel_rfl) (hex_any st.D aD cD _ hB.d (RdS.ext hF.2.2.2 hb) hB.dl)) rfl rfl rfl ?_; clear hf fa; rintro fa _ w7 ⟨rfl, he6⟩ hf
              replace hkb1 := blk_ext hkb1 he6
              replace hb := hb.trans (Below.mono he6 hb.size)
              refine sqv hf (r_sadd rfl rfl (by have : ((⟨#[32]⟩) : ByteArray).size = 1 := rfl; have := hexB_len st.D; have := strN_size (hexB st.D); omega)) rfl rfl rfl ?_; clear hf fa; intro fa hf
              refine sqv hf (r_sadd rfl rfl (by have : ((⟨#[32]⟩) : ByteArray).size = 1 := rfl; have := hexB_len st.D; have := strN_size (hexB st.D); have := sz_app ⟨#[32]⟩ (strN (hexB st.D)); omega)) rfl rfl rfl ?_; clear hf fa; intro fa hf
              refine sqv hf (r_assign rfl) rfl rfl rfl ?_; clear hf fa; intro fa hf
              apply wpList_nil
              (try simp only [Exit.then, Exit.inBlock, ↓reduceIte, Nat.reduceEqDiff])
              refine hK11 _ _ ?_
              refine wp_region_lit ?_
              refine sqv hf (r_add (C := (((i : Nat) : Int) + (1 : Int))) rfl rfl (by rw [IntKind.wrap_i64]; omega)) rfl rfl rfl ?_; clear hf fa; intro fa hf
              refine sqv hf (r_move rfl) rfl rfl rfl ?_; clear hf fa; intro fa hf
              apply wpList_nil
              (try simp only [Exit.then, Exit.inBlock, ↓reduceIte, Nat.reduceEqDiff])
              have hcn := cnt_step (F := formS k) (i := i) 110 (by omega)
              have hcs := cnt_step (F := formS k) (i := i) 115 (by omega)
              refine hKL1 _ _ _ (by omega) ⟨(i + 1), n, s, (t ++ (⟨#[32]⟩ ++ (strN (hexB st.D)))), rfl, hf.sub ⟨rfl, rfl, rfl, rfl, rfl, rfl, (some_int (by first | rfl | omega)), trivial⟩, hb, hkb1, by omega, (by have h := line_d Hs (by omega) (by have h := hqt53_1; omega); rw [h]; simp only [bl_app, bl_dS, bl_strN _ (showL_lt _ (bl_lt _)), bl_strN _ (hexB_byte hB.d), List.append_assoc]; rfl), (by split at hcn <;> split at hcs <;> omega), (by split at hcn <;> split at hcs <;> omega)⟩
            · have hqt53_1b := hqt53_1
              replace hqt53_1 := Bool.eq_false_iff.1 hqt53_1
              try simp only [ne_eq, decide_eq_true_eq, Bool.and_eq_true, Bool.or_eq_true, Bool.not_eq_true', decide_eq_false_iff_not] at hqt53_1
              refine wp_seq_k (fun K19 hK19 => ?_)
              refine wp_region_lit ?_
              refine sqv hf (r_eq rfl rfl) rfl rfl rfl ?_; clear hf fa; intro fa hf
              refine sqv hf (r_assign rfl) rfl rfl rfl ?_; clear hf fa; intro fa hf
              apply wpList_nil
              (try simp only [Exit.then, Exit.inBlock, ↓reduceIte, Nat.reduceEqDiff])
              refine hK19 _ _ ?_
              refine wp_cond_split (t := (decide (((sbt (formS k) i : Nat) : Int) = (97 : Int)))) (hf.ev rfl) (fun hqt61_1 => ?_) (fun hqt61_1 => ?_)
              · have hqt61_1b := hqt61_1
                try simp only [decide_eq_true_eq, Bool.and_eq_true, Bool.or_eq_true, Bool.not_eq_true', decide_eq_false_iff_not, ne_eq, Bool.not_eq_true] at hqt61_1
                refine wp_seq_k (fun K20 hK20 => ?_)
                refine wp_region_lit ?_
                refine sqv hf (r_fa rfl Try.underlying45 (f := 3) (q := 3) rfl (by kernel_rfl) rfl) rfl rfl rfl ?_; clear hf fa; intro fa hf
                refine sqv hf (r_load (v := (.slice aA st.A.length cA)) rfl Try.underlying42 rfl (cell_blk hkb1 rfl)) rfl rfl rfl ?_; clear hf fa; intro fa hf
                refine sqv hf (r_lensl rfl Try.underlying42) rfl rfl rfl ?_; clear hf fa; intro fa hf
                refine sqv hf (r_move rfl) rfl rfl rfl ?_; clear hf fa; intro fa hf
                apply wpList_nil
                (try simp only [Exit.then, Exit.inBlock, ↓reduceIte, Nat.reduceEqDiff])
                refine hK20 _ _ ?_
                refine wp_block ?_
                refine wp_loop_k (fun mq fa wr => ∃ (m : Nat) (t : ByteArray), mq = st.A.length - m ∧ Fr 78 fa [(1, (.pointer (some ⟨b1, 0, none⟩))), (3, (.string t)), (4, (.string (formS k))), (5, (.int .i64 ((n : Nat) : Int))), (6, (.int .i64 ((s : Nat) : Int))), (20, (.int .i64 (((formS k).size : Nat) : Int))), (21, (.int .i64 ((i : Nat) : Int))), (64, (.slice aA st.A.length cA)), (65, (.int .i64 ((st.A.length : Nat) : Int))), (66, (.int .i64 ((m : Nat) : Int)))] ∧ Below w.heap.size w wr ∧ wr.heap[b1]? = some (.cells #[(.int .i64 k), (.slice aN st.N.length cN), (.slice aS st.S.length cS), (.slice aA st.A.length cA), (.slice aD st.D.length cD)] 45 (0, 0)) ∧ (m ≤ st.A.length) ∧ (lineL k st = bl t ++ joinB ((st.A.drop m).map (fun v => bl (valS v)) ++ argsP ((bl (formS k)).drop (i + 1)) (st.N.drop n) (st.S.drop s) st.A st.D))) ?_ ?_
                · skip
                  exact ⟨_, 0, t, rfl, hf.sub ⟨rfl, rfl, rfl, rfl, rfl, rfl, rfl, rfl, rfl, (some_int (by first | rfl | omega)), trivial⟩, hb, hkb1, by omega, (line_a Hs (by omega) (by have h := hqt61_1; omega))⟩
                · skip
                  clear hf fa; intro mq2 fa w8 hI KL2 hKL2
                  clear hb
                  clear hkb1
                  obtain ⟨m, t, hmq2, hf, hb, hkb1, hm, Hv⟩ := hI
                  have htl2 : t.size ≤ 50000 := by have h1 := congrArg List.length Hv; rw [List.length_append, bl_length] at h1; omega
                  refine wp_seq_k (fun K21 hK21 => ?_)
                  refine wp_region_lit ?_
                  refine sqv hf (r_lt rfl rfl) rfl rfl rfl ?_; clear hf fa; intro fa hf
                  apply wpList_nil
                  (try simp only [Exit.then, Exit.inBlock, ↓reduceIte, Nat.reduceEqDiff])
                  refine hK21 _ _ ?_
                  refine wp_seq_k (fun K22 hK22 => ?_)
                  refine wp_cond_split (t := (decide (((m : Nat) : Int) < ((st.A.length : Nat) : Int)))) (hf.ev rfl) (fun hqt67_1 => ?_) (fun hqt67_1 => ?_)
                  · have hqt67_1b := hqt67_1
                    try simp only [decide_eq_true_eq, Bool.and_eq_true, Bool.or_eq_true, Bool.not_eq_true', decide_eq_false_iff_not, ne_eq, Bool.not_eq_true] at hqt67_1
                    refine wp_skip ?_
                    (try simp only [Exit.then, Exit.inBlock, ↓reduceIte, Nat.reduceEqDiff])
                    refine hK22 _ _ ?_
                    refine wp_seq_k (fun K23 hK23 => ?_)
                    refine wp_block ?_
                    refine wp_seq_k (fun K24 hK24 => ?_)
                    refine wp_region_lit ?_
                    obtain ⟨y3, hy3⟩ : ∃ x, (st.A)[m]? = some x := ⟨_, List.getElem?_eq_getElem (by (try simp only [Sl.list_length]); omega)⟩
                    obtain ⟨ab3, aoff3, rfl, hlb3, hel3⟩ := RdS.at hF.2.2.1 hy3
                    refine sqv hf (r_ixa (sz := 2) (j := m) rfl rfl Try.underlying42 (by kernel_rfl) rfl (by omega) rfl) rfl rfl rfl ?_; clear hf fa; intro fa hf
                    refine sqv hf (r_loadA (cs := [(.int .u8 y3.1), (.int .u64 y3.2.1)]) rfl Try.underlying65 rfl (by kernel_rfl) (cellsAt_below hel3 hb hlb3)) rfl rfl rfl ?_; clear hf fa; intro fa hf
                    refine sqdt hf (d_alloc (z := (.agg #[(.int .u8 (0 : Int)), (.int .u64 (0 : Int))])) (cs := #[(.int .u8 (0 : Int)), (.int .u64 (0 : Int))]) (by kernel_rfl) rfl) rfl rfl rfl ?_; clear hf fa; rintro fa _ w9 ⟨b2, rfl, hle2, hk2, he7⟩ hf
                    have hBb2 : w.heap.size ≤ b2 := Nat.le_trans hb.size hle2
                    have : b1 < b2 := Nat.lt_of_lt_of_le (blk_lt hkb1) hle2
                    replace hkb1 := blk_ext hkb1 he7
                    replace hb := hb.trans (Below.mono he7 hb.size)
                    refine sqn hf (d_storeK (T := 65) (v := (.agg #[(.int .u8 y3.1), (.int .u64 y3.2.1)])) (cs := #[(.int .u8 (0 : Int)), (.int .u64 (0 : Int))]) (cs' := #[(.int .u8 y3.1), (.int .u64 y3.2.1)]) rfl rfl (by kernel_rfl) (by kernel_rfl) hk2 (by kernel_rfl) (by kernel_rfl)) rfl rfl ?_; clear hf fa; rintro fa _ w10 ⟨hk3, hg1⟩ hf
                    replace hkb1 := blk_grown hkb1 hg1 (by omega)
                    replace hb := hb.trans (grown_below hg1 hb.size hBb2)
                    apply wpList_nil
                    (try simp only [Exit.then, Exit.inBlock, ↓reduceIte, Nat.reduceEqDiff])
                    refine hK24 _ _ ?_
                    refine wp_region_lit ?_
                    refine sqv hf (r_move rfl) rfl rfl rfl ?_; clear hf fa; intro fa hf
                    refine sqv hf (r_loadA (cs := [(.int .u8 y3.1), (.int .u64 y3.2.1)]) rfl Try.underlying65 rfl (by kernel_rfl) (cellsAt_blk hk3)) rfl rfl rfl ?_; clear hf fa; intro fa hf
                    refine sqdt hf (d_callB (vs := [(.agg #[(.int .u8 y3.1), (.int .u64 y3.2.1)])]) rfl Try.func34 (by kernel_rfl) (by kernel_rfl) (opvalue_any y3 _ (hB.a _ (List.mem_of_getElem? hy3)).1 (hB.a _ (List.mem_of_getElem? hy3)).2)) rfl rfl rfl ?_; clear hf fa; rintro fa _ w11 ⟨rfl, he8⟩ hf
                    replace hkb1 := blk_ext hkb1 he8
                    replace hk3 := blk_ext hk3 he8
                    replace hb := hb.trans (Below.mono he8 hb.size)
                    refine sqv hf (r_sadd rfl rfl (by have : ((⟨#[32]⟩) : ByteArray).size = 1 := rfl; have := valS_len (hB.a _ (List.mem_of_getElem? hy3)).2; omega)) rfl rfl rfl ?_; clear hf fa; intro fa hf
                    refine sqv hf (r_sadd rfl rfl (by have : ((⟨#[32]⟩) : ByteArray).size = 1 := rfl; have := valS_len (hB.a _ (List.mem_of_getElem? hy3)).2; have := sz_app ⟨#[32]⟩ (valS y3); omega)) rfl rfl rfl ?_; clear hf fa; intro fa hf
                    refine sqv hf (r_assign rfl) rfl rfl rfl ?_; clear hf fa; intro fa hf
                    apply wpList_nil
                    (try simp only [Exit.then, Exit.inBlock, ↓reduceIte, Nat.reduceEqDiff])
                    refine hK23 _ _ ?_
                    refine wp_region_lit ?_
                    refine sqv hf (r_add (C := (((m : Nat) : Int) + (1 : Int))) rfl rfl (by rw [IntKind.wrap_i64]; omega)) rfl rfl rfl ?_; clear hf fa; intro fa hf
                    refine sqv hf (r_move rfl) rfl rfl rfl ?_; clear hf fa; intro fa hf
                    apply wpList_nil
                    (try simp only [Exit.then, Exit.inBlock, ↓reduceIte, Nat.reduceEqDiff])
                    refine hKL2 _ _ _ (by omega) ⟨(m + 1), (t ++ (⟨#[32]⟩ ++ (valS y3))), rfl, hf.sub ⟨rfl, rfl, rfl, rfl, rfl, rfl, rfl, rfl, rfl, (some_int (by first | rfl | omega)), trivial⟩, hb, hkb1, by omega, (by have h := line_v Hv hy3; rw [h]; simp only [bl_app, bl_dS, bl_strN _ (showL_lt _ (bl_lt _)), bl_strN _ (hexB_byte hB.d), List.append_assoc]; rfl)⟩
                  · have hqt67_1b := hqt67_1
                    replace hqt67_1 := Bool.eq_false_iff.1 hqt67_1
                    try simp only [ne_eq, decide_eq_true_eq, Bool.and_eq_true, Bool.or_eq_true, Bool.not_eq_true', decide_eq_false_iff_not] at hqt67_1
                    refine wp_exit ?_
                    (try simp only [Exit.then, Exit.inBlock, ↓reduceIte, Nat.reduceEqDiff])
                    refine hK11 _ _ ?_
                    refine wp_region_lit ?_
                    refine sqv hf (r_add (C := (((i : Nat) : Int) + (1 : Int))) rfl rfl (by rw [IntKind.wrap_i64]; omega)) rfl rfl rfl ?_; clear hf fa; intro fa hf
                    refine sqv hf (r_move rfl) rfl rfl rfl ?_; clear hf fa; intro fa hf
                    apply wpList_nil
                    (try simp only [Exit.then, Exit.inBlock, ↓reduceIte, Nat.reduceEqDiff])
                    have hcn := cnt_step (F := formS k) (i := i) 110 (by omega)
                    have hcs := cnt_step (F := formS k) (i := i) 115 (by omega)
                    refine hKL1 _ _ _ (by omega) ⟨(i + 1), n, s, t, rfl, hf.sub ⟨rfl, rfl, rfl, rfl, rfl, rfl, (some_int (by first | rfl | omega)), trivial⟩, hb, hkb1, by omega, (line_ve Hv (by omega)), (by split at hcn <;> split at hcs <;> omega), (by split at hcn <;> split at hcs <;> omega)⟩
              · have hqt61_1b := hqt61_1
                replace hqt61_1 := Bool.eq_false_iff.1 hqt61_1
                try simp only [ne_eq, decide_eq_true_eq, Bool.and_eq_true, Bool.or_eq_true, Bool.not_eq_true', decide_eq_false_iff_not] at hqt61_1
                refine wp_skip ?_
                (try simp only [Exit.then, Exit.inBlock, ↓reduceIte, Nat.reduceEqDiff])
                refine hK11 _ _ ?_
                refine wp_region_lit ?_
                refine sqv hf (r_add (C := (((i : Nat) : Int) + (1 : Int))) rfl rfl (by rw [IntKind.wrap_i64]; omega)) rfl rfl rfl ?_; clear hf fa; intro fa hf
                refine sqv hf (r_move rfl) rfl rfl rfl ?_; clear hf fa; intro fa hf
                apply wpList_nil
                (try simp only [Exit.then, Exit.inBlock, ↓reduceIte, Nat.reduceEqDiff])
                have hcn := cnt_step (F := formS k) (i := i) 110 (by omega)
                have hcs := cnt_step (F := formS k) (i := i) 115 (by omega)
                refine hKL1 _ _ _ (by omega) ⟨(i + 1), n, s, t, rfl, hf.sub ⟨rfl, rfl, rfl, rfl, rfl, rfl, (some_int (by first | rfl | omega)), trivial⟩, hb, hkb1, by omega, (line_o Hs (by omega) (by omega)), (by split at hcn <;> split at hcs <;> omega), (by split at hcn <;> split at hcs <;> omega)⟩
      · have hqt22_1b := hqt22_1
        replace hqt22_1 := Bool.eq_false_iff.1 hqt22_1
        try simp only [ne_eq, decide_eq_true_eq, Bool.and_eq_true, Bool.or_eq_true, Bool.not_eq_true', decide_eq_false_iff_not] at hqt22_1
        refine wp_exit ?_
        (try simp only [Exit.then, Exit.inBlock, ↓reduceIte, Nat.reduceEqDiff])
        refine hK7 _ _ ?_
        refine wp_seq_k (fun K25 hK25 => ?_)
        refine wp_region_lit ?_
        refine sqv hf (r_move rfl) rfl rfl rfl ?_; clear hf fa; intro fa hf
        refine sqv hf (r_assign rfl) rfl rfl rfl ?_; clear hf fa; intro fa hf
        apply wpList_nil
        (try simp only [Exit.then, Exit.inBlock, ↓reduceIte, Nat.reduceEqDiff])
        refine hK25 _ _ ?_
        refine wp_ret ?_
        (try simp only [Exit.then, Exit.inBlock])
        refine ret1 hf rfl rfl ?_
        refine ⟨?_, hb⟩; rw [if_pos hrt]; unfold lineS; rw [line_end Hs (by omega), strN_bl]

set_option maxHeartbeats 1000000 in
set_option maxRecDepth 100000 in
theorem rline_any (k : Int) (st : PSt) (aN aS aA aD : Option Addr) (cN cS cA cD : Nat) (w : World) (hF : OpF w st aN aS aA aD) (hB : OpB st) (hrt : rightP k st = true) : Calls Try.prog 22 #[(.agg #[(.int .i64 k), (.slice aN st.N.length cN), (.slice aS st.S.length cS), (.slice aA st.A.length cA), (.slice aD st.D.length cD)])] w fun e w' => e = .returned (.string (lineS k st)) ∧ Below w.heap.size w w' := by
  have hsl9 := hB.sl
  have hal9 := hB.al
  have hdl9 := hB.dl
  have hnl9 := hB.nl
  have hHd := (right_split hrt).1
  have hll := line_len hB hrt
  have hwl := word_len k
  refine sx_enter (L := [(0, (.agg #[(.int .i64 k), (.slice aN st.N.length cN), (.slice aS st.S.length cS), (.slice aA st.A.length cA), (.slice aD st.D.length cD)]))]) Try.func22 rfl rfl rfl rfl (fun fa hf => ?_)
  have hb : Below w.heap.size w w := Below.refl _ _
  refine wp_seq_k (fun K1 hK1 => ?_)
  refine wp_region_lit ?_
  refine sqdt hf (d_box (cs := #[(.int .i64 k), (.slice aN st.N.length cN), (.slice aS st.S.length cS), (.slice aA st.A.length cA), (.slice aD st.D.length cD)]) rfl rfl) rfl rfl rfl ?_; clear hf fa; rintro fa _ w1 ⟨b1, rfl, hle1, hk1, he1⟩ hf
  have hBb1 : w.heap.size ≤ b1 := Nat.le_trans hb.size hle1
  replace hb := hb.trans (Below.mono he1 hb.size)
  refine sqv hf (r_assign rfl) rfl rfl rfl ?_; clear hf fa; intro fa hf
  apply wpList_nil
  (try simp only [Exit.then, Exit.inBlock, ↓reduceIte, Nat.reduceEqDiff])
  refine hK1 _ _ ?_
  refine wp_seq_k (fun K2 hK2 => ?_)
  refine wp_region_lit ?_
  refine sqv hf (r_fa rfl Try.underlying49 (f := 0) (q := 0) rfl (by kernel_rfl) rfl) rfl rfl rfl ?_; clear hf fa; intro fa hf
  refine sqv hf (r_load (v := (.int .i64 k)) rfl Try.underlying3 rfl (cell_blk hk1 rfl)) rfl rfl rfl ?_; clear hf fa; intro fa hf
  refine sqdt hf (d_callB (vs := [(.int .i64 k)]) rfl Try.func18 (by kernel_rfl) (by kernel_rfl) (rform_any k _)) rfl rfl rfl ?_; clear hf fa; rintro fa _ w2 ⟨rfl, he2⟩ hf
  replace hk1 := blk_ext hk1 he2
  replace hb := hb.trans (Below.mono he2 hb.size)
  refine sqv hf (r_move rfl) rfl rfl rfl ?_; clear hf fa; intro fa hf
  refine sqv hf (r_extract rfl (i := 0) rfl) rfl rfl rfl ?_; clear hf fa; intro fa hf
  refine sqv hf (r_extract rfl (i := 1) rfl) rfl rfl rfl ?_; clear hf fa; intro fa hf
  refine sqv hf (r_assign rfl) rfl rfl rfl ?_; clear hf fa; intro fa hf
  refine sqv hf (r_assign rfl) rfl rfl rfl ?_; clear hf fa; intro fa hf
  apply wpList_nil
  (try simp only [Exit.then, Exit.inBlock, ↓reduceIte, Nat.reduceEqDiff])
  refine hK2 _ _ ?_
  refine wp_seq_k (fun K3 hK3 => ?_)
  refine wp_region_lit ?_
  refine sqv hf (r_assign rfl) rfl rfl rfl ?_; clear hf fa; intro fa hf
  refine sqv hf (r_assign rfl) rfl rfl rfl ?_; clear hf fa; intro fa hf
  apply wpList_nil
  (try simp only [Exit.then, Exit.inBlock, ↓reduceIte, Nat.reduceEqDiff])
  refine hK3 _ _ ?_
  refine wp_seq_k (fun K4 hK4 => ?_)
  refine wp_seq_k (fun K5 hK5 => ?_)
  refine wp_region_lit ?_
  refine sqv hf (r_assign rfl) rfl rfl rfl ?_; clear hf fa; intro fa hf
  apply wpList_nil
  (try simp only [Exit.then, Exit.inBlock, ↓reduceIte, Nat.reduceEqDiff])
  refine hK5 _ _ ?_
  refine wp_block ?_
  refine wp_loop_k (fun mq fa wr => ∃ (i : Nat) (n : Nat) (s : Nat) (t : ByteArray), mq = (formS k).size - i ∧ Fr 77 fa [(1, (.pointer (some ⟨b1, 0, none⟩))), (3, (.string t)), (4, (.string (formS k))), (5, (.int .i64 ((n : Nat) : Int))), (6, (.int .i64 ((s : Nat) : Int))), (7, (.int .i64 ((i : Nat) : Int)))] ∧ Below w.heap.size w wr ∧ wr.heap[b1]? = some (.cells #[(.int .i64 k), (.slice aN st.N.length cN), (.slice aS st.S.length cS), (.slice aA st.A.length cA), (.slice aD st.D.length cD)] 49 (0, 0)) ∧ (i ≤ (formS k).size) ∧ (lineL k st = bl t ++ joinB (argsP ((bl (formS k)).drop i) (st.N.drop n) (st.S.drop s) st.A st.D)) ∧ (st.N.length = n + ((bl (formS k)).drop i).count 110) ∧ (st.S.length = s + ((bl (formS k)).drop i).count 115)) ?_ ?_
  · skip
    exact ⟨_, 0, 0, 0, (wordS k), rfl, hf.sub ⟨rfl, rfl, rfl, (some_int (by first | rfl | omega)), (some_int (by first | rfl | omega)), (some_int (by first | rfl | omega)), trivial⟩, hb, hk1, by omega, rfl, (by rw [List.drop_zero, Nat.zero_add]; exact hHd.2.1), (by rw [List.drop_zero, Nat.zero_add]; exact hHd.2.2.1)⟩
  · skip
    clear hf fa; intro mq1 fa w3 hI KL1 hKL1
    clear hb
    clear hk1
    obtain ⟨i, n, s, t, hmq1, hf, hb, hkb1, hi, Hs, Hn, Hsn⟩ := hI
    have htl : t.size ≤ 50000 := by have h1 := congrArg List.length Hs; rw [List.length_append, bl_length] at h1; omega
    refine wp_seq_k (fun K6 hK6 => ?_)
    refine wp_seq_k (fun K7 hK7 => ?_)
    refine wp_region_lit ?_
    refine sqv hf (r_move rfl) rfl rfl rfl ?_; clear hf fa; intro fa hf
    refine sqv hf (r_move rfl) rfl rfl rfl ?_; clear hf fa; intro fa hf
    refine sqv hf (r_lens rfl Try.underlying9) rfl rfl rfl ?_; clear hf fa; intro fa hf
    refine sqv hf (r_lt rfl rfl) rfl rfl rfl ?_; clear hf fa; intro fa hf
    apply wpList_nil
    (try simp only [Exit.then, Exit.inBlock, ↓reduceIte, Nat.reduceEqDiff])
    refine hK7 _ _ ?_
    refine wp_cond_split (t := (decide (((i : Nat) : Int) < (((formS k).size : Nat) : Int)))) (hf.ev rfl) (fun hqt18_1 => ?_) (fun hqt18_1 => ?_)
    · have hqt18_1b := hqt18_1
      try simp only [decide_eq_true_eq, Bool.and_eq_true, Bool.or_eq_true, Bool.not_eq_true', decide_eq_false_iff_not, ne_eq, Bool.not_eq_true] at hqt18_1
      refine wp_skip ?_
      (try simp only [Exit.then, Exit.inBlock, ↓reduceIte, Nat.reduceEqDiff])
      refine hK6 _ _ ?_
      refine wp_seq_k (fun K8 hK8 => ?_)
      refine wp_block ?_
      refine wp_seq_k (fun K9 hK9 => ?_)
      refine wp_region_lit ?_
      refine sqv hf (r_move rfl) rfl rfl rfl ?_; clear hf fa; intro fa hf
      refine sqv hf (r_move rfl) rfl rfl rfl ?_; clear hf fa; intro fa hf
      refine sqv hf (r_sindexD (j := i) rfl rfl Try.underlying9 rfl (by omega)) rfl rfl rfl ?_; clear hf fa; intro fa hf
      apply wpList_nil
      (try simp only [Exit.then, Exit.inBlock, ↓reduceIte, Nat.reduceEqDiff])
      refine hK9 _ _ ?_
      refine wp_block ?_
      refine wp_seq_k (fun K10 hK10 => ?_)
      refine wp_region_lit ?_
      refine sqv hf (r_eq rfl rfl) rfl rfl rfl ?_; clear hf fa; intro fa hf
      refine sqv hf (r_assign rfl) rfl rfl rfl ?_; clear hf fa; intro fa hf
      apply wpList_nil
      (try simp only [Exit.then, Exit.inBlock, ↓reduceIte, Nat.reduceEqDiff])
      refine hK10 _ _ ?_
      refine wp_cond_split (t := (decide (((sbt (formS k) i : Nat) : Int) = (110 : Int)))) (hf.ev rfl) (fun hqt24_1 => ?_) (fun hqt24_1 => ?_)
      · have hqt24_1b := hqt24_1
        try simp only [decide_eq_true_eq, Bool.and_eq_true, Bool.or_eq_true, Bool.not_eq_true', decide_eq_false_iff_not, ne_eq, Bool.not_eq_true] at hqt24_1
        refine wp_seq_k (fun K11 hK11 => ?_)
        have hcn1 := cnt_step (F := formS k) (i := i) 110 (by omega)
        have hn9 : n < st.N.length := by have h := hqt24_1; rw [if_pos (by omega)] at hcn1; omega
        refine wp_region_lit ?_
        refine sqv hf (r_move rfl) rfl rfl rfl ?_; clear hf fa; intro fa hf
        refine sqv hf (r_sadd rfl rfl (by have : ((⟨#[32]⟩) : ByteArray).size = 1 := rfl; omega)) rfl rfl rfl ?_; clear hf fa; intro fa hf
        refine sqv hf (r_fa rfl Try.underlying49 (f := 1) (q := 1) rfl (by kernel_rfl) rfl) rfl rfl rfl ?_; clear hf fa; intro fa hf
        refine sqv hf (r_load (v := (.slice aN st.N.length cN)) rfl Try.underlying41 rfl (cell_blk hkb1 rfl)) rfl rfl rfl ?_; clear hf fa; intro fa hf
        refine sqv hf (r_move rfl) rfl rfl rfl ?_; clear hf fa; intro fa hf
        obtain ⟨y1, hy1⟩ : ∃ x, (st.N)[n]? = some x := ⟨_, List.getElem?_eq_getElem (by (try simp only [Sl.list_length]); omega)⟩
        obtain ⟨ab1, aoff1, rfl, hlb1, hel1⟩ := RdS.at hF.1 hy1
        refine sqv hf (r_ixa (sz := 1) (j := n) rfl rfl Try.underlying41 (by kernel_rfl) rfl (by omega) rfl) rfl rfl rfl ?_; clear hf fa; intro fa hf
        refine sqv hf (r_load (v := (.int .i64 y1)) rfl Try.underlying3 rfl (cellsAt_cell (cellsAt_below hel1 hb hlb1) (i := 0) rfl rfl)) rfl rfl rfl ?_; clear hf fa; intro fa hf
        refine sqdt hf (d_callB (vs := [(.int .i64 y1)]) rfl Try.func33 (by kernel_rfl) (by kernel_rfl) (rdigits_any y1 _ (hB.n _ (List.mem_of_getElem? hy1)))) rfl rfl rfl ?_; clear hf fa; rintro fa _ w4 ⟨rfl, he3⟩ hf
        replace hkb1 := blk_ext hkb1 he3
        replace hb := hb.trans (Below.mono he3 hb.size)
        refine sqv hf (r_sadd rfl rfl (by have : ((⟨#[32]⟩) : ByteArray).size = 1 := rfl; have := sz_app t ⟨#[32]⟩; have := dS_len (hB.n _ (List.mem_of_getElem? hy1)); omega)) rfl rfl rfl ?_; clear hf fa; intro fa hf
        refine sqv hf (r_assign rfl) rfl rfl rfl ?_; clear hf fa; intro fa hf
        apply wpList_nil
        (try simp only [Exit.then, Exit.inBlock, ↓reduceIte, Nat.reduceEqDiff])
        refine hK11 _ _ ?_
        refine wp_region_lit ?_
        refine sqv hf (r_move rfl) rfl rfl rfl ?_; clear hf fa; intro fa hf
        refine sqv hf (r_add (C := (((n : Nat) : Int) + (1 : Int))) rfl rfl (by rw [IntKind.wrap_i64]; omega)) rfl rfl rfl ?_; clear hf fa; intro fa hf
        refine sqv hf (r_assign rfl) rfl rfl rfl ?_; clear hf fa; intro fa hf
        apply wpList_nil
        (try simp only [Exit.then, Exit.inBlock, ↓reduceIte, Nat.reduceEqDiff])
        refine hK8 _ _ ?_
        refine wp_region_lit ?_
        refine sqv hf (r_move rfl) rfl rfl rfl ?_; clear hf fa; intro fa hf
        refine sqv hf (r_add (C := (((i : Nat) : Int) + (1 : Int))) rfl rfl (by rw [IntKind.wrap_i64]; omega)) rfl rfl rfl ?_; clear hf fa; intro fa hf
        refine sqv hf (r_assign rfl) rfl rfl rfl ?_; clear hf fa; intro fa hf
        apply wpList_nil
        (try simp only [Exit.then, Exit.inBlock, ↓reduceIte, Nat.reduceEqDiff])
        have hcn := cnt_step (F := formS k) (i := i) 110 (by omega)
        have hcs := cnt_step (F := formS k) (i := i) 115 (by omega)
        refine hKL1 _ _ _ (by omega) ⟨(i + 1), (n + 1), s, ((t ++ ⟨#[32]⟩) ++ (dS y1)), rfl, hf.sub ⟨rfl, rfl, rfl, (some_int (by first | rfl | omega)), rfl, (some_int (by first | rfl | omega)), trivial⟩, hb, hkb1, by omega, (by have h := line_n Hs (by omega) (by have h := hqt24_1; omega) hy1; rw [h]; simp only [bl_app, bl_dS, bl_strN _ (showL_lt _ (bl_lt _)), bl_strN _ (hexB_byte hB.d), List.append_assoc]; rfl), (by split at hcn <;> split at hcs <;> omega), (by split at hcn <;> split at hcs <;> omega)⟩
      · have hqt24_1b := hqt24_1
        replace hqt24_1 := Bool.eq_false_iff.1 hqt24_1
        try simp only [ne_eq, decide_eq_true_eq, Bool.and_eq_true, Bool.or_eq_true, Bool.not_eq_true', decide_eq_false_iff_not] at hqt24_1
        refine wp_seq_k (fun K12 hK12 => ?_)
        refine wp_region_lit ?_
        refine sqv hf (r_eq rfl rfl) rfl rfl rfl ?_; clear hf fa; intro fa hf
        refine sqv hf (r_assign rfl) rfl rfl rfl ?_; clear hf fa; intro fa hf
        apply wpList_nil
        (try simp only [Exit.then, Exit.inBlock, ↓reduceIte, Nat.reduceEqDiff])
        refine hK12 _ _ ?_
        refine wp_cond_split (t := (decide (((sbt (formS k) i : Nat) : Int) = (115 : Int)))) (hf.ev rfl) (fun hqt37_1 => ?_) (fun hqt37_1 => ?_)
        · have hqt37_1b := hqt37_1
          try simp only [decide_eq_true_eq, Bool.and_eq_true, Bool.or_eq_true, Bool.not_eq_true', decide_eq_false_iff_not, ne_eq, Bool.not_eq_true] at hqt37_1
          refine wp_seq_k (fun K13 hK13 => ?_)
          have hcs1 := cnt_step (F := formS k) (i := i) 115 (by omega)
          have hs9 : s < st.S.length := by have h := hqt37_1; rw [if_pos (by omega)] at hcs1; omega
          refine wp_region_lit ?_
          refine sqv hf (r_move rfl) rfl rfl rfl ?_; clear hf fa; intro fa hf
          refine sqv hf (r_sadd rfl rfl (by have : ((⟨#[32]⟩) : ByteArray).size = 1 := rfl; omega)) rfl rfl rfl ?_; clear hf fa; intro fa hf
          refine sqv hf (r_fa rfl Try.underlying49 (f := 2) (q := 2) rfl (by kernel_rfl) rfl) rfl rfl rfl ?_; clear hf fa; intro fa hf
          refine sqv hf (r_load (v := (.slice aS st.S.length cS)) rfl Try.underlying32 rfl (cell_blk hkb1 rfl)) rfl rfl rfl ?_; clear hf fa; intro fa hf
          refine sqv hf (r_move rfl) rfl rfl rfl ?_; clear hf fa; intro fa hf
          obtain ⟨y2, hy2⟩ : ∃ x, (st.S)[s]? = some x := ⟨_, List.getElem?_eq_getElem (by (try simp only [Sl.list_length]); omega)⟩
          obtain ⟨ab2, aoff2, rfl, hlb2, hel2⟩ := RdS.at hF.2.1 hy2
          refine sqv hf (r_ixa (sz := 1) (j := s) rfl rfl Try.underlying32 (by kernel_rfl) rfl (by omega) rfl) rfl rfl rfl ?_; clear hf fa; intro fa hf
          refine sqv hf (r_load (v := (.string y2)) rfl Try.underlying9 rfl (cellsAt_cell (cellsAt_below hel2 hb hlb2) (i := 0) rfl rfl)) rfl rfl rfl ?_; clear hf fa; intro fa hf
          refine sqdt hf (d_callB (vs := [(.string y2)]) rfl Try.func46 (by kernel_rfl) (by kernel_rfl) (refShow_any y2 _ (by have h9 := hB.s _ (List.mem_of_getElem? hy2); omega))) rfl rfl rfl ?_; clear hf fa; rintro fa _ w5 ⟨rfl, he4⟩ hf
          replace hkb1 := blk_ext hkb1 he4
          replace hb := hb.trans (Below.mono he4 hb.size)
          refine sqv hf (r_sadd rfl rfl (by have : ((⟨#[32]⟩) : ByteArray).size = 1 := rfl; have := sz_app t ⟨#[32]⟩; have := show_len y2; have := strN_size (showL (bl y2)); have := hB.s _ (List.mem_of_getElem? hy2); omega)) rfl rfl rfl ?_; clear hf fa; intro fa hf
          refine sqv hf (r_assign rfl) rfl rfl rfl ?_; clear hf fa; intro fa hf
          apply wpList_nil
          (try simp only [Exit.then, Exit.inBlock, ↓reduceIte, Nat.reduceEqDiff])
          refine hK13 _ _ ?_
          refine wp_region_lit ?_
          refine sqv hf (r_move rfl) rfl rfl rfl ?_; clear hf fa; intro fa hf
          refine sqv hf (r_add (C := (((s : Nat) : Int) + (1 : Int))) rfl rfl (by rw [IntKind.wrap_i64]; omega)) rfl rfl rfl ?_; clear hf fa; intro fa hf
          refine sqv hf (r_assign rfl) rfl rfl rfl ?_; clear hf fa; intro fa hf
          apply wpList_nil
          (try simp only [Exit.then, Exit.inBlock, ↓reduceIte, Nat.reduceEqDiff])
          refine hK8 _ _ ?_
          refine wp_region_lit ?_
          refine sqv hf (r_move rfl) rfl rfl rfl ?_; clear hf fa; intro fa hf
          refine sqv hf (r_add (C := (((i : Nat) : Int) + (1 : Int))) rfl rfl (by rw [IntKind.wrap_i64]; omega)) rfl rfl rfl ?_; clear hf fa; intro fa hf
          refine sqv hf (r_assign rfl) rfl rfl rfl ?_; clear hf fa; intro fa hf
          apply wpList_nil
          (try simp only [Exit.then, Exit.inBlock, ↓reduceIte, Nat.reduceEqDiff])
          have hcn := cnt_step (F := formS k) (i := i) 110 (by omega)
          have hcs := cnt_step (F := formS k) (i := i) 115 (by omega)
          refine hKL1 _ _ _ (by omega) ⟨(i + 1), n, (s + 1), ((t ++ ⟨#[32]⟩) ++ (strN (showL (bl y2)))), rfl, hf.sub ⟨rfl, rfl, rfl, rfl, (some_int (by first | rfl | omega)), (some_int (by first | rfl | omega)), trivial⟩, hb, hkb1, by omega, (by have h := line_s Hs (by omega) (by have h := hqt37_1; omega) hy2; rw [h]; simp only [bl_app, bl_dS, bl_strN _ (showL_lt _ (bl_lt _)), bl_strN _ (hexB_byte hB.d), List.append_assoc]; rfl), (by split at hcn <;> split at hcs <;> omega), (by split at hcn <;> split at hcs <;> omega)⟩
        · have hqt37_1b := hqt37_1
          replace hqt37_1 := Bool.eq_false_iff.1 hqt37_1
          try simp only [ne_eq, decide_eq_true_eq, Bool.and_eq_true, Bool.or_eq_true, Bool.not_eq_true', decide_eq_false_iff_not] at hqt37_1
          refine wp_seq_k (fun K14 hK14 => ?_)
          refine wp_region_lit ?_
          refine sqv hf (r_eq rfl rfl) rfl rfl rfl ?_; clear hf fa; intro fa hf
          refine sqv hf (r_assign rfl) rfl rfl rfl ?_; clear hf fa; intro fa hf
          apply wpList_nil
          (try simp only [Exit.then, Exit.inBlock, ↓reduceIte, Nat.reduceEqDiff])
          refine hK14 _ _ ?_
          refine wp_cond_split (t := (decide (((sbt (formS k) i : Nat) : Int) = (100 : Int)))) (hf.ev rfl) (fun hqt50_1 => ?_) (fun hqt50_1 => ?_)
          · have hqt50_1b := hqt50_1
            try simp only [decide_eq_true_eq, Bool.and_eq_true, Bool.or_eq_true, Bool.not_eq_true', decide_eq_false_iff_not, ne_eq, Bool.not_eq_true] at hqt50_1
            refine wp_region_lit ?_
            refine sqv hf (r_move rfl) rfl rfl rfl ?_; clear hf fa; intro fa hf
            refine sqv hf (r_sadd rfl rfl (by have : ((⟨#[32]⟩) : ByteArray).size = 1 := rfl; omega)) rfl rfl rfl ?_; clear hf fa; intro fa hf
            refine sqv hf (r_fa rfl Try.underlying49 (f := 4) (q := 4) rfl (by kernel_rfl) rfl) rfl rfl rfl ?_; clear hf fa; intro fa hf
            refine sqv hf (r_load (v := (.slice aD st.D.length cD)) rfl Try.underlying43 rfl (cell_blk hkb1 rfl)) rfl rfl rfl ?_; clear hf fa; intro fa hf
            refine sqdt hf (d_callB (vs := [(.slice aD st.D.length cD)]) rfl Try.func36 (by kernel_rfl) (by kernel_rfl) (rhex_any st.D aD cD _ hB.d (RdS.ext hF.2.2.2 hb) hB.dl)) rfl rfl rfl ?_; clear hf fa; rintro fa _ w6 ⟨rfl, he5⟩ hf
            replace hkb1 := blk_ext hkb1 he5
            replace hb := hb.trans (Below.mono he5 hb.size)
            refine sqv hf (r_sadd rfl rfl (by have : ((⟨#[32]⟩) : ByteArray).size = 1 := rfl; have := sz_app t ⟨#[32]⟩; have := hexB_len st.D; have := strN_size (hexB st.D); omega)) rfl rfl rfl ?_; clear hf fa; intro fa hf
            refine sqv hf (r_assign rfl) rfl rfl rfl ?_; clear hf fa; intro fa hf
            apply wpList_nil
            (try simp only [Exit.then, Exit.inBlock, ↓reduceIte, Nat.reduceEqDiff])
            refine hK8 _ _ ?_
            refine wp_region_lit ?_
            refine sqv hf (r_move rfl) rfl rfl rfl ?_; clear hf fa; intro fa hf
            refine sqv hf (r_add (C := (((i : Nat) : Int) + (1 : Int))) rfl rfl (by rw [IntKind.wrap_i64]; omega)) rfl rfl rfl ?_; clear hf fa; intro fa hf
            refine sqv hf (r_assign rfl) rfl rfl rfl ?_; clear hf fa; intro fa hf
            apply wpList_nil
            (try simp only [Exit.then, Exit.inBlock, ↓reduceIte, Nat.reduceEqDiff])
            have hcn := cnt_step (F := formS k) (i := i) 110 (by omega)
            have hcs := cnt_step (F := formS k) (i := i) 115 (by omega)
            refine hKL1 _ _ _ (by omega) ⟨(i + 1), n, s, ((t ++ ⟨#[32]⟩) ++ (strN (hexB st.D))), rfl, hf.sub ⟨rfl, rfl, rfl, rfl, rfl, (some_int (by first | rfl | omega)), trivial⟩, hb, hkb1, by omega, (by have h := line_d Hs (by omega) (by have h := hqt50_1; omega); rw [h]; simp only [bl_app, bl_dS, bl_strN _ (showL_lt _ (bl_lt _)), bl_strN _ (hexB_byte hB.d), List.append_assoc]; rfl), (by split at hcn <;> split at hcs <;> omega), (by split at hcn <;> split at hcs <;> omega)⟩
          · have hqt50_1b := hqt50_1
            replace hqt50_1 := Bool.eq_false_iff.1 hqt50_1
            try simp only [ne_eq, decide_eq_true_eq, Bool.and_eq_true, Bool.or_eq_true, Bool.not_eq_true', decide_eq_false_iff_not] at hqt50_1
            refine wp_seq_k (fun K15 hK15 => ?_)
            refine wp_region_lit ?_
            refine sqv hf (r_eq rfl rfl) rfl rfl rfl ?_; clear hf fa; intro fa hf
            refine sqv hf (r_assign rfl) rfl rfl rfl ?_; clear hf fa; intro fa hf
            apply wpList_nil
            (try simp only [Exit.then, Exit.inBlock, ↓reduceIte, Nat.reduceEqDiff])
            refine hK15 _ _ ?_
            refine wp_cond_split (t := (decide (((sbt (formS k) i : Nat) : Int) = (97 : Int)))) (hf.ev rfl) (fun hqt58_1 => ?_) (fun hqt58_1 => ?_)
            · have hqt58_1b := hqt58_1
              try simp only [decide_eq_true_eq, Bool.and_eq_true, Bool.or_eq_true, Bool.not_eq_true', decide_eq_false_iff_not, ne_eq, Bool.not_eq_true] at hqt58_1
              refine wp_seq_k (fun K16 hK16 => ?_)
              refine wp_region_lit ?_
              refine sqv hf (r_assign rfl) rfl rfl rfl ?_; clear hf fa; intro fa hf
              apply wpList_nil
              (try simp only [Exit.then, Exit.inBlock, ↓reduceIte, Nat.reduceEqDiff])
              refine hK16 _ _ ?_
              refine wp_block ?_
              refine wp_loop_k (fun mq fa wr => ∃ (m : Nat) (t : ByteArray), mq = st.A.length - m ∧ Fr 77 fa [(1, (.pointer (some ⟨b1, 0, none⟩))), (3, (.string t)), (4, (.string (formS k))), (5, (.int .i64 ((n : Nat) : Int))), (6, (.int .i64 ((s : Nat) : Int))), (7, (.int .i64 ((i : Nat) : Int))), (8, (.int .i64 ((m : Nat) : Int)))] ∧ Below w.heap.size w wr ∧ wr.heap[b1]? = some (.cells #[(.int .i64 k), (.slice aN st.N.length cN), (.slice aS st.S.length cS), (.slice aA st.A.length cA), (.slice aD st.D.length cD)] 49 (0, 0)) ∧ (m ≤ st.A.length) ∧ (lineL k st = bl t ++ joinB ((st.A.drop m).map (fun v => bl (valS v)) ++ argsP ((bl (formS k)).drop (i + 1)) (st.N.drop n) (st.S.drop s) st.A st.D))) ?_ ?_
              · skip
                exact ⟨_, 0, t, rfl, hf.sub ⟨rfl, rfl, rfl, rfl, rfl, rfl, (some_int (by first | rfl | omega)), trivial⟩, hb, hkb1, by omega, (line_a Hs (by omega) (by have h := hqt58_1; omega))⟩
              · skip
                clear hf fa; intro mq2 fa w7 hI KL2 hKL2
                clear hb
                clear hkb1
                obtain ⟨m, t, hmq2, hf, hb, hkb1, hm, Hv⟩ := hI
                have htl2 : t.size ≤ 50000 := by have h1 := congrArg List.length Hv; rw [List.length_append, bl_length] at h1; omega
                refine wp_seq_k (fun K17 hK17 => ?_)
                refine wp_seq_k (fun K18 hK18 => ?_)
                refine wp_region_lit ?_
                refine sqv hf (r_move rfl) rfl rfl rfl ?_; clear hf fa; intro fa hf
                refine sqv hf (r_fa rfl Try.underlying49 (f := 3) (q := 3) rfl (by kernel_rfl) rfl) rfl rfl rfl ?_; clear hf fa; intro fa hf
                refine sqv hf (r_load (v := (.slice aA st.A.length cA)) rfl Try.underlying42 rfl (cell_blk hkb1 rfl)) rfl rfl rfl ?_; clear hf fa; intro fa hf
                refine sqv hf (r_lensl rfl Try.underlying42) rfl rfl rfl ?_; clear hf fa; intro fa hf
                refine sqv hf (r_lt rfl rfl) rfl rfl rfl ?_; clear hf fa; intro fa hf
                apply wpList_nil
                (try simp only [Exit.then, Exit.inBlock, ↓reduceIte, Nat.reduceEqDiff])
                refine hK18 _ _ ?_
                refine wp_cond_split (t := (decide (((m : Nat) : Int) < ((st.A.length : Nat) : Int)))) (hf.ev rfl) (fun hqt64_1 => ?_) (fun hqt64_1 => ?_)
                · have hqt64_1b := hqt64_1
                  try simp only [decide_eq_true_eq, Bool.and_eq_true, Bool.or_eq_true, Bool.not_eq_true', decide_eq_false_iff_not, ne_eq, Bool.not_eq_true] at hqt64_1
                  refine wp_skip ?_
                  (try simp only [Exit.then, Exit.inBlock, ↓reduceIte, Nat.reduceEqDiff])
                  refine hK17 _ _ ?_
                  refine wp_seq_k (fun K19 hK19 => ?_)
                  refine wp_block ?_
                  refine wp_region_lit ?_
                  refine sqv hf (r_move rfl) rfl rfl rfl ?_; clear hf fa; intro fa hf
                  refine sqv hf (r_sadd rfl rfl (by have : ((⟨#[32]⟩) : ByteArray).size = 1 := rfl; omega)) rfl rfl rfl ?_; clear hf fa; intro fa hf
                  refine sqv hf (r_fa rfl Try.underlying49 (f := 3) (q := 3) rfl (by kernel_rfl) rfl) rfl rfl rfl ?_; clear hf fa; intro fa hf
                  refine sqv hf (r_load (v := (.slice aA st.A.length cA)) rfl Try.underlying42 rfl (cell_blk hkb1 rfl)) rfl rfl rfl ?_; clear hf fa; intro fa hf
                  refine sqv hf (r_move rfl) rfl rfl rfl ?_; clear hf fa; intro fa hf
                  obtain ⟨y3, hy3⟩ : ∃ x, (st.A)[m]? = some x := ⟨_, List.getElem?_eq_getElem (by (try simp only [Sl.list_length]); omega)⟩
                  obtain ⟨ab3, aoff3, rfl, hlb3, hel3⟩ := RdS.at hF.2.2.1 hy3
                  refine sqv hf (r_ixa (sz := 2) (j := m) rfl rfl Try.underlying42 (by kernel_rfl) rfl (by omega) rfl) rfl rfl rfl ?_; clear hf fa; intro fa hf
                  refine sqv hf (r_loadA (cs := [(.int .u8 y3.1), (.int .u64 y3.2.1)]) rfl Try.underlying65 rfl (by kernel_rfl) (cellsAt_below hel3 hb hlb3)) rfl rfl rfl ?_; clear hf fa; intro fa hf
                  refine sqdt hf (d_callB (vs := [(.agg #[(.int .u8 y3.1), (.int .u64 y3.2.1)])]) rfl Try.func35 (by kernel_rfl) (by kernel_rfl) (oprvalue_any y3 _ (hB.a _ (List.mem_of_getElem? hy3)).1 (hB.a _ (List.mem_of_getElem? hy3)).2)) rfl rfl rfl ?_; clear hf fa; rintro fa _ w8 ⟨rfl, he6⟩ hf
                  replace hkb1 := blk_ext hkb1 he6
                  replace hb := hb.trans (Below.mono he6 hb.size)
                  refine sqv hf (r_sadd rfl rfl (by have : ((⟨#[32]⟩) : ByteArray).size = 1 := rfl; have := sz_app t ⟨#[32]⟩; have := valS_len (hB.a _ (List.mem_of_getElem? hy3)).2; omega)) rfl rfl rfl ?_; clear hf fa; intro fa hf
                  refine sqv hf (r_assign rfl) rfl rfl rfl ?_; clear hf fa; intro fa hf
                  apply wpList_nil
                  (try simp only [Exit.then, Exit.inBlock, ↓reduceIte, Nat.reduceEqDiff])
                  refine hK19 _ _ ?_
                  refine wp_region_lit ?_
                  refine sqv hf (r_move rfl) rfl rfl rfl ?_; clear hf fa; intro fa hf
                  refine sqv hf (r_add (C := (((m : Nat) : Int) + (1 : Int))) rfl rfl (by rw [IntKind.wrap_i64]; omega)) rfl rfl rfl ?_; clear hf fa; intro fa hf
                  refine sqv hf (r_assign rfl) rfl rfl rfl ?_; clear hf fa; intro fa hf
                  apply wpList_nil
                  (try simp only [Exit.then, Exit.inBlock, ↓reduceIte, Nat.reduceEqDiff])
                  refine hKL2 _ _ _ (by omega) ⟨(m + 1), ((t ++ ⟨#[32]⟩) ++ (valS y3)), rfl, hf.sub ⟨rfl, rfl, rfl, rfl, rfl, rfl, (some_int (by first | rfl | omega)), trivial⟩, hb, hkb1, by omega, (by have h := line_v Hv hy3; rw [h]; simp only [bl_app, bl_dS, bl_strN _ (showL_lt _ (bl_lt _)), bl_strN _ (hexB_byte hB.d), List.append_assoc]; rfl)⟩
                · have hqt64_1b := hqt64_1
                  replace hqt64_1 := Bool.eq_false_iff.1 hqt64_1
                  try simp only [ne_eq, decide_eq_true_eq, Bool.and_eq_true, Bool.or_eq_true, Bool.not_eq_true', decide_eq_false_iff_not] at hqt64_1
                  refine wp_exit ?_
                  (try simp only [Exit.then, Exit.inBlock, ↓reduceIte, Nat.reduceEqDiff])
                  refine hK8 _ _ ?_
                  refine wp_region_lit ?_
                  refine sqv hf (r_move rfl) rfl rfl rfl ?_; clear hf fa; intro fa hf
                  refine sqv hf (r_add (C := (((i : Nat) : Int) + (1 : Int))) rfl rfl (by rw [IntKind.wrap_i64]; omega)) rfl rfl rfl ?_; clear hf fa; intro fa hf
                  refine sqv hf (r_assign rfl) rfl rfl rfl ?_; clear hf fa; intro fa hf
                  apply wpList_nil
                  (try simp only [Exit.then, Exit.inBlock, ↓reduceIte, Nat.reduceEqDiff])
                  have hcn := cnt_step (F := formS k) (i := i) 110 (by omega)
                  have hcs := cnt_step (F := formS k) (i := i) 115 (by omega)
                  refine hKL1 _ _ _ (by omega) ⟨(i + 1), n, s, t, rfl, hf.sub ⟨rfl, rfl, rfl, rfl, rfl, (some_int (by first | rfl | omega)), trivial⟩, hb, hkb1, by omega, (line_ve Hv (by omega)), (by split at hcn <;> split at hcs <;> omega), (by split at hcn <;> split at hcs <;> omega)⟩
            · have hqt58_1b := hqt58_1
              replace hqt58_1 := Bool.eq_false_iff.1 hqt58_1
              try simp only [ne_eq, decide_eq_true_eq, Bool.and_eq_true, Bool.or_eq_true, Bool.not_eq_true', decide_eq_false_iff_not] at hqt58_1
              refine wp_skip ?_
              (try simp only [Exit.then, Exit.inBlock, ↓reduceIte, Nat.reduceEqDiff])
              refine hK8 _ _ ?_
              refine wp_region_lit ?_
              refine sqv hf (r_move rfl) rfl rfl rfl ?_; clear hf fa; intro fa hf
              refine sqv hf (r_add (C := (((i : Nat) : Int) + (1 : Int))) rfl rfl (by rw [IntKind.wrap_i64]; omega)) rfl rfl rfl ?_; clear hf fa; intro fa hf
              refine sqv hf (r_assign rfl) rfl rfl rfl ?_; clear hf fa; intro fa hf
              apply wpList_nil
              (try simp only [Exit.then, Exit.inBlock, ↓reduceIte, Nat.reduceEqDiff])
              have hcn := cnt_step (F := formS k) (i := i) 110 (by omega)
              have hcs := cnt_step (F := formS k) (i := i) 115 (by omega)
              refine hKL1 _ _ _ (by omega) ⟨(i + 1), n, s, t, rfl, hf.sub ⟨rfl, rfl, rfl, rfl, rfl, (some_int (by first | rfl | omega)), trivial⟩, hb, hkb1, by omega, (line_o Hs (by omega) (by omega)), (by split at hcn <;> split at hcs <;> omega), (by split at hcn <;> split at hcs <;> omega)⟩
    · have hqt18_1b := hqt18_1
      replace hqt18_1 := Bool.eq_false_iff.1 hqt18_1
      try simp only [ne_eq, decide_eq_true_eq, Bool.and_eq_true, Bool.or_eq_true, Bool.not_eq_true', decide_eq_false_iff_not] at hqt18_1
      refine wp_exit ?_
      (try simp only [Exit.then, Exit.inBlock, ↓reduceIte, Nat.reduceEqDiff])
      refine hK4 _ _ ?_
      refine wp_seq_k (fun K20 hK20 => ?_)
      refine wp_region_lit ?_
      refine sqv hf (r_move rfl) rfl rfl rfl ?_; clear hf fa; intro fa hf
      refine sqv hf (r_assign rfl) rfl rfl rfl ?_; clear hf fa; intro fa hf
      apply wpList_nil
      (try simp only [Exit.then, Exit.inBlock, ↓reduceIte, Nat.reduceEqDiff])
      refine hK20 _ _ ?_
      refine wp_ret ?_
      (try simp only [Exit.then, Exit.inBlock])
      refine ret1 hf rfl rfl ?_
      refine ⟨?_, hb⟩; unfold lineS; rw [line_end Hs (by omega), strN_bl]
end Go.Proofs.Ytpalmpfkliepfaa

namespace Go.Proofs.Ytpalmpfkliepfaa
open Go.RowKit Ut
set_option linter.unusedVariables false
set_option linter.unusedSimpArgs false

def st0 : PSt := ⟨[], [], [], []⟩
def takeP (c : Nat) (p : ByteArray) (st : PSt) : PSt × Bool :=
  if c = 110 then (⟨st.N ++ [(numP (bl p)).1], st.S, st.A, st.D⟩, (numP (bl p)).2)
  else if c = 115 then (⟨st.N, st.S ++ [strN (readP (bl p)).1], st.A, st.D⟩, (readP (bl p)).2)
  else if c = 100 then (⟨st.N, st.S, st.A, (hexP (bl p)).1⟩, (hexP (bl p)).2)
  else (⟨st.N, st.S, st.A ++ [(rdV p).1], st.D⟩, (rdV p).2)
def parseP : Nat → List Nat → List Nat → PSt → Option PSt
  | 0, _, _, _ => none
  | _ + 1, [], _, st => some st
  | f + 1, c :: fs, r, st => match pieceP r with
    | none => if c = 97 then some st else none
    | some pm => if (takeP c (strN pm.1) st).2 = true then parseP f (if c = 97 then c :: fs else fs) pm.2 (takeP c (strN pm.1) st).1 else none
theorem parseP_nil (f : Nat) (r : List Nat) (st : PSt) : parseP (f + 1) [] r st = some st := rfl
theorem parseP_none {f c : Nat} {fs r : List Nat} {st : PSt} (h : pieceP r = none) : parseP (f + 1) (c :: fs) r st = if c = 97 then some st else none := by rw [parseP, h]
theorem parseP_some {f c : Nat} {fs r p m : List Nat} {st : PSt} (h : pieceP r = some (p, m)) : parseP (f + 1) (c :: fs) r st = if (takeP c (strN p) st).2 = true then parseP f (if c = 97 then c :: fs else fs) m (takeP c (strN p) st).1 else none := by rw [parseP, h]
def opP (l : ByteArray) : Option (Int × PSt) := match parseP (l.size + 1) (bl (formS (kindP (cA l 32)))) ((bl l).drop (posB l 32)) st0 with
  | none => none
  | some st => if rightP (kindP (cA l 32)) st = true ∧ lineS (kindP (cA l 32)) st = l then some (kindP (cA l 32), st) else none
/-- What comes back: kind and content, and whether there is one. -/
def opK (o : Option (Int × PSt)) : Int := match o with | none => 0 | some x => x.1
def opS (o : Option (Int × PSt)) : PSt := match o with | none => st0 | some x => x.2
/-- .. bounds on what is read. -/
structure OpB2 (m : Nat) (st : PSt) : Prop where
  n : ∀ x ∈ st.N, inI x
  s : ∀ x ∈ st.S, x.size ≤ 100000
  a : ∀ x ∈ st.A, RngV x
  d : ∀ x ∈ st.D, x < 256
  nl : st.N.length ≤ m
  sl : st.S.length ≤ m
  al : st.A.length ≤ m
  dl : st.D.length ≤ 100000
theorem OpB2.toB {m : Nat} {st : PSt} (h : OpB2 m st) (hm : m ≤ 100000) : OpB st := ⟨h.n, h.s, h.a, h.d, by have := h.nl; omega, by have := h.sl; omega, by have := h.al; omega, by have := h.dl; omega⟩
theorem OpB2.zero (m : Nat) : OpB2 m st0 := ⟨(by intro x h; cases h), (by intro x h; cases h), (by intro x h; cases h), (by intro x h; cases h), Nat.zero_le _, Nat.zero_le _, Nat.zero_le _, Nat.zero_le _⟩
theorem rdV_rng (s : ByteArray) : RngV (rdV s).1 := by
  unfold rdV
  cases rdB s with
  | true => exact ⟨show 0 ≤ zMVal.1 ∧ zMVal.1 < 256 by decide, show 0 ≤ zMVal.2.1 ∧ zMVal.2.1 < 18446744073709551616 by decide⟩
  | false => exact rdY_rng s
theorem takeP_inv {m c : Nat} {p : ByteArray} {st : PSt} (h : OpB2 m st) (hp : p.size ≤ 30000) (ho : (takeP c p st).2 = true) : OpB2 (m + 1) (takeP c p st).1 := by
  obtain ⟨h1, h2, h3, h4, h5, h6, h7, h8⟩ := h
  unfold takeP at ho ⊢
  have snoc : ∀ {α : Type} {P : α → Prop} {l : List α} {y : α}, (∀ x ∈ l, P x) → P y → ∀ x ∈ l ++ [y], P x := by
    intro α P l y hl hy x hx
    rcases List.mem_append.1 hx with hx | hx
    · exact hl x hx
    · simp only [List.mem_singleton] at hx; subst hx; exact hy
  by_cases c1 : c = 110
  · rw [if_pos c1] at ho ⊢
    simp only at ho
    have hn : numP (bl p) = ((numP (bl p)).1, true) := by rw [← ho]
    exact ⟨snoc h1 (numP_yes hn).1, h2, h3, h4, by simp; omega, by simp only; omega, by simp only; omega, h8⟩
  · rw [if_neg c1] at ho ⊢
    by_cases c2 : c = 115
    · rw [if_pos c2] at ho ⊢
      have hl := readP_len (bl p) (bl_lt p)
      rw [bl_length] at hl
      exact ⟨h1, snoc h2 (by rw [strN_size]; omega), h3, h4, by simp only; omega, by simp; omega, by simp only; omega, h8⟩
    · rw [if_neg c2] at ho ⊢
      by_cases c3 : c = 100
      · rw [if_pos c3] at ho ⊢
        simp only at ho
        obtain ⟨e1, e2⟩ := hexP_yes ho
        have e3 := congrArg List.length e1
        rw [bl_length] at e3
        have e4 : (hexP (bl p)).1.length ≤ (hexB (hexP (bl p)).1).length + 1 := by
          unfold hexB
          split
          · rename_i e; rw [e]; simp
          · rw [hxs_len]; omega
        exact ⟨h1, h2, h3, e2, by simp only; omega, by simp only; omega, by simp only; omega, by simp only; omega⟩
      · rw [if_neg c3] at ho ⊢
        exact ⟨h1, h2, snoc h3 (rdV_rng p), h4, by simp only; omega, by simp only; omega, by simp; omega, h8⟩
/-- The form's letters: values stand last. -/
def lok : List Nat → Bool
  | [] => true
  | c :: f => (decide (c = 110) || decide (c = 115) || decide (c = 100) || (decide (c = 97) && f.isEmpty)) && lok f
theorem lok_form (k : Int) : lok (bl (formS k)) = true := by
  rcases form_cases k with ⟨_, h1, h2⟩ | rfl | rfl | rfl | rfl | rfl | rfl | rfl | rfl | rfl
  · rw [h2]; rfl
  all_goals decide
theorem lok_cons {c : Nat} {f : List Nat} (h : lok (c :: f) = true) : (c = 110 ∨ c = 115 ∨ c = 100 ∨ (c = 97 ∧ f = [])) ∧ lok f = true := by
  unfold lok at h
  simp only [Bool.and_eq_true, Bool.or_eq_true, decide_eq_true_eq, List.isEmpty_iff] at h
  refine ⟨?_, h.2⟩
  rcases h.1 with ((h | h) | h) | h
  · exact .inl h
  · exact .inr (.inl h)
  · exact .inr (.inr (.inl h))
  · exact .inr (.inr (.inr h))
/-- Pieces that are closed. -/
theorem digB_closed (n : Int) : Closed false (digB n) := closed_plain _ (by
  intro c hc
  unfold digB at hc
  split at hc
  · rcases List.mem_cons.1 hc with rfl | hc
    · omega
    · have := natB_dig _ c hc; omega
  · have := natB_dig _ c hc; omega)
theorem showL_closed (l : List Nat) (h : ∀ x ∈ l, x < 256) : Closed false (showL l) := by
  unfold showL
  refine closed_quote _ ?_
  intro c hc
  obtain ⟨b, hb, hc⟩ := List.mem_flatMap.1 hc
  have h1 := h b hb
  unfold sh at hc
  split at hc
  · simp only [List.mem_singleton] at hc; omega
  · simp only [List.mem_cons, List.not_mem_nil, or_false] at hc
    have hd : ∀ n, digN n ≠ 34 := by intro n; unfold digN; split <;> omega
    rcases hc with rfl | rfl | rfl
    · omega
    · exact hd _
    · exact hd _
theorem hexB_closed (l : List Nat) (h : ∀ x ∈ l, x < 256) : Closed false (hexB l) := closed_plain _ (by
  intro c hc
  unfold hexB at hc
  split at hc
  · simp only [List.mem_singleton] at hc; omega
  · unfold hxs at hc
    obtain ⟨b, hb, hc⟩ := List.mem_flatMap.1 hc
    have h1 := h b hb
    have h2 := hx_lt (n := b / 16) (by omega)
    have h3 := hx_lt (n := b % 16) (by omega)
    simp only [List.mem_cons, List.not_mem_nil, or_false] at hc
    omega)
theorem valS_closed {v : MVal} (h : RightV v) : Closed false (bl (valS v)) := closed_plain _ (by
  intro c hc
  rw [valS_bl (right_T h)] at hc
  rcases List.mem_append.1 hc with hc | hc
  · unfold headV at hc
    split at hc <;> simp at hc <;> omega
  · rcases List.mem_cons.1 hc with rfl | hc
    · omega
    · unfold digB at hc
      split at hc
      · rcases List.mem_cons.1 hc with rfl | hc
        · omega
        · have := natB_dig _ c hc; omega
      · have := natB_dig _ c hc; omega)
theorem take_val {v : MVal} (h : RightV v) (st : PSt) : takeP 97 (strN (bl (valS v))) st = (⟨st.N, st.S, st.A ++ [v], st.D⟩, true) := by
  unfold takeP
  rw [if_neg (by decide), if_neg (by decide), if_neg (by decide), strN_bl, rdV_val h]
theorem parse_vals : ∀ (A : List MVal) (st : PSt) (fu : Nat), (∀ v ∈ A, RightV v) → A.length < fu → parseP fu [97] (joinB (A.map fun v => bl (valS v))) st = some ⟨st.N, st.S, st.A ++ A, st.D⟩
  | [], st, 0, _, h => by omega
  | [], st, fu + 1, _, _ => by
    rw [List.map_nil, parseP_none rfl, if_pos rfl, List.append_nil]
  | v :: A, st, 0, _, h => by omega
  | v :: A, st, fu + 1, hA, h => by
    have hv := hA v List.mem_cons_self
    rw [List.map_cons, parseP_some (pieceP_join (valS_closed hv)), take_val hv, if_pos rfl, if_pos rfl, parse_vals A _ fu (fun x hx => hA x (List.mem_cons_of_mem _ hx)) (by simp at h; omega)]
    simp
theorem parse_args (A : List MVal) (D : List Nat) (hA : ∀ v ∈ A, RightV v) (hD : ∀ x ∈ D, x < 256) : ∀ (f : List Nat) (N : List Int) (S : List ByteArray) (st : PSt) (fu : Nat), lok f = true → N.length = f.count 110 → S.length = f.count 115 → (∀ n ∈ N, inI n) → (argsP f N S A D).length < fu →
    parseP fu f (joinB (argsP f N S A D)) st = some ⟨st.N ++ N, st.S ++ S, if 97 ∈ f then st.A ++ A else st.A, if 100 ∈ f then D else st.D⟩
  | _, _, _, _, 0, _, _, _, _, h => by omega
  | [], N, S, st, fu + 1, _, hn, hs, _, _ => by
    have e1 : N = [] := List.length_eq_zero_iff.1 (by simpa using hn)
    have e2 : S = [] := List.length_eq_zero_iff.1 (by simpa using hs)
    rw [e1, e2, parseP_nil]; simp
  | c :: f, N, S, st, fu + 1, hl, hn, hs, hN, h => by
    obtain ⟨hc, hl2⟩ := lok_cons hl
    rw [List.count_cons] at hn hs
    rcases hc with rfl | rfl | rfl | ⟨rfl, rfl⟩
    · cases N with
      | nil => simp at hn
      | cons n N =>
        have e : argsP (110 :: f) (n :: N) S A D = digB n :: argsP f N S A D := by rw [argsP, if_pos rfl]; simp
        rw [e] at h ⊢
        rw [parseP_some (pieceP_join (digB_closed n))]
        have ht : takeP 110 (strN (digB n)) st = (⟨st.N ++ [n], st.S, st.A, st.D⟩, true) := by
          unfold takeP
          rw [if_pos rfl, bl_strN _ (digB_byte n), numP_dig (hN n List.mem_cons_self)]
        rw [ht, if_pos rfl, if_neg (by decide), parse_args A D hA hD f N S _ fu hl2 (by simpa using hn) (by simpa using hs) (fun x hx => hN x (List.mem_cons_of_mem _ hx)) (by simp at h; omega)]
        simp
    · cases S with
      | nil => simp at hs
      | cons s S =>
        have e : argsP (115 :: f) N (s :: S) A D = showL (bl s) :: argsP f N S A D := by rw [argsP, if_neg (by decide), if_pos rfl]; simp
        rw [e] at h ⊢
        rw [parseP_some (pieceP_join (showL_closed _ (bl_lt s)))]
        have ht : takeP 115 (strN (showL (bl s))) st = (⟨st.N, st.S ++ [s], st.A, st.D⟩, true) := by
          unfold takeP
          rw [if_neg (by decide), if_pos rfl, bl_strN _ (showL_lt _ (bl_lt s)), (read_show (bl s) (bl_lt s)).1, strN_bl]
        rw [ht, if_pos rfl, if_neg (by decide), parse_args A D hA hD f N S _ fu hl2 (by simpa using hn) (by simpa using hs) hN (by simp at h; omega)]
        simp
    · have e : argsP (100 :: f) N S A D = hexB D :: argsP f N S A D := by rw [argsP, if_neg (by decide), if_neg (by decide), if_pos rfl]
      rw [e] at h ⊢
      rw [parseP_some (pieceP_join (hexB_closed D hD))]
      have ht : takeP 100 (strN (hexB D)) st = (⟨st.N, st.S, st.A, D⟩, true) := by
        unfold takeP
        rw [if_neg (by decide), if_neg (by decide), if_pos rfl, bl_strN _ (hexB_byte hD), hexP_hexB D hD]
      rw [ht, if_pos rfl, if_neg (by decide), parse_args A D hA hD f N S _ fu hl2 (by simpa using hn) (by simpa using hs) hN (by simp at h; omega)]
      simp
    · have e1 : N = [] := List.length_eq_zero_iff.1 (by simpa using hn)
      have e2 : S = [] := List.length_eq_zero_iff.1 (by simpa using hs)
      have e : argsP [97] N S A D = A.map fun v => bl (valS v) := by
        rw [argsP, if_neg (by decide), if_neg (by decide), if_neg (by decide), if_pos rfl]
        simp [argsP]
      rw [e] at h ⊢
      rw [parse_vals A st (fu + 1) hA (by rw [List.length_map] at h; exact h), e1, e2]
      simp
theorem joinB_len (ps : List (List Nat)) : ps.length ≤ (joinB ps).length := by
  induction ps with
  | nil => simp [joinB]
  | cons p ps ih => simp only [joinB, List.length_cons, List.length_append]; omega
theorem idx_app {a b : List Nat} {x : Nat} (ha : x ∉ a) (hb : b = [] ∨ b.head? = some x) : (a ++ b).idxOf x = a.length := by
  induction a with
  | nil =>
    rcases hb with rfl | hb
    · rfl
    · cases b with
      | nil => cases hb
      | cons y b => simp only [List.head?_cons, Option.some.injEq] at hb; subst hb; simp
  | cons y a ih =>
    have h1 : y ≠ x := fun e => ha (by rw [e]; exact List.mem_cons_self)
    rw [List.cons_append, List.idxOf_cons, beq_false_of_ne h1, cond_false, ih (fun e => ha (List.mem_cons_of_mem _ e))]; rfl
theorem word_plain (k : Int) : ∀ c ∈ bl (wordS k), c ≠ 32 ∧ c ≠ 34 := by
  rcases form_cases k with ⟨_, h1, h2⟩ | rfl | rfl | rfl | rfl | rfl | rfl | rfl | rfl | rfl
  · rw [h1]; intro c hc; cases hc
  all_goals decide
theorem kind_word (k : Int) (h : 1 ≤ k ∧ k ≤ 9) : kindP (wordS k) = k := by
  rcases form_cases k with ⟨h0, _, _⟩ | rfl | rfl | rfl | rfl | rfl | rfl | rfl | rfl | rfl
  · omega
  all_goals decide
/-- The line's word, and the rest. -/
theorem word_at {l : ByteArray} {k : Int} {r : List Nat} (h : bl l = bl (wordS k) ++ r) (hr : r = [] ∨ r.head? = some 32) : cA l 32 = wordS k ∧ (bl l).drop (posB l 32) = r ∧ posB l 32 = (wordS k).size := by
  have hp : posB l 32 = (wordS k).size := by
    unfold posB
    rw [h, idx_app (fun e => (word_plain k 32 e).1 rfl) hr, bl_length]
  refine ⟨?_, ?_, hp⟩
  · apply bl_inj
    unfold cA
    rw [bl_mid, hp, h, List.drop_zero, Nat.sub_zero, ← bl_length, List.take_left]
  · rw [hp, h, ← bl_length, List.drop_left]
theorem args_byte (A : List MVal) (D : List Nat) (hD : ∀ x ∈ D, x < 256) : ∀ (f : List Nat) (N : List Int) (S : List ByteArray), ∀ p ∈ argsP f N S A D, ∀ x ∈ p, x < 256
  | [], _, _, p, hp => by cases hp
  | c :: f, N, S, p, hp => by
    rw [argsP] at hp
    split at hp
    · rcases List.mem_append.1 hp with hp | hp
      · obtain ⟨n, _, rfl⟩ := List.mem_map.1 hp; exact digB_byte n
      · exact args_byte A D hD f _ _ p hp
    · split at hp
      · rcases List.mem_append.1 hp with hp | hp
        · obtain ⟨s, _, rfl⟩ := List.mem_map.1 hp; exact showL_lt _ (bl_lt s)
        · exact args_byte A D hD f _ _ p hp
      · split at hp
        · rcases List.mem_cons.1 hp with rfl | hp
          · exact hexB_byte hD
          · exact args_byte A D hD f _ _ p hp
        · split at hp
          · rcases List.mem_append.1 hp with hp | hp
            · obtain ⟨v, _, rfl⟩ := List.mem_map.1 hp; exact bl_lt _
            · exact args_byte A D hD f _ _ p hp
          · exact args_byte A D hD f _ _ p hp
theorem join_byte {ps : List (List Nat)} (h : ∀ p ∈ ps, ∀ x ∈ p, x < 256) : ∀ x ∈ joinB ps, x < 256 := by
  induction ps with
  | nil => intro x hx; cases hx
  | cons p ps ih =>
    intro x hx
    rw [joinB] at hx
    rcases List.mem_cons.1 hx with rfl | hx
    · decide
    · rcases List.mem_append.1 hx with hx | hx
      · exact h p List.mem_cons_self x hx
      · exact ih (fun q hq => h q (List.mem_cons_of_mem _ hq)) x hx
theorem bl_lineS {k : Int} {st : PSt} (hD : ∀ x ∈ st.D, x < 256) : bl (lineS k st) = lineL k st := by
  unfold lineS
  refine bl_strN _ ?_
  unfold lineL
  intro x hx
  rcases List.mem_append.1 hx with hx | hx
  · exact bl_lt _ x hx
  · exact join_byte (args_byte _ _ hD _ _ _) x hx
/-- The line of an operation that may be is read as it. -/
theorem opP_line {k : Int} {st : PSt} (hB : OpB st) (h : rightP k st = true) : opP (lineS k st) = some (k, st) := by
  obtain ⟨hH, hS, hA⟩ := right_split h
  have hbl := bl_lineS (k := k) hB.d
  have hk : 1 ≤ k ∧ k ≤ 9 := by
    rcases form_cases k with ⟨_, h1, _⟩ | h
    · exact absurd h1 hH.1
    · omega
  obtain ⟨w1, w2, w3⟩ := word_at (l := lineS k st) (k := k) (r := joinB (argsP (bl (formS k)) st.N st.S st.A st.D)) (by rw [hbl]; rfl) (joinB_head _)
  have hAR : ∀ v ∈ st.A, RightV v := fun v hv => ⟨hA v hv, hB.a v hv⟩
  have hpa := parse_args st.A st.D hAR hB.d (bl (formS k)) st.N st.S st0 ((lineS k st).size + 1) (lok_form k) hH.2.1 hH.2.2.1 hB.n (by
    have h1 := joinB_len (argsP (bl (formS k)) st.N st.S st.A st.D)
    have h2 := congrArg List.length hbl
    unfold lineL at h2
    rw [bl_length, List.length_append] at h2
    omega)
  have hst : (⟨st0.N ++ st.N, st0.S ++ st.S, if 97 ∈ bl (formS k) then st0.A ++ st.A else st0.A, if 100 ∈ bl (formS k) then st.D else st0.D⟩ : PSt) = st := by
    have hmem : ∀ c, posB (formS k) c < (formS k).size → c ∈ bl (formS k) := by
      intro c hc
      unfold posB at hc
      rw [← bl_length] at hc
      exact List.idxOf_lt_length_iff.1 hc
    obtain ⟨N, S, A, D⟩ := st
    simp only [st0, List.nil_append]
    congr 1
    · split
      · rfl
      · rename_i hn
        rcases Nat.eq_zero_or_pos A.length with e | e
        · exact (List.length_eq_zero_iff.1 e).symm
        · exact absurd (hmem 97 (hH.2.2.2.2.2.2 e)) hn
    · split
      · rfl
      · rename_i hn
        rcases Nat.eq_zero_or_pos D.length with e | e
        · exact (List.length_eq_zero_iff.1 e).symm
        · exact absurd (hmem 100 (hH.2.2.2.2.2.1 e)) hn
  unfold opP
  rw [w1, kind_word k hk, w2, hpa, hst]
  simp only [h, true_and, if_true]
end Go.Proofs.Ytpalmpfkliepfaa

namespace Go.Proofs.Ytpalmpfkliepfaa
open Go.RowKit
set_option linter.unusedVariables false
set_option linter.unusedSimpArgs false

/-- The operations that are done. -/
abbrev LS (listed : Array Bool) : Nat → Prop := fun k => listed[k]? = some true
def ad (i : Nat) (S : Nat → Prop) : Nat → Prop := fun k => k = i ∨ S k

/-- What stands of the operations in S. -/
structure UvS (all : (Nat → Prop) → List (Value → World → Prop)) (A : List Nat) (dl : List (List Nat)) (V : Nat → Value) (S : Nat → Prop) (w : World) : Prop where
  post : ∀ j, S j → ((all S).getD j (fun _ _ => True)) (V j) w
  down : ∀ j, S j → ∀ k, k ∈ dl.getD j [] → S k
  lt : ∀ i, A.contains i = true → S i → ∃ b, blkOf (V i) = some b ∧ b < w.heap.size
  ne : ∀ i j, A.contains i = true → A.contains j = true → i ≠ j → S i → S j → blkOf (V i) ≠ blkOf (V j)

def uvGoals (P : Program) (ops : Array Oper) (C : (Nat → Prop) → World → Prop) (all : (Nat → Prop) → List (Value → World → Prop)) (A : List Nat) (dl0 : List (List Nat)) (V : Nat → Value) :
    List Oper → List (List Nat) → Nat → Act → Prop
  | o :: os, d :: ds, i, a =>
    (∀ (S : Nat → Prop) w, C S w → UvS all A dl0 V S w → (∀ k, k ∈ d → S k) → ¬ S i → ∀ K : Act → World → Prop, (∀ v w', C (ad i S) w' → (∀ j, S j → ((all (ad i S)).getD j (fun _ _ => True)) (V j) w') → w.heap.size ≤ w'.heap.size → ((all (ad i S)).getD i (fun _ _ => True)) v w' → fr A i w v w' → K (a.put o.dst v) w') →
      if Region.wanted o (yielded ops a.tmps) = true then o.wp P a w K (fun _ _ _ => False) else K (a.put o.dst undef) w) ∧
    uvGoals P ops C all A dl0 V os ds (i + 1) (a.put o.dst (V i))
  | _, _, _, _ => True

structure UvInv (ops : Array Oper) (C : (Nat → Prop) → World → Prop) (posts : (Nat → Value) → (Nat → Prop) → List (Value → World → Prop)) (A : List Nat) (a0 : Act) (V : Nat → Value) (listed : Array Bool) (a : Act) (w : World) : Prop where
  size : listed.size = ops.size
  tmps : a.tmps.size = a0.tmps.size
  defers : a.defers = a0.defers
  c : C (LS listed) w
  got : ∀ (j : Nat) (o : Oper), ops[j]? = some o → listed[j]? = some true → ∀ t, o.dst = some t → a.tmps[t]? = some (V j)
  post : ∀ (j : Nat) (o : Oper), ops[j]? = some o → listed[j]? = some true → ((posts V (LS listed)).getD j (fun _ _ => True)) (V j) w
  same : ∀ t, (∀ (j : Nat) (o : Oper), ops[j]? = some o → listed[j]? = some true → o.dst ≠ some t) → a.tmps[t]? = a0.tmps[t]?
  down : ∀ (j : Nat) (o : Oper), ops[j]? = some o → listed[j]? = some true → ∀ k, pre o k = true → listed[k]? = some true
  frA : ∀ i, A.contains i = true → listed[i]? = some true → ∃ b, blkOf (V i) = some b ∧ b < w.heap.size
  neA : ∀ i j, A.contains i = true → A.contains j = true → i ≠ j → listed[i]? = some true → listed[j]? = some true → blkOf (V i) ≠ blkOf (V j)

section
variable {P : Program} {ops : Array Oper} {C : (Nat → Prop) → World → Prop} {posts : (Nat → Value) → (Nat → Prop) → List (Value → World → Prop)} {A : List Nat} {dl : List (List Nat)} {N T : Nat} {a0 : Act}

/-- As the elder law's. -/
theorem UvInv.old {V : Nat → Value} {listed : Array Bool} {a : Act} {w : World} (hI : UvInv ops C posts A a0 V listed a w) : UgInv ops (fun _ => True) (fun _ => []) A a0 V listed a w :=
  ⟨hI.size, hI.tmps, hI.defers, trivial, hI.got, fun _ _ _ _ => by simp, hI.same, hI.down, hI.frA, hI.neA⟩

theorem uvGoals_at {V : Nat → Value} {dl0 : List (List Nat)} : ∀ (os : List Oper) (ds : List (List Nat)) (k : Nat) (a : Act), uvGoals P ops C (posts V) A dl0 V os ds k a →
    ∀ (m : Nat) (o : Oper) (d : List Nat), os[m]? = some o → ds[m]? = some d →
    ∀ (S : Nat → Prop) w, C S w → UvS (posts V) A dl0 V S w → (∀ k, k ∈ d → S k) → ¬ S (k + m) → ∀ K : Act → World → Prop, (∀ v w', C (ad (k + m) S) w' → (∀ j, S j → ((posts V (ad (k + m) S)).getD j (fun _ _ => True)) (V j) w') → w.heap.size ≤ w'.heap.size → ((posts V (ad (k + m) S)).getD (k + m) (fun _ _ => True)) v w' → fr A (k + m) w v w' → K ((putAll (os.take m) V k a).put o.dst v) w') →
      if Region.wanted o (yielded ops (putAll (os.take m) V k a).tmps) = true then o.wp P (putAll (os.take m) V k a) w K (fun _ _ _ => False) else K ((putAll (os.take m) V k a).put o.dst undef) w
  | [], _, _, _, _, m, o, d, h, _ => by simp at h
  | _ :: _, [], _, _, _, m, o, d, _, h => by simp at h
  | o1 :: os, d1 :: ds, k, a, hg, 0, o, d, h1, h3 => by
    simp at h1 h3; subst h1 h3
    exact hg.1
  | o1 :: os, d1 :: ds, k, a, hg, m + 1, o, d, h1, h3 => by
    rw [show k + (m + 1) = k + 1 + m from by omega]
    exact uvGoals_at os ds (k + 1) _ hg.2 m o d (by simpa using h1) (by simpa using h3)

theorem uv_walk_tail {Q : Exit → Act → World → Prop} (hN : a0.tmps.size = N) (hok : ∀ i o, ops[i]? = some o → RgOk ops dl N i o) (hdl : dl.length = ops.size) (hpl : ∀ V S, (posts V S).length = T) (hT : T < ops.size)
    (hs : Region.sinkB .any ops T = true) (hc : Region.chainB .any ops T = true) (hseq : Region.seqB .any ops (ops.size - T) T ((Array.range ops.size).map (fun i => decide (i < T))) = true)
    (hPc : ∀ V S i v j, i ∉ dl.getD j [] → (posts (fun k => if k = i then v else V k) S).getD j (fun _ _ => True) = (posts V S).getD j (fun _ _ => True)) (hgoals : ∀ V, uvGoals P ops C (posts V) A dl V (ops.toList.take T) dl 0 a0)
    (hQ : ∀ V S w, (∀ j, j < (posts V S).length → S j) → C S w → postsHold V w (posts V S) 0 → (∀ i j, i < (posts V S).length → j < (posts V S).length → A.contains i = true → A.contains j = true → i ≠ j → blkOf (V i) ≠ blkOf (V j)) → wpList P ops Q (ops.toList.drop T) (putAll (ops.toList.take T) V 0 a0) w) :
    ∀ (fuel : Nat) (listed : Array Bool) (a : Act) (w : World) (V : Nat → Value), (List.range T).countP (fun i => listed[i]? != some true) = fuel → HeadInv .any ops T listed → UvInv ops C posts A a0 V listed a w → wpAny P .any ops Q (fuel + (ops.size - T)) listed a w := by
  -- what stands when the head is listed
  have fin : ∀ (listed : Array Bool) (a : Act) (w : World) (V : Nat → Value), HeadInv .any ops T listed → UvInv ops C posts A a0 V listed a w → (∀ i, i < T → listed[i]? = some true) → wpAny P .any ops Q (0 + (ops.size - T)) listed a w := by
    intro listed a w V inv hI hall
    have hnone : ∀ j, T ≤ j → listed[j]? ≠ some true := by
      intro j hj h
      by_cases hjs : j < ops.size
      · have h1 := inv.tail j hj hjs
        rw [Array.getD_eq_getD_getElem?, h] at h1
        cases h1
      · have hsz := inv.size
        rw [Array.getElem?_eq_none (by omega)] at h
        cases h
    have hmem : ∀ m o, (ops.toList.take T)[m]? = some o → m < T ∧ ops[m]? = some o := by
      intro m o hm
      rw [List.getElem?_take] at hm
      split at hm
      · exact ⟨by assumption, by simpa using hm⟩
      · cases hm
    have ha : a = putAll (ops.toList.take T) V 0 a0 := by
      have h1 : a.tmps = (putAll (ops.toList.take T) V 0 a0).tmps := by
        apply Array.ext_getElem?
        intro t
        by_cases hex : ∃ (j : Nat) (oj : Oper), ops[j]? = some oj ∧ oj.dst = some t ∧ j < T
        · obtain ⟨j, oj, hj, hjd, hjT⟩ := hex
          rw [hI.got j oj hj (hall j hjT) t hjd]
          rw [putAll_get_some V _ 0 a0 j oj (by rw [List.getElem?_take, if_pos hjT]; simpa using hj) hjd (by rw [hN]; exact (hok _ _ hj).dst t hjd)
            (fun m' o' hm' hne hd' => (hok _ _ hj).one m' o' (hmem m' o' hm').2 hne t hd' hjd)]
          simp
        · rw [hI.same t (fun j' o' hj' hl' hd' => hex ⟨j', o', hj', hd', by
            rcases Nat.lt_or_ge j' T with h | h
            · exact h
            · exact absurd hl' (hnone j' h)⟩), putAll_get_none V _ 0 a0 (fun m o' hm hd' => hex ⟨m, o', (hmem m o' hm).2, hd', (hmem m o' hm).1⟩)]
      have h2 : a.defers = (putAll (ops.toList.take T) V 0 a0).defers := hI.defers.trans (putAll_defers V _ _ _).symm
      cases a; simp only at h1 h2; subst h1 h2; rfl
    have hq := hQ V (LS listed) w (fun j hj => hall j (by have := hpl V (LS listed); omega)) hI.c (postsHold_of (posts V (LS listed)) 0 (fun j p hj => by
      have hlt : j < T := by rw [← hpl V (LS listed)]; exact (List.getElem?_eq_some_iff.1 hj).1
      have := hI.post j ops[j] (Array.getElem?_eq_getElem (by omega)) (hall j hlt)
      rw [Nat.zero_add]
      simpa [List.getD_eq_getElem?_getD, hj] using this)) (fun i j hi hj h1 h2 hne => hI.neA i j h1 h2 hne (hall i (by have := hpl V (LS listed); omega)) (hall j (by have := hpl V (LS listed); omega)))
    rw [ha]
    have hdl2 : (ops.toList.drop T).length = ops.size - T := by simp
    have hall2 := headInv_all inv hall (by omega)
    have := wpAny_of_seq (md := .any) (Q' := Q) (ops.toList.drop T) T listed _ w (fun j => by simp [List.getElem?_drop]) (by rw [hdl2, hall2]; exact hseq) hq
    rw [hdl2] at this
    rw [Nat.zero_add]
    exact this
  intro fuel
  induction fuel with
  | zero =>
    intro listed a w V hc0 inv hI
    refine fin listed a w V inv hI (fun i hi => ?_)
    rw [List.countP_eq_zero] at hc0
    simpa using hc0 i (by simpa using hi)
  | succ fuel ih =>
    intro listed a w V hc0 inv hI
    obtain ⟨i0, hi0, hun0⟩ : ∃ i0, i0 < T ∧ listed.getD i0 true = false := by
      have hpos : 0 < (List.range T).countP (fun i => listed[i]? != some true) := by omega
      rw [List.countP_pos_iff] at hpos
      obtain ⟨i0, h1, h2⟩ := hpos
      have h1 : i0 < T := by simpa using h1
      refine ⟨i0, h1, ?_⟩
      rw [Array.getD_eq_getD_getElem?]
      rw [Array.getElem?_eq_getElem (by rw [hI.size]; omega)] at h2 ⊢
      simpa using h2
    have hready := tail_waits hs hc hT inv _ i0 rfl hi0 hun0
    rw [show fuel + 1 + (ops.size - T) = (fuel + (ops.size - T)) + 1 by omega]
    refine ⟨fun hr => ?_, fun i hi => ?_⟩
    · exfalso
      have done : ∀ i, i < ops.size → listed[i]? = some true := by
        intro i
        induction i using Nat.strongRecOn with
        | ind i ih =>
          intro hi
          by_cases h : listed[i]? = some true
          · exact h
          exfalso
          have hmem : i ∈ Region.ready .any ops listed := by
            unfold Region.ready
            rw [List.mem_filter]
            refine ⟨by simpa using hi, ?_⟩
            have hl : listed.getD i true = false := by
              rw [Array.getD_eq_getD_getElem?]
              rw [Array.getElem?_eq_getElem (by rw [hI.size]; omega)] at h ⊢
              simpa using h
            rw [hl, Array.getElem?_eq_getElem hi]
            simp only [Bool.not_false, Bool.true_and, Option.map_some, Option.getD_some]
            rw [Array.all_eq_true']
            intro e he
            by_cases hb : Region.binds .any e = true
            · have hp := pre_spec he hb
              have hlt := (hok _ _ (Array.getElem?_eq_getElem hi)).lt e.on hp
              rw [Array.getD_eq_getD_getElem?, ih e.on hlt (by omega)]
              simp
            · simp [hb]
          rw [hr] at hmem
          exact absurd hmem (by simp)
      have h1 := inv.tail T (Nat.le_refl _) hT
      rw [Array.getD_eq_getD_getElem?, done T hT] at h1
      cases h1
    have hiT : i < T := by
      rcases Nat.lt_or_ge i T with h | h
      · exact h
      · exact absurd hi (hready i h)
    have inv' := inv.set hi hiT
    unfold Region.ready at hi
    rw [List.mem_filter] at hi
    obtain ⟨hir, hi2⟩ := hi
    have hir : i < ops.size := by simpa using hir
    rw [Bool.and_eq_true] at hi2
    obtain ⟨hnl, haft⟩ := hi2
    have hnl' : listed[i]? = some false := by
      rw [Array.getD_eq_getD_getElem?, Array.getElem?_eq_getElem (by rw [hI.size]; exact hir)] at hnl
      rw [Array.getElem?_eq_getElem (by rw [hI.size]; exact hir)]
      simpa using hnl
    have ho : ops[i]? = some ops[i] := Array.getElem?_eq_getElem hir
    have hpre : ∀ k, pre ops[i] k = true → listed[k]? = some true := by
      intro k hk
      obtain ⟨e, he, rfl, hb⟩ := pre_mem hk
      rw [ho, Option.map_some, Option.getD_some, Array.all_eq_true'] at haft
      have := haft e he
      simp only [hb, Bool.not_true, Bool.false_or, Array.getD_eq_getD_getElem?] at this
      have hlt := (hok _ _ ho).lt e.on hk
      rw [Array.getElem?_eq_getElem (by rw [hI.size]; omega)] at this ⊢
      simpa using this
    have hilt : i < listed.size := by rw [hI.size]; exact hir
    -- the step
    have hd : dl[i]? = some (dl.getD i []) := by
      have : i < dl.length := by omega
      simp [this]
    have hin : ∀ j, LS listed j → j < ops.size := fun j hj => by have h := (Array.getElem?_eq_some_iff.1 hj).1; rw [hI.size] at h; exact h
    have hLS : LS (listed.setIfInBounds i true) = ad i (LS listed) := funext fun k => propext (Array.get?_setTrue hilt)
    have hlook := hI.old.looks hN hok ho (by rw [hnl']; simp) hpre
    have hgo := uvGoals_at (ops.toList.take T) dl 0 a0 (hgoals V) i ops[i] _ (by rw [List.getElem?_take, if_pos hiT]; simp) hd (LS listed) w hI.c
      ⟨fun j hj => hI.post j _ (Array.getElem?_eq_getElem (hin j hj)) hj, fun j hj k hk => hI.down j _ (Array.getElem?_eq_getElem (hin j hj)) hj k ((hok j _ (Array.getElem?_eq_getElem (hin j hj))).dl k hk), fun i ha hs => hI.frA i ha hs, fun i j h1 h2 h3 h4 h5 => hI.neA i j h1 h2 h3 h4 h5⟩
      (fun j hj => hpre j ((hok _ _ ho).dl j hj)) (by rw [Nat.zero_add]; intro h; rw [LS, hnl'] at h; cases h)
    rw [Nat.zero_add] at hgo
    rw [List.take_take, Nat.min_eq_left (Nat.le_of_lt hiT)] at hgo
    -- the invariant behind it
    have hnext : ∀ v w', (C (ad i (LS listed)) w' ∧ (∀ j, LS listed j → ((posts V (ad i (LS listed))).getD j (fun _ _ => True)) (V j) w') ∧ w.heap.size ≤ w'.heap.size ∧ fr A i w v w') → ((posts V (ad i (LS listed))).getD i (fun _ _ => True)) v w' → wpAny P .any ops Q (fuel + (ops.size - T)) (listed.setIfInBounds i true) (a.put ops[i].dst v) w' := by
      rintro v w' ⟨hc', hkeep, hsz, hfr⟩ hpv
      refine ih _ _ _ (fun k => if k = i then v else V k) ?_ inv' ?_
      · have hlt : (List.range T).countP (fun k => (listed.setIfInBounds i true)[k]? != some true) + 1 = (List.range T).countP (fun k => listed[k]? != some true) := by
          rw [List.countP_eq_length_filter, List.countP_eq_length_filter]
          have hsub : (List.range T).filter (fun k => (listed.setIfInBounds i true)[k]? != some true) = ((List.range T).filter (fun k => listed[k]? != some true)).erase i := by
            rw [(List.Nodup.sublist List.filter_sublist List.nodup_range).erase_eq_filter, List.filter_filter]
            apply List.filter_congr
            intro k hk
            by_cases e : k = i
            · subst e; simp [hilt]
            · rw [Array.getElem?_setIfInBounds_ne (Ne.symm e)]; simp [e]
          rw [hsub, List.length_erase_of_mem (by rw [List.mem_filter]; exact ⟨by simpa using hiT, by rw [hnl']; rfl⟩)]
          have : 0 < ((List.range T).filter (fun k => listed[k]? != some true)).length :=
            List.length_pos_of_mem (a := i) (by rw [List.mem_filter]; exact ⟨by simpa using hiT, by rw [hnl']; rfl⟩)
          omega
        omega
      · refine ⟨by simp [hI.size], by rw [put_size, hI.tmps], by rw [put_defers, hI.defers], (by rw [hLS]; exact hc'), ?_, ?_, ?_, ?_, ?_, ?_⟩
        · intro j o hj hl t ht
          rcases (Array.get?_setTrue hilt).1 hl with rfl | hl2
          · rw [ho] at hj; cases hj
            simp only [if_true]
            rw [ht]; exact put_get (by rw [hI.tmps, hN]; exact (hok _ _ ho).dst t ht)
          · have hji : j ≠ i := fun e => by rw [e, hnl'] at hl2; cases hl2
            rw [if_neg hji, put_get_ne ((hok _ _ ho).one j o hj hji t ht)]
            exact hI.got j o hj hl2 t ht
        · intro j o hj hl
          rcases (Array.get?_setTrue hilt).1 hl with rfl | hl2
          · rw [hLS, hPc V _ _ v _ (fun hm => by
              have h1 := hpre _ ((hok _ _ ho).dl _ hm)
              rw [hnl'] at h1; cases h1)]
            simp only [if_true]; exact hpv
          · have hji : j ≠ i := fun e => by rw [e, hnl'] at hl2; cases hl2
            rw [hLS, hPc V _ _ v _ (fun hm => by
              have h1 := hI.down j o hj hl2 _ ((hok _ _ hj).dl _ hm)
              rw [hnl'] at h1; cases h1)]
            simp only [if_neg hji]
            exact hkeep j hl2
        · intro t ht
          rw [put_get_ne (ht i _ ho ((Array.get?_setTrue hilt).2 (.inl rfl)))]
          exact hI.same t (fun j o hj hl => ht j o hj ((Array.get?_setTrue hilt).2 (.inr hl)))
        · intro j o hj hl k hk
          rw [Array.get?_setTrue hilt]
          rcases (Array.get?_setTrue hilt).1 hl with rfl | hl2
          · rw [ho] at hj; cases hj
            exact .inr (hpre k hk)
          · exact .inr (hI.down j o hj hl2 k hk)
        · intro j hj hl
          rcases (Array.get?_setTrue hilt).1 hl with rfl | hl2
          · simp only [if_true]
            obtain ⟨b, h1, _, h3⟩ := hfr hj
            exact ⟨b, h1, h3⟩
          · have hji : j ≠ i := fun e => by rw [e, hnl'] at hl2; cases hl2
            simp only [if_neg hji]
            obtain ⟨b, h1, h2⟩ := hI.frA j hj hl2
            exact ⟨b, h1, Nat.lt_of_lt_of_le h2 hsz⟩
        · intro j j2 hj hj2 hne hl hl2
          rcases (Array.get?_setTrue hilt).1 hl with rfl | hl3
          · rcases (Array.get?_setTrue hilt).1 hl2 with rfl | hl4
            · exact absurd rfl hne
            · simp only [if_true, if_neg (Ne.symm hne)]
              obtain ⟨b, h1, h2, _⟩ := hfr hj
              obtain ⟨b2, h3, h4⟩ := hI.frA j2 hj2 hl4
              rw [h1, h3]; intro e; cases e; omega
          · have hji : j ≠ i := fun e => by rw [e, hnl'] at hl3; cases hl3
            rcases (Array.get?_setTrue hilt).1 hl2 with rfl | hl4
            · simp only [if_true, if_neg hji]
              obtain ⟨b, h1, h2, _⟩ := hfr hj2
              obtain ⟨b2, h3, h4⟩ := hI.frA j hj hl3
              rw [h1, h3]; intro e; cases e; omega
            · have hji2 : j2 ≠ i := fun e => by rw [e, hnl'] at hl4; cases hl4
              simp only [if_neg hji, if_neg hji2]
              exact hI.neA j j2 hj hj2 hne hl3 hl4
    unfold wpOp
    rw [ho]
    show if Region.wanted ops[i] (yielded ops a.tmps) = true then _ else _
    have hsel := (hok _ _ ho).sel
    have hEx : execOp a.eval ops[i] = execOp (putAll (ops.toList.take i) V 0 a0).eval ops[i] :=
      execOp_congr ops[i] hsel (fun x hx => eval_congr_get (fun t ht => hlook t (by
        subst ht
        exact List.mem_append_left _ (List.mem_filterMap.2 ⟨.tmp t, by simpa using hx, rfl⟩))))
    rw [yielded_congr hlook]
    split
    · rename_i hw
      left
      have hgo := hgo (fun b w' => ∃ v, b = (putAll (ops.toList.take i) V 0 a0).put ops[i].dst v ∧ (C (ad i (LS listed)) w' ∧ (∀ j, LS listed j → ((posts V (ad i (LS listed))).getD j (fun _ _ => True)) (V j) w') ∧ w.heap.size ≤ w'.heap.size ∧ fr A i w v w') ∧ ((posts V (ad i (LS listed))).getD i (fun _ _ => True)) v w') (fun v w' h0 h1 h2 h3 h4 => ⟨v, rfl, ⟨h0, h1, h2, h4⟩, h3⟩)
      rw [if_pos hw] at hgo
      exact wp_carry (R := fun v w' => (C (ad i (LS listed)) w' ∧ (∀ j, LS listed j → ((posts V (ad i (LS listed))).getD j (fun _ _ => True)) (V j) w') ∧ w.heap.size ≤ w'.heap.size ∧ fr A i w v w') ∧ ((posts V (ad i (LS listed))).getD i (fun _ _ => True)) v w') hEx (by rw [hI.tmps, putAll_size]) hgo (fun v w' ⟨h1, h2⟩ => hnext v w' h1 h2)
    · rename_i hw
      have hgo := hgo (fun b w' => ∃ v, b = (putAll (ops.toList.take i) V 0 a0).put ops[i].dst v ∧ (C (ad i (LS listed)) w' ∧ (∀ j, LS listed j → ((posts V (ad i (LS listed))).getD j (fun _ _ => True)) (V j) w') ∧ w.heap.size ≤ w'.heap.size ∧ fr A i w v w') ∧ ((posts V (ad i (LS listed))).getD i (fun _ _ => True)) v w')
        (fun v w' h0 h1 h2 h3 h4 => ⟨v, rfl, ⟨h0, h1, h2, h4⟩, h3⟩)
      rw [if_neg hw] at hgo
      obtain ⟨v, h1, h2, h3⟩ := hgo
      have e : a.put ops[i].dst undef = a.put ops[i].dst v := by
        cases hd : ops[i].dst with
        | none => rfl
        | some d =>
          rw [hd] at h1
          have hlt : d < (putAll (ops.toList.take i) V 0 a0).tmps.size := by rw [putAll_size, hN]; exact (hok _ _ ho).dst d hd
          have := congrArg (fun x : Act => x.tmps[d]?) h1
          simp only [put_get hlt] at this
          rw [Option.some.inj this]
      rw [e]
      exact hnext v w h2 h3

theorem wp_region_uv_tail {id : Nat} {Q : Exit → Act → World → Prop} {w0 : World} (T : Nat) (C : (Nat → Prop) → World → Prop) (posts : (Nat → Value) → (Nat → Prop) → List (Value → World → Prop)) (A : List Nat) (dl : List (List Nat)) (N : Nat)
    (hm : P.follows .mixedOrders = true) (hN : a0.tmps.size = N)
    (hchk : (rgCheck ops dl N && decide (T < ops.size) && Region.sinkB .any ops T && Region.chainB .any ops T && Region.seqB .any ops (ops.size - T) T ((Array.range ops.size).map (fun i => decide (i < T)))) = true) (hpl : ∀ V S, (posts V S).length = T)
    (hC0 : ∀ S : Nat → Prop, (∀ k, ¬ S k) → C S w0.drew) (hPc : ∀ V S i v j, i ∉ dl.getD j [] → (posts (fun k => if k = i then v else V k) S).getD j (fun _ _ => True) = (posts V S).getD j (fun _ _ => True)) (hgoals : ∀ V, uvGoals P ops C (posts V) A dl V (ops.toList.take T) dl 0 a0)
    (hQ : ∀ V S w, (∀ j, j < (posts V S).length → S j) → C S w → postsHold V w (posts V S) 0 → (∀ i j, i < (posts V S).length → j < (posts V S).length → A.contains i = true → A.contains j = true → i ≠ j → blkOf (V i) ≠ blkOf (V j)) → wpList P ops Q (ops.toList.drop T) (putAll (ops.toList.take T) V 0 a0) w) : (Code.region id ops true).wp P Q a0 w0 := by
  simp only [Bool.and_eq_true, decide_eq_true_eq] at hchk
  obtain ⟨⟨⟨⟨h1, hT⟩, h2⟩, h3⟩, h4⟩ := hchk
  obtain ⟨hdl, hok⟩ := rgOk_of_check h1
  have inv0 : HeadInv .any ops T (Array.replicate ops.size false) :=
    ⟨by simp, fun j oj _ hl => (by rw [getD_replicate_false] at hl; cases hl), fun t _ ht => getD_in (by simpa using ht) (getD_replicate_false _ _)⟩
  have hcnt : (List.range T).countP (fun i => (Array.replicate ops.size false)[i]? != some true) = T := by
    have : (List.range T).countP (fun i => (Array.replicate ops.size false)[i]? != some true) = (List.range T).length := by
      rw [List.countP_eq_length]
      intro i hi
      simp [Array.getElem?_replicate]
    rw [this]; simp
  have := uv_walk_tail (Q := Q) hN hok hdl hpl hT h2 h3 h4 hPc hgoals hQ T _ a0 _ (fun _ => undef) hcnt inv0 ⟨by simp, rfl, rfl, hC0 _ (fun k hk => by simp [LS, Array.getElem?_replicate] at hk), ?_, ?_, fun _ _ => rfl, ?_, ?_, ?_⟩
  · refine wp_region_any hm ?_
    rw [show T + (ops.size - T) = ops.size by omega] at this
    exact this
  · intro j o hj hl
    simp [Array.getElem?_replicate] at hl
  · intro j o hj hl
    simp [Array.getElem?_replicate] at hl
  · intro j o hj hl
    simp [Array.getElem?_replicate] at hl
  · intro j hj hl
    simp [Array.getElem?_replicate] at hl
  · intro j j2 hj hj2 hne hl
    simp [Array.getElem?_replicate] at hl


def uvnGoals (P : Program) (ops : Array Oper) (C : (Nat → Prop) → World → Prop) (all : (Nat → Prop) → List (Value → World → Prop)) (A : List Nat) (dl0 : List (List Nat)) (V : Nat → Value) : List Oper → List (List Nat) → Nat → List (Nat × Value) → Prop
  | o :: os, d :: ds, i, L =>
    (∀ (S : Nat → Prop) w, C S w → UvS all A dl0 V S w → (∀ k, k ∈ d → S k) → ¬ S i → unOp P ops L o w (fun v w' => (C (ad i S) w' ∧ (∀ j, S j → ((all (ad i S)).getD j (fun _ _ => True)) (V j) w') ∧ w.heap.size ≤ w'.heap.size) ∧ ((all (ad i S)).getD i (fun _ _ => True)) v w' ∧ fr A i w v w')) ∧
    uvnGoals P ops C all A dl0 V os ds (i + 1) (ins o.dst (V i) L)
  | _, _, _, _ => True

theorem uvn_rg {V : Nat → Value} {dl0 : List (List Nat)} : ∀ (os : List Oper) (ds : List (List Nat)) (i : Nat) (L : List (Nat × Value)) (a : Act), Fr N a L → (∀ o ∈ os, dstOk N o.dst = true) → uvnGoals P ops C (posts V) A dl0 V os ds i L → uvGoals P ops C (posts V) A dl0 V os ds i a
  | [], _, _, _, _, _, _, _ => trivial
  | _ :: _, [], _, _, _, _, _, _ => trivial
  | o :: os, d :: ds, i, L, a, hf, hd, h => by
    refine ⟨fun S w hC hS hdp hi K hK => ?_, uvn_rg os ds (i + 1) _ _ (hf.ins (V i) (hd o (by simp))) (fun o' ho => hd o' (by simp [ho])) h.2⟩
    have h1 := h.1 S w hC hS hdp hi
    unfold unOp at h1
    cases hg : o.guard with
    | none =>
      rw [hg] at h1
      have hw : Region.wanted o (yielded ops a.tmps) = true := by simp [Region.wanted, hg]
      rw [if_pos hw]
      exact h1 a K _ (fun x v e => hf.ev e) (fun v w' hr => hK v w' hr.1.1 hr.1.2.1 hr.1.2.2 hr.2.1 hr.2.2)
    | some gw =>
      obtain ⟨g, want⟩ := gw
      rw [hg] at h1
      obtain ⟨ag, c, hy, ht, hfl⟩ := h1
      rw [wanted_of hf hg hy]
      cases hact : (ag && (c == want)) with
      | true => rw [if_pos rfl]; exact ht hact a K _ (fun x v e => hf.ev e) (fun v w' hr => hK v w' hr.1.1 hr.1.2.1 hr.1.2.2 hr.2.1 hr.2.2)
      | false => rw [if_neg (by simp)]; exact hK _ _ (hfl hact).1.1 (hfl hact).1.2.1 (hfl hact).1.2.2 (hfl hact).2.1 (hfl hact).2.2

theorem wp_region_vnT {L0 : List (Nat × Value)} {id : Nat} {Q : Exit → Act → World → Prop} {w0 : World} (T : Nat) (C : (Nat → Prop) → World → Prop) (posts : (Nat → Value) → (Nat → Prop) → List (Value → World → Prop)) (A : List Nat) (dl : List (List Nat)) (hf : Fr N a0 L0)
    (hm : P.follows .mixedOrders = true)
    (hchk : (rgCheck ops dl N && decide (T < ops.size) && Region.sinkB .any ops T && Region.chainB .any ops T && Region.seqB .any ops (ops.size - T) T ((Array.range ops.size).map (fun i => decide (i < T)))) = true) (hdst : ops.toList.all (fun o => dstOk N o.dst) = true) (hpl : ∀ V S, (posts V S).length = T)
    (hC0 : ∀ S : Nat → Prop, (∀ k, ¬ S k) → C S w0.drew) (hPc : ∀ V S i v j, i ∉ dl.getD j [] → (posts (fun k => if k = i then v else V k) S).getD j (fun _ _ => True) = (posts V S).getD j (fun _ _ => True)) (hgoals : ∀ V, uvnGoals P ops C (posts V) A dl V (ops.toList.take T) dl 0 L0)
    (hQ : ∀ V S w a, (∀ j, j < (posts V S).length → S j) → C S w → postsHold V w (posts V S) 0 → (∀ i j, i < (posts V S).length → j < (posts V S).length → A.contains i = true → A.contains j = true → i ≠ j → blkOf (V i) ≠ blkOf (V j)) → Fr N a (insAll (ops.toList.take T) V 0 L0) → wpList P ops Q (ops.toList.drop T) a w) : (Code.region id ops true).wp P Q a0 w0 := by
  rw [List.all_eq_true] at hdst
  exact wp_region_uv_tail T C posts A dl N hm hf.size hchk hpl hC0 hPc (fun V => uvn_rg _ _ _ _ _ hf (fun o ho => hdst o (List.mem_of_mem_take ho)) (hgoals V)) (fun V S w hj hc hp hn => hQ V S w _ hj hc hp hn (un_fr _ _ _ _ hf (fun o ho => hdst o (List.mem_of_mem_take ho))))

/-- An operation that writes nothing that was there. -/
theorem uv_plain {all : (Nat → Prop) → List (Value → World → Prop)} {dl0 : List (List Nat)} {V : Nat → Value} {S : Nat → Prop} {w : World} {L : List (Nat × Value)} {o : Oper} {i : Nat} (hK : ∀ j v w', ((all S).getD j (fun _ _ => True)) v w → Below w.heap.size w w' → ((all (ad i S)).getD j (fun _ _ => True)) v w') (hCB : ∀ w', C S w → Below w.heap.size w w' → C (ad i S) w') (hC : C S w) (hS : UvS all A dl0 V S w)
    (h : unOp P ops L o w (fun v w' => Below w.heap.size w w' ∧ ((all (ad i S)).getD i (fun _ _ => True)) v w' ∧ fr A i w v w')) : unOp P ops L o w (fun v w' => (C (ad i S) w' ∧ (∀ j, S j → ((all (ad i S)).getD j (fun _ _ => True)) (V j) w') ∧ w.heap.size ≤ w'.heap.size) ∧ ((all (ad i S)).getD i (fun _ _ => True)) v w' ∧ fr A i w v w') := by
  have key : ∀ v w', (Below w.heap.size w w' ∧ ((all (ad i S)).getD i (fun _ _ => True)) v w' ∧ fr A i w v w') → ((C (ad i S) w' ∧ (∀ j, S j → ((all (ad i S)).getD j (fun _ _ => True)) (V j) w') ∧ w.heap.size ≤ w'.heap.size) ∧ ((all (ad i S)).getD i (fun _ _ => True)) v w' ∧ fr A i w v w') :=
    fun v w' h => ⟨⟨hCB w' hC h.1, fun j hj => hK j _ w' (hS.post j hj) h.1, h.1.size⟩, h.2⟩
  unfold unOp at h ⊢
  cases hg : o.guard with
  | none => rw [hg] at h; exact Does.mono h key
  | some gw =>
    rw [hg] at h
    obtain ⟨ag, c, hy, ht, hfl⟩ := h
    exact ⟨ag, c, hy, fun ha => Does.mono (ht ha) key, fun ha => key _ _ (hfl ha)⟩
end

end Go.Proofs.Ytpalmpfkliepfaa

namespace Go.Proofs.Ytpalmpfkliepfaa
open Go.RowKit
set_option linter.unusedVariables false
set_option linter.unusedSimpArgs false

def inS (L : List ByteArray) (s : ByteArray) : Bool := L.any fun x => decide (x = s)
/-- Block b of w is a map that holds true at the strings of L, and nothing else. -/
def SetM (P : Program) (k e : TypeId) (w : World) (b : Nat) (L : List ByteArray) : Prop :=
  ∃ D n, w.ownsMap (H := Unit) P k (plainElem P e) b n D ∧ n ≤ L.length ∧ Maps.IsMap D ∧ ∀ s : ByteArray, s.size ≤ maxLen → D.atKey (.string s.data.toList) (.lit (.bool false)) = .lit (.bool (inS L s))
section
variable {P : Program} {L : List (Nat × Value)} {w : World} {d : Option Tmp} {ty : TypeId} {ps : String} {af : Array Edge} {gu : Option (Nat × Bool)} {t k e : TypeId} {b : Nat} {S : List ByteArray}
theorem SetM.ext {w' : World} (h : SetM P k e w b S) (hb : Below w.heap.size w w') : SetM P k e w' b S := by
  obtain ⟨D, n, h1, h2, h3⟩ := h
  exact ⟨D, n, h1.kept (below_grown (r := none) hb) (by simp), h2, h3⟩
theorem SetM.grown {w' : World} {c : Nat} (h : SetM P k e w b S) (hg : w.grownBy w' (some c)) (hne : b ≠ c) : SetM P k e w' b S := by
  obtain ⟨D, n, h1, h2, h3⟩ := h
  exact ⟨D, n, h1.kept hg (fun e => hne (Option.some.inj e)), h2, h3⟩
theorem SetM.lt (h : SetM P k e w b S) : b < w.heap.size := by
  obtain ⟨D, n, h1, h2, h3⟩ := h
  exact h1.lt
end
end Go.Proofs.Ytpalmpfkliepfaa

namespace Go.Proofs.Ytpalmpfkliepfaa
open Go.RowKit
set_option linter.unusedVariables false
set_option linter.unusedSimpArgs false

/-- Below B nothing but block b is another. -/
structure KB (b B : Nat) (w w' : World) : Prop where
  os : w'.os = w.os
  tape : w'.tape = w.tape
  output : w'.output = w.output
  size : w.heap.size ≤ w'.heap.size
  block : ∀ k, k < B → k ≠ b → w'.heap[k]? = w.heap[k]?
section
variable {b B : Nat} {w w1 w2 : World}
theorem KB.refl (b B : Nat) (w : World) : KB b B w w := ⟨rfl, rfl, rfl, Nat.le_refl _, fun _ _ _ => rfl⟩
theorem KB.trans (h : KB b B w w1) (h2 : Below B w1 w2) : KB b B w w2 := ⟨h2.os.trans h.os, h2.tape.trans h.tape, h2.output.trans h.output, Nat.le_trans h.size h2.size, fun k hk hne => (h2.block k hk).trans (h.block k hk hne)⟩
theorem KB.grown (h : KB b w.heap.size w w1) : w.grownBy w1 (some b) := ⟨h.os, h.tape, h.output, h.size, fun k hk hne => h.block k hk (fun e => hne (by rw [e]))⟩
end
section
variable {P : Program} {L : List (Nat × Value)} {w : World} {d : Option Tmp} {ty : TypeId} {ps : String} {af : Array Edge} {gu : Option (Nat × Bool)}
theorem r_nilCheck {x : Operand} {p : Addr} (hx : evO L x = some (.pointer (some p))) : Runs P L ⟨d, .nilCheck x, ty, ps, af, gu⟩ w (.pointer (some p)) w := by
  intro ρ hρ
  simp [execOp, hρ _ _ hx]
end
end Go.Proofs.Ytpalmpfkliepfaa

namespace Go.Proofs.Ytpalmpfkliepfaa
open Go.RowKit
set_option linter.unusedVariables false
set_option linter.unusedSimpArgs false

/-- Below B nothing but the blocks of a list are others. -/
structure KS (S : List Nat) (B : Nat) (w w' : World) : Prop where
  os : w'.os = w.os
  tape : w'.tape = w.tape
  output : w'.output = w.output
  size : w.heap.size ≤ w'.heap.size
  block : ∀ k, k < B → k ∉ S → w'.heap[k]? = w.heap[k]?
section
variable {S S2 : List Nat} {b B : Nat} {w w1 w2 w' : World}
theorem KS.refl (S : List Nat) (B : Nat) (w : World) : KS S B w w := ⟨rfl, rfl, rfl, Nat.le_refl _, fun _ _ _ => rfl⟩
theorem KS.many (h : KS S B w w1) (h2 : KS S2 w1.heap.size w1 w2) (hs : ∀ b ∈ S2, b ∈ S ∨ B ≤ b) (hB : B ≤ w1.heap.size) : KS S B w w2 :=
  ⟨h2.os.trans h.os, h2.tape.trans h.tape, h2.output.trans h.output, Nat.le_trans h.size h2.size, fun k hk hne => (h2.block k (Nat.lt_of_lt_of_le hk hB) (fun hm => (hs k hm).elim hne (fun h => by omega))).trans (h.block k hk hne)⟩
theorem KS.trans (h : KS S B w w1) (h2 : Below B w1 w2) : KS S B w w2 := ⟨h2.os.trans h.os, h2.tape.trans h.tape, h2.output.trans h.output, Nat.le_trans h.size h2.size, fun k hk hne => (h2.block k hk).trans (h.block k hk hne)⟩
theorem KS.below (h : KS [] B w w') : Below B w w' := ⟨h.os, h.tape, h.output, h.size, fun k hk => h.block k hk (by simp)⟩
theorem KS.sub (h : KS S B w w') (hs : ∀ b ∈ S, b ∈ S2) : KS S2 B w w' := ⟨h.os, h.tape, h.output, h.size, fun k hk hne => h.block k hk (fun hm => hne (hs k hm))⟩
end
/-- Nothing but block b and a row's own block is another. -/
structure GO (w : World) (b : Nat) (v : Value) (w' : World) : Prop where
  os : w'.os = w.os
  tape : w'.tape = w.tape
  output : w'.output = w.output
  size : w.heap.size ≤ w'.heap.size
  block : ∀ k, k < w.heap.size → k ≠ b → some k ≠ v.ownBlock → w'.heap[k]? = w.heap[k]?
section
variable {w w1 w2 : World} {b : Nat} {v : Value}
theorem GO.refl (w : World) (b : Nat) (v : Value) : GO w b v w := ⟨rfl, rfl, rfl, Nat.le_refl _, fun _ _ _ _ => rfl⟩
theorem GO.below (h : GO w b v w1) (h2 : Below w1.heap.size w1 w2) : GO w b v w2 := ⟨h2.os.trans h.os, h2.tape.trans h.tape, h2.output.trans h.output, Nat.le_trans h.size h2.size, fun k hk h3 h4 => (h2.block k (Nat.lt_of_lt_of_le hk h.size)).trans (h.block k hk h3 h4)⟩
theorem GO.call (h : GO w b v w1) (hg : w1.grownBy w2 (some b)) : GO w b v w2 := ⟨hg.os.trans h.os, hg.tape.trans h.tape, hg.output.trans h.output, Nat.le_trans h.size hg.size, fun k hk h3 h4 => (hg.block k (Nat.lt_of_lt_of_le hk h.size) (fun e => h3 (Option.some.inj e))).trans (h.block k hk h3 h4)⟩
theorem GO.app (h : GO w b v w1) (hg : w1.grownBy w2 v.ownBlock) : GO w b v w2 := ⟨hg.os.trans h.os, hg.tape.trans h.tape, hg.output.trans h.output, Nat.le_trans h.size hg.size, fun k hk h3 h4 => (hg.block k (Nat.lt_of_lt_of_le hk h.size) h4).trans (h.block k hk h3 h4)⟩
theorem blk_go {k : Nat} {o : Obj} (hk : w.heap[k]? = some o) (h : GO w b v w1) (h1 : k ≠ b) (h2 : v.ownBlock ≠ some k) : w1.heap[k]? = some o := (h.block k (Array.getElem?_eq_some_iff.1 hk).1 h1 (fun e => h2 e.symm)).trans hk
theorem Row.go {α : Type} {k e base : Nat} {V : α → List Value} {u : Value} {l : List α} (hr : Row k V e base w u l) (h : GO w b v w1) (h1 : u.ownBlock ≠ Option.some b) (h2 : ∀ q, u.ownBlock = Option.some q → v.ownBlock ≠ Option.some q) : Row k V e base w1 u l := by
  refine ⟨hr.1, ?_⟩
  rcases hr.2 with hz | ⟨g, cap, cur, rfl, hb, hgg, rest⟩
  · exact .inl hz
  · exact .inr ⟨g, cap, cur, rfl, hb, blk_go hgg h (fun e => h1 (by rw [← e]; rfl)) (h2 g rfl), rest⟩
theorem KS.go {S : List Nat} {B : Nat} {w0 : World} (h : KS S B w0 w) (h2 : GO w b v w1) (hB : B ≤ w.heap.size) (hm : b ∈ S ∨ B ≤ b) (hv : ∀ q, v.ownBlock = some q → B ≤ q) : KS S B w0 w1 :=
  ⟨h2.os.trans h.os, h2.tape.trans h.tape, h2.output.trans h.output, Nat.le_trans h.size h2.size, fun k hk hne => (h2.block k (Nat.lt_of_lt_of_le hk hB) (fun e => by subst e; exact hm.elim hne (fun h => by omega)) (fun e => by have := hv k e.symm; omega)).trans (h.block k hk hne)⟩
theorem keptApp {α : Type} {k e base n : Nat} {V : α → List Value} {l : List α} : ∀ (x : Value) (w w' : World), (∃ a c, x = .slice a n c ∧ Row k V e base w x l) → Below w.heap.size w w' → (∃ a c, x = .slice a n c ∧ Row k V e base w' x l) := by
  rintro x w w' ⟨a, c, h1, h2⟩ hb
  exact ⟨a, c, h1, h2.ext hb⟩
end
section
variable {P : Program} {L : List (Nat × Value)} {w : World} {d : Option Tmp} {ty : TypeId} {ps : String} {af : Array Edge} {gu : Option (Nat × Bool)}
/-- The bytes of a string, of a block. -/
def StrC (cs : Array Value) (s : ByteArray) : Prop := ∀ j, j < s.size → cs[j]? = some (.int .u8 ((sbt s j : Nat) : Int))
theorem StrC.rd {b e : Nat} {cs : Array Value} {fr : Nat × Nat} {s : ByteArray} (hb : w.heap[b]? = some (.cells cs e fr)) (h : StrC cs s) : RdS 1 (vInt .u8) w (some ⟨b, 0, none⟩) (nums s) := by
  intro j x hx
  have hj : j < s.size := by rw [← nums_len]; exact (List.getElem?_eq_some_iff.1 hx).1
  refine ⟨b, 0, rfl, blk_lt hb, fun i u hu => ?_⟩
  rw [nums_get hj] at hx
  cases hx
  cases i with
  | zero => cases hu; exact cell_blk hb (by rw [Nat.zero_add, Nat.mul_one]; exact h j hj)
  | succ i => cases hu
end
section
variable {P : Program} {L : List (Nat × Value)} {w : World} {d : Option Tmp} {ty : TypeId} {ps : String} {af : Array Edge} {gu : Option (Nat × Bool)}
end
section
variable {P : Program} {fn : Func} {R : Ending → World → Prop} {a : Act} {N : Nat} {L : List (Nat × Value)} {w : World}
end
end Go.Proofs.Ytpalmpfkliepfaa

namespace Go.Proofs.Ytpalmpfkliepfaa
open Go.RowKit
set_option linter.unusedVariables false
set_option linter.unusedSimpArgs false
/-- The blocks of a type are as they were. -/
def KT (T : Nat) (w1 w : World) : Prop := ∀ (bf : Nat) (cs : Array Value), w1.heap[bf]? = some (.cells cs T (0, 0)) → w.heap[bf]? = some (.cells cs T (0, 0))
theorem KT.refl (T : Nat) (w : World) : KT T w w := fun _ _ h => h
theorem KT.trans {T : Nat} {w w1 w2 : World} (h : KT T w w1) (h2 : KT T w1 w2) : KT T w w2 := fun b cs hb => h2 b cs (h b cs hb)
theorem KT.map {T : Nat} {w1 w w' : World} (h : KT T w1 w) (hm : ∀ (bf : Nat) (cs : Array Value), w.heap[bf]? = some (.cells cs T (0, 0)) → w'.heap[bf]? = some (.cells cs T (0, 0))) : KT T w1 w' := fun b cs hb => hm b cs (h b cs hb)
theorem blk_ty {w : World} {b c T T2 : Nat} {cs cs2 : Array Value} {fr fr2 : Nat × Nat} (h1 : w.heap[b]? = some (.cells cs T fr)) (h2 : w.heap[c]? = some (.cells cs2 T2 fr2)) (h : (T == T2) = false) : b ≠ c := by
  rintro rfl
  rw [h1] at h2
  injection h2 with e
  injection e with e1 e2 e3
  subst e2
  simp at h
theorem KT.grown {T T2 b : Nat} {w w' : World} {cs : Array Value} {fr : Nat × Nat} (hg : w.grownBy w' (some b)) (hb : w.heap[b]? = some (.cells cs T2 fr)) (hne : (T == T2) = false) : KT T w w' := fun bf cs2 h => blk_grown h hg (blk_ty h hb hne)
theorem KT.app {α : Type} {T k e base : Nat} {V : α → List Value} {l : List α} {v : Value} {w w' : World} (hg : w.grownBy w' v.ownBlock) (hr : Row k V e base w v l) (hne : (e == T) = false) : KT T w w' := fun bf cs2 h => blk_row' h hg (Row.ne_type hr h hne)
/-- The blocks from X on are as they were. -/
def KX (X : Nat) (w1 w : World) : Prop := ∀ (k : Nat) (o : Obj), X ≤ k → w1.heap[k]? = some o → w.heap[k]? = some o
theorem KX.refl (X : Nat) (w : World) : KX X w w := fun _ _ _ h => h
section
variable {X : Nat} {w1 w w' : World}
theorem KX.below (h : KX X w1 w) (hb : Below w.heap.size w w') : KX X w1 w' := fun k o hk ho => blk_ext (h k o hk ho) hb
theorem KX.grown {b : Nat} (h : KX X w1 w) (hg : w.grownBy w' (some b)) (hx : b < X ∨ w1.heap.size ≤ b) : KX X w1 w' := fun k o hk ho => blk_grown (h k o hk ho) hg (fun e => by have := (Array.getElem?_eq_some_iff.1 ho).1; omega)
theorem KX.app {v : Value} (h : KX X w1 w) (hg : w.grownBy w' v.ownBlock) (hx : ∀ q, v.ownBlock = some q → q < X ∨ w1.heap.size ≤ q) : KX X w1 w' := fun k o hk ho => blk_row' (h k o hk ho) hg (fun e => by have := (Array.getElem?_eq_some_iff.1 ho).1; have := hx k e; omega)
theorem KX.go {b : Nat} {v : Value} (h : KX X w1 w) (hg : GO w b v w') (hx : b < X ∨ w1.heap.size ≤ b) (hv : ∀ q, v.ownBlock = some q → q < X ∨ w1.heap.size ≤ q) : KX X w1 w' := fun k o hk ho => blk_go (h k o hk ho) hg (fun e => by have := (Array.getElem?_eq_some_iff.1 ho).1; omega) (fun e => by have := (Array.getElem?_eq_some_iff.1 ho).1; have := hv k e; omega)
end
theorem Below_go {B : Nat} {w0 w w1 : World} {b : Nat} {v : Value} (h : Below B w0 w) (h2 : GO w b v w1) (hB : B ≤ w.heap.size) (hm : B ≤ b) (hv : ∀ q, v.ownBlock = some q → B ≤ q) : Below B w0 w1 :=
  h.trans ⟨h2.os, h2.tape, h2.output, h2.size, fun k hk => h2.block k (by omega) (by rintro rfl; omega) (fun e => by have := hv k e.symm; omega)⟩
end Go.Proofs.Ytpalmpfkliepfaa

namespace Go.Proofs.Ytpalmpfkliepfaa
open Go.RowKit Ut
set_option linter.unusedVariables false
set_option linter.unusedSimpArgs false
def pieceS (s : ByteArray) : ByteArray × ByteArray × Bool := match pieceP (bl s) with
  | none => (⟨#[]⟩, s, false)
  | some pm => (strN pm.1, strN pm.2, true)
theorem piece_no {s : ByteArray} (h : s.size = 0 ∨ (0 < s.size ∧ ¬ sbt s 0 = 32)) : pieceS s = (⟨#[]⟩, s, false) := by
  unfold pieceS
  have : pieceP (bl s) = none := by
    rcases h with h | ⟨h, h2⟩
    · rw [bl_nil.2 h]; rfl
    · have h3 := bl_dropc s 0 h
      rw [List.drop_zero] at h3
      rw [h3]
      unfold pieceP
      split
      · rename_i e; simp only [List.cons.injEq] at e; exact absurd e.1 h2
      · rfl
  rw [this]
theorem scan_end {q : Bool} {l : List Nat} (h : l = [] ∨ (l.head? = some 32 ∧ q = false)) : scanF q l = ([], l) := by
  rcases h with rfl | ⟨h, rfl⟩
  · rfl
  · exact scanF_nil l (.inr h)
theorem scan_go {q : Bool} {c : Nat} {l : List Nat} (h : ¬ (c = 32 ∧ q = false)) : scanF q (c :: l) = (c :: (scanF (if c = 34 then !q else q) l).1, (scanF (if c = 34 then !q else q) l).2) := by rw [scanF, if_neg h]
theorem piece_out {s : ByteArray} {i : Nat} {q : Bool} (h0 : 0 < s.size) (h1 : sbt s 0 = 32) (hi : 1 ≤ i) (hi2 : i ≤ s.size)
    (Hs : scanF false ((bl s).drop 1) = (((bl s).drop 1).take (i - 1) ++ (scanF q ((bl s).drop i)).1, (scanF q ((bl s).drop i)).2)) (he : s.size ≤ i ∨ (sbt s i = 32 ∧ q = false)) :
    pieceS s = (s.extract 1 i, s.extract i s.size, true) := by
  have h3 := bl_dropc s 0 h0
  rw [List.drop_zero, h1] at h3
  have h4 : pieceP (bl s) = some (scanF false ((bl s).drop 1)) := by
    conv => lhs; rw [h3]
    rfl
  have h5 : scanF q ((bl s).drop i) = ([], (bl s).drop i) := by
    refine scan_end ?_
    rcases he with h | ⟨h, h2⟩
    · left; exact List.drop_eq_nil_of_le (by rw [bl_length]; exact h)
    · rcases Nat.lt_or_ge i s.size with h6 | h6
      · right; rw [bl_dropc s i h6, h]; exact ⟨rfl, h2⟩
      · left; exact List.drop_eq_nil_of_le (by rw [bl_length]; exact h6)
  unfold pieceS
  rw [h4, Hs, h5, List.append_nil]
  simp only
  congr 1
  · rw [← bl_mid, strN_bl]
  · congr 1
    rw [← bl_drop, strN_bl]

set_option maxHeartbeats 1000000 in
set_option maxRecDepth 100000 in
theorem piece_any (s : ByteArray) (w : World) (hs : s.size ≤ 100000) : Calls Try.prog 59 #[(.string s)] w fun e w' => e = .returned (.tuple #[.string (pieceS s).1, .string (pieceS s).2.1, .bool (pieceS s).2.2]) ∧ Below w.heap.size w w' := by
  refine sx_enter (L := [(0, (.string s))]) Try.func59 rfl rfl rfl rfl (fun fa hf => ?_)
  have hb : Below w.heap.size w w := Below.refl _ _
  refine wp_seq_k (fun K1 hK1 => ?_)
  refine wp_region_lit ?_
  refine sqv hf (r_assign rfl) rfl rfl rfl ?_; clear hf fa; intro fa hf
  refine sqv hf (r_assign rfl) rfl rfl rfl ?_; clear hf fa; intro fa hf
  refine sqv hf (r_assign rfl) rfl rfl rfl ?_; clear hf fa; intro fa hf
  apply wpList_nil
  (try simp only [Exit.then, Exit.inBlock, ↓reduceIte, Nat.reduceEqDiff])
  refine hK1 _ _ ?_
  refine wp_seq_k (fun K2 hK2 => ?_)
  refine wp_seq_k (fun K3 hK3 => ?_)
  by_cases hsp1 : s.size = 0
  · have hsp1b : decide (s.size = 0) = true := decide_eq_true hsp1
    refine wp_region_lit ?_
    refine sqv hf (r_move rfl) rfl rfl rfl ?_; clear hf fa; intro fa hf
    refine sqv hf (Runs.veq (r_seq rfl rfl) (congrArg Value.bool (show _ = true from (decide_eq_true (emp_iff.2 hsp1))))) rfl rfl rfl ?_; clear hf fa; intro fa hf
    refine sqv hf (r_move rfl) rfl rfl rfl ?_; clear hf fa; intro fa hf
    refine sqgF (act := false) (ag := true) (c := true) (v := .bool false) hf rfl rfl rfl (fun hact => by cases hact) rfl rfl ?_; clear hf fa; intro fa hf
    refine sqgF (act := false) (ag := true) (c := true) (v := .bool false) hf rfl rfl rfl (fun hact => by cases hact) rfl rfl ?_; clear hf fa; intro fa hf
    refine sqgF (act := false) (ag := true) (c := true) (v := .bool false) hf rfl rfl rfl (fun hact => by cases hact) rfl rfl ?_; clear hf fa; intro fa hf
    refine sqv hf (r_pick (b := true) rfl rfl rfl rfl) rfl rfl rfl ?_; clear hf fa; intro fa hf
    apply wpList_nil
    (try simp only [Exit.then, Exit.inBlock, ↓reduceIte, Nat.reduceEqDiff])
    refine hK3 _ _ ?_
    refine wp_cond_true (hf.ev rfl) ?_
    refine wp_seq_k (fun K4 hK4 => ?_)
    refine wp_region_lit ?_
    refine sqv hf (r_move rfl) rfl rfl rfl ?_; clear hf fa; intro fa hf
    refine sqv hf (r_assign rfl) rfl rfl rfl ?_; clear hf fa; intro fa hf
    refine sqv hf (r_assign rfl) rfl rfl rfl ?_; clear hf fa; intro fa hf
    refine sqv hf (r_assign rfl) rfl rfl rfl ?_; clear hf fa; intro fa hf
    apply wpList_nil
    (try simp only [Exit.then, Exit.inBlock, ↓reduceIte, Nat.reduceEqDiff])
    refine hK4 _ _ ?_
    refine wp_ret ?_
    (try simp only [Exit.then, Exit.inBlock])
    refine ret3 hf rfl rfl rfl rfl ?_
    rw [piece_no (.inl hsp1)]; exact ⟨rfl, hb⟩
  · have hsp1b : decide (s.size = 0) = false := decide_eq_false hsp1
    refine wp_region_lit ?_
    refine sqv hf (r_move rfl) rfl rfl rfl ?_; clear hf fa; intro fa hf
    refine sqv hf (Runs.veq (r_seq rfl rfl) (congrArg Value.bool (show _ = false from (decide_eq_false (fun e => hsp1 (emp_iff.1 e)))))) rfl rfl rfl ?_; clear hf fa; intro fa hf
    refine sqv hf (r_move rfl) rfl rfl rfl ?_; clear hf fa; intro fa hf
    refine sqgd (act := true) (g := 2) (want := false) (ag := true) (c := false) hf (by rfl) (by rfl) rfl (fun _ =>  Runs.does (R := fun vq wq => vq = (.string s) ∧ w = wq) (r_move rfl) ⟨rfl, rfl⟩) (fun h => by cases h) rfl ?_; clear hf fa; rintro fa _ _ ⟨rfl, rfl⟩ hf
    change Fr _ _ ((10, (.string s)) :: _) at hf
    refine sqgd (act := true) (g := 2) (want := false) (ag := true) (c := false) hf (by rfl) (by rfl) rfl (fun _ =>  Runs.does (R := fun vq wq => vq = (.int .u8 ((sbt s 0 : Nat) : Int)) ∧ w = wq) (r_sindexD (j := 0) rfl rfl Try.underlying9 rfl (by omega)) ⟨rfl, rfl⟩) (fun h => by cases h) rfl ?_; clear hf fa; rintro fa _ _ ⟨rfl, rfl⟩ hf
    change Fr _ _ ((11, (.int .u8 ((sbt s 0 : Nat) : Int))) :: _) at hf
    refine sqgd (act := true) (g := 2) (want := false) (ag := true) (c := false) hf (by rfl) (by rfl) rfl (fun _ =>  Runs.does (R := fun vq wq => vq = (.bool (decide (((sbt s 0 : Nat) : Int) ≠ (32 : Int)))) ∧ w = wq) (r_ne rfl rfl) ⟨rfl, rfl⟩) (fun h => by cases h) rfl ?_; clear hf fa; rintro fa _ _ ⟨rfl, rfl⟩ hf
    change Fr _ _ ((12, (.bool (decide (((sbt s 0 : Nat) : Int) ≠ (32 : Int))))) :: _) at hf
    refine sqv hf (r_pick (b := false) rfl rfl rfl rfl) rfl rfl rfl ?_; clear hf fa; intro fa hf
    apply wpList_nil
    (try simp only [Exit.then, Exit.inBlock, ↓reduceIte, Nat.reduceEqDiff])
    refine hK3 _ _ ?_
    refine wp_cond_split (t := (decide (((sbt s 0 : Nat) : Int) ≠ (32 : Int)))) (hf.ev rfl) (fun hqt13_2 => ?_) (fun hqt13_2 => ?_)
    · have hqt13_2b := hqt13_2
      try simp only [decide_eq_true_eq, Bool.and_eq_true, Bool.or_eq_true, Bool.not_eq_true', decide_eq_false_iff_not, ne_eq, Bool.not_eq_true] at hqt13_2
      refine wp_seq_k (fun K5 hK5 => ?_)
      refine wp_region_lit ?_
      refine sqv hf (r_move rfl) rfl rfl rfl ?_; clear hf fa; intro fa hf
      refine sqv hf (r_assign rfl) rfl rfl rfl ?_; clear hf fa; intro fa hf
      refine sqv hf (r_assign rfl) rfl rfl rfl ?_; clear hf fa; intro fa hf
      refine sqv hf (r_assign rfl) rfl rfl rfl ?_; clear hf fa; intro fa hf
      apply wpList_nil
      (try simp only [Exit.then, Exit.inBlock, ↓reduceIte, Nat.reduceEqDiff])
      refine hK5 _ _ ?_
      refine wp_ret ?_
      (try simp only [Exit.then, Exit.inBlock])
      refine ret3 hf rfl rfl rfl rfl ?_
      rw [piece_no (.inr ⟨by omega, by have h := hqt13_2; omega⟩)]; exact ⟨rfl, hb⟩
    · have hqt13_2b := hqt13_2
      replace hqt13_2 := Bool.eq_false_iff.1 hqt13_2
      try simp only [ne_eq, decide_eq_true_eq, Bool.and_eq_true, Bool.or_eq_true, Bool.not_eq_true', decide_eq_false_iff_not] at hqt13_2
      refine wp_skip ?_
      (try simp only [Exit.then, Exit.inBlock, ↓reduceIte, Nat.reduceEqDiff])
      refine hK2 _ _ ?_
      refine wp_seq_k (fun K6 hK6 => ?_)
      refine wp_region_lit ?_
      refine sqv hf (r_assign rfl) rfl rfl rfl ?_; clear hf fa; intro fa hf
      refine sqv hf (r_assign rfl) rfl rfl rfl ?_; clear hf fa; intro fa hf
      apply wpList_nil
      (try simp only [Exit.then, Exit.inBlock, ↓reduceIte, Nat.reduceEqDiff])
      refine hK6 _ _ ?_
      refine wp_seq_k (fun K7 hK7 => ?_)
      refine wp_block ?_
      refine wp_loop_k (fun mq fa wr => ∃ (i : Nat) (q : Bool), mq = s.size - i ∧ Fr 42 fa [(0, (.string s)), (5, (.bool q)), (6, (.int .i64 ((i : Nat) : Int)))] ∧ Below w.heap.size w wr ∧ (1 ≤ i) ∧ (i ≤ s.size) ∧ (scanF false ((bl s).drop 1) = (((bl s).drop 1).take (i - 1) ++ (scanF q ((bl s).drop i)).1, (scanF q ((bl s).drop i)).2))) ?_ ?_
      · skip
        exact ⟨_, 1, false, rfl, hf.sub ⟨rfl, rfl, (some_int (by first | rfl | omega)), trivial⟩, hb, by omega, by omega, (by simp)⟩
      · skip
        clear hf fa; intro mq1 fa w1 hI KL1 hKL1
        clear hb
        obtain ⟨i, q, hmq1, hf, hb, hi, hi2, Hs⟩ := hI
        refine wp_seq_k (fun K8 hK8 => ?_)
        refine wp_seq_k (fun K9 hK9 => ?_)
        refine wp_region_lit ?_
        refine sqv hf (r_move rfl) rfl rfl rfl ?_; clear hf fa; intro fa hf
        refine sqv hf (r_move rfl) rfl rfl rfl ?_; clear hf fa; intro fa hf
        refine sqv hf (r_lens rfl Try.underlying9) rfl rfl rfl ?_; clear hf fa; intro fa hf
        refine sqv hf (r_lt rfl rfl) rfl rfl rfl ?_; clear hf fa; intro fa hf
        refine sqv hf (r_move rfl) rfl rfl rfl ?_; clear hf fa; intro fa hf
        refine sqgT (act := (decide (((i : Nat) : Int) < ((s.size : Nat) : Int)))) (ag := true) (c := (decide (((i : Nat) : Int) < ((s.size : Nat) : Int)))) (v := (.bool q)) hf rfl rfl rfl (fun hact => (r_move rfl)) rfl rfl ?_; clear hf fa; intro fa hf
        refine sqgT (act := (decide (((i : Nat) : Int) < ((s.size : Nat) : Int)))) (ag := true) (c := (decide (((i : Nat) : Int) < ((s.size : Nat) : Int)))) (v := (.bool q)) hf rfl rfl rfl (fun hact => (r_move (gb_ev hact rfl))) rfl rfl ?_; clear hf fa; intro fa hf
        refine sqgF (act := ((decide (((i : Nat) : Int) < ((s.size : Nat) : Int))) && !q)) (ag := (decide (((i : Nat) : Int) < ((s.size : Nat) : Int)))) (c := q) (v := (.string s)) hf rfl rfl rfl (fun hact => (r_move rfl)) rfl rfl ?_; clear hf fa; intro fa hf
        refine sqgF (act := ((decide (((i : Nat) : Int) < ((s.size : Nat) : Int))) && !q)) (ag := (decide (((i : Nat) : Int) < ((s.size : Nat) : Int)))) (c := q) (v := (.int .i64 ((i : Nat) : Int))) hf rfl rfl rfl (fun hact => (r_move rfl)) rfl rfl ?_; clear hf fa; intro fa hf
        refine sqgF (act := ((decide (((i : Nat) : Int) < ((s.size : Nat) : Int))) && !q)) (ag := (decide (((i : Nat) : Int) < ((s.size : Nat) : Int)))) (c := q) (v := (.int .u8 ((sbt s i : Nat) : Int))) hf rfl rfl rfl (fun hact => (by have hact0 := hact; (try simp only [Bool.and_eq_true, Bool.not_eq_true', Bool.or_eq_false_iff, Bool.or_eq_true, Bool.and_eq_false_iff, ne_eq, decide_eq_true_eq, decide_eq_false_iff_not] at hact0); exact (r_sindexD (j := i) (gb_ev hact rfl) (gb_ev hact rfl) Try.underlying9 rfl (by omega)))) rfl rfl ?_; clear hf fa; intro fa hf
        refine sqgF (act := ((decide (((i : Nat) : Int) < ((s.size : Nat) : Int))) && !q)) (ag := (decide (((i : Nat) : Int) < ((s.size : Nat) : Int)))) (c := q) (v := (.bool (decide (((sbt s i : Nat) : Int) ≠ (32 : Int))))) hf rfl rfl rfl (fun hact => (r_ne (gb_ev hact rfl) rfl)) rfl rfl ?_; clear hf fa; intro fa hf
        refine sqgT (act := (decide (((i : Nat) : Int) < ((s.size : Nat) : Int)))) (ag := true) (c := (decide (((i : Nat) : Int) < ((s.size : Nat) : Int)))) (v := (.bool (q || (decide (((sbt s i : Nat) : Int) ≠ (32 : Int)))))) hf rfl rfl rfl (fun hact => (r_pickO2 (q := (decide (((i : Nat) : Int) < ((s.size : Nat) : Int)))) (b := q) (e := (decide (((sbt s i : Nat) : Int) ≠ (32 : Int)))) hact rfl rfl rfl)) rfl rfl ?_; clear hf fa; intro fa hf
        refine sqv hf (r_pickA (b := (decide (((i : Nat) : Int) < ((s.size : Nat) : Int)))) (e := (q || (decide (((sbt s i : Nat) : Int) ≠ (32 : Int))))) rfl rfl rfl) rfl rfl rfl ?_; clear hf fa; intro fa hf
        apply wpList_nil
        (try simp only [Exit.then, Exit.inBlock, ↓reduceIte, Nat.reduceEqDiff])
        refine hK9 _ _ ?_
        refine wp_cond_split (t := ((decide (((i : Nat) : Int) < ((s.size : Nat) : Int))) && (q || (decide (((sbt s i : Nat) : Int) ≠ (32 : Int)))))) (hf.ev rfl) (fun hqt27_1 => ?_) (fun hqt27_1 => ?_)
        · have hqt27_1b := hqt27_1
          try simp only [decide_eq_true_eq, Bool.and_eq_true, Bool.or_eq_true, Bool.not_eq_true', decide_eq_false_iff_not, ne_eq, Bool.not_eq_true] at hqt27_1
          refine wp_skip ?_
          (try simp only [Exit.then, Exit.inBlock, ↓reduceIte, Nat.reduceEqDiff])
          refine hK8 _ _ ?_
          refine wp_seq_k (fun K10 hK10 => ?_)
          refine wp_block ?_
          refine wp_seq_k (fun K11 hK11 => ?_)
          refine wp_region_lit ?_
          refine sqv hf (r_move rfl) rfl rfl rfl ?_; clear hf fa; intro fa hf
          refine sqv hf (r_move rfl) rfl rfl rfl ?_; clear hf fa; intro fa hf
          refine sqv hf (r_sindexD (j := i) rfl rfl Try.underlying9 rfl (by omega)) rfl rfl rfl ?_; clear hf fa; intro fa hf
          refine sqv hf (r_eq rfl rfl) rfl rfl rfl ?_; clear hf fa; intro fa hf
          apply wpList_nil
          (try simp only [Exit.then, Exit.inBlock, ↓reduceIte, Nat.reduceEqDiff])
          refine hK11 _ _ ?_
          refine wp_cond_split (t := (decide (((sbt s i : Nat) : Int) = (34 : Int)))) (hf.ev rfl) (fun hqt33_1 => ?_) (fun hqt33_1 => ?_)
          · have hqt33_1b := hqt33_1
            try simp only [decide_eq_true_eq, Bool.and_eq_true, Bool.or_eq_true, Bool.not_eq_true', decide_eq_false_iff_not, ne_eq, Bool.not_eq_true] at hqt33_1
            refine wp_region_lit ?_
            refine sqv hf (r_move rfl) rfl rfl rfl ?_; clear hf fa; intro fa hf
            refine sqv hf (r_not rfl) rfl rfl rfl ?_; clear hf fa; intro fa hf
            refine sqv hf (r_assign rfl) rfl rfl rfl ?_; clear hf fa; intro fa hf
            apply wpList_nil
            (try simp only [Exit.then, Exit.inBlock, ↓reduceIte, Nat.reduceEqDiff])
            refine hK10 _ _ ?_
            refine wp_region_lit ?_
            refine sqv hf (r_move rfl) rfl rfl rfl ?_; clear hf fa; intro fa hf
            refine sqv hf (r_add (C := (((i : Nat) : Int) + (1 : Int))) rfl rfl (by rw [IntKind.wrap_i64]; omega)) rfl rfl rfl ?_; clear hf fa; intro fa hf
            refine sqv hf (r_assign rfl) rfl rfl rfl ?_; clear hf fa; intro fa hf
            apply wpList_nil
            (try simp only [Exit.then, Exit.inBlock, ↓reduceIte, Nat.reduceEqDiff])
            have hn9 : ¬ (sbt s i = 32 ∧ q = false) := by
              rintro ⟨e1, e2⟩
              rcases hqt27_1.2 with h | h
              · rw [e2] at h; cases h
              · omega
            refine hKL1 _ _ _ (by omega) ⟨(i + 1), (!q), rfl, hf.sub ⟨rfl, rfl, (some_int (by first | rfl | omega)), trivial⟩, hb, by omega, by omega, (by rw [Hs, bl_dropc s i (by omega), scan_go hn9, if_pos (by have h := hqt33_1; omega), show i + 1 - 1 = (i - 1) + 1 by omega, List.take_add_one, List.getElem?_drop, show 1 + (i - 1) = i by omega, bl_get (by omega)]; simp)⟩
          · have hqt33_1b := hqt33_1
            replace hqt33_1 := Bool.eq_false_iff.1 hqt33_1
            try simp only [ne_eq, decide_eq_true_eq, Bool.and_eq_true, Bool.or_eq_true, Bool.not_eq_true', decide_eq_false_iff_not] at hqt33_1
            refine wp_skip ?_
            (try simp only [Exit.then, Exit.inBlock, ↓reduceIte, Nat.reduceEqDiff])
            refine hK10 _ _ ?_
            refine wp_region_lit ?_
            refine sqv hf (r_move rfl) rfl rfl rfl ?_; clear hf fa; intro fa hf
            refine sqv hf (r_add (C := (((i : Nat) : Int) + (1 : Int))) rfl rfl (by rw [IntKind.wrap_i64]; omega)) rfl rfl rfl ?_; clear hf fa; intro fa hf
            refine sqv hf (r_assign rfl) rfl rfl rfl ?_; clear hf fa; intro fa hf
            apply wpList_nil
            (try simp only [Exit.then, Exit.inBlock, ↓reduceIte, Nat.reduceEqDiff])
            have hn9 : ¬ (sbt s i = 32 ∧ q = false) := by
              rintro ⟨e1, e2⟩
              rcases hqt27_1.2 with h | h
              · rw [e2] at h; cases h
              · omega
            refine hKL1 _ _ _ (by omega) ⟨(i + 1), q, rfl, hf.sub ⟨rfl, rfl, (some_int (by first | rfl | omega)), trivial⟩, hb, by omega, by omega, (by rw [Hs, bl_dropc s i (by omega), scan_go hn9, if_neg (by have h := hqt33_1; omega), show i + 1 - 1 = (i - 1) + 1 by omega, List.take_add_one, List.getElem?_drop, show 1 + (i - 1) = i by omega, bl_get (by omega)]; simp)⟩
        · have hqt27_1b := hqt27_1
          replace hqt27_1 := Bool.eq_false_iff.1 hqt27_1
          try simp only [ne_eq, decide_eq_true_eq, Bool.and_eq_true, Bool.or_eq_true, Bool.not_eq_true', decide_eq_false_iff_not] at hqt27_1
          refine wp_exit ?_
          (try simp only [Exit.then, Exit.inBlock, ↓reduceIte, Nat.reduceEqDiff])
          refine hK7 _ _ ?_
          refine wp_seq_k (fun K12 hK12 => ?_)
          refine wp_region_un (fun wq => Below w1.heap.size w1 wq) (fun w w' => Below w.heap.size w w')
            (fun V => [(fun x _ => x = (.string s)), (fun x _ => x = (.int .i64 ((i : Nat) : Int))), (fun x _ => x = (.string (s.extract 1 i))), (fun x _ => x = (.string s)), (fun x _ => x = (.int .i64 ((i : Nat) : Int))), (fun x _ => x = (.string (s.extract i s.size))), (fun x _ => x = (.string (s.extract 1 i))), (fun x _ => x = (.string (s.extract i s.size))), (fun x _ => x = (.bool true))])
            []
            [[], [], [0, 1], [], [], [3, 4], [0, 1, 2], [0, 1, 2, 3, 4, 5, 6], [0, 1, 2, 3, 4, 5, 6, 7]]
            hf (by kernel_rfl) (by kernel_rfl) (fun _ => rfl) ((Below.refl _ _).drew) (fun a b h1 h2 => h1.trans (h2.mono h1.size)) (fun _ _ h => h.size) (fun V => ⟨kept_eq, kept_eq, kept_eq, kept_eq, kept_eq, kept_eq, kept_eq, kept_eq, kept_eq, trivial⟩) (fun _ _ _ _ _ => rfl) ?_ ?_
          · skip
            intro V
            refine ⟨fun wu0 hC hd => ?_, ?_⟩
            · clear hd
              replace hb := hb.trans (hC.mono hb.size)
              exact Runs.does (r_move rfl) ⟨Below.refl _ _, rfl, nofr rfl⟩
            refine ⟨fun wu1 hC hd => ?_, ?_⟩
            · clear hd
              replace hb := hb.trans (hC.mono hb.size)
              exact Runs.does (r_move rfl) ⟨Below.refl _ _, rfl, nofr rfl⟩
            refine ⟨fun wu2 hC hd => ?_, ?_⟩
            · obtain ⟨h0, h1, _⟩ := hd
              skip
              skip
              replace h0 : V 0 = (.string s) := h0
              replace h1 : V 1 = (.int .i64 ((i : Nat) : Int)) := h1
              replace hb := hb.trans (hC.mono hb.size)
              exact Runs.does (r_sslice (a := 1) (b := i) (k1 := .i64) (k2 := .i64) (A := (1 : Int)) (B := ((i : Nat) : Int)) (congrArg some h0) Try.underlying9 (.inr ⟨_, rfl, rfl, rfl⟩) (.inr ⟨_, rfl, (congrArg some h1), rfl⟩) (by omega) (by omega)) ⟨Below.refl _ _, rfl, nofr rfl⟩
            refine ⟨fun wu3 hC hd => ?_, ?_⟩
            · clear hd
              replace hb := hb.trans (hC.mono hb.size)
              exact Runs.does (r_move rfl) ⟨Below.refl _ _, rfl, nofr rfl⟩
            refine ⟨fun wu4 hC hd => ?_, ?_⟩
            · clear hd
              replace hb := hb.trans (hC.mono hb.size)
              exact Runs.does (r_move rfl) ⟨Below.refl _ _, rfl, nofr rfl⟩
            refine ⟨fun wu5 hC hd => ?_, ?_⟩
            · obtain ⟨h3, h4, _⟩ := hd
              skip
              skip
              replace h3 : V 3 = (.string s) := h3
              replace h4 : V 4 = (.int .i64 ((i : Nat) : Int)) := h4
              replace hb := hb.trans (hC.mono hb.size)
              exact Runs.does (r_sslice (a := i) (b := s.size) (k1 := .i64) (k2 := .i64) (A := ((i : Nat) : Int)) (B := 0) (congrArg some h3) Try.underlying9 (.inr ⟨_, rfl, (congrArg some h4), rfl⟩) (.inl ⟨rfl, rfl⟩) (by omega) (by omega)) ⟨Below.refl _ _, rfl, nofr rfl⟩
            refine ⟨fun wu6 hC hd => ?_, ?_⟩
            · obtain ⟨h0, h1, h2, _⟩ := hd
              skip
              skip
              skip
              replace h0 : V 0 = (.string s) := h0
              replace h1 : V 1 = (.int .i64 ((i : Nat) : Int)) := h1
              replace h2 : V 2 = (.string (s.extract 1 i)) := h2
              replace hb := hb.trans (hC.mono hb.size)
              exact Runs.does (r_assign (congrArg some h2)) ⟨Below.refl _ _, rfl, nofr rfl⟩
            refine ⟨fun wu7 hC hd => ?_, ?_⟩
            · obtain ⟨h0, h1, h2, h3, h4, h5, h6, _⟩ := hd
              skip
              skip
              skip
              skip
              skip
              skip
              skip
              replace h0 : V 0 = (.string s) := h0
              replace h1 : V 1 = (.int .i64 ((i : Nat) : Int)) := h1
              replace h2 : V 2 = (.string (s.extract 1 i)) := h2
              replace h3 : V 3 = (.string s) := h3
              replace h4 : V 4 = (.int .i64 ((i : Nat) : Int)) := h4
              replace h5 : V 5 = (.string (s.extract i s.size)) := h5
              replace h6 : V 6 = (.string (s.extract 1 i)) := h6
              replace hb := hb.trans (hC.mono hb.size)
              exact Runs.does (r_assign (congrArg some h5)) ⟨Below.refl _ _, rfl, nofr rfl⟩
            refine ⟨fun wu8 hC hd => ?_, ?_⟩
            · obtain ⟨h0, h1, h2, h3, h4, h5, h6, h7, _⟩ := hd
              skip
              skip
              skip
              skip
              skip
              skip
              skip
              skip
              replace h0 : V 0 = (.string s) := h0
              replace h1 : V 1 = (.int .i64 ((i : Nat) : Int)) := h1
              replace h2 : V 2 = (.string (s.extract 1 i)) := h2
              replace h3 : V 3 = (.string s) := h3
              replace h4 : V 4 = (.int .i64 ((i : Nat) : Int)) := h4
              replace h5 : V 5 = (.string (s.extract i s.size)) := h5
              replace h6 : V 6 = (.string (s.extract 1 i)) := h6
              replace h7 : V 7 = (.string (s.extract i s.size)) := h7
              replace hb := hb.trans (hC.mono hb.size)
              exact Runs.does (r_assign rfl) ⟨Below.refl _ _, rfl, nofr rfl⟩
            trivial
          · skip
            clear hf fa; intro V w2 fa he1 hp hnb hf
            have hv0 : V 0 = (.string s) := postsHold_at hp 0 rfl
            have hv1 : V 1 = (.int .i64 ((i : Nat) : Int)) := postsHold_at hp 1 rfl
            have hv2 : V 2 = (.string (s.extract 1 i)) := postsHold_at hp 2 rfl
            have hv3 : V 3 = (.string s) := postsHold_at hp 3 rfl
            have hv4 : V 4 = (.int .i64 ((i : Nat) : Int)) := postsHold_at hp 4 rfl
            have hv5 : V 5 = (.string (s.extract i s.size)) := postsHold_at hp 5 rfl
            have hv6 : V 6 = (.string (s.extract 1 i)) := postsHold_at hp 6 rfl
            have hv7 : V 7 = (.string (s.extract i s.size)) := postsHold_at hp 7 rfl
            have hv8 : V 8 = (.bool true) := postsHold_at hp 8 rfl
            simp only [List.take_succ_cons, List.take_zero, insAll, ins, hv0, hv1, hv2, hv3, hv4, hv5, hv6, hv7, hv8] at hf
            clear hp hnb hv0 hv1 hv2 hv3 hv4 hv5 hv6 hv7 hv8
            replace hb := hb.trans (Below.mono he1 hb.size)
            (try simp only [Exit.then, Exit.inBlock, ↓reduceIte, Nat.reduceEqDiff])
            refine hK12 _ _ ?_
            refine wp_ret ?_
            (try simp only [Exit.then, Exit.inBlock])
            refine ret3 hf rfl rfl rfl rfl ?_
            have he9 : s.size ≤ i ∨ (sbt s i = 32 ∧ q = false) := by
              rcases Nat.lt_or_ge i s.size with h9 | h9
              · right
                have h8 := hqt27_1
                refine ⟨Classical.byContradiction fun e => h8 ⟨by omega, .inr (by omega)⟩, ?_⟩
                cases q with
                | false => rfl
                | true => exact absurd ⟨by omega, .inl rfl⟩ h8
              · exact .inl h9
            rw [piece_out (i := i) (q := q) (by omega) (by omega) hi hi2 Hs he9]; exact ⟨rfl, hb⟩

/-- An operation that is being read, in a block of its own: number b; its slices are its own too. -/
def StP (TY B : Nat) (w : World) (b : Nat) (k : Int) (st : PSt) : Prop := ∃ (aN : Option Addr) (cN : Nat) (aS : Option Addr) (cS : Nat) (aA : Option Addr) (cA : Nat) (aD : Option Addr) (cD : Nat),
  w.heap[b]? = some (.cells #[(.int .i64 k), (.slice aN st.N.length cN), (.slice aS st.S.length cS), (.slice aA st.A.length cA), (.slice aD st.D.length cD)] TY (0, 0)) ∧ Row 1 (vInt .i64) 3 B w (.slice aN st.N.length cN) st.N ∧ Row 1 vStr 9 B w (.slice aS st.S.length cS) st.S ∧ Row 2 vMVal 65 B w (.slice aA st.A.length cA) st.A ∧ Row 1 (vInt .u8) 5 B w (.slice aD st.D.length cD) (nI st.D)

theorem StP.ext {TY B b : Nat} {w w' : World} {k : Int} {st : PSt} (h : StP TY B w b k st) (hb : Below w.heap.size w w') : StP TY B w' b k st := by
  obtain ⟨aN, cN, aS, cS, aA, cA, aD, cD, h1, h2, h3, h4, h5⟩ := h
  exact ⟨aN, cN, aS, cS, aA, cA, aD, cD, blk_ext h1 hb, Row.ext h2 hb, Row.ext h3 hb, Row.ext h4 hb, Row.ext h5 hb⟩
theorem take_n {c : Nat} {p : ByteArray} {st : PSt} (h : c = 110) : takeP c p st = (⟨st.N ++ [(numP (bl p)).1], st.S, st.A, st.D⟩, (numP (bl p)).2) := by unfold takeP; rw [if_pos h]
theorem take_s {c : Nat} {p : ByteArray} {st : PSt} (h : c = 115) : takeP c p st = (⟨st.N, st.S ++ [strN (readP (bl p)).1], st.A, st.D⟩, (readP (bl p)).2) := by unfold takeP; rw [if_neg (by omega), if_pos h]
theorem take_d {c : Nat} {p : ByteArray} {st : PSt} (h : c = 100) : takeP c p st = (⟨st.N, st.S, st.A, (hexP (bl p)).1⟩, (hexP (bl p)).2) := by unfold takeP; rw [if_neg (by omega), if_neg (by omega), if_pos h]
theorem take_a {c : Nat} {p : ByteArray} {st : PSt} (h1 : ¬ c = 110) (h2 : ¬ c = 115) (h3 : ¬ c = 100) : takeP c p st = (⟨st.N, st.S, st.A ++ [(rdV p).1], st.D⟩, (rdV p).2) := by unfold takeP; rw [if_neg h1, if_neg h2, if_neg h3]

theorem readhex_y (p : ByteArray) (w : World) (hp : p.size ≤ 30000) : Calls Try.prog 29 #[.string p] w fun e w' => ∃ v, e = .returned v ∧ ((∃ a c, v = .tuple #[.slice a (hexP (bl p)).1.length c, .bool (hexP (bl p)).2] ∧ Row 1 (vInt .u8) 5 w.heap.size w' (.slice a (hexP (bl p)).1.length c) (nI (hexP (bl p)).1)) ∧ Below w.heap.size w w') := by
  refine (readhex_any p w (by omega)).mono ?_
  rintro e w' ⟨v, rfl, hr, hb⟩
  obtain ⟨a, c, rfl, _, _⟩ := Row.slice hr
  rw [nI_length] at hr
  refine ⟨_, rfl, ⟨a, c, ?_, hr⟩, hb⟩
  rw [nI_length]

set_option maxHeartbeats 1000000 in
set_option maxRecDepth 100000 in
theorem take_x (b c : Nat) (k : Int) (p : ByteArray) (st : PSt) (w0 w : World) (hb : Below w0.heap.size w0 w) (hBb : w0.heap.size ≤ b) (hst : StP 45 w0.heap.size w b k st) (hp : p.size ≤ 30000) (hB : OpB st) : Calls Try.prog 60 #[(.pointer (some ⟨b, 0, none⟩)), (.int .u8 ((c : Nat) : Int)), (.string p)] w fun e w' => ∃ v, e = .returned v ∧ (v = .bool (takeP c p st).2 ∧ StP 45 w0.heap.size w' b k (takeP c p st).1 ∧ Below w0.heap.size w0 w') := by
  obtain ⟨aN, cN, aS, cS, aA, cA, aD, cD, hk, hrN, hrS, hrA, hrD⟩ := hst
  have hBb0 := hBb
  have hnl9 := hB.nl
  have hsl9 := hB.sl
  have hal9 := hB.al
  have hdl9 := hB.dl
  have hcN9 := Row.caps hrN
  have hcS9 := Row.caps hrS
  have hcA9 := Row.caps hrA
  have hcD9 := Row.caps hrD
  have hbw9 : b < w.heap.size := blk_lt hk
  have hap : (st.A ++ [(rdV p).1]).length = st.A.length + 1 := by rw [List.length_append]; rfl
  refine sx_enter (L := [(0, (.pointer (some ⟨b, 0, none⟩))), (1, (.int .u8 ((c : Nat) : Int))), (2, (.string p))]) Try.func60 rfl rfl rfl rfl (fun fa hf => ?_)
  refine wp_seq_k (fun K1 hK1 => ?_)
  refine wp_region_lit ?_
  refine sqv hf (r_assign rfl) rfl rfl rfl ?_; clear hf fa; intro fa hf
  apply wpList_nil
  (try simp only [Exit.then, Exit.inBlock, ↓reduceIte, Nat.reduceEqDiff])
  refine hK1 _ _ ?_
  refine wp_seq_k (fun K2 hK2 => ?_)
  refine wp_seq_k (fun K3 hK3 => ?_)
  refine wp_region_lit ?_
  refine sqv hf (r_move rfl) rfl rfl rfl ?_; clear hf fa; intro fa hf
  apply wpList_nil
  (try simp only [Exit.then, Exit.inBlock, ↓reduceIte, Nat.reduceEqDiff])
  refine hK3 _ _ ?_
  refine wp_block ?_
  refine wp_seq_k (fun K4 hK4 => ?_)
  refine wp_region_lit ?_
  refine sqv hf (r_eq rfl rfl) rfl rfl rfl ?_; clear hf fa; intro fa hf
  refine sqv hf (r_assign rfl) rfl rfl rfl ?_; clear hf fa; intro fa hf
  apply wpList_nil
  (try simp only [Exit.then, Exit.inBlock, ↓reduceIte, Nat.reduceEqDiff])
  refine hK4 _ _ ?_
  refine wp_cond_split (t := (decide (((c : Nat) : Int) = (110 : Int)))) (hf.ev rfl) (fun hqt16_1 => ?_) (fun hqt16_1 => ?_)
  · have hqt16_1b := hqt16_1
    try simp only [decide_eq_true_eq, Bool.and_eq_true, Bool.or_eq_true, Bool.not_eq_true', decide_eq_false_iff_not, ne_eq, Bool.not_eq_true] at hqt16_1
    refine wp_seq_k (fun K5 hK5 => ?_)
    refine wp_region_lit ?_
    refine sqv hf (r_move rfl) rfl rfl rfl ?_; clear hf fa; intro fa hf
    refine sqdt hf (d_callB (vs := [(.string p)]) rfl Try.func25 (by kernel_rfl) (by kernel_rfl) (number_any p _ (by omega))) rfl rfl rfl ?_; clear hf fa; rintro fa _ w1 ⟨rfl, he1⟩ hf
    replace hk := blk_ext hk he1
    replace hrN := Row.ext hrN he1
    replace hrS := Row.ext hrS he1
    replace hrA := Row.ext hrA he1
    replace hrD := Row.ext hrD he1
    replace hb := hb.trans (Below.mono he1 hb.size)
    refine sqv hf (r_move rfl) rfl rfl rfl ?_; clear hf fa; intro fa hf
    refine sqv hf (r_extract rfl (i := 0) rfl) rfl rfl rfl ?_; clear hf fa; intro fa hf
    refine sqv hf (r_extract rfl (i := 1) rfl) rfl rfl rfl ?_; clear hf fa; intro fa hf
    refine sqv hf (r_assign rfl) rfl rfl rfl ?_; clear hf fa; intro fa hf
    refine sqv hf (r_assign rfl) rfl rfl rfl ?_; clear hf fa; intro fa hf
    apply wpList_nil
    (try simp only [Exit.then, Exit.inBlock, ↓reduceIte, Nat.reduceEqDiff])
    refine hK5 _ _ ?_
    refine wp_seq_k (fun K6 hK6 => ?_)
    refine wp_region_lit ?_
    refine sqv hf (r_move rfl) rfl rfl rfl ?_; clear hf fa; intro fa hf
    refine sqv hf (r_move rfl) rfl rfl rfl ?_; clear hf fa; intro fa hf
    refine sqv hf (r_nilCheck rfl) rfl rfl rfl ?_; clear hf fa; intro fa hf
    refine sqv hf (r_fa rfl Try.underlying45 (f := 1) (q := 1) rfl (by kernel_rfl) rfl) rfl rfl rfl ?_; clear hf fa; intro fa hf
    refine sqv hf (r_load (v := (.slice aN st.N.length cN)) rfl Try.underlying41 rfl (cell_blk hk rfl)) rfl rfl rfl ?_; clear hf fa; intro fa hf
    refine sqv hf (r_move rfl) rfl rfl rfl ?_; clear hf fa; intro fa hf
    refine sqdt hf (d_bslice (z := (.int .i64 (0 : Int))) (sz := 1) (vs := [(0, (.int .i64 ((numP (bl p)).1)))]) (cs := #[(.int .i64 ((numP (bl p)).1))]) rfl Try.underlying41 (by kernel_rfl) rfl (by kernel_rfl)) rfl rfl rfl ?_; clear hf fa; rintro fa _ w2 ⟨b1, rfl, hle1, hk1, he2⟩ hf
    have hBb1 : w0.heap.size ≤ b1 := Nat.le_trans hb.size hle1
    have : b < b1 := Nat.lt_of_lt_of_le (blk_lt hk) hle1
    have hnr1 : (Value.slice aN (st.N.length) cN).ownBlock ≠ some b1 := fun hq => by have := (Row.lt hrN _ hq).2; omega
    have hnl1 : ∀ q, (Value.slice aN (st.N.length) cN).ownBlock = some q → q < b1 := fun q hq => Nat.lt_of_lt_of_le (Row.lt hrN q hq).2 hle1
    replace hk := blk_ext hk he2
    replace hrN := Row.ext hrN he2
    replace hrS := Row.ext hrS he2
    replace hrA := Row.ext hrA he2
    replace hrD := Row.ext hrD he2
    replace hb := hb.trans (Below.mono he2 hb.size)
    have hs1 := Row.rd (by intros; rfl) (Row.of_new (k := 1) (V := (vInt .i64)) (l := [((numP (bl p)).1)]) hk1 (Nat.le_refl _) rfl rfl (Nat.le_of_ble_eq_true rfl))
    refine sqdt hf (d_append (V := (vInt .i64)) (k := 1) (e := 3) (bytes := 8) (z := (.int .i64 (0 : Int))) (news := [((numP (bl p)).1)]) (base := w0.heap.size) (by intros; rfl) (by intro x u hu; simp only [vInt, List.mem_singleton] at hu; subst hu; rfl) rfl rfl Try.underlying41 (by kernel_rfl) rfl rfl rfl hrN hs1 rfl (fun h => by cases h) (by first | omega | (simp only [List.length_cons, List.length_nil, List.length_append, nums_len]; omega)) (by have := hb.size; omega)) rfl rfl rfl ?_; clear hf fa; rintro fa v w3 ⟨hr1, hg1⟩ hf; obtain ⟨ra1, rc1, rfl, hcrc1, hmrc1⟩ := Row.slice hr1
    replace hk := blk_row' hk hg1 (Row.ne_type hrN hk rfl)
    replace hrS := Row.grown' hrS hg1 (Row.ne_row hrS hrN rfl)
    replace hrA := Row.grown' hrA hg1 (Row.ne_row hrA hrN rfl)
    replace hrD := Row.grown' hrD hg1 (Row.ne_row hrD hrN rfl)
    replace hb := hb.trans (row_below hrN hg1 hb.size (by have := hb.size; omega))
    refine sqv hf (r_nilCheck rfl) rfl rfl rfl ?_; clear hf fa; intro fa hf
    refine sqv hf (r_fa rfl Try.underlying45 (f := 1) (q := 1) rfl (by kernel_rfl) rfl) rfl rfl rfl ?_; clear hf fa; intro fa hf
    refine sqn hf (d_storeK (T := 45) (v := (.slice ra1 (((st.N ++ [((numP (bl p)).1)])).length) rc1)) (cs := #[(.int .i64 k), (.slice aN st.N.length cN), (.slice aS st.S.length cS), (.slice aA st.A.length cA), (.slice aD st.D.length cD)]) (cs' := #[(.int .i64 k), (.slice ra1 (((st.N ++ [((numP (bl p)).1)])).length) rc1), (.slice aS st.S.length cS), (.slice aA st.A.length cA), (.slice aD st.D.length cD)]) rfl rfl (by kernel_rfl) (by kernel_rfl) hk (by kernel_rfl) (by kernel_rfl)) rfl rfl ?_; clear hf fa; rintro fa _ w4 ⟨hk2, hg2⟩ hf
    replace hr1 := Row.grown hr1 hg2 (Row.ne_type hr1 hk rfl)
    replace hrS := Row.grown hrS hg2 (Row.ne_type hrS hk rfl)
    replace hrA := Row.grown hrA hg2 (Row.ne_type hrA hk rfl)
    replace hrD := Row.grown hrD hg2 (Row.ne_type hrD hk rfl)
    replace hb := hb.trans (grown_below hg2 hb.size hBb)
    apply wpList_nil
    (try simp only [Exit.then, Exit.inBlock, ↓reduceIte, Nat.reduceEqDiff])
    refine hK6 _ _ ?_
    refine wp_seq_k (fun K7 hK7 => ?_)
    refine wp_region_lit ?_
    refine sqv hf (r_move rfl) rfl rfl rfl ?_; clear hf fa; intro fa hf
    refine sqv hf (r_assign rfl) rfl rfl rfl ?_; clear hf fa; intro fa hf
    apply wpList_nil
    (try simp only [Exit.then, Exit.inBlock, ↓reduceIte, Nat.reduceEqDiff])
    refine hK7 _ _ ?_
    refine wp_ret ?_
    (try simp only [Exit.then, Exit.inBlock])
    refine ret1 hf rfl rfl ?_
    rw [(take_n (by have h := hqt16_1; omega))]; exact ⟨_, rfl, rfl, ⟨ra1, rc1, aS, cS, aA, cA, aD, cD, hk2, hr1, hrS, hrA, hrD⟩, hb⟩
  · have hqt16_1b := hqt16_1
    replace hqt16_1 := Bool.eq_false_iff.1 hqt16_1
    try simp only [ne_eq, decide_eq_true_eq, Bool.and_eq_true, Bool.or_eq_true, Bool.not_eq_true', decide_eq_false_iff_not] at hqt16_1
    refine wp_seq_k (fun K8 hK8 => ?_)
    refine wp_region_lit ?_
    refine sqv hf (r_eq rfl rfl) rfl rfl rfl ?_; clear hf fa; intro fa hf
    refine sqv hf (r_assign rfl) rfl rfl rfl ?_; clear hf fa; intro fa hf
    apply wpList_nil
    (try simp only [Exit.then, Exit.inBlock, ↓reduceIte, Nat.reduceEqDiff])
    refine hK8 _ _ ?_
    refine wp_cond_split (t := (decide (((c : Nat) : Int) = (115 : Int)))) (hf.ev rfl) (fun hqt34_1 => ?_) (fun hqt34_1 => ?_)
    · have hqt34_1b := hqt34_1
      try simp only [decide_eq_true_eq, Bool.and_eq_true, Bool.or_eq_true, Bool.not_eq_true', decide_eq_false_iff_not, ne_eq, Bool.not_eq_true] at hqt34_1
      refine wp_seq_k (fun K9 hK9 => ?_)
      refine wp_region_lit ?_
      refine sqv hf (r_move rfl) rfl rfl rfl ?_; clear hf fa; intro fa hf
      refine sqdt hf (d_callB (vs := [(.string p)]) rfl Try.func87 (by kernel_rfl) (by kernel_rfl) (read_any p _ (by omega))) rfl rfl rfl ?_; clear hf fa; rintro fa _ w5 ⟨rfl, he3⟩ hf
      replace hk := blk_ext hk he3
      replace hrN := Row.ext hrN he3
      replace hrS := Row.ext hrS he3
      replace hrA := Row.ext hrA he3
      replace hrD := Row.ext hrD he3
      replace hb := hb.trans (Below.mono he3 hb.size)
      refine sqv hf (r_move rfl) rfl rfl rfl ?_; clear hf fa; intro fa hf
      refine sqv hf (r_extract rfl (i := 0) rfl) rfl rfl rfl ?_; clear hf fa; intro fa hf
      refine sqv hf (r_extract rfl (i := 1) rfl) rfl rfl rfl ?_; clear hf fa; intro fa hf
      refine sqv hf (r_assign rfl) rfl rfl rfl ?_; clear hf fa; intro fa hf
      refine sqv hf (r_assign rfl) rfl rfl rfl ?_; clear hf fa; intro fa hf
      apply wpList_nil
      (try simp only [Exit.then, Exit.inBlock, ↓reduceIte, Nat.reduceEqDiff])
      refine hK9 _ _ ?_
      refine wp_seq_k (fun K10 hK10 => ?_)
      refine wp_region_lit ?_
      refine sqv hf (r_move rfl) rfl rfl rfl ?_; clear hf fa; intro fa hf
      refine sqv hf (r_move rfl) rfl rfl rfl ?_; clear hf fa; intro fa hf
      refine sqv hf (r_nilCheck rfl) rfl rfl rfl ?_; clear hf fa; intro fa hf
      refine sqv hf (r_fa rfl Try.underlying45 (f := 2) (q := 2) rfl (by kernel_rfl) rfl) rfl rfl rfl ?_; clear hf fa; intro fa hf
      refine sqv hf (r_load (v := (.slice aS st.S.length cS)) rfl Try.underlying32 rfl (cell_blk hk rfl)) rfl rfl rfl ?_; clear hf fa; intro fa hf
      refine sqv hf (r_move rfl) rfl rfl rfl ?_; clear hf fa; intro fa hf
      refine sqdt hf (d_bslice (z := (.string ⟨#[]⟩)) (sz := 1) (vs := [(0, (.string (strN (readP (bl p)).1)))]) (cs := #[(.string (strN (readP (bl p)).1))]) rfl Try.underlying32 (by kernel_rfl) rfl (by kernel_rfl)) rfl rfl rfl ?_; clear hf fa; rintro fa _ w6 ⟨b2, rfl, hle2, hk3, he4⟩ hf
      have hBb2 : w0.heap.size ≤ b2 := Nat.le_trans hb.size hle2
      have : b < b2 := Nat.lt_of_lt_of_le (blk_lt hk) hle2
      have hnr2 : (Value.slice aS (st.S.length) cS).ownBlock ≠ some b2 := fun hq => by have := (Row.lt hrS _ hq).2; omega
      have hnl2 : ∀ q, (Value.slice aS (st.S.length) cS).ownBlock = some q → q < b2 := fun q hq => Nat.lt_of_lt_of_le (Row.lt hrS q hq).2 hle2
      replace hk := blk_ext hk he4
      replace hrN := Row.ext hrN he4
      replace hrS := Row.ext hrS he4
      replace hrA := Row.ext hrA he4
      replace hrD := Row.ext hrD he4
      replace hb := hb.trans (Below.mono he4 hb.size)
      have hs2 := Row.rd (by intros; rfl) (Row.of_new (k := 1) (V := vStr) (l := [(strN (readP (bl p)).1)]) hk3 (Nat.le_refl _) rfl rfl (Nat.le_of_ble_eq_true rfl))
      refine sqdt hf (d_append (V := vStr) (k := 1) (e := 9) (bytes := 16) (z := (.string ⟨#[]⟩)) (news := [(strN (readP (bl p)).1)]) (base := w0.heap.size) (by intros; rfl) (by intro x u hu; simp only [vStr, List.mem_singleton] at hu; subst hu; rfl) rfl rfl Try.underlying32 (by kernel_rfl) rfl rfl rfl hrS hs2 rfl (fun h => by cases h) (by first | omega | (simp only [List.length_cons, List.length_nil, List.length_append, nums_len]; omega)) (by have := hb.size; omega)) rfl rfl rfl ?_; clear hf fa; rintro fa v w7 ⟨hr2, hg3⟩ hf; obtain ⟨ra2, rc2, rfl, hcrc2, hmrc2⟩ := Row.slice hr2
      replace hk := blk_row' hk hg3 (Row.ne_type hrS hk rfl)
      replace hrN := Row.grown' hrN hg3 (Row.ne_row hrN hrS rfl)
      replace hrA := Row.grown' hrA hg3 (Row.ne_row hrA hrS rfl)
      replace hrD := Row.grown' hrD hg3 (Row.ne_row hrD hrS rfl)
      replace hb := hb.trans (row_below hrS hg3 hb.size (by have := hb.size; omega))
      refine sqv hf (r_nilCheck rfl) rfl rfl rfl ?_; clear hf fa; intro fa hf
      refine sqv hf (r_fa rfl Try.underlying45 (f := 2) (q := 2) rfl (by kernel_rfl) rfl) rfl rfl rfl ?_; clear hf fa; intro fa hf
      refine sqn hf (d_storeK (T := 45) (v := (.slice ra2 (((st.S ++ [(strN (readP (bl p)).1)])).length) rc2)) (cs := #[(.int .i64 k), (.slice aN st.N.length cN), (.slice aS st.S.length cS), (.slice aA st.A.length cA), (.slice aD st.D.length cD)]) (cs' := #[(.int .i64 k), (.slice aN st.N.length cN), (.slice ra2 (((st.S ++ [(strN (readP (bl p)).1)])).length) rc2), (.slice aA st.A.length cA), (.slice aD st.D.length cD)]) rfl rfl (by kernel_rfl) (by kernel_rfl) hk (by kernel_rfl) (by kernel_rfl)) rfl rfl ?_; clear hf fa; rintro fa _ w8 ⟨hk4, hg4⟩ hf
      replace hrN := Row.grown hrN hg4 (Row.ne_type hrN hk rfl)
      replace hr2 := Row.grown hr2 hg4 (Row.ne_type hr2 hk rfl)
      replace hrA := Row.grown hrA hg4 (Row.ne_type hrA hk rfl)
      replace hrD := Row.grown hrD hg4 (Row.ne_type hrD hk rfl)
      replace hb := hb.trans (grown_below hg4 hb.size hBb)
      apply wpList_nil
      (try simp only [Exit.then, Exit.inBlock, ↓reduceIte, Nat.reduceEqDiff])
      refine hK10 _ _ ?_
      refine wp_seq_k (fun K11 hK11 => ?_)
      refine wp_region_lit ?_
      refine sqv hf (r_move rfl) rfl rfl rfl ?_; clear hf fa; intro fa hf
      refine sqv hf (r_assign rfl) rfl rfl rfl ?_; clear hf fa; intro fa hf
      apply wpList_nil
      (try simp only [Exit.then, Exit.inBlock, ↓reduceIte, Nat.reduceEqDiff])
      refine hK11 _ _ ?_
      refine wp_ret ?_
      (try simp only [Exit.then, Exit.inBlock])
      refine ret1 hf rfl rfl ?_
      rw [(take_s (by have h := hqt34_1; omega))]; exact ⟨_, rfl, rfl, ⟨aN, cN, ra2, rc2, aA, cA, aD, cD, hk4, hrN, hr2, hrA, hrD⟩, hb⟩
    · have hqt34_1b := hqt34_1
      replace hqt34_1 := Bool.eq_false_iff.1 hqt34_1
      try simp only [ne_eq, decide_eq_true_eq, Bool.and_eq_true, Bool.or_eq_true, Bool.not_eq_true', decide_eq_false_iff_not] at hqt34_1
      refine wp_seq_k (fun K12 hK12 => ?_)
      refine wp_region_lit ?_
      refine sqv hf (r_eq rfl rfl) rfl rfl rfl ?_; clear hf fa; intro fa hf
      refine sqv hf (r_assign rfl) rfl rfl rfl ?_; clear hf fa; intro fa hf
      apply wpList_nil
      (try simp only [Exit.then, Exit.inBlock, ↓reduceIte, Nat.reduceEqDiff])
      refine hK12 _ _ ?_
      refine wp_cond_split (t := (decide (((c : Nat) : Int) = (100 : Int)))) (hf.ev rfl) (fun hqt52_1 => ?_) (fun hqt52_1 => ?_)
      · have hqt52_1b := hqt52_1
        try simp only [decide_eq_true_eq, Bool.and_eq_true, Bool.or_eq_true, Bool.not_eq_true', decide_eq_false_iff_not, ne_eq, Bool.not_eq_true] at hqt52_1
        refine wp_seq_k (fun K13 hK13 => ?_)
        refine wp_region_lit ?_
        refine sqv hf (r_move rfl) rfl rfl rfl ?_; clear hf fa; intro fa hf
        refine sqdt hf (d_callX (vs := [(.string p)]) rfl Try.func29 (by kernel_rfl) (by kernel_rfl) (readhex_y p w hp)) rfl rfl rfl ?_; clear hf fa; rintro fa _ w9 ⟨⟨ra3, rc3, rfl, hr3⟩, he5⟩ hf
        replace hr3 := Row.rebase hr3 hb.size
        replace hk := blk_ext hk he5
        replace hrN := Row.ext hrN he5
        replace hrS := Row.ext hrS he5
        replace hrA := Row.ext hrA he5
        replace hrD := Row.ext hrD he5
        replace hb := hb.trans (Below.mono he5 hb.size)
        refine sqv hf (r_move rfl) rfl rfl rfl ?_; clear hf fa; intro fa hf
        refine sqv hf (r_extract rfl (i := 0) rfl) rfl rfl rfl ?_; clear hf fa; intro fa hf
        refine sqv hf (r_extract rfl (i := 1) rfl) rfl rfl rfl ?_; clear hf fa; intro fa hf
        refine sqv hf (r_assign rfl) rfl rfl rfl ?_; clear hf fa; intro fa hf
        refine sqv hf (r_assign rfl) rfl rfl rfl ?_; clear hf fa; intro fa hf
        apply wpList_nil
        (try simp only [Exit.then, Exit.inBlock, ↓reduceIte, Nat.reduceEqDiff])
        refine hK13 _ _ ?_
        refine wp_seq_k (fun K14 hK14 => ?_)
        refine wp_region_lit ?_
        refine sqv hf (r_move rfl) rfl rfl rfl ?_; clear hf fa; intro fa hf
        refine sqv hf (r_move rfl) rfl rfl rfl ?_; clear hf fa; intro fa hf
        refine sqv hf (r_nilCheck rfl) rfl rfl rfl ?_; clear hf fa; intro fa hf
        refine sqv hf (r_fa rfl Try.underlying45 (f := 4) (q := 4) rfl (by kernel_rfl) rfl) rfl rfl rfl ?_; clear hf fa; intro fa hf
        refine sqn hf (d_storeK (T := 45) (v := (.slice ra3 ((hexP (bl p)).1.length) rc3)) (cs := #[(.int .i64 k), (.slice aN st.N.length cN), (.slice aS st.S.length cS), (.slice aA st.A.length cA), (.slice aD st.D.length cD)]) (cs' := #[(.int .i64 k), (.slice aN st.N.length cN), (.slice aS st.S.length cS), (.slice aA st.A.length cA), (.slice ra3 ((hexP (bl p)).1.length) rc3)]) rfl rfl (by kernel_rfl) (by kernel_rfl) hk (by kernel_rfl) (by kernel_rfl)) rfl rfl ?_; clear hf fa; rintro fa _ w10 ⟨hk5, hg5⟩ hf
        replace hrN := Row.grown hrN hg5 (Row.ne_type hrN hk rfl)
        replace hrS := Row.grown hrS hg5 (Row.ne_type hrS hk rfl)
        replace hrA := Row.grown hrA hg5 (Row.ne_type hrA hk rfl)
        replace hrD := Row.grown hrD hg5 (Row.ne_type hrD hk rfl)
        replace hr3 := Row.grown hr3 hg5 (Row.ne_type hr3 hk rfl)
        replace hb := hb.trans (grown_below hg5 hb.size hBb)
        apply wpList_nil
        (try simp only [Exit.then, Exit.inBlock, ↓reduceIte, Nat.reduceEqDiff])
        refine hK14 _ _ ?_
        refine wp_seq_k (fun K15 hK15 => ?_)
        refine wp_region_lit ?_
        refine sqv hf (r_move rfl) rfl rfl rfl ?_; clear hf fa; intro fa hf
        refine sqv hf (r_assign rfl) rfl rfl rfl ?_; clear hf fa; intro fa hf
        apply wpList_nil
        (try simp only [Exit.then, Exit.inBlock, ↓reduceIte, Nat.reduceEqDiff])
        refine hK15 _ _ ?_
        refine wp_ret ?_
        (try simp only [Exit.then, Exit.inBlock])
        refine ret1 hf rfl rfl ?_
        rw [(take_d (by have h := hqt52_1; omega))]; exact ⟨_, rfl, rfl, ⟨aN, cN, aS, cS, aA, cA, ra3, rc3, hk5, hrN, hrS, hrA, hr3⟩, hb⟩
      · have hqt52_1b := hqt52_1
        replace hqt52_1 := Bool.eq_false_iff.1 hqt52_1
        try simp only [ne_eq, decide_eq_true_eq, Bool.and_eq_true, Bool.or_eq_true, Bool.not_eq_true', decide_eq_false_iff_not] at hqt52_1
        refine wp_skip ?_
        (try simp only [Exit.then, Exit.inBlock, ↓reduceIte, Nat.reduceEqDiff])
        refine hK2 _ _ ?_
        refine wp_seq_k (fun K16 hK16 => ?_)
        refine wp_region_lit ?_
        refine sqv hf (r_move rfl) rfl rfl rfl ?_; clear hf fa; intro fa hf
        refine sqdt hf (d_callB (vs := [(.string p)]) rfl Try.func27 (by kernel_rfl) (by kernel_rfl) (readvalue_any p _ (by omega))) rfl rfl rfl ?_; clear hf fa; rintro fa _ w11 ⟨rfl, he6⟩ hf
        replace hk := blk_ext hk he6
        replace hrN := Row.ext hrN he6
        replace hrS := Row.ext hrS he6
        replace hrA := Row.ext hrA he6
        replace hrD := Row.ext hrD he6
        replace hb := hb.trans (Below.mono he6 hb.size)
        refine sqv hf (r_move rfl) rfl rfl rfl ?_; clear hf fa; intro fa hf
        refine sqv hf (r_extract rfl (i := 0) rfl) rfl rfl rfl ?_; clear hf fa; intro fa hf
        refine sqv hf (r_extract rfl (i := 1) rfl) rfl rfl rfl ?_; clear hf fa; intro fa hf
        refine sqdt hf (d_alloc (z := (.agg #[(.int .u8 (0 : Int)), (.int .u64 (0 : Int))])) (cs := #[(.int .u8 (0 : Int)), (.int .u64 (0 : Int))]) (by kernel_rfl) rfl) rfl rfl rfl ?_; clear hf fa; rintro fa _ w12 ⟨b3, rfl, hle3, hk6, he7⟩ hf
        have hBb3 : w0.heap.size ≤ b3 := Nat.le_trans hb.size hle3
        have : b < b3 := Nat.lt_of_lt_of_le (blk_lt hk) hle3
        have hnr3 : (Value.slice aA (st.A.length) cA).ownBlock ≠ some b3 := fun hq => by have := (Row.lt hrA _ hq).2; omega
        have hnl3 : ∀ q, (Value.slice aA (st.A.length) cA).ownBlock = some q → q < b3 := fun q hq => Nat.lt_of_lt_of_le (Row.lt hrA q hq).2 hle3
        replace hk := blk_ext hk he7
        replace hrN := Row.ext hrN he7
        replace hrS := Row.ext hrS he7
        replace hrA := Row.ext hrA he7
        replace hrD := Row.ext hrD he7
        replace hb := hb.trans (Below.mono he7 hb.size)
        refine sqn hf (d_storeK (T := 65) (v := (.agg #[(.int .u8 ((rdV p).1.1)), (.int .u64 ((rdV p).1.2.1))])) (cs := #[(.int .u8 (0 : Int)), (.int .u64 (0 : Int))]) (cs' := #[(.int .u8 ((rdV p).1.1)), (.int .u64 ((rdV p).1.2.1))]) rfl rfl (by kernel_rfl) (by kernel_rfl) hk6 (by kernel_rfl) (by kernel_rfl)) rfl rfl ?_; clear hf fa; rintro fa _ w13 ⟨hk7, hg6⟩ hf
        replace hk := blk_grown hk hg6 (by omega)
        replace hrN := Row.grown hrN hg6 (Row.ne_type hrN hk6 rfl)
        replace hrS := Row.grown hrS hg6 (Row.ne_type hrS hk6 rfl)
        replace hrA := Row.grown hrA hg6 hnr3
        replace hrD := Row.grown hrD hg6 (Row.ne_type hrD hk6 rfl)
        replace hb := hb.trans (grown_below hg6 hb.size hBb3)
        refine sqv hf (r_assign rfl) rfl rfl rfl ?_; clear hf fa; intro fa hf
        apply wpList_nil
        (try simp only [Exit.then, Exit.inBlock, ↓reduceIte, Nat.reduceEqDiff])
        refine hK16 _ _ ?_
        refine wp_seq_k (fun K17 hK17 => ?_)
        have hlW : b < w13.heap.size := blk_lt hk
        have hlV := fun q (hq : ((Value.slice aA st.A.length cA)).ownBlock = some q) => (Row.lt hrA q hq).2
        refine wp_region_vnT 8 (fun S wq => GO w13 b (Value.slice aA st.A.length cA) wq ∧ (¬ S 7 → Row 2 vMVal 65 (w0.heap.size) wq (Value.slice aA st.A.length cA) st.A) ∧ (¬ S 4 → wq.heap[b]? = some (.cells #[(.int .i64 k), (.slice aN st.N.length cN), (.slice aS st.S.length cS), (.slice aA st.A.length cA), (.slice aD st.D.length cD)] 45 (0, 0))) ∧ (S 4 → wq.heap[b]? = some (.cells #[(.int .i64 k), (.slice aN st.N.length cN), (.slice aS st.S.length cS), (.slice aA st.A.length cA), (.slice aD st.D.length cD)] 45 (0, 0))))
          (fun V S => [(fun x _ => x = (.pointer (some ⟨b, 0, none⟩))), (fun x _ => x = (.pointer (some ⟨b, 0, none⟩))), (fun x _ => x = (.pointer (some ⟨b, 0, none⟩))), (fun x _ => x = (.pointer (some ⟨b, 3, none⟩))), (fun x _ => x = (.slice aA st.A.length cA)), (fun x _ => x = (.agg #[(.int .u8 ((rdV p).1.1)), (.int .u64 ((rdV p).1.2.1))])), (fun x wq => ∃ b, x = .slice (some ⟨b, 0, none⟩) 1 1 ∧ w13.heap.size ≤ b ∧ wq.heap[b]? = some (.cells #[(.int .u8 ((rdV p).1.1)), (.int .u64 ((rdV p).1.2.1))] 65 (0, 0))), (fun x wq => ∃ a c, x = .slice a (st.A ++ [(rdV p).1]).length c ∧ Row 2 vMVal 65 (w0.heap.size) wq x (st.A ++ [(rdV p).1]))])
          [6]
          [[], [], [1], [2], [3], [], [5], [4, 6], [], [], []]
          hf (by kernel_rfl) (by kernel_rfl) (by kernel_rfl) (fun _ _ => rfl) (fun S hS => ⟨(GO.refl _ _ _).below (Below.refl _ _).drew, fun _ => Row.ext hrA (Below.refl _ _).drew, fun _ => blk_ext hk (Below.refl _ _).drew, fun h => absurd h (hS _)⟩) (fun _ _ _ _ _ _ => rfl) ?_ ?_
        · skip
          intro V
          have hKP : ∀ (i : Nat) (S : Nat → Prop) (wk : World), ∀ j v w', (((fun (S : Nat → Prop) => ([(fun x _ => x = (.pointer (some ⟨b, 0, none⟩))), (fun x _ => x = (.pointer (some ⟨b, 0, none⟩))), (fun x _ => x = (.pointer (some ⟨b, 0, none⟩))), (fun x _ => x = (.pointer (some ⟨b, 3, none⟩))), (fun x _ => x = (.slice aA st.A.length cA)), (fun x _ => x = (.agg #[(.int .u8 ((rdV p).1.1)), (.int .u64 ((rdV p).1.2.1))])), (fun x wq => ∃ b, x = .slice (some ⟨b, 0, none⟩) 1 1 ∧ w13.heap.size ≤ b ∧ wq.heap[b]? = some (.cells #[(.int .u8 ((rdV p).1.1)), (.int .u64 ((rdV p).1.2.1))] 65 (0, 0))), (fun x wq => ∃ a c, x = .slice a (st.A ++ [(rdV p).1]).length c ∧ Row 2 vMVal 65 (w0.heap.size) wq x (st.A ++ [(rdV p).1]))] : List (Value → World → Prop))) S).getD j (fun _ _ => True)) v wk → Below wk.heap.size wk w' → (((fun (S : Nat → Prop) => ([(fun x _ => x = (.pointer (some ⟨b, 0, none⟩))), (fun x _ => x = (.pointer (some ⟨b, 0, none⟩))), (fun x _ => x = (.pointer (some ⟨b, 0, none⟩))), (fun x _ => x = (.pointer (some ⟨b, 3, none⟩))), (fun x _ => x = (.slice aA st.A.length cA)), (fun x _ => x = (.agg #[(.int .u8 ((rdV p).1.1)), (.int .u64 ((rdV p).1.2.1))])), (fun x wq => ∃ b, x = .slice (some ⟨b, 0, none⟩) 1 1 ∧ w13.heap.size ≤ b ∧ wq.heap[b]? = some (.cells #[(.int .u8 ((rdV p).1.1)), (.int .u64 ((rdV p).1.2.1))] 65 (0, 0))), (fun x wq => ∃ a c, x = .slice a (st.A ++ [(rdV p).1]).length c ∧ Row 2 vMVal 65 (w0.heap.size) wq x (st.A ++ [(rdV p).1]))] : List (Value → World → Prop))) (ad i S)).getD j (fun _ _ => True)) v w' := by
            intro i S wk j v w' h hB
            match j with
            | 0 =>
              exact h
            | 1 =>
              exact h
            | 2 =>
              exact h
            | 3 =>
              exact h
            | 4 =>
              exact h
            | 5 =>
              exact h
            | 6 =>
              obtain ⟨b, e1, e2, e3⟩ := h
              exact ⟨b, e1, e2, blk_ext e3 hB⟩
            | 7 =>
              exact keptApp _ _ _ h hB
            | _ + 8 => trivial
          refine ⟨fun S wu0 hC hS hd hi => ?_, ?_⟩
          · skip
            replace hC : GO w13 b (Value.slice aA st.A.length cA) wu0 ∧ (¬ S 7 → Row 2 vMVal 65 (w0.heap.size) wu0 (Value.slice aA st.A.length cA) st.A) ∧ (¬ S 4 → wu0.heap[b]? = some (.cells #[(.int .i64 k), (.slice aN st.N.length cN), (.slice aS st.S.length cS), (.slice aA st.A.length cA), (.slice aD st.D.length cD)] 45 (0, 0))) ∧ (S 4 → wu0.heap[b]? = some (.cells #[(.int .i64 k), (.slice aN st.N.length cN), (.slice aS st.S.length cS), (.slice aA st.A.length cA), (.slice aD st.D.length cD)] 45 (0, 0))) := hC
            refine uv_plain (C := (fun S wq => GO w13 b (Value.slice aA st.A.length cA) wq ∧ (¬ S 7 → Row 2 vMVal 65 (w0.heap.size) wq (Value.slice aA st.A.length cA) st.A) ∧ (¬ S 4 → wq.heap[b]? = some (.cells #[(.int .i64 k), (.slice aN st.N.length cN), (.slice aS st.S.length cS), (.slice aA st.A.length cA), (.slice aD st.D.length cD)] 45 (0, 0))) ∧ (S 4 → wq.heap[b]? = some (.cells #[(.int .i64 k), (.slice aN st.N.length cN), (.slice aS st.S.length cS), (.slice aA st.A.length cA), (.slice aD st.D.length cD)] 45 (0, 0))))) (hKP 0 S wu0) (fun w' h1 h2 => ⟨h1.1.below h2, fun hn => Row.ext (h1.2.1 (fun hs => hn (.inr hs))) h2, fun hn => blk_ext (h1.2.2.1 (fun hs => hn (.inr hs))) h2, fun hs => blk_ext (h1.2.2.2 (by rcases hs with e | hs; exact absurd e (by decide); exact hs)) h2⟩) hC hS ?_
            obtain ⟨hC, hCr, hCo, hCn⟩ := hC
            replace hk7 := blk_go hk7 hC (by omega) hnr3
            replace hrN := Row.go hrN hC (Row.ne_type hrN hk rfl) (Row.ne_row hrN hrA rfl)
            replace hrS := Row.go hrS hC (Row.ne_type hrS hk rfl) (Row.ne_row hrS hrA rfl)
            replace hrD := Row.go hrD hC (Row.ne_type hrD hk rfl) (Row.ne_row hrD hrA rfl)
            have hKb : wu0.heap[b]? = some (.cells #[(.int .i64 k), (.slice aN st.N.length cN), (.slice aS st.S.length cS), (.slice aA st.A.length cA), (.slice aD st.D.length cD)] 45 (0, 0)) := by by_cases hz : S 4; exact hCn hz; exact hCo hz
            replace hk := hKb
            exact Runs.does (r_move rfl) ⟨Below.refl _ _, rfl, nofr rfl⟩
          refine ⟨fun S wu1 hC hS hd hi => ?_, ?_⟩
          · skip
            replace hC : GO w13 b (Value.slice aA st.A.length cA) wu1 ∧ (¬ S 7 → Row 2 vMVal 65 (w0.heap.size) wu1 (Value.slice aA st.A.length cA) st.A) ∧ (¬ S 4 → wu1.heap[b]? = some (.cells #[(.int .i64 k), (.slice aN st.N.length cN), (.slice aS st.S.length cS), (.slice aA st.A.length cA), (.slice aD st.D.length cD)] 45 (0, 0))) ∧ (S 4 → wu1.heap[b]? = some (.cells #[(.int .i64 k), (.slice aN st.N.length cN), (.slice aS st.S.length cS), (.slice aA st.A.length cA), (.slice aD st.D.length cD)] 45 (0, 0))) := hC
            refine uv_plain (C := (fun S wq => GO w13 b (Value.slice aA st.A.length cA) wq ∧ (¬ S 7 → Row 2 vMVal 65 (w0.heap.size) wq (Value.slice aA st.A.length cA) st.A) ∧ (¬ S 4 → wq.heap[b]? = some (.cells #[(.int .i64 k), (.slice aN st.N.length cN), (.slice aS st.S.length cS), (.slice aA st.A.length cA), (.slice aD st.D.length cD)] 45 (0, 0))) ∧ (S 4 → wq.heap[b]? = some (.cells #[(.int .i64 k), (.slice aN st.N.length cN), (.slice aS st.S.length cS), (.slice aA st.A.length cA), (.slice aD st.D.length cD)] 45 (0, 0))))) (hKP 1 S wu1) (fun w' h1 h2 => ⟨h1.1.below h2, fun hn => Row.ext (h1.2.1 (fun hs => hn (.inr hs))) h2, fun hn => blk_ext (h1.2.2.1 (fun hs => hn (.inr hs))) h2, fun hs => blk_ext (h1.2.2.2 (by rcases hs with e | hs; exact absurd e (by decide); exact hs)) h2⟩) hC hS ?_
            obtain ⟨hC, hCr, hCo, hCn⟩ := hC
            replace hk7 := blk_go hk7 hC (by omega) hnr3
            replace hrN := Row.go hrN hC (Row.ne_type hrN hk rfl) (Row.ne_row hrN hrA rfl)
            replace hrS := Row.go hrS hC (Row.ne_type hrS hk rfl) (Row.ne_row hrS hrA rfl)
            replace hrD := Row.go hrD hC (Row.ne_type hrD hk rfl) (Row.ne_row hrD hrA rfl)
            have hKb : wu1.heap[b]? = some (.cells #[(.int .i64 k), (.slice aN st.N.length cN), (.slice aS st.S.length cS), (.slice aA st.A.length cA), (.slice aD st.D.length cD)] 45 (0, 0)) := by by_cases hz : S 4; exact hCn hz; exact hCo hz
            replace hk := hKb
            exact Runs.does (r_move rfl) ⟨Below.refl _ _, rfl, nofr rfl⟩
          refine ⟨fun S wu2 hC hS hd hi => ?_, ?_⟩
          · skip
            replace hC : GO w13 b (Value.slice aA st.A.length cA) wu2 ∧ (¬ S 7 → Row 2 vMVal 65 (w0.heap.size) wu2 (Value.slice aA st.A.length cA) st.A) ∧ (¬ S 4 → wu2.heap[b]? = some (.cells #[(.int .i64 k), (.slice aN st.N.length cN), (.slice aS st.S.length cS), (.slice aA st.A.length cA), (.slice aD st.D.length cD)] 45 (0, 0))) ∧ (S 4 → wu2.heap[b]? = some (.cells #[(.int .i64 k), (.slice aN st.N.length cN), (.slice aS st.S.length cS), (.slice aA st.A.length cA), (.slice aD st.D.length cD)] 45 (0, 0))) := hC
            refine uv_plain (C := (fun S wq => GO w13 b (Value.slice aA st.A.length cA) wq ∧ (¬ S 7 → Row 2 vMVal 65 (w0.heap.size) wq (Value.slice aA st.A.length cA) st.A) ∧ (¬ S 4 → wq.heap[b]? = some (.cells #[(.int .i64 k), (.slice aN st.N.length cN), (.slice aS st.S.length cS), (.slice aA st.A.length cA), (.slice aD st.D.length cD)] 45 (0, 0))) ∧ (S 4 → wq.heap[b]? = some (.cells #[(.int .i64 k), (.slice aN st.N.length cN), (.slice aS st.S.length cS), (.slice aA st.A.length cA), (.slice aD st.D.length cD)] 45 (0, 0))))) (hKP 2 S wu2) (fun w' h1 h2 => ⟨h1.1.below h2, fun hn => Row.ext (h1.2.1 (fun hs => hn (.inr hs))) h2, fun hn => blk_ext (h1.2.2.1 (fun hs => hn (.inr hs))) h2, fun hs => blk_ext (h1.2.2.2 (by rcases hs with e | hs; exact absurd e (by decide); exact hs)) h2⟩) hC hS ?_
            obtain ⟨hC, hCr, hCo, hCn⟩ := hC
            have h1 := hS.post 1 (hd 1 (by decide))
            replace h1 : V 1 = (.pointer (some ⟨b, 0, none⟩)) := h1
            replace hk7 := blk_go hk7 hC (by omega) hnr3
            replace hrN := Row.go hrN hC (Row.ne_type hrN hk rfl) (Row.ne_row hrN hrA rfl)
            replace hrS := Row.go hrS hC (Row.ne_type hrS hk rfl) (Row.ne_row hrS hrA rfl)
            replace hrD := Row.go hrD hC (Row.ne_type hrD hk rfl) (Row.ne_row hrD hrA rfl)
            have hKb : wu2.heap[b]? = some (.cells #[(.int .i64 k), (.slice aN st.N.length cN), (.slice aS st.S.length cS), (.slice aA st.A.length cA), (.slice aD st.D.length cD)] 45 (0, 0)) := by by_cases hz : S 4; exact hCn hz; exact hCo hz
            replace hk := hKb
            exact Runs.does (r_nilCheck (congrArg some h1)) ⟨Below.refl _ _, rfl, nofr rfl⟩
          refine ⟨fun S wu3 hC hS hd hi => ?_, ?_⟩
          · skip
            replace hC : GO w13 b (Value.slice aA st.A.length cA) wu3 ∧ (¬ S 7 → Row 2 vMVal 65 (w0.heap.size) wu3 (Value.slice aA st.A.length cA) st.A) ∧ (¬ S 4 → wu3.heap[b]? = some (.cells #[(.int .i64 k), (.slice aN st.N.length cN), (.slice aS st.S.length cS), (.slice aA st.A.length cA), (.slice aD st.D.length cD)] 45 (0, 0))) ∧ (S 4 → wu3.heap[b]? = some (.cells #[(.int .i64 k), (.slice aN st.N.length cN), (.slice aS st.S.length cS), (.slice aA st.A.length cA), (.slice aD st.D.length cD)] 45 (0, 0))) := hC
            refine uv_plain (C := (fun S wq => GO w13 b (Value.slice aA st.A.length cA) wq ∧ (¬ S 7 → Row 2 vMVal 65 (w0.heap.size) wq (Value.slice aA st.A.length cA) st.A) ∧ (¬ S 4 → wq.heap[b]? = some (.cells #[(.int .i64 k), (.slice aN st.N.length cN), (.slice aS st.S.length cS), (.slice aA st.A.length cA), (.slice aD st.D.length cD)] 45 (0, 0))) ∧ (S 4 → wq.heap[b]? = some (.cells #[(.int .i64 k), (.slice aN st.N.length cN), (.slice aS st.S.length cS), (.slice aA st.A.length cA), (.slice aD st.D.length cD)] 45 (0, 0))))) (hKP 3 S wu3) (fun w' h1 h2 => ⟨h1.1.below h2, fun hn => Row.ext (h1.2.1 (fun hs => hn (.inr hs))) h2, fun hn => blk_ext (h1.2.2.1 (fun hs => hn (.inr hs))) h2, fun hs => blk_ext (h1.2.2.2 (by rcases hs with e | hs; exact absurd e (by decide); exact hs)) h2⟩) hC hS ?_
            obtain ⟨hC, hCr, hCo, hCn⟩ := hC
            have h2 := hS.post 2 (hd 2 (by decide))
            replace h2 : V 2 = (.pointer (some ⟨b, 0, none⟩)) := h2
            replace hk7 := blk_go hk7 hC (by omega) hnr3
            replace hrN := Row.go hrN hC (Row.ne_type hrN hk rfl) (Row.ne_row hrN hrA rfl)
            replace hrS := Row.go hrS hC (Row.ne_type hrS hk rfl) (Row.ne_row hrS hrA rfl)
            replace hrD := Row.go hrD hC (Row.ne_type hrD hk rfl) (Row.ne_row hrD hrA rfl)
            have hKb : wu3.heap[b]? = some (.cells #[(.int .i64 k), (.slice aN st.N.length cN), (.slice aS st.S.length cS), (.slice aA st.A.length cA), (.slice aD st.D.length cD)] 45 (0, 0)) := by by_cases hz : S 4; exact hCn hz; exact hCo hz
            replace hk := hKb
            exact Runs.does (r_fa (congrArg some h2) Try.underlying45 (f := 3) (q := 3) rfl (by kernel_rfl) rfl) ⟨Below.refl _ _, rfl, nofr rfl⟩
          refine ⟨fun S wu4 hC hS hd hi => ?_, ?_⟩
          · skip
            replace hC : GO w13 b (Value.slice aA st.A.length cA) wu4 ∧ (¬ S 7 → Row 2 vMVal 65 (w0.heap.size) wu4 (Value.slice aA st.A.length cA) st.A) ∧ (¬ S 4 → wu4.heap[b]? = some (.cells #[(.int .i64 k), (.slice aN st.N.length cN), (.slice aS st.S.length cS), (.slice aA st.A.length cA), (.slice aD st.D.length cD)] 45 (0, 0))) ∧ (S 4 → wu4.heap[b]? = some (.cells #[(.int .i64 k), (.slice aN st.N.length cN), (.slice aS st.S.length cS), (.slice aA st.A.length cA), (.slice aD st.D.length cD)] 45 (0, 0))) := hC
            refine uv_plain (C := (fun S wq => GO w13 b (Value.slice aA st.A.length cA) wq ∧ (¬ S 7 → Row 2 vMVal 65 (w0.heap.size) wq (Value.slice aA st.A.length cA) st.A) ∧ (¬ S 4 → wq.heap[b]? = some (.cells #[(.int .i64 k), (.slice aN st.N.length cN), (.slice aS st.S.length cS), (.slice aA st.A.length cA), (.slice aD st.D.length cD)] 45 (0, 0))) ∧ (S 4 → wq.heap[b]? = some (.cells #[(.int .i64 k), (.slice aN st.N.length cN), (.slice aS st.S.length cS), (.slice aA st.A.length cA), (.slice aD st.D.length cD)] 45 (0, 0))))) (hKP 4 S wu4) (fun w' h1 h2 => ⟨h1.1.below h2, fun hn => Row.ext (h1.2.1 (fun hs => hn (.inr hs))) h2, fun hn => absurd (.inl rfl) hn, fun _ => blk_ext (h1.2.2.1 hi) h2⟩) hC hS ?_
            obtain ⟨hC, hCr, hCo, hCn⟩ := hC
            have h3 := hS.post 3 (hd 3 (by decide))
            replace h3 : V 3 = (.pointer (some ⟨b, 3, none⟩)) := h3
            replace hk7 := blk_go hk7 hC (by omega) hnr3
            replace hrN := Row.go hrN hC (Row.ne_type hrN hk rfl) (Row.ne_row hrN hrA rfl)
            replace hrS := Row.go hrS hC (Row.ne_type hrS hk rfl) (Row.ne_row hrS hrA rfl)
            replace hrD := Row.go hrD hC (Row.ne_type hrD hk rfl) (Row.ne_row hrD hrA rfl)
            have hKb : wu4.heap[b]? = some (.cells #[(.int .i64 k), (.slice aN st.N.length cN), (.slice aS st.S.length cS), (.slice aA st.A.length cA), (.slice aD st.D.length cD)] 45 (0, 0)) := by by_cases hz : S 4; exact hCn hz; exact hCo hz
            replace hk := hKb
            exact Runs.does (r_load (v := (.slice aA st.A.length cA)) (congrArg some h3) Try.underlying42 rfl (cell_blk hk rfl)) ⟨Below.refl _ _, rfl, nofr rfl⟩
          refine ⟨fun S wu5 hC hS hd hi => ?_, ?_⟩
          · skip
            replace hC : GO w13 b (Value.slice aA st.A.length cA) wu5 ∧ (¬ S 7 → Row 2 vMVal 65 (w0.heap.size) wu5 (Value.slice aA st.A.length cA) st.A) ∧ (¬ S 4 → wu5.heap[b]? = some (.cells #[(.int .i64 k), (.slice aN st.N.length cN), (.slice aS st.S.length cS), (.slice aA st.A.length cA), (.slice aD st.D.length cD)] 45 (0, 0))) ∧ (S 4 → wu5.heap[b]? = some (.cells #[(.int .i64 k), (.slice aN st.N.length cN), (.slice aS st.S.length cS), (.slice aA st.A.length cA), (.slice aD st.D.length cD)] 45 (0, 0))) := hC
            refine uv_plain (C := (fun S wq => GO w13 b (Value.slice aA st.A.length cA) wq ∧ (¬ S 7 → Row 2 vMVal 65 (w0.heap.size) wq (Value.slice aA st.A.length cA) st.A) ∧ (¬ S 4 → wq.heap[b]? = some (.cells #[(.int .i64 k), (.slice aN st.N.length cN), (.slice aS st.S.length cS), (.slice aA st.A.length cA), (.slice aD st.D.length cD)] 45 (0, 0))) ∧ (S 4 → wq.heap[b]? = some (.cells #[(.int .i64 k), (.slice aN st.N.length cN), (.slice aS st.S.length cS), (.slice aA st.A.length cA), (.slice aD st.D.length cD)] 45 (0, 0))))) (hKP 5 S wu5) (fun w' h1 h2 => ⟨h1.1.below h2, fun hn => Row.ext (h1.2.1 (fun hs => hn (.inr hs))) h2, fun hn => blk_ext (h1.2.2.1 (fun hs => hn (.inr hs))) h2, fun hs => blk_ext (h1.2.2.2 (by rcases hs with e | hs; exact absurd e (by decide); exact hs)) h2⟩) hC hS ?_
            obtain ⟨hC, hCr, hCo, hCn⟩ := hC
            replace hk7 := blk_go hk7 hC (by omega) hnr3
            replace hrN := Row.go hrN hC (Row.ne_type hrN hk rfl) (Row.ne_row hrN hrA rfl)
            replace hrS := Row.go hrS hC (Row.ne_type hrS hk rfl) (Row.ne_row hrS hrA rfl)
            replace hrD := Row.go hrD hC (Row.ne_type hrD hk rfl) (Row.ne_row hrD hrA rfl)
            have hKb : wu5.heap[b]? = some (.cells #[(.int .i64 k), (.slice aN st.N.length cN), (.slice aS st.S.length cS), (.slice aA st.A.length cA), (.slice aD st.D.length cD)] 45 (0, 0)) := by by_cases hz : S 4; exact hCn hz; exact hCo hz
            replace hk := hKb
            exact Runs.does (r_loadA (cs := [(.int .u8 ((rdV p).1.1)), (.int .u64 ((rdV p).1.2.1))]) rfl Try.underlying65 rfl (by kernel_rfl) (cellsAt_blk hk7)) ⟨Below.refl _ _, rfl, nofr rfl⟩
          refine ⟨fun S wu6 hC hS hd hi => ?_, ?_⟩
          · skip
            replace hC : GO w13 b (Value.slice aA st.A.length cA) wu6 ∧ (¬ S 7 → Row 2 vMVal 65 (w0.heap.size) wu6 (Value.slice aA st.A.length cA) st.A) ∧ (¬ S 4 → wu6.heap[b]? = some (.cells #[(.int .i64 k), (.slice aN st.N.length cN), (.slice aS st.S.length cS), (.slice aA st.A.length cA), (.slice aD st.D.length cD)] 45 (0, 0))) ∧ (S 4 → wu6.heap[b]? = some (.cells #[(.int .i64 k), (.slice aN st.N.length cN), (.slice aS st.S.length cS), (.slice aA st.A.length cA), (.slice aD st.D.length cD)] 45 (0, 0))) := hC
            refine uv_plain (C := (fun S wq => GO w13 b (Value.slice aA st.A.length cA) wq ∧ (¬ S 7 → Row 2 vMVal 65 (w0.heap.size) wq (Value.slice aA st.A.length cA) st.A) ∧ (¬ S 4 → wq.heap[b]? = some (.cells #[(.int .i64 k), (.slice aN st.N.length cN), (.slice aS st.S.length cS), (.slice aA st.A.length cA), (.slice aD st.D.length cD)] 45 (0, 0))) ∧ (S 4 → wq.heap[b]? = some (.cells #[(.int .i64 k), (.slice aN st.N.length cN), (.slice aS st.S.length cS), (.slice aA st.A.length cA), (.slice aD st.D.length cD)] 45 (0, 0))))) (hKP 6 S wu6) (fun w' h1 h2 => ⟨h1.1.below h2, fun hn => Row.ext (h1.2.1 (fun hs => hn (.inr hs))) h2, fun hn => blk_ext (h1.2.2.1 (fun hs => hn (.inr hs))) h2, fun hs => blk_ext (h1.2.2.2 (by rcases hs with e | hs; exact absurd e (by decide); exact hs)) h2⟩) hC hS ?_
            obtain ⟨hC, hCr, hCo, hCn⟩ := hC
            have h5 := hS.post 5 (hd 5 (by decide))
            replace h5 : V 5 = (.agg #[(.int .u8 ((rdV p).1.1)), (.int .u64 ((rdV p).1.2.1))]) := h5
            replace hk7 := blk_go hk7 hC (by omega) hnr3
            replace hrN := Row.go hrN hC (Row.ne_type hrN hk rfl) (Row.ne_row hrN hrA rfl)
            replace hrS := Row.go hrS hC (Row.ne_type hrS hk rfl) (Row.ne_row hrS hrA rfl)
            replace hrD := Row.go hrD hC (Row.ne_type hrD hk rfl) (Row.ne_row hrD hrA rfl)
            have hKb : wu6.heap[b]? = some (.cells #[(.int .i64 k), (.slice aN st.N.length cN), (.slice aS st.S.length cS), (.slice aA st.A.length cA), (.slice aD st.D.length cD)] 45 (0, 0)) := by by_cases hz : S 4; exact hCn hz; exact hCo hz
            replace hk := hKb
            refine Does.mono (d_bslice (z := (.agg #[(.int .u8 (0 : Int)), (.int .u64 (0 : Int))])) (sz := 2) (vs := [(0, (.agg #[(.int .u8 ((rdV p).1.1)), (.int .u64 ((rdV p).1.2.1))]))]) (cs := #[(.int .u8 ((rdV p).1.1)), (.int .u64 ((rdV p).1.2.1))]) (show [(0, some (V 5))] = [(0, some (.agg #[(.int .u8 ((rdV p).1.1)), (.int .u64 ((rdV p).1.2.1))]))] from by rw [h5]) Try.underlying42 (by kernel_rfl) rfl (by kernel_rfl)) ?_
            rintro _ w' ⟨b, rfl, hF⟩
            exact ⟨hF.2.2, ⟨b, rfl, Nat.le_trans hC.size hF.1, hF.2.1⟩, isfr rfl hF.1 (blk_lt hF.2.1)⟩
          refine ⟨fun S wu7 hC hS hd hi => ?_, ?_⟩
          · skip
            replace hC : GO w13 b (Value.slice aA st.A.length cA) wu7 ∧ (¬ S 7 → Row 2 vMVal 65 (w0.heap.size) wu7 (Value.slice aA st.A.length cA) st.A) ∧ (¬ S 4 → wu7.heap[b]? = some (.cells #[(.int .i64 k), (.slice aN st.N.length cN), (.slice aS st.S.length cS), (.slice aA st.A.length cA), (.slice aD st.D.length cD)] 45 (0, 0))) ∧ (S 4 → wu7.heap[b]? = some (.cells #[(.int .i64 k), (.slice aN st.N.length cN), (.slice aS st.S.length cS), (.slice aA st.A.length cA), (.slice aD st.D.length cD)] 45 (0, 0))) := hC
            obtain ⟨hC, hCr, hCo, hCn⟩ := hC
            have h4 := hS.post 4 (hd 4 (by decide))
            replace h4 : V 4 = (.slice aA st.A.length cA) := h4
            have h6 := hS.post 6 (hd 6 (by decide))
            obtain ⟨b4, h6, hle4, hk8⟩ := h6
            replace hk7 := blk_go hk7 hC (by omega) hnr3
            replace hrN := Row.go hrN hC (Row.ne_type hrN hk rfl) (Row.ne_row hrN hrA rfl)
            replace hrS := Row.go hrS hC (Row.ne_type hrS hk rfl) (Row.ne_row hrS hrA rfl)
            replace hrD := Row.go hrD hC (Row.ne_type hrD hk rfl) (Row.ne_row hrD hrA rfl)
            have hKb : wu7.heap[b]? = some (.cells #[(.int .i64 k), (.slice aN st.N.length cN), (.slice aS st.S.length cS), (.slice aA st.A.length cA), (.slice aD st.D.length cD)] 45 (0, 0)) := by by_cases hz : S 4; exact hCn hz; exact hCo hz
            replace hk := hKb
            replace hrA := hCr hi
            have hrB := Row.of_new (k := 2) (V := vMVal) (l := [(rdV p).1]) (base := w13.heap.size) hk8 hle4 rfl rfl (Nat.le_of_ble_eq_true rfl)
            refine Does.mono (d_append (V := vMVal) (k := 2) (e := 65) (bytes := 16) (z := (.agg #[(.int .u8 (0 : Int)), (.int .u64 (0 : Int))])) (news := [(rdV p).1]) (base := w0.heap.size) (by intros; rfl) (by exact oneMVal) (congrArg some h4) (congrArg some h6) Try.underlying42 (by kernel_rfl) rfl rfl rfl hrA (Row.rd (by intros; rfl) hrB) rfl (fun h => by cases h) (by first | omega | (simp only [List.length_cons, List.length_nil, List.length_append, nums_len]; omega)) (by have := hb.size; have := hC.size; omega)) ?_
            rintro v' wz ⟨hY, hgY⟩
            obtain ⟨ra, rc, rfl, _, _⟩ := Row.slice hY
            refine ⟨⟨⟨hC.app hgY, fun hn => absurd (.inl rfl) hn, fun hn => absurd (.inr (hd 4 (by decide))) hn, fun _ => (hgY.block b (blk_lt (hCn (hd 4 (by decide)))) (fun e => Row.ne_type hrA (hCn (hd 4 (by decide))) rfl e.symm)).trans (hCn (hd 4 (by decide)))⟩, fun j hj => ?_, hgY.size⟩, ⟨ra, rc, rfl, hY⟩, nofr rfl⟩
            match j with
            | 0 =>
              exact hS.post 0 hj
            | 1 =>
              exact hS.post 1 hj
            | 2 =>
              exact hS.post 2 hj
            | 3 =>
              exact hS.post 3 hj
            | 4 =>
              exact hS.post 4 hj
            | 5 =>
              exact hS.post 5 hj
            | 6 =>
              obtain ⟨b, e1, e2, e3⟩ := hS.post 6 hj
              exact ⟨b, e1, e2, (hgY.block b (blk_lt e3) (fun e => by have := hlV b e.symm; omega)).trans e3⟩
            | 7 =>
              exact absurd hj hi
            | _ + 8 => trivial
          trivial
        · skip
          clear hf fa; intro V S w14 fa hall he8 hp hnb hf
          have hv0 := postsHold_at hp 0 rfl
          replace hv0 : V 0 = (.pointer (some ⟨b, 0, none⟩)) := hv0
          have hv1 := postsHold_at hp 1 rfl
          replace hv1 : V 1 = (.pointer (some ⟨b, 0, none⟩)) := hv1
          have hv2 := postsHold_at hp 2 rfl
          replace hv2 : V 2 = (.pointer (some ⟨b, 0, none⟩)) := hv2
          have hv3 := postsHold_at hp 3 rfl
          replace hv3 : V 3 = (.pointer (some ⟨b, 3, none⟩)) := hv3
          have hv4 := postsHold_at hp 4 rfl
          replace hv4 : V 4 = (.slice aA st.A.length cA) := hv4
          have hv5 := postsHold_at hp 5 rfl
          replace hv5 : V 5 = (.agg #[(.int .u8 ((rdV p).1.1)), (.int .u64 ((rdV p).1.2.1))]) := hv5
          have hv6 := postsHold_at hp 6 rfl
          obtain ⟨b4, hv6, hle4, hk8⟩ := hv6
          have hBb4 : w0.heap.size ≤ b4 := Nat.le_trans hb.size hle4
          have hv7 := postsHold_at hp 7 rfl
          obtain ⟨ra4, rc4, hv7, hr4⟩ := hv7
          rw [hv7] at hr4
          have hcrc4 := Row.caps hr4
          simp only [List.take_succ_cons, List.take_zero, insAll, ins, hv0, hv1, hv2, hv3, hv4, hv5, hv6, hv7] at hf
          obtain ⟨he8, _, _, hk9⟩ := he8
          replace hk9 := hk9 (hall 4 (show 4 < 8 by decide))
          replace hk7 := blk_go hk7 he8 (by omega) hnr3
          replace hrN := Row.go hrN he8 (Row.ne_type hrN hk rfl) (Row.ne_row hrN hrA rfl)
          replace hrS := Row.go hrS he8 (Row.ne_type hrS hk rfl) (Row.ne_row hrS hrA rfl)
          replace hrD := Row.go hrD he8 (Row.ne_type hrD hk rfl) (Row.ne_row hrD hrA rfl)
          replace hb := Below_go hb he8 hb.size hBb (fun q hq => by have := (Row.lt hrA q hq).1; omega)
          clear hp hnb hall hlV hrA hv0 hv1 hv2 hv3 hv4 hv5 hv6 hv7
          simp only [List.drop_succ_cons, List.drop_zero]
          refine sqv hf (r_nilCheck rfl) rfl rfl rfl ?_; clear hf fa; intro fa hf
          refine sqv hf (r_fa rfl Try.underlying45 (f := 3) (q := 3) rfl (by kernel_rfl) rfl) rfl rfl rfl ?_; clear hf fa; intro fa hf
          refine sqn hf (d_storeK (T := 45) (v := (.slice ra4 ((st.A ++ [(rdV p).1]).length) rc4)) (cs := #[(.int .i64 k), (.slice aN st.N.length cN), (.slice aS st.S.length cS), (.slice aA st.A.length cA), (.slice aD st.D.length cD)]) (cs' := #[(.int .i64 k), (.slice aN st.N.length cN), (.slice aS st.S.length cS), (.slice ra4 ((st.A ++ [(rdV p).1]).length) rc4), (.slice aD st.D.length cD)]) rfl rfl (by kernel_rfl) (by kernel_rfl) hk9 (by kernel_rfl) (by kernel_rfl)) rfl rfl ?_; clear hf fa; rintro fa _ w15 ⟨hk10, hg7⟩ hf
          replace hk7 := blk_grown hk7 hg7 (by omega)
          replace hrN := Row.grown hrN hg7 (Row.ne_type hrN hk9 rfl)
          replace hrS := Row.grown hrS hg7 (Row.ne_type hrS hk9 rfl)
          replace hrD := Row.grown hrD hg7 (Row.ne_type hrD hk9 rfl)
          replace hr4 := Row.grown hr4 hg7 (Row.ne_type hr4 hk9 rfl)
          replace hb := hb.trans (grown_below hg7 hb.size hBb)
          apply wpList_nil
          (try simp only [Exit.then, Exit.inBlock, ↓reduceIte, Nat.reduceEqDiff])
          refine hK17 _ _ ?_
          refine wp_seq_k (fun K18 hK18 => ?_)
          refine wp_region_lit ?_
          refine sqv hf (r_move rfl) rfl rfl rfl ?_; clear hf fa; intro fa hf
          refine sqv hf (r_assign rfl) rfl rfl rfl ?_; clear hf fa; intro fa hf
          apply wpList_nil
          (try simp only [Exit.then, Exit.inBlock, ↓reduceIte, Nat.reduceEqDiff])
          refine hK18 _ _ ?_
          refine wp_ret ?_
          (try simp only [Exit.then, Exit.inBlock])
          refine ret1 hf rfl rfl ?_
          rw [(take_a (by have h := hqt16_1; omega) (by have h := hqt34_1; omega) (by have h := hqt52_1; omega))]; exact ⟨_, rfl, rfl, ⟨aN, cN, aS, cS, ra4, rc4, aD, cD, hk10, hrN, hrS, hr4, hrD⟩, hb⟩
end Go.Proofs.Ytpalmpfkliepfaa
