/- What is proved here: the reading of a line, by the program. What is proved here: the pieces of a line, by the document. What is proved here: the reading of a line, by the document. What is proved here: string(b) of bytes that came in. What is proved here: what the laws of op call: the example, Few, Ref, Same. What is proved here: the law OpLines is true. What is proved here: the statement OpLines, for every input. -/
import Derived.Test.YtpalmpfkliepfaaOpLinesMgAE
import Derived.Test.YtpalmpfkliepfaaRows
import Derived.Test.YtpalmpfkliepfaaOpLinesMgAB
import Derived.ProofKit
import Derived.OpenShut
import Derived.ShutString
import Derived.ChangeOld
import Derived.Below
namespace Go.Proofs.Ytpalmpfkliepfaa
open Go.RowKit Ut
set_option linter.unusedVariables false
set_option linter.unusedSimpArgs false
theorem cA_size (l : ByteArray) : (cA l 32).size = posB l 32 := by
  have := posB_le l 32
  rw [← bl_length]; unfold cA; rw [bl_mid, List.length_take, List.length_drop, bl_length]; omega
theorem pieceS_some {r : ByteArray} {pc : ByteArray × ByteArray × Bool} (h : pieceS r = pc) (h2 : pc.2.2 = true) : pieceP (bl r) = some (bl pc.1, bl pc.2.1) ∧ pc.1.size ≤ r.size ∧ pc.2.1.size < r.size := by
  unfold pieceS at h
  cases hp : pieceP (bl r) with
  | none => rw [hp] at h; rw [← h] at h2; cases h2
  | some pm =>
    rw [hp] at h
    have hpm : bl r = 32 :: (pm.1 ++ pm.2) := by
      unfold pieceP at hp
      split at hp
      · rename_i l e
        simp only [Option.some.injEq] at hp
        rw [← hp, scanF_app, e]
      · cases hp
    have hb : ∀ x ∈ pm.1 ++ pm.2, x < 256 := fun x hx => bl_lt r x (by rw [hpm]; exact List.mem_cons_of_mem _ hx)
    have h3 := congrArg List.length hpm
    simp only [bl_length, List.length_cons, List.length_append] at h3
    rw [← h]
    simp only
    rw [bl_strN _ (fun x hx => hb x (List.mem_append_left _ hx)), bl_strN _ (fun x hx => hb x (List.mem_append_right _ hx)), strN_size, strN_size]
    exact ⟨rfl, by omega, by omega⟩
theorem pieceS_none {r : ByteArray} {pc : ByteArray × ByteArray × Bool} (h : pieceS r = pc) (h2 : ¬ pc.2.2 = true) : pieceP (bl r) = none := by
  unfold pieceS at h
  cases hp : pieceP (bl r) with
  | none => rfl
  | some pm => rw [hp] at h; rw [← h] at h2; exact absurd rfl h2
section
variable {X : Option PSt} {F r p m : ByteArray} {fu i : Nat} {st : PSt} {tk : PSt × Bool}
theorem parse_a (Hs : X = parseP fu ((bl F).drop i) (bl r) st) (hi : i < F.size) (hp : pieceP (bl r) = some (bl p, bl m)) (ht : takeP (sbt F i) p st = tk) (hok : tk.2 = true) (hf : 0 < fu) (hc : sbt F i = 97) : X = parseP (fu - 1) ((bl F).drop i) (bl m) tk.1 := by
  obtain ⟨f, rfl⟩ : ∃ f, fu = f + 1 := ⟨fu - 1, by omega⟩
  rw [Hs, bl_dropc F i hi, parseP_some hp, strN_bl, ht, if_pos hok, if_pos hc]; rfl
theorem parse_o (Hs : X = parseP fu ((bl F).drop i) (bl r) st) (hi : i < F.size) (hp : pieceP (bl r) = some (bl p, bl m)) (ht : takeP (sbt F i) p st = tk) (hok : tk.2 = true) (hf : 0 < fu) (hc : ¬ sbt F i = 97) : X = parseP (fu - 1) ((bl F).drop (i + 1)) (bl m) tk.1 := by
  obtain ⟨f, rfl⟩ : ∃ f, fu = f + 1 := ⟨fu - 1, by omega⟩
  rw [Hs, bl_dropc F i hi, parseP_some hp, strN_bl, ht, if_pos hok, if_neg hc]; rfl
theorem parse_bad (Hs : X = parseP fu ((bl F).drop i) (bl r) st) (hi : i < F.size) (hp : pieceP (bl r) = some (bl p, bl m)) (ht : takeP (sbt F i) p st = tk) (hok : ¬ tk.2 = true) (hf : 0 < fu) : X = none := by
  obtain ⟨f, rfl⟩ : ∃ f, fu = f + 1 := ⟨fu - 1, by omega⟩
  rw [Hs, bl_dropc F i hi, parseP_some hp, strN_bl, ht, if_neg hok]
theorem parse_na (Hs : X = parseP fu ((bl F).drop i) (bl r) st) (hi : i < F.size) (hp : pieceP (bl r) = none) (hf : 0 < fu) (hc : sbt F i = 97) : X = some st := by
  obtain ⟨f, rfl⟩ : ∃ f, fu = f + 1 := ⟨fu - 1, by omega⟩
  rw [Hs, bl_dropc F i hi, parseP_none hp, if_pos hc]
theorem parse_no (Hs : X = parseP fu ((bl F).drop i) (bl r) st) (hi : i < F.size) (hp : pieceP (bl r) = none) (hf : 0 < fu) (hc : ¬ sbt F i = 97) : X = none := by
  obtain ⟨f, rfl⟩ : ∃ f, fu = f + 1 := ⟨fu - 1, by omega⟩
  rw [Hs, bl_dropc F i hi, parseP_none hp, if_neg hc]
theorem parse_end (Hs : X = parseP fu ((bl F).drop i) (bl r) st) (hi : F.size ≤ i) (hf : 0 < fu) : X = some st := by
  obtain ⟨f, rfl⟩ : ∃ f, fu = f + 1 := ⟨fu - 1, by omega⟩
  rw [Hs, List.drop_eq_nil_of_le (by rw [bl_length]; exact hi)]; rfl
end
theorem opP_some {l : ByteArray} {k : Int} {st : PSt} (hk : kindP (cA l 32) = k) (hX : parseP (l.size + 1) (bl (formS k)) ((bl l).drop (posB l 32)) st0 = some st) : opP l = if rightP k st = true ∧ lineS k st = l then some (k, st) else none := by
  unfold opP; rw [hk, hX]
theorem opP_none {l : ByteArray} {k : Int} (hk : kindP (cA l 32) = k) (hX : parseP (l.size + 1) (bl (formS k)) ((bl l).drop (posB l 32)) st0 = none) : opP l = none := by
  unfold opP; rw [hk, hX]
theorem opF_nil (w : World) : OpF w st0 none none none none := ⟨RdS.nil, RdS.nil, RdS.nil, RdS.nil⟩

theorem OpB2.mono {m n : Nat} {st : PSt} (h : OpB2 m st) (hm : m ≤ n) : OpB2 n st := ⟨h.n, h.s, h.a, h.d, Nat.le_trans h.nl hm, Nat.le_trans h.sl hm, Nat.le_trans h.al hm, h.dl⟩

set_option maxHeartbeats 1000000 in
set_option maxRecDepth 100000 in
theorem parse_any (l : ByteArray) (w : World) (hl : l.size ≤ 20000) : Calls Try.prog 21 #[(.string l)] w fun e w' => ∃ (aN : Option Addr) (cN : Nat) (aS : Option Addr) (cS : Nat) (aA : Option Addr) (cA : Nat) (aD : Option Addr) (cD : Nat), e = .returned (.tuple #[(.agg #[(.int .i64 ((opK (opP l)))), (.slice aN ((opS (opP l)).N.length) cN), (.slice aS ((opS (opP l)).S.length) cS), (.slice aA ((opS (opP l)).A.length) cA), (.slice aD ((opS (opP l)).D.length) cD)]), .int .i64 (if (opP l).isSome = true then 0 else 49)]) ∧ OpF w' (opS (opP l)) aN aS aA aD ∧ Below w.heap.size w w' := by
  refine sx_enter (L := [(0, (.string l))]) Try.func21 rfl rfl rfl rfl (fun fa hf => ?_)
  have hb : Below w.heap.size w w := Below.refl _ _
  refine wp_seq_k (fun K1 hK1 => ?_)
  refine wp_region_lit ?_
  refine sqdt hf (d_alloc (z := (.agg #[(.int .i64 (0 : Int)), (.slice none 0 0), (.slice none 0 0), (.slice none 0 0), (.slice none 0 0)])) (cs := #[(.int .i64 (0 : Int)), (.slice none 0 0), (.slice none 0 0), (.slice none 0 0), (.slice none 0 0)]) (by kernel_rfl) rfl) rfl rfl rfl ?_; clear hf fa; rintro fa _ w1 ⟨b1, rfl, hle1, hk1, he1⟩ hf
  have hBb1 : w.heap.size ≤ b1 := Nat.le_trans hb.size hle1
  replace hb := hb.trans (Below.mono he1 hb.size)
  refine sqv hf (r_assign rfl) rfl rfl rfl ?_; clear hf fa; intro fa hf
  apply wpList_nil
  (try simp only [Exit.then, Exit.inBlock, ↓reduceIte, Nat.reduceEqDiff])
  refine hK1 _ _ ?_
  refine wp_seq_k (fun K2 hK2 => ?_)
  refine wp_region_lit ?_
  refine sqv hf (r_move rfl) rfl rfl rfl ?_; clear hf fa; intro fa hf
  refine sqdt hf (d_callB (vs := [(.string l), (.string ⟨#[32]⟩)]) rfl Try.func58 (by kernel_rfl) (by kernel_rfl) (cutg_any l ⟨#[32]⟩ 32 _ rfl (by omega))) rfl rfl rfl ?_; clear hf fa; rintro fa _ w2 ⟨rfl, he2⟩ hf
  replace hk1 := blk_ext hk1 he2
  replace hb := hb.trans (Below.mono he2 hb.size)
  refine sqv hf (r_move rfl) rfl rfl rfl ?_; clear hf fa; intro fa hf
  refine sqv hf (r_extract rfl (i := 0) rfl) rfl rfl rfl ?_; clear hf fa; intro fa hf
  refine sqv hf (r_extract rfl (i := 1) rfl) rfl rfl rfl ?_; clear hf fa; intro fa hf
  refine sqv hf (r_extract rfl (i := 2) rfl) rfl rfl rfl ?_; clear hf fa; intro fa hf
  refine sqv hf (r_assign rfl) rfl rfl rfl ?_; clear hf fa; intro fa hf
  refine sqv hf (r_assign rfl) rfl rfl rfl ?_; clear hf fa; intro fa hf
  refine sqv hf (r_assign rfl) rfl rfl rfl ?_; clear hf fa; intro fa hf
  apply wpList_nil
  (try simp only [Exit.then, Exit.inBlock, ↓reduceIte, Nat.reduceEqDiff])
  refine hK2 _ _ ?_
  refine wp_seq_k (fun K3 hK3 => ?_)
  have hbA : Below w2.heap.size w2 w2 := Below.refl _ _
  have hbw := hb
  have hk1A := hk1
  obtain ⟨k, hk⟩ : ∃ x, kindP (cA l 32) = x := ⟨_, rfl⟩
  have hcs := cA_size l
  have hpl := posB_le l 32
  refine wp_region_lit ?_
  refine sqv hf (r_move rfl) rfl rfl rfl ?_; clear hf fa; intro fa hf
  refine sqdt hf (d_callB (v := (.int .i64 k)) (vs := [(.string (cA l 32))]) rfl Try.func20 (by kernel_rfl) (by kernel_rfl) (by have h := kind_any (cA l 32) w2; rw [hk] at h; exact h)) rfl rfl rfl ?_; clear hf fa; rintro fa _ w3 ⟨rfl, he3⟩ hf
  replace hk1 := blk_ext hk1 he3
  replace hbA := hbA.trans (Below.mono he3 hbA.size)
  replace hb := hb.trans (Below.mono he3 hb.size)
  refine sqv hf (r_build (vs := [(0, (.int .i64 k))]) (cs := #[(.int .i64 k), (.slice none 0 0), (.slice none 0 0), (.slice none 0 0), (.slice none 0 0)]) rfl (fun _ => by kernel_rfl)) rfl rfl rfl ?_; clear hf fa; intro fa hf
  refine sqdt hf (d_alloc (z := (.agg #[(.int .i64 (0 : Int)), (.slice none 0 0), (.slice none 0 0), (.slice none 0 0), (.slice none 0 0)])) (cs := #[(.int .i64 (0 : Int)), (.slice none 0 0), (.slice none 0 0), (.slice none 0 0), (.slice none 0 0)]) (by kernel_rfl) rfl) rfl rfl rfl ?_; clear hf fa; rintro fa _ w4 ⟨b2, rfl, hle2, hk2, he4⟩ hf
  have hBb2 : w.heap.size ≤ b2 := Nat.le_trans hb.size hle2
  have : b1 < b2 := Nat.lt_of_lt_of_le (blk_lt hk1) hle2
  have hUhbAb2 := Nat.le_trans hbA.size hle2
  replace hk1 := blk_ext hk1 he4
  replace hbA := hbA.trans (Below.mono he4 hbA.size)
  replace hb := hb.trans (Below.mono he4 hb.size)
  refine sqn hf (d_storeK (T := 45) (v := (.agg #[(.int .i64 k), (.slice none 0 0), (.slice none 0 0), (.slice none 0 0), (.slice none 0 0)])) (cs := #[(.int .i64 (0 : Int)), (.slice none 0 0), (.slice none 0 0), (.slice none 0 0), (.slice none 0 0)]) (cs' := #[(.int .i64 k), (.slice none 0 0), (.slice none 0 0), (.slice none 0 0), (.slice none 0 0)]) rfl rfl (by kernel_rfl) (by kernel_rfl) hk2 (by kernel_rfl) (by kernel_rfl)) rfl rfl ?_; clear hf fa; rintro fa _ w5 ⟨hk3, hg1⟩ hf
  replace hk1 := blk_grown hk1 hg1 (by omega)
  replace hbA := hbA.trans (grown_below hg1 hbA.size (by omega))
  replace hb := hb.trans (grown_below hg1 hb.size hBb2)
  apply wpList_nil
  (try simp only [Exit.then, Exit.inBlock, ↓reduceIte, Nat.reduceEqDiff])
  refine hK3 _ _ ?_
  refine wp_seq_k (fun K4 hK4 => ?_)
  refine wp_region_lit ?_
  refine sqv hf (r_fa rfl Try.underlying45 (f := 0) (q := 0) rfl (by kernel_rfl) rfl) rfl rfl rfl ?_; clear hf fa; intro fa hf
  refine sqv hf (r_load (v := (.int .i64 k)) rfl Try.underlying3 rfl (cell_blk hk3 rfl)) rfl rfl rfl ?_; clear hf fa; intro fa hf
  refine sqdt hf (d_callB (vs := [(.int .i64 k)]) rfl Try.func17 (by kernel_rfl) (by kernel_rfl) (form_any k _)) rfl rfl rfl ?_; clear hf fa; rintro fa _ w6 ⟨rfl, he5⟩ hf
  replace hk1 := blk_ext hk1 he5
  replace hk3 := blk_ext hk3 he5
  replace hbA := hbA.trans (Below.mono he5 hbA.size)
  replace hb := hb.trans (Below.mono he5 hb.size)
  refine sqv hf (r_move rfl) rfl rfl rfl ?_; clear hf fa; intro fa hf
  refine sqv hf (r_extract rfl (i := 0) rfl) rfl rfl rfl ?_; clear hf fa; intro fa hf
  refine sqv hf (r_extract rfl (i := 1) rfl) rfl rfl rfl ?_; clear hf fa; intro fa hf
  refine sqv hf (r_assign rfl) rfl rfl rfl ?_; clear hf fa; intro fa hf
  refine sqv hf (r_assign rfl) rfl rfl rfl ?_; clear hf fa; intro fa hf
  apply wpList_nil
  (try simp only [Exit.then, Exit.inBlock, ↓reduceIte, Nat.reduceEqDiff])
  refine hK4 _ _ ?_
  refine wp_seq_k (fun K5 hK5 => ?_)
  refine wp_region_lit ?_
  refine sqv hf (r_move rfl) rfl rfl rfl ?_; clear hf fa; intro fa hf
  refine sqv hf (r_move rfl) rfl rfl rfl ?_; clear hf fa; intro fa hf
  refine sqv hf (r_lens rfl Try.underlying9) rfl rfl rfl ?_; clear hf fa; intro fa hf
  refine sqv hf (r_sslice (a := ((cA l 32).size)) (b := l.size) (k1 := .i64) (k2 := .i64) (A := (((cA l 32).size : Nat) : Int)) (B := 0) rfl Try.underlying9 (.inr ⟨_, rfl, rfl, rfl⟩) (.inl ⟨rfl, rfl⟩) (by omega) (by omega)) rfl rfl rfl ?_; clear hf fa; intro fa hf
  refine sqv hf (r_assign rfl) rfl rfl rfl ?_; clear hf fa; intro fa hf
  apply wpList_nil
  (try simp only [Exit.then, Exit.inBlock, ↓reduceIte, Nat.reduceEqDiff])
  refine hK5 _ _ ?_
  refine wp_seq_k (fun K6 hK6 => ?_)
  refine wp_seq_k (fun K7 hK7 => ?_)
  have hUb2 : w2.heap.size ≤ b2 := by omega
  have hwl := word_len k
  have hr0s : (l.extract (cA l 32).size l.size).size = l.size - posB l 32 := by rw [hcs, size_drop]
  refine wp_region_lit ?_
  refine sqv hf (r_assign rfl) rfl rfl rfl ?_; clear hf fa; intro fa hf
  apply wpList_nil
  (try simp only [Exit.then, Exit.inBlock, ↓reduceIte, Nat.reduceEqDiff])
  refine hK7 _ _ ?_
  refine wp_block ?_
  refine wp_loop_k (fun mq fa wr => ∃ (fu : Nat) (i : Nat) (r : ByteArray) (st : PSt), mq = r.size ∧ Fr 83 fa [(0, (.string l)), (2, (.pointer (some ⟨b1, 0, none⟩))), (7, (.pointer (some ⟨b2, 0, none⟩))), (9, (.string (formS k))), (10, (.string r)), (11, (.int .i64 ((i : Nat) : Int)))] ∧ Below w.heap.size w wr ∧ wr.heap[b1]? = some (.cells #[(.int .i64 (0 : Int)), (.slice none 0 0), (.slice none 0 0), (.slice none 0 0), (.slice none 0 0)] 45 (0, 0)) ∧ (Below w2.heap.size w2 wr) ∧ (StP 45 w2.heap.size wr b2 k st) ∧ (i ≤ (formS k).size) ∧ (OpB2 (l.size - r.size) st) ∧ (r.size ≤ l.size) ∧ (r.size < fu) ∧ (parseP (l.size + 1) (bl (formS k)) ((bl l).drop (posB l 32)) st0 = parseP fu ((bl (formS k)).drop i) (bl r) st)) ?_ ?_
  · skip
    exact ⟨_, (l.size + 1), 0, (l.extract (cA l 32).size l.size), st0, rfl, hf.sub ⟨rfl, rfl, rfl, rfl, (some_str (by first | rfl | assumption | simp)), (some_int (by first | rfl | omega)), trivial⟩, hb, hk1, hbA, ⟨none, 0, none, 0, none, 0, none, 0, hk3, Row.nil, Row.nil, Row.nil, Row.nil⟩, by omega, OpB2.zero _, by rw [hr0s]; omega, by rw [hr0s]; omega, (by rw [List.drop_zero, hcs, bl_drop])⟩
  · skip
    clear hf fa; intro mq1 fa w7 hI KL1 hKL1
    clear hb
    clear hk1
    clear hk3
    obtain ⟨fu, i, r, st, hmq1, hf, hb, hkb1, hbA, hst, hi, hInv, hrl, hfu, Hs⟩ := hI
    obtain ⟨pc, hpc⟩ : ∃ x, pieceS r = x := ⟨_, rfl⟩
    have hbS : Below w7.heap.size w7 w7 := Below.refl _ _
    refine wp_seq_k (fun K8 hK8 => ?_)
    refine wp_seq_k (fun K9 hK9 => ?_)
    refine wp_region_lit ?_
    refine sqv hf (r_move rfl) rfl rfl rfl ?_; clear hf fa; intro fa hf
    refine sqv hf (r_move rfl) rfl rfl rfl ?_; clear hf fa; intro fa hf
    refine sqv hf (r_lens rfl Try.underlying9) rfl rfl rfl ?_; clear hf fa; intro fa hf
    refine sqv hf (r_lt rfl rfl) rfl rfl rfl ?_; clear hf fa; intro fa hf
    apply wpList_nil
    (try simp only [Exit.then, Exit.inBlock, ↓reduceIte, Nat.reduceEqDiff])
    refine hK9 _ _ ?_
    refine wp_cond_split (t := (decide (((i : Nat) : Int) < (((formS k).size : Nat) : Int)))) (hf.ev rfl) (fun hqt37_1 => ?_) (fun hqt37_1 => ?_)
    · have hqt37_1b := hqt37_1
      try simp only [decide_eq_true_eq, Bool.and_eq_true, Bool.or_eq_true, Bool.not_eq_true', decide_eq_false_iff_not, ne_eq, Bool.not_eq_true] at hqt37_1
      refine wp_skip ?_
      (try simp only [Exit.then, Exit.inBlock, ↓reduceIte, Nat.reduceEqDiff])
      refine hK8 _ _ ?_
      refine wp_seq_k (fun K10 hK10 => ?_)
      refine wp_block ?_
      refine wp_seq_k (fun K11 hK11 => ?_)
      refine wp_region_lit ?_
      refine sqv hf (r_move rfl) rfl rfl rfl ?_; clear hf fa; intro fa hf
      refine sqdt hf (d_callB (v := (.tuple #[(.string pc.1), (.string pc.2.1), (.bool pc.2.2)])) (vs := [(.string r)]) rfl Try.func59 (by kernel_rfl) (by kernel_rfl) (by have h := piece_any r w7 (by omega); rw [hpc] at h; exact h)) rfl rfl rfl ?_; clear hf fa; rintro fa _ w8 ⟨rfl, he6⟩ hf
      replace hkb1 := blk_ext hkb1 he6
      replace hbA := hbA.trans (Below.mono he6 hbA.size)
      replace hbS := hbS.trans (Below.mono he6 hbS.size)
      replace hb := hb.trans (Below.mono he6 hb.size)
      refine sqv hf (r_move rfl) rfl rfl rfl ?_; clear hf fa; intro fa hf
      refine sqv hf (r_extract rfl (i := 0) rfl) rfl rfl rfl ?_; clear hf fa; intro fa hf
      refine sqv hf (r_extract rfl (i := 1) rfl) rfl rfl rfl ?_; clear hf fa; intro fa hf
      refine sqv hf (r_extract rfl (i := 2) rfl) rfl rfl rfl ?_; clear hf fa; intro fa hf
      refine sqv hf (r_assign rfl) rfl rfl rfl ?_; clear hf fa; intro fa hf
      refine sqv hf (r_assign rfl) rfl rfl rfl ?_; clear hf fa; intro fa hf
      refine sqv hf (r_assign rfl) rfl rfl rfl ?_; clear hf fa; intro fa hf
      apply wpList_nil
      (try simp only [Exit.then, Exit.inBlock, ↓reduceIte, Nat.reduceEqDiff])
      refine hK11 _ _ ?_
      refine wp_seq_k (fun K12 hK12 => ?_)
      refine wp_seq_k (fun K13 hK13 => ?_)
      skip
      by_cases hsp1 : pc.2.2 = true
      · have hsp1b : decide (pc.2.2 = true) = true := decide_eq_true hsp1
        have hps := pieceS_some hpc hsp1
        refine wp_region_lit ?_
        refine sqv hf (r_move rfl) rfl rfl rfl ?_; clear hf fa; intro fa hf
        refine sqv hf (Runs.veq (r_not rfl) (congrArg Value.bool (show _ = false from (by rw [hsp1]; rfl)))) rfl rfl rfl ?_; clear hf fa; intro fa hf
        refine sqv hf (r_move rfl) rfl rfl rfl ?_; clear hf fa; intro fa hf
        refine sqgT (act := false) (ag := true) (c := false) (v := .bool false) hf rfl rfl rfl (fun hact => by cases hact) rfl rfl ?_; clear hf fa; intro fa hf
        refine sqgT (act := false) (ag := true) (c := false) (v := .bool false) hf rfl rfl rfl (fun hact => by cases hact) rfl rfl ?_; clear hf fa; intro fa hf
        refine sqgT (act := false) (ag := true) (c := false) (v := .bool false) hf rfl rfl rfl (fun hact => by cases hact) rfl rfl ?_; clear hf fa; intro fa hf
        refine sqgT (act := false) (ag := true) (c := false) (v := .bool false) hf rfl rfl rfl (fun hact => by cases hact) rfl rfl ?_; clear hf fa; intro fa hf
        refine sqv hf (r_pick (b := false) rfl rfl rfl rfl) rfl rfl rfl ?_; clear hf fa; intro fa hf
        apply wpList_nil
        (try simp only [Exit.then, Exit.inBlock, ↓reduceIte, Nat.reduceEqDiff])
        refine hK13 _ _ ?_
        refine wp_cond_false (hf.ev rfl) ?_
        refine wp_skip ?_
        (try simp only [Exit.then, Exit.inBlock, ↓reduceIte, Nat.reduceEqDiff])
        refine hK12 _ _ ?_
        refine wp_seq_k (fun K14 hK14 => ?_)
        refine wp_seq_k (fun K15 hK15 => ?_)
        obtain ⟨tk, htk⟩ : ∃ x, takeP (sbt (formS k) i) pc.1 st = x := ⟨_, rfl⟩
        refine wp_region_lit ?_
        refine sqv hf (r_move rfl) rfl rfl rfl ?_; clear hf fa; intro fa hf
        refine sqv hf (Runs.veq (r_not rfl) (congrArg Value.bool (show _ = false from (by rw [hsp1]; rfl)))) rfl rfl rfl ?_; clear hf fa; intro fa hf
        refine sqv hf (r_move rfl) rfl rfl rfl ?_; clear hf fa; intro fa hf
        refine sqgd (act := true) (g := 2) (want := false) (ag := true) (c := false) hf (by rfl) (by rfl) rfl (fun _ =>  Runs.does (R := fun vq wq => vq = (.string (formS k)) ∧ w8 = wq) (r_move rfl) ⟨rfl, rfl⟩) (fun h => by cases h) rfl ?_; clear hf fa; rintro fa _ _ ⟨rfl, rfl⟩ hf
        change Fr _ _ ((57, (.string (formS k))) :: _) at hf
        refine sqgd (act := true) (g := 2) (want := false) (ag := true) (c := false) hf (by rfl) (by rfl) rfl (fun _ =>  Runs.does (R := fun vq wq => vq = (.int .i64 ((i : Nat) : Int)) ∧ w8 = wq) (r_move rfl) ⟨rfl, rfl⟩) (fun h => by cases h) rfl ?_; clear hf fa; rintro fa _ _ ⟨rfl, rfl⟩ hf
        change Fr _ _ ((58, (.int .i64 ((i : Nat) : Int))) :: _) at hf
        refine sqgd (act := true) (g := 2) (want := false) (ag := true) (c := false) hf (by rfl) (by rfl) rfl (fun _ =>  Runs.does (R := fun vq wq => vq = (.int .u8 ((sbt (formS k) i : Nat) : Int)) ∧ w8 = wq) (r_sindexD (j := i) rfl rfl Try.underlying9 rfl (by omega)) ⟨rfl, rfl⟩) (fun h => by cases h) rfl ?_; clear hf fa; rintro fa _ _ ⟨rfl, rfl⟩ hf
        change Fr _ _ ((59, (.int .u8 ((sbt (formS k) i : Nat) : Int))) :: _) at hf
        refine sqgd (act := true) (g := 2) (want := false) (ag := true) (c := false) hf (by rfl) (by rfl) rfl (fun _ =>  Runs.does (R := fun vq wq => vq = (.string pc.1) ∧ w8 = wq) (r_move rfl) ⟨rfl, rfl⟩) (fun h => by cases h) rfl ?_; clear hf fa; rintro fa _ _ ⟨rfl, rfl⟩ hf
        change Fr _ _ ((60, (.string pc.1)) :: _) at hf
        refine sqgd (act := true) (g := 2) (want := false) (ag := true) (c := false) hf (by rfl) (by rfl) rfl (fun _ =>  (d_callX (vs := [(.pointer (some ⟨b2, 0, none⟩)), (.int .u8 ((sbt (formS k) i : Nat) : Int)), (.string pc.1)]) rfl Try.func60 (by kernel_rfl) (by kernel_rfl) (by have h := take_x b2 (sbt (formS k) i) k pc.1 st w2 w8 hbA hUb2 (hst.ext hbS) (by omega) (hInv.toB (by omega)); rw [htk] at h; exact h)) ) (fun h => by cases h) rfl ?_; clear hf fa; rintro fa _ w9 ⟨rfl, hst2, he7⟩ hf
        replace hbA := he7
        replace hkb1 := blk_ext hk1A hbA
        replace hb := hbw.trans (hbA.mono hbw.size)
        clear hst hbS
        change Fr _ _ ((61, (.bool tk.2)) :: _) at hf
        refine sqgd (act := true) (g := 2) (want := false) (ag := true) (c := false) hf (by rfl) (by rfl) rfl (fun _ =>  Runs.does (R := fun vq wq => vq = (.bool (!tk.2)) ∧ w9 = wq) (r_not rfl) ⟨rfl, rfl⟩) (fun h => by cases h) rfl ?_; clear hf fa; rintro fa _ _ ⟨rfl, rfl⟩ hf
        change Fr _ _ ((62, (.bool (!tk.2))) :: _) at hf
        refine sqv hf (r_pick (b := false) rfl rfl rfl rfl) rfl rfl rfl ?_; clear hf fa; intro fa hf
        apply wpList_nil
        (try simp only [Exit.then, Exit.inBlock, ↓reduceIte, Nat.reduceEqDiff])
        refine hK15 _ _ ?_
        refine wp_cond_split (t := (!tk.2)) (hf.ev rfl) (fun hqt63_1 => ?_) (fun hqt63_1 => ?_)
        · have hqt63_1b := hqt63_1
          try simp only [decide_eq_true_eq, Bool.and_eq_true, Bool.or_eq_true, Bool.not_eq_true', decide_eq_false_iff_not, ne_eq, Bool.not_eq_true] at hqt63_1
          refine wp_seq_k (fun K16 hK16 => ?_)
          skip
          refine wp_region_lit ?_
          refine sqv hf (r_build (vs := []) (cs := #[(.int .i64 (0 : Int)), (.slice none 0 0), (.slice none 0 0), (.slice none 0 0), (.slice none 0 0)]) rfl (fun _ => by kernel_rfl)) rfl rfl rfl ?_; clear hf fa; intro fa hf
          refine sqn hf (d_storeK (T := 45) (v := (.agg #[(.int .i64 (0 : Int)), (.slice none 0 0), (.slice none 0 0), (.slice none 0 0), (.slice none 0 0)])) (cs := #[(.int .i64 (0 : Int)), (.slice none 0 0), (.slice none 0 0), (.slice none 0 0), (.slice none 0 0)]) (cs' := #[(.int .i64 (0 : Int)), (.slice none 0 0), (.slice none 0 0), (.slice none 0 0), (.slice none 0 0)]) rfl rfl (by kernel_rfl) (by kernel_rfl) hkb1 (by kernel_rfl) (by kernel_rfl)) rfl rfl ?_; clear hf fa; rintro fa _ w10 ⟨hk4, hg2⟩ hf
          replace hb := hb.trans (grown_below hg2 hb.size hBb1)
          refine sqv hf (r_assign rfl) rfl rfl rfl ?_; clear hf fa; intro fa hf
          apply wpList_nil
          (try simp only [Exit.then, Exit.inBlock, ↓reduceIte, Nat.reduceEqDiff])
          refine hK16 _ _ ?_
          refine wp_ret ?_
          (try simp only [Exit.then, Exit.inBlock])
          refine retCT hf rfl rfl hk4 Try.underlying45 rfl (by kernel_rfl) rfl ?_
          rw [opP_none hk (parse_bad Hs (by omega) hps.1 htk (by simpa using hqt63_1) (by omega))]; exact ⟨none, 0, none, 0, none, 0, none, 0, rfl, opF_nil _, hb⟩
        · have hqt63_1b := hqt63_1
          replace hqt63_1 := Bool.eq_false_iff.1 hqt63_1
          try simp only [ne_eq, decide_eq_true_eq, Bool.and_eq_true, Bool.or_eq_true, Bool.not_eq_true', decide_eq_false_iff_not] at hqt63_1
          refine wp_skip ?_
          (try simp only [Exit.then, Exit.inBlock, ↓reduceIte, Nat.reduceEqDiff])
          refine hK14 _ _ ?_
          refine wp_seq_k (fun K17 hK17 => ?_)
          have hok : tk.2 = true := by simpa using hqt63_1
          refine wp_region_lit ?_
          refine sqv hf (r_move rfl) rfl rfl rfl ?_; clear hf fa; intro fa hf
          refine sqv hf (r_assign rfl) rfl rfl rfl ?_; clear hf fa; intro fa hf
          apply wpList_nil
          (try simp only [Exit.then, Exit.inBlock, ↓reduceIte, Nat.reduceEqDiff])
          refine hK17 _ _ ?_
          refine wp_seq_k (fun K18 hK18 => ?_)
          refine wp_region_lit ?_
          refine sqv hf (r_move rfl) rfl rfl rfl ?_; clear hf fa; intro fa hf
          refine sqv hf (r_move rfl) rfl rfl rfl ?_; clear hf fa; intro fa hf
          refine sqv hf (r_sindexD (j := i) rfl rfl Try.underlying9 rfl (by omega)) rfl rfl rfl ?_; clear hf fa; intro fa hf
          refine sqv hf (r_eq rfl rfl) rfl rfl rfl ?_; clear hf fa; intro fa hf
          apply wpList_nil
          (try simp only [Exit.then, Exit.inBlock, ↓reduceIte, Nat.reduceEqDiff])
          refine hK18 _ _ ?_
          refine wp_cond_split (t := (decide (((sbt (formS k) i : Nat) : Int) = (97 : Int)))) (hf.ev rfl) (fun hqt69_1 => ?_) (fun hqt69_1 => ?_)
          · have hqt69_1b := hqt69_1
            try simp only [decide_eq_true_eq, Bool.and_eq_true, Bool.or_eq_true, Bool.not_eq_true', decide_eq_false_iff_not, ne_eq, Bool.not_eq_true] at hqt69_1
            refine wp_region_lit ?_
            refine sqv hf (r_move rfl) rfl rfl rfl ?_; clear hf fa; intro fa hf
            refine sqv hf (r_sub (C := (((i : Nat) : Int) - (1 : Int))) rfl rfl (by rw [IntKind.wrap_i64]; omega)) rfl rfl rfl ?_; clear hf fa; intro fa hf
            refine sqv hf (r_assign rfl) rfl rfl rfl ?_; clear hf fa; intro fa hf
            apply wpList_nil
            (try simp only [Exit.then, Exit.inBlock, ↓reduceIte, Nat.reduceEqDiff])
            refine hK10 _ _ ?_
            refine wp_region_lit ?_
            refine sqv hf (r_move rfl) rfl rfl rfl ?_; clear hf fa; intro fa hf
            refine sqv hf (r_add (C := ((((i : Nat) : Int) - (1 : Int)) + (1 : Int))) rfl rfl (by rw [IntKind.wrap_i64]; omega)) rfl rfl rfl ?_; clear hf fa; intro fa hf
            refine sqv hf (r_assign rfl) rfl rfl rfl ?_; clear hf fa; intro fa hf
            apply wpList_nil
            (try simp only [Exit.then, Exit.inBlock, ↓reduceIte, Nat.reduceEqDiff])
            have hi2 := takeP_inv hInv (p := pc.1) (c := sbt (formS k) i) (by omega) (by rw [htk]; exact hok)
            rw [htk] at hi2
            refine hKL1 _ _ _ (by omega) ⟨(fu - 1), i, pc.2.1, tk.1, rfl, hf.sub ⟨rfl, rfl, rfl, rfl, rfl, (some_int (by first | rfl | omega)), trivial⟩, hb, hkb1, hbA, hst2, by omega, (hi2.mono (by omega)), by omega, by omega, (parse_a Hs (by omega) hps.1 htk hok (by omega) (by have h := hqt69_1; omega))⟩
          · have hqt69_1b := hqt69_1
            replace hqt69_1 := Bool.eq_false_iff.1 hqt69_1
            try simp only [ne_eq, decide_eq_true_eq, Bool.and_eq_true, Bool.or_eq_true, Bool.not_eq_true', decide_eq_false_iff_not] at hqt69_1
            refine wp_skip ?_
            (try simp only [Exit.then, Exit.inBlock, ↓reduceIte, Nat.reduceEqDiff])
            refine hK10 _ _ ?_
            refine wp_region_lit ?_
            refine sqv hf (r_move rfl) rfl rfl rfl ?_; clear hf fa; intro fa hf
            refine sqv hf (r_add (C := (((i : Nat) : Int) + (1 : Int))) rfl rfl (by rw [IntKind.wrap_i64]; omega)) rfl rfl rfl ?_; clear hf fa; intro fa hf
            refine sqv hf (r_assign rfl) rfl rfl rfl ?_; clear hf fa; intro fa hf
            apply wpList_nil
            (try simp only [Exit.then, Exit.inBlock, ↓reduceIte, Nat.reduceEqDiff])
            have hi2 := takeP_inv hInv (p := pc.1) (c := sbt (formS k) i) (by omega) (by rw [htk]; exact hok)
            rw [htk] at hi2
            refine hKL1 _ _ _ (by omega) ⟨(fu - 1), (i + 1), pc.2.1, tk.1, rfl, hf.sub ⟨rfl, rfl, rfl, rfl, rfl, (some_int (by first | rfl | omega)), trivial⟩, hb, hkb1, hbA, hst2, by omega, (hi2.mono (by omega)), by omega, by omega, (parse_o Hs (by omega) hps.1 htk hok (by omega) (by have h := hqt69_1; omega))⟩
      · have hsp1b : decide (pc.2.2 = true) = false := decide_eq_false hsp1
        have hpn := pieceS_none hpc hsp1
        refine wp_region_lit ?_
        refine sqv hf (r_move rfl) rfl rfl rfl ?_; clear hf fa; intro fa hf
        refine sqv hf (Runs.veq (r_not rfl) (congrArg Value.bool (show _ = true from (by rw [Bool.eq_false_iff.2 hsp1]; rfl)))) rfl rfl rfl ?_; clear hf fa; intro fa hf
        refine sqv hf (r_move rfl) rfl rfl rfl ?_; clear hf fa; intro fa hf
        refine sqgd (act := true) (g := 2) (want := true) (ag := true) (c := true) hf (by rfl) (by rfl) rfl (fun _ =>  Runs.does (R := fun vq wq => vq = (.string (formS k)) ∧ w8 = wq) (r_move rfl) ⟨rfl, rfl⟩) (fun h => by cases h) rfl ?_; clear hf fa; rintro fa _ _ ⟨rfl, rfl⟩ hf
        change Fr _ _ ((49, (.string (formS k))) :: _) at hf
        refine sqgd (act := true) (g := 2) (want := true) (ag := true) (c := true) hf (by rfl) (by rfl) rfl (fun _ =>  Runs.does (R := fun vq wq => vq = (.int .i64 ((i : Nat) : Int)) ∧ w8 = wq) (r_move rfl) ⟨rfl, rfl⟩) (fun h => by cases h) rfl ?_; clear hf fa; rintro fa _ _ ⟨rfl, rfl⟩ hf
        change Fr _ _ ((50, (.int .i64 ((i : Nat) : Int))) :: _) at hf
        refine sqgd (act := true) (g := 2) (want := true) (ag := true) (c := true) hf (by rfl) (by rfl) rfl (fun _ =>  Runs.does (R := fun vq wq => vq = (.int .u8 ((sbt (formS k) i : Nat) : Int)) ∧ w8 = wq) (r_sindexD (j := i) rfl rfl Try.underlying9 rfl (by omega)) ⟨rfl, rfl⟩) (fun h => by cases h) rfl ?_; clear hf fa; rintro fa _ _ ⟨rfl, rfl⟩ hf
        change Fr _ _ ((51, (.int .u8 ((sbt (formS k) i : Nat) : Int))) :: _) at hf
        refine sqgd (act := true) (g := 2) (want := true) (ag := true) (c := true) hf (by rfl) (by rfl) rfl (fun _ =>  Runs.does (R := fun vq wq => vq = (.bool (decide (((sbt (formS k) i : Nat) : Int) = (97 : Int)))) ∧ w8 = wq) (r_eq rfl rfl) ⟨rfl, rfl⟩) (fun h => by cases h) rfl ?_; clear hf fa; rintro fa _ _ ⟨rfl, rfl⟩ hf
        change Fr _ _ ((52, (.bool (decide (((sbt (formS k) i : Nat) : Int) = (97 : Int))))) :: _) at hf
        refine sqv hf (r_pick (b := true) rfl rfl rfl rfl) rfl rfl rfl ?_; clear hf fa; intro fa hf
        apply wpList_nil
        (try simp only [Exit.then, Exit.inBlock, ↓reduceIte, Nat.reduceEqDiff])
        refine hK13 _ _ ?_
        refine wp_cond_split (t := (decide (((sbt (formS k) i : Nat) : Int) = (97 : Int)))) (hf.ev rfl) (fun hqt53_2 => ?_) (fun hqt53_2 => ?_)
        · have hqt53_2b := hqt53_2
          try simp only [decide_eq_true_eq, Bool.and_eq_true, Bool.or_eq_true, Bool.not_eq_true', decide_eq_false_iff_not, ne_eq, Bool.not_eq_true] at hqt53_2
          refine wp_exit ?_
          (try simp only [Exit.then, Exit.inBlock, ↓reduceIte, Nat.reduceEqDiff])
          refine hK6 _ _ ?_
          refine wp_seq_k (fun K19 hK19 => ?_)
          refine wp_seq_k (fun K20 hK20 => ?_)
          have hX : parseP (l.size + 1) (bl (formS k)) ((bl l).drop (posB l 32)) st0 = some st := parse_na Hs (by omega) hpn (by omega) (by have h := hqt53_2; omega)
          obtain ⟨aN, cN, aS, cS, aA, cA, aD, cD, hk2, hrN, hrS, hrA, hrD⟩ := hst.ext hbS
          have hBf : OpB st := hInv.toB (by omega)
          by_cases hsp2 : rightP k st = true
          · have hsp2b : decide (rightP k st = true) = true := decide_eq_true hsp2
            skip
            refine wp_region_lit ?_
            refine sqv hf (r_loadA (cs := [(.int .i64 k), (.slice aN st.N.length cN), (.slice aS st.S.length cS), (.slice aA st.A.length cA), (.slice aD st.D.length cD)]) rfl Try.underlying45 rfl (by kernel_rfl) (cellsAt_blk hk2)) rfl rfl rfl ?_; clear hf fa; intro fa hf
            refine sqdt hf (d_callB (v := (.bool true)) (vs := [(.agg #[(.int .i64 k), (.slice aN st.N.length cN), (.slice aS st.S.length cS), (.slice aA st.A.length cA), (.slice aD st.D.length cD)])]) rfl Try.func19 (by kernel_rfl) (by kernel_rfl) (by have h := right_any k st aN aS aA aD cN cS cA cD w8 ⟨Row.rd (by intros; rfl) hrN, Row.rd (by intros; rfl) hrS, Row.rd (by intros; rfl) hrA, Row.rd (by intros; rfl) hrD⟩ hBf; rw [hsp2] at h; exact h)) rfl rfl rfl ?_; clear hf fa; rintro fa _ w11 ⟨rfl, he8⟩ hf
            replace hkb1 := blk_ext hkb1 he8
            replace hk2 := blk_ext hk2 he8
            replace hrN := Row.ext hrN he8
            replace hrS := Row.ext hrS he8
            replace hrA := Row.ext hrA he8
            replace hrD := Row.ext hrD he8
            replace hb := hb.trans (Below.mono he8 hb.size)
            refine sqv hf (Runs.veq (v' := (.bool false)) (r_not rfl) rfl) rfl rfl rfl ?_; clear hf fa; intro fa hf
            refine sqv hf (r_move rfl) rfl rfl rfl ?_; clear hf fa; intro fa hf
            refine sqgd (act := true) (g := 3) (want := false) (ag := true) (c := false) hf (by rfl) (by rfl) rfl (fun _ =>  Runs.does (R := fun vq wq => vq = (.agg #[(.int .i64 k), (.slice aN st.N.length cN), (.slice aS st.S.length cS), (.slice aA st.A.length cA), (.slice aD st.D.length cD)]) ∧ w11 = wq) (r_loadA (cs := [(.int .i64 k), (.slice aN st.N.length cN), (.slice aS st.S.length cS), (.slice aA st.A.length cA), (.slice aD st.D.length cD)]) rfl Try.underlying45 rfl (by kernel_rfl) (cellsAt_blk hk2)) ⟨rfl, rfl⟩) (fun h => by cases h) rfl ?_; clear hf fa; rintro fa _ _ ⟨rfl, rfl⟩ hf
            change Fr _ _ ((76, (.agg #[(.int .i64 k), (.slice aN st.N.length cN), (.slice aS st.S.length cS), (.slice aA st.A.length cA), (.slice aD st.D.length cD)])) :: _) at hf
            refine sqgd (act := true) (g := 3) (want := false) (ag := true) (c := false) hf (by rfl) (by rfl) rfl (fun _ =>  (d_callB (v := (.string (lineS k st))) (vs := [(.agg #[(.int .i64 k), (.slice aN st.N.length cN), (.slice aS st.S.length cS), (.slice aA st.A.length cA), (.slice aD st.D.length cD)])]) rfl Try.func14 (by kernel_rfl) (by kernel_rfl) (by have h := line_any k st aN aS aA aD cN cS cA cD w11 ⟨Row.rd (by intros; rfl) hrN, Row.rd (by intros; rfl) hrS, Row.rd (by intros; rfl) hrA, Row.rd (by intros; rfl) hrD⟩ hBf; rw [if_pos hsp2] at h; exact h)) ) (fun h => by cases h) rfl ?_; clear hf fa; rintro fa _ w12 ⟨rfl, he9⟩ hf
            replace hkb1 := blk_ext hkb1 he9
            replace hk2 := blk_ext hk2 he9
            replace hrN := Row.ext hrN he9
            replace hrS := Row.ext hrS he9
            replace hrA := Row.ext hrA he9
            replace hrD := Row.ext hrD he9
            replace hb := hb.trans (Below.mono he9 hb.size)
            change Fr _ _ ((77, (.string (lineS k st))) :: _) at hf
            refine sqgd (act := true) (g := 3) (want := false) (ag := true) (c := false) hf (by rfl) (by rfl) rfl (fun _ =>  Runs.does (R := fun vq wq => vq = (.string l) ∧ w12 = wq) (r_move rfl) ⟨rfl, rfl⟩) (fun h => by cases h) rfl ?_; clear hf fa; rintro fa _ _ ⟨rfl, rfl⟩ hf
            change Fr _ _ ((78, (.string l)) :: _) at hf
            refine sqgd (act := true) (g := 3) (want := false) (ag := true) (c := false) hf (by rfl) (by rfl) rfl (fun _ =>  Runs.does (R := fun vq wq => vq = (.bool (decide ((lineS k st) ≠ l))) ∧ w12 = wq) (r_sne rfl rfl) ⟨rfl, rfl⟩) (fun h => by cases h) rfl ?_; clear hf fa; rintro fa _ _ ⟨rfl, rfl⟩ hf
            change Fr _ _ ((79, (.bool (decide ((lineS k st) ≠ l)))) :: _) at hf
            refine sqv hf (r_pick (b := false) rfl rfl rfl rfl) rfl rfl rfl ?_; clear hf fa; intro fa hf
            apply wpList_nil
            (try simp only [Exit.then, Exit.inBlock, ↓reduceIte, Nat.reduceEqDiff])
            refine hK20 _ _ ?_
            refine wp_cond_split (t := (decide ((lineS k st) ≠ l))) (hf.ev rfl) (fun hqt80_1 => ?_) (fun hqt80_1 => ?_)
            · have hqt80_1b := hqt80_1
              try simp only [decide_eq_true_eq, Bool.and_eq_true, Bool.or_eq_true, Bool.not_eq_true', decide_eq_false_iff_not, ne_eq, Bool.not_eq_true] at hqt80_1
              refine wp_seq_k (fun K21 hK21 => ?_)
              refine wp_region_lit ?_
              refine sqv hf (r_build (vs := []) (cs := #[(.int .i64 (0 : Int)), (.slice none 0 0), (.slice none 0 0), (.slice none 0 0), (.slice none 0 0)]) rfl (fun _ => by kernel_rfl)) rfl rfl rfl ?_; clear hf fa; intro fa hf
              refine sqn hf (d_storeK (T := 45) (v := (.agg #[(.int .i64 (0 : Int)), (.slice none 0 0), (.slice none 0 0), (.slice none 0 0), (.slice none 0 0)])) (cs := #[(.int .i64 (0 : Int)), (.slice none 0 0), (.slice none 0 0), (.slice none 0 0), (.slice none 0 0)]) (cs' := #[(.int .i64 (0 : Int)), (.slice none 0 0), (.slice none 0 0), (.slice none 0 0), (.slice none 0 0)]) rfl rfl (by kernel_rfl) (by kernel_rfl) hkb1 (by kernel_rfl) (by kernel_rfl)) rfl rfl ?_; clear hf fa; rintro fa _ w13 ⟨hk5, hg3⟩ hf
              replace hk2 := blk_grown hk2 hg3 (by omega)
              replace hrN := Row.grown hrN hg3 (Row.ne_type hrN hkb1 rfl)
              replace hrS := Row.grown hrS hg3 (Row.ne_type hrS hkb1 rfl)
              replace hrA := Row.grown hrA hg3 (Row.ne_type hrA hkb1 rfl)
              replace hrD := Row.grown hrD hg3 (Row.ne_type hrD hkb1 rfl)
              replace hb := hb.trans (grown_below hg3 hb.size hBb1)
              refine sqv hf (r_assign rfl) rfl rfl rfl ?_; clear hf fa; intro fa hf
              apply wpList_nil
              (try simp only [Exit.then, Exit.inBlock, ↓reduceIte, Nat.reduceEqDiff])
              refine hK21 _ _ ?_
              refine wp_ret ?_
              (try simp only [Exit.then, Exit.inBlock])
              refine retCT hf rfl rfl hk5 Try.underlying45 rfl (by kernel_rfl) rfl ?_
              rw [opP_some hk hX, if_neg (fun h => hqt80_1 h.2)]; exact ⟨none, 0, none, 0, none, 0, none, 0, rfl, opF_nil _, hb⟩
            · have hqt80_1b := hqt80_1
              replace hqt80_1 := Bool.eq_false_iff.1 hqt80_1
              try simp only [ne_eq, decide_eq_true_eq, Bool.and_eq_true, Bool.or_eq_true, Bool.not_eq_true', decide_eq_false_iff_not] at hqt80_1
              refine wp_skip ?_
              (try simp only [Exit.then, Exit.inBlock, ↓reduceIte, Nat.reduceEqDiff])
              refine hK19 _ _ ?_
              refine wp_seq_k (fun K22 hK22 => ?_)
              refine wp_region_lit ?_
              refine sqv hf (r_loadA (cs := [(.int .i64 k), (.slice aN st.N.length cN), (.slice aS st.S.length cS), (.slice aA st.A.length cA), (.slice aD st.D.length cD)]) rfl Try.underlying45 rfl (by kernel_rfl) (cellsAt_blk hk2)) rfl rfl rfl ?_; clear hf fa; intro fa hf
              refine sqn hf (d_storeK (T := 45) (v := (.agg #[(.int .i64 k), (.slice aN st.N.length cN), (.slice aS st.S.length cS), (.slice aA st.A.length cA), (.slice aD st.D.length cD)])) (cs := #[(.int .i64 (0 : Int)), (.slice none 0 0), (.slice none 0 0), (.slice none 0 0), (.slice none 0 0)]) (cs' := #[(.int .i64 k), (.slice aN st.N.length cN), (.slice aS st.S.length cS), (.slice aA st.A.length cA), (.slice aD st.D.length cD)]) rfl rfl (by kernel_rfl) (by kernel_rfl) hkb1 (by kernel_rfl) (by kernel_rfl)) rfl rfl ?_; clear hf fa; rintro fa _ w14 ⟨hk6, hg4⟩ hf
              replace hk2 := blk_grown hk2 hg4 (by omega)
              replace hrN := Row.grown hrN hg4 (Row.ne_type hrN hkb1 rfl)
              replace hrS := Row.grown hrS hg4 (Row.ne_type hrS hkb1 rfl)
              replace hrA := Row.grown hrA hg4 (Row.ne_type hrA hkb1 rfl)
              replace hrD := Row.grown hrD hg4 (Row.ne_type hrD hkb1 rfl)
              replace hb := hb.trans (grown_below hg4 hb.size hBb1)
              refine sqv hf (r_assign rfl) rfl rfl rfl ?_; clear hf fa; intro fa hf
              apply wpList_nil
              (try simp only [Exit.then, Exit.inBlock, ↓reduceIte, Nat.reduceEqDiff])
              refine hK22 _ _ ?_
              refine wp_ret ?_
              (try simp only [Exit.then, Exit.inBlock])
              refine retCT hf rfl rfl hk6 Try.underlying45 rfl (by kernel_rfl) rfl ?_
              rw [opP_some hk hX, if_pos ⟨hsp2, Classical.byContradiction hqt80_1⟩]; exact ⟨aN, cN, aS, cS, aA, cA, aD, cD, rfl, ⟨Row.rd (by intros; rfl) hrN, Row.rd (by intros; rfl) hrS, Row.rd (by intros; rfl) hrA, Row.rd (by intros; rfl) hrD⟩, hb⟩
          · have hsp2b : decide (rightP k st = true) = false := decide_eq_false hsp2
            skip
            refine wp_region_lit ?_
            refine sqv hf (r_loadA (cs := [(.int .i64 k), (.slice aN st.N.length cN), (.slice aS st.S.length cS), (.slice aA st.A.length cA), (.slice aD st.D.length cD)]) rfl Try.underlying45 rfl (by kernel_rfl) (cellsAt_blk hk2)) rfl rfl rfl ?_; clear hf fa; intro fa hf
            refine sqdt hf (d_callB (v := (.bool false)) (vs := [(.agg #[(.int .i64 k), (.slice aN st.N.length cN), (.slice aS st.S.length cS), (.slice aA st.A.length cA), (.slice aD st.D.length cD)])]) rfl Try.func19 (by kernel_rfl) (by kernel_rfl) (by have h := right_any k st aN aS aA aD cN cS cA cD w8 ⟨Row.rd (by intros; rfl) hrN, Row.rd (by intros; rfl) hrS, Row.rd (by intros; rfl) hrA, Row.rd (by intros; rfl) hrD⟩ hBf; rw [Bool.eq_false_iff.2 hsp2] at h; exact h)) rfl rfl rfl ?_; clear hf fa; rintro fa _ w15 ⟨rfl, he10⟩ hf
            replace hkb1 := blk_ext hkb1 he10
            replace hk2 := blk_ext hk2 he10
            replace hrN := Row.ext hrN he10
            replace hrS := Row.ext hrS he10
            replace hrA := Row.ext hrA he10
            replace hrD := Row.ext hrD he10
            replace hb := hb.trans (Below.mono he10 hb.size)
            refine sqv hf (Runs.veq (v' := (.bool true)) (r_not rfl) rfl) rfl rfl rfl ?_; clear hf fa; intro fa hf
            refine sqv hf (r_move rfl) rfl rfl rfl ?_; clear hf fa; intro fa hf
            refine sqgF (act := false) (ag := true) (c := true) (v := .bool false) hf rfl rfl rfl (fun hact => by cases hact) rfl rfl ?_; clear hf fa; intro fa hf
            refine sqgF (act := false) (ag := true) (c := true) (v := .bool false) hf rfl rfl rfl (fun hact => by cases hact) rfl rfl ?_; clear hf fa; intro fa hf
            refine sqgF (act := false) (ag := true) (c := true) (v := .bool false) hf rfl rfl rfl (fun hact => by cases hact) rfl rfl ?_; clear hf fa; intro fa hf
            refine sqgF (act := false) (ag := true) (c := true) (v := .bool false) hf rfl rfl rfl (fun hact => by cases hact) rfl rfl ?_; clear hf fa; intro fa hf
            refine sqv hf (r_pick (b := true) rfl rfl rfl rfl) rfl rfl rfl ?_; clear hf fa; intro fa hf
            apply wpList_nil
            (try simp only [Exit.then, Exit.inBlock, ↓reduceIte, Nat.reduceEqDiff])
            refine hK20 _ _ ?_
            refine wp_cond_true (hf.ev rfl) ?_
            refine wp_seq_k (fun K23 hK23 => ?_)
            refine wp_region_lit ?_
            refine sqv hf (r_build (vs := []) (cs := #[(.int .i64 (0 : Int)), (.slice none 0 0), (.slice none 0 0), (.slice none 0 0), (.slice none 0 0)]) rfl (fun _ => by kernel_rfl)) rfl rfl rfl ?_; clear hf fa; intro fa hf
            refine sqn hf (d_storeK (T := 45) (v := (.agg #[(.int .i64 (0 : Int)), (.slice none 0 0), (.slice none 0 0), (.slice none 0 0), (.slice none 0 0)])) (cs := #[(.int .i64 (0 : Int)), (.slice none 0 0), (.slice none 0 0), (.slice none 0 0), (.slice none 0 0)]) (cs' := #[(.int .i64 (0 : Int)), (.slice none 0 0), (.slice none 0 0), (.slice none 0 0), (.slice none 0 0)]) rfl rfl (by kernel_rfl) (by kernel_rfl) hkb1 (by kernel_rfl) (by kernel_rfl)) rfl rfl ?_; clear hf fa; rintro fa _ w16 ⟨hk7, hg5⟩ hf
            replace hk2 := blk_grown hk2 hg5 (by omega)
            replace hrN := Row.grown hrN hg5 (Row.ne_type hrN hkb1 rfl)
            replace hrS := Row.grown hrS hg5 (Row.ne_type hrS hkb1 rfl)
            replace hrA := Row.grown hrA hg5 (Row.ne_type hrA hkb1 rfl)
            replace hrD := Row.grown hrD hg5 (Row.ne_type hrD hkb1 rfl)
            replace hb := hb.trans (grown_below hg5 hb.size hBb1)
            refine sqv hf (r_assign rfl) rfl rfl rfl ?_; clear hf fa; intro fa hf
            apply wpList_nil
            (try simp only [Exit.then, Exit.inBlock, ↓reduceIte, Nat.reduceEqDiff])
            refine hK23 _ _ ?_
            refine wp_ret ?_
            (try simp only [Exit.then, Exit.inBlock])
            refine retCT hf rfl rfl hk7 Try.underlying45 rfl (by kernel_rfl) rfl ?_
            rw [opP_some hk hX, if_neg (fun h => hsp2 h.1)]; exact ⟨none, 0, none, 0, none, 0, none, 0, rfl, opF_nil _, hb⟩
        · have hqt53_2b := hqt53_2
          replace hqt53_2 := Bool.eq_false_iff.1 hqt53_2
          try simp only [ne_eq, decide_eq_true_eq, Bool.and_eq_true, Bool.or_eq_true, Bool.not_eq_true', decide_eq_false_iff_not] at hqt53_2
          refine wp_skip ?_
          (try simp only [Exit.then, Exit.inBlock, ↓reduceIte, Nat.reduceEqDiff])
          refine hK12 _ _ ?_
          refine wp_seq_k (fun K24 hK24 => ?_)
          refine wp_seq_k (fun K25 hK25 => ?_)
          skip
          refine wp_region_lit ?_
          refine sqv hf (r_move rfl) rfl rfl rfl ?_; clear hf fa; intro fa hf
          refine sqv hf (Runs.veq (r_not rfl) (congrArg Value.bool (show _ = true from (by rw [Bool.eq_false_iff.2 hsp1]; rfl)))) rfl rfl rfl ?_; clear hf fa; intro fa hf
          refine sqv hf (r_move rfl) rfl rfl rfl ?_; clear hf fa; intro fa hf
          refine sqgF (act := false) (ag := true) (c := true) (v := .bool false) hf rfl rfl rfl (fun hact => by cases hact) rfl rfl ?_; clear hf fa; intro fa hf
          refine sqgF (act := false) (ag := true) (c := true) (v := .bool false) hf rfl rfl rfl (fun hact => by cases hact) rfl rfl ?_; clear hf fa; intro fa hf
          refine sqgF (act := false) (ag := true) (c := true) (v := .bool false) hf rfl rfl rfl (fun hact => by cases hact) rfl rfl ?_; clear hf fa; intro fa hf
          refine sqgF (act := false) (ag := true) (c := true) (v := .bool false) hf rfl rfl rfl (fun hact => by cases hact) rfl rfl ?_; clear hf fa; intro fa hf
          refine sqgF (act := false) (ag := true) (c := true) (v := .bool false) hf rfl rfl rfl (fun hact => by cases hact) rfl rfl ?_; clear hf fa; intro fa hf
          refine sqgF (act := false) (ag := true) (c := true) (v := .bool false) hf rfl rfl rfl (fun hact => by cases hact) rfl rfl ?_; clear hf fa; intro fa hf
          refine sqv hf (r_pick (b := true) rfl rfl rfl rfl) rfl rfl rfl ?_; clear hf fa; intro fa hf
          apply wpList_nil
          (try simp only [Exit.then, Exit.inBlock, ↓reduceIte, Nat.reduceEqDiff])
          refine hK25 _ _ ?_
          refine wp_cond_true (hf.ev rfl) ?_
          refine wp_seq_k (fun K26 hK26 => ?_)
          skip
          refine wp_region_lit ?_
          refine sqv hf (r_build (vs := []) (cs := #[(.int .i64 (0 : Int)), (.slice none 0 0), (.slice none 0 0), (.slice none 0 0), (.slice none 0 0)]) rfl (fun _ => by kernel_rfl)) rfl rfl rfl ?_; clear hf fa; intro fa hf
          refine sqn hf (d_storeK (T := 45) (v := (.agg #[(.int .i64 (0 : Int)), (.slice none 0 0), (.slice none 0 0), (.slice none 0 0), (.slice none 0 0)])) (cs := #[(.int .i64 (0 : Int)), (.slice none 0 0), (.slice none 0 0), (.slice none 0 0), (.slice none 0 0)]) (cs' := #[(.int .i64 (0 : Int)), (.slice none 0 0), (.slice none 0 0), (.slice none 0 0), (.slice none 0 0)]) rfl rfl (by kernel_rfl) (by kernel_rfl) hkb1 (by kernel_rfl) (by kernel_rfl)) rfl rfl ?_; clear hf fa; rintro fa _ w17 ⟨hk8, hg6⟩ hf
          replace hb := hb.trans (grown_below hg6 hb.size hBb1)
          refine sqv hf (r_assign rfl) rfl rfl rfl ?_; clear hf fa; intro fa hf
          apply wpList_nil
          (try simp only [Exit.then, Exit.inBlock, ↓reduceIte, Nat.reduceEqDiff])
          refine hK26 _ _ ?_
          refine wp_ret ?_
          (try simp only [Exit.then, Exit.inBlock])
          refine retCT hf rfl rfl hk8 Try.underlying45 rfl (by kernel_rfl) rfl ?_
          rw [opP_none hk (parse_no Hs (by omega) hpn (by omega) (by have h := hqt53_2; omega))]; exact ⟨none, 0, none, 0, none, 0, none, 0, rfl, opF_nil _, hb⟩
    · have hqt37_1b := hqt37_1
      replace hqt37_1 := Bool.eq_false_iff.1 hqt37_1
      try simp only [ne_eq, decide_eq_true_eq, Bool.and_eq_true, Bool.or_eq_true, Bool.not_eq_true', decide_eq_false_iff_not] at hqt37_1
      refine wp_exit ?_
      (try simp only [Exit.then, Exit.inBlock, ↓reduceIte, Nat.reduceEqDiff])
      refine hK6 _ _ ?_
      refine wp_seq_k (fun K27 hK27 => ?_)
      refine wp_seq_k (fun K28 hK28 => ?_)
      have hX : parseP (l.size + 1) (bl (formS k)) ((bl l).drop (posB l 32)) st0 = some st := parse_end Hs (by omega) (by omega)
      obtain ⟨aN, cN, aS, cS, aA, cA, aD, cD, hk2, hrN, hrS, hrA, hrD⟩ := hst.ext hbS
      have hBf : OpB st := hInv.toB (by omega)
      by_cases hsp3 : rightP k st = true
      · have hsp3b : decide (rightP k st = true) = true := decide_eq_true hsp3
        skip
        refine wp_region_lit ?_
        refine sqv hf (r_loadA (cs := [(.int .i64 k), (.slice aN st.N.length cN), (.slice aS st.S.length cS), (.slice aA st.A.length cA), (.slice aD st.D.length cD)]) rfl Try.underlying45 rfl (by kernel_rfl) (cellsAt_blk hk2)) rfl rfl rfl ?_; clear hf fa; intro fa hf
        refine sqdt hf (d_callB (v := (.bool true)) (vs := [(.agg #[(.int .i64 k), (.slice aN st.N.length cN), (.slice aS st.S.length cS), (.slice aA st.A.length cA), (.slice aD st.D.length cD)])]) rfl Try.func19 (by kernel_rfl) (by kernel_rfl) (by have h := right_any k st aN aS aA aD cN cS cA cD w7 ⟨Row.rd (by intros; rfl) hrN, Row.rd (by intros; rfl) hrS, Row.rd (by intros; rfl) hrA, Row.rd (by intros; rfl) hrD⟩ hBf; rw [hsp3] at h; exact h)) rfl rfl rfl ?_; clear hf fa; rintro fa _ w18 ⟨rfl, he11⟩ hf
        replace hkb1 := blk_ext hkb1 he11
        replace hk2 := blk_ext hk2 he11
        replace hrN := Row.ext hrN he11
        replace hrS := Row.ext hrS he11
        replace hrA := Row.ext hrA he11
        replace hrD := Row.ext hrD he11
        replace hb := hb.trans (Below.mono he11 hb.size)
        refine sqv hf (Runs.veq (v' := (.bool false)) (r_not rfl) rfl) rfl rfl rfl ?_; clear hf fa; intro fa hf
        refine sqv hf (r_move rfl) rfl rfl rfl ?_; clear hf fa; intro fa hf
        refine sqgd (act := true) (g := 3) (want := false) (ag := true) (c := false) hf (by rfl) (by rfl) rfl (fun _ =>  Runs.does (R := fun vq wq => vq = (.agg #[(.int .i64 k), (.slice aN st.N.length cN), (.slice aS st.S.length cS), (.slice aA st.A.length cA), (.slice aD st.D.length cD)]) ∧ w18 = wq) (r_loadA (cs := [(.int .i64 k), (.slice aN st.N.length cN), (.slice aS st.S.length cS), (.slice aA st.A.length cA), (.slice aD st.D.length cD)]) rfl Try.underlying45 rfl (by kernel_rfl) (cellsAt_blk hk2)) ⟨rfl, rfl⟩) (fun h => by cases h) rfl ?_; clear hf fa; rintro fa _ _ ⟨rfl, rfl⟩ hf
        change Fr _ _ ((76, (.agg #[(.int .i64 k), (.slice aN st.N.length cN), (.slice aS st.S.length cS), (.slice aA st.A.length cA), (.slice aD st.D.length cD)])) :: _) at hf
        refine sqgd (act := true) (g := 3) (want := false) (ag := true) (c := false) hf (by rfl) (by rfl) rfl (fun _ =>  (d_callB (v := (.string (lineS k st))) (vs := [(.agg #[(.int .i64 k), (.slice aN st.N.length cN), (.slice aS st.S.length cS), (.slice aA st.A.length cA), (.slice aD st.D.length cD)])]) rfl Try.func14 (by kernel_rfl) (by kernel_rfl) (by have h := line_any k st aN aS aA aD cN cS cA cD w18 ⟨Row.rd (by intros; rfl) hrN, Row.rd (by intros; rfl) hrS, Row.rd (by intros; rfl) hrA, Row.rd (by intros; rfl) hrD⟩ hBf; rw [if_pos hsp3] at h; exact h)) ) (fun h => by cases h) rfl ?_; clear hf fa; rintro fa _ w19 ⟨rfl, he12⟩ hf
        replace hkb1 := blk_ext hkb1 he12
        replace hk2 := blk_ext hk2 he12
        replace hrN := Row.ext hrN he12
        replace hrS := Row.ext hrS he12
        replace hrA := Row.ext hrA he12
        replace hrD := Row.ext hrD he12
        replace hb := hb.trans (Below.mono he12 hb.size)
        change Fr _ _ ((77, (.string (lineS k st))) :: _) at hf
        refine sqgd (act := true) (g := 3) (want := false) (ag := true) (c := false) hf (by rfl) (by rfl) rfl (fun _ =>  Runs.does (R := fun vq wq => vq = (.string l) ∧ w19 = wq) (r_move rfl) ⟨rfl, rfl⟩) (fun h => by cases h) rfl ?_; clear hf fa; rintro fa _ _ ⟨rfl, rfl⟩ hf
        change Fr _ _ ((78, (.string l)) :: _) at hf
        refine sqgd (act := true) (g := 3) (want := false) (ag := true) (c := false) hf (by rfl) (by rfl) rfl (fun _ =>  Runs.does (R := fun vq wq => vq = (.bool (decide ((lineS k st) ≠ l))) ∧ w19 = wq) (r_sne rfl rfl) ⟨rfl, rfl⟩) (fun h => by cases h) rfl ?_; clear hf fa; rintro fa _ _ ⟨rfl, rfl⟩ hf
        change Fr _ _ ((79, (.bool (decide ((lineS k st) ≠ l)))) :: _) at hf
        refine sqv hf (r_pick (b := false) rfl rfl rfl rfl) rfl rfl rfl ?_; clear hf fa; intro fa hf
        apply wpList_nil
        (try simp only [Exit.then, Exit.inBlock, ↓reduceIte, Nat.reduceEqDiff])
        refine hK28 _ _ ?_
        refine wp_cond_split (t := (decide ((lineS k st) ≠ l))) (hf.ev rfl) (fun hqt80_3 => ?_) (fun hqt80_3 => ?_)
        · have hqt80_3b := hqt80_3
          try simp only [decide_eq_true_eq, Bool.and_eq_true, Bool.or_eq_true, Bool.not_eq_true', decide_eq_false_iff_not, ne_eq, Bool.not_eq_true] at hqt80_3
          refine wp_seq_k (fun K29 hK29 => ?_)
          refine wp_region_lit ?_
          refine sqv hf (r_build (vs := []) (cs := #[(.int .i64 (0 : Int)), (.slice none 0 0), (.slice none 0 0), (.slice none 0 0), (.slice none 0 0)]) rfl (fun _ => by kernel_rfl)) rfl rfl rfl ?_; clear hf fa; intro fa hf
          refine sqn hf (d_storeK (T := 45) (v := (.agg #[(.int .i64 (0 : Int)), (.slice none 0 0), (.slice none 0 0), (.slice none 0 0), (.slice none 0 0)])) (cs := #[(.int .i64 (0 : Int)), (.slice none 0 0), (.slice none 0 0), (.slice none 0 0), (.slice none 0 0)]) (cs' := #[(.int .i64 (0 : Int)), (.slice none 0 0), (.slice none 0 0), (.slice none 0 0), (.slice none 0 0)]) rfl rfl (by kernel_rfl) (by kernel_rfl) hkb1 (by kernel_rfl) (by kernel_rfl)) rfl rfl ?_; clear hf fa; rintro fa _ w20 ⟨hk9, hg7⟩ hf
          replace hk2 := blk_grown hk2 hg7 (by omega)
          replace hrN := Row.grown hrN hg7 (Row.ne_type hrN hkb1 rfl)
          replace hrS := Row.grown hrS hg7 (Row.ne_type hrS hkb1 rfl)
          replace hrA := Row.grown hrA hg7 (Row.ne_type hrA hkb1 rfl)
          replace hrD := Row.grown hrD hg7 (Row.ne_type hrD hkb1 rfl)
          replace hb := hb.trans (grown_below hg7 hb.size hBb1)
          refine sqv hf (r_assign rfl) rfl rfl rfl ?_; clear hf fa; intro fa hf
          apply wpList_nil
          (try simp only [Exit.then, Exit.inBlock, ↓reduceIte, Nat.reduceEqDiff])
          refine hK29 _ _ ?_
          refine wp_ret ?_
          (try simp only [Exit.then, Exit.inBlock])
          refine retCT hf rfl rfl hk9 Try.underlying45 rfl (by kernel_rfl) rfl ?_
          rw [opP_some hk hX, if_neg (fun h => hqt80_3 h.2)]; exact ⟨none, 0, none, 0, none, 0, none, 0, rfl, opF_nil _, hb⟩
        · have hqt80_3b := hqt80_3
          replace hqt80_3 := Bool.eq_false_iff.1 hqt80_3
          try simp only [ne_eq, decide_eq_true_eq, Bool.and_eq_true, Bool.or_eq_true, Bool.not_eq_true', decide_eq_false_iff_not] at hqt80_3
          refine wp_skip ?_
          (try simp only [Exit.then, Exit.inBlock, ↓reduceIte, Nat.reduceEqDiff])
          refine hK27 _ _ ?_
          refine wp_seq_k (fun K30 hK30 => ?_)
          refine wp_region_lit ?_
          refine sqv hf (r_loadA (cs := [(.int .i64 k), (.slice aN st.N.length cN), (.slice aS st.S.length cS), (.slice aA st.A.length cA), (.slice aD st.D.length cD)]) rfl Try.underlying45 rfl (by kernel_rfl) (cellsAt_blk hk2)) rfl rfl rfl ?_; clear hf fa; intro fa hf
          refine sqn hf (d_storeK (T := 45) (v := (.agg #[(.int .i64 k), (.slice aN st.N.length cN), (.slice aS st.S.length cS), (.slice aA st.A.length cA), (.slice aD st.D.length cD)])) (cs := #[(.int .i64 (0 : Int)), (.slice none 0 0), (.slice none 0 0), (.slice none 0 0), (.slice none 0 0)]) (cs' := #[(.int .i64 k), (.slice aN st.N.length cN), (.slice aS st.S.length cS), (.slice aA st.A.length cA), (.slice aD st.D.length cD)]) rfl rfl (by kernel_rfl) (by kernel_rfl) hkb1 (by kernel_rfl) (by kernel_rfl)) rfl rfl ?_; clear hf fa; rintro fa _ w21 ⟨hk10, hg8⟩ hf
          replace hk2 := blk_grown hk2 hg8 (by omega)
          replace hrN := Row.grown hrN hg8 (Row.ne_type hrN hkb1 rfl)
          replace hrS := Row.grown hrS hg8 (Row.ne_type hrS hkb1 rfl)
          replace hrA := Row.grown hrA hg8 (Row.ne_type hrA hkb1 rfl)
          replace hrD := Row.grown hrD hg8 (Row.ne_type hrD hkb1 rfl)
          replace hb := hb.trans (grown_below hg8 hb.size hBb1)
          refine sqv hf (r_assign rfl) rfl rfl rfl ?_; clear hf fa; intro fa hf
          apply wpList_nil
          (try simp only [Exit.then, Exit.inBlock, ↓reduceIte, Nat.reduceEqDiff])
          refine hK30 _ _ ?_
          refine wp_ret ?_
          (try simp only [Exit.then, Exit.inBlock])
          refine retCT hf rfl rfl hk10 Try.underlying45 rfl (by kernel_rfl) rfl ?_
          rw [opP_some hk hX, if_pos ⟨hsp3, Classical.byContradiction hqt80_3⟩]; exact ⟨aN, cN, aS, cS, aA, cA, aD, cD, rfl, ⟨Row.rd (by intros; rfl) hrN, Row.rd (by intros; rfl) hrS, Row.rd (by intros; rfl) hrA, Row.rd (by intros; rfl) hrD⟩, hb⟩
      · have hsp3b : decide (rightP k st = true) = false := decide_eq_false hsp3
        skip
        refine wp_region_lit ?_
        refine sqv hf (r_loadA (cs := [(.int .i64 k), (.slice aN st.N.length cN), (.slice aS st.S.length cS), (.slice aA st.A.length cA), (.slice aD st.D.length cD)]) rfl Try.underlying45 rfl (by kernel_rfl) (cellsAt_blk hk2)) rfl rfl rfl ?_; clear hf fa; intro fa hf
        refine sqdt hf (d_callB (v := (.bool false)) (vs := [(.agg #[(.int .i64 k), (.slice aN st.N.length cN), (.slice aS st.S.length cS), (.slice aA st.A.length cA), (.slice aD st.D.length cD)])]) rfl Try.func19 (by kernel_rfl) (by kernel_rfl) (by have h := right_any k st aN aS aA aD cN cS cA cD w7 ⟨Row.rd (by intros; rfl) hrN, Row.rd (by intros; rfl) hrS, Row.rd (by intros; rfl) hrA, Row.rd (by intros; rfl) hrD⟩ hBf; rw [Bool.eq_false_iff.2 hsp3] at h; exact h)) rfl rfl rfl ?_; clear hf fa; rintro fa _ w22 ⟨rfl, he13⟩ hf
        replace hkb1 := blk_ext hkb1 he13
        replace hk2 := blk_ext hk2 he13
        replace hrN := Row.ext hrN he13
        replace hrS := Row.ext hrS he13
        replace hrA := Row.ext hrA he13
        replace hrD := Row.ext hrD he13
        replace hb := hb.trans (Below.mono he13 hb.size)
        refine sqv hf (Runs.veq (v' := (.bool true)) (r_not rfl) rfl) rfl rfl rfl ?_; clear hf fa; intro fa hf
        refine sqv hf (r_move rfl) rfl rfl rfl ?_; clear hf fa; intro fa hf
        refine sqgF (act := false) (ag := true) (c := true) (v := .bool false) hf rfl rfl rfl (fun hact => by cases hact) rfl rfl ?_; clear hf fa; intro fa hf
        refine sqgF (act := false) (ag := true) (c := true) (v := .bool false) hf rfl rfl rfl (fun hact => by cases hact) rfl rfl ?_; clear hf fa; intro fa hf
        refine sqgF (act := false) (ag := true) (c := true) (v := .bool false) hf rfl rfl rfl (fun hact => by cases hact) rfl rfl ?_; clear hf fa; intro fa hf
        refine sqgF (act := false) (ag := true) (c := true) (v := .bool false) hf rfl rfl rfl (fun hact => by cases hact) rfl rfl ?_; clear hf fa; intro fa hf
        refine sqv hf (r_pick (b := true) rfl rfl rfl rfl) rfl rfl rfl ?_; clear hf fa; intro fa hf
        apply wpList_nil
        (try simp only [Exit.then, Exit.inBlock, ↓reduceIte, Nat.reduceEqDiff])
        refine hK28 _ _ ?_
        refine wp_cond_true (hf.ev rfl) ?_
        refine wp_seq_k (fun K31 hK31 => ?_)
        refine wp_region_lit ?_
        refine sqv hf (r_build (vs := []) (cs := #[(.int .i64 (0 : Int)), (.slice none 0 0), (.slice none 0 0), (.slice none 0 0), (.slice none 0 0)]) rfl (fun _ => by kernel_rfl)) rfl rfl rfl ?_; clear hf fa; intro fa hf
        refine sqn hf (d_storeK (T := 45) (v := (.agg #[(.int .i64 (0 : Int)), (.slice none 0 0), (.slice none 0 0), (.slice none 0 0), (.slice none 0 0)])) (cs := #[(.int .i64 (0 : Int)), (.slice none 0 0), (.slice none 0 0), (.slice none 0 0), (.slice none 0 0)]) (cs' := #[(.int .i64 (0 : Int)), (.slice none 0 0), (.slice none 0 0), (.slice none 0 0), (.slice none 0 0)]) rfl rfl (by kernel_rfl) (by kernel_rfl) hkb1 (by kernel_rfl) (by kernel_rfl)) rfl rfl ?_; clear hf fa; rintro fa _ w23 ⟨hk11, hg9⟩ hf
        replace hk2 := blk_grown hk2 hg9 (by omega)
        replace hrN := Row.grown hrN hg9 (Row.ne_type hrN hkb1 rfl)
        replace hrS := Row.grown hrS hg9 (Row.ne_type hrS hkb1 rfl)
        replace hrA := Row.grown hrA hg9 (Row.ne_type hrA hkb1 rfl)
        replace hrD := Row.grown hrD hg9 (Row.ne_type hrD hkb1 rfl)
        replace hb := hb.trans (grown_below hg9 hb.size hBb1)
        refine sqv hf (r_assign rfl) rfl rfl rfl ?_; clear hf fa; intro fa hf
        apply wpList_nil
        (try simp only [Exit.then, Exit.inBlock, ↓reduceIte, Nat.reduceEqDiff])
        refine hK31 _ _ ?_
        refine wp_ret ?_
        (try simp only [Exit.then, Exit.inBlock])
        refine retCT hf rfl rfl hk11 Try.underlying45 rfl (by kernel_rfl) rfl ?_
        rw [opP_some hk hX, if_neg (fun h => hsp3 h.1)]; exact ⟨none, 0, none, 0, none, 0, none, 0, rfl, opF_nil _, hb⟩
end Go.Proofs.Ytpalmpfkliepfaa

namespace Go.Proofs.Ytpalmpfkliepfaa
open Go.RowKit Ut
set_option linter.unusedVariables false
set_option linter.unusedSimpArgs false
end Go.Proofs.Ytpalmpfkliepfaa

namespace Go.Proofs.Ytpalmpfkliepfaa
open Go.RowKit Ut
set_option linter.unusedVariables false
set_option linter.unusedSimpArgs false
section
variable {X : Option PSt} {F y : ByteArray} {ps : List (List Nat)} {i m : Nat} {st : PSt}
end
end Go.Proofs.Ytpalmpfkliepfaa

namespace Go.Proofs.Ytpalmpfkliepfaa
open Go.RowKit
set_option linter.unusedVariables false
set_option linter.unusedSimpArgs false
theorem r_rdstr {P : Program} {L : List (Nat × Value)} {w : World} {d : Option Tmp} {ty : TypeId} {ps : String} {af : Array Edge} {g : Option (Nat × Bool)} {src dst e c : Nat} {x : Operand} {a : Option Addr} {l : List Int}
    (hx : evO L x = some (.slice a l.length c)) (hs : P.underlying src = some (.slice e)) (he : P.underlying e = some (.int .u8)) (hd : P.underlying dst = some .string) (hr : RdS 1 (vInt .u8) w a l) :
    Runs P L ⟨d, .convert src dst x, ty, ps, af, g⟩ w (.string (strOfNums l)) w := by
  have key : (convert src dst (.slice a l.length c)).run P w = .ok (.string (strOfNums l)) w := by
    cases l with
    | nil =>
      cases a with
      | none => exact run_convert_bytes_nil w src e hs he _ c dst hd
      | some p =>
        have hl : (loadCells p 0).run P w = .ok (([] : List Int).map (Value.int .u8)).toArray w := run_loadCells_list (P := P) w p [] (by simp)
        rw [run_convert_bytes_string w src dst e _ _ c hs he hd]
        exact run_bytesToString w p 0 c [] hl
    | cons y l =>
      obtain ⟨b, off, ha, hlt, hc⟩ := hr 0 y rfl
      subst ha
      refine run_convert_bytes_arg w src e hs he b off _ c (y :: l) rfl (fun i hi => ?_) dst hd
      obtain ⟨b2, off2, ha2, _, hc2⟩ := hr i _ (List.getElem?_eq_getElem hi)
      cases ha2
      have h0 := hc2 0 _ rfl
      rw [Nat.mul_one, Nat.add_zero] at h0
      rw [h0, List.getD_eq_getElem?_getD, List.getElem?_eq_getElem hi]
      rfl
  intro ρ hρ
  simp only [execOp, hρ x _ hx]
  simp [key]
theorem r_rdstr2 {P : Program} {L : List (Nat × Value)} {w : World} {d : Option Tmp} {ty : TypeId} {ps : String} {af : Array Edge} {g : Option (Nat × Bool)} {src dst e c n : Nat} {x : Operand} {a : Option Addr} {l : List Int}
    (hx : evO L x = some (.slice a n c)) (hn : n = l.length) (hs : P.underlying src = some (.slice e)) (he : P.underlying e = some (.int .u8)) (hd : P.underlying dst = some .string) (hr : RdS 1 (vInt .u8) w a l) :
    Runs P L ⟨d, .convert src dst x, ty, ps, af, g⟩ w (.string (strOfNums l)) w := by subst hn; exact r_rdstr hx hs he hd hr
end Go.Proofs.Ytpalmpfkliepfaa

namespace Go.Proofs.Ytpalmpfkliepfaa
open Go.RowKit Ut
set_option linter.unusedVariables false
set_option linter.unusedSimpArgs false
def stX : PSt := ⟨[3], [⟨#[102]⟩], [(127, 4294967295, ()), (126, 7, ())], []⟩
theorem stX_B : OpB stX := ⟨by intro x hx; simp only [stX, List.mem_singleton] at hx; subst hx; unfold inI; omega, by decide, by intro x hx; simp only [stX, List.mem_cons, List.not_mem_nil, or_false] at hx; rcases hx with rfl | rfl <;> exact ⟨by decide, by decide⟩, by decide, by decide, by decide, by decide, by decide⟩
theorem dg3 : digB 3 = [51] := by unfold digB; rw [if_neg (by decide), show (3 : Int).natAbs = 3 from rfl, natB_lt (by decide)]
theorem dg7 : digB 7 = [55] := by unfold digB; rw [if_neg (by decide), show (7 : Int).natAbs = 7 from rfl, natB_lt (by decide)]
theorem dgm : digB (-1) = [45, 49] := by unfold digB; rw [if_pos (by decide), show (-1 : Int).natAbs = 1 from rfl, natB_lt (by decide)]
theorem stX_line : lineS 5 stX = ⟨#[99, 97, 108, 108, 32, 51, 32, 34, 102, 34, 32, 105, 51, 50, 58, 45, 49, 32, 105, 54, 52, 58, 55]⟩ := by
  have h1 : bl (valS (127, 4294967295, ())) = [105, 51, 50, 58, 45, 49] := by rw [valS_bl (.inl rfl), show numV (127, 4294967295, ()) = -1 by decide, dgm]; rfl
  have h2 : bl (valS (126, 7, ())) = [105, 54, 52, 58, 55] := by rw [valS_bl (.inr rfl), show numV (126, 7, ()) = 7 by decide, dg7]; rfl
  have h3 : argsP (bl (formS 5)) stX.N stX.S stX.A stX.D = [digB 3, showL (bl ⟨#[102]⟩), bl (valS (127, 4294967295, ())), bl (valS (126, 7, ()))] := by
    rw [show bl (formS 5) = [110, 115, 97] from by decide]
    simp [argsP, stX]
  unfold lineS lineL
  rw [h3, h1, h2, dg3, show bl (wordS 5) = [99, 97, 108, 108] from by decide, show showL (bl ⟨#[102]⟩) = [34, 102, 34] from by decide]
  rfl
theorem stX_right : rightP 5 stX = true := by decide +kernel
theorem stX_op : opP ⟨#[99, 97, 108, 108, 32, 51, 32, 34, 102, 34, 32, 105, 51, 50, 58, 45, 49, 32, 105, 54, 52, 58, 55]⟩ = some (5, stX) := by rw [← stX_line]; exact opP_line stX_B stX_right
theorem parse_y (l : ByteArray) (w : World) (hl : l.size ≤ 20000) : Calls Try.prog 21 #[.string l] w fun e w' => ∃ v, e = .returned v ∧ ((∃ (aN : Option Addr) (cN : Nat) (aS : Option Addr) (cS : Nat) (aA : Option Addr) (cA : Nat) (aD : Option Addr) (cD : Nat), v = .tuple #[(.agg #[(.int .i64 ((opK (opP l)))), (.slice aN ((opS (opP l)).N.length) cN), (.slice aS ((opS (opP l)).S.length) cS), (.slice aA ((opS (opP l)).A.length) cA), (.slice aD ((opS (opP l)).D.length) cD)]), .int .i64 (if (opP l).isSome = true then 0 else 49)] ∧ OpF w' (opS (opP l)) aN aS aA aD) ∧ Below w.heap.size w w') := by
  refine (parse_any l w hl).mono ?_
  rintro e w' ⟨aN, cN, aS, cS, aA, cA, aD, cD, rfl, h1, h2⟩
  exact ⟨_, rfl, ⟨aN, cN, aS, cS, aA, cA, aD, cD, rfl, h1⟩, h2⟩
theorem parse_lit (w : World) : Calls Try.prog 21 #[.string ⟨#[99, 97, 108, 108, 32, 51, 32, 34, 102, 34, 32, 105, 51, 50, 58, 45, 49, 32, 105, 54, 52, 58, 55]⟩] w fun e w' => ∃ v, e = .returned v ∧ ((∃ (aN : Option Addr) (cN : Nat) (aS : Option Addr) (cS : Nat) (aA : Option Addr) (cA : Nat) (aD : Option Addr) (cD : Nat), v = .tuple #[(.agg #[(.int .i64 5), (.slice aN stX.N.length cN), (.slice aS stX.S.length cS), (.slice aA stX.A.length cA), (.slice aD stX.D.length cD)]), .int .i64 0] ∧ OpF w' stX aN aS aA aD) ∧ Below w.heap.size w w') := by
  have h := parse_y ⟨#[99, 97, 108, 108, 32, 51, 32, 34, 102, 34, 32, 105, 51, 50, 58, 45, 49, 32, 105, 54, 52, 58, 55]⟩ w (by decide)
  rw [stX_op] at h
  exact h

set_option maxHeartbeats 1000000 in
set_option maxRecDepth 100000 in
theorem awake44_any (w : World) : Calls Try.prog 12 #[] w fun e w' => e = .returned (.bool true) ∧ Below w.heap.size w w' := by
  refine sx_enter (L := []) Try.func12 rfl rfl rfl rfl (fun fa hf => ?_)
  have hb : Below w.heap.size w w := Below.refl _ _
  refine wp_seq_k (fun K1 hK1 => ?_)
  refine wp_region_lit ?_
  refine sqv hf (r_assign rfl) rfl rfl rfl ?_; clear hf fa; intro fa hf
  apply wpList_nil
  (try simp only [Exit.then, Exit.inBlock, ↓reduceIte, Nat.reduceEqDiff])
  refine hK1 _ _ ?_
  refine wp_seq_k (fun K2 hK2 => ?_)
  refine wp_region_lit ?_
  refine sqdt hf (d_callX (vs := [(.string ⟨#[99, 97, 108, 108, 32, 51, 32, 34, 102, 34, 32, 105, 51, 50, 58, 45, 49, 32, 105, 54, 52, 58, 55]⟩)]) rfl Try.func21 (by kernel_rfl) (by kernel_rfl) (parse_lit w)) rfl rfl rfl ?_; clear hf fa; rintro fa _ w1 ⟨⟨aN, cN, aS, cS, aA, cA, aD, cD, rfl, hF⟩, he1⟩ hf
  replace hb := hb.trans (Below.mono he1 hb.size)
  have hbF : Below w1.heap.size w1 w1 := Below.refl _ _
  refine sqv hf (r_move rfl) rfl rfl rfl ?_; clear hf fa; intro fa hf
  refine sqv hf (r_extract rfl (i := 0) rfl) rfl rfl rfl ?_; clear hf fa; intro fa hf
  refine sqv hf (r_extract rfl (i := 1) rfl) rfl rfl rfl ?_; clear hf fa; intro fa hf
  refine sqdt hf (d_alloc (z := (.agg #[(.int .i64 (0 : Int)), (.slice none 0 0), (.slice none 0 0), (.slice none 0 0), (.slice none 0 0)])) (cs := #[(.int .i64 (0 : Int)), (.slice none 0 0), (.slice none 0 0), (.slice none 0 0), (.slice none 0 0)]) (by kernel_rfl) rfl) rfl rfl rfl ?_; clear hf fa; rintro fa _ w2 ⟨b1, rfl, hle1, hk1, he2⟩ hf
  have hBb1 : w.heap.size ≤ b1 := Nat.le_trans hb.size hle1
  have hUhbFb1 := Nat.le_trans hbF.size hle1
  replace hbF := hbF.trans (Below.mono he2 hbF.size)
  replace hb := hb.trans (Below.mono he2 hb.size)
  refine sqn hf (d_storeK (T := 45) (v := (.agg #[(.int .i64 (5 : Int)), (.slice aN 1 cN), (.slice aS 1 cS), (.slice aA 2 cA), (.slice aD 0 cD)])) (cs := #[(.int .i64 (0 : Int)), (.slice none 0 0), (.slice none 0 0), (.slice none 0 0), (.slice none 0 0)]) (cs' := #[(.int .i64 (5 : Int)), (.slice aN 1 cN), (.slice aS 1 cS), (.slice aA 2 cA), (.slice aD 0 cD)]) rfl rfl (by kernel_rfl) (by kernel_rfl) hk1 (by kernel_rfl) (by kernel_rfl)) rfl rfl ?_; clear hf fa; rintro fa _ w3 ⟨hk2, hg1⟩ hf
  replace hbF := hbF.trans (grown_below hg1 hbF.size (by omega))
  replace hb := hb.trans (grown_below hg1 hb.size hBb1)
  refine sqv hf (r_assign rfl) rfl rfl rfl ?_; clear hf fa; intro fa hf
  apply wpList_nil
  (try simp only [Exit.then, Exit.inBlock, ↓reduceIte, Nat.reduceEqDiff])
  refine hK2 _ _ ?_
  refine wp_seq_k (fun K3 hK3 => ?_)
  obtain ⟨ab, aoff, rfl, hlA, helA⟩ := RdS.at (hF.ext hbF).2.2.1 (show stX.A[0]? = some ((127, 4294967295, ()) : MVal) from rfl)
  skip
  refine wp_region_lit ?_
  refine sqv hf (r_move rfl) rfl rfl rfl ?_; clear hf fa; intro fa hf
  refine sqv hf (Runs.veq (r_eq rfl rfl) (congrArg Value.bool (show _ = true from by decide))) rfl rfl rfl ?_; clear hf fa; intro fa hf
  refine sqv hf (r_move rfl) rfl rfl rfl ?_; clear hf fa; intro fa hf
  refine sqgd (act := true) (g := 2) (want := true) (ag := true) (c := true) hf (by rfl) (by rfl) rfl (fun _ =>  Runs.does (R := fun vq wq => vq = (.pointer (some ⟨b1, 0, none⟩)) ∧ w3 = wq) (r_fa rfl Try.underlying45 (f := 0) (q := 0) rfl (by kernel_rfl) rfl) ⟨rfl, rfl⟩) (fun h => by cases h) rfl ?_; clear hf fa; rintro fa _ _ ⟨rfl, rfl⟩ hf
  change Fr _ _ ((10, (.pointer (some ⟨b1, 0, none⟩))) :: _) at hf
  refine sqgd (act := true) (g := 2) (want := true) (ag := true) (c := true) hf (by rfl) (by rfl) rfl (fun _ =>  Runs.does (R := fun vq wq => vq = (.int .i64 (5 : Int)) ∧ w3 = wq) (r_load (v := (.int .i64 (5 : Int))) rfl Try.underlying3 rfl (cell_blk hk2 rfl)) ⟨rfl, rfl⟩) (fun h => by cases h) rfl ?_; clear hf fa; rintro fa _ _ ⟨rfl, rfl⟩ hf
  change Fr _ _ ((11, (.int .i64 (5 : Int))) :: _) at hf
  refine sqgd (act := true) (g := 2) (want := true) (ag := true) (c := true) hf (by rfl) (by rfl) rfl (fun _ =>  Runs.does (R := fun vq wq => vq = (.bool true) ∧ w3 = wq) (Runs.veq (r_eq rfl rfl) (congrArg Value.bool (show _ = true from by decide))) ⟨rfl, rfl⟩) (fun h => by cases h) rfl ?_; clear hf fa; rintro fa _ _ ⟨rfl, rfl⟩ hf
  change Fr _ _ ((12, (.bool true)) :: _) at hf
  refine sqv hf (r_pick (b := true) rfl rfl rfl rfl) rfl rfl rfl ?_; clear hf fa; intro fa hf
  refine sqv hf (r_move rfl) rfl rfl rfl ?_; clear hf fa; intro fa hf
  refine sqgd (act := true) (g := 7) (want := true) (ag := true) (c := true) hf (by rfl) (by rfl) rfl (fun _ =>  Runs.does (R := fun vq wq => vq = (.pointer (some ⟨b1, 1, none⟩)) ∧ w3 = wq) (r_fa rfl Try.underlying45 (f := 1) (q := 1) rfl (by kernel_rfl) rfl) ⟨rfl, rfl⟩) (fun h => by cases h) rfl ?_; clear hf fa; rintro fa _ _ ⟨rfl, rfl⟩ hf
  change Fr _ _ ((15, (.pointer (some ⟨b1, 1, none⟩))) :: _) at hf
  refine sqgd (act := true) (g := 7) (want := true) (ag := true) (c := true) hf (by rfl) (by rfl) rfl (fun _ =>  Runs.does (R := fun vq wq => vq = (.slice aN 1 cN) ∧ w3 = wq) (r_load (v := (.slice aN 1 cN)) rfl Try.underlying41 rfl (cell_blk hk2 rfl)) ⟨rfl, rfl⟩) (fun h => by cases h) rfl ?_; clear hf fa; rintro fa _ _ ⟨rfl, rfl⟩ hf
  change Fr _ _ ((16, (.slice aN 1 cN)) :: _) at hf
  refine sqgd (act := true) (g := 7) (want := true) (ag := true) (c := true) hf (by rfl) (by rfl) rfl (fun _ =>  Runs.does (R := fun vq wq => vq = (.int .i64 (1 : Int)) ∧ w3 = wq) (r_lensl rfl Try.underlying41) ⟨rfl, rfl⟩) (fun h => by cases h) rfl ?_; clear hf fa; rintro fa _ _ ⟨rfl, rfl⟩ hf
  change Fr _ _ ((17, (.int .i64 (1 : Int))) :: _) at hf
  refine sqgd (act := true) (g := 7) (want := true) (ag := true) (c := true) hf (by rfl) (by rfl) rfl (fun _ =>  Runs.does (R := fun vq wq => vq = (.bool true) ∧ w3 = wq) (Runs.veq (r_eq rfl rfl) (congrArg Value.bool (show _ = true from by decide))) ⟨rfl, rfl⟩) (fun h => by cases h) rfl ?_; clear hf fa; rintro fa _ _ ⟨rfl, rfl⟩ hf
  change Fr _ _ ((18, (.bool true)) :: _) at hf
  refine sqv hf (r_pick (b := true) rfl rfl rfl rfl) rfl rfl rfl ?_; clear hf fa; intro fa hf
  refine sqv hf (r_move rfl) rfl rfl rfl ?_; clear hf fa; intro fa hf
  refine sqgd (act := true) (g := 13) (want := true) (ag := true) (c := true) hf (by rfl) (by rfl) rfl (fun _ =>  Runs.does (R := fun vq wq => vq = (.pointer (some ⟨b1, 2, none⟩)) ∧ w3 = wq) (r_fa rfl Try.underlying45 (f := 2) (q := 2) rfl (by kernel_rfl) rfl) ⟨rfl, rfl⟩) (fun h => by cases h) rfl ?_; clear hf fa; rintro fa _ _ ⟨rfl, rfl⟩ hf
  change Fr _ _ ((21, (.pointer (some ⟨b1, 2, none⟩))) :: _) at hf
  refine sqgd (act := true) (g := 13) (want := true) (ag := true) (c := true) hf (by rfl) (by rfl) rfl (fun _ =>  Runs.does (R := fun vq wq => vq = (.slice aS 1 cS) ∧ w3 = wq) (r_load (v := (.slice aS 1 cS)) rfl Try.underlying32 rfl (cell_blk hk2 rfl)) ⟨rfl, rfl⟩) (fun h => by cases h) rfl ?_; clear hf fa; rintro fa _ _ ⟨rfl, rfl⟩ hf
  change Fr _ _ ((22, (.slice aS 1 cS)) :: _) at hf
  refine sqgd (act := true) (g := 13) (want := true) (ag := true) (c := true) hf (by rfl) (by rfl) rfl (fun _ =>  Runs.does (R := fun vq wq => vq = (.int .i64 (1 : Int)) ∧ w3 = wq) (r_lensl rfl Try.underlying32) ⟨rfl, rfl⟩) (fun h => by cases h) rfl ?_; clear hf fa; rintro fa _ _ ⟨rfl, rfl⟩ hf
  change Fr _ _ ((23, (.int .i64 (1 : Int))) :: _) at hf
  refine sqgd (act := true) (g := 13) (want := true) (ag := true) (c := true) hf (by rfl) (by rfl) rfl (fun _ =>  Runs.does (R := fun vq wq => vq = (.bool true) ∧ w3 = wq) (Runs.veq (r_eq rfl rfl) (congrArg Value.bool (show _ = true from by decide))) ⟨rfl, rfl⟩) (fun h => by cases h) rfl ?_; clear hf fa; rintro fa _ _ ⟨rfl, rfl⟩ hf
  change Fr _ _ ((24, (.bool true)) :: _) at hf
  refine sqv hf (r_pick (b := true) rfl rfl rfl rfl) rfl rfl rfl ?_; clear hf fa; intro fa hf
  refine sqv hf (r_move rfl) rfl rfl rfl ?_; clear hf fa; intro fa hf
  refine sqgd (act := true) (g := 19) (want := true) (ag := true) (c := true) hf (by rfl) (by rfl) rfl (fun _ =>  Runs.does (R := fun vq wq => vq = (.pointer (some ⟨b1, 3, none⟩)) ∧ w3 = wq) (r_fa rfl Try.underlying45 (f := 3) (q := 3) rfl (by kernel_rfl) rfl) ⟨rfl, rfl⟩) (fun h => by cases h) rfl ?_; clear hf fa; rintro fa _ _ ⟨rfl, rfl⟩ hf
  change Fr _ _ ((27, (.pointer (some ⟨b1, 3, none⟩))) :: _) at hf
  refine sqgd (act := true) (g := 19) (want := true) (ag := true) (c := true) hf (by rfl) (by rfl) rfl (fun _ =>  Runs.does (R := fun vq wq => vq = (.slice (some ⟨ab, aoff, none⟩) 2 cA) ∧ w3 = wq) (r_load (v := (.slice (some ⟨ab, aoff, none⟩) 2 cA)) rfl Try.underlying42 rfl (cell_blk hk2 rfl)) ⟨rfl, rfl⟩) (fun h => by cases h) rfl ?_; clear hf fa; rintro fa _ _ ⟨rfl, rfl⟩ hf
  change Fr _ _ ((28, (.slice (some ⟨ab, aoff, none⟩) 2 cA)) :: _) at hf
  refine sqgd (act := true) (g := 19) (want := true) (ag := true) (c := true) hf (by rfl) (by rfl) rfl (fun _ =>  Runs.does (R := fun vq wq => vq = (.int .i64 (2 : Int)) ∧ w3 = wq) (r_lensl rfl Try.underlying42) ⟨rfl, rfl⟩) (fun h => by cases h) rfl ?_; clear hf fa; rintro fa _ _ ⟨rfl, rfl⟩ hf
  change Fr _ _ ((29, (.int .i64 (2 : Int))) :: _) at hf
  refine sqgd (act := true) (g := 19) (want := true) (ag := true) (c := true) hf (by rfl) (by rfl) rfl (fun _ =>  Runs.does (R := fun vq wq => vq = (.bool true) ∧ w3 = wq) (Runs.veq (r_eq rfl rfl) (congrArg Value.bool (show _ = true from by decide))) ⟨rfl, rfl⟩) (fun h => by cases h) rfl ?_; clear hf fa; rintro fa _ _ ⟨rfl, rfl⟩ hf
  change Fr _ _ ((30, (.bool true)) :: _) at hf
  refine sqv hf (r_pick (b := true) rfl rfl rfl rfl) rfl rfl rfl ?_; clear hf fa; intro fa hf
  refine sqv hf (r_move rfl) rfl rfl rfl ?_; clear hf fa; intro fa hf
  refine sqgd (act := true) (g := 25) (want := true) (ag := true) (c := true) hf (by rfl) (by rfl) rfl (fun _ =>  Runs.does (R := fun vq wq => vq = (.pointer (some ⟨b1, 3, none⟩)) ∧ w3 = wq) (r_fa rfl Try.underlying45 (f := 3) (q := 3) rfl (by kernel_rfl) rfl) ⟨rfl, rfl⟩) (fun h => by cases h) rfl ?_; clear hf fa; rintro fa _ _ ⟨rfl, rfl⟩ hf
  change Fr _ _ ((33, (.pointer (some ⟨b1, 3, none⟩))) :: _) at hf
  refine sqgd (act := true) (g := 25) (want := true) (ag := true) (c := true) hf (by rfl) (by rfl) rfl (fun _ =>  Runs.does (R := fun vq wq => vq = (.slice (some ⟨ab, aoff, none⟩) 2 cA) ∧ w3 = wq) (r_load (v := (.slice (some ⟨ab, aoff, none⟩) 2 cA)) rfl Try.underlying42 rfl (cell_blk hk2 rfl)) ⟨rfl, rfl⟩) (fun h => by cases h) rfl ?_; clear hf fa; rintro fa _ _ ⟨rfl, rfl⟩ hf
  change Fr _ _ ((34, (.slice (some ⟨ab, aoff, none⟩) 2 cA)) :: _) at hf
  refine sqgd (act := true) (g := 25) (want := true) (ag := true) (c := true) hf (by rfl) (by rfl) rfl (fun _ =>  Runs.does (R := fun vq wq => vq = (.pointer (some ⟨ab, (aoff + 0 * 2), none⟩)) ∧ w3 = wq) (r_ixa (sz := 2) (j := 0) rfl rfl Try.underlying42 (by kernel_rfl) rfl (by omega) rfl) ⟨rfl, rfl⟩) (fun h => by cases h) rfl ?_; clear hf fa; rintro fa _ _ ⟨rfl, rfl⟩ hf
  change Fr _ _ ((35, (.pointer (some ⟨ab, (aoff + 0 * 2), none⟩))) :: _) at hf
  refine sqgd (act := true) (g := 25) (want := true) (ag := true) (c := true) hf (by rfl) (by rfl) rfl (fun _ =>  Runs.does (R := fun vq wq => vq = (.pointer (some ⟨ab, ((aoff + 0 * 2) + 1), none⟩)) ∧ w3 = wq) (r_fa rfl Try.underlying65 (f := 1) (q := ((aoff + 0 * 2) + 1)) rfl (by kernel_rfl) rfl) ⟨rfl, rfl⟩) (fun h => by cases h) rfl ?_; clear hf fa; rintro fa _ _ ⟨rfl, rfl⟩ hf
  change Fr _ _ ((36, (.pointer (some ⟨ab, ((aoff + 0 * 2) + 1), none⟩))) :: _) at hf
  refine sqgd (act := true) (g := 25) (want := true) (ag := true) (c := true) hf (by rfl) (by rfl) rfl (fun _ =>  Runs.does (R := fun vq wq => vq = (.int .u64 (4294967295 : Int)) ∧ w3 = wq) (r_load (v := (.int .u64 (4294967295 : Int))) rfl Try.underlying63 rfl (cellsAt_cell helA (i := 1) rfl rfl)) ⟨rfl, rfl⟩) (fun h => by cases h) rfl ?_; clear hf fa; rintro fa _ _ ⟨rfl, rfl⟩ hf
  change Fr _ _ ((37, (.int .u64 (4294967295 : Int))) :: _) at hf
  refine sqgd (act := true) (g := 25) (want := true) (ag := true) (c := true) hf (by rfl) (by rfl) rfl (fun _ =>  Runs.does (R := fun vq wq => vq = (.bool true) ∧ w3 = wq) (Runs.veq (r_eq rfl rfl) (congrArg Value.bool (show _ = true from by decide))) ⟨rfl, rfl⟩) (fun h => by cases h) rfl ?_; clear hf fa; rintro fa _ _ ⟨rfl, rfl⟩ hf
  change Fr _ _ ((38, (.bool true)) :: _) at hf
  refine sqv hf (r_pick (b := true) rfl rfl rfl rfl) rfl rfl rfl ?_; clear hf fa; intro fa hf
  refine sqv hf (r_move rfl) rfl rfl rfl ?_; clear hf fa; intro fa hf
  refine sqv hf (r_pick (b := true) rfl rfl rfl rfl) rfl rfl rfl ?_; clear hf fa; intro fa hf
  refine sqv hf (r_move rfl) rfl rfl rfl ?_; clear hf fa; intro fa hf
  refine sqv hf (r_pick (b := true) rfl rfl rfl rfl) rfl rfl rfl ?_; clear hf fa; intro fa hf
  refine sqv hf (r_move rfl) rfl rfl rfl ?_; clear hf fa; intro fa hf
  refine sqv hf (r_pick (b := true) rfl rfl rfl rfl) rfl rfl rfl ?_; clear hf fa; intro fa hf
  refine sqv hf (r_assign rfl) rfl rfl rfl ?_; clear hf fa; intro fa hf
  apply wpList_nil
  (try simp only [Exit.then, Exit.inBlock, ↓reduceIte, Nat.reduceEqDiff])
  refine hK3 _ _ ?_
  refine wp_ret ?_
  (try simp only [Exit.then, Exit.inBlock])
  refine ret1 hf rfl rfl ?_
  exact ⟨rfl, hb⟩

def fewP (st : PSt) : Bool := (!(((decide ((10 : Int) < ((st.N.length : Nat) : Int)) || decide ((5 : Int) < ((st.S.length : Nat) : Int))) || decide ((30 : Int) < ((st.A.length : Nat) : Int))) || decide ((4200 : Int) < ((st.D.length : Nat) : Int)))) && st.S.all (fun s => decide (s.size ≤ 300))
theorem few_out {st : PSt} (h : fewP st = true) : st.N.length ≤ 10 ∧ st.S.length ≤ 5 ∧ st.A.length ≤ 30 ∧ st.D.length ≤ 4200 ∧ ∀ s ∈ st.S, s.size ≤ 300 := by
  unfold fewP at h
  simp only [Bool.and_eq_true, Bool.not_eq_true', Bool.or_eq_false_iff, decide_eq_false_iff_not, List.all_eq_true, decide_eq_true_eq] at h
  exact ⟨by omega, by omega, by omega, by omega, h.2⟩
theorem few_no1 {st : PSt} {b : Bool} (h : (((decide ((10 : Int) < ((st.N.length : Nat) : Int)) || decide ((5 : Int) < ((st.S.length : Nat) : Int))) || decide ((30 : Int) < ((st.A.length : Nat) : Int))) || decide ((4200 : Int) < ((st.D.length : Nat) : Int))) = true) : fewP st = false := by unfold fewP; rw [h]; rfl
theorem few_no2 {st : PSt} {j : Nat} {y : ByteArray} (hy : st.S[j]? = some y) (h : ¬ y.size ≤ 300) : fewP st = false := by
  cases hf : fewP st with
  | false => rfl
  | true => exact absurd ((few_out hf).2.2.2.2 y (List.mem_of_getElem? hy)) h
theorem few_yes {st : PSt} (h : (((decide ((10 : Int) < ((st.N.length : Nat) : Int)) || decide ((5 : Int) < ((st.S.length : Nat) : Int))) || decide ((30 : Int) < ((st.A.length : Nat) : Int))) || decide ((4200 : Int) < ((st.D.length : Nat) : Int))) = false) (h2 : ∀ s ∈ st.S, s.size ≤ 300) : fewP st = true := by
  unfold fewP
  rw [h]
  simp only [Bool.not_false, Bool.true_and, List.all_eq_true, decide_eq_true_eq]
  exact h2

set_option maxHeartbeats 1000000 in
set_option maxRecDepth 100000 in
theorem few_any (k : Int) (st : PSt) (aN aS aA aD : Option Addr) (cN cS cA cD : Nat) (w : World) (hF : OpF w st aN aS aA aD) (hsl : st.S.length ≤ 9000000000000000000) : Calls Try.prog 13 #[(.agg #[(.int .i64 k), (.slice aN st.N.length cN), (.slice aS st.S.length cS), (.slice aA st.A.length cA), (.slice aD st.D.length cD)])] w fun e w' => e = .returned (.bool (fewP st)) ∧ Below w.heap.size w w' := by
  refine sx_enter (L := [(0, (.agg #[(.int .i64 k), (.slice aN st.N.length cN), (.slice aS st.S.length cS), (.slice aA st.A.length cA), (.slice aD st.D.length cD)]))]) Try.func13 rfl rfl rfl rfl (fun fa hf => ?_)
  have hb : Below w.heap.size w w := Below.refl _ _
  refine wp_seq_k (fun K1 hK1 => ?_)
  refine wp_region_lit ?_
  refine sqdt hf (d_box (cs := #[(.int .i64 k), (.slice aN st.N.length cN), (.slice aS st.S.length cS), (.slice aA st.A.length cA), (.slice aD st.D.length cD)]) rfl rfl) rfl rfl rfl ?_; clear hf fa; rintro fa _ w1 ⟨b1, rfl, hle1, hk1, he1⟩ hf
  have hBb1 : w.heap.size ≤ b1 := Nat.le_trans hb.size hle1
  replace hb := hb.trans (Below.mono he1 hb.size)
  refine sqv hf (r_assign rfl) rfl rfl rfl ?_; clear hf fa; intro fa hf
  apply wpList_nil
  (try simp only [Exit.then, Exit.inBlock, ↓reduceIte, Nat.reduceEqDiff])
  refine hK1 _ _ ?_
  refine wp_seq_k (fun K2 hK2 => ?_)
  refine wp_seq_k (fun K3 hK3 => ?_)
  refine wp_region_lit ?_
  refine sqv hf (r_fa rfl Try.underlying45 (f := 1) (q := 1) rfl (by kernel_rfl) rfl) rfl rfl rfl ?_; clear hf fa; intro fa hf
  refine sqv hf (r_load (v := (.slice aN st.N.length cN)) rfl Try.underlying41 rfl (cell_blk hk1 rfl)) rfl rfl rfl ?_; clear hf fa; intro fa hf
  refine sqv hf (r_lensl rfl Try.underlying41) rfl rfl rfl ?_; clear hf fa; intro fa hf
  refine sqv hf (r_gt rfl rfl) rfl rfl rfl ?_; clear hf fa; intro fa hf
  refine sqv hf (r_move rfl) rfl rfl rfl ?_; clear hf fa; intro fa hf
  refine sqgF (act := (!(decide ((10 : Int) < ((st.N.length : Nat) : Int))))) (ag := true) (c := (decide ((10 : Int) < ((st.N.length : Nat) : Int)))) (v := (.pointer (some ⟨b1, 2, none⟩))) hf rfl rfl rfl (fun hact => (r_fa rfl Try.underlying45 (f := 2) (q := 2) rfl (by kernel_rfl) rfl)) rfl rfl ?_; clear hf fa; intro fa hf
  refine sqgF (act := (!(decide ((10 : Int) < ((st.N.length : Nat) : Int))))) (ag := true) (c := (decide ((10 : Int) < ((st.N.length : Nat) : Int)))) (v := (.slice aS st.S.length cS)) hf rfl rfl rfl (fun hact => (r_load (v := (.slice aS st.S.length cS)) (gb_ev hact rfl) Try.underlying32 rfl (cell_blk hk1 rfl))) rfl rfl ?_; clear hf fa; intro fa hf
  refine sqgF (act := (!(decide ((10 : Int) < ((st.N.length : Nat) : Int))))) (ag := true) (c := (decide ((10 : Int) < ((st.N.length : Nat) : Int)))) (v := (.int .i64 ((st.S.length : Nat) : Int))) hf rfl rfl rfl (fun hact => (r_lensl (gb_ev hact rfl) Try.underlying32)) rfl rfl ?_; clear hf fa; intro fa hf
  refine sqgF (act := (!(decide ((10 : Int) < ((st.N.length : Nat) : Int))))) (ag := true) (c := (decide ((10 : Int) < ((st.N.length : Nat) : Int)))) (v := (.bool (decide ((5 : Int) < ((st.S.length : Nat) : Int))))) hf rfl rfl rfl (fun hact => (r_gt (gb_ev hact rfl) rfl)) rfl rfl ?_; clear hf fa; intro fa hf
  refine sqv hf (r_pickO (b := (decide ((10 : Int) < ((st.N.length : Nat) : Int)))) (e := (decide ((5 : Int) < ((st.S.length : Nat) : Int)))) rfl rfl rfl) rfl rfl rfl ?_; clear hf fa; intro fa hf
  refine sqv hf (r_move rfl) rfl rfl rfl ?_; clear hf fa; intro fa hf
  refine sqgF (act := (!((decide ((10 : Int) < ((st.N.length : Nat) : Int))) || (decide ((5 : Int) < ((st.S.length : Nat) : Int)))))) (ag := true) (c := ((decide ((10 : Int) < ((st.N.length : Nat) : Int))) || (decide ((5 : Int) < ((st.S.length : Nat) : Int))))) (v := (.pointer (some ⟨b1, 3, none⟩))) hf rfl rfl rfl (fun hact => (r_fa rfl Try.underlying45 (f := 3) (q := 3) rfl (by kernel_rfl) rfl)) rfl rfl ?_; clear hf fa; intro fa hf
  refine sqgF (act := (!((decide ((10 : Int) < ((st.N.length : Nat) : Int))) || (decide ((5 : Int) < ((st.S.length : Nat) : Int)))))) (ag := true) (c := ((decide ((10 : Int) < ((st.N.length : Nat) : Int))) || (decide ((5 : Int) < ((st.S.length : Nat) : Int))))) (v := (.slice aA st.A.length cA)) hf rfl rfl rfl (fun hact => (r_load (v := (.slice aA st.A.length cA)) (gb_ev hact rfl) Try.underlying42 rfl (cell_blk hk1 rfl))) rfl rfl ?_; clear hf fa; intro fa hf
  refine sqgF (act := (!((decide ((10 : Int) < ((st.N.length : Nat) : Int))) || (decide ((5 : Int) < ((st.S.length : Nat) : Int)))))) (ag := true) (c := ((decide ((10 : Int) < ((st.N.length : Nat) : Int))) || (decide ((5 : Int) < ((st.S.length : Nat) : Int))))) (v := (.int .i64 ((st.A.length : Nat) : Int))) hf rfl rfl rfl (fun hact => (r_lensl (gb_ev hact rfl) Try.underlying42)) rfl rfl ?_; clear hf fa; intro fa hf
  refine sqgF (act := (!((decide ((10 : Int) < ((st.N.length : Nat) : Int))) || (decide ((5 : Int) < ((st.S.length : Nat) : Int)))))) (ag := true) (c := ((decide ((10 : Int) < ((st.N.length : Nat) : Int))) || (decide ((5 : Int) < ((st.S.length : Nat) : Int))))) (v := (.bool (decide ((30 : Int) < ((st.A.length : Nat) : Int))))) hf rfl rfl rfl (fun hact => (r_gt (gb_ev hact rfl) rfl)) rfl rfl ?_; clear hf fa; intro fa hf
  refine sqv hf (r_pickO (b := ((decide ((10 : Int) < ((st.N.length : Nat) : Int))) || (decide ((5 : Int) < ((st.S.length : Nat) : Int))))) (e := (decide ((30 : Int) < ((st.A.length : Nat) : Int)))) rfl rfl rfl) rfl rfl rfl ?_; clear hf fa; intro fa hf
  refine sqv hf (r_move rfl) rfl rfl rfl ?_; clear hf fa; intro fa hf
  refine sqgF (act := (!(((decide ((10 : Int) < ((st.N.length : Nat) : Int))) || (decide ((5 : Int) < ((st.S.length : Nat) : Int)))) || (decide ((30 : Int) < ((st.A.length : Nat) : Int)))))) (ag := true) (c := (((decide ((10 : Int) < ((st.N.length : Nat) : Int))) || (decide ((5 : Int) < ((st.S.length : Nat) : Int)))) || (decide ((30 : Int) < ((st.A.length : Nat) : Int))))) (v := (.pointer (some ⟨b1, 4, none⟩))) hf rfl rfl rfl (fun hact => (r_fa rfl Try.underlying45 (f := 4) (q := 4) rfl (by kernel_rfl) rfl)) rfl rfl ?_; clear hf fa; intro fa hf
  refine sqgF (act := (!(((decide ((10 : Int) < ((st.N.length : Nat) : Int))) || (decide ((5 : Int) < ((st.S.length : Nat) : Int)))) || (decide ((30 : Int) < ((st.A.length : Nat) : Int)))))) (ag := true) (c := (((decide ((10 : Int) < ((st.N.length : Nat) : Int))) || (decide ((5 : Int) < ((st.S.length : Nat) : Int)))) || (decide ((30 : Int) < ((st.A.length : Nat) : Int))))) (v := (.slice aD st.D.length cD)) hf rfl rfl rfl (fun hact => (r_load (v := (.slice aD st.D.length cD)) (gb_ev hact rfl) Try.underlying43 rfl (cell_blk hk1 rfl))) rfl rfl ?_; clear hf fa; intro fa hf
  refine sqgF (act := (!(((decide ((10 : Int) < ((st.N.length : Nat) : Int))) || (decide ((5 : Int) < ((st.S.length : Nat) : Int)))) || (decide ((30 : Int) < ((st.A.length : Nat) : Int)))))) (ag := true) (c := (((decide ((10 : Int) < ((st.N.length : Nat) : Int))) || (decide ((5 : Int) < ((st.S.length : Nat) : Int)))) || (decide ((30 : Int) < ((st.A.length : Nat) : Int))))) (v := (.int .i64 ((st.D.length : Nat) : Int))) hf rfl rfl rfl (fun hact => (r_lensl (gb_ev hact rfl) Try.underlying43)) rfl rfl ?_; clear hf fa; intro fa hf
  refine sqgF (act := (!(((decide ((10 : Int) < ((st.N.length : Nat) : Int))) || (decide ((5 : Int) < ((st.S.length : Nat) : Int)))) || (decide ((30 : Int) < ((st.A.length : Nat) : Int)))))) (ag := true) (c := (((decide ((10 : Int) < ((st.N.length : Nat) : Int))) || (decide ((5 : Int) < ((st.S.length : Nat) : Int)))) || (decide ((30 : Int) < ((st.A.length : Nat) : Int))))) (v := (.bool (decide ((4200 : Int) < ((st.D.length : Nat) : Int))))) hf rfl rfl rfl (fun hact => (r_gt (gb_ev hact rfl) rfl)) rfl rfl ?_; clear hf fa; intro fa hf
  refine sqv hf (r_pickO (b := (((decide ((10 : Int) < ((st.N.length : Nat) : Int))) || (decide ((5 : Int) < ((st.S.length : Nat) : Int)))) || (decide ((30 : Int) < ((st.A.length : Nat) : Int))))) (e := (decide ((4200 : Int) < ((st.D.length : Nat) : Int)))) rfl rfl rfl) rfl rfl rfl ?_; clear hf fa; intro fa hf
  apply wpList_nil
  (try simp only [Exit.then, Exit.inBlock, ↓reduceIte, Nat.reduceEqDiff])
  refine hK3 _ _ ?_
  refine wp_cond_split (t := ((((decide ((10 : Int) < ((st.N.length : Nat) : Int))) || (decide ((5 : Int) < ((st.S.length : Nat) : Int)))) || (decide ((30 : Int) < ((st.A.length : Nat) : Int)))) || (decide ((4200 : Int) < ((st.D.length : Nat) : Int))))) (hf.ev rfl) (fun hqt25_1 => ?_) (fun hqt25_1 => ?_)
  · have hqt25_1b := hqt25_1
    try simp only [decide_eq_true_eq, Bool.and_eq_true, Bool.or_eq_true, Bool.not_eq_true', decide_eq_false_iff_not, ne_eq, Bool.not_eq_true] at hqt25_1
    refine wp_seq_k (fun K4 hK4 => ?_)
    refine wp_region_lit ?_
    refine sqv hf (r_assign rfl) rfl rfl rfl ?_; clear hf fa; intro fa hf
    apply wpList_nil
    (try simp only [Exit.then, Exit.inBlock, ↓reduceIte, Nat.reduceEqDiff])
    refine hK4 _ _ ?_
    refine wp_ret ?_
    (try simp only [Exit.then, Exit.inBlock])
    refine ret1 hf rfl rfl ?_
    refine ⟨?_, hb⟩; rw [few_no1 (b := true) hqt25_1b]
  · have hqt25_1b := hqt25_1
    replace hqt25_1 := Bool.eq_false_iff.1 hqt25_1
    try simp only [ne_eq, decide_eq_true_eq, Bool.and_eq_true, Bool.or_eq_true, Bool.not_eq_true', decide_eq_false_iff_not] at hqt25_1
    refine wp_skip ?_
    (try simp only [Exit.then, Exit.inBlock, ↓reduceIte, Nat.reduceEqDiff])
    refine hK2 _ _ ?_
    refine wp_seq_k (fun K5 hK5 => ?_)
    refine wp_seq_k (fun K6 hK6 => ?_)
    refine wp_region_lit ?_
    refine sqv hf (r_assign rfl) rfl rfl rfl ?_; clear hf fa; intro fa hf
    apply wpList_nil
    (try simp only [Exit.then, Exit.inBlock, ↓reduceIte, Nat.reduceEqDiff])
    refine hK6 _ _ ?_
    refine wp_block ?_
    refine wp_loop_k (fun mq fa wr => ∃ (j : Nat), mq = st.S.length - j ∧ Fr 40 fa [(1, (.pointer (some ⟨b1, 0, none⟩))), (3, (.int .i64 ((j : Nat) : Int)))] ∧ Below w.heap.size w wr ∧ wr.heap[b1]? = some (.cells #[(.int .i64 k), (.slice aN st.N.length cN), (.slice aS st.S.length cS), (.slice aA st.A.length cA), (.slice aD st.D.length cD)] 45 (0, 0)) ∧ (j ≤ st.S.length) ∧ (∀ s ∈ st.S.take j, s.size ≤ 300)) ?_ ?_
    · skip
      exact ⟨_, 0, rfl, hf.sub ⟨rfl, (some_int (by first | rfl | omega)), trivial⟩, hb, hk1, by omega, (by intro s hs; cases hs)⟩
    · skip
      clear hf fa; intro mq1 fa w2 hI KL1 hKL1
      clear hb
      clear hk1
      obtain ⟨j, hmq1, hf, hb, hkb1, hj, HS⟩ := hI
      refine wp_seq_k (fun K7 hK7 => ?_)
      refine wp_seq_k (fun K8 hK8 => ?_)
      refine wp_region_lit ?_
      refine sqv hf (r_move rfl) rfl rfl rfl ?_; clear hf fa; intro fa hf
      refine sqv hf (r_fa rfl Try.underlying45 (f := 2) (q := 2) rfl (by kernel_rfl) rfl) rfl rfl rfl ?_; clear hf fa; intro fa hf
      refine sqv hf (r_load (v := (.slice aS st.S.length cS)) rfl Try.underlying32 rfl (cell_blk hkb1 rfl)) rfl rfl rfl ?_; clear hf fa; intro fa hf
      refine sqv hf (r_lensl rfl Try.underlying32) rfl rfl rfl ?_; clear hf fa; intro fa hf
      refine sqv hf (r_lt rfl rfl) rfl rfl rfl ?_; clear hf fa; intro fa hf
      apply wpList_nil
      (try simp only [Exit.then, Exit.inBlock, ↓reduceIte, Nat.reduceEqDiff])
      refine hK8 _ _ ?_
      refine wp_cond_split (t := (decide (((j : Nat) : Int) < ((st.S.length : Nat) : Int)))) (hf.ev rfl) (fun hqt30_1 => ?_) (fun hqt30_1 => ?_)
      · have hqt30_1b := hqt30_1
        try simp only [decide_eq_true_eq, Bool.and_eq_true, Bool.or_eq_true, Bool.not_eq_true', decide_eq_false_iff_not, ne_eq, Bool.not_eq_true] at hqt30_1
        refine wp_skip ?_
        (try simp only [Exit.then, Exit.inBlock, ↓reduceIte, Nat.reduceEqDiff])
        refine hK7 _ _ ?_
        refine wp_seq_k (fun K9 hK9 => ?_)
        refine wp_block ?_
        refine wp_seq_k (fun K10 hK10 => ?_)
        refine wp_region_lit ?_
        refine sqv hf (r_fa rfl Try.underlying45 (f := 2) (q := 2) rfl (by kernel_rfl) rfl) rfl rfl rfl ?_; clear hf fa; intro fa hf
        refine sqv hf (r_load (v := (.slice aS st.S.length cS)) rfl Try.underlying32 rfl (cell_blk hkb1 rfl)) rfl rfl rfl ?_; clear hf fa; intro fa hf
        refine sqv hf (r_move rfl) rfl rfl rfl ?_; clear hf fa; intro fa hf
        obtain ⟨y1, hy1⟩ : ∃ x, (st.S)[j]? = some x := ⟨_, List.getElem?_eq_getElem (by (try simp only [Sl.list_length]); omega)⟩
        obtain ⟨ab1, aoff1, rfl, hlb1, hel1⟩ := RdS.at hF.2.1 hy1
        refine sqv hf (r_ixa (sz := 1) (j := j) rfl rfl Try.underlying32 (by kernel_rfl) rfl (by omega) rfl) rfl rfl rfl ?_; clear hf fa; intro fa hf
        refine sqv hf (r_load (v := (.string y1)) rfl Try.underlying9 rfl (cellsAt_cell (cellsAt_below hel1 hb hlb1) (i := 0) rfl rfl)) rfl rfl rfl ?_; clear hf fa; intro fa hf
        refine sqv hf (r_lens rfl Try.underlying9) rfl rfl rfl ?_; clear hf fa; intro fa hf
        refine sqv hf (r_gt rfl rfl) rfl rfl rfl ?_; clear hf fa; intro fa hf
        apply wpList_nil
        (try simp only [Exit.then, Exit.inBlock, ↓reduceIte, Nat.reduceEqDiff])
        refine hK10 _ _ ?_
        refine wp_cond_split (t := (decide ((300 : Int) < ((y1.size : Nat) : Int)))) (hf.ev rfl) (fun hqt39_1 => ?_) (fun hqt39_1 => ?_)
        · have hqt39_1b := hqt39_1
          try simp only [decide_eq_true_eq, Bool.and_eq_true, Bool.or_eq_true, Bool.not_eq_true', decide_eq_false_iff_not, ne_eq, Bool.not_eq_true] at hqt39_1
          refine wp_seq_k (fun K11 hK11 => ?_)
          refine wp_region_lit ?_
          refine sqv hf (r_assign rfl) rfl rfl rfl ?_; clear hf fa; intro fa hf
          apply wpList_nil
          (try simp only [Exit.then, Exit.inBlock, ↓reduceIte, Nat.reduceEqDiff])
          refine hK11 _ _ ?_
          refine wp_ret ?_
          (try simp only [Exit.then, Exit.inBlock])
          refine ret1 hf rfl rfl ?_
          refine ⟨?_, hb⟩; rw [few_no2 hy1 (by have h := hqt39_1; omega)]
        · have hqt39_1b := hqt39_1
          replace hqt39_1 := Bool.eq_false_iff.1 hqt39_1
          try simp only [ne_eq, decide_eq_true_eq, Bool.and_eq_true, Bool.or_eq_true, Bool.not_eq_true', decide_eq_false_iff_not] at hqt39_1
          refine wp_skip ?_
          (try simp only [Exit.then, Exit.inBlock, ↓reduceIte, Nat.reduceEqDiff])
          refine hK9 _ _ ?_
          refine wp_region_lit ?_
          refine sqv hf (r_move rfl) rfl rfl rfl ?_; clear hf fa; intro fa hf
          refine sqv hf (r_add (C := (((j : Nat) : Int) + (1 : Int))) rfl rfl (by rw [IntKind.wrap_i64]; omega)) rfl rfl rfl ?_; clear hf fa; intro fa hf
          refine sqv hf (r_assign rfl) rfl rfl rfl ?_; clear hf fa; intro fa hf
          apply wpList_nil
          (try simp only [Exit.then, Exit.inBlock, ↓reduceIte, Nat.reduceEqDiff])
          refine hKL1 _ _ _ (by omega) ⟨(j + 1), rfl, hf.sub ⟨rfl, (some_int (by first | rfl | omega)), trivial⟩, hb, hkb1, by omega, (all_snoc HS hy1 (by have h := hqt39_1; omega))⟩
      · have hqt30_1b := hqt30_1
        replace hqt30_1 := Bool.eq_false_iff.1 hqt30_1
        try simp only [ne_eq, decide_eq_true_eq, Bool.and_eq_true, Bool.or_eq_true, Bool.not_eq_true', decide_eq_false_iff_not] at hqt30_1
        refine wp_exit ?_
        (try simp only [Exit.then, Exit.inBlock, ↓reduceIte, Nat.reduceEqDiff])
        refine hK5 _ _ ?_
        refine wp_seq_k (fun K12 hK12 => ?_)
        refine wp_region_lit ?_
        refine sqv hf (r_assign rfl) rfl rfl rfl ?_; clear hf fa; intro fa hf
        apply wpList_nil
        (try simp only [Exit.then, Exit.inBlock, ↓reduceIte, Nat.reduceEqDiff])
        refine hK12 _ _ ?_
        refine wp_ret ?_
        (try simp only [Exit.then, Exit.inBlock])
        refine ret1 hf rfl rfl ?_
        refine ⟨?_, hb⟩; rw [few_yes hqt25_1b (all_end HS (by omega))]

set_option maxHeartbeats 1000000 in
set_option maxRecDepth 100000 in
theorem ref_any (k : Int) (nN nS nA nD : Nat) (aN aS aA aD : Option Addr) (cN cS cA cD : Nat) (w : World) : Calls Try.prog 16 #[(.agg #[(.int .i64 k), (.slice aN nN cN), (.slice aS nS cS), (.slice aA nA cA), (.slice aD nD cD)])] w fun e w' => e = .returned (.agg #[(.int .i64 k), (.slice aN nN cN), (.slice aS nS cS), (.slice aA nA cA), (.slice aD nD cD)]) ∧ Below w.heap.size w w' := by
  refine sx_enter (L := [(0, (.agg #[(.int .i64 k), (.slice aN nN cN), (.slice aS nS cS), (.slice aA nA cA), (.slice aD nD cD)]))]) Try.func16 rfl rfl rfl rfl (fun fa hf => ?_)
  have hb : Below w.heap.size w w := Below.refl _ _
  refine wp_seq_k (fun K1 hK1 => ?_)
  refine wp_region_lit ?_
  refine sqdt hf (d_box (cs := #[(.int .i64 k), (.slice aN nN cN), (.slice aS nS cS), (.slice aA nA cA), (.slice aD nD cD)]) rfl rfl) rfl rfl rfl ?_; clear hf fa; rintro fa _ w1 ⟨b1, rfl, hle1, hk1, he1⟩ hf
  have hBb1 : w.heap.size ≤ b1 := Nat.le_trans hb.size hle1
  replace hb := hb.trans (Below.mono he1 hb.size)
  refine sqdt hf (d_alloc (z := (.agg #[(.int .i64 (0 : Int)), (.slice none 0 0), (.slice none 0 0), (.slice none 0 0), (.slice none 0 0)])) (cs := #[(.int .i64 (0 : Int)), (.slice none 0 0), (.slice none 0 0), (.slice none 0 0), (.slice none 0 0)]) (by kernel_rfl) rfl) rfl rfl rfl ?_; clear hf fa; rintro fa _ w2 ⟨b2, rfl, hle2, hk2, he2⟩ hf
  have hBb2 : w.heap.size ≤ b2 := Nat.le_trans hb.size hle2
  have : b1 < b2 := Nat.lt_of_lt_of_le (blk_lt hk1) hle2
  replace hk1 := blk_ext hk1 he2
  replace hb := hb.trans (Below.mono he2 hb.size)
  apply wpList_nil
  (try simp only [Exit.then, Exit.inBlock, ↓reduceIte, Nat.reduceEqDiff])
  refine hK1 _ _ ?_
  refine wp_seq_k (fun K2 hK2 => ?_)
  refine wp_region_lit ?_
  refine sqv hf (r_fa rfl Try.underlying45 (f := 0) (q := 0) rfl (by kernel_rfl) rfl) rfl rfl rfl ?_; clear hf fa; intro fa hf
  refine sqv hf (r_load (v := (.int .i64 k)) rfl Try.underlying3 rfl (cell_blk hk1 rfl)) rfl rfl rfl ?_; clear hf fa; intro fa hf
  refine sqv hf (r_fa rfl Try.underlying45 (f := 1) (q := 1) rfl (by kernel_rfl) rfl) rfl rfl rfl ?_; clear hf fa; intro fa hf
  refine sqv hf (r_load (v := (.slice aN nN cN)) rfl Try.underlying41 rfl (cell_blk hk1 rfl)) rfl rfl rfl ?_; clear hf fa; intro fa hf
  refine sqv hf (r_fa rfl Try.underlying45 (f := 2) (q := 2) rfl (by kernel_rfl) rfl) rfl rfl rfl ?_; clear hf fa; intro fa hf
  refine sqv hf (r_load (v := (.slice aS nS cS)) rfl Try.underlying32 rfl (cell_blk hk1 rfl)) rfl rfl rfl ?_; clear hf fa; intro fa hf
  refine sqv hf (r_fa rfl Try.underlying45 (f := 3) (q := 3) rfl (by kernel_rfl) rfl) rfl rfl rfl ?_; clear hf fa; intro fa hf
  refine sqv hf (r_load (v := (.slice aA nA cA)) rfl Try.underlying42 rfl (cell_blk hk1 rfl)) rfl rfl rfl ?_; clear hf fa; intro fa hf
  refine sqv hf (r_fa rfl Try.underlying45 (f := 4) (q := 4) rfl (by kernel_rfl) rfl) rfl rfl rfl ?_; clear hf fa; intro fa hf
  refine sqv hf (r_load (v := (.slice aD nD cD)) rfl Try.underlying43 rfl (cell_blk hk1 rfl)) rfl rfl rfl ?_; clear hf fa; intro fa hf
  refine sqv hf (r_build (vs := [(0, (.int .i64 k)), (1, (.slice aN nN cN)), (2, (.slice aS nS cS)), (3, (.slice aA nA cA)), (4, (.slice aD nD cD))]) (cs := #[(.int .i64 k), (.slice aN nN cN), (.slice aS nS cS), (.slice aA nA cA), (.slice aD nD cD)]) rfl (fun _ => by kernel_rfl)) rfl rfl rfl ?_; clear hf fa; intro fa hf
  refine sqn hf (d_storeK (T := 49) (v := (.agg #[(.int .i64 k), (.slice aN nN cN), (.slice aS nS cS), (.slice aA nA cA), (.slice aD nD cD)])) (cs := #[(.int .i64 (0 : Int)), (.slice none 0 0), (.slice none 0 0), (.slice none 0 0), (.slice none 0 0)]) (cs' := #[(.int .i64 k), (.slice aN nN cN), (.slice aS nS cS), (.slice aA nA cA), (.slice aD nD cD)]) rfl rfl (by kernel_rfl) (by kernel_rfl) hk2 (by kernel_rfl) (by kernel_rfl)) rfl rfl ?_; clear hf fa; rintro fa _ w3 ⟨hk3, hg1⟩ hf
  replace hk1 := blk_grown hk1 hg1 (by omega)
  replace hb := hb.trans (grown_below hg1 hb.size hBb2)
  apply wpList_nil
  (try simp only [Exit.then, Exit.inBlock, ↓reduceIte, Nat.reduceEqDiff])
  refine hK2 _ _ ?_
  refine wp_ret ?_
  (try simp only [Exit.then, Exit.inBlock])
  refine retC hf rfl rfl hk3 Try.underlying49 rfl (by kernel_rfl) ?_
  exact ⟨rfl, hb⟩

set_option maxHeartbeats 1000000 in
set_option maxRecDepth 100000 in
theorem same_any (k : Int) (st : PSt) (aN aS aA aD : Option Addr) (cN cS cA cD : Nat) (aN2 aS2 aA2 aD2 : Option Addr) (cN2 cS2 cA2 cD2 : Nat) (w : World) (hF : OpF w st aN aS aA aD) (hF2 : OpF w st aN2 aS2 aA2 aD2) (hB : OpB st) : Calls Try.prog 23 #[(.agg #[(.int .i64 k), (.slice aN st.N.length cN), (.slice aS st.S.length cS), (.slice aA st.A.length cA), (.slice aD st.D.length cD)]), (.agg #[(.int .i64 k), (.slice aN2 st.N.length cN2), (.slice aS2 st.S.length cS2), (.slice aA2 st.A.length cA2), (.slice aD2 st.D.length cD2)])] w fun e w' => e = .returned (.bool true) ∧ Below w.heap.size w w' := by
  have hnl9 := hB.nl
  have hsl9 := hB.sl
  have hal9 := hB.al
  have hdl9 := hB.dl
  refine sx_enter (L := [(0, (.agg #[(.int .i64 k), (.slice aN st.N.length cN), (.slice aS st.S.length cS), (.slice aA st.A.length cA), (.slice aD st.D.length cD)])), (1, (.agg #[(.int .i64 k), (.slice aN2 st.N.length cN2), (.slice aS2 st.S.length cS2), (.slice aA2 st.A.length cA2), (.slice aD2 st.D.length cD2)]))]) Try.func23 rfl rfl rfl rfl (fun fa hf => ?_)
  have hb : Below w.heap.size w w := Below.refl _ _
  refine wp_seq_k (fun K1 hK1 => ?_)
  refine wp_region_lit ?_
  refine sqdt hf (d_box (cs := #[(.int .i64 k), (.slice aN st.N.length cN), (.slice aS st.S.length cS), (.slice aA st.A.length cA), (.slice aD st.D.length cD)]) rfl rfl) rfl rfl rfl ?_; clear hf fa; rintro fa _ w1 ⟨b1, rfl, hle1, hk1, he1⟩ hf
  have hBb1 : w.heap.size ≤ b1 := Nat.le_trans hb.size hle1
  replace hb := hb.trans (Below.mono he1 hb.size)
  refine sqdt hf (d_box (cs := #[(.int .i64 k), (.slice aN2 st.N.length cN2), (.slice aS2 st.S.length cS2), (.slice aA2 st.A.length cA2), (.slice aD2 st.D.length cD2)]) rfl rfl) rfl rfl rfl ?_; clear hf fa; rintro fa _ w2 ⟨b2, rfl, hle2, hk2, he2⟩ hf
  have hBb2 : w.heap.size ≤ b2 := Nat.le_trans hb.size hle2
  have : b1 < b2 := Nat.lt_of_lt_of_le (blk_lt hk1) hle2
  replace hk1 := blk_ext hk1 he2
  replace hb := hb.trans (Below.mono he2 hb.size)
  refine sqv hf (r_assign rfl) rfl rfl rfl ?_; clear hf fa; intro fa hf
  apply wpList_nil
  (try simp only [Exit.then, Exit.inBlock, ↓reduceIte, Nat.reduceEqDiff])
  refine hK1 _ _ ?_
  refine wp_seq_k (fun K2 hK2 => ?_)
  refine wp_seq_k (fun K3 hK3 => ?_)
  refine wp_region_lit ?_
  refine sqv hf (r_fa rfl Try.underlying49 (f := 0) (q := 0) rfl (by kernel_rfl) rfl) rfl rfl rfl ?_; clear hf fa; intro fa hf
  refine sqv hf (r_load (v := (.int .i64 k)) rfl Try.underlying3 rfl (cell_blk hk1 rfl)) rfl rfl rfl ?_; clear hf fa; intro fa hf
  refine sqv hf (r_fa rfl Try.underlying49 (f := 0) (q := 0) rfl (by kernel_rfl) rfl) rfl rfl rfl ?_; clear hf fa; intro fa hf
  refine sqv hf (r_load (v := (.int .i64 k)) rfl Try.underlying3 rfl (cell_blk hk2 rfl)) rfl rfl rfl ?_; clear hf fa; intro fa hf
  refine sqv hf (Runs.veq (r_ne rfl rfl) (congrArg Value.bool (show _ = false from (by simp)))) rfl rfl rfl ?_; clear hf fa; intro fa hf
  refine sqv hf (r_move rfl) rfl rfl rfl ?_; clear hf fa; intro fa hf
  refine sqgd (act := true) (g := 5) (want := false) (ag := true) (c := false) hf (by rfl) (by rfl) rfl (fun _ =>  Runs.does (R := fun vq wq => vq = (.pointer (some ⟨b1, 1, none⟩)) ∧ w2 = wq) (r_fa rfl Try.underlying49 (f := 1) (q := 1) rfl (by kernel_rfl) rfl) ⟨rfl, rfl⟩) (fun h => by cases h) rfl ?_; clear hf fa; rintro fa _ _ ⟨rfl, rfl⟩ hf
  change Fr _ _ ((14, (.pointer (some ⟨b1, 1, none⟩))) :: _) at hf
  refine sqgd (act := true) (g := 5) (want := false) (ag := true) (c := false) hf (by rfl) (by rfl) rfl (fun _ =>  Runs.does (R := fun vq wq => vq = (.slice aN st.N.length cN) ∧ w2 = wq) (r_load (v := (.slice aN st.N.length cN)) rfl Try.underlying41 rfl (cell_blk hk1 rfl)) ⟨rfl, rfl⟩) (fun h => by cases h) rfl ?_; clear hf fa; rintro fa _ _ ⟨rfl, rfl⟩ hf
  change Fr _ _ ((15, (.slice aN st.N.length cN)) :: _) at hf
  refine sqgd (act := true) (g := 5) (want := false) (ag := true) (c := false) hf (by rfl) (by rfl) rfl (fun _ =>  Runs.does (R := fun vq wq => vq = (.int .i64 ((st.N.length : Nat) : Int)) ∧ w2 = wq) (r_lensl rfl Try.underlying41) ⟨rfl, rfl⟩) (fun h => by cases h) rfl ?_; clear hf fa; rintro fa _ _ ⟨rfl, rfl⟩ hf
  change Fr _ _ ((16, (.int .i64 ((st.N.length : Nat) : Int))) :: _) at hf
  refine sqgd (act := true) (g := 5) (want := false) (ag := true) (c := false) hf (by rfl) (by rfl) rfl (fun _ =>  Runs.does (R := fun vq wq => vq = (.pointer (some ⟨b2, 1, none⟩)) ∧ w2 = wq) (r_fa rfl Try.underlying49 (f := 1) (q := 1) rfl (by kernel_rfl) rfl) ⟨rfl, rfl⟩) (fun h => by cases h) rfl ?_; clear hf fa; rintro fa _ _ ⟨rfl, rfl⟩ hf
  change Fr _ _ ((17, (.pointer (some ⟨b2, 1, none⟩))) :: _) at hf
  refine sqgd (act := true) (g := 5) (want := false) (ag := true) (c := false) hf (by rfl) (by rfl) rfl (fun _ =>  Runs.does (R := fun vq wq => vq = (.slice aN2 st.N.length cN2) ∧ w2 = wq) (r_load (v := (.slice aN2 st.N.length cN2)) rfl Try.underlying41 rfl (cell_blk hk2 rfl)) ⟨rfl, rfl⟩) (fun h => by cases h) rfl ?_; clear hf fa; rintro fa _ _ ⟨rfl, rfl⟩ hf
  change Fr _ _ ((18, (.slice aN2 st.N.length cN2)) :: _) at hf
  refine sqgd (act := true) (g := 5) (want := false) (ag := true) (c := false) hf (by rfl) (by rfl) rfl (fun _ =>  Runs.does (R := fun vq wq => vq = (.int .i64 ((st.N.length : Nat) : Int)) ∧ w2 = wq) (r_lensl rfl Try.underlying41) ⟨rfl, rfl⟩) (fun h => by cases h) rfl ?_; clear hf fa; rintro fa _ _ ⟨rfl, rfl⟩ hf
  change Fr _ _ ((19, (.int .i64 ((st.N.length : Nat) : Int))) :: _) at hf
  refine sqgd (act := true) (g := 5) (want := false) (ag := true) (c := false) hf (by rfl) (by rfl) rfl (fun _ =>  Runs.does (R := fun vq wq => vq = (.bool false) ∧ w2 = wq) (Runs.veq (r_ne rfl rfl) (congrArg Value.bool (show _ = false from (by simp)))) ⟨rfl, rfl⟩) (fun h => by cases h) rfl ?_; clear hf fa; rintro fa _ _ ⟨rfl, rfl⟩ hf
  change Fr _ _ ((20, (.bool false)) :: _) at hf
  refine sqv hf (r_pick (b := false) rfl rfl rfl rfl) rfl rfl rfl ?_; clear hf fa; intro fa hf
  refine sqv hf (r_move rfl) rfl rfl rfl ?_; clear hf fa; intro fa hf
  refine sqgd (act := true) (g := 14) (want := false) (ag := true) (c := false) hf (by rfl) (by rfl) rfl (fun _ =>  Runs.does (R := fun vq wq => vq = (.pointer (some ⟨b1, 2, none⟩)) ∧ w2 = wq) (r_fa rfl Try.underlying49 (f := 2) (q := 2) rfl (by kernel_rfl) rfl) ⟨rfl, rfl⟩) (fun h => by cases h) rfl ?_; clear hf fa; rintro fa _ _ ⟨rfl, rfl⟩ hf
  change Fr _ _ ((23, (.pointer (some ⟨b1, 2, none⟩))) :: _) at hf
  refine sqgd (act := true) (g := 14) (want := false) (ag := true) (c := false) hf (by rfl) (by rfl) rfl (fun _ =>  Runs.does (R := fun vq wq => vq = (.slice aS st.S.length cS) ∧ w2 = wq) (r_load (v := (.slice aS st.S.length cS)) rfl Try.underlying32 rfl (cell_blk hk1 rfl)) ⟨rfl, rfl⟩) (fun h => by cases h) rfl ?_; clear hf fa; rintro fa _ _ ⟨rfl, rfl⟩ hf
  change Fr _ _ ((24, (.slice aS st.S.length cS)) :: _) at hf
  refine sqgd (act := true) (g := 14) (want := false) (ag := true) (c := false) hf (by rfl) (by rfl) rfl (fun _ =>  Runs.does (R := fun vq wq => vq = (.int .i64 ((st.S.length : Nat) : Int)) ∧ w2 = wq) (r_lensl rfl Try.underlying32) ⟨rfl, rfl⟩) (fun h => by cases h) rfl ?_; clear hf fa; rintro fa _ _ ⟨rfl, rfl⟩ hf
  change Fr _ _ ((25, (.int .i64 ((st.S.length : Nat) : Int))) :: _) at hf
  refine sqgd (act := true) (g := 14) (want := false) (ag := true) (c := false) hf (by rfl) (by rfl) rfl (fun _ =>  Runs.does (R := fun vq wq => vq = (.pointer (some ⟨b2, 2, none⟩)) ∧ w2 = wq) (r_fa rfl Try.underlying49 (f := 2) (q := 2) rfl (by kernel_rfl) rfl) ⟨rfl, rfl⟩) (fun h => by cases h) rfl ?_; clear hf fa; rintro fa _ _ ⟨rfl, rfl⟩ hf
  change Fr _ _ ((26, (.pointer (some ⟨b2, 2, none⟩))) :: _) at hf
  refine sqgd (act := true) (g := 14) (want := false) (ag := true) (c := false) hf (by rfl) (by rfl) rfl (fun _ =>  Runs.does (R := fun vq wq => vq = (.slice aS2 st.S.length cS2) ∧ w2 = wq) (r_load (v := (.slice aS2 st.S.length cS2)) rfl Try.underlying32 rfl (cell_blk hk2 rfl)) ⟨rfl, rfl⟩) (fun h => by cases h) rfl ?_; clear hf fa; rintro fa _ _ ⟨rfl, rfl⟩ hf
  change Fr _ _ ((27, (.slice aS2 st.S.length cS2)) :: _) at hf
  refine sqgd (act := true) (g := 14) (want := false) (ag := true) (c := false) hf (by rfl) (by rfl) rfl (fun _ =>  Runs.does (R := fun vq wq => vq = (.int .i64 ((st.S.length : Nat) : Int)) ∧ w2 = wq) (r_lensl rfl Try.underlying32) ⟨rfl, rfl⟩) (fun h => by cases h) rfl ?_; clear hf fa; rintro fa _ _ ⟨rfl, rfl⟩ hf
  change Fr _ _ ((28, (.int .i64 ((st.S.length : Nat) : Int))) :: _) at hf
  refine sqgd (act := true) (g := 14) (want := false) (ag := true) (c := false) hf (by rfl) (by rfl) rfl (fun _ =>  Runs.does (R := fun vq wq => vq = (.bool false) ∧ w2 = wq) (Runs.veq (r_ne rfl rfl) (congrArg Value.bool (show _ = false from (by simp)))) ⟨rfl, rfl⟩) (fun h => by cases h) rfl ?_; clear hf fa; rintro fa _ _ ⟨rfl, rfl⟩ hf
  change Fr _ _ ((29, (.bool false)) :: _) at hf
  refine sqv hf (r_pick (b := false) rfl rfl rfl rfl) rfl rfl rfl ?_; clear hf fa; intro fa hf
  refine sqv hf (r_move rfl) rfl rfl rfl ?_; clear hf fa; intro fa hf
  refine sqgd (act := true) (g := 23) (want := false) (ag := true) (c := false) hf (by rfl) (by rfl) rfl (fun _ =>  Runs.does (R := fun vq wq => vq = (.pointer (some ⟨b1, 3, none⟩)) ∧ w2 = wq) (r_fa rfl Try.underlying49 (f := 3) (q := 3) rfl (by kernel_rfl) rfl) ⟨rfl, rfl⟩) (fun h => by cases h) rfl ?_; clear hf fa; rintro fa _ _ ⟨rfl, rfl⟩ hf
  change Fr _ _ ((32, (.pointer (some ⟨b1, 3, none⟩))) :: _) at hf
  refine sqgd (act := true) (g := 23) (want := false) (ag := true) (c := false) hf (by rfl) (by rfl) rfl (fun _ =>  Runs.does (R := fun vq wq => vq = (.slice aA st.A.length cA) ∧ w2 = wq) (r_load (v := (.slice aA st.A.length cA)) rfl Try.underlying42 rfl (cell_blk hk1 rfl)) ⟨rfl, rfl⟩) (fun h => by cases h) rfl ?_; clear hf fa; rintro fa _ _ ⟨rfl, rfl⟩ hf
  change Fr _ _ ((33, (.slice aA st.A.length cA)) :: _) at hf
  refine sqgd (act := true) (g := 23) (want := false) (ag := true) (c := false) hf (by rfl) (by rfl) rfl (fun _ =>  Runs.does (R := fun vq wq => vq = (.int .i64 ((st.A.length : Nat) : Int)) ∧ w2 = wq) (r_lensl rfl Try.underlying42) ⟨rfl, rfl⟩) (fun h => by cases h) rfl ?_; clear hf fa; rintro fa _ _ ⟨rfl, rfl⟩ hf
  change Fr _ _ ((34, (.int .i64 ((st.A.length : Nat) : Int))) :: _) at hf
  refine sqgd (act := true) (g := 23) (want := false) (ag := true) (c := false) hf (by rfl) (by rfl) rfl (fun _ =>  Runs.does (R := fun vq wq => vq = (.pointer (some ⟨b2, 3, none⟩)) ∧ w2 = wq) (r_fa rfl Try.underlying49 (f := 3) (q := 3) rfl (by kernel_rfl) rfl) ⟨rfl, rfl⟩) (fun h => by cases h) rfl ?_; clear hf fa; rintro fa _ _ ⟨rfl, rfl⟩ hf
  change Fr _ _ ((35, (.pointer (some ⟨b2, 3, none⟩))) :: _) at hf
  refine sqgd (act := true) (g := 23) (want := false) (ag := true) (c := false) hf (by rfl) (by rfl) rfl (fun _ =>  Runs.does (R := fun vq wq => vq = (.slice aA2 st.A.length cA2) ∧ w2 = wq) (r_load (v := (.slice aA2 st.A.length cA2)) rfl Try.underlying42 rfl (cell_blk hk2 rfl)) ⟨rfl, rfl⟩) (fun h => by cases h) rfl ?_; clear hf fa; rintro fa _ _ ⟨rfl, rfl⟩ hf
  change Fr _ _ ((36, (.slice aA2 st.A.length cA2)) :: _) at hf
  refine sqgd (act := true) (g := 23) (want := false) (ag := true) (c := false) hf (by rfl) (by rfl) rfl (fun _ =>  Runs.does (R := fun vq wq => vq = (.int .i64 ((st.A.length : Nat) : Int)) ∧ w2 = wq) (r_lensl rfl Try.underlying42) ⟨rfl, rfl⟩) (fun h => by cases h) rfl ?_; clear hf fa; rintro fa _ _ ⟨rfl, rfl⟩ hf
  change Fr _ _ ((37, (.int .i64 ((st.A.length : Nat) : Int))) :: _) at hf
  refine sqgd (act := true) (g := 23) (want := false) (ag := true) (c := false) hf (by rfl) (by rfl) rfl (fun _ =>  Runs.does (R := fun vq wq => vq = (.bool false) ∧ w2 = wq) (Runs.veq (r_ne rfl rfl) (congrArg Value.bool (show _ = false from (by simp)))) ⟨rfl, rfl⟩) (fun h => by cases h) rfl ?_; clear hf fa; rintro fa _ _ ⟨rfl, rfl⟩ hf
  change Fr _ _ ((38, (.bool false)) :: _) at hf
  refine sqv hf (r_pick (b := false) rfl rfl rfl rfl) rfl rfl rfl ?_; clear hf fa; intro fa hf
  refine sqv hf (r_move rfl) rfl rfl rfl ?_; clear hf fa; intro fa hf
  refine sqgd (act := true) (g := 32) (want := false) (ag := true) (c := false) hf (by rfl) (by rfl) rfl (fun _ =>  Runs.does (R := fun vq wq => vq = (.pointer (some ⟨b1, 4, none⟩)) ∧ w2 = wq) (r_fa rfl Try.underlying49 (f := 4) (q := 4) rfl (by kernel_rfl) rfl) ⟨rfl, rfl⟩) (fun h => by cases h) rfl ?_; clear hf fa; rintro fa _ _ ⟨rfl, rfl⟩ hf
  change Fr _ _ ((41, (.pointer (some ⟨b1, 4, none⟩))) :: _) at hf
  refine sqgd (act := true) (g := 32) (want := false) (ag := true) (c := false) hf (by rfl) (by rfl) rfl (fun _ =>  Runs.does (R := fun vq wq => vq = (.slice aD st.D.length cD) ∧ w2 = wq) (r_load (v := (.slice aD st.D.length cD)) rfl Try.underlying43 rfl (cell_blk hk1 rfl)) ⟨rfl, rfl⟩) (fun h => by cases h) rfl ?_; clear hf fa; rintro fa _ _ ⟨rfl, rfl⟩ hf
  change Fr _ _ ((42, (.slice aD st.D.length cD)) :: _) at hf
  refine sqgd (act := true) (g := 32) (want := false) (ag := true) (c := false) hf (by rfl) (by rfl) rfl (fun _ =>  Runs.does (R := fun vq wq => vq = (.string (strOfNums (nI st.D))) ∧ w2 = wq) (r_rdstr2 rfl (by first | rfl | exact (nI_length _).symm) Try.underlying43 Try.underlying5 Try.underlying9 (RdS.ext hF.2.2.2 hb)) ⟨rfl, rfl⟩) (fun h => by cases h) rfl ?_; clear hf fa; rintro fa _ _ ⟨rfl, rfl⟩ hf
  change Fr _ _ ((43, (.string (strOfNums (nI st.D)))) :: _) at hf
  refine sqgd (act := true) (g := 32) (want := false) (ag := true) (c := false) hf (by rfl) (by rfl) rfl (fun _ =>  Runs.does (R := fun vq wq => vq = (.pointer (some ⟨b2, 4, none⟩)) ∧ w2 = wq) (r_fa rfl Try.underlying49 (f := 4) (q := 4) rfl (by kernel_rfl) rfl) ⟨rfl, rfl⟩) (fun h => by cases h) rfl ?_; clear hf fa; rintro fa _ _ ⟨rfl, rfl⟩ hf
  change Fr _ _ ((44, (.pointer (some ⟨b2, 4, none⟩))) :: _) at hf
  refine sqgd (act := true) (g := 32) (want := false) (ag := true) (c := false) hf (by rfl) (by rfl) rfl (fun _ =>  Runs.does (R := fun vq wq => vq = (.slice aD2 st.D.length cD2) ∧ w2 = wq) (r_load (v := (.slice aD2 st.D.length cD2)) rfl Try.underlying43 rfl (cell_blk hk2 rfl)) ⟨rfl, rfl⟩) (fun h => by cases h) rfl ?_; clear hf fa; rintro fa _ _ ⟨rfl, rfl⟩ hf
  change Fr _ _ ((45, (.slice aD2 st.D.length cD2)) :: _) at hf
  refine sqgd (act := true) (g := 32) (want := false) (ag := true) (c := false) hf (by rfl) (by rfl) rfl (fun _ =>  Runs.does (R := fun vq wq => vq = (.string (strOfNums (nI st.D))) ∧ w2 = wq) (r_rdstr2 rfl (by first | rfl | exact (nI_length _).symm) Try.underlying43 Try.underlying5 Try.underlying9 (RdS.ext hF2.2.2.2 hb)) ⟨rfl, rfl⟩) (fun h => by cases h) rfl ?_; clear hf fa; rintro fa _ _ ⟨rfl, rfl⟩ hf
  change Fr _ _ ((46, (.string (strOfNums (nI st.D)))) :: _) at hf
  refine sqgd (act := true) (g := 32) (want := false) (ag := true) (c := false) hf (by rfl) (by rfl) rfl (fun _ =>  Runs.does (R := fun vq wq => vq = (.bool false) ∧ w2 = wq) (Runs.veq (r_sne rfl rfl) (congrArg Value.bool (show _ = false from (by simp)))) ⟨rfl, rfl⟩) (fun h => by cases h) rfl ?_; clear hf fa; rintro fa _ _ ⟨rfl, rfl⟩ hf
  change Fr _ _ ((47, (.bool false)) :: _) at hf
  refine sqv hf (r_pick (b := false) rfl rfl rfl rfl) rfl rfl rfl ?_; clear hf fa; intro fa hf
  apply wpList_nil
  (try simp only [Exit.then, Exit.inBlock, ↓reduceIte, Nat.reduceEqDiff])
  refine hK3 _ _ ?_
  refine wp_cond_false (hf.ev rfl) ?_
  refine wp_skip ?_
  (try simp only [Exit.then, Exit.inBlock, ↓reduceIte, Nat.reduceEqDiff])
  refine hK2 _ _ ?_
  refine wp_seq_k (fun K4 hK4 => ?_)
  refine wp_seq_k (fun K5 hK5 => ?_)
  refine wp_region_lit ?_
  refine sqv hf (r_assign rfl) rfl rfl rfl ?_; clear hf fa; intro fa hf
  apply wpList_nil
  (try simp only [Exit.then, Exit.inBlock, ↓reduceIte, Nat.reduceEqDiff])
  refine hK5 _ _ ?_
  refine wp_block ?_
  refine wp_loop_k (fun mq fa wr => ∃ (nx : Nat), mq = st.N.length - nx ∧ Fr 103 fa [(2, (.pointer (some ⟨b1, 0, none⟩))), (3, (.pointer (some ⟨b2, 0, none⟩))), (5, (.int .i64 ((nx : Nat) : Int)))] ∧ Below w.heap.size w wr ∧ wr.heap[b1]? = some (.cells #[(.int .i64 k), (.slice aN st.N.length cN), (.slice aS st.S.length cS), (.slice aA st.A.length cA), (.slice aD st.D.length cD)] 49 (0, 0)) ∧ wr.heap[b2]? = some (.cells #[(.int .i64 k), (.slice aN2 st.N.length cN2), (.slice aS2 st.S.length cS2), (.slice aA2 st.A.length cA2), (.slice aD2 st.D.length cD2)] 49 (0, 0)) ∧ (nx ≤ st.N.length)) ?_ ?_
  · skip
    exact ⟨_, 0, rfl, hf.sub ⟨rfl, rfl, (some_int (by first | rfl | omega)), trivial⟩, hb, hk1, hk2, by omega⟩
  · skip
    clear hf fa; intro mq1 fa w3 hI KL1 hKL1
    clear hb
    clear hk1
    clear hk2
    obtain ⟨nx, hmq1, hf, hb, hkb1, hkb2, hnx⟩ := hI
    refine wp_seq_k (fun K6 hK6 => ?_)
    refine wp_seq_k (fun K7 hK7 => ?_)
    refine wp_region_lit ?_
    refine sqv hf (r_move rfl) rfl rfl rfl ?_; clear hf fa; intro fa hf
    refine sqv hf (r_fa rfl Try.underlying49 (f := 1) (q := 1) rfl (by kernel_rfl) rfl) rfl rfl rfl ?_; clear hf fa; intro fa hf
    refine sqv hf (r_load (v := (.slice aN st.N.length cN)) rfl Try.underlying41 rfl (cell_blk hkb1 rfl)) rfl rfl rfl ?_; clear hf fa; intro fa hf
    refine sqv hf (r_lensl rfl Try.underlying41) rfl rfl rfl ?_; clear hf fa; intro fa hf
    refine sqv hf (r_lt rfl rfl) rfl rfl rfl ?_; clear hf fa; intro fa hf
    apply wpList_nil
    (try simp only [Exit.then, Exit.inBlock, ↓reduceIte, Nat.reduceEqDiff])
    refine hK7 _ _ ?_
    refine wp_cond_split (t := (decide (((nx : Nat) : Int) < ((st.N.length : Nat) : Int)))) (hf.ev rfl) (fun hqt53_1 => ?_) (fun hqt53_1 => ?_)
    · have hqt53_1b := hqt53_1
      try simp only [decide_eq_true_eq, Bool.and_eq_true, Bool.or_eq_true, Bool.not_eq_true', decide_eq_false_iff_not, ne_eq, Bool.not_eq_true] at hqt53_1
      refine wp_skip ?_
      (try simp only [Exit.then, Exit.inBlock, ↓reduceIte, Nat.reduceEqDiff])
      refine hK6 _ _ ?_
      refine wp_seq_k (fun K8 hK8 => ?_)
      refine wp_block ?_
      refine wp_seq_k (fun K9 hK9 => ?_)
      obtain ⟨yy, hyy⟩ : ∃ x, st.N[nx]? = some x := ⟨_, List.getElem?_eq_getElem (by omega)⟩
      have hy1 : (st.N)[nx]? = some yy := hyy
      obtain ⟨ab1, aoff1, rfl, hlb1, hel1⟩ := RdS.at hF.1 hy1
      have hy2 : (st.N)[nx]? = some yy := hyy
      obtain ⟨ab2, aoff2, rfl, hlb2, hel2⟩ := RdS.at hF2.1 hy2
      refine wp_region_un (fun wq => Below w3.heap.size w3 wq) (fun w w' => Below w.heap.size w w')
        (fun V => [(fun x _ => x = (.pointer (some ⟨b1, 1, none⟩))), (fun x _ => x = (.slice (some ⟨ab1, aoff1, none⟩) st.N.length cN)), (fun x _ => x = (.int .i64 ((nx : Nat) : Int))), (fun x _ => x = (.pointer (some ⟨ab1, (aoff1 + nx * 1), none⟩))), (fun x _ => x = (.int .i64 yy)), (fun x _ => x = (.pointer (some ⟨b2, 1, none⟩))), (fun x _ => x = (.slice (some ⟨ab2, aoff2, none⟩) st.N.length cN2)), (fun x _ => x = (.int .i64 ((nx : Nat) : Int))), (fun x _ => x = (.pointer (some ⟨ab2, (aoff2 + nx * 1), none⟩))), (fun x _ => x = (.int .i64 yy)), (fun x _ => x = (.bool false))])
        []
        [[], [0], [], [1, 2], [3], [], [5], [], [6, 7], [8], [4, 9]]
        hf (by kernel_rfl) (by kernel_rfl) (fun _ => rfl) ((Below.refl _ _).drew) (fun a b h1 h2 => h1.trans (h2.mono h1.size)) (fun _ _ h => h.size) (fun V => ⟨kept_eq, kept_eq, kept_eq, kept_eq, kept_eq, kept_eq, kept_eq, kept_eq, kept_eq, kept_eq, kept_eq, trivial⟩) (fun _ _ _ _ _ => rfl) ?_ ?_
      · skip
        intro V
        refine ⟨fun wu0 hC hd => ?_, ?_⟩
        · clear hd
          replace hb := hb.trans (hC.mono hb.size)
          replace hkb1 := blk_ext hkb1 hC
          replace hkb2 := blk_ext hkb2 hC
          exact Runs.does (r_fa rfl Try.underlying49 (f := 1) (q := 1) rfl (by kernel_rfl) rfl) ⟨Below.refl _ _, rfl, nofr rfl⟩
        refine ⟨fun wu1 hC hd => ?_, ?_⟩
        · obtain ⟨h0, _⟩ := hd
          skip
          replace h0 : V 0 = (.pointer (some ⟨b1, 1, none⟩)) := h0
          replace hb := hb.trans (hC.mono hb.size)
          replace hkb1 := blk_ext hkb1 hC
          replace hkb2 := blk_ext hkb2 hC
          exact Runs.does (r_load (v := (.slice (some ⟨ab1, aoff1, none⟩) st.N.length cN)) (congrArg some h0) Try.underlying41 rfl (cell_blk hkb1 rfl)) ⟨Below.refl _ _, rfl, nofr rfl⟩
        refine ⟨fun wu2 hC hd => ?_, ?_⟩
        · clear hd
          replace hb := hb.trans (hC.mono hb.size)
          replace hkb1 := blk_ext hkb1 hC
          replace hkb2 := blk_ext hkb2 hC
          exact Runs.does (r_move rfl) ⟨Below.refl _ _, rfl, nofr rfl⟩
        refine ⟨fun wu3 hC hd => ?_, ?_⟩
        · obtain ⟨h1, h2, _⟩ := hd
          skip
          skip
          replace h1 : V 1 = (.slice (some ⟨ab1, aoff1, none⟩) st.N.length cN) := h1
          replace h2 : V 2 = (.int .i64 ((nx : Nat) : Int)) := h2
          replace hb := hb.trans (hC.mono hb.size)
          replace hkb1 := blk_ext hkb1 hC
          replace hkb2 := blk_ext hkb2 hC
          exact Runs.does (r_ixa (sz := 1) (j := nx) (congrArg some h1) (congrArg some h2) Try.underlying41 (by kernel_rfl) rfl (by omega) rfl) ⟨Below.refl _ _, rfl, nofr rfl⟩
        refine ⟨fun wu4 hC hd => ?_, ?_⟩
        · obtain ⟨h3, _⟩ := hd
          skip
          replace h3 : V 3 = (.pointer (some ⟨ab1, (aoff1 + nx * 1), none⟩)) := h3
          replace hb := hb.trans (hC.mono hb.size)
          replace hkb1 := blk_ext hkb1 hC
          replace hkb2 := blk_ext hkb2 hC
          exact Runs.does (r_load (v := (.int .i64 yy)) (congrArg some h3) Try.underlying3 rfl (cellsAt_cell (cellsAt_below hel1 hb hlb1) (i := 0) rfl rfl)) ⟨Below.refl _ _, rfl, nofr rfl⟩
        refine ⟨fun wu5 hC hd => ?_, ?_⟩
        · clear hd
          replace hb := hb.trans (hC.mono hb.size)
          replace hkb1 := blk_ext hkb1 hC
          replace hkb2 := blk_ext hkb2 hC
          exact Runs.does (r_fa rfl Try.underlying49 (f := 1) (q := 1) rfl (by kernel_rfl) rfl) ⟨Below.refl _ _, rfl, nofr rfl⟩
        refine ⟨fun wu6 hC hd => ?_, ?_⟩
        · obtain ⟨h5, _⟩ := hd
          skip
          replace h5 : V 5 = (.pointer (some ⟨b2, 1, none⟩)) := h5
          replace hb := hb.trans (hC.mono hb.size)
          replace hkb1 := blk_ext hkb1 hC
          replace hkb2 := blk_ext hkb2 hC
          exact Runs.does (r_load (v := (.slice (some ⟨ab2, aoff2, none⟩) st.N.length cN2)) (congrArg some h5) Try.underlying41 rfl (cell_blk hkb2 rfl)) ⟨Below.refl _ _, rfl, nofr rfl⟩
        refine ⟨fun wu7 hC hd => ?_, ?_⟩
        · clear hd
          replace hb := hb.trans (hC.mono hb.size)
          replace hkb1 := blk_ext hkb1 hC
          replace hkb2 := blk_ext hkb2 hC
          exact Runs.does (r_move rfl) ⟨Below.refl _ _, rfl, nofr rfl⟩
        refine ⟨fun wu8 hC hd => ?_, ?_⟩
        · obtain ⟨h6, h7, _⟩ := hd
          skip
          skip
          replace h6 : V 6 = (.slice (some ⟨ab2, aoff2, none⟩) st.N.length cN2) := h6
          replace h7 : V 7 = (.int .i64 ((nx : Nat) : Int)) := h7
          replace hb := hb.trans (hC.mono hb.size)
          replace hkb1 := blk_ext hkb1 hC
          replace hkb2 := blk_ext hkb2 hC
          exact Runs.does (r_ixa (sz := 1) (j := nx) (congrArg some h6) (congrArg some h7) Try.underlying41 (by kernel_rfl) rfl (by omega) rfl) ⟨Below.refl _ _, rfl, nofr rfl⟩
        refine ⟨fun wu9 hC hd => ?_, ?_⟩
        · obtain ⟨h8, _⟩ := hd
          skip
          replace h8 : V 8 = (.pointer (some ⟨ab2, (aoff2 + nx * 1), none⟩)) := h8
          replace hb := hb.trans (hC.mono hb.size)
          replace hkb1 := blk_ext hkb1 hC
          replace hkb2 := blk_ext hkb2 hC
          exact Runs.does (r_load (v := (.int .i64 yy)) (congrArg some h8) Try.underlying3 rfl (cellsAt_cell (cellsAt_below hel2 hb hlb2) (i := 0) rfl rfl)) ⟨Below.refl _ _, rfl, nofr rfl⟩
        refine ⟨fun wu10 hC hd => ?_, ?_⟩
        · obtain ⟨h4, h9, _⟩ := hd
          skip
          skip
          replace h4 : V 4 = (.int .i64 yy) := h4
          replace h9 : V 9 = (.int .i64 yy) := h9
          replace hb := hb.trans (hC.mono hb.size)
          replace hkb1 := blk_ext hkb1 hC
          replace hkb2 := blk_ext hkb2 hC
          exact Runs.does (Runs.veq (r_ne (congrArg some h4) (congrArg some h9)) (congrArg Value.bool (show _ = false from (by simp)))) ⟨Below.refl _ _, rfl, nofr rfl⟩
        trivial
      · skip
        clear hf fa; intro V w4 fa he3 hp hnb hf
        have hv0 : V 0 = (.pointer (some ⟨b1, 1, none⟩)) := postsHold_at hp 0 rfl
        have hv1 : V 1 = (.slice (some ⟨ab1, aoff1, none⟩) st.N.length cN) := postsHold_at hp 1 rfl
        have hv2 : V 2 = (.int .i64 ((nx : Nat) : Int)) := postsHold_at hp 2 rfl
        have hv3 : V 3 = (.pointer (some ⟨ab1, (aoff1 + nx * 1), none⟩)) := postsHold_at hp 3 rfl
        have hv4 : V 4 = (.int .i64 yy) := postsHold_at hp 4 rfl
        have hv5 : V 5 = (.pointer (some ⟨b2, 1, none⟩)) := postsHold_at hp 5 rfl
        have hv6 : V 6 = (.slice (some ⟨ab2, aoff2, none⟩) st.N.length cN2) := postsHold_at hp 6 rfl
        have hv7 : V 7 = (.int .i64 ((nx : Nat) : Int)) := postsHold_at hp 7 rfl
        have hv8 : V 8 = (.pointer (some ⟨ab2, (aoff2 + nx * 1), none⟩)) := postsHold_at hp 8 rfl
        have hv9 : V 9 = (.int .i64 yy) := postsHold_at hp 9 rfl
        have hv10 : V 10 = (.bool false) := postsHold_at hp 10 rfl
        simp only [List.take_succ_cons, List.take_zero, insAll, ins, hv0, hv1, hv2, hv3, hv4, hv5, hv6, hv7, hv8, hv9, hv10] at hf
        clear hp hnb hv0 hv1 hv2 hv3 hv4 hv5 hv6 hv7 hv8 hv9 hv10
        replace hkb1 := blk_ext hkb1 he3
        replace hkb2 := blk_ext hkb2 he3
        replace hb := hb.trans (Below.mono he3 hb.size)
        (try simp only [Exit.then, Exit.inBlock, ↓reduceIte, Nat.reduceEqDiff])
        refine hK9 _ _ ?_
        refine wp_cond_false (hf.ev rfl) ?_
        refine wp_skip ?_
        (try simp only [Exit.then, Exit.inBlock, ↓reduceIte, Nat.reduceEqDiff])
        refine hK8 _ _ ?_
        refine wp_region_lit ?_
        refine sqv hf (r_move rfl) rfl rfl rfl ?_; clear hf fa; intro fa hf
        refine sqv hf (r_add (C := (((nx : Nat) : Int) + (1 : Int))) rfl rfl (by rw [IntKind.wrap_i64]; omega)) rfl rfl rfl ?_; clear hf fa; intro fa hf
        refine sqv hf (r_assign rfl) rfl rfl rfl ?_; clear hf fa; intro fa hf
        apply wpList_nil
        (try simp only [Exit.then, Exit.inBlock, ↓reduceIte, Nat.reduceEqDiff])
        refine hKL1 _ _ _ (by omega) ⟨(nx + 1), rfl, hf.sub ⟨rfl, rfl, (some_int (by first | rfl | omega)), trivial⟩, hb, hkb1, hkb2, by omega⟩
    · have hqt53_1b := hqt53_1
      replace hqt53_1 := Bool.eq_false_iff.1 hqt53_1
      try simp only [ne_eq, decide_eq_true_eq, Bool.and_eq_true, Bool.or_eq_true, Bool.not_eq_true', decide_eq_false_iff_not] at hqt53_1
      refine wp_exit ?_
      (try simp only [Exit.then, Exit.inBlock, ↓reduceIte, Nat.reduceEqDiff])
      refine hK4 _ _ ?_
      refine wp_seq_k (fun K10 hK10 => ?_)
      refine wp_seq_k (fun K11 hK11 => ?_)
      refine wp_region_lit ?_
      refine sqv hf (r_assign rfl) rfl rfl rfl ?_; clear hf fa; intro fa hf
      apply wpList_nil
      (try simp only [Exit.then, Exit.inBlock, ↓reduceIte, Nat.reduceEqDiff])
      refine hK11 _ _ ?_
      refine wp_block ?_
      refine wp_loop_k (fun mq fa wr => ∃ (ny : Nat), mq = st.S.length - ny ∧ Fr 103 fa [(2, (.pointer (some ⟨b1, 0, none⟩))), (3, (.pointer (some ⟨b2, 0, none⟩))), (6, (.int .i64 ((ny : Nat) : Int)))] ∧ Below w.heap.size w wr ∧ wr.heap[b1]? = some (.cells #[(.int .i64 k), (.slice aN st.N.length cN), (.slice aS st.S.length cS), (.slice aA st.A.length cA), (.slice aD st.D.length cD)] 49 (0, 0)) ∧ wr.heap[b2]? = some (.cells #[(.int .i64 k), (.slice aN2 st.N.length cN2), (.slice aS2 st.S.length cS2), (.slice aA2 st.A.length cA2), (.slice aD2 st.D.length cD2)] 49 (0, 0)) ∧ (ny ≤ st.S.length)) ?_ ?_
      · skip
        exact ⟨_, 0, rfl, hf.sub ⟨rfl, rfl, (some_int (by first | rfl | omega)), trivial⟩, hb, hkb1, hkb2, by omega⟩
      · skip
        clear hf fa; intro mq2 fa w5 hI KL2 hKL2
        clear hb
        clear hkb1
        clear hkb2
        obtain ⟨ny, hmq2, hf, hb, hkb1, hkb2, hny⟩ := hI
        refine wp_seq_k (fun K12 hK12 => ?_)
        refine wp_seq_k (fun K13 hK13 => ?_)
        refine wp_region_lit ?_
        refine sqv hf (r_move rfl) rfl rfl rfl ?_; clear hf fa; intro fa hf
        refine sqv hf (r_fa rfl Try.underlying49 (f := 2) (q := 2) rfl (by kernel_rfl) rfl) rfl rfl rfl ?_; clear hf fa; intro fa hf
        refine sqv hf (r_load (v := (.slice aS st.S.length cS)) rfl Try.underlying32 rfl (cell_blk hkb1 rfl)) rfl rfl rfl ?_; clear hf fa; intro fa hf
        refine sqv hf (r_lensl rfl Try.underlying32) rfl rfl rfl ?_; clear hf fa; intro fa hf
        refine sqv hf (r_lt rfl rfl) rfl rfl rfl ?_; clear hf fa; intro fa hf
        apply wpList_nil
        (try simp only [Exit.then, Exit.inBlock, ↓reduceIte, Nat.reduceEqDiff])
        refine hK13 _ _ ?_
        refine wp_cond_split (t := (decide (((ny : Nat) : Int) < ((st.S.length : Nat) : Int)))) (hf.ev rfl) (fun hqt71_1 => ?_) (fun hqt71_1 => ?_)
        · have hqt71_1b := hqt71_1
          try simp only [decide_eq_true_eq, Bool.and_eq_true, Bool.or_eq_true, Bool.not_eq_true', decide_eq_false_iff_not, ne_eq, Bool.not_eq_true] at hqt71_1
          refine wp_skip ?_
          (try simp only [Exit.then, Exit.inBlock, ↓reduceIte, Nat.reduceEqDiff])
          refine hK12 _ _ ?_
          refine wp_seq_k (fun K14 hK14 => ?_)
          refine wp_block ?_
          refine wp_seq_k (fun K15 hK15 => ?_)
          obtain ⟨yy, hyy⟩ : ∃ x, st.S[ny]? = some x := ⟨_, List.getElem?_eq_getElem (by omega)⟩
          have hy3 : (st.S)[ny]? = some yy := hyy
          obtain ⟨ab3, aoff3, rfl, hlb3, hel3⟩ := RdS.at hF.2.1 hy3
          have hy4 : (st.S)[ny]? = some yy := hyy
          obtain ⟨ab4, aoff4, rfl, hlb4, hel4⟩ := RdS.at hF2.2.1 hy4
          refine wp_region_un (fun wq => Below w5.heap.size w5 wq) (fun w w' => Below w.heap.size w w')
            (fun V => [(fun x _ => x = (.pointer (some ⟨b1, 2, none⟩))), (fun x _ => x = (.slice (some ⟨ab3, aoff3, none⟩) st.S.length cS)), (fun x _ => x = (.int .i64 ((ny : Nat) : Int))), (fun x _ => x = (.pointer (some ⟨ab3, (aoff3 + ny * 1), none⟩))), (fun x _ => x = (.string yy)), (fun x _ => x = (.pointer (some ⟨b2, 2, none⟩))), (fun x _ => x = (.slice (some ⟨ab4, aoff4, none⟩) st.S.length cS2)), (fun x _ => x = (.int .i64 ((ny : Nat) : Int))), (fun x _ => x = (.pointer (some ⟨ab4, (aoff4 + ny * 1), none⟩))), (fun x _ => x = (.string yy)), (fun x _ => x = (.bool false))])
            []
            [[], [0], [], [1, 2], [3], [], [5], [], [6, 7], [8], [4, 9]]
            hf (by kernel_rfl) (by kernel_rfl) (fun _ => rfl) ((Below.refl _ _).drew) (fun a b h1 h2 => h1.trans (h2.mono h1.size)) (fun _ _ h => h.size) (fun V => ⟨kept_eq, kept_eq, kept_eq, kept_eq, kept_eq, kept_eq, kept_eq, kept_eq, kept_eq, kept_eq, kept_eq, trivial⟩) (fun _ _ _ _ _ => rfl) ?_ ?_
          · skip
            intro V
            refine ⟨fun wu0 hC hd => ?_, ?_⟩
            · clear hd
              replace hb := hb.trans (hC.mono hb.size)
              replace hkb1 := blk_ext hkb1 hC
              replace hkb2 := blk_ext hkb2 hC
              exact Runs.does (r_fa rfl Try.underlying49 (f := 2) (q := 2) rfl (by kernel_rfl) rfl) ⟨Below.refl _ _, rfl, nofr rfl⟩
            refine ⟨fun wu1 hC hd => ?_, ?_⟩
            · obtain ⟨h0, _⟩ := hd
              skip
              replace h0 : V 0 = (.pointer (some ⟨b1, 2, none⟩)) := h0
              replace hb := hb.trans (hC.mono hb.size)
              replace hkb1 := blk_ext hkb1 hC
              replace hkb2 := blk_ext hkb2 hC
              exact Runs.does (r_load (v := (.slice (some ⟨ab3, aoff3, none⟩) st.S.length cS)) (congrArg some h0) Try.underlying32 rfl (cell_blk hkb1 rfl)) ⟨Below.refl _ _, rfl, nofr rfl⟩
            refine ⟨fun wu2 hC hd => ?_, ?_⟩
            · clear hd
              replace hb := hb.trans (hC.mono hb.size)
              replace hkb1 := blk_ext hkb1 hC
              replace hkb2 := blk_ext hkb2 hC
              exact Runs.does (r_move rfl) ⟨Below.refl _ _, rfl, nofr rfl⟩
            refine ⟨fun wu3 hC hd => ?_, ?_⟩
            · obtain ⟨h1, h2, _⟩ := hd
              skip
              skip
              replace h1 : V 1 = (.slice (some ⟨ab3, aoff3, none⟩) st.S.length cS) := h1
              replace h2 : V 2 = (.int .i64 ((ny : Nat) : Int)) := h2
              replace hb := hb.trans (hC.mono hb.size)
              replace hkb1 := blk_ext hkb1 hC
              replace hkb2 := blk_ext hkb2 hC
              exact Runs.does (r_ixa (sz := 1) (j := ny) (congrArg some h1) (congrArg some h2) Try.underlying32 (by kernel_rfl) rfl (by omega) rfl) ⟨Below.refl _ _, rfl, nofr rfl⟩
            refine ⟨fun wu4 hC hd => ?_, ?_⟩
            · obtain ⟨h3, _⟩ := hd
              skip
              replace h3 : V 3 = (.pointer (some ⟨ab3, (aoff3 + ny * 1), none⟩)) := h3
              replace hb := hb.trans (hC.mono hb.size)
              replace hkb1 := blk_ext hkb1 hC
              replace hkb2 := blk_ext hkb2 hC
              exact Runs.does (r_load (v := (.string yy)) (congrArg some h3) Try.underlying9 rfl (cellsAt_cell (cellsAt_below hel3 hb hlb3) (i := 0) rfl rfl)) ⟨Below.refl _ _, rfl, nofr rfl⟩
            refine ⟨fun wu5 hC hd => ?_, ?_⟩
            · clear hd
              replace hb := hb.trans (hC.mono hb.size)
              replace hkb1 := blk_ext hkb1 hC
              replace hkb2 := blk_ext hkb2 hC
              exact Runs.does (r_fa rfl Try.underlying49 (f := 2) (q := 2) rfl (by kernel_rfl) rfl) ⟨Below.refl _ _, rfl, nofr rfl⟩
            refine ⟨fun wu6 hC hd => ?_, ?_⟩
            · obtain ⟨h5, _⟩ := hd
              skip
              replace h5 : V 5 = (.pointer (some ⟨b2, 2, none⟩)) := h5
              replace hb := hb.trans (hC.mono hb.size)
              replace hkb1 := blk_ext hkb1 hC
              replace hkb2 := blk_ext hkb2 hC
              exact Runs.does (r_load (v := (.slice (some ⟨ab4, aoff4, none⟩) st.S.length cS2)) (congrArg some h5) Try.underlying32 rfl (cell_blk hkb2 rfl)) ⟨Below.refl _ _, rfl, nofr rfl⟩
            refine ⟨fun wu7 hC hd => ?_, ?_⟩
            · clear hd
              replace hb := hb.trans (hC.mono hb.size)
              replace hkb1 := blk_ext hkb1 hC
              replace hkb2 := blk_ext hkb2 hC
              exact Runs.does (r_move rfl) ⟨Below.refl _ _, rfl, nofr rfl⟩
            refine ⟨fun wu8 hC hd => ?_, ?_⟩
            · obtain ⟨h6, h7, _⟩ := hd
              skip
              skip
              replace h6 : V 6 = (.slice (some ⟨ab4, aoff4, none⟩) st.S.length cS2) := h6
              replace h7 : V 7 = (.int .i64 ((ny : Nat) : Int)) := h7
              replace hb := hb.trans (hC.mono hb.size)
              replace hkb1 := blk_ext hkb1 hC
              replace hkb2 := blk_ext hkb2 hC
              exact Runs.does (r_ixa (sz := 1) (j := ny) (congrArg some h6) (congrArg some h7) Try.underlying32 (by kernel_rfl) rfl (by omega) rfl) ⟨Below.refl _ _, rfl, nofr rfl⟩
            refine ⟨fun wu9 hC hd => ?_, ?_⟩
            · obtain ⟨h8, _⟩ := hd
              skip
              replace h8 : V 8 = (.pointer (some ⟨ab4, (aoff4 + ny * 1), none⟩)) := h8
              replace hb := hb.trans (hC.mono hb.size)
              replace hkb1 := blk_ext hkb1 hC
              replace hkb2 := blk_ext hkb2 hC
              exact Runs.does (r_load (v := (.string yy)) (congrArg some h8) Try.underlying9 rfl (cellsAt_cell (cellsAt_below hel4 hb hlb4) (i := 0) rfl rfl)) ⟨Below.refl _ _, rfl, nofr rfl⟩
            refine ⟨fun wu10 hC hd => ?_, ?_⟩
            · obtain ⟨h4, h9, _⟩ := hd
              skip
              skip
              replace h4 : V 4 = (.string yy) := h4
              replace h9 : V 9 = (.string yy) := h9
              replace hb := hb.trans (hC.mono hb.size)
              replace hkb1 := blk_ext hkb1 hC
              replace hkb2 := blk_ext hkb2 hC
              exact Runs.does (Runs.veq (r_sne (congrArg some h4) (congrArg some h9)) (congrArg Value.bool (show _ = false from (by simp)))) ⟨Below.refl _ _, rfl, nofr rfl⟩
            trivial
          · skip
            clear hf fa; intro V w6 fa he4 hp hnb hf
            have hv0 : V 0 = (.pointer (some ⟨b1, 2, none⟩)) := postsHold_at hp 0 rfl
            have hv1 : V 1 = (.slice (some ⟨ab3, aoff3, none⟩) st.S.length cS) := postsHold_at hp 1 rfl
            have hv2 : V 2 = (.int .i64 ((ny : Nat) : Int)) := postsHold_at hp 2 rfl
            have hv3 : V 3 = (.pointer (some ⟨ab3, (aoff3 + ny * 1), none⟩)) := postsHold_at hp 3 rfl
            have hv4 : V 4 = (.string yy) := postsHold_at hp 4 rfl
            have hv5 : V 5 = (.pointer (some ⟨b2, 2, none⟩)) := postsHold_at hp 5 rfl
            have hv6 : V 6 = (.slice (some ⟨ab4, aoff4, none⟩) st.S.length cS2) := postsHold_at hp 6 rfl
            have hv7 : V 7 = (.int .i64 ((ny : Nat) : Int)) := postsHold_at hp 7 rfl
            have hv8 : V 8 = (.pointer (some ⟨ab4, (aoff4 + ny * 1), none⟩)) := postsHold_at hp 8 rfl
            have hv9 : V 9 = (.string yy) := postsHold_at hp 9 rfl
            have hv10 : V 10 = (.bool false) := postsHold_at hp 10 rfl
            simp only [List.take_succ_cons, List.take_zero, insAll, ins, hv0, hv1, hv2, hv3, hv4, hv5, hv6, hv7, hv8, hv9, hv10] at hf
            clear hp hnb hv0 hv1 hv2 hv3 hv4 hv5 hv6 hv7 hv8 hv9 hv10
            replace hkb1 := blk_ext hkb1 he4
            replace hkb2 := blk_ext hkb2 he4
            replace hb := hb.trans (Below.mono he4 hb.size)
            (try simp only [Exit.then, Exit.inBlock, ↓reduceIte, Nat.reduceEqDiff])
            refine hK15 _ _ ?_
            refine wp_cond_false (hf.ev rfl) ?_
            refine wp_skip ?_
            (try simp only [Exit.then, Exit.inBlock, ↓reduceIte, Nat.reduceEqDiff])
            refine hK14 _ _ ?_
            refine wp_region_lit ?_
            refine sqv hf (r_move rfl) rfl rfl rfl ?_; clear hf fa; intro fa hf
            refine sqv hf (r_add (C := (((ny : Nat) : Int) + (1 : Int))) rfl rfl (by rw [IntKind.wrap_i64]; omega)) rfl rfl rfl ?_; clear hf fa; intro fa hf
            refine sqv hf (r_assign rfl) rfl rfl rfl ?_; clear hf fa; intro fa hf
            apply wpList_nil
            (try simp only [Exit.then, Exit.inBlock, ↓reduceIte, Nat.reduceEqDiff])
            refine hKL2 _ _ _ (by omega) ⟨(ny + 1), rfl, hf.sub ⟨rfl, rfl, (some_int (by first | rfl | omega)), trivial⟩, hb, hkb1, hkb2, by omega⟩
        · have hqt71_1b := hqt71_1
          replace hqt71_1 := Bool.eq_false_iff.1 hqt71_1
          try simp only [ne_eq, decide_eq_true_eq, Bool.and_eq_true, Bool.or_eq_true, Bool.not_eq_true', decide_eq_false_iff_not] at hqt71_1
          refine wp_exit ?_
          (try simp only [Exit.then, Exit.inBlock, ↓reduceIte, Nat.reduceEqDiff])
          refine hK10 _ _ ?_
          refine wp_seq_k (fun K16 hK16 => ?_)
          refine wp_seq_k (fun K17 hK17 => ?_)
          refine wp_region_lit ?_
          refine sqv hf (r_assign rfl) rfl rfl rfl ?_; clear hf fa; intro fa hf
          apply wpList_nil
          (try simp only [Exit.then, Exit.inBlock, ↓reduceIte, Nat.reduceEqDiff])
          refine hK17 _ _ ?_
          refine wp_block ?_
          refine wp_loop_k (fun mq fa wr => ∃ (nz : Nat), mq = st.A.length - nz ∧ Fr 103 fa [(2, (.pointer (some ⟨b1, 0, none⟩))), (3, (.pointer (some ⟨b2, 0, none⟩))), (7, (.int .i64 ((nz : Nat) : Int)))] ∧ Below w.heap.size w wr ∧ wr.heap[b1]? = some (.cells #[(.int .i64 k), (.slice aN st.N.length cN), (.slice aS st.S.length cS), (.slice aA st.A.length cA), (.slice aD st.D.length cD)] 49 (0, 0)) ∧ wr.heap[b2]? = some (.cells #[(.int .i64 k), (.slice aN2 st.N.length cN2), (.slice aS2 st.S.length cS2), (.slice aA2 st.A.length cA2), (.slice aD2 st.D.length cD2)] 49 (0, 0)) ∧ (nz ≤ st.A.length)) ?_ ?_
          · skip
            exact ⟨_, 0, rfl, hf.sub ⟨rfl, rfl, (some_int (by first | rfl | omega)), trivial⟩, hb, hkb1, hkb2, by omega⟩
          · skip
            clear hf fa; intro mq3 fa w7 hI KL3 hKL3
            clear hb
            clear hkb1
            clear hkb2
            obtain ⟨nz, hmq3, hf, hb, hkb1, hkb2, hnz⟩ := hI
            refine wp_seq_k (fun K18 hK18 => ?_)
            refine wp_seq_k (fun K19 hK19 => ?_)
            refine wp_region_lit ?_
            refine sqv hf (r_move rfl) rfl rfl rfl ?_; clear hf fa; intro fa hf
            refine sqv hf (r_fa rfl Try.underlying49 (f := 3) (q := 3) rfl (by kernel_rfl) rfl) rfl rfl rfl ?_; clear hf fa; intro fa hf
            refine sqv hf (r_load (v := (.slice aA st.A.length cA)) rfl Try.underlying42 rfl (cell_blk hkb1 rfl)) rfl rfl rfl ?_; clear hf fa; intro fa hf
            refine sqv hf (r_lensl rfl Try.underlying42) rfl rfl rfl ?_; clear hf fa; intro fa hf
            refine sqv hf (r_lt rfl rfl) rfl rfl rfl ?_; clear hf fa; intro fa hf
            apply wpList_nil
            (try simp only [Exit.then, Exit.inBlock, ↓reduceIte, Nat.reduceEqDiff])
            refine hK19 _ _ ?_
            refine wp_cond_split (t := (decide (((nz : Nat) : Int) < ((st.A.length : Nat) : Int)))) (hf.ev rfl) (fun hqt89_1 => ?_) (fun hqt89_1 => ?_)
            · have hqt89_1b := hqt89_1
              try simp only [decide_eq_true_eq, Bool.and_eq_true, Bool.or_eq_true, Bool.not_eq_true', decide_eq_false_iff_not, ne_eq, Bool.not_eq_true] at hqt89_1
              refine wp_skip ?_
              (try simp only [Exit.then, Exit.inBlock, ↓reduceIte, Nat.reduceEqDiff])
              refine hK18 _ _ ?_
              refine wp_seq_k (fun K20 hK20 => ?_)
              refine wp_block ?_
              refine wp_seq_k (fun K21 hK21 => ?_)
              obtain ⟨yy, hyy⟩ : ∃ x, st.A[nz]? = some x := ⟨_, List.getElem?_eq_getElem (by omega)⟩
              have hy5 : (st.A)[nz]? = some yy := hyy
              obtain ⟨ab5, aoff5, rfl, hlb5, hel5⟩ := RdS.at hF.2.2.1 hy5
              have hy6 : (st.A)[nz]? = some yy := hyy
              obtain ⟨ab6, aoff6, rfl, hlb6, hel6⟩ := RdS.at hF2.2.2.1 hy6
              refine wp_region_un (fun wq => Below w7.heap.size w7 wq) (fun w w' => Below w.heap.size w w')
                (fun V => [(fun x _ => x = (.pointer (some ⟨b1, 3, none⟩))), (fun x _ => x = (.slice (some ⟨ab5, aoff5, none⟩) st.A.length cA)), (fun x _ => x = (.int .i64 ((nz : Nat) : Int))), (fun x _ => x = (.pointer (some ⟨ab5, (aoff5 + nz * 2), none⟩))), (fun x _ => x = (.agg #[(.int .u8 yy.1), (.int .u64 yy.2.1)])), (fun x _ => x = (.pointer (some ⟨b2, 3, none⟩))), (fun x _ => x = (.slice (some ⟨ab6, aoff6, none⟩) st.A.length cA2)), (fun x _ => x = (.int .i64 ((nz : Nat) : Int))), (fun x _ => x = (.pointer (some ⟨ab6, (aoff6 + nz * 2), none⟩))), (fun x _ => x = (.agg #[(.int .u8 yy.1), (.int .u64 yy.2.1)])), (fun x _ => x = (.bool false))])
                []
                [[], [0], [], [1, 2], [3], [], [5], [], [6, 7], [8], [4, 9]]
                hf (by kernel_rfl) (by kernel_rfl) (fun _ => rfl) ((Below.refl _ _).drew) (fun a b h1 h2 => h1.trans (h2.mono h1.size)) (fun _ _ h => h.size) (fun V => ⟨kept_eq, kept_eq, kept_eq, kept_eq, kept_eq, kept_eq, kept_eq, kept_eq, kept_eq, kept_eq, kept_eq, trivial⟩) (fun _ _ _ _ _ => rfl) ?_ ?_
              · skip
                intro V
                refine ⟨fun wu0 hC hd => ?_, ?_⟩
                · clear hd
                  replace hb := hb.trans (hC.mono hb.size)
                  replace hkb1 := blk_ext hkb1 hC
                  replace hkb2 := blk_ext hkb2 hC
                  exact Runs.does (r_fa rfl Try.underlying49 (f := 3) (q := 3) rfl (by kernel_rfl) rfl) ⟨Below.refl _ _, rfl, nofr rfl⟩
                refine ⟨fun wu1 hC hd => ?_, ?_⟩
                · obtain ⟨h0, _⟩ := hd
                  skip
                  replace h0 : V 0 = (.pointer (some ⟨b1, 3, none⟩)) := h0
                  replace hb := hb.trans (hC.mono hb.size)
                  replace hkb1 := blk_ext hkb1 hC
                  replace hkb2 := blk_ext hkb2 hC
                  exact Runs.does (r_load (v := (.slice (some ⟨ab5, aoff5, none⟩) st.A.length cA)) (congrArg some h0) Try.underlying42 rfl (cell_blk hkb1 rfl)) ⟨Below.refl _ _, rfl, nofr rfl⟩
                refine ⟨fun wu2 hC hd => ?_, ?_⟩
                · clear hd
                  replace hb := hb.trans (hC.mono hb.size)
                  replace hkb1 := blk_ext hkb1 hC
                  replace hkb2 := blk_ext hkb2 hC
                  exact Runs.does (r_move rfl) ⟨Below.refl _ _, rfl, nofr rfl⟩
                refine ⟨fun wu3 hC hd => ?_, ?_⟩
                · obtain ⟨h1, h2, _⟩ := hd
                  skip
                  skip
                  replace h1 : V 1 = (.slice (some ⟨ab5, aoff5, none⟩) st.A.length cA) := h1
                  replace h2 : V 2 = (.int .i64 ((nz : Nat) : Int)) := h2
                  replace hb := hb.trans (hC.mono hb.size)
                  replace hkb1 := blk_ext hkb1 hC
                  replace hkb2 := blk_ext hkb2 hC
                  exact Runs.does (r_ixa (sz := 2) (j := nz) (congrArg some h1) (congrArg some h2) Try.underlying42 (by kernel_rfl) rfl (by omega) rfl) ⟨Below.refl _ _, rfl, nofr rfl⟩
                refine ⟨fun wu4 hC hd => ?_, ?_⟩
                · obtain ⟨h3, _⟩ := hd
                  skip
                  replace h3 : V 3 = (.pointer (some ⟨ab5, (aoff5 + nz * 2), none⟩)) := h3
                  replace hb := hb.trans (hC.mono hb.size)
                  replace hkb1 := blk_ext hkb1 hC
                  replace hkb2 := blk_ext hkb2 hC
                  exact Runs.does (r_loadA (cs := [(.int .u8 yy.1), (.int .u64 yy.2.1)]) (congrArg some h3) Try.underlying65 rfl (by kernel_rfl) (cellsAt_below hel5 hb hlb5)) ⟨Below.refl _ _, rfl, nofr rfl⟩
                refine ⟨fun wu5 hC hd => ?_, ?_⟩
                · clear hd
                  replace hb := hb.trans (hC.mono hb.size)
                  replace hkb1 := blk_ext hkb1 hC
                  replace hkb2 := blk_ext hkb2 hC
                  exact Runs.does (r_fa rfl Try.underlying49 (f := 3) (q := 3) rfl (by kernel_rfl) rfl) ⟨Below.refl _ _, rfl, nofr rfl⟩
                refine ⟨fun wu6 hC hd => ?_, ?_⟩
                · obtain ⟨h5, _⟩ := hd
                  skip
                  replace h5 : V 5 = (.pointer (some ⟨b2, 3, none⟩)) := h5
                  replace hb := hb.trans (hC.mono hb.size)
                  replace hkb1 := blk_ext hkb1 hC
                  replace hkb2 := blk_ext hkb2 hC
                  exact Runs.does (r_load (v := (.slice (some ⟨ab6, aoff6, none⟩) st.A.length cA2)) (congrArg some h5) Try.underlying42 rfl (cell_blk hkb2 rfl)) ⟨Below.refl _ _, rfl, nofr rfl⟩
                refine ⟨fun wu7 hC hd => ?_, ?_⟩
                · clear hd
                  replace hb := hb.trans (hC.mono hb.size)
                  replace hkb1 := blk_ext hkb1 hC
                  replace hkb2 := blk_ext hkb2 hC
                  exact Runs.does (r_move rfl) ⟨Below.refl _ _, rfl, nofr rfl⟩
                refine ⟨fun wu8 hC hd => ?_, ?_⟩
                · obtain ⟨h6, h7, _⟩ := hd
                  skip
                  skip
                  replace h6 : V 6 = (.slice (some ⟨ab6, aoff6, none⟩) st.A.length cA2) := h6
                  replace h7 : V 7 = (.int .i64 ((nz : Nat) : Int)) := h7
                  replace hb := hb.trans (hC.mono hb.size)
                  replace hkb1 := blk_ext hkb1 hC
                  replace hkb2 := blk_ext hkb2 hC
                  exact Runs.does (r_ixa (sz := 2) (j := nz) (congrArg some h6) (congrArg some h7) Try.underlying42 (by kernel_rfl) rfl (by omega) rfl) ⟨Below.refl _ _, rfl, nofr rfl⟩
                refine ⟨fun wu9 hC hd => ?_, ?_⟩
                · obtain ⟨h8, _⟩ := hd
                  skip
                  replace h8 : V 8 = (.pointer (some ⟨ab6, (aoff6 + nz * 2), none⟩)) := h8
                  replace hb := hb.trans (hC.mono hb.size)
                  replace hkb1 := blk_ext hkb1 hC
                  replace hkb2 := blk_ext hkb2 hC
                  exact Runs.does (r_loadA (cs := [(.int .u8 yy.1), (.int .u64 yy.2.1)]) (congrArg some h8) Try.underlying65 rfl (by kernel_rfl) (cellsAt_below hel6 hb hlb6)) ⟨Below.refl _ _, rfl, nofr rfl⟩
                refine ⟨fun wu10 hC hd => ?_, ?_⟩
                · obtain ⟨h4, h9, _⟩ := hd
                  skip
                  skip
                  replace h4 : V 4 = (.agg #[(.int .u8 yy.1), (.int .u64 yy.2.1)]) := h4
                  replace h9 : V 9 = (.agg #[(.int .u8 yy.1), (.int .u64 yy.2.1)]) := h9
                  replace hb := hb.trans (hC.mono hb.size)
                  replace hkb1 := blk_ext hkb1 hC
                  replace hkb2 := blk_ext hkb2 hC
                  exact Runs.does (Runs.veq (r_ane (k := 5) (congrArg some h4) (congrArg some h9) (by kernel_rfl) (eqt_struct (xs := #[(.int .u8 yy.1), (.int .u64 yy.2.1)]) (ys := #[(.int .u8 yy.1), (.int .u64 yy.2.1)]) Try.underlying65 (by kernel_rfl) (eqf_cons (by kernel_rfl) (fun _ => by kernel_rfl) (fun _ => by kernel_rfl) (eqt_int (kk := .u8) (a := yy.1) (b := yy.1) Try.underlying5) (eqf_one (by kernel_rfl) (fun _ => by kernel_rfl) (fun _ => by kernel_rfl) (eqt_int (kk := .u64) (a := yy.2.1) (b := yy.2.1) Try.underlying63)))) rfl) (congrArg Value.bool (show _ = false from (by simp)))) ⟨Below.refl _ _, rfl, nofr rfl⟩
                trivial
              · skip
                clear hf fa; intro V w8 fa he5 hp hnb hf
                have hv0 : V 0 = (.pointer (some ⟨b1, 3, none⟩)) := postsHold_at hp 0 rfl
                have hv1 : V 1 = (.slice (some ⟨ab5, aoff5, none⟩) st.A.length cA) := postsHold_at hp 1 rfl
                have hv2 : V 2 = (.int .i64 ((nz : Nat) : Int)) := postsHold_at hp 2 rfl
                have hv3 : V 3 = (.pointer (some ⟨ab5, (aoff5 + nz * 2), none⟩)) := postsHold_at hp 3 rfl
                have hv4 : V 4 = (.agg #[(.int .u8 yy.1), (.int .u64 yy.2.1)]) := postsHold_at hp 4 rfl
                have hv5 : V 5 = (.pointer (some ⟨b2, 3, none⟩)) := postsHold_at hp 5 rfl
                have hv6 : V 6 = (.slice (some ⟨ab6, aoff6, none⟩) st.A.length cA2) := postsHold_at hp 6 rfl
                have hv7 : V 7 = (.int .i64 ((nz : Nat) : Int)) := postsHold_at hp 7 rfl
                have hv8 : V 8 = (.pointer (some ⟨ab6, (aoff6 + nz * 2), none⟩)) := postsHold_at hp 8 rfl
                have hv9 : V 9 = (.agg #[(.int .u8 yy.1), (.int .u64 yy.2.1)]) := postsHold_at hp 9 rfl
                have hv10 : V 10 = (.bool false) := postsHold_at hp 10 rfl
                simp only [List.take_succ_cons, List.take_zero, insAll, ins, hv0, hv1, hv2, hv3, hv4, hv5, hv6, hv7, hv8, hv9, hv10] at hf
                clear hp hnb hv0 hv1 hv2 hv3 hv4 hv5 hv6 hv7 hv8 hv9 hv10
                replace hkb1 := blk_ext hkb1 he5
                replace hkb2 := blk_ext hkb2 he5
                replace hb := hb.trans (Below.mono he5 hb.size)
                (try simp only [Exit.then, Exit.inBlock, ↓reduceIte, Nat.reduceEqDiff])
                refine hK21 _ _ ?_
                refine wp_cond_false (hf.ev rfl) ?_
                refine wp_skip ?_
                (try simp only [Exit.then, Exit.inBlock, ↓reduceIte, Nat.reduceEqDiff])
                refine hK20 _ _ ?_
                refine wp_region_lit ?_
                refine sqv hf (r_move rfl) rfl rfl rfl ?_; clear hf fa; intro fa hf
                refine sqv hf (r_add (C := (((nz : Nat) : Int) + (1 : Int))) rfl rfl (by rw [IntKind.wrap_i64]; omega)) rfl rfl rfl ?_; clear hf fa; intro fa hf
                refine sqv hf (r_assign rfl) rfl rfl rfl ?_; clear hf fa; intro fa hf
                apply wpList_nil
                (try simp only [Exit.then, Exit.inBlock, ↓reduceIte, Nat.reduceEqDiff])
                refine hKL3 _ _ _ (by omega) ⟨(nz + 1), rfl, hf.sub ⟨rfl, rfl, (some_int (by first | rfl | omega)), trivial⟩, hb, hkb1, hkb2, by omega⟩
            · have hqt89_1b := hqt89_1
              replace hqt89_1 := Bool.eq_false_iff.1 hqt89_1
              try simp only [ne_eq, decide_eq_true_eq, Bool.and_eq_true, Bool.or_eq_true, Bool.not_eq_true', decide_eq_false_iff_not] at hqt89_1
              refine wp_exit ?_
              (try simp only [Exit.then, Exit.inBlock, ↓reduceIte, Nat.reduceEqDiff])
              refine hK16 _ _ ?_
              refine wp_seq_k (fun K22 hK22 => ?_)
              refine wp_region_lit ?_
              refine sqv hf (r_assign rfl) rfl rfl rfl ?_; clear hf fa; intro fa hf
              apply wpList_nil
              (try simp only [Exit.then, Exit.inBlock, ↓reduceIte, Nat.reduceEqDiff])
              refine hK22 _ _ ?_
              refine wp_ret ?_
              (try simp only [Exit.then, Exit.inBlock])
              refine ret1 hf rfl rfl ?_
              exact ⟨rfl, hb⟩
end Go.Proofs.Ytpalmpfkliepfaa

namespace Go.Proofs.Ytpalmpfkliepfaa
open Go.RowKit Ut
set_option linter.unusedVariables false
set_option linter.unusedSimpArgs false
theorem kind_back (k : Int) : (decide (wordS k ≠ ⟨#[]⟩) && decide (kindP (wordS k) ≠ k)) = false := by
  rcases form_cases k with ⟨_, h1, _⟩ | h
  · rw [h1]; rfl
  · rw [kind_word k (by omega)]; simp

theorem parse_back (k : Int) (st : PSt) (w : World) (hB : OpB st) (hr : rightP k st = true) : Calls Try.prog 21 #[.string (lineS k st)] w fun e w' => ∃ v, e = .returned v ∧ ((∃ (aN : Option Addr) (cN : Nat) (aS : Option Addr) (cS : Nat) (aA : Option Addr) (cA : Nat) (aD : Option Addr) (cD : Nat), v = .tuple #[(.agg #[(.int .i64 k), (.slice aN st.N.length cN), (.slice aS st.S.length cS), (.slice aA st.A.length cA), (.slice aD st.D.length cD)]), .int .i64 0] ∧ OpF w' st aN aS aA aD) ∧ Below w.heap.size w w') := by
  have h := parse_y (lineS k st) w (by have h1 := line_len hB hr; unfold lineS; rw [strN_size]; omega)
  rw [opP_line hB hr] at h
  exact h

set_option maxHeartbeats 1000000 in
set_option maxRecDepth 100000 in
theorem opLines_any (k kd : Int) (st : PSt) (aN aS aA aD : Option Addr) (cN cS cA cD : Nat) (w : World) (hF : OpF w st aN aS aA aD) (hNi : ∀ x ∈ st.N, inI x) (hAi : ∀ x ∈ st.A, RngV x) (hDi : ∀ x ∈ st.D, x < 256) (hsl9 : st.S.length ≤ 9000000000000000000) : Calls Try.prog 4 #[(.agg #[(.int .i64 k), (.slice aN st.N.length cN), (.slice aS st.S.length cS), (.slice aA st.A.length cA), (.slice aD st.D.length cD)]), (.int .i64 kd)] w fun e w' => e = .returned (.bool true) ∧ Below w.heap.size w w' := by
  refine sx_enter (L := [(0, (.agg #[(.int .i64 k), (.slice aN st.N.length cN), (.slice aS st.S.length cS), (.slice aA st.A.length cA), (.slice aD st.D.length cD)])), (1, (.int .i64 kd))]) Try.func4 rfl rfl rfl rfl (fun fa hf => ?_)
  have hb : Below w.heap.size w w := Below.refl _ _
  refine wp_seq_k (fun K1 hK1 => ?_)
  refine wp_region_lit ?_
  refine sqdt hf (d_box (cs := #[(.int .i64 k), (.slice aN st.N.length cN), (.slice aS st.S.length cS), (.slice aA st.A.length cA), (.slice aD st.D.length cD)]) rfl rfl) rfl rfl rfl ?_; clear hf fa; rintro fa _ w1 ⟨b1, rfl, hle1, hk1, he1⟩ hf
  have hBb1 : w.heap.size ≤ b1 := Nat.le_trans hb.size hle1
  replace hb := hb.trans (Below.mono he1 hb.size)
  refine sqv hf (r_assign rfl) rfl rfl rfl ?_; clear hf fa; intro fa hf
  apply wpList_nil
  (try simp only [Exit.then, Exit.inBlock, ↓reduceIte, Nat.reduceEqDiff])
  refine hK1 _ _ ?_
  refine wp_seq_k (fun K2 hK2 => ?_)
  refine wp_seq_k (fun K3 hK3 => ?_)
  refine wp_region_lit ?_
  refine sqdt hf (d_callB (vs := []) rfl Try.func12 (by kernel_rfl) (by kernel_rfl) (awake44_any _)) rfl rfl rfl ?_; clear hf fa; rintro fa _ w2 ⟨rfl, he2⟩ hf
  replace hk1 := blk_ext hk1 he2
  replace hb := hb.trans (Below.mono he2 hb.size)
  refine sqv hf (Runs.veq (v' := (.bool false)) (r_not rfl) rfl) rfl rfl rfl ?_; clear hf fa; intro fa hf
  apply wpList_nil
  (try simp only [Exit.then, Exit.inBlock, ↓reduceIte, Nat.reduceEqDiff])
  refine hK3 _ _ ?_
  refine wp_cond_false (hf.ev rfl) ?_
  refine wp_skip ?_
  (try simp only [Exit.then, Exit.inBlock, ↓reduceIte, Nat.reduceEqDiff])
  refine hK2 _ _ ?_
  refine wp_seq_k (fun K4 hK4 => ?_)
  refine wp_seq_k (fun K5 hK5 => ?_)
  refine wp_region_lit ?_
  refine sqv hf (r_loadA (cs := [(.int .i64 k), (.slice aN st.N.length cN), (.slice aS st.S.length cS), (.slice aA st.A.length cA), (.slice aD st.D.length cD)]) rfl Try.underlying45 rfl (by kernel_rfl) (cellsAt_blk hk1)) rfl rfl rfl ?_; clear hf fa; intro fa hf
  refine sqdt hf (d_callB (vs := [(.agg #[(.int .i64 k), (.slice aN st.N.length cN), (.slice aS st.S.length cS), (.slice aA st.A.length cA), (.slice aD st.D.length cD)])]) rfl Try.func13 (by kernel_rfl) (by kernel_rfl) (few_any k st aN aS aA aD cN cS cA cD _ (hF.ext hb) hsl9)) rfl rfl rfl ?_; clear hf fa; rintro fa _ w3 ⟨rfl, he3⟩ hf
  replace hk1 := blk_ext hk1 he3
  replace hb := hb.trans (Below.mono he3 hb.size)
  refine sqv hf (r_not rfl) rfl rfl rfl ?_; clear hf fa; intro fa hf
  apply wpList_nil
  (try simp only [Exit.then, Exit.inBlock, ↓reduceIte, Nat.reduceEqDiff])
  refine hK5 _ _ ?_
  refine wp_cond_split (t := (!(fewP st))) (hf.ev rfl) (fun hqt17_1 => ?_) (fun hqt17_1 => ?_)
  · have hqt17_1b := hqt17_1
    try simp only [decide_eq_true_eq, Bool.and_eq_true, Bool.or_eq_true, Bool.not_eq_true', decide_eq_false_iff_not, ne_eq, Bool.not_eq_true] at hqt17_1
    refine wp_seq_k (fun K6 hK6 => ?_)
    refine wp_region_lit ?_
    refine sqv hf (r_assign rfl) rfl rfl rfl ?_; clear hf fa; intro fa hf
    apply wpList_nil
    (try simp only [Exit.then, Exit.inBlock, ↓reduceIte, Nat.reduceEqDiff])
    refine hK6 _ _ ?_
    refine wp_ret ?_
    (try simp only [Exit.then, Exit.inBlock])
    refine ret1 hf rfl rfl ?_
    exact ⟨rfl, hb⟩
  · have hqt17_1b := hqt17_1
    replace hqt17_1 := Bool.eq_false_iff.1 hqt17_1
    try simp only [ne_eq, decide_eq_true_eq, Bool.and_eq_true, Bool.or_eq_true, Bool.not_eq_true', decide_eq_false_iff_not] at hqt17_1
    refine wp_skip ?_
    (try simp only [Exit.then, Exit.inBlock, ↓reduceIte, Nat.reduceEqDiff])
    refine hK4 _ _ ?_
    refine wp_seq_k (fun K7 hK7 => ?_)
    have hfw : fewP st = true := by have h := hqt17_1; simpa using h
    have hfo := few_out hfw
    have hB : OpB st := ⟨hNi, fun s hs => by have := hfo.2.2.2.2 s hs; omega, hAi, hDi, by omega, by omega, by omega, by omega⟩
    by_cases hsp1 : rightP k st = true
    · have hsp1b : decide (rightP k st = true) = true := decide_eq_true hsp1
      skip
      refine wp_region_un (fun wq => Below w3.heap.size w3 wq) (fun w w' => Below w.heap.size w w')
        (fun V => [(fun x _ => x = (.agg #[(.int .i64 k), (.slice aN st.N.length cN), (.slice aS st.S.length cS), (.slice aA st.A.length cA), (.slice aD st.D.length cD)])), (fun x _ => x = (.string (lineS k st))), (fun x _ => x = (.agg #[(.int .i64 k), (.slice aN st.N.length cN), (.slice aS st.S.length cS), (.slice aA st.A.length cA), (.slice aD st.D.length cD)])), (fun x _ => x = (.agg #[(.int .i64 k), (.slice aN st.N.length cN), (.slice aS st.S.length cS), (.slice aA st.A.length cA), (.slice aD st.D.length cD)])), (fun x _ => x = (.bool true)), (fun x _ => x = (.string (lineS k st))), (fun x _ => x = (.bool true))])
        []
        [[], [0], [], [1, 2], [3], [0, 1, 4], [0, 1, 2, 3, 4, 5]]
        hf (by kernel_rfl) (by kernel_rfl) (fun _ => rfl) ((Below.refl _ _).drew) (fun a b h1 h2 => h1.trans (h2.mono h1.size)) (fun _ _ h => h.size) (fun V => ⟨kept_eq, kept_eq, kept_eq, kept_eq, kept_eq, kept_eq, kept_eq, trivial⟩) (fun _ _ _ _ _ => rfl) ?_ ?_
      · skip
        intro V
        refine ⟨fun wu0 hC hd => ?_, ?_⟩
        · clear hd
          replace hb := hb.trans (hC.mono hb.size)
          replace hk1 := blk_ext hk1 hC
          exact Runs.does (r_loadA (cs := [(.int .i64 k), (.slice aN st.N.length cN), (.slice aS st.S.length cS), (.slice aA st.A.length cA), (.slice aD st.D.length cD)]) rfl Try.underlying45 rfl (by kernel_rfl) (cellsAt_blk hk1)) ⟨Below.refl _ _, rfl, nofr rfl⟩
        refine ⟨fun wu1 hC hd => ?_, ?_⟩
        · obtain ⟨h0, _⟩ := hd
          skip
          replace h0 : V 0 = (.agg #[(.int .i64 k), (.slice aN st.N.length cN), (.slice aS st.S.length cS), (.slice aA st.A.length cA), (.slice aD st.D.length cD)]) := h0
          replace hb := hb.trans (hC.mono hb.size)
          replace hk1 := blk_ext hk1 hC
          refine Does.mono (d_callB (vs := [(.agg #[(.int .i64 k), (.slice aN st.N.length cN), (.slice aS st.S.length cS), (.slice aA st.A.length cA), (.slice aD st.D.length cD)])]) (show [some (V 0)] = [some (.agg #[(.int .i64 k), (.slice aN st.N.length cN), (.slice aS st.S.length cS), (.slice aA st.A.length cA), (.slice aD st.D.length cD)])] from by rw [h0]) Try.func14 (by kernel_rfl) (by kernel_rfl) (by have h := line_any k st aN aS aA aD cN cS cA cD _ (hF.ext hb) hB; rw [if_pos hsp1] at h; exact h)) (fun _ _ h => ⟨h.2, h.1, nofr rfl⟩)
        refine ⟨fun wu2 hC hd => ?_, ?_⟩
        · clear hd
          replace hb := hb.trans (hC.mono hb.size)
          replace hk1 := blk_ext hk1 hC
          exact Runs.does (r_loadA (cs := [(.int .i64 k), (.slice aN st.N.length cN), (.slice aS st.S.length cS), (.slice aA st.A.length cA), (.slice aD st.D.length cD)]) rfl Try.underlying45 rfl (by kernel_rfl) (cellsAt_blk hk1)) ⟨Below.refl _ _, rfl, nofr rfl⟩
        refine ⟨fun wu3 hC hd => ?_, ?_⟩
        · obtain ⟨h1, h2, _⟩ := hd
          skip
          skip
          replace h1 : V 1 = (.string (lineS k st)) := h1
          replace h2 : V 2 = (.agg #[(.int .i64 k), (.slice aN st.N.length cN), (.slice aS st.S.length cS), (.slice aA st.A.length cA), (.slice aD st.D.length cD)]) := h2
          replace hb := hb.trans (hC.mono hb.size)
          replace hk1 := blk_ext hk1 hC
          refine Does.mono (d_callB (vs := [(.agg #[(.int .i64 k), (.slice aN st.N.length cN), (.slice aS st.S.length cS), (.slice aA st.A.length cA), (.slice aD st.D.length cD)])]) (show [some (V 2)] = [some (.agg #[(.int .i64 k), (.slice aN st.N.length cN), (.slice aS st.S.length cS), (.slice aA st.A.length cA), (.slice aD st.D.length cD)])] from by rw [h2]) Try.func16 (by kernel_rfl) (by kernel_rfl) (ref_any k _ _ _ _ aN aS aA aD cN cS cA cD _)) (fun _ _ h => ⟨h.2, h.1, nofr rfl⟩)
        refine ⟨fun wu4 hC hd => ?_, ?_⟩
        · obtain ⟨h3, _⟩ := hd
          skip
          replace h3 : V 3 = (.agg #[(.int .i64 k), (.slice aN st.N.length cN), (.slice aS st.S.length cS), (.slice aA st.A.length cA), (.slice aD st.D.length cD)]) := h3
          replace hb := hb.trans (hC.mono hb.size)
          replace hk1 := blk_ext hk1 hC
          refine Does.mono (d_callB (vs := [(.agg #[(.int .i64 k), (.slice aN st.N.length cN), (.slice aS st.S.length cS), (.slice aA st.A.length cA), (.slice aD st.D.length cD)])]) (show [some (V 3)] = [some (.agg #[(.int .i64 k), (.slice aN st.N.length cN), (.slice aS st.S.length cS), (.slice aA st.A.length cA), (.slice aD st.D.length cD)])] from by rw [h3]) Try.func15 (by kernel_rfl) (by kernel_rfl) (by have h := rright_any k st aN aS aA aD cN cS cA cD _ (hF.ext hb) hB; rw [hsp1] at h; exact h)) (fun _ _ h => ⟨h.2, h.1, nofr rfl⟩)
        refine ⟨fun wu5 hC hd => ?_, ?_⟩
        · obtain ⟨h0, h1, h4, _⟩ := hd
          skip
          skip
          skip
          replace h0 : V 0 = (.agg #[(.int .i64 k), (.slice aN st.N.length cN), (.slice aS st.S.length cS), (.slice aA st.A.length cA), (.slice aD st.D.length cD)]) := h0
          replace h1 : V 1 = (.string (lineS k st)) := h1
          replace h4 : V 4 = (.bool true) := h4
          replace hb := hb.trans (hC.mono hb.size)
          replace hk1 := blk_ext hk1 hC
          exact Runs.does (r_assign (congrArg some h1)) ⟨Below.refl _ _, rfl, nofr rfl⟩
        refine ⟨fun wu6 hC hd => ?_, ?_⟩
        · obtain ⟨h0, h1, h2, h3, h4, h5, _⟩ := hd
          skip
          skip
          skip
          skip
          skip
          skip
          replace h0 : V 0 = (.agg #[(.int .i64 k), (.slice aN st.N.length cN), (.slice aS st.S.length cS), (.slice aA st.A.length cA), (.slice aD st.D.length cD)]) := h0
          replace h1 : V 1 = (.string (lineS k st)) := h1
          replace h2 : V 2 = (.agg #[(.int .i64 k), (.slice aN st.N.length cN), (.slice aS st.S.length cS), (.slice aA st.A.length cA), (.slice aD st.D.length cD)]) := h2
          replace h3 : V 3 = (.agg #[(.int .i64 k), (.slice aN st.N.length cN), (.slice aS st.S.length cS), (.slice aA st.A.length cA), (.slice aD st.D.length cD)]) := h3
          replace h4 : V 4 = (.bool true) := h4
          replace h5 : V 5 = (.string (lineS k st)) := h5
          replace hb := hb.trans (hC.mono hb.size)
          replace hk1 := blk_ext hk1 hC
          exact Runs.does (r_assign (congrArg some h4)) ⟨Below.refl _ _, rfl, nofr rfl⟩
        trivial
      · skip
        clear hf fa; intro V w4 fa he4 hp hnb hf
        have hv0 : V 0 = (.agg #[(.int .i64 k), (.slice aN st.N.length cN), (.slice aS st.S.length cS), (.slice aA st.A.length cA), (.slice aD st.D.length cD)]) := postsHold_at hp 0 rfl
        have hv1 : V 1 = (.string (lineS k st)) := postsHold_at hp 1 rfl
        have hv2 : V 2 = (.agg #[(.int .i64 k), (.slice aN st.N.length cN), (.slice aS st.S.length cS), (.slice aA st.A.length cA), (.slice aD st.D.length cD)]) := postsHold_at hp 2 rfl
        have hv3 : V 3 = (.agg #[(.int .i64 k), (.slice aN st.N.length cN), (.slice aS st.S.length cS), (.slice aA st.A.length cA), (.slice aD st.D.length cD)]) := postsHold_at hp 3 rfl
        have hv4 : V 4 = (.bool true) := postsHold_at hp 4 rfl
        have hv5 : V 5 = (.string (lineS k st)) := postsHold_at hp 5 rfl
        have hv6 : V 6 = (.bool true) := postsHold_at hp 6 rfl
        simp only [List.take_succ_cons, List.take_zero, insAll, ins, hv0, hv1, hv2, hv3, hv4, hv5, hv6] at hf
        clear hp hnb hv0 hv1 hv2 hv3 hv4 hv5 hv6
        replace hk1 := blk_ext hk1 he4
        replace hb := hb.trans (Below.mono he4 hb.size)
        (try simp only [Exit.then, Exit.inBlock, ↓reduceIte, Nat.reduceEqDiff])
        refine hK7 _ _ ?_
        refine wp_seq_k (fun K8 hK8 => ?_)
        refine wp_region_lit ?_
        refine sqv hf (r_move rfl) rfl rfl rfl ?_; clear hf fa; intro fa hf
        refine sqdt hf (d_callB (vs := [(.int .i64 kd)]) rfl Try.func17 (by kernel_rfl) (by kernel_rfl) (form_any kd _)) rfl rfl rfl ?_; clear hf fa; rintro fa _ w5 ⟨rfl, he5⟩ hf
        replace hk1 := blk_ext hk1 he5
        replace hb := hb.trans (Below.mono he5 hb.size)
        refine sqv hf (r_move rfl) rfl rfl rfl ?_; clear hf fa; intro fa hf
        refine sqv hf (r_extract rfl (i := 0) rfl) rfl rfl rfl ?_; clear hf fa; intro fa hf
        refine sqv hf (r_extract rfl (i := 1) rfl) rfl rfl rfl ?_; clear hf fa; intro fa hf
        refine sqv hf (r_assign rfl) rfl rfl rfl ?_; clear hf fa; intro fa hf
        refine sqv hf (r_assign rfl) rfl rfl rfl ?_; clear hf fa; intro fa hf
        apply wpList_nil
        (try simp only [Exit.then, Exit.inBlock, ↓reduceIte, Nat.reduceEqDiff])
        refine hK8 _ _ ?_
        refine wp_seq_k (fun K9 hK9 => ?_)
        refine wp_region_lit ?_
        refine sqv hf (r_move rfl) rfl rfl rfl ?_; clear hf fa; intro fa hf
        refine sqdt hf (d_callB (vs := [(.int .i64 kd)]) rfl Try.func18 (by kernel_rfl) (by kernel_rfl) (rform_any kd _)) rfl rfl rfl ?_; clear hf fa; rintro fa _ w6 ⟨rfl, he6⟩ hf
        replace hk1 := blk_ext hk1 he6
        replace hb := hb.trans (Below.mono he6 hb.size)
        refine sqv hf (r_move rfl) rfl rfl rfl ?_; clear hf fa; intro fa hf
        refine sqv hf (r_extract rfl (i := 0) rfl) rfl rfl rfl ?_; clear hf fa; intro fa hf
        refine sqv hf (r_extract rfl (i := 1) rfl) rfl rfl rfl ?_; clear hf fa; intro fa hf
        refine sqv hf (r_assign rfl) rfl rfl rfl ?_; clear hf fa; intro fa hf
        refine sqv hf (r_assign rfl) rfl rfl rfl ?_; clear hf fa; intro fa hf
        apply wpList_nil
        (try simp only [Exit.then, Exit.inBlock, ↓reduceIte, Nat.reduceEqDiff])
        refine hK9 _ _ ?_
        refine wp_seq_k (fun K10 hK10 => ?_)
        refine wp_seq_k (fun K11 hK11 => ?_)
        refine wp_region_lit ?_
        refine sqv hf (r_loadA (cs := [(.int .i64 k), (.slice aN st.N.length cN), (.slice aS st.S.length cS), (.slice aA st.A.length cA), (.slice aD st.D.length cD)]) rfl Try.underlying45 rfl (by kernel_rfl) (cellsAt_blk hk1)) rfl rfl rfl ?_; clear hf fa; intro fa hf
        refine sqdt hf (d_callB (v := (.bool true)) (vs := [(.agg #[(.int .i64 k), (.slice aN st.N.length cN), (.slice aS st.S.length cS), (.slice aA st.A.length cA), (.slice aD st.D.length cD)])]) rfl Try.func19 (by kernel_rfl) (by kernel_rfl) (by have h := right_any k st aN aS aA aD cN cS cA cD w6 (hF.ext hb) hB; rw [hsp1] at h; exact h)) rfl rfl rfl ?_; clear hf fa; rintro fa _ w7 ⟨rfl, he7⟩ hf
        replace hk1 := blk_ext hk1 he7
        replace hb := hb.trans (Below.mono he7 hb.size)
        refine sqv hf (r_move rfl) rfl rfl rfl ?_; clear hf fa; intro fa hf
        refine sqv hf (Runs.veq (v' := (.bool false)) (r_bne Try.underlying4 rfl rfl) rfl) rfl rfl rfl ?_; clear hf fa; intro fa hf
        refine sqv hf (r_move rfl) rfl rfl rfl ?_; clear hf fa; intro fa hf
        refine sqgd (act := true) (g := 4) (want := false) (ag := true) (c := false) hf (by rfl) (by rfl) rfl (fun _ =>  Runs.does (R := fun vq wq => vq = (.string (wordS kd)) ∧ w7 = wq) (r_move rfl) ⟨rfl, rfl⟩) (fun h => by cases h) rfl ?_; clear hf fa; rintro fa _ _ ⟨rfl, rfl⟩ hf
        change Fr _ _ ((38, (.string (wordS kd))) :: _) at hf
        refine sqgd (act := true) (g := 4) (want := false) (ag := true) (c := false) hf (by rfl) (by rfl) rfl (fun _ =>  Runs.does (R := fun vq wq => vq = (.string (wordS kd)) ∧ w7 = wq) (r_move rfl) ⟨rfl, rfl⟩) (fun h => by cases h) rfl ?_; clear hf fa; rintro fa _ _ ⟨rfl, rfl⟩ hf
        change Fr _ _ ((39, (.string (wordS kd))) :: _) at hf
        refine sqgd (act := true) (g := 4) (want := false) (ag := true) (c := false) hf (by rfl) (by rfl) rfl (fun _ =>  Runs.does (R := fun vq wq => vq = (.bool false) ∧ w7 = wq) (Runs.veq (r_sne rfl rfl) (congrArg Value.bool (show _ = false from (by simp)))) ⟨rfl, rfl⟩) (fun h => by cases h) rfl ?_; clear hf fa; rintro fa _ _ ⟨rfl, rfl⟩ hf
        change Fr _ _ ((40, (.bool false)) :: _) at hf
        refine sqv hf (r_pick (b := false) rfl rfl rfl rfl) rfl rfl rfl ?_; clear hf fa; intro fa hf
        refine sqv hf (r_move rfl) rfl rfl rfl ?_; clear hf fa; intro fa hf
        refine sqgd (act := true) (g := 9) (want := false) (ag := true) (c := false) hf (by rfl) (by rfl) rfl (fun _ =>  Runs.does (R := fun vq wq => vq = (.string (formS kd)) ∧ w7 = wq) (r_move rfl) ⟨rfl, rfl⟩) (fun h => by cases h) rfl ?_; clear hf fa; rintro fa _ _ ⟨rfl, rfl⟩ hf
        change Fr _ _ ((43, (.string (formS kd))) :: _) at hf
        refine sqgd (act := true) (g := 9) (want := false) (ag := true) (c := false) hf (by rfl) (by rfl) rfl (fun _ =>  Runs.does (R := fun vq wq => vq = (.string (formS kd)) ∧ w7 = wq) (r_move rfl) ⟨rfl, rfl⟩) (fun h => by cases h) rfl ?_; clear hf fa; rintro fa _ _ ⟨rfl, rfl⟩ hf
        change Fr _ _ ((44, (.string (formS kd))) :: _) at hf
        refine sqgd (act := true) (g := 9) (want := false) (ag := true) (c := false) hf (by rfl) (by rfl) rfl (fun _ =>  Runs.does (R := fun vq wq => vq = (.bool false) ∧ w7 = wq) (Runs.veq (r_sne rfl rfl) (congrArg Value.bool (show _ = false from (by simp)))) ⟨rfl, rfl⟩) (fun h => by cases h) rfl ?_; clear hf fa; rintro fa _ _ ⟨rfl, rfl⟩ hf
        change Fr _ _ ((45, (.bool false)) :: _) at hf
        refine sqv hf (r_pick (b := false) rfl rfl rfl rfl) rfl rfl rfl ?_; clear hf fa; intro fa hf
        refine sqv hf (r_move rfl) rfl rfl rfl ?_; clear hf fa; intro fa hf
        refine sqgd (act := true) (g := 14) (want := false) (ag := true) (c := false) hf (by rfl) (by rfl) rfl (fun _ =>  Runs.does (R := fun vq wq => vq = (.string (wordS kd)) ∧ w7 = wq) (r_move rfl) ⟨rfl, rfl⟩) (fun h => by cases h) rfl ?_; clear hf fa; rintro fa _ _ ⟨rfl, rfl⟩ hf
        change Fr _ _ ((48, (.string (wordS kd))) :: _) at hf
        refine sqgd (act := true) (g := 14) (want := false) (ag := true) (c := false) hf (by rfl) (by rfl) rfl (fun _ =>  Runs.does (R := fun vq wq => vq = (.bool (decide ((wordS kd) ≠ ⟨#[]⟩))) ∧ w7 = wq) (r_sne rfl rfl) ⟨rfl, rfl⟩) (fun h => by cases h) rfl ?_; clear hf fa; rintro fa _ _ ⟨rfl, rfl⟩ hf
        change Fr _ _ ((49, (.bool (decide ((wordS kd) ≠ ⟨#[]⟩)))) :: _) at hf
        refine sqgd (act := true) (g := 14) (want := false) (ag := true) (c := false) hf (by rfl) (by rfl) rfl (fun _ =>  Runs.does (R := fun vq wq => vq = (.bool (decide ((wordS kd) ≠ ⟨#[]⟩))) ∧ w7 = wq) (r_move rfl) ⟨rfl, rfl⟩) (fun h => by cases h) rfl ?_; clear hf fa; rintro fa _ _ ⟨rfl, rfl⟩ hf
        change Fr _ _ ((50, (.bool (decide ((wordS kd) ≠ ⟨#[]⟩)))) :: _) at hf
        refine sqgT (act := (decide ((wordS kd) ≠ ⟨#[]⟩))) (ag := true) (c := (decide ((wordS kd) ≠ ⟨#[]⟩))) (v := (.string (wordS kd))) hf rfl rfl rfl (fun hact => (r_move rfl)) rfl rfl ?_; clear hf fa; intro fa hf
        refine sqgd (R := fun vq wq => vq = gb (decide ((wordS kd) ≠ ⟨#[]⟩)) (.int .i64 ((kindP (wordS kd)))) ∧ Below w7.heap.size w7 wq) (act := (decide ((wordS kd) ≠ ⟨#[]⟩))) (g := 17) (want := true) (ag := true) (c := (decide ((wordS kd) ≠ ⟨#[]⟩))) hf (by rfl) (by rfl) (act_T _ _) (fun hact => (d_callB (vs := [(.string (wordS kd))]) (cons_ev (gb_ev hact rfl) rfl) Try.func20 (by kernel_rfl) (by kernel_rfl) (kind_any (wordS kd) _)).mono (fun _ _ h => ⟨by rw [h.1, hact]; rfl, h.2⟩)) (fun h => ⟨by rw [h]; rfl, Below.refl _ _⟩) rfl ?_; clear hf fa; rintro fa _ w8 ⟨rfl, he8⟩ hf
        replace hk1 := blk_ext hk1 he8
        replace hb := hb.trans (Below.mono he8 hb.size)
        change Fr _ _ ((52, (gb (decide ((wordS kd) ≠ ⟨#[]⟩)) (.int .i64 ((kindP (wordS kd)))))) :: _) at hf
        refine sqgT (act := (decide ((wordS kd) ≠ ⟨#[]⟩))) (ag := true) (c := (decide ((wordS kd) ≠ ⟨#[]⟩))) (v := (.int .i64 kd)) hf rfl rfl rfl (fun hact => (r_move rfl)) rfl rfl ?_; clear hf fa; intro fa hf
        refine sqgT (act := (decide ((wordS kd) ≠ ⟨#[]⟩))) (ag := true) (c := (decide ((wordS kd) ≠ ⟨#[]⟩))) (v := (.bool (decide (((kindP (wordS kd))) ≠ kd)))) hf rfl rfl rfl (fun hact => (r_ne (gb_ev hact rfl) (gb_ev hact rfl))) rfl rfl ?_; clear hf fa; intro fa hf
        refine sqgd (act := true) (g := 14) (want := false) (ag := true) (c := false) hf (by rfl) (by rfl) rfl (fun _ =>  Runs.does (R := fun vq wq => vq = (.bool false) ∧ w8 = wq) (Runs.veq (r_pickA (b := (decide ((wordS kd) ≠ ⟨#[]⟩))) (e := (decide (((kindP (wordS kd))) ≠ kd))) rfl rfl rfl) (congrArg Value.bool (show _ = false from (kind_back kd)))) ⟨rfl, rfl⟩) (fun h => by cases h) rfl ?_; clear hf fa; rintro fa _ _ ⟨rfl, rfl⟩ hf
        change Fr _ _ ((55, (.bool false)) :: _) at hf
        refine sqv hf (r_pick (b := false) rfl rfl rfl rfl) rfl rfl rfl ?_; clear hf fa; intro fa hf
        apply wpList_nil
        (try simp only [Exit.then, Exit.inBlock, ↓reduceIte, Nat.reduceEqDiff])
        refine hK11 _ _ ?_
        refine wp_cond_false (hf.ev rfl) ?_
        refine wp_skip ?_
        (try simp only [Exit.then, Exit.inBlock, ↓reduceIte, Nat.reduceEqDiff])
        refine hK10 _ _ ?_
        refine wp_seq_k (fun K12 hK12 => ?_)
        refine wp_seq_k (fun K13 hK13 => ?_)
        refine wp_region_lit ?_
        refine sqv hf (r_move rfl) rfl rfl rfl ?_; clear hf fa; intro fa hf
        refine sqv hf (Runs.veq (v' := (.bool false)) (r_not rfl) rfl) rfl rfl rfl ?_; clear hf fa; intro fa hf
        apply wpList_nil
        (try simp only [Exit.then, Exit.inBlock, ↓reduceIte, Nat.reduceEqDiff])
        refine hK13 _ _ ?_
        refine wp_cond_false (hf.ev rfl) ?_
        refine wp_skip ?_
        (try simp only [Exit.then, Exit.inBlock, ↓reduceIte, Nat.reduceEqDiff])
        refine hK12 _ _ ?_
        refine wp_seq_k (fun K14 hK14 => ?_)
        refine wp_region_lit ?_
        refine sqv hf (r_move rfl) rfl rfl rfl ?_; clear hf fa; intro fa hf
        refine sqdt hf (d_callX (vs := [(.string (lineS k st))]) rfl Try.func21 (by kernel_rfl) (by kernel_rfl) (parse_back k st w8 hB hsp1)) rfl rfl rfl ?_; clear hf fa; rintro fa _ w9 ⟨⟨aN2, cN2, aS2, cS2, aA2, cA2, aD2, cD2, rfl, hF2⟩, he9⟩ hf
        replace hk1 := blk_ext hk1 he9
        replace hb := hb.trans (Below.mono he9 hb.size)
        have hbF2 : Below w9.heap.size w9 w9 := Below.refl _ _
        refine sqv hf (r_move rfl) rfl rfl rfl ?_; clear hf fa; intro fa hf
        refine sqv hf (r_extract rfl (i := 0) rfl) rfl rfl rfl ?_; clear hf fa; intro fa hf
        refine sqv hf (r_extract rfl (i := 1) rfl) rfl rfl rfl ?_; clear hf fa; intro fa hf
        refine sqdt hf (d_alloc (z := (.agg #[(.int .i64 (0 : Int)), (.slice none 0 0), (.slice none 0 0), (.slice none 0 0), (.slice none 0 0)])) (cs := #[(.int .i64 (0 : Int)), (.slice none 0 0), (.slice none 0 0), (.slice none 0 0), (.slice none 0 0)]) (by kernel_rfl) rfl) rfl rfl rfl ?_; clear hf fa; rintro fa _ w10 ⟨b2, rfl, hle2, hk2, he10⟩ hf
        have hBb2 : w.heap.size ≤ b2 := Nat.le_trans hb.size hle2
        have : b1 < b2 := Nat.lt_of_lt_of_le (blk_lt hk1) hle2
        have hUhbF2b2 := Nat.le_trans hbF2.size hle2
        replace hk1 := blk_ext hk1 he10
        replace hbF2 := hbF2.trans (Below.mono he10 hbF2.size)
        replace hb := hb.trans (Below.mono he10 hb.size)
        refine sqn hf (d_storeK (T := 45) (v := (.agg #[(.int .i64 k), (.slice aN2 st.N.length cN2), (.slice aS2 st.S.length cS2), (.slice aA2 st.A.length cA2), (.slice aD2 st.D.length cD2)])) (cs := #[(.int .i64 (0 : Int)), (.slice none 0 0), (.slice none 0 0), (.slice none 0 0), (.slice none 0 0)]) (cs' := #[(.int .i64 k), (.slice aN2 st.N.length cN2), (.slice aS2 st.S.length cS2), (.slice aA2 st.A.length cA2), (.slice aD2 st.D.length cD2)]) rfl rfl (by kernel_rfl) (by kernel_rfl) hk2 (by kernel_rfl) (by kernel_rfl)) rfl rfl ?_; clear hf fa; rintro fa _ w11 ⟨hk3, hg1⟩ hf
        replace hk1 := blk_grown hk1 hg1 (by omega)
        replace hbF2 := hbF2.trans (grown_below hg1 hbF2.size (by omega))
        replace hb := hb.trans (grown_below hg1 hb.size hBb2)
        refine sqv hf (r_assign rfl) rfl rfl rfl ?_; clear hf fa; intro fa hf
        apply wpList_nil
        (try simp only [Exit.then, Exit.inBlock, ↓reduceIte, Nat.reduceEqDiff])
        refine hK14 _ _ ?_
        refine wp_seq_k (fun K15 hK15 => ?_)
        refine wp_region_un (fun wq => Below w11.heap.size w11 wq) (fun w w' => Below w.heap.size w w')
          (fun V => [(fun x _ => x = (.string (lineS k st))), (fun x _ => x = (.agg #[(.int .i64 k), (.slice aN st.N.length cN), (.slice aS st.S.length cS), (.slice aA st.A.length cA), (.slice aD st.D.length cD)])), (fun x _ => x = (.agg #[(.int .i64 k), (.slice aN st.N.length cN), (.slice aS st.S.length cS), (.slice aA st.A.length cA), (.slice aD st.D.length cD)])), (fun x _ => x = (.string (lineS k st))), (fun x _ => x = (.bool true)), (fun x _ => x = (.bool true)), (fun x _ => x = (.int .i64 (0 : Int))), (fun x _ => x = (.bool true)), (fun x _ => x = (.bool true)), (fun x _ => x = (.bool true)), (fun x _ => x = (.agg #[(.int .i64 k), (.slice aN2 st.N.length cN2), (.slice aS2 st.S.length cS2), (.slice aA2 st.A.length cA2), (.slice aD2 st.D.length cD2)])), (fun x _ => x = (.agg #[(.int .i64 k), (.slice aN2 st.N.length cN2), (.slice aS2 st.S.length cS2), (.slice aA2 st.A.length cA2), (.slice aD2 st.D.length cD2)])), (fun x _ => x = (.agg #[(.int .i64 k), (.slice aN st.N.length cN), (.slice aS st.S.length cS), (.slice aA st.A.length cA), (.slice aD st.D.length cD)])), (fun x _ => x = (.agg #[(.int .i64 k), (.slice aN st.N.length cN), (.slice aS st.S.length cS), (.slice aA st.A.length cA), (.slice aD st.D.length cD)])), (fun x _ => x = (.bool true)), (fun x _ => x = (.bool true)), (fun x _ => x = (.bool true))])
          []
          [[], [], [1], [2], [0, 3], [3, 4], [5], [5, 6], [5, 7], [5, 8], [9], [9, 10], [9], [9, 11, 12], [9, 11, 13], [9, 14], [0, 1, 2, 3, 4, 5, 6, 7, 8, 9, 10, 11, 12, 13, 14, 15]]
          hf (by kernel_rfl) (by kernel_rfl) (fun _ => rfl) ((Below.refl _ _).drew) (fun a b h1 h2 => h1.trans (h2.mono h1.size)) (fun _ _ h => h.size) (fun V => ⟨kept_eq, kept_eq, kept_eq, kept_eq, kept_eq, kept_eq, kept_eq, kept_eq, kept_eq, kept_eq, kept_eq, kept_eq, kept_eq, kept_eq, kept_eq, kept_eq, kept_eq, trivial⟩) (fun _ _ _ _ _ => rfl) ?_ ?_
        · skip
          intro V
          refine ⟨fun wu0 hC hd => ?_, ?_⟩
          · clear hd
            replace hb := hb.trans (hC.mono hb.size)
            replace hk1 := blk_ext hk1 hC
            replace hk3 := blk_ext hk3 hC
            exact Runs.does (r_move rfl) ⟨Below.refl _ _, rfl, nofr rfl⟩
          refine ⟨fun wu1 hC hd => ?_, ?_⟩
          · clear hd
            replace hb := hb.trans (hC.mono hb.size)
            replace hk1 := blk_ext hk1 hC
            replace hk3 := blk_ext hk3 hC
            exact Runs.does (r_loadA (cs := [(.int .i64 k), (.slice aN st.N.length cN), (.slice aS st.S.length cS), (.slice aA st.A.length cA), (.slice aD st.D.length cD)]) rfl Try.underlying45 rfl (by kernel_rfl) (cellsAt_blk hk1)) ⟨Below.refl _ _, rfl, nofr rfl⟩
          refine ⟨fun wu2 hC hd => ?_, ?_⟩
          · obtain ⟨h1, _⟩ := hd
            skip
            replace h1 : V 1 = (.agg #[(.int .i64 k), (.slice aN st.N.length cN), (.slice aS st.S.length cS), (.slice aA st.A.length cA), (.slice aD st.D.length cD)]) := h1
            replace hb := hb.trans (hC.mono hb.size)
            replace hk1 := blk_ext hk1 hC
            replace hk3 := blk_ext hk3 hC
            refine Does.mono (d_callB (vs := [(.agg #[(.int .i64 k), (.slice aN st.N.length cN), (.slice aS st.S.length cS), (.slice aA st.A.length cA), (.slice aD st.D.length cD)])]) (show [some (V 1)] = [some (.agg #[(.int .i64 k), (.slice aN st.N.length cN), (.slice aS st.S.length cS), (.slice aA st.A.length cA), (.slice aD st.D.length cD)])] from by rw [h1]) Try.func16 (by kernel_rfl) (by kernel_rfl) (ref_any k _ _ _ _ aN aS aA aD cN cS cA cD _)) (fun _ _ h => ⟨h.2, h.1, nofr rfl⟩)
          refine ⟨fun wu3 hC hd => ?_, ?_⟩
          · obtain ⟨h2, _⟩ := hd
            skip
            replace h2 : V 2 = (.agg #[(.int .i64 k), (.slice aN st.N.length cN), (.slice aS st.S.length cS), (.slice aA st.A.length cA), (.slice aD st.D.length cD)]) := h2
            replace hb := hb.trans (hC.mono hb.size)
            replace hk1 := blk_ext hk1 hC
            replace hk3 := blk_ext hk3 hC
            refine Does.mono (d_callB (vs := [(.agg #[(.int .i64 k), (.slice aN st.N.length cN), (.slice aS st.S.length cS), (.slice aA st.A.length cA), (.slice aD st.D.length cD)])]) (show [some (V 2)] = [some (.agg #[(.int .i64 k), (.slice aN st.N.length cN), (.slice aS st.S.length cS), (.slice aA st.A.length cA), (.slice aD st.D.length cD)])] from by rw [h2]) Try.func22 (by kernel_rfl) (by kernel_rfl) (rline_any k st aN aS aA aD cN cS cA cD _ (hF.ext hb) hB hsp1)) (fun _ _ h => ⟨h.2, h.1, nofr rfl⟩)
          refine ⟨fun wu4 hC hd => ?_, ?_⟩
          · obtain ⟨h0, h3, _⟩ := hd
            skip
            skip
            replace h0 : V 0 = (.string (lineS k st)) := h0
            replace h3 : V 3 = (.string (lineS k st)) := h3
            replace hb := hb.trans (hC.mono hb.size)
            replace hk1 := blk_ext hk1 hC
            replace hk3 := blk_ext hk3 hC
            exact Runs.does (Runs.veq (r_seq (congrArg some h0) (congrArg some h3)) (congrArg Value.bool (show _ = true from (by simp)))) ⟨Below.refl _ _, rfl, nofr rfl⟩
          refine ⟨fun wu5 hC hd => ?_, ?_⟩
          · obtain ⟨h3, h4, _⟩ := hd
            skip
            skip
            replace h3 : V 3 = (.string (lineS k st)) := h3
            replace h4 : V 4 = (.bool true) := h4
            replace hb := hb.trans (hC.mono hb.size)
            replace hk1 := blk_ext hk1 hC
            replace hk3 := blk_ext hk3 hC
            exact Runs.does (r_move (congrArg some h4)) ⟨Below.refl _ _, rfl, nofr rfl⟩
          refine ⟨fun wu6 hC hd => ?_, ?_⟩
          · obtain ⟨h5, _⟩ := hd
            skip
            replace h5 : V 5 = (.bool true) := h5
            replace hb := hb.trans (hC.mono hb.size)
            replace hk1 := blk_ext hk1 hC
            replace hk3 := blk_ext hk3 hC
            refine ⟨true, true, congrArg some h5, fun hact => ?_, fun hact => ?_⟩
            · exact Runs.does (r_move rfl) ⟨Below.refl _ _, rfl, nofr rfl⟩
            · exfalso; simp at hact
          refine ⟨fun wu7 hC hd => ?_, ?_⟩
          · obtain ⟨h5, h6, _⟩ := hd
            skip
            skip
            replace h5 : V 5 = (.bool true) := h5
            replace h6 : V 6 = (.int .i64 (0 : Int)) := h6
            replace hb := hb.trans (hC.mono hb.size)
            replace hk1 := blk_ext hk1 hC
            replace hk3 := blk_ext hk3 hC
            refine ⟨true, true, congrArg some h5, fun hact => ?_, fun hact => ?_⟩
            · exact Runs.does (Runs.veq (r_eq (congrArg some h6) rfl) (congrArg Value.bool (show _ = true from by decide))) ⟨Below.refl _ _, rfl, nofr rfl⟩
            · exfalso; simp at hact
          refine ⟨fun wu8 hC hd => ?_, ?_⟩
          · obtain ⟨h5, h7, _⟩ := hd
            skip
            skip
            replace h5 : V 5 = (.bool true) := h5
            replace h7 : V 7 = (.bool true) := h7
            replace hb := hb.trans (hC.mono hb.size)
            replace hk1 := blk_ext hk1 hC
            replace hk3 := blk_ext hk3 hC
            exact Runs.does (r_pick (b := true) (congrArg some h5) (congrArg some h7) rfl rfl) ⟨Below.refl _ _, rfl, nofr rfl⟩
          refine ⟨fun wu9 hC hd => ?_, ?_⟩
          · obtain ⟨h5, h8, _⟩ := hd
            skip
            skip
            replace h5 : V 5 = (.bool true) := h5
            replace h8 : V 8 = (.bool true) := h8
            replace hb := hb.trans (hC.mono hb.size)
            replace hk1 := blk_ext hk1 hC
            replace hk3 := blk_ext hk3 hC
            exact Runs.does (r_move (congrArg some h8)) ⟨Below.refl _ _, rfl, nofr rfl⟩
          refine ⟨fun wu10 hC hd => ?_, ?_⟩
          · obtain ⟨h9, _⟩ := hd
            skip
            replace h9 : V 9 = (.bool true) := h9
            replace hb := hb.trans (hC.mono hb.size)
            replace hk1 := blk_ext hk1 hC
            replace hk3 := blk_ext hk3 hC
            refine ⟨true, true, congrArg some h9, fun hact => ?_, fun hact => ?_⟩
            · exact Runs.does (r_loadA (cs := [(.int .i64 k), (.slice aN2 st.N.length cN2), (.slice aS2 st.S.length cS2), (.slice aA2 st.A.length cA2), (.slice aD2 st.D.length cD2)]) rfl Try.underlying45 rfl (by kernel_rfl) (cellsAt_blk hk3)) ⟨Below.refl _ _, rfl, nofr rfl⟩
            · exfalso; simp at hact
          refine ⟨fun wu11 hC hd => ?_, ?_⟩
          · obtain ⟨h9, h10, _⟩ := hd
            skip
            skip
            replace h9 : V 9 = (.bool true) := h9
            replace h10 : V 10 = (.agg #[(.int .i64 k), (.slice aN2 st.N.length cN2), (.slice aS2 st.S.length cS2), (.slice aA2 st.A.length cA2), (.slice aD2 st.D.length cD2)]) := h10
            replace hb := hb.trans (hC.mono hb.size)
            replace hk1 := blk_ext hk1 hC
            replace hk3 := blk_ext hk3 hC
            refine ⟨true, true, congrArg some h9, fun hact => ?_, fun hact => ?_⟩
            · refine Does.mono (d_callB (vs := [(.agg #[(.int .i64 k), (.slice aN2 st.N.length cN2), (.slice aS2 st.S.length cS2), (.slice aA2 st.A.length cA2), (.slice aD2 st.D.length cD2)])]) (show [some (V 10)] = [some (.agg #[(.int .i64 k), (.slice aN2 st.N.length cN2), (.slice aS2 st.S.length cS2), (.slice aA2 st.A.length cA2), (.slice aD2 st.D.length cD2)])] from by rw [h10]) Try.func16 (by kernel_rfl) (by kernel_rfl) (ref_any k _ _ _ _ aN2 aS2 aA2 aD2 cN2 cS2 cA2 cD2 _)) (fun _ _ h => ⟨h.2, h.1, nofr rfl⟩)
            · exfalso; simp at hact
          refine ⟨fun wu12 hC hd => ?_, ?_⟩
          · obtain ⟨h9, _⟩ := hd
            skip
            replace h9 : V 9 = (.bool true) := h9
            replace hb := hb.trans (hC.mono hb.size)
            replace hk1 := blk_ext hk1 hC
            replace hk3 := blk_ext hk3 hC
            refine ⟨true, true, congrArg some h9, fun hact => ?_, fun hact => ?_⟩
            · exact Runs.does (r_loadA (cs := [(.int .i64 k), (.slice aN st.N.length cN), (.slice aS st.S.length cS), (.slice aA st.A.length cA), (.slice aD st.D.length cD)]) rfl Try.underlying45 rfl (by kernel_rfl) (cellsAt_blk hk1)) ⟨Below.refl _ _, rfl, nofr rfl⟩
            · exfalso; simp at hact
          refine ⟨fun wu13 hC hd => ?_, ?_⟩
          · obtain ⟨h9, h11, h12, _⟩ := hd
            skip
            skip
            skip
            replace h9 : V 9 = (.bool true) := h9
            replace h11 : V 11 = (.agg #[(.int .i64 k), (.slice aN2 st.N.length cN2), (.slice aS2 st.S.length cS2), (.slice aA2 st.A.length cA2), (.slice aD2 st.D.length cD2)]) := h11
            replace h12 : V 12 = (.agg #[(.int .i64 k), (.slice aN st.N.length cN), (.slice aS st.S.length cS), (.slice aA st.A.length cA), (.slice aD st.D.length cD)]) := h12
            replace hb := hb.trans (hC.mono hb.size)
            replace hk1 := blk_ext hk1 hC
            replace hk3 := blk_ext hk3 hC
            refine ⟨true, true, congrArg some h9, fun hact => ?_, fun hact => ?_⟩
            · refine Does.mono (d_callB (vs := [(.agg #[(.int .i64 k), (.slice aN st.N.length cN), (.slice aS st.S.length cS), (.slice aA st.A.length cA), (.slice aD st.D.length cD)])]) (show [some (V 12)] = [some (.agg #[(.int .i64 k), (.slice aN st.N.length cN), (.slice aS st.S.length cS), (.slice aA st.A.length cA), (.slice aD st.D.length cD)])] from by rw [h12]) Try.func16 (by kernel_rfl) (by kernel_rfl) (ref_any k _ _ _ _ aN aS aA aD cN cS cA cD _)) (fun _ _ h => ⟨h.2, h.1, nofr rfl⟩)
            · exfalso; simp at hact
          refine ⟨fun wu14 hC hd => ?_, ?_⟩
          · obtain ⟨h9, h11, h13, _⟩ := hd
            skip
            skip
            skip
            replace h9 : V 9 = (.bool true) := h9
            replace h11 : V 11 = (.agg #[(.int .i64 k), (.slice aN2 st.N.length cN2), (.slice aS2 st.S.length cS2), (.slice aA2 st.A.length cA2), (.slice aD2 st.D.length cD2)]) := h11
            replace h13 : V 13 = (.agg #[(.int .i64 k), (.slice aN st.N.length cN), (.slice aS st.S.length cS), (.slice aA st.A.length cA), (.slice aD st.D.length cD)]) := h13
            replace hb := hb.trans (hC.mono hb.size)
            replace hk1 := blk_ext hk1 hC
            replace hk3 := blk_ext hk3 hC
            refine ⟨true, true, congrArg some h9, fun hact => ?_, fun hact => ?_⟩
            · refine Does.mono (d_callB (vs := [(.agg #[(.int .i64 k), (.slice aN2 st.N.length cN2), (.slice aS2 st.S.length cS2), (.slice aA2 st.A.length cA2), (.slice aD2 st.D.length cD2)]), (.agg #[(.int .i64 k), (.slice aN st.N.length cN), (.slice aS st.S.length cS), (.slice aA st.A.length cA), (.slice aD st.D.length cD)])]) (show [some (V 11), some (V 13)] = [some (.agg #[(.int .i64 k), (.slice aN2 st.N.length cN2), (.slice aS2 st.S.length cS2), (.slice aA2 st.A.length cA2), (.slice aD2 st.D.length cD2)]), some (.agg #[(.int .i64 k), (.slice aN st.N.length cN), (.slice aS st.S.length cS), (.slice aA st.A.length cA), (.slice aD st.D.length cD)])] from by rw [h11, h13]) Try.func23 (by kernel_rfl) (by kernel_rfl) (same_any k st aN2 aS2 aA2 aD2 cN2 cS2 cA2 cD2 aN aS aA aD cN cS cA cD _ (hF2.ext (hbF2.trans (hC.mono hbF2.size))) (hF.ext hb) hB)) (fun _ _ h => ⟨h.2, h.1, nofr rfl⟩)
            · exfalso; simp at hact
          refine ⟨fun wu15 hC hd => ?_, ?_⟩
          · obtain ⟨h9, h14, _⟩ := hd
            skip
            skip
            replace h9 : V 9 = (.bool true) := h9
            replace h14 : V 14 = (.bool true) := h14
            replace hb := hb.trans (hC.mono hb.size)
            replace hk1 := blk_ext hk1 hC
            replace hk3 := blk_ext hk3 hC
            exact Runs.does (r_pick (b := true) (congrArg some h9) (congrArg some h14) rfl rfl) ⟨Below.refl _ _, rfl, nofr rfl⟩
          refine ⟨fun wu16 hC hd => ?_, ?_⟩
          · obtain ⟨h0, h1, h2, h3, h4, h5, h6, h7, h8, h9, h10, h11, h12, h13, h14, h15, _⟩ := hd
            skip
            skip
            skip
            skip
            skip
            skip
            skip
            skip
            skip
            skip
            skip
            skip
            skip
            skip
            skip
            skip
            replace h0 : V 0 = (.string (lineS k st)) := h0
            replace h1 : V 1 = (.agg #[(.int .i64 k), (.slice aN st.N.length cN), (.slice aS st.S.length cS), (.slice aA st.A.length cA), (.slice aD st.D.length cD)]) := h1
            replace h2 : V 2 = (.agg #[(.int .i64 k), (.slice aN st.N.length cN), (.slice aS st.S.length cS), (.slice aA st.A.length cA), (.slice aD st.D.length cD)]) := h2
            replace h3 : V 3 = (.string (lineS k st)) := h3
            replace h4 : V 4 = (.bool true) := h4
            replace h5 : V 5 = (.bool true) := h5
            replace h6 : V 6 = (.int .i64 (0 : Int)) := h6
            replace h7 : V 7 = (.bool true) := h7
            replace h8 : V 8 = (.bool true) := h8
            replace h9 : V 9 = (.bool true) := h9
            replace h10 : V 10 = (.agg #[(.int .i64 k), (.slice aN2 st.N.length cN2), (.slice aS2 st.S.length cS2), (.slice aA2 st.A.length cA2), (.slice aD2 st.D.length cD2)]) := h10
            replace h11 : V 11 = (.agg #[(.int .i64 k), (.slice aN2 st.N.length cN2), (.slice aS2 st.S.length cS2), (.slice aA2 st.A.length cA2), (.slice aD2 st.D.length cD2)]) := h11
            replace h12 : V 12 = (.agg #[(.int .i64 k), (.slice aN st.N.length cN), (.slice aS st.S.length cS), (.slice aA st.A.length cA), (.slice aD st.D.length cD)]) := h12
            replace h13 : V 13 = (.agg #[(.int .i64 k), (.slice aN st.N.length cN), (.slice aS st.S.length cS), (.slice aA st.A.length cA), (.slice aD st.D.length cD)]) := h13
            replace h14 : V 14 = (.bool true) := h14
            replace h15 : V 15 = (.bool true) := h15
            replace hb := hb.trans (hC.mono hb.size)
            replace hk1 := blk_ext hk1 hC
            replace hk3 := blk_ext hk3 hC
            exact Runs.does (r_assign (congrArg some h15)) ⟨Below.refl _ _, rfl, nofr rfl⟩
          trivial
        · skip
          clear hf fa; intro V w12 fa he11 hp hnb hf
          have hv0 : V 0 = (.string (lineS k st)) := postsHold_at hp 0 rfl
          have hv1 : V 1 = (.agg #[(.int .i64 k), (.slice aN st.N.length cN), (.slice aS st.S.length cS), (.slice aA st.A.length cA), (.slice aD st.D.length cD)]) := postsHold_at hp 1 rfl
          have hv2 : V 2 = (.agg #[(.int .i64 k), (.slice aN st.N.length cN), (.slice aS st.S.length cS), (.slice aA st.A.length cA), (.slice aD st.D.length cD)]) := postsHold_at hp 2 rfl
          have hv3 : V 3 = (.string (lineS k st)) := postsHold_at hp 3 rfl
          have hv4 : V 4 = (.bool true) := postsHold_at hp 4 rfl
          have hv5 : V 5 = (.bool true) := postsHold_at hp 5 rfl
          have hv6 : V 6 = (.int .i64 (0 : Int)) := postsHold_at hp 6 rfl
          have hv7 : V 7 = (.bool true) := postsHold_at hp 7 rfl
          have hv8 : V 8 = (.bool true) := postsHold_at hp 8 rfl
          have hv9 : V 9 = (.bool true) := postsHold_at hp 9 rfl
          have hv10 : V 10 = (.agg #[(.int .i64 k), (.slice aN2 st.N.length cN2), (.slice aS2 st.S.length cS2), (.slice aA2 st.A.length cA2), (.slice aD2 st.D.length cD2)]) := postsHold_at hp 10 rfl
          have hv11 : V 11 = (.agg #[(.int .i64 k), (.slice aN2 st.N.length cN2), (.slice aS2 st.S.length cS2), (.slice aA2 st.A.length cA2), (.slice aD2 st.D.length cD2)]) := postsHold_at hp 11 rfl
          have hv12 : V 12 = (.agg #[(.int .i64 k), (.slice aN st.N.length cN), (.slice aS st.S.length cS), (.slice aA st.A.length cA), (.slice aD st.D.length cD)]) := postsHold_at hp 12 rfl
          have hv13 : V 13 = (.agg #[(.int .i64 k), (.slice aN st.N.length cN), (.slice aS st.S.length cS), (.slice aA st.A.length cA), (.slice aD st.D.length cD)]) := postsHold_at hp 13 rfl
          have hv14 : V 14 = (.bool true) := postsHold_at hp 14 rfl
          have hv15 : V 15 = (.bool true) := postsHold_at hp 15 rfl
          have hv16 : V 16 = (.bool true) := postsHold_at hp 16 rfl
          simp only [List.take_succ_cons, List.take_zero, insAll, ins, hv0, hv1, hv2, hv3, hv4, hv5, hv6, hv7, hv8, hv9, hv10, hv11, hv12, hv13, hv14, hv15, hv16] at hf
          clear hp hnb hv0 hv1 hv2 hv3 hv4 hv5 hv6 hv7 hv8 hv9 hv10 hv11 hv12 hv13 hv14 hv15 hv16
          replace hk1 := blk_ext hk1 he11
          replace hk3 := blk_ext hk3 he11
          replace hbF2 := hbF2.trans (Below.mono he11 hbF2.size)
          replace hb := hb.trans (Below.mono he11 hb.size)
          (try simp only [Exit.then, Exit.inBlock, ↓reduceIte, Nat.reduceEqDiff])
          refine hK15 _ _ ?_
          refine wp_ret ?_
          (try simp only [Exit.then, Exit.inBlock])
          refine ret1 hf rfl rfl ?_
          exact ⟨rfl, hb⟩
    · have hsp1b : decide (rightP k st = true) = false := decide_eq_false hsp1
      skip
      refine wp_region_un (fun wq => Below w3.heap.size w3 wq) (fun w w' => Below w.heap.size w w')
        (fun V => [(fun x _ => x = (.agg #[(.int .i64 k), (.slice aN st.N.length cN), (.slice aS st.S.length cS), (.slice aA st.A.length cA), (.slice aD st.D.length cD)])), (fun x _ => x = (.string ⟨#[]⟩)), (fun x _ => x = (.agg #[(.int .i64 k), (.slice aN st.N.length cN), (.slice aS st.S.length cS), (.slice aA st.A.length cA), (.slice aD st.D.length cD)])), (fun x _ => x = (.agg #[(.int .i64 k), (.slice aN st.N.length cN), (.slice aS st.S.length cS), (.slice aA st.A.length cA), (.slice aD st.D.length cD)])), (fun x _ => x = (.bool false)), (fun x _ => x = (.string ⟨#[]⟩)), (fun x _ => x = (.bool false))])
        []
        [[], [0], [], [1, 2], [3], [0, 1, 4], [0, 1, 2, 3, 4, 5]]
        hf (by kernel_rfl) (by kernel_rfl) (fun _ => rfl) ((Below.refl _ _).drew) (fun a b h1 h2 => h1.trans (h2.mono h1.size)) (fun _ _ h => h.size) (fun V => ⟨kept_eq, kept_eq, kept_eq, kept_eq, kept_eq, kept_eq, kept_eq, trivial⟩) (fun _ _ _ _ _ => rfl) ?_ ?_
      · skip
        intro V
        refine ⟨fun wu0 hC hd => ?_, ?_⟩
        · clear hd
          replace hb := hb.trans (hC.mono hb.size)
          replace hk1 := blk_ext hk1 hC
          exact Runs.does (r_loadA (cs := [(.int .i64 k), (.slice aN st.N.length cN), (.slice aS st.S.length cS), (.slice aA st.A.length cA), (.slice aD st.D.length cD)]) rfl Try.underlying45 rfl (by kernel_rfl) (cellsAt_blk hk1)) ⟨Below.refl _ _, rfl, nofr rfl⟩
        refine ⟨fun wu1 hC hd => ?_, ?_⟩
        · obtain ⟨h0, _⟩ := hd
          skip
          replace h0 : V 0 = (.agg #[(.int .i64 k), (.slice aN st.N.length cN), (.slice aS st.S.length cS), (.slice aA st.A.length cA), (.slice aD st.D.length cD)]) := h0
          replace hb := hb.trans (hC.mono hb.size)
          replace hk1 := blk_ext hk1 hC
          refine Does.mono (d_callB (vs := [(.agg #[(.int .i64 k), (.slice aN st.N.length cN), (.slice aS st.S.length cS), (.slice aA st.A.length cA), (.slice aD st.D.length cD)])]) (show [some (V 0)] = [some (.agg #[(.int .i64 k), (.slice aN st.N.length cN), (.slice aS st.S.length cS), (.slice aA st.A.length cA), (.slice aD st.D.length cD)])] from by rw [h0]) Try.func14 (by kernel_rfl) (by kernel_rfl) (by have h := line_any k st aN aS aA aD cN cS cA cD _ (hF.ext hb) hB; rw [if_neg hsp1] at h; exact h)) (fun _ _ h => ⟨h.2, h.1, nofr rfl⟩)
        refine ⟨fun wu2 hC hd => ?_, ?_⟩
        · clear hd
          replace hb := hb.trans (hC.mono hb.size)
          replace hk1 := blk_ext hk1 hC
          exact Runs.does (r_loadA (cs := [(.int .i64 k), (.slice aN st.N.length cN), (.slice aS st.S.length cS), (.slice aA st.A.length cA), (.slice aD st.D.length cD)]) rfl Try.underlying45 rfl (by kernel_rfl) (cellsAt_blk hk1)) ⟨Below.refl _ _, rfl, nofr rfl⟩
        refine ⟨fun wu3 hC hd => ?_, ?_⟩
        · obtain ⟨h1, h2, _⟩ := hd
          skip
          skip
          replace h1 : V 1 = (.string ⟨#[]⟩) := h1
          replace h2 : V 2 = (.agg #[(.int .i64 k), (.slice aN st.N.length cN), (.slice aS st.S.length cS), (.slice aA st.A.length cA), (.slice aD st.D.length cD)]) := h2
          replace hb := hb.trans (hC.mono hb.size)
          replace hk1 := blk_ext hk1 hC
          refine Does.mono (d_callB (vs := [(.agg #[(.int .i64 k), (.slice aN st.N.length cN), (.slice aS st.S.length cS), (.slice aA st.A.length cA), (.slice aD st.D.length cD)])]) (show [some (V 2)] = [some (.agg #[(.int .i64 k), (.slice aN st.N.length cN), (.slice aS st.S.length cS), (.slice aA st.A.length cA), (.slice aD st.D.length cD)])] from by rw [h2]) Try.func16 (by kernel_rfl) (by kernel_rfl) (ref_any k _ _ _ _ aN aS aA aD cN cS cA cD _)) (fun _ _ h => ⟨h.2, h.1, nofr rfl⟩)
        refine ⟨fun wu4 hC hd => ?_, ?_⟩
        · obtain ⟨h3, _⟩ := hd
          skip
          replace h3 : V 3 = (.agg #[(.int .i64 k), (.slice aN st.N.length cN), (.slice aS st.S.length cS), (.slice aA st.A.length cA), (.slice aD st.D.length cD)]) := h3
          replace hb := hb.trans (hC.mono hb.size)
          replace hk1 := blk_ext hk1 hC
          refine Does.mono (d_callB (vs := [(.agg #[(.int .i64 k), (.slice aN st.N.length cN), (.slice aS st.S.length cS), (.slice aA st.A.length cA), (.slice aD st.D.length cD)])]) (show [some (V 3)] = [some (.agg #[(.int .i64 k), (.slice aN st.N.length cN), (.slice aS st.S.length cS), (.slice aA st.A.length cA), (.slice aD st.D.length cD)])] from by rw [h3]) Try.func15 (by kernel_rfl) (by kernel_rfl) (by have h := rright_any k st aN aS aA aD cN cS cA cD _ (hF.ext hb) hB; rw [Bool.eq_false_iff.2 hsp1] at h; exact h)) (fun _ _ h => ⟨h.2, h.1, nofr rfl⟩)
        refine ⟨fun wu5 hC hd => ?_, ?_⟩
        · obtain ⟨h0, h1, h4, _⟩ := hd
          skip
          skip
          skip
          replace h0 : V 0 = (.agg #[(.int .i64 k), (.slice aN st.N.length cN), (.slice aS st.S.length cS), (.slice aA st.A.length cA), (.slice aD st.D.length cD)]) := h0
          replace h1 : V 1 = (.string ⟨#[]⟩) := h1
          replace h4 : V 4 = (.bool false) := h4
          replace hb := hb.trans (hC.mono hb.size)
          replace hk1 := blk_ext hk1 hC
          exact Runs.does (r_assign (congrArg some h1)) ⟨Below.refl _ _, rfl, nofr rfl⟩
        refine ⟨fun wu6 hC hd => ?_, ?_⟩
        · obtain ⟨h0, h1, h2, h3, h4, h5, _⟩ := hd
          skip
          skip
          skip
          skip
          skip
          skip
          replace h0 : V 0 = (.agg #[(.int .i64 k), (.slice aN st.N.length cN), (.slice aS st.S.length cS), (.slice aA st.A.length cA), (.slice aD st.D.length cD)]) := h0
          replace h1 : V 1 = (.string ⟨#[]⟩) := h1
          replace h2 : V 2 = (.agg #[(.int .i64 k), (.slice aN st.N.length cN), (.slice aS st.S.length cS), (.slice aA st.A.length cA), (.slice aD st.D.length cD)]) := h2
          replace h3 : V 3 = (.agg #[(.int .i64 k), (.slice aN st.N.length cN), (.slice aS st.S.length cS), (.slice aA st.A.length cA), (.slice aD st.D.length cD)]) := h3
          replace h4 : V 4 = (.bool false) := h4
          replace h5 : V 5 = (.string ⟨#[]⟩) := h5
          replace hb := hb.trans (hC.mono hb.size)
          replace hk1 := blk_ext hk1 hC
          exact Runs.does (r_assign (congrArg some h4)) ⟨Below.refl _ _, rfl, nofr rfl⟩
        trivial
      · skip
        clear hf fa; intro V w13 fa he12 hp hnb hf
        have hv0 : V 0 = (.agg #[(.int .i64 k), (.slice aN st.N.length cN), (.slice aS st.S.length cS), (.slice aA st.A.length cA), (.slice aD st.D.length cD)]) := postsHold_at hp 0 rfl
        have hv1 : V 1 = (.string ⟨#[]⟩) := postsHold_at hp 1 rfl
        have hv2 : V 2 = (.agg #[(.int .i64 k), (.slice aN st.N.length cN), (.slice aS st.S.length cS), (.slice aA st.A.length cA), (.slice aD st.D.length cD)]) := postsHold_at hp 2 rfl
        have hv3 : V 3 = (.agg #[(.int .i64 k), (.slice aN st.N.length cN), (.slice aS st.S.length cS), (.slice aA st.A.length cA), (.slice aD st.D.length cD)]) := postsHold_at hp 3 rfl
        have hv4 : V 4 = (.bool false) := postsHold_at hp 4 rfl
        have hv5 : V 5 = (.string ⟨#[]⟩) := postsHold_at hp 5 rfl
        have hv6 : V 6 = (.bool false) := postsHold_at hp 6 rfl
        simp only [List.take_succ_cons, List.take_zero, insAll, ins, hv0, hv1, hv2, hv3, hv4, hv5, hv6] at hf
        clear hp hnb hv0 hv1 hv2 hv3 hv4 hv5 hv6
        replace hk1 := blk_ext hk1 he12
        replace hb := hb.trans (Below.mono he12 hb.size)
        (try simp only [Exit.then, Exit.inBlock, ↓reduceIte, Nat.reduceEqDiff])
        refine hK7 _ _ ?_
        refine wp_seq_k (fun K16 hK16 => ?_)
        refine wp_region_lit ?_
        refine sqv hf (r_move rfl) rfl rfl rfl ?_; clear hf fa; intro fa hf
        refine sqdt hf (d_callB (vs := [(.int .i64 kd)]) rfl Try.func17 (by kernel_rfl) (by kernel_rfl) (form_any kd _)) rfl rfl rfl ?_; clear hf fa; rintro fa _ w14 ⟨rfl, he13⟩ hf
        replace hk1 := blk_ext hk1 he13
        replace hb := hb.trans (Below.mono he13 hb.size)
        refine sqv hf (r_move rfl) rfl rfl rfl ?_; clear hf fa; intro fa hf
        refine sqv hf (r_extract rfl (i := 0) rfl) rfl rfl rfl ?_; clear hf fa; intro fa hf
        refine sqv hf (r_extract rfl (i := 1) rfl) rfl rfl rfl ?_; clear hf fa; intro fa hf
        refine sqv hf (r_assign rfl) rfl rfl rfl ?_; clear hf fa; intro fa hf
        refine sqv hf (r_assign rfl) rfl rfl rfl ?_; clear hf fa; intro fa hf
        apply wpList_nil
        (try simp only [Exit.then, Exit.inBlock, ↓reduceIte, Nat.reduceEqDiff])
        refine hK16 _ _ ?_
        refine wp_seq_k (fun K17 hK17 => ?_)
        refine wp_region_lit ?_
        refine sqv hf (r_move rfl) rfl rfl rfl ?_; clear hf fa; intro fa hf
        refine sqdt hf (d_callB (vs := [(.int .i64 kd)]) rfl Try.func18 (by kernel_rfl) (by kernel_rfl) (rform_any kd _)) rfl rfl rfl ?_; clear hf fa; rintro fa _ w15 ⟨rfl, he14⟩ hf
        replace hk1 := blk_ext hk1 he14
        replace hb := hb.trans (Below.mono he14 hb.size)
        refine sqv hf (r_move rfl) rfl rfl rfl ?_; clear hf fa; intro fa hf
        refine sqv hf (r_extract rfl (i := 0) rfl) rfl rfl rfl ?_; clear hf fa; intro fa hf
        refine sqv hf (r_extract rfl (i := 1) rfl) rfl rfl rfl ?_; clear hf fa; intro fa hf
        refine sqv hf (r_assign rfl) rfl rfl rfl ?_; clear hf fa; intro fa hf
        refine sqv hf (r_assign rfl) rfl rfl rfl ?_; clear hf fa; intro fa hf
        apply wpList_nil
        (try simp only [Exit.then, Exit.inBlock, ↓reduceIte, Nat.reduceEqDiff])
        refine hK17 _ _ ?_
        refine wp_seq_k (fun K18 hK18 => ?_)
        refine wp_seq_k (fun K19 hK19 => ?_)
        refine wp_region_lit ?_
        refine sqv hf (r_loadA (cs := [(.int .i64 k), (.slice aN st.N.length cN), (.slice aS st.S.length cS), (.slice aA st.A.length cA), (.slice aD st.D.length cD)]) rfl Try.underlying45 rfl (by kernel_rfl) (cellsAt_blk hk1)) rfl rfl rfl ?_; clear hf fa; intro fa hf
        refine sqdt hf (d_callB (v := (.bool false)) (vs := [(.agg #[(.int .i64 k), (.slice aN st.N.length cN), (.slice aS st.S.length cS), (.slice aA st.A.length cA), (.slice aD st.D.length cD)])]) rfl Try.func19 (by kernel_rfl) (by kernel_rfl) (by have h := right_any k st aN aS aA aD cN cS cA cD w15 (hF.ext hb) hB; rw [Bool.eq_false_iff.2 hsp1] at h; exact h)) rfl rfl rfl ?_; clear hf fa; rintro fa _ w16 ⟨rfl, he15⟩ hf
        replace hk1 := blk_ext hk1 he15
        replace hb := hb.trans (Below.mono he15 hb.size)
        refine sqv hf (r_move rfl) rfl rfl rfl ?_; clear hf fa; intro fa hf
        refine sqv hf (Runs.veq (v' := (.bool false)) (r_bne Try.underlying4 rfl rfl) rfl) rfl rfl rfl ?_; clear hf fa; intro fa hf
        refine sqv hf (r_move rfl) rfl rfl rfl ?_; clear hf fa; intro fa hf
        refine sqgd (act := true) (g := 4) (want := false) (ag := true) (c := false) hf (by rfl) (by rfl) rfl (fun _ =>  Runs.does (R := fun vq wq => vq = (.string (wordS kd)) ∧ w16 = wq) (r_move rfl) ⟨rfl, rfl⟩) (fun h => by cases h) rfl ?_; clear hf fa; rintro fa _ _ ⟨rfl, rfl⟩ hf
        change Fr _ _ ((38, (.string (wordS kd))) :: _) at hf
        refine sqgd (act := true) (g := 4) (want := false) (ag := true) (c := false) hf (by rfl) (by rfl) rfl (fun _ =>  Runs.does (R := fun vq wq => vq = (.string (wordS kd)) ∧ w16 = wq) (r_move rfl) ⟨rfl, rfl⟩) (fun h => by cases h) rfl ?_; clear hf fa; rintro fa _ _ ⟨rfl, rfl⟩ hf
        change Fr _ _ ((39, (.string (wordS kd))) :: _) at hf
        refine sqgd (act := true) (g := 4) (want := false) (ag := true) (c := false) hf (by rfl) (by rfl) rfl (fun _ =>  Runs.does (R := fun vq wq => vq = (.bool false) ∧ w16 = wq) (Runs.veq (r_sne rfl rfl) (congrArg Value.bool (show _ = false from (by simp)))) ⟨rfl, rfl⟩) (fun h => by cases h) rfl ?_; clear hf fa; rintro fa _ _ ⟨rfl, rfl⟩ hf
        change Fr _ _ ((40, (.bool false)) :: _) at hf
        refine sqv hf (r_pick (b := false) rfl rfl rfl rfl) rfl rfl rfl ?_; clear hf fa; intro fa hf
        refine sqv hf (r_move rfl) rfl rfl rfl ?_; clear hf fa; intro fa hf
        refine sqgd (act := true) (g := 9) (want := false) (ag := true) (c := false) hf (by rfl) (by rfl) rfl (fun _ =>  Runs.does (R := fun vq wq => vq = (.string (formS kd)) ∧ w16 = wq) (r_move rfl) ⟨rfl, rfl⟩) (fun h => by cases h) rfl ?_; clear hf fa; rintro fa _ _ ⟨rfl, rfl⟩ hf
        change Fr _ _ ((43, (.string (formS kd))) :: _) at hf
        refine sqgd (act := true) (g := 9) (want := false) (ag := true) (c := false) hf (by rfl) (by rfl) rfl (fun _ =>  Runs.does (R := fun vq wq => vq = (.string (formS kd)) ∧ w16 = wq) (r_move rfl) ⟨rfl, rfl⟩) (fun h => by cases h) rfl ?_; clear hf fa; rintro fa _ _ ⟨rfl, rfl⟩ hf
        change Fr _ _ ((44, (.string (formS kd))) :: _) at hf
        refine sqgd (act := true) (g := 9) (want := false) (ag := true) (c := false) hf (by rfl) (by rfl) rfl (fun _ =>  Runs.does (R := fun vq wq => vq = (.bool false) ∧ w16 = wq) (Runs.veq (r_sne rfl rfl) (congrArg Value.bool (show _ = false from (by simp)))) ⟨rfl, rfl⟩) (fun h => by cases h) rfl ?_; clear hf fa; rintro fa _ _ ⟨rfl, rfl⟩ hf
        change Fr _ _ ((45, (.bool false)) :: _) at hf
        refine sqv hf (r_pick (b := false) rfl rfl rfl rfl) rfl rfl rfl ?_; clear hf fa; intro fa hf
        refine sqv hf (r_move rfl) rfl rfl rfl ?_; clear hf fa; intro fa hf
        refine sqgd (act := true) (g := 14) (want := false) (ag := true) (c := false) hf (by rfl) (by rfl) rfl (fun _ =>  Runs.does (R := fun vq wq => vq = (.string (wordS kd)) ∧ w16 = wq) (r_move rfl) ⟨rfl, rfl⟩) (fun h => by cases h) rfl ?_; clear hf fa; rintro fa _ _ ⟨rfl, rfl⟩ hf
        change Fr _ _ ((48, (.string (wordS kd))) :: _) at hf
        refine sqgd (act := true) (g := 14) (want := false) (ag := true) (c := false) hf (by rfl) (by rfl) rfl (fun _ =>  Runs.does (R := fun vq wq => vq = (.bool (decide ((wordS kd) ≠ ⟨#[]⟩))) ∧ w16 = wq) (r_sne rfl rfl) ⟨rfl, rfl⟩) (fun h => by cases h) rfl ?_; clear hf fa; rintro fa _ _ ⟨rfl, rfl⟩ hf
        change Fr _ _ ((49, (.bool (decide ((wordS kd) ≠ ⟨#[]⟩)))) :: _) at hf
        refine sqgd (act := true) (g := 14) (want := false) (ag := true) (c := false) hf (by rfl) (by rfl) rfl (fun _ =>  Runs.does (R := fun vq wq => vq = (.bool (decide ((wordS kd) ≠ ⟨#[]⟩))) ∧ w16 = wq) (r_move rfl) ⟨rfl, rfl⟩) (fun h => by cases h) rfl ?_; clear hf fa; rintro fa _ _ ⟨rfl, rfl⟩ hf
        change Fr _ _ ((50, (.bool (decide ((wordS kd) ≠ ⟨#[]⟩)))) :: _) at hf
        refine sqgT (act := (decide ((wordS kd) ≠ ⟨#[]⟩))) (ag := true) (c := (decide ((wordS kd) ≠ ⟨#[]⟩))) (v := (.string (wordS kd))) hf rfl rfl rfl (fun hact => (r_move rfl)) rfl rfl ?_; clear hf fa; intro fa hf
        refine sqgd (R := fun vq wq => vq = gb (decide ((wordS kd) ≠ ⟨#[]⟩)) (.int .i64 ((kindP (wordS kd)))) ∧ Below w16.heap.size w16 wq) (act := (decide ((wordS kd) ≠ ⟨#[]⟩))) (g := 17) (want := true) (ag := true) (c := (decide ((wordS kd) ≠ ⟨#[]⟩))) hf (by rfl) (by rfl) (act_T _ _) (fun hact => (d_callB (vs := [(.string (wordS kd))]) (cons_ev (gb_ev hact rfl) rfl) Try.func20 (by kernel_rfl) (by kernel_rfl) (kind_any (wordS kd) _)).mono (fun _ _ h => ⟨by rw [h.1, hact]; rfl, h.2⟩)) (fun h => ⟨by rw [h]; rfl, Below.refl _ _⟩) rfl ?_; clear hf fa; rintro fa _ w17 ⟨rfl, he16⟩ hf
        replace hk1 := blk_ext hk1 he16
        replace hb := hb.trans (Below.mono he16 hb.size)
        change Fr _ _ ((52, (gb (decide ((wordS kd) ≠ ⟨#[]⟩)) (.int .i64 ((kindP (wordS kd)))))) :: _) at hf
        refine sqgT (act := (decide ((wordS kd) ≠ ⟨#[]⟩))) (ag := true) (c := (decide ((wordS kd) ≠ ⟨#[]⟩))) (v := (.int .i64 kd)) hf rfl rfl rfl (fun hact => (r_move rfl)) rfl rfl ?_; clear hf fa; intro fa hf
        refine sqgT (act := (decide ((wordS kd) ≠ ⟨#[]⟩))) (ag := true) (c := (decide ((wordS kd) ≠ ⟨#[]⟩))) (v := (.bool (decide (((kindP (wordS kd))) ≠ kd)))) hf rfl rfl rfl (fun hact => (r_ne (gb_ev hact rfl) (gb_ev hact rfl))) rfl rfl ?_; clear hf fa; intro fa hf
        refine sqgd (act := true) (g := 14) (want := false) (ag := true) (c := false) hf (by rfl) (by rfl) rfl (fun _ =>  Runs.does (R := fun vq wq => vq = (.bool false) ∧ w17 = wq) (Runs.veq (r_pickA (b := (decide ((wordS kd) ≠ ⟨#[]⟩))) (e := (decide (((kindP (wordS kd))) ≠ kd))) rfl rfl rfl) (congrArg Value.bool (show _ = false from (kind_back kd)))) ⟨rfl, rfl⟩) (fun h => by cases h) rfl ?_; clear hf fa; rintro fa _ _ ⟨rfl, rfl⟩ hf
        change Fr _ _ ((55, (.bool false)) :: _) at hf
        refine sqv hf (r_pick (b := false) rfl rfl rfl rfl) rfl rfl rfl ?_; clear hf fa; intro fa hf
        apply wpList_nil
        (try simp only [Exit.then, Exit.inBlock, ↓reduceIte, Nat.reduceEqDiff])
        refine hK19 _ _ ?_
        refine wp_cond_false (hf.ev rfl) ?_
        refine wp_skip ?_
        (try simp only [Exit.then, Exit.inBlock, ↓reduceIte, Nat.reduceEqDiff])
        refine hK18 _ _ ?_
        refine wp_seq_k (fun K20 hK20 => ?_)
        refine wp_seq_k (fun K21 hK21 => ?_)
        refine wp_region_lit ?_
        refine sqv hf (r_move rfl) rfl rfl rfl ?_; clear hf fa; intro fa hf
        refine sqv hf (Runs.veq (v' := (.bool true)) (r_not rfl) rfl) rfl rfl rfl ?_; clear hf fa; intro fa hf
        apply wpList_nil
        (try simp only [Exit.then, Exit.inBlock, ↓reduceIte, Nat.reduceEqDiff])
        refine hK21 _ _ ?_
        refine wp_cond_true (hf.ev rfl) ?_
        refine wp_seq_k (fun K22 hK22 => ?_)
        refine wp_region_lit ?_
        refine sqv hf (r_move rfl) rfl rfl rfl ?_; clear hf fa; intro fa hf
        refine sqv hf (Runs.veq (r_seq rfl rfl) (congrArg Value.bool (show _ = true from (by simp)))) rfl rfl rfl ?_; clear hf fa; intro fa hf
        refine sqv hf (r_assign rfl) rfl rfl rfl ?_; clear hf fa; intro fa hf
        apply wpList_nil
        (try simp only [Exit.then, Exit.inBlock, ↓reduceIte, Nat.reduceEqDiff])
        refine hK22 _ _ ?_
        refine wp_ret ?_
        (try simp only [Exit.then, Exit.inBlock])
        refine ret1 hf rfl rfl ?_
        exact ⟨rfl, hb⟩
end Go.Proofs.Ytpalmpfkliepfaa

namespace Go.Proofs.Ytpalmpfkliepfaa.opLines
open Go.ChangeShapes Go.WideShapes Go.ChangeAt Go.RowKit
open Go.ChangeMaps (open_string shut_string)
set_option linter.unusedVariables false
set_option linter.unusedSimpArgs false

theorem own : ownKnob Try.prog.godebug = none := by kernel_rfl
theorem laidOut : laidOutB Try.prog = true := by kernel_rfl
open Ut
theorem fInt_in {w : World} {n : Int} (h : fInt .i64 w n) : inI n := by have := fInt_i64 h; unfold inI; omega
theorem mem_get {α : Type} {l : List α} {x : α} (h : x ∈ l) : ∃ j : Nat, l[j]? = some x := List.mem_iff_getElem?.1 h
theorem nI_back (l : List Int) (h : ∀ x ∈ l, 0 ≤ x ∧ x < 256) : nI (l.map Int.toNat) = l := by
  unfold nI
  rw [List.map_map]
  conv => rhs; rw [← List.map_id l]
  apply List.map_congr_left
  intro x hx
  have := h x hx
  simp; omega
def stOf (d : MOp) : PSt := ⟨d.2.1.list, d.2.2.1.list, d.2.2.2.1.list, d.2.2.2.2.1.list.map Int.toNat⟩
theorem walk (d : MOp) (kd : Int) (W : World) (g : fMOp W d) : Calls Try.prog 4 #[(.agg #[(.int .i64 d.1), (.slice d.2.1.at' d.2.1.len d.2.1.cap), (.slice d.2.2.1.at' d.2.2.1.len d.2.2.1.cap), (.slice d.2.2.2.1.at' d.2.2.2.1.len d.2.2.2.1.cap), (.slice d.2.2.2.2.1.at' d.2.2.2.2.1.len d.2.2.2.2.1.cap)]), .int .i64 kd] W fun e w' => e = .returned (.bool true) ∧ Below W.heap.size W w' := by
  obtain ⟨g1, g2, g3, g4, g5, _⟩ := g
  have hD : ∀ x ∈ d.2.2.2.2.1.list, 0 ≤ x ∧ x < 256 := by
    intro x hx
    obtain ⟨j, hj⟩ := mem_get hx
    exact fInt_u8 (fSl_el g5.2 hj)
  have hnb := nI_back _ hD
  have hF : OpF W (stOf d) d.2.1.at' d.2.2.1.at' d.2.2.2.1.at' d.2.2.2.2.1.at' := ⟨RdS.of_arg g2.2, RdS.of_arg g3.2, RdS.of_arg g4.2, by show RdS 1 (vInt .u8) W _ (nI (d.2.2.2.2.1.list.map Int.toNat)); rw [hnb]; exact RdS.of_arg g5.2⟩
  have h := opLines_any d.1 kd (stOf d) d.2.1.at' d.2.2.1.at' d.2.2.2.1.at' d.2.2.2.2.1.at' d.2.1.cap d.2.2.1.cap d.2.2.2.1.cap d.2.2.2.2.1.cap W hF
    (by intro x hx; obtain ⟨j, hj⟩ := mem_get (l := d.2.1.list) hx; exact fInt_in (fSl_el g2.2 hj))
    (by intro x hx; obtain ⟨j, hj⟩ := mem_get (l := d.2.2.2.1.list) hx; have g9 := fSl_el g4.2 hj; exact ⟨fInt_u8 g9.1, fInt_u64 g9.2.1⟩)
    (by intro x hx; obtain ⟨y, hy, rfl⟩ := List.mem_map.1 hx; have := hD y hy; omega)
    (by show d.2.2.1.list.length ≤ _; rw [Sl.list_length]; have := g3.1; omega)
  simp only [stOf, Sl.list_length, List.length_map] at h
  exact h

set_option maxRecDepth 100000 in
theorem lifted (os : Os) (started : os.Started) (H : Type) (enc : TypeId × Value → H) :
    ReturnsInHanded {} Try.checked os 4 .any (Rows.opLinesSpec.pre6 enc Try.prog Try.f4 Rows.opLinesRow.domain false) (Rows.opLinesSpec.post enc Try.prog Try.f4 false true false false) := by
  refine returnsInHanded_of_change_sized (C := Try.checked) own started (by kernel_rfl) Try.func4
    (ChangeSpec.witness6 (enc := enc) (C := Try.checked) false ⟨#[], #[.agg #[.int .i64 0, .slice none 0 0, .slice none 0 0, .slice none 0 0, .slice none 0 0], .int .i64 0], []⟩ 8 (by kernel_rfl) (by kernel_rfl) (by kernel_rfl) (by kernel_rfl)) ?_
  intro W base args ds gs before hval0 hW hcnd hsz _
  have hval : ∀ (j : Nat) t v, Try.f4.params[j]? = some t → args[j]? = some v → Value.okWide Try.prog W .any base t v := hval0
  have hW' := hW
  obtain ⟨p, q, hA0, hV, rfl, hfz, hnd⟩ := hW
  have hA : DataW.TrodAll enc Try.prog W 0 (fun _ => true) true Try.f4.params.toList args.toList ds p := hA0
  rw [Try.params4] at hA hval
  obtain ⟨v0, vs0, x0, ds0, p0, q0, hargs, rfl, rfl, h0, r0⟩ := trodAll_cons hA
  obtain ⟨v1, vs1, x1, ds1, p1, q1, rfl, rfl, rfl, h1, r1⟩ := trodAll_cons r0
  obtain ⟨rfl, rfl, rfl⟩ := trodAll_nil r1
  obtain rfl : args = #[v0, v1] := by cases args; simp_all
  obtain ⟨rfl, rfl⟩ := trodVars_none hV
  have k0 := h0
  have lt0 : ∀ x ∈ p0, x.block < W.heap.size := by obtain ⟨m, hm⟩ := k0; exact DataW.trod_lt m _ _ _ hm
  obtain ⟨cs0, rfl, _, _⟩ : ∃ cs, v0 = .agg cs ∧ cs.size = Try.prog.cellsOf 45 ∧ Row.okWide Try.prog W .any base 45 cs := by
    have := hval 0 45 v0 rfl rfl
    simpa [Value.okWide, Try.underlying45] using this
  obtain ⟨d0, e0, g0⟩ := (rdMOp).arg h0 (weights_at hsz (j := 0) (t := 45) (by kernel_rfl) rfl)
  replace e0 : cs0 = (_ : List Value).toArray := Array.ext' (by simpa [Value.cells] using e0)
  subst e0
  have k1 := h1
  have lt1 : ∀ x ∈ p1, x.block < W.heap.size := by obtain ⟨m, hm⟩ := k1; exact DataW.trod_lt m _ _ _ hm
  obtain ⟨a1, rfl, _, _, w1⟩ := open_int Try.underlying3 (hval 1 3 v1 rfl rfl) h1
  clear hA0 hval0
  refine (walk d0 a1 W g0).mono fun e W' ⟨he, bel⟩ => ?_
  subst he
  exact ⟨_, rfl, _, _, _, [], _, [], hW', trodAll_mk1 (shut_bool Try.underlying4 _), (trodAll_cons_mk (Below.trod laidOut (by kernel_rfl) (of_decide_eq_true (by kernel_rfl)) k0 bel lt0) (trodAll_cons_mk (Below.trod laidOut (by kernel_rfl) (of_decide_eq_true (by kernel_rfl)) k1 bel lt1) trodAll_mk0)), rfl, bel.frame _, fun h => by cases h⟩

theorem over : Rows.opLinesRow.holds Try.pinned (OpenSpec.ofChange Rows.opLinesSpec) :=
  OpenClaim.holds_of_wide 4 Try.f4 rfl rfl rfl rfl rfl rfl rfl ⟨rfl, rfl, rfl, rfl, rfl⟩ rfl rfl rfl rfl rfl (by kernel_rfl) Try.func4 (by kernel_rfl)
    (of_decide_eq_true (by kernel_rfl)) (by unfold Func.isWrapper; first | (rw [if_pos (by decide +kernel)]; kernel_rfl) | (rw [if_neg (by decide +kernel)]; exact ⟨rfl, rfl⟩))
    (fun os started H enc _ => lifted os started H enc)

/-- The statement. -/
theorem proved : Rows.OpLinesSaid := over
#print axioms proved
end Go.Proofs.Ytpalmpfkliepfaa.opLines
