/- What is proved here: the reading of a line, by the program. What is proved here: the pieces of a line, by the document. What is proved here: the reading of a line, by the document. What is proved here: string(b) of bytes that came in. What is proved here: what the laws of op call: the example, Few, Ref, Same. What is proved here: the law OpParts is true. What is proved here: the statement OpParts, for every input. -/
import Derived.Test.YtpalmpfkliepfaaOpPartsMgAD
import Derived.Test.YtpalmpfkliepfaaRows
import Derived.Test.YtpalmpfkliepfaaOpPartsMgAB
import Derived.ProofKit
import Derived.OpenShut
import Derived.ShutString
import Derived.ChangeOld
import Derived.Below
namespace Go.Proofs.Ytpalmpfkliepfaa
open Go.RowKit Ut
set_option linter.unusedVariables false
set_option linter.unusedSimpArgs false
theorem cA_size (l : ByteArray) : (cA l 32).size = posB l 32 := by
  have := posB_le l 32
  rw [← bl_length]; unfold cA; rw [bl_mid, List.length_take, List.length_drop, bl_length]; omega
theorem pieceS_some {r : ByteArray} {pc : ByteArray × ByteArray × Bool} (h : pieceS r = pc) (h2 : pc.2.2 = true) : pieceP (bl r) = some (bl pc.1, bl pc.2.1) ∧ pc.1.size ≤ r.size ∧ pc.2.1.size < r.size := by
  unfold pieceS at h
  cases hp : pieceP (bl r) with
  | none => rw [hp] at h; rw [← h] at h2; cases h2
  | some pm =>
    rw [hp] at h
    have hpm : bl r = 32 :: (pm.1 ++ pm.2) := by
      unfold pieceP at hp
      split at hp
      · rename_i l e
        simp only [Option.some.injEq] at hp
        rw [← hp, scanF_app, e]
      · cases hp
    have hb : ∀ x ∈ pm.1 ++ pm.2, x < 256 := fun x hx => bl_lt r x (by rw [hpm]; exact List.mem_cons_of_mem _ hx)
    have h3 := congrArg List.length hpm
    simp only [bl_length, List.length_cons, List.length_append] at h3
    rw [← h]
    simp only
    rw [bl_strN _ (fun x hx => hb x (List.mem_append_left _ hx)), bl_strN _ (fun x hx => hb x (List.mem_append_right _ hx)), strN_size, strN_size]
    exact ⟨rfl, by omega, by omega⟩
theorem pieceS_none {r : ByteArray} {pc : ByteArray × ByteArray × Bool} (h : pieceS r = pc) (h2 : ¬ pc.2.2 = true) : pieceP (bl r) = none := by
  unfold pieceS at h
  cases hp : pieceP (bl r) with
  | none => rfl
  | some pm => rw [hp] at h; rw [← h] at h2; exact absurd rfl h2
section
variable {X : Option PSt} {F r p m : ByteArray} {fu i : Nat} {st : PSt} {tk : PSt × Bool}
theorem parse_a (Hs : X = parseP fu ((bl F).drop i) (bl r) st) (hi : i < F.size) (hp : pieceP (bl r) = some (bl p, bl m)) (ht : takeP (sbt F i) p st = tk) (hok : tk.2 = true) (hf : 0 < fu) (hc : sbt F i = 97) : X = parseP (fu - 1) ((bl F).drop i) (bl m) tk.1 := by
  obtain ⟨f, rfl⟩ : ∃ f, fu = f + 1 := ⟨fu - 1, by omega⟩
  rw [Hs, bl_dropc F i hi, parseP_some hp, strN_bl, ht, if_pos hok, if_pos hc]; rfl
theorem parse_o (Hs : X = parseP fu ((bl F).drop i) (bl r) st) (hi : i < F.size) (hp : pieceP (bl r) = some (bl p, bl m)) (ht : takeP (sbt F i) p st = tk) (hok : tk.2 = true) (hf : 0 < fu) (hc : ¬ sbt F i = 97) : X = parseP (fu - 1) ((bl F).drop (i + 1)) (bl m) tk.1 := by
  obtain ⟨f, rfl⟩ : ∃ f, fu = f + 1 := ⟨fu - 1, by omega⟩
  rw [Hs, bl_dropc F i hi, parseP_some hp, strN_bl, ht, if_pos hok, if_neg hc]; rfl
theorem parse_bad (Hs : X = parseP fu ((bl F).drop i) (bl r) st) (hi : i < F.size) (hp : pieceP (bl r) = some (bl p, bl m)) (ht : takeP (sbt F i) p st = tk) (hok : ¬ tk.2 = true) (hf : 0 < fu) : X = none := by
  obtain ⟨f, rfl⟩ : ∃ f, fu = f + 1 := ⟨fu - 1, by omega⟩
  rw [Hs, bl_dropc F i hi, parseP_some hp, strN_bl, ht, if_neg hok]
theorem parse_na (Hs : X = parseP fu ((bl F).drop i) (bl r) st) (hi : i < F.size) (hp : pieceP (bl r) = none) (hf : 0 < fu) (hc : sbt F i = 97) : X = some st := by
  obtain ⟨f, rfl⟩ : ∃ f, fu = f + 1 := ⟨fu - 1, by omega⟩
  rw [Hs, bl_dropc F i hi, parseP_none hp, if_pos hc]
theorem parse_no (Hs : X = parseP fu ((bl F).drop i) (bl r) st) (hi : i < F.size) (hp : pieceP (bl r) = none) (hf : 0 < fu) (hc : ¬ sbt F i = 97) : X = none := by
  obtain ⟨f, rfl⟩ : ∃ f, fu = f + 1 := ⟨fu - 1, by omega⟩
  rw [Hs, bl_dropc F i hi, parseP_none hp, if_neg hc]
theorem parse_end (Hs : X = parseP fu ((bl F).drop i) (bl r) st) (hi : F.size ≤ i) (hf : 0 < fu) : X = some st := by
  obtain ⟨f, rfl⟩ : ∃ f, fu = f + 1 := ⟨fu - 1, by omega⟩
  rw [Hs, List.drop_eq_nil_of_le (by rw [bl_length]; exact hi)]; rfl
end
theorem opP_some {l : ByteArray} {k : Int} {st : PSt} (hk : kindP (cA l 32) = k) (hX : parseP (l.size + 1) (bl (formS k)) ((bl l).drop (posB l 32)) st0 = some st) : opP l = if rightP k st = true ∧ lineS k st = l then some (k, st) else none := by
  unfold opP; rw [hk, hX]
theorem opP_none {l : ByteArray} {k : Int} (hk : kindP (cA l 32) = k) (hX : parseP (l.size + 1) (bl (formS k)) ((bl l).drop (posB l 32)) st0 = none) : opP l = none := by
  unfold opP; rw [hk, hX]
theorem opF_nil (w : World) : OpF w st0 none none none none := ⟨RdS.nil, RdS.nil, RdS.nil, RdS.nil⟩

theorem OpB2.mono {m n : Nat} {st : PSt} (h : OpB2 m st) (hm : m ≤ n) : OpB2 n st := ⟨h.n, h.s, h.a, h.d, Nat.le_trans h.nl hm, Nat.le_trans h.sl hm, Nat.le_trans h.al hm, h.dl⟩

set_option maxHeartbeats 1000000 in
set_option maxRecDepth 100000 in
theorem parse_any (l : ByteArray) (w : World) (hl : l.size ≤ 20000) : Calls Try.prog 21 #[(.string l)] w fun e w' => ∃ (aN : Option Addr) (cN : Nat) (aS : Option Addr) (cS : Nat) (aA : Option Addr) (cA : Nat) (aD : Option Addr) (cD : Nat), e = .returned (.tuple #[(.agg #[(.int .i64 ((opK (opP l)))), (.slice aN ((opS (opP l)).N.length) cN), (.slice aS ((opS (opP l)).S.length) cS), (.slice aA ((opS (opP l)).A.length) cA), (.slice aD ((opS (opP l)).D.length) cD)]), .int .i64 (if (opP l).isSome = true then 0 else 49)]) ∧ OpF w' (opS (opP l)) aN aS aA aD ∧ Below w.heap.size w w' := by
  refine sx_enter (L := [(0, (.string l))]) Try.func21 rfl rfl rfl rfl (fun fa hf => ?_)
  have hb : Below w.heap.size w w := Below.refl _ _
  refine wp_seq_k (fun K1 hK1 => ?_)
  refine wp_region_lit ?_
  refine sqdt hf (d_alloc (z := (.agg #[(.int .i64 (0 : Int)), (.slice none 0 0), (.slice none 0 0), (.slice none 0 0), (.slice none 0 0)])) (cs := #[(.int .i64 (0 : Int)), (.slice none 0 0), (.slice none 0 0), (.slice none 0 0), (.slice none 0 0)]) (by kernel_rfl) rfl) rfl rfl rfl ?_; clear hf fa; rintro fa _ w1 ⟨b1, rfl, hle1, hk1, he1⟩ hf
  have hBb1 : w.heap.size ≤ b1 := Nat.le_trans hb.size hle1
  replace hb := hb.trans (Below.mono he1 hb.size)
  refine sqv hf (r_assign rfl) rfl rfl rfl ?_; clear hf fa; intro fa hf
  apply wpList_nil
  (try simp only [Exit.then, Exit.inBlock, ↓reduceIte, Nat.reduceEqDiff])
  refine hK1 _ _ ?_
  refine wp_seq_k (fun K2 hK2 => ?_)
  refine wp_region_lit ?_
  refine sqv hf (r_move rfl) rfl rfl rfl ?_; clear hf fa; intro fa hf
  refine sqdt hf (d_callB (vs := [(.string l), (.string ⟨#[32]⟩)]) rfl Try.func58 (by kernel_rfl) (by kernel_rfl) (cutg_any l ⟨#[32]⟩ 32 _ rfl (by omega))) rfl rfl rfl ?_; clear hf fa; rintro fa _ w2 ⟨rfl, he2⟩ hf
  replace hk1 := blk_ext hk1 he2
  replace hb := hb.trans (Below.mono he2 hb.size)
  refine sqv hf (r_move rfl) rfl rfl rfl ?_; clear hf fa; intro fa hf
  refine sqv hf (r_extract rfl (i := 0) rfl) rfl rfl rfl ?_; clear hf fa; intro fa hf
  refine sqv hf (r_extract rfl (i := 1) rfl) rfl rfl rfl ?_; clear hf fa; intro fa hf
  refine sqv hf (r_extract rfl (i := 2) rfl) rfl rfl rfl ?_; clear hf fa; intro fa hf
  refine sqv hf (r_assign rfl) rfl rfl rfl ?_; clear hf fa; intro fa hf
  refine sqv hf (r_assign rfl) rfl rfl rfl ?_; clear hf fa; intro fa hf
  refine sqv hf (r_assign rfl) rfl rfl rfl ?_; clear hf fa; intro fa hf
  apply wpList_nil
  (try simp only [Exit.then, Exit.inBlock, ↓reduceIte, Nat.reduceEqDiff])
  refine hK2 _ _ ?_
  refine wp_seq_k (fun K3 hK3 => ?_)
  have hbA : Below w2.heap.size w2 w2 := Below.refl _ _
  have hbw := hb
  have hk1A := hk1
  obtain ⟨k, hk⟩ : ∃ x, kindP (cA l 32) = x := ⟨_, rfl⟩
  have hcs := cA_size l
  have hpl := posB_le l 32
  refine wp_region_lit ?_
  refine sqv hf (r_move rfl) rfl rfl rfl ?_; clear hf fa; intro fa hf
  refine sqdt hf (d_callB (v := (.int .i64 k)) (vs := [(.string (cA l 32))]) rfl Try.func20 (by kernel_rfl) (by kernel_rfl) (by have h := kind_any (cA l 32) w2; rw [hk] at h; exact h)) rfl rfl rfl ?_; clear hf fa; rintro fa _ w3 ⟨rfl, he3⟩ hf
  replace hk1 := blk_ext hk1 he3
  replace hbA := hbA.trans (Below.mono he3 hbA.size)
  replace hb := hb.trans (Below.mono he3 hb.size)
  refine sqv hf (r_build (vs := [(0, (.int .i64 k))]) (cs := #[(.int .i64 k), (.slice none 0 0), (.slice none 0 0), (.slice none 0 0), (.slice none 0 0)]) rfl (fun _ => by kernel_rfl)) rfl rfl rfl ?_; clear hf fa; intro fa hf
  refine sqdt hf (d_alloc (z := (.agg #[(.int .i64 (0 : Int)), (.slice none 0 0), (.slice none 0 0), (.slice none 0 0), (.slice none 0 0)])) (cs := #[(.int .i64 (0 : Int)), (.slice none 0 0), (.slice none 0 0), (.slice none 0 0), (.slice none 0 0)]) (by kernel_rfl) rfl) rfl rfl rfl ?_; clear hf fa; rintro fa _ w4 ⟨b2, rfl, hle2, hk2, he4⟩ hf
  have hBb2 : w.heap.size ≤ b2 := Nat.le_trans hb.size hle2
  have : b1 < b2 := Nat.lt_of_lt_of_le (blk_lt hk1) hle2
  have hUhbAb2 := Nat.le_trans hbA.size hle2
  replace hk1 := blk_ext hk1 he4
  replace hbA := hbA.trans (Below.mono he4 hbA.size)
  replace hb := hb.trans (Below.mono he4 hb.size)
  refine sqn hf (d_storeK (T := 45) (v := (.agg #[(.int .i64 k), (.slice none 0 0), (.slice none 0 0), (.slice none 0 0), (.slice none 0 0)])) (cs := #[(.int .i64 (0 : Int)), (.slice none 0 0), (.slice none 0 0), (.slice none 0 0), (.slice none 0 0)]) (cs' := #[(.int .i64 k), (.slice none 0 0), (.slice none 0 0), (.slice none 0 0), (.slice none 0 0)]) rfl rfl (by kernel_rfl) (by kernel_rfl) hk2 (by kernel_rfl) (by kernel_rfl)) rfl rfl ?_; clear hf fa; rintro fa _ w5 ⟨hk3, hg1⟩ hf
  replace hk1 := blk_grown hk1 hg1 (by omega)
  replace hbA := hbA.trans (grown_below hg1 hbA.size (by omega))
  replace hb := hb.trans (grown_below hg1 hb.size hBb2)
  apply wpList_nil
  (try simp only [Exit.then, Exit.inBlock, ↓reduceIte, Nat.reduceEqDiff])
  refine hK3 _ _ ?_
  refine wp_seq_k (fun K4 hK4 => ?_)
  refine wp_region_lit ?_
  refine sqv hf (r_fa rfl Try.underlying45 (f := 0) (q := 0) rfl (by kernel_rfl) rfl) rfl rfl rfl ?_; clear hf fa; intro fa hf
  refine sqv hf (r_load (v := (.int .i64 k)) rfl Try.underlying3 rfl (cell_blk hk3 rfl)) rfl rfl rfl ?_; clear hf fa; intro fa hf
  refine sqdt hf (d_callB (vs := [(.int .i64 k)]) rfl Try.func17 (by kernel_rfl) (by kernel_rfl) (form_any k _)) rfl rfl rfl ?_; clear hf fa; rintro fa _ w6 ⟨rfl, he5⟩ hf
  replace hk1 := blk_ext hk1 he5
  replace hk3 := blk_ext hk3 he5
  replace hbA := hbA.trans (Below.mono he5 hbA.size)
  replace hb := hb.trans (Below.mono he5 hb.size)
  refine sqv hf (r_move rfl) rfl rfl rfl ?_; clear hf fa; intro fa hf
  refine sqv hf (r_extract rfl (i := 0) rfl) rfl rfl rfl ?_; clear hf fa; intro fa hf
  refine sqv hf (r_extract rfl (i := 1) rfl) rfl rfl rfl ?_; clear hf fa; intro fa hf
  refine sqv hf (r_assign rfl) rfl rfl rfl ?_; clear hf fa; intro fa hf
  refine sqv hf (r_assign rfl) rfl rfl rfl ?_; clear hf fa; intro fa hf
  apply wpList_nil
  (try simp only [Exit.then, Exit.inBlock, ↓reduceIte, Nat.reduceEqDiff])
  refine hK4 _ _ ?_
  refine wp_seq_k (fun K5 hK5 => ?_)
  refine wp_region_lit ?_
  refine sqv hf (r_move rfl) rfl rfl rfl ?_; clear hf fa; intro fa hf
  refine sqv hf (r_move rfl) rfl rfl rfl ?_; clear hf fa; intro fa hf
  refine sqv hf (r_lens rfl Try.underlying9) rfl rfl rfl ?_; clear hf fa; intro fa hf
  refine sqv hf (r_sslice (a := ((cA l 32).size)) (b := l.size) (k1 := .i64) (k2 := .i64) (A := (((cA l 32).size : Nat) : Int)) (B := 0) rfl Try.underlying9 (.inr ⟨_, rfl, rfl, rfl⟩) (.inl ⟨rfl, rfl⟩) (by omega) (by omega)) rfl rfl rfl ?_; clear hf fa; intro fa hf
  refine sqv hf (r_assign rfl) rfl rfl rfl ?_; clear hf fa; intro fa hf
  apply wpList_nil
  (try simp only [Exit.then, Exit.inBlock, ↓reduceIte, Nat.reduceEqDiff])
  refine hK5 _ _ ?_
  refine wp_seq_k (fun K6 hK6 => ?_)
  refine wp_seq_k (fun K7 hK7 => ?_)
  have hUb2 : w2.heap.size ≤ b2 := by omega
  have hwl := word_len k
  have hr0s : (l.extract (cA l 32).size l.size).size = l.size - posB l 32 := by rw [hcs, size_drop]
  refine wp_region_lit ?_
  refine sqv hf (r_assign rfl) rfl rfl rfl ?_; clear hf fa; intro fa hf
  apply wpList_nil
  (try simp only [Exit.then, Exit.inBlock, ↓reduceIte, Nat.reduceEqDiff])
  refine hK7 _ _ ?_
  refine wp_block ?_
  refine wp_loop_k (fun mq fa wr => ∃ (fu : Nat) (i : Nat) (r : ByteArray) (st : PSt), mq = r.size ∧ Fr 83 fa [(0, (.string l)), (2, (.pointer (some ⟨b1, 0, none⟩))), (7, (.pointer (some ⟨b2, 0, none⟩))), (9, (.string (formS k))), (10, (.string r)), (11, (.int .i64 ((i : Nat) : Int)))] ∧ Below w.heap.size w wr ∧ wr.heap[b1]? = some (.cells #[(.int .i64 (0 : Int)), (.slice none 0 0), (.slice none 0 0), (.slice none 0 0), (.slice none 0 0)] 45 (0, 0)) ∧ (Below w2.heap.size w2 wr) ∧ (StP 45 w2.heap.size wr b2 k st) ∧ (i ≤ (formS k).size) ∧ (OpB2 (l.size - r.size) st) ∧ (r.size ≤ l.size) ∧ (r.size < fu) ∧ (parseP (l.size + 1) (bl (formS k)) ((bl l).drop (posB l 32)) st0 = parseP fu ((bl (formS k)).drop i) (bl r) st)) ?_ ?_
  · skip
    exact ⟨_, (l.size + 1), 0, (l.extract (cA l 32).size l.size), st0, rfl, hf.sub ⟨rfl, rfl, rfl, rfl, (some_str (by first | rfl | assumption | simp)), (some_int (by first | rfl | omega)), trivial⟩, hb, hk1, hbA, ⟨none, 0, none, 0, none, 0, none, 0, hk3, Row.nil, Row.nil, Row.nil, Row.nil⟩, by omega, OpB2.zero _, by rw [hr0s]; omega, by rw [hr0s]; omega, (by rw [List.drop_zero, hcs, bl_drop])⟩
  · skip
    clear hf fa; intro mq1 fa w7 hI KL1 hKL1
    clear hb
    clear hk1
    clear hk3
    obtain ⟨fu, i, r, st, hmq1, hf, hb, hkb1, hbA, hst, hi, hInv, hrl, hfu, Hs⟩ := hI
    obtain ⟨pc, hpc⟩ : ∃ x, pieceS r = x := ⟨_, rfl⟩
    have hbS : Below w7.heap.size w7 w7 := Below.refl _ _
    refine wp_seq_k (fun K8 hK8 => ?_)
    refine wp_seq_k (fun K9 hK9 => ?_)
    refine wp_region_lit ?_
    refine sqv hf (r_move rfl) rfl rfl rfl ?_; clear hf fa; intro fa hf
    refine sqv hf (r_move rfl) rfl rfl rfl ?_; clear hf fa; intro fa hf
    refine sqv hf (r_lens rfl Try.underlying9) rfl rfl rfl ?_; clear hf fa; intro fa hf
    refine sqv hf (r_lt rfl rfl) rfl rfl rfl ?_; clear hf fa; intro fa hf
    apply wpList_nil
    (try simp only [Exit.then, Exit.inBlock, ↓reduceIte, Nat.reduceEqDiff])
    refine hK9 _ _ ?_
    refine wp_cond_split (t := (decide (((i : Nat) : Int) < (((formS k).size : Nat) : Int)))) (hf.ev rfl) (fun hqt37_1 => ?_) (fun hqt37_1 => ?_)
    · have hqt37_1b := hqt37_1
      try simp only [decide_eq_true_eq, Bool.and_eq_true, Bool.or_eq_true, Bool.not_eq_true', decide_eq_false_iff_not, ne_eq, Bool.not_eq_true] at hqt37_1
      refine wp_skip ?_
      (try simp only [Exit.then, Exit.inBlock, ↓reduceIte, Nat.reduceEqDiff])
      refine hK8 _ _ ?_
      refine wp_seq_k (fun K10 hK10 => ?_)
      refine wp_block ?_
      refine wp_seq_k (fun K11 hK11 => ?_)
      refine wp_region_lit ?_
      refine sqv hf (r_move rfl) rfl rfl rfl ?_; clear hf fa; intro fa hf
      refine sqdt hf (d_callB (v := (.tuple #[(.string pc.1), (.string pc.2.1), (.bool pc.2.2)])) (vs := [(.string r)]) rfl Try.func59 (by kernel_rfl) (by kernel_rfl) (by have h := piece_any r w7 (by omega); rw [hpc] at h; exact h)) rfl rfl rfl ?_; clear hf fa; rintro fa _ w8 ⟨rfl, he6⟩ hf
      replace hkb1 := blk_ext hkb1 he6
      replace hbA := hbA.trans (Below.mono he6 hbA.size)
      replace hbS := hbS.trans (Below.mono he6 hbS.size)
      replace hb := hb.trans (Below.mono he6 hb.size)
      refine sqv hf (r_move rfl) rfl rfl rfl ?_; clear hf fa; intro fa hf
      refine sqv hf (r_extract rfl (i := 0) rfl) rfl rfl rfl ?_; clear hf fa; intro fa hf
      refine sqv hf (r_extract rfl (i := 1) rfl) rfl rfl rfl ?_; clear hf fa; intro fa hf
      refine sqv hf (r_extract rfl (i := 2) rfl) rfl rfl rfl ?_; clear hf fa; intro fa hf
      refine sqv hf (r_assign rfl) rfl rfl rfl ?_; clear hf fa; intro fa hf
      refine sqv hf (r_assign rfl) rfl rfl rfl ?_; clear hf fa; intro fa hf
      refine sqv hf (r_assign rfl) rfl rfl rfl ?_; clear hf fa; intro fa hf
      apply wpList_nil
      (try simp only [Exit.then, Exit.inBlock, ↓reduceIte, Nat.reduceEqDiff])
      refine hK11 _ _ ?_
      refine wp_seq_k (fun K12 hK12 => ?_)
      refine wp_seq_k (fun K13 hK13 => ?_)
      skip
      by_cases hsp1 : pc.2.2 = true
      · have hsp1b : decide (pc.2.2 = true) = true := decide_eq_true hsp1
        have hps := pieceS_some hpc hsp1
        refine wp_region_lit ?_
        refine sqv hf (r_move rfl) rfl rfl rfl ?_; clear hf fa; intro fa hf
        refine sqv hf (Runs.veq (r_not rfl) (congrArg Value.bool (show _ = false from (by rw [hsp1]; rfl)))) rfl rfl rfl ?_; clear hf fa; intro fa hf
        refine sqv hf (r_move rfl) rfl rfl rfl ?_; clear hf fa; intro fa hf
        refine sqgT (act := false) (ag := true) (c := false) (v := .bool false) hf rfl rfl rfl (fun hact => by cases hact) rfl rfl ?_; clear hf fa; intro fa hf
        refine sqgT (act := false) (ag := true) (c := false) (v := .bool false) hf rfl rfl rfl (fun hact => by cases hact) rfl rfl ?_; clear hf fa; intro fa hf
        refine sqgT (act := false) (ag := true) (c := false) (v := .bool false) hf rfl rfl rfl (fun hact => by cases hact) rfl rfl ?_; clear hf fa; intro fa hf
        refine sqgT (act := false) (ag := true) (c := false) (v := .bool false) hf rfl rfl rfl (fun hact => by cases hact) rfl rfl ?_; clear hf fa; intro fa hf
        refine sqv hf (r_pick (b := false) rfl rfl rfl rfl) rfl rfl rfl ?_; clear hf fa; intro fa hf
        apply wpList_nil
        (try simp only [Exit.then, Exit.inBlock, ↓reduceIte, Nat.reduceEqDiff])
        refine hK13 _ _ ?_
        refine wp_cond_false (hf.ev rfl) ?_
        refine wp_skip ?_
        (try simp only [Exit.then, Exit.inBlock, ↓reduceIte, Nat.reduceEqDiff])
        refine hK12 _ _ ?_
        refine wp_seq_k (fun K14 hK14 => ?_)
        refine wp_seq_k (fun K15 hK15 => ?_)
        obtain ⟨tk, htk⟩ : ∃ x, takeP (sbt (formS k) i) pc.1 st = x := ⟨_, rfl⟩
        refine wp_region_lit ?_
        refine sqv hf (r_move rfl) rfl rfl rfl ?_; clear hf fa; intro fa hf
        refine sqv hf (Runs.veq (r_not rfl) (congrArg Value.bool (show _ = false from (by rw [hsp1]; rfl)))) rfl rfl rfl ?_; clear hf fa; intro fa hf
        refine sqv hf (r_move rfl) rfl rfl rfl ?_; clear hf fa; intro fa hf
        refine sqgd (act := true) (g := 2) (want := false) (ag := true) (c := false) hf (by rfl) (by rfl) rfl (fun _ =>  Runs.does (R := fun vq wq => vq = (.string (formS k)) ∧ w8 = wq) (r_move rfl) ⟨rfl, rfl⟩) (fun h => by cases h) rfl ?_; clear hf fa; rintro fa _ _ ⟨rfl, rfl⟩ hf
        change Fr _ _ ((57, (.string (formS k))) :: _) at hf
        refine sqgd (act := true) (g := 2) (want := false) (ag := true) (c := false) hf (by rfl) (by rfl) rfl (fun _ =>  Runs.does (R := fun vq wq => vq = (.int .i64 ((i : Nat) : Int)) ∧ w8 = wq) (r_move rfl) ⟨rfl, rfl⟩) (fun h => by cases h) rfl ?_; clear hf fa; rintro fa _ _ ⟨rfl, rfl⟩ hf
        change Fr _ _ ((58, (.int .i64 ((i : Nat) : Int))) :: _) at hf
        refine sqgd (act := true) (g := 2) (want := false) (ag := true) (c := false) hf (by rfl) (by rfl) rfl (fun _ =>  Runs.does (R := fun vq wq => vq = (.int .u8 ((sbt (formS k) i : Nat) : Int)) ∧ w8 = wq) (r_sindexD (j := i) rfl rfl Try.underlying9 rfl (by omega)) ⟨rfl, rfl⟩) (fun h => by cases h) rfl ?_; clear hf fa; rintro fa _ _ ⟨rfl, rfl⟩ hf
        change Fr _ _ ((59, (.int .u8 ((sbt (formS k) i : Nat) : Int))) :: _) at hf
        refine sqgd (act := true) (g := 2) (want := false) (ag := true) (c := false) hf (by rfl) (by rfl) rfl (fun _ =>  Runs.does (R := fun vq wq => vq = (.string pc.1) ∧ w8 = wq) (r_move rfl) ⟨rfl, rfl⟩) (fun h => by cases h) rfl ?_; clear hf fa; rintro fa _ _ ⟨rfl, rfl⟩ hf
        change Fr _ _ ((60, (.string pc.1)) :: _) at hf
        refine sqgd (act := true) (g := 2) (want := false) (ag := true) (c := false) hf (by rfl) (by rfl) rfl (fun _ =>  (d_callX (vs := [(.pointer (some ⟨b2, 0, none⟩)), (.int .u8 ((sbt (formS k) i : Nat) : Int)), (.string pc.1)]) rfl Try.func60 (by kernel_rfl) (by kernel_rfl) (by have h := take_x b2 (sbt (formS k) i) k pc.1 st w2 w8 hbA hUb2 (hst.ext hbS) (by omega) (hInv.toB (by omega)); rw [htk] at h; exact h)) ) (fun h => by cases h) rfl ?_; clear hf fa; rintro fa _ w9 ⟨rfl, hst2, he7⟩ hf
        replace hbA := he7
        replace hkb1 := blk_ext hk1A hbA
        replace hb := hbw.trans (hbA.mono hbw.size)
        clear hst hbS
        change Fr _ _ ((61, (.bool tk.2)) :: _) at hf
        refine sqgd (act := true) (g := 2) (want := false) (ag := true) (c := false) hf (by rfl) (by rfl) rfl (fun _ =>  Runs.does (R := fun vq wq => vq = (.bool (!tk.2)) ∧ w9 = wq) (r_not rfl) ⟨rfl, rfl⟩) (fun h => by cases h) rfl ?_; clear hf fa; rintro fa _ _ ⟨rfl, rfl⟩ hf
        change Fr _ _ ((62, (.bool (!tk.2))) :: _) at hf
        refine sqv hf (r_pick (b := false) rfl rfl rfl rfl) rfl rfl rfl ?_; clear hf fa; intro fa hf
        apply wpList_nil
        (try simp only [Exit.then, Exit.inBlock, ↓reduceIte, Nat.reduceEqDiff])
        refine hK15 _ _ ?_
        refine wp_cond_split (t := (!tk.2)) (hf.ev rfl) (fun hqt63_1 => ?_) (fun hqt63_1 => ?_)
        · have hqt63_1b := hqt63_1
          try simp only [decide_eq_true_eq, Bool.and_eq_true, Bool.or_eq_true, Bool.not_eq_true', decide_eq_false_iff_not, ne_eq, Bool.not_eq_true] at hqt63_1
          refine wp_seq_k (fun K16 hK16 => ?_)
          skip
          refine wp_region_lit ?_
          refine sqv hf (r_build (vs := []) (cs := #[(.int .i64 (0 : Int)), (.slice none 0 0), (.slice none 0 0), (.slice none 0 0), (.slice none 0 0)]) rfl (fun _ => by kernel_rfl)) rfl rfl rfl ?_; clear hf fa; intro fa hf
          refine sqn hf (d_storeK (T := 45) (v := (.agg #[(.int .i64 (0 : Int)), (.slice none 0 0), (.slice none 0 0), (.slice none 0 0), (.slice none 0 0)])) (cs := #[(.int .i64 (0 : Int)), (.slice none 0 0), (.slice none 0 0), (.slice none 0 0), (.slice none 0 0)]) (cs' := #[(.int .i64 (0 : Int)), (.slice none 0 0), (.slice none 0 0), (.slice none 0 0), (.slice none 0 0)]) rfl rfl (by kernel_rfl) (by kernel_rfl) hkb1 (by kernel_rfl) (by kernel_rfl)) rfl rfl ?_; clear hf fa; rintro fa _ w10 ⟨hk4, hg2⟩ hf
          replace hb := hb.trans (grown_below hg2 hb.size hBb1)
          refine sqv hf (r_assign rfl) rfl rfl rfl ?_; clear hf fa; intro fa hf
          apply wpList_nil
          (try simp only [Exit.then, Exit.inBlock, ↓reduceIte, Nat.reduceEqDiff])
          refine hK16 _ _ ?_
          refine wp_ret ?_
          (try simp only [Exit.then, Exit.inBlock])
          refine retCT hf rfl rfl hk4 Try.underlying45 rfl (by kernel_rfl) rfl ?_
          rw [opP_none hk (parse_bad Hs (by omega) hps.1 htk (by simpa using hqt63_1) (by omega))]; exact ⟨none, 0, none, 0, none, 0, none, 0, rfl, opF_nil _, hb⟩
        · have hqt63_1b := hqt63_1
          replace hqt63_1 := Bool.eq_false_iff.1 hqt63_1
          try simp only [ne_eq, decide_eq_true_eq, Bool.and_eq_true, Bool.or_eq_true, Bool.not_eq_true', decide_eq_false_iff_not] at hqt63_1
          refine wp_skip ?_
          (try simp only [Exit.then, Exit.inBlock, ↓reduceIte, Nat.reduceEqDiff])
          refine hK14 _ _ ?_
          refine wp_seq_k (fun K17 hK17 => ?_)
          have hok : tk.2 = true := by simpa using hqt63_1
          refine wp_region_lit ?_
          refine sqv hf (r_move rfl) rfl rfl rfl ?_; clear hf fa; intro fa hf
          refine sqv hf (r_assign rfl) rfl rfl rfl ?_; clear hf fa; intro fa hf
          apply wpList_nil
          (try simp only [Exit.then, Exit.inBlock, ↓reduceIte, Nat.reduceEqDiff])
          refine hK17 _ _ ?_
          refine wp_seq_k (fun K18 hK18 => ?_)
          refine wp_region_lit ?_
          refine sqv hf (r_move rfl) rfl rfl rfl ?_; clear hf fa; intro fa hf
          refine sqv hf (r_move rfl) rfl rfl rfl ?_; clear hf fa; intro fa hf
          refine sqv hf (r_sindexD (j := i) rfl rfl Try.underlying9 rfl (by omega)) rfl rfl rfl ?_; clear hf fa; intro fa hf
          refine sqv hf (r_eq rfl rfl) rfl rfl rfl ?_; clear hf fa; intro fa hf
          apply wpList_nil
          (try simp only [Exit.then, Exit.inBlock, ↓reduceIte, Nat.reduceEqDiff])
          refine hK18 _ _ ?_
          refine wp_cond_split (t := (decide (((sbt (formS k) i : Nat) : Int) = (97 : Int)))) (hf.ev rfl) (fun hqt69_1 => ?_) (fun hqt69_1 => ?_)
          · have hqt69_1b := hqt69_1
            try simp only [decide_eq_true_eq, Bool.and_eq_true, Bool.or_eq_true, Bool.not_eq_true', decide_eq_false_iff_not, ne_eq, Bool.not_eq_true] at hqt69_1
            refine wp_region_lit ?_
            refine sqv hf (r_move rfl) rfl rfl rfl ?_; clear hf fa; intro fa hf
            refine sqv hf (r_sub (C := (((i : Nat) : Int) - (1 : Int))) rfl rfl (by rw [IntKind.wrap_i64]; omega)) rfl rfl rfl ?_; clear hf fa; intro fa hf
            refine sqv hf (r_assign rfl) rfl rfl rfl ?_; clear hf fa; intro fa hf
            apply wpList_nil
            (try simp only [Exit.then, Exit.inBlock, ↓reduceIte, Nat.reduceEqDiff])
            refine hK10 _ _ ?_
            refine wp_region_lit ?_
            refine sqv hf (r_move rfl) rfl rfl rfl ?_; clear hf fa; intro fa hf
            refine sqv hf (r_add (C := ((((i : Nat) : Int) - (1 : Int)) + (1 : Int))) rfl rfl (by rw [IntKind.wrap_i64]; omega)) rfl rfl rfl ?_; clear hf fa; intro fa hf
            refine sqv hf (r_assign rfl) rfl rfl rfl ?_; clear hf fa; intro fa hf
            apply wpList_nil
            (try simp only [Exit.then, Exit.inBlock, ↓reduceIte, Nat.reduceEqDiff])
            have hi2 := takeP_inv hInv (p := pc.1) (c := sbt (formS k) i) (by omega) (by rw [htk]; exact hok)
            rw [htk] at hi2
            refine hKL1 _ _ _ (by omega) ⟨(fu - 1), i, pc.2.1, tk.1, rfl, hf.sub ⟨rfl, rfl, rfl, rfl, rfl, (some_int (by first | rfl | omega)), trivial⟩, hb, hkb1, hbA, hst2, by omega, (hi2.mono (by omega)), by omega, by omega, (parse_a Hs (by omega) hps.1 htk hok (by omega) (by have h := hqt69_1; omega))⟩
          · have hqt69_1b := hqt69_1
            replace hqt69_1 := Bool.eq_false_iff.1 hqt69_1
            try simp only [ne_eq, decide_eq_true_eq, Bool.and_eq_true, Bool.or_eq_true, Bool.not_eq_true', decide_eq_false_iff_not] at hqt69_1
            refine wp_skip ?_
            (try simp only [Exit.then, Exit.inBlock, ↓reduceIte, Nat.reduceEqDiff])
            refine hK10 _ _ ?_
            refine wp_region_lit ?_
            refine sqv hf (r_move rfl) rfl rfl rfl ?_; clear hf fa; intro fa hf
            refine sqv hf (r_add (C := (((i : Nat) : Int) + (1 : Int))) rfl rfl (by rw [IntKind.wrap_i64]; omega)) rfl rfl rfl ?_; clear hf fa; intro fa hf
            refine sqv hf (r_assign rfl) rfl rfl rfl ?_; clear hf fa; intro fa hf
            apply wpList_nil
            (try simp only [Exit.then, Exit.inBlock, ↓reduceIte, Nat.reduceEqDiff])
            have hi2 := takeP_inv hInv (p := pc.1) (c := sbt (formS k) i) (by omega) (by rw [htk]; exact hok)
            rw [htk] at hi2
            refine hKL1 _ _ _ (by omega) ⟨(fu - 1), (i + 1), pc.2.1, tk.1, rfl, hf.sub ⟨rfl, rfl, rfl, rfl, rfl, (some_int (by first | rfl | omega)), trivial⟩, hb, hkb1, hbA, hst2, by omega, (hi2.mono (by omega)), by omega, by omega, (parse_o Hs (by omega) hps.1 htk hok (by omega) (by have h := hqt69_1; omega))⟩
      · have hsp1b : decide (pc.2.2 = true) = false := decide_eq_false hsp1
        have hpn := pieceS_none hpc hsp1
        refine wp_region_lit ?_
        refine sqv hf (r_move rfl) rfl rfl rfl ?_; clear hf fa; intro fa hf
        refine sqv hf (Runs.veq (r_not rfl) (congrArg Value.bool (show _ = true from (by rw [Bool.eq_false_iff.2 hsp1]; rfl)))) rfl rfl rfl ?_; clear hf fa; intro fa hf
        refine sqv hf (r_move rfl) rfl rfl rfl ?_; clear hf fa; intro fa hf
        refine sqgd (act := true) (g := 2) (want := true) (ag := true) (c := true) hf (by rfl) (by rfl) rfl (fun _ =>  Runs.does (R := fun vq wq => vq = (.string (formS k)) ∧ w8 = wq) (r_move rfl) ⟨rfl, rfl⟩) (fun h => by cases h) rfl ?_; clear hf fa; rintro fa _ _ ⟨rfl, rfl⟩ hf
        change Fr _ _ ((49, (.string (formS k))) :: _) at hf
        refine sqgd (act := true) (g := 2) (want := true) (ag := true) (c := true) hf (by rfl) (by rfl) rfl (fun _ =>  Runs.does (R := fun vq wq => vq = (.int .i64 ((i : Nat) : Int)) ∧ w8 = wq) (r_move rfl) ⟨rfl, rfl⟩) (fun h => by cases h) rfl ?_; clear hf fa; rintro fa _ _ ⟨rfl, rfl⟩ hf
        change Fr _ _ ((50, (.int .i64 ((i : Nat) : Int))) :: _) at hf
        refine sqgd (act := true) (g := 2) (want := true) (ag := true) (c := true) hf (by rfl) (by rfl) rfl (fun _ =>  Runs.does (R := fun vq wq => vq = (.int .u8 ((sbt (formS k) i : Nat) : Int)) ∧ w8 = wq) (r_sindexD (j := i) rfl rfl Try.underlying9 rfl (by omega)) ⟨rfl, rfl⟩) (fun h => by cases h) rfl ?_; clear hf fa; rintro fa _ _ ⟨rfl, rfl⟩ hf
        change Fr _ _ ((51, (.int .u8 ((sbt (formS k) i : Nat) : Int))) :: _) at hf
        refine sqgd (act := true) (g := 2) (want := true) (ag := true) (c := true) hf (by rfl) (by rfl) rfl (fun _ =>  Runs.does (R := fun vq wq => vq = (.bool (decide (((sbt (formS k) i : Nat) : Int) = (97 : Int)))) ∧ w8 = wq) (r_eq rfl rfl) ⟨rfl, rfl⟩) (fun h => by cases h) rfl ?_; clear hf fa; rintro fa _ _ ⟨rfl, rfl⟩ hf
        change Fr _ _ ((52, (.bool (decide (((sbt (formS k) i : Nat) : Int) = (97 : Int))))) :: _) at hf
        refine sqv hf (r_pick (b := true) rfl rfl rfl rfl) rfl rfl rfl ?_; clear hf fa; intro fa hf
        apply wpList_nil
        (try simp only [Exit.then, Exit.inBlock, ↓reduceIte, Nat.reduceEqDiff])
        refine hK13 _ _ ?_
        refine wp_cond_split (t := (decide (((sbt (formS k) i : Nat) : Int) = (97 : Int)))) (hf.ev rfl) (fun hqt53_2 => ?_) (fun hqt53_2 => ?_)
        · have hqt53_2b := hqt53_2
          try simp only [decide_eq_true_eq, Bool.and_eq_true, Bool.or_eq_true, Bool.not_eq_true', decide_eq_false_iff_not, ne_eq, Bool.not_eq_true] at hqt53_2
          refine wp_exit ?_
          (try simp only [Exit.then, Exit.inBlock, ↓reduceIte, Nat.reduceEqDiff])
          refine hK6 _ _ ?_
          refine wp_seq_k (fun K19 hK19 => ?_)
          refine wp_seq_k (fun K20 hK20 => ?_)
          have hX : parseP (l.size + 1) (bl (formS k)) ((bl l).drop (posB l 32)) st0 = some st := parse_na Hs (by omega) hpn (by omega) (by have h := hqt53_2; omega)
          obtain ⟨aN, cN, aS, cS, aA, cA, aD, cD, hk2, hrN, hrS, hrA, hrD⟩ := hst.ext hbS
          have hBf : OpB st := hInv.toB (by omega)
          by_cases hsp2 : rightP k st = true
          · have hsp2b : decide (rightP k st = true) = true := decide_eq_true hsp2
            skip
            refine wp_region_lit ?_
            refine sqv hf (r_loadA (cs := [(.int .i64 k), (.slice aN st.N.length cN), (.slice aS st.S.length cS), (.slice aA st.A.length cA), (.slice aD st.D.length cD)]) rfl Try.underlying45 rfl (by kernel_rfl) (cellsAt_blk hk2)) rfl rfl rfl ?_; clear hf fa; intro fa hf
            refine sqdt hf (d_callB (v := (.bool true)) (vs := [(.agg #[(.int .i64 k), (.slice aN st.N.length cN), (.slice aS st.S.length cS), (.slice aA st.A.length cA), (.slice aD st.D.length cD)])]) rfl Try.func19 (by kernel_rfl) (by kernel_rfl) (by have h := right_any k st aN aS aA aD cN cS cA cD w8 ⟨Row.rd (by intros; rfl) hrN, Row.rd (by intros; rfl) hrS, Row.rd (by intros; rfl) hrA, Row.rd (by intros; rfl) hrD⟩ hBf; rw [hsp2] at h; exact h)) rfl rfl rfl ?_; clear hf fa; rintro fa _ w11 ⟨rfl, he8⟩ hf
            replace hkb1 := blk_ext hkb1 he8
            replace hk2 := blk_ext hk2 he8
            replace hrN := Row.ext hrN he8
            replace hrS := Row.ext hrS he8
            replace hrA := Row.ext hrA he8
            replace hrD := Row.ext hrD he8
            replace hb := hb.trans (Below.mono he8 hb.size)
            refine sqv hf (Runs.veq (v' := (.bool false)) (r_not rfl) rfl) rfl rfl rfl ?_; clear hf fa; intro fa hf
            refine sqv hf (r_move rfl) rfl rfl rfl ?_; clear hf fa; intro fa hf
            refine sqgd (act := true) (g := 3) (want := false) (ag := true) (c := false) hf (by rfl) (by rfl) rfl (fun _ =>  Runs.does (R := fun vq wq => vq = (.agg #[(.int .i64 k), (.slice aN st.N.length cN), (.slice aS st.S.length cS), (.slice aA st.A.length cA), (.slice aD st.D.length cD)]) ∧ w11 = wq) (r_loadA (cs := [(.int .i64 k), (.slice aN st.N.length cN), (.slice aS st.S.length cS), (.slice aA st.A.length cA), (.slice aD st.D.length cD)]) rfl Try.underlying45 rfl (by kernel_rfl) (cellsAt_blk hk2)) ⟨rfl, rfl⟩) (fun h => by cases h) rfl ?_; clear hf fa; rintro fa _ _ ⟨rfl, rfl⟩ hf
            change Fr _ _ ((76, (.agg #[(.int .i64 k), (.slice aN st.N.length cN), (.slice aS st.S.length cS), (.slice aA st.A.length cA), (.slice aD st.D.length cD)])) :: _) at hf
            refine sqgd (act := true) (g := 3) (want := false) (ag := true) (c := false) hf (by rfl) (by rfl) rfl (fun _ =>  (d_callB (v := (.string (lineS k st))) (vs := [(.agg #[(.int .i64 k), (.slice aN st.N.length cN), (.slice aS st.S.length cS), (.slice aA st.A.length cA), (.slice aD st.D.length cD)])]) rfl Try.func14 (by kernel_rfl) (by kernel_rfl) (by have h := line_any k st aN aS aA aD cN cS cA cD w11 ⟨Row.rd (by intros; rfl) hrN, Row.rd (by intros; rfl) hrS, Row.rd (by intros; rfl) hrA, Row.rd (by intros; rfl) hrD⟩ hBf; rw [if_pos hsp2] at h; exact h)) ) (fun h => by cases h) rfl ?_; clear hf fa; rintro fa _ w12 ⟨rfl, he9⟩ hf
            replace hkb1 := blk_ext hkb1 he9
            replace hk2 := blk_ext hk2 he9
            replace hrN := Row.ext hrN he9
            replace hrS := Row.ext hrS he9
            replace hrA := Row.ext hrA he9
            replace hrD := Row.ext hrD he9
            replace hb := hb.trans (Below.mono he9 hb.size)
            change Fr _ _ ((77, (.string (lineS k st))) :: _) at hf
            refine sqgd (act := true) (g := 3) (want := false) (ag := true) (c := false) hf (by rfl) (by rfl) rfl (fun _ =>  Runs.does (R := fun vq wq => vq = (.string l) ∧ w12 = wq) (r_move rfl) ⟨rfl, rfl⟩) (fun h => by cases h) rfl ?_; clear hf fa; rintro fa _ _ ⟨rfl, rfl⟩ hf
            change Fr _ _ ((78, (.string l)) :: _) at hf
            refine sqgd (act := true) (g := 3) (want := false) (ag := true) (c := false) hf (by rfl) (by rfl) rfl (fun _ =>  Runs.does (R := fun vq wq => vq = (.bool (decide ((lineS k st) ≠ l))) ∧ w12 = wq) (r_sne rfl rfl) ⟨rfl, rfl⟩) (fun h => by cases h) rfl ?_; clear hf fa; rintro fa _ _ ⟨rfl, rfl⟩ hf
            change Fr _ _ ((79, (.bool (decide ((lineS k st) ≠ l)))) :: _) at hf
            refine sqv hf (r_pick (b := false) rfl rfl rfl rfl) rfl rfl rfl ?_; clear hf fa; intro fa hf
            apply wpList_nil
            (try simp only [Exit.then, Exit.inBlock, ↓reduceIte, Nat.reduceEqDiff])
            refine hK20 _ _ ?_
            refine wp_cond_split (t := (decide ((lineS k st) ≠ l))) (hf.ev rfl) (fun hqt80_1 => ?_) (fun hqt80_1 => ?_)
            · have hqt80_1b := hqt80_1
              try simp only [decide_eq_true_eq, Bool.and_eq_true, Bool.or_eq_true, Bool.not_eq_true', decide_eq_false_iff_not, ne_eq, Bool.not_eq_true] at hqt80_1
              refine wp_seq_k (fun K21 hK21 => ?_)
              refine wp_region_lit ?_
              refine sqv hf (r_build (vs := []) (cs := #[(.int .i64 (0 : Int)), (.slice none 0 0), (.slice none 0 0), (.slice none 0 0), (.slice none 0 0)]) rfl (fun _ => by kernel_rfl)) rfl rfl rfl ?_; clear hf fa; intro fa hf
              refine sqn hf (d_storeK (T := 45) (v := (.agg #[(.int .i64 (0 : Int)), (.slice none 0 0), (.slice none 0 0), (.slice none 0 0), (.slice none 0 0)])) (cs := #[(.int .i64 (0 : Int)), (.slice none 0 0), (.slice none 0 0), (.slice none 0 0), (.slice none 0 0)]) (cs' := #[(.int .i64 (0 : Int)), (.slice none 0 0), (.slice none 0 0), (.slice none 0 0), (.slice none 0 0)]) rfl rfl (by kernel_rfl) (by kernel_rfl) hkb1 (by kernel_rfl) (by kernel_rfl)) rfl rfl ?_; clear hf fa; rintro fa _ w13 ⟨hk5, hg3⟩ hf
              replace hk2 := blk_grown hk2 hg3 (by omega)
              replace hrN := Row.grown hrN hg3 (Row.ne_type hrN hkb1 rfl)
              replace hrS := Row.grown hrS hg3 (Row.ne_type hrS hkb1 rfl)
              replace hrA := Row.grown hrA hg3 (Row.ne_type hrA hkb1 rfl)
              replace hrD := Row.grown hrD hg3 (Row.ne_type hrD hkb1 rfl)
              replace hb := hb.trans (grown_below hg3 hb.size hBb1)
              refine sqv hf (r_assign rfl) rfl rfl rfl ?_; clear hf fa; intro fa hf
              apply wpList_nil
              (try simp only [Exit.then, Exit.inBlock, ↓reduceIte, Nat.reduceEqDiff])
              refine hK21 _ _ ?_
              refine wp_ret ?_
              (try simp only [Exit.then, Exit.inBlock])
              refine retCT hf rfl rfl hk5 Try.underlying45 rfl (by kernel_rfl) rfl ?_
              rw [opP_some hk hX, if_neg (fun h => hqt80_1 h.2)]; exact ⟨none, 0, none, 0, none, 0, none, 0, rfl, opF_nil _, hb⟩
            · have hqt80_1b := hqt80_1
              replace hqt80_1 := Bool.eq_false_iff.1 hqt80_1
              try simp only [ne_eq, decide_eq_true_eq, Bool.and_eq_true, Bool.or_eq_true, Bool.not_eq_true', decide_eq_false_iff_not] at hqt80_1
              refine wp_skip ?_
              (try simp only [Exit.then, Exit.inBlock, ↓reduceIte, Nat.reduceEqDiff])
              refine hK19 _ _ ?_
              refine wp_seq_k (fun K22 hK22 => ?_)
              refine wp_region_lit ?_
              refine sqv hf (r_loadA (cs := [(.int .i64 k), (.slice aN st.N.length cN), (.slice aS st.S.length cS), (.slice aA st.A.length cA), (.slice aD st.D.length cD)]) rfl Try.underlying45 rfl (by kernel_rfl) (cellsAt_blk hk2)) rfl rfl rfl ?_; clear hf fa; intro fa hf
              refine sqn hf (d_storeK (T := 45) (v := (.agg #[(.int .i64 k), (.slice aN st.N.length cN), (.slice aS st.S.length cS), (.slice aA st.A.length cA), (.slice aD st.D.length cD)])) (cs := #[(.int .i64 (0 : Int)), (.slice none 0 0), (.slice none 0 0), (.slice none 0 0), (.slice none 0 0)]) (cs' := #[(.int .i64 k), (.slice aN st.N.length cN), (.slice aS st.S.length cS), (.slice aA st.A.length cA), (.slice aD st.D.length cD)]) rfl rfl (by kernel_rfl) (by kernel_rfl) hkb1 (by kernel_rfl) (by kernel_rfl)) rfl rfl ?_; clear hf fa; rintro fa _ w14 ⟨hk6, hg4⟩ hf
              replace hk2 := blk_grown hk2 hg4 (by omega)
              replace hrN := Row.grown hrN hg4 (Row.ne_type hrN hkb1 rfl)
              replace hrS := Row.grown hrS hg4 (Row.ne_type hrS hkb1 rfl)
              replace hrA := Row.grown hrA hg4 (Row.ne_type hrA hkb1 rfl)
              replace hrD := Row.grown hrD hg4 (Row.ne_type hrD hkb1 rfl)
              replace hb := hb.trans (grown_below hg4 hb.size hBb1)
              refine sqv hf (r_assign rfl) rfl rfl rfl ?_; clear hf fa; intro fa hf
              apply wpList_nil
              (try simp only [Exit.then, Exit.inBlock, ↓reduceIte, Nat.reduceEqDiff])
              refine hK22 _ _ ?_
              refine wp_ret ?_
              (try simp only [Exit.then, Exit.inBlock])
              refine retCT hf rfl rfl hk6 Try.underlying45 rfl (by kernel_rfl) rfl ?_
              rw [opP_some hk hX, if_pos ⟨hsp2, Classical.byContradiction hqt80_1⟩]; exact ⟨aN, cN, aS, cS, aA, cA, aD, cD, rfl, ⟨Row.rd (by intros; rfl) hrN, Row.rd (by intros; rfl) hrS, Row.rd (by intros; rfl) hrA, Row.rd (by intros; rfl) hrD⟩, hb⟩
          · have hsp2b : decide (rightP k st = true) = false := decide_eq_false hsp2
            skip
            refine wp_region_lit ?_
            refine sqv hf (r_loadA (cs := [(.int .i64 k), (.slice aN st.N.length cN), (.slice aS st.S.length cS), (.slice aA st.A.length cA), (.slice aD st.D.length cD)]) rfl Try.underlying45 rfl (by kernel_rfl) (cellsAt_blk hk2)) rfl rfl rfl ?_; clear hf fa; intro fa hf
            refine sqdt hf (d_callB (v := (.bool false)) (vs := [(.agg #[(.int .i64 k), (.slice aN st.N.length cN), (.slice aS st.S.length cS), (.slice aA st.A.length cA), (.slice aD st.D.length cD)])]) rfl Try.func19 (by kernel_rfl) (by kernel_rfl) (by have h := right_any k st aN aS aA aD cN cS cA cD w8 ⟨Row.rd (by intros; rfl) hrN, Row.rd (by intros; rfl) hrS, Row.rd (by intros; rfl) hrA, Row.rd (by intros; rfl) hrD⟩ hBf; rw [Bool.eq_false_iff.2 hsp2] at h; exact h)) rfl rfl rfl ?_; clear hf fa; rintro fa _ w15 ⟨rfl, he10⟩ hf
            replace hkb1 := blk_ext hkb1 he10
            replace hk2 := blk_ext hk2 he10
            replace hrN := Row.ext hrN he10
            replace hrS := Row.ext hrS he10
            replace hrA := Row.ext hrA he10
            replace hrD := Row.ext hrD he10
            replace hb := hb.trans (Below.mono he10 hb.size)
            refine sqv hf (Runs.veq (v' := (.bool true)) (r_not rfl) rfl) rfl rfl rfl ?_; clear hf fa; intro fa hf
            refine sqv hf (r_move rfl) rfl rfl rfl ?_; clear hf fa; intro fa hf
            refine sqgF (act := false) (ag := true) (c := true) (v := .bool false) hf rfl rfl rfl (fun hact => by cases hact) rfl rfl ?_; clear hf fa; intro fa hf
            refine sqgF (act := false) (ag := true) (c := true) (v := .bool false) hf rfl rfl rfl (fun hact => by cases hact) rfl rfl ?_; clear hf fa; intro fa hf
            refine sqgF (act := false) (ag := true) (c := true) (v := .bool false) hf rfl rfl rfl (fun hact => by cases hact) rfl rfl ?_; clear hf fa; intro fa hf
            refine sqgF (act := false) (ag := true) (c := true) (v := .bool false) hf rfl rfl rfl (fun hact => by cases hact) rfl rfl ?_; clear hf fa; intro fa hf
            refine sqv hf (r_pick (b := true) rfl rfl rfl rfl) rfl rfl rfl ?_; clear hf fa; intro fa hf
            apply wpList_nil
            (try simp only [Exit.then, Exit.inBlock, ↓reduceIte, Nat.reduceEqDiff])
            refine hK20 _ _ ?_
            refine wp_cond_true (hf.ev rfl) ?_
            refine wp_seq_k (fun K23 hK23 => ?_)
            refine wp_region_lit ?_
            refine sqv hf (r_build (vs := []) (cs := #[(.int .i64 (0 : Int)), (.slice none 0 0), (.slice none 0 0), (.slice none 0 0), (.slice none 0 0)]) rfl (fun _ => by kernel_rfl)) rfl rfl rfl ?_; clear hf fa; intro fa hf
            refine sqn hf (d_storeK (T := 45) (v := (.agg #[(.int .i64 (0 : Int)), (.slice none 0 0), (.slice none 0 0), (.slice none 0 0), (.slice none 0 0)])) (cs := #[(.int .i64 (0 : Int)), (.slice none 0 0), (.slice none 0 0), (.slice none 0 0), (.slice none 0 0)]) (cs' := #[(.int .i64 (0 : Int)), (.slice none 0 0), (.slice none 0 0), (.slice none 0 0), (.slice none 0 0)]) rfl rfl (by kernel_rfl) (by kernel_rfl) hkb1 (by kernel_rfl) (by kernel_rfl)) rfl rfl ?_; clear hf fa; rintro fa _ w16 ⟨hk7, hg5⟩ hf
            replace hk2 := blk_grown hk2 hg5 (by omega)
            replace hrN := Row.grown hrN hg5 (Row.ne_type hrN hkb1 rfl)
            replace hrS := Row.grown hrS hg5 (Row.ne_type hrS hkb1 rfl)
            replace hrA := Row.grown hrA hg5 (Row.ne_type hrA hkb1 rfl)
            replace hrD := Row.grown hrD hg5 (Row.ne_type hrD hkb1 rfl)
            replace hb := hb.trans (grown_below hg5 hb.size hBb1)
            refine sqv hf (r_assign rfl) rfl rfl rfl ?_; clear hf fa; intro fa hf
            apply wpList_nil
            (try simp only [Exit.then, Exit.inBlock, ↓reduceIte, Nat.reduceEqDiff])
            refine hK23 _ _ ?_
            refine wp_ret ?_
            (try simp only [Exit.then, Exit.inBlock])
            refine retCT hf rfl rfl hk7 Try.underlying45 rfl (by kernel_rfl) rfl ?_
            rw [opP_some hk hX, if_neg (fun h => hsp2 h.1)]; exact ⟨none, 0, none, 0, none, 0, none, 0, rfl, opF_nil _, hb⟩
        · have hqt53_2b := hqt53_2
          replace hqt53_2 := Bool.eq_false_iff.1 hqt53_2
          try simp only [ne_eq, decide_eq_true_eq, Bool.and_eq_true, Bool.or_eq_true, Bool.not_eq_true', decide_eq_false_iff_not] at hqt53_2
          refine wp_skip ?_
          (try simp only [Exit.then, Exit.inBlock, ↓reduceIte, Nat.reduceEqDiff])
          refine hK12 _ _ ?_
          refine wp_seq_k (fun K24 hK24 => ?_)
          refine wp_seq_k (fun K25 hK25 => ?_)
          skip
          refine wp_region_lit ?_
          refine sqv hf (r_move rfl) rfl rfl rfl ?_; clear hf fa; intro fa hf
          refine sqv hf (Runs.veq (r_not rfl) (congrArg Value.bool (show _ = true from (by rw [Bool.eq_false_iff.2 hsp1]; rfl)))) rfl rfl rfl ?_; clear hf fa; intro fa hf
          refine sqv hf (r_move rfl) rfl rfl rfl ?_; clear hf fa; intro fa hf
          refine sqgF (act := false) (ag := true) (c := true) (v := .bool false) hf rfl rfl rfl (fun hact => by cases hact) rfl rfl ?_; clear hf fa; intro fa hf
          refine sqgF (act := false) (ag := true) (c := true) (v := .bool false) hf rfl rfl rfl (fun hact => by cases hact) rfl rfl ?_; clear hf fa; intro fa hf
          refine sqgF (act := false) (ag := true) (c := true) (v := .bool false) hf rfl rfl rfl (fun hact => by cases hact) rfl rfl ?_; clear hf fa; intro fa hf
          refine sqgF (act := false) (ag := true) (c := true) (v := .bool false) hf rfl rfl rfl (fun hact => by cases hact) rfl rfl ?_; clear hf fa; intro fa hf
          refine sqgF (act := false) (ag := true) (c := true) (v := .bool false) hf rfl rfl rfl (fun hact => by cases hact) rfl rfl ?_; clear hf fa; intro fa hf
          refine sqgF (act := false) (ag := true) (c := true) (v := .bool false) hf rfl rfl rfl (fun hact => by cases hact) rfl rfl ?_; clear hf fa; intro fa hf
          refine sqv hf (r_pick (b := true) rfl rfl rfl rfl) rfl rfl rfl ?_; clear hf fa; intro fa hf
          apply wpList_nil
          (try simp only [Exit.then, Exit.inBlock, ↓reduceIte, Nat.reduceEqDiff])
          refine hK25 _ _ ?_
          refine wp_cond_true (hf.ev rfl) ?_
          refine wp_seq_k (fun K26 hK26 => ?_)
          skip
          refine wp_region_lit ?_
          refine sqv hf (r_build (vs := []) (cs := #[(.int .i64 (0 : Int)), (.slice none 0 0), (.slice none 0 0), (.slice none 0 0), (.slice none 0 0)]) rfl (fun _ => by kernel_rfl)) rfl rfl rfl ?_; clear hf fa; intro fa hf
          refine sqn hf (d_storeK (T := 45) (v := (.agg #[(.int .i64 (0 : Int)), (.slice none 0 0), (.slice none 0 0), (.slice none 0 0), (.slice none 0 0)])) (cs := #[(.int .i64 (0 : Int)), (.slice none 0 0), (.slice none 0 0), (.slice none 0 0), (.slice none 0 0)]) (cs' := #[(.int .i64 (0 : Int)), (.slice none 0 0), (.slice none 0 0), (.slice none 0 0), (.slice none 0 0)]) rfl rfl (by kernel_rfl) (by kernel_rfl) hkb1 (by kernel_rfl) (by kernel_rfl)) rfl rfl ?_; clear hf fa; rintro fa _ w17 ⟨hk8, hg6⟩ hf
          replace hb := hb.trans (grown_below hg6 hb.size hBb1)
          refine sqv hf (r_assign rfl) rfl rfl rfl ?_; clear hf fa; intro fa hf
          apply wpList_nil
          (try simp only [Exit.then, Exit.inBlock, ↓reduceIte, Nat.reduceEqDiff])
          refine hK26 _ _ ?_
          refine wp_ret ?_
          (try simp only [Exit.then, Exit.inBlock])
          refine retCT hf rfl rfl hk8 Try.underlying45 rfl (by kernel_rfl) rfl ?_
          rw [opP_none hk (parse_no Hs (by omega) hpn (by omega) (by have h := hqt53_2; omega))]; exact ⟨none, 0, none, 0, none, 0, none, 0, rfl, opF_nil _, hb⟩
    · have hqt37_1b := hqt37_1
      replace hqt37_1 := Bool.eq_false_iff.1 hqt37_1
      try simp only [ne_eq, decide_eq_true_eq, Bool.and_eq_true, Bool.or_eq_true, Bool.not_eq_true', decide_eq_false_iff_not] at hqt37_1
      refine wp_exit ?_
      (try simp only [Exit.then, Exit.inBlock, ↓reduceIte, Nat.reduceEqDiff])
      refine hK6 _ _ ?_
      refine wp_seq_k (fun K27 hK27 => ?_)
      refine wp_seq_k (fun K28 hK28 => ?_)
      have hX : parseP (l.size + 1) (bl (formS k)) ((bl l).drop (posB l 32)) st0 = some st := parse_end Hs (by omega) (by omega)
      obtain ⟨aN, cN, aS, cS, aA, cA, aD, cD, hk2, hrN, hrS, hrA, hrD⟩ := hst.ext hbS
      have hBf : OpB st := hInv.toB (by omega)
      by_cases hsp3 : rightP k st = true
      · have hsp3b : decide (rightP k st = true) = true := decide_eq_true hsp3
        skip
        refine wp_region_lit ?_
        refine sqv hf (r_loadA (cs := [(.int .i64 k), (.slice aN st.N.length cN), (.slice aS st.S.length cS), (.slice aA st.A.length cA), (.slice aD st.D.length cD)]) rfl Try.underlying45 rfl (by kernel_rfl) (cellsAt_blk hk2)) rfl rfl rfl ?_; clear hf fa; intro fa hf
        refine sqdt hf (d_callB (v := (.bool true)) (vs := [(.agg #[(.int .i64 k), (.slice aN st.N.length cN), (.slice aS st.S.length cS), (.slice aA st.A.length cA), (.slice aD st.D.length cD)])]) rfl Try.func19 (by kernel_rfl) (by kernel_rfl) (by have h := right_any k st aN aS aA aD cN cS cA cD w7 ⟨Row.rd (by intros; rfl) hrN, Row.rd (by intros; rfl) hrS, Row.rd (by intros; rfl) hrA, Row.rd (by intros; rfl) hrD⟩ hBf; rw [hsp3] at h; exact h)) rfl rfl rfl ?_; clear hf fa; rintro fa _ w18 ⟨rfl, he11⟩ hf
        replace hkb1 := blk_ext hkb1 he11
        replace hk2 := blk_ext hk2 he11
        replace hrN := Row.ext hrN he11
        replace hrS := Row.ext hrS he11
        replace hrA := Row.ext hrA he11
        replace hrD := Row.ext hrD he11
        replace hb := hb.trans (Below.mono he11 hb.size)
        refine sqv hf (Runs.veq (v' := (.bool false)) (r_not rfl) rfl) rfl rfl rfl ?_; clear hf fa; intro fa hf
        refine sqv hf (r_move rfl) rfl rfl rfl ?_; clear hf fa; intro fa hf
        refine sqgd (act := true) (g := 3) (want := false) (ag := true) (c := false) hf (by rfl) (by rfl) rfl (fun _ =>  Runs.does (R := fun vq wq => vq = (.agg #[(.int .i64 k), (.slice aN st.N.length cN), (.slice aS st.S.length cS), (.slice aA st.A.length cA), (.slice aD st.D.length cD)]) ∧ w18 = wq) (r_loadA (cs := [(.int .i64 k), (.slice aN st.N.length cN), (.slice aS st.S.length cS), (.slice aA st.A.length cA), (.slice aD st.D.length cD)]) rfl Try.underlying45 rfl (by kernel_rfl) (cellsAt_blk hk2)) ⟨rfl, rfl⟩) (fun h => by cases h) rfl ?_; clear hf fa; rintro fa _ _ ⟨rfl, rfl⟩ hf
        change Fr _ _ ((76, (.agg #[(.int .i64 k), (.slice aN st.N.length cN), (.slice aS st.S.length cS), (.slice aA st.A.length cA), (.slice aD st.D.length cD)])) :: _) at hf
        refine sqgd (act := true) (g := 3) (want := false) (ag := true) (c := false) hf (by rfl) (by rfl) rfl (fun _ =>  (d_callB (v := (.string (lineS k st))) (vs := [(.agg #[(.int .i64 k), (.slice aN st.N.length cN), (.slice aS st.S.length cS), (.slice aA st.A.length cA), (.slice aD st.D.length cD)])]) rfl Try.func14 (by kernel_rfl) (by kernel_rfl) (by have h := line_any k st aN aS aA aD cN cS cA cD w18 ⟨Row.rd (by intros; rfl) hrN, Row.rd (by intros; rfl) hrS, Row.rd (by intros; rfl) hrA, Row.rd (by intros; rfl) hrD⟩ hBf; rw [if_pos hsp3] at h; exact h)) ) (fun h => by cases h) rfl ?_; clear hf fa; rintro fa _ w19 ⟨rfl, he12⟩ hf
        replace hkb1 := blk_ext hkb1 he12
        replace hk2 := blk_ext hk2 he12
        replace hrN := Row.ext hrN he12
        replace hrS := Row.ext hrS he12
        replace hrA := Row.ext hrA he12
        replace hrD := Row.ext hrD he12
        replace hb := hb.trans (Below.mono he12 hb.size)
        change Fr _ _ ((77, (.string (lineS k st))) :: _) at hf
        refine sqgd (act := true) (g := 3) (want := false) (ag := true) (c := false) hf (by rfl) (by rfl) rfl (fun _ =>  Runs.does (R := fun vq wq => vq = (.string l) ∧ w19 = wq) (r_move rfl) ⟨rfl, rfl⟩) (fun h => by cases h) rfl ?_; clear hf fa; rintro fa _ _ ⟨rfl, rfl⟩ hf
        change Fr _ _ ((78, (.string l)) :: _) at hf
        refine sqgd (act := true) (g := 3) (want := false) (ag := true) (c := false) hf (by rfl) (by rfl) rfl (fun _ =>  Runs.does (R := fun vq wq => vq = (.bool (decide ((lineS k st) ≠ l))) ∧ w19 = wq) (r_sne rfl rfl) ⟨rfl, rfl⟩) (fun h => by cases h) rfl ?_; clear hf fa; rintro fa _ _ ⟨rfl, rfl⟩ hf
        change Fr _ _ ((79, (.bool (decide ((lineS k st) ≠ l)))) :: _) at hf
        refine sqv hf (r_pick (b := false) rfl rfl rfl rfl) rfl rfl rfl ?_; clear hf fa; intro fa hf
        apply wpList_nil
        (try simp only [Exit.then, Exit.inBlock, ↓reduceIte, Nat.reduceEqDiff])
        refine hK28 _ _ ?_
        refine wp_cond_split (t := (decide ((lineS k st) ≠ l))) (hf.ev rfl) (fun hqt80_3 => ?_) (fun hqt80_3 => ?_)
        · have hqt80_3b := hqt80_3
          try simp only [decide_eq_true_eq, Bool.and_eq_true, Bool.or_eq_true, Bool.not_eq_true', decide_eq_false_iff_not, ne_eq, Bool.not_eq_true] at hqt80_3
          refine wp_seq_k (fun K29 hK29 => ?_)
          refine wp_region_lit ?_
          refine sqv hf (r_build (vs := []) (cs := #[(.int .i64 (0 : Int)), (.slice none 0 0), (.slice none 0 0), (.slice none 0 0), (.slice none 0 0)]) rfl (fun _ => by kernel_rfl)) rfl rfl rfl ?_; clear hf fa; intro fa hf
          refine sqn hf (d_storeK (T := 45) (v := (.agg #[(.int .i64 (0 : Int)), (.slice none 0 0), (.slice none 0 0), (.slice none 0 0), (.slice none 0 0)])) (cs := #[(.int .i64 (0 : Int)), (.slice none 0 0), (.slice none 0 0), (.slice none 0 0), (.slice none 0 0)]) (cs' := #[(.int .i64 (0 : Int)), (.slice none 0 0), (.slice none 0 0), (.slice none 0 0), (.slice none 0 0)]) rfl rfl (by kernel_rfl) (by kernel_rfl) hkb1 (by kernel_rfl) (by kernel_rfl)) rfl rfl ?_; clear hf fa; rintro fa _ w20 ⟨hk9, hg7⟩ hf
          replace hk2 := blk_grown hk2 hg7 (by omega)
          replace hrN := Row.grown hrN hg7 (Row.ne_type hrN hkb1 rfl)
          replace hrS := Row.grown hrS hg7 (Row.ne_type hrS hkb1 rfl)
          replace hrA := Row.grown hrA hg7 (Row.ne_type hrA hkb1 rfl)
          replace hrD := Row.grown hrD hg7 (Row.ne_type hrD hkb1 rfl)
          replace hb := hb.trans (grown_below hg7 hb.size hBb1)
          refine sqv hf (r_assign rfl) rfl rfl rfl ?_; clear hf fa; intro fa hf
          apply wpList_nil
          (try simp only [Exit.then, Exit.inBlock, ↓reduceIte, Nat.reduceEqDiff])
          refine hK29 _ _ ?_
          refine wp_ret ?_
          (try simp only [Exit.then, Exit.inBlock])
          refine retCT hf rfl rfl hk9 Try.underlying45 rfl (by kernel_rfl) rfl ?_
          rw [opP_some hk hX, if_neg (fun h => hqt80_3 h.2)]; exact ⟨none, 0, none, 0, none, 0, none, 0, rfl, opF_nil _, hb⟩
        · have hqt80_3b := hqt80_3
          replace hqt80_3 := Bool.eq_false_iff.1 hqt80_3
          try simp only [ne_eq, decide_eq_true_eq, Bool.and_eq_true, Bool.or_eq_true, Bool.not_eq_true', decide_eq_false_iff_not] at hqt80_3
          refine wp_skip ?_
          (try simp only [Exit.then, Exit.inBlock, ↓reduceIte, Nat.reduceEqDiff])
          refine hK27 _ _ ?_
          refine wp_seq_k (fun K30 hK30 => ?_)
          refine wp_region_lit ?_
          refine sqv hf (r_loadA (cs := [(.int .i64 k), (.slice aN st.N.length cN), (.slice aS st.S.length cS), (.slice aA st.A.length cA), (.slice aD st.D.length cD)]) rfl Try.underlying45 rfl (by kernel_rfl) (cellsAt_blk hk2)) rfl rfl rfl ?_; clear hf fa; intro fa hf
          refine sqn hf (d_storeK (T := 45) (v := (.agg #[(.int .i64 k), (.slice aN st.N.length cN), (.slice aS st.S.length cS), (.slice aA st.A.length cA), (.slice aD st.D.length cD)])) (cs := #[(.int .i64 (0 : Int)), (.slice none 0 0), (.slice none 0 0), (.slice none 0 0), (.slice none 0 0)]) (cs' := #[(.int .i64 k), (.slice aN st.N.length cN), (.slice aS st.S.length cS), (.slice aA st.A.length cA), (.slice aD st.D.length cD)]) rfl rfl (by kernel_rfl) (by kernel_rfl) hkb1 (by kernel_rfl) (by kernel_rfl)) rfl rfl ?_; clear hf fa; rintro fa _ w21 ⟨hk10, hg8⟩ hf
          replace hk2 := blk_grown hk2 hg8 (by omega)
          replace hrN := Row.grown hrN hg8 (Row.ne_type hrN hkb1 rfl)
          replace hrS := Row.grown hrS hg8 (Row.ne_type hrS hkb1 rfl)
          replace hrA := Row.grown hrA hg8 (Row.ne_type hrA hkb1 rfl)
          replace hrD := Row.grown hrD hg8 (Row.ne_type hrD hkb1 rfl)
          replace hb := hb.trans (grown_below hg8 hb.size hBb1)
          refine sqv hf (r_assign rfl) rfl rfl rfl ?_; clear hf fa; intro fa hf
          apply wpList_nil
          (try simp only [Exit.then, Exit.inBlock, ↓reduceIte, Nat.reduceEqDiff])
          refine hK30 _ _ ?_
          refine wp_ret ?_
          (try simp only [Exit.then, Exit.inBlock])
          refine retCT hf rfl rfl hk10 Try.underlying45 rfl (by kernel_rfl) rfl ?_
          rw [opP_some hk hX, if_pos ⟨hsp3, Classical.byContradiction hqt80_3⟩]; exact ⟨aN, cN, aS, cS, aA, cA, aD, cD, rfl, ⟨Row.rd (by intros; rfl) hrN, Row.rd (by intros; rfl) hrS, Row.rd (by intros; rfl) hrA, Row.rd (by intros; rfl) hrD⟩, hb⟩
      · have hsp3b : decide (rightP k st = true) = false := decide_eq_false hsp3
        skip
        refine wp_region_lit ?_
        refine sqv hf (r_loadA (cs := [(.int .i64 k), (.slice aN st.N.length cN), (.slice aS st.S.length cS), (.slice aA st.A.length cA), (.slice aD st.D.length cD)]) rfl Try.underlying45 rfl (by kernel_rfl) (cellsAt_blk hk2)) rfl rfl rfl ?_; clear hf fa; intro fa hf
        refine sqdt hf (d_callB (v := (.bool false)) (vs := [(.agg #[(.int .i64 k), (.slice aN st.N.length cN), (.slice aS st.S.length cS), (.slice aA st.A.length cA), (.slice aD st.D.length cD)])]) rfl Try.func19 (by kernel_rfl) (by kernel_rfl) (by have h := right_any k st aN aS aA aD cN cS cA cD w7 ⟨Row.rd (by intros; rfl) hrN, Row.rd (by intros; rfl) hrS, Row.rd (by intros; rfl) hrA, Row.rd (by intros; rfl) hrD⟩ hBf; rw [Bool.eq_false_iff.2 hsp3] at h; exact h)) rfl rfl rfl ?_; clear hf fa; rintro fa _ w22 ⟨rfl, he13⟩ hf
        replace hkb1 := blk_ext hkb1 he13
        replace hk2 := blk_ext hk2 he13
        replace hrN := Row.ext hrN he13
        replace hrS := Row.ext hrS he13
        replace hrA := Row.ext hrA he13
        replace hrD := Row.ext hrD he13
        replace hb := hb.trans (Below.mono he13 hb.size)
        refine sqv hf (Runs.veq (v' := (.bool true)) (r_not rfl) rfl) rfl rfl rfl ?_; clear hf fa; intro fa hf
        refine sqv hf (r_move rfl) rfl rfl rfl ?_; clear hf fa; intro fa hf
        refine sqgF (act := false) (ag := true) (c := true) (v := .bool false) hf rfl rfl rfl (fun hact => by cases hact) rfl rfl ?_; clear hf fa; intro fa hf
        refine sqgF (act := false) (ag := true) (c := true) (v := .bool false) hf rfl rfl rfl (fun hact => by cases hact) rfl rfl ?_; clear hf fa; intro fa hf
        refine sqgF (act := false) (ag := true) (c := true) (v := .bool false) hf rfl rfl rfl (fun hact => by cases hact) rfl rfl ?_; clear hf fa; intro fa hf
        refine sqgF (act := false) (ag := true) (c := true) (v := .bool false) hf rfl rfl rfl (fun hact => by cases hact) rfl rfl ?_; clear hf fa; intro fa hf
        refine sqv hf (r_pick (b := true) rfl rfl rfl rfl) rfl rfl rfl ?_; clear hf fa; intro fa hf
        apply wpList_nil
        (try simp only [Exit.then, Exit.inBlock, ↓reduceIte, Nat.reduceEqDiff])
        refine hK28 _ _ ?_
        refine wp_cond_true (hf.ev rfl) ?_
        refine wp_seq_k (fun K31 hK31 => ?_)
        refine wp_region_lit ?_
        refine sqv hf (r_build (vs := []) (cs := #[(.int .i64 (0 : Int)), (.slice none 0 0), (.slice none 0 0), (.slice none 0 0), (.slice none 0 0)]) rfl (fun _ => by kernel_rfl)) rfl rfl rfl ?_; clear hf fa; intro fa hf
        refine sqn hf (d_storeK (T := 45) (v := (.agg #[(.int .i64 (0 : Int)), (.slice none 0 0), (.slice none 0 0), (.slice none 0 0), (.slice none 0 0)])) (cs := #[(.int .i64 (0 : Int)), (.slice none 0 0), (.slice none 0 0), (.slice none 0 0), (.slice none 0 0)]) (cs' := #[(.int .i64 (0 : Int)), (.slice none 0 0), (.slice none 0 0), (.slice none 0 0), (.slice none 0 0)]) rfl rfl (by kernel_rfl) (by kernel_rfl) hkb1 (by kernel_rfl) (by kernel_rfl)) rfl rfl ?_; clear hf fa; rintro fa _ w23 ⟨hk11, hg9⟩ hf
        replace hk2 := blk_grown hk2 hg9 (by omega)
        replace hrN := Row.grown hrN hg9 (Row.ne_type hrN hkb1 rfl)
        replace hrS := Row.grown hrS hg9 (Row.ne_type hrS hkb1 rfl)
        replace hrA := Row.grown hrA hg9 (Row.ne_type hrA hkb1 rfl)
        replace hrD := Row.grown hrD hg9 (Row.ne_type hrD hkb1 rfl)
        replace hb := hb.trans (grown_below hg9 hb.size hBb1)
        refine sqv hf (r_assign rfl) rfl rfl rfl ?_; clear hf fa; intro fa hf
        apply wpList_nil
        (try simp only [Exit.then, Exit.inBlock, ↓reduceIte, Nat.reduceEqDiff])
        refine hK31 _ _ ?_
        refine wp_ret ?_
        (try simp only [Exit.then, Exit.inBlock])
        refine retCT hf rfl rfl hk11 Try.underlying45 rfl (by kernel_rfl) rfl ?_
        rw [opP_some hk hX, if_neg (fun h => hsp3 h.1)]; exact ⟨none, 0, none, 0, none, 0, none, 0, rfl, opF_nil _, hb⟩
end Go.Proofs.Ytpalmpfkliepfaa

namespace Go.Proofs.Ytpalmpfkliepfaa
open Go.RowKit Ut
set_option linter.unusedVariables false
set_option linter.unusedSimpArgs false
end Go.Proofs.Ytpalmpfkliepfaa

namespace Go.Proofs.Ytpalmpfkliepfaa
open Go.RowKit Ut
set_option linter.unusedVariables false
set_option linter.unusedSimpArgs false
section
variable {X : Option PSt} {F y : ByteArray} {ps : List (List Nat)} {i m : Nat} {st : PSt}
end
theorem rreadhex_y (p : ByteArray) (w : World) (hp : p.size ≤ 30000) : Calls Try.prog 30 #[.string p] w fun e w' => ∃ v, e = .returned v ∧ ((∃ a c, v = .tuple #[.slice a (hexR (bl p)).1.length c, .bool (hexR (bl p)).2] ∧ Row 1 (vInt .u8) 5 w.heap.size w' (.slice a (hexR (bl p)).1.length c) (nI (hexR (bl p)).1)) ∧ Below w.heap.size w w') := by
  refine (rreadhex_any p w (by omega)).mono ?_
  rintro e w' ⟨v, rfl, hr, hb⟩
  obtain ⟨a, c, rfl, _, _⟩ := Row.slice hr
  rw [nI_length] at hr
  refine ⟨_, rfl, ⟨a, c, ?_, hr⟩, hb⟩
  rw [nI_length]
end Go.Proofs.Ytpalmpfkliepfaa

namespace Go.Proofs.Ytpalmpfkliepfaa
open Go.RowKit
set_option linter.unusedVariables false
set_option linter.unusedSimpArgs false
end Go.Proofs.Ytpalmpfkliepfaa

namespace Go.Proofs.Ytpalmpfkliepfaa
open Go.RowKit Ut
set_option linter.unusedVariables false
set_option linter.unusedSimpArgs false
def stX : PSt := ⟨[3], [⟨#[102]⟩], [(127, 4294967295, ()), (126, 7, ())], []⟩
theorem stX_B : OpB stX := ⟨by intro x hx; simp only [stX, List.mem_singleton] at hx; subst hx; unfold inI; omega, by decide, by intro x hx; simp only [stX, List.mem_cons, List.not_mem_nil, or_false] at hx; rcases hx with rfl | rfl <;> exact ⟨by decide, by decide⟩, by decide, by decide, by decide, by decide, by decide⟩
theorem dg3 : digB 3 = [51] := by unfold digB; rw [if_neg (by decide), show (3 : Int).natAbs = 3 from rfl, natB_lt (by decide)]
theorem dg7 : digB 7 = [55] := by unfold digB; rw [if_neg (by decide), show (7 : Int).natAbs = 7 from rfl, natB_lt (by decide)]
theorem dgm : digB (-1) = [45, 49] := by unfold digB; rw [if_pos (by decide), show (-1 : Int).natAbs = 1 from rfl, natB_lt (by decide)]
theorem stX_line : lineS 5 stX = ⟨#[99, 97, 108, 108, 32, 51, 32, 34, 102, 34, 32, 105, 51, 50, 58, 45, 49, 32, 105, 54, 52, 58, 55]⟩ := by
  have h1 : bl (valS (127, 4294967295, ())) = [105, 51, 50, 58, 45, 49] := by rw [valS_bl (.inl rfl), show numV (127, 4294967295, ()) = -1 by decide, dgm]; rfl
  have h2 : bl (valS (126, 7, ())) = [105, 54, 52, 58, 55] := by rw [valS_bl (.inr rfl), show numV (126, 7, ()) = 7 by decide, dg7]; rfl
  have h3 : argsP (bl (formS 5)) stX.N stX.S stX.A stX.D = [digB 3, showL (bl ⟨#[102]⟩), bl (valS (127, 4294967295, ())), bl (valS (126, 7, ()))] := by
    rw [show bl (formS 5) = [110, 115, 97] from by decide]
    simp [argsP, stX]
  unfold lineS lineL
  rw [h3, h1, h2, dg3, show bl (wordS 5) = [99, 97, 108, 108] from by decide, show showL (bl ⟨#[102]⟩) = [34, 102, 34] from by decide]
  rfl
theorem stX_right : rightP 5 stX = true := by decide +kernel
theorem stX_op : opP ⟨#[99, 97, 108, 108, 32, 51, 32, 34, 102, 34, 32, 105, 51, 50, 58, 45, 49, 32, 105, 54, 52, 58, 55]⟩ = some (5, stX) := by rw [← stX_line]; exact opP_line stX_B stX_right
theorem parse_y (l : ByteArray) (w : World) (hl : l.size ≤ 20000) : Calls Try.prog 21 #[.string l] w fun e w' => ∃ v, e = .returned v ∧ ((∃ (aN : Option Addr) (cN : Nat) (aS : Option Addr) (cS : Nat) (aA : Option Addr) (cA : Nat) (aD : Option Addr) (cD : Nat), v = .tuple #[(.agg #[(.int .i64 ((opK (opP l)))), (.slice aN ((opS (opP l)).N.length) cN), (.slice aS ((opS (opP l)).S.length) cS), (.slice aA ((opS (opP l)).A.length) cA), (.slice aD ((opS (opP l)).D.length) cD)]), .int .i64 (if (opP l).isSome = true then 0 else 49)] ∧ OpF w' (opS (opP l)) aN aS aA aD) ∧ Below w.heap.size w w') := by
  refine (parse_any l w hl).mono ?_
  rintro e w' ⟨aN, cN, aS, cS, aA, cA, aD, cD, rfl, h1, h2⟩
  exact ⟨_, rfl, ⟨aN, cN, aS, cS, aA, cA, aD, cD, rfl, h1⟩, h2⟩
theorem parse_lit (w : World) : Calls Try.prog 21 #[.string ⟨#[99, 97, 108, 108, 32, 51, 32, 34, 102, 34, 32, 105, 51, 50, 58, 45, 49, 32, 105, 54, 52, 58, 55]⟩] w fun e w' => ∃ v, e = .returned v ∧ ((∃ (aN : Option Addr) (cN : Nat) (aS : Option Addr) (cS : Nat) (aA : Option Addr) (cA : Nat) (aD : Option Addr) (cD : Nat), v = .tuple #[(.agg #[(.int .i64 5), (.slice aN stX.N.length cN), (.slice aS stX.S.length cS), (.slice aA stX.A.length cA), (.slice aD stX.D.length cD)]), .int .i64 0] ∧ OpF w' stX aN aS aA aD) ∧ Below w.heap.size w w') := by
  have h := parse_y ⟨#[99, 97, 108, 108, 32, 51, 32, 34, 102, 34, 32, 105, 51, 50, 58, 45, 49, 32, 105, 54, 52, 58, 55]⟩ w (by decide)
  rw [stX_op] at h
  exact h

set_option maxHeartbeats 1000000 in
set_option maxRecDepth 100000 in
theorem awake44_any (w : World) : Calls Try.prog 12 #[] w fun e w' => e = .returned (.bool true) ∧ Below w.heap.size w w' := by
  refine sx_enter (L := []) Try.func12 rfl rfl rfl rfl (fun fa hf => ?_)
  have hb : Below w.heap.size w w := Below.refl _ _
  refine wp_seq_k (fun K1 hK1 => ?_)
  refine wp_region_lit ?_
  refine sqv hf (r_assign rfl) rfl rfl rfl ?_; clear hf fa; intro fa hf
  apply wpList_nil
  (try simp only [Exit.then, Exit.inBlock, ↓reduceIte, Nat.reduceEqDiff])
  refine hK1 _ _ ?_
  refine wp_seq_k (fun K2 hK2 => ?_)
  refine wp_region_lit ?_
  refine sqdt hf (d_callX (vs := [(.string ⟨#[99, 97, 108, 108, 32, 51, 32, 34, 102, 34, 32, 105, 51, 50, 58, 45, 49, 32, 105, 54, 52, 58, 55]⟩)]) rfl Try.func21 (by kernel_rfl) (by kernel_rfl) (parse_lit w)) rfl rfl rfl ?_; clear hf fa; rintro fa _ w1 ⟨⟨aN, cN, aS, cS, aA, cA, aD, cD, rfl, hF⟩, he1⟩ hf
  replace hb := hb.trans (Below.mono he1 hb.size)
  have hbF : Below w1.heap.size w1 w1 := Below.refl _ _
  refine sqv hf (r_move rfl) rfl rfl rfl ?_; clear hf fa; intro fa hf
  refine sqv hf (r_extract rfl (i := 0) rfl) rfl rfl rfl ?_; clear hf fa; intro fa hf
  refine sqv hf (r_extract rfl (i := 1) rfl) rfl rfl rfl ?_; clear hf fa; intro fa hf
  refine sqdt hf (d_alloc (z := (.agg #[(.int .i64 (0 : Int)), (.slice none 0 0), (.slice none 0 0), (.slice none 0 0), (.slice none 0 0)])) (cs := #[(.int .i64 (0 : Int)), (.slice none 0 0), (.slice none 0 0), (.slice none 0 0), (.slice none 0 0)]) (by kernel_rfl) rfl) rfl rfl rfl ?_; clear hf fa; rintro fa _ w2 ⟨b1, rfl, hle1, hk1, he2⟩ hf
  have hBb1 : w.heap.size ≤ b1 := Nat.le_trans hb.size hle1
  have hUhbFb1 := Nat.le_trans hbF.size hle1
  replace hbF := hbF.trans (Below.mono he2 hbF.size)
  replace hb := hb.trans (Below.mono he2 hb.size)
  refine sqn hf (d_storeK (T := 45) (v := (.agg #[(.int .i64 (5 : Int)), (.slice aN 1 cN), (.slice aS 1 cS), (.slice aA 2 cA), (.slice aD 0 cD)])) (cs := #[(.int .i64 (0 : Int)), (.slice none 0 0), (.slice none 0 0), (.slice none 0 0), (.slice none 0 0)]) (cs' := #[(.int .i64 (5 : Int)), (.slice aN 1 cN), (.slice aS 1 cS), (.slice aA 2 cA), (.slice aD 0 cD)]) rfl rfl (by kernel_rfl) (by kernel_rfl) hk1 (by kernel_rfl) (by kernel_rfl)) rfl rfl ?_; clear hf fa; rintro fa _ w3 ⟨hk2, hg1⟩ hf
  replace hbF := hbF.trans (grown_below hg1 hbF.size (by omega))
  replace hb := hb.trans (grown_below hg1 hb.size hBb1)
  refine sqv hf (r_assign rfl) rfl rfl rfl ?_; clear hf fa; intro fa hf
  apply wpList_nil
  (try simp only [Exit.then, Exit.inBlock, ↓reduceIte, Nat.reduceEqDiff])
  refine hK2 _ _ ?_
  refine wp_seq_k (fun K3 hK3 => ?_)
  obtain ⟨ab, aoff, rfl, hlA, helA⟩ := RdS.at (hF.ext hbF).2.2.1 (show stX.A[0]? = some ((127, 4294967295, ()) : MVal) from rfl)
  skip
  refine wp_region_lit ?_
  refine sqv hf (r_move rfl) rfl rfl rfl ?_; clear hf fa; intro fa hf
  refine sqv hf (Runs.veq (r_eq rfl rfl) (congrArg Value.bool (show _ = true from by decide))) rfl rfl rfl ?_; clear hf fa; intro fa hf
  refine sqv hf (r_move rfl) rfl rfl rfl ?_; clear hf fa; intro fa hf
  refine sqgd (act := true) (g := 2) (want := true) (ag := true) (c := true) hf (by rfl) (by rfl) rfl (fun _ =>  Runs.does (R := fun vq wq => vq = (.pointer (some ⟨b1, 0, none⟩)) ∧ w3 = wq) (r_fa rfl Try.underlying45 (f := 0) (q := 0) rfl (by kernel_rfl) rfl) ⟨rfl, rfl⟩) (fun h => by cases h) rfl ?_; clear hf fa; rintro fa _ _ ⟨rfl, rfl⟩ hf
  change Fr _ _ ((10, (.pointer (some ⟨b1, 0, none⟩))) :: _) at hf
  refine sqgd (act := true) (g := 2) (want := true) (ag := true) (c := true) hf (by rfl) (by rfl) rfl (fun _ =>  Runs.does (R := fun vq wq => vq = (.int .i64 (5 : Int)) ∧ w3 = wq) (r_load (v := (.int .i64 (5 : Int))) rfl Try.underlying3 rfl (cell_blk hk2 rfl)) ⟨rfl, rfl⟩) (fun h => by cases h) rfl ?_; clear hf fa; rintro fa _ _ ⟨rfl, rfl⟩ hf
  change Fr _ _ ((11, (.int .i64 (5 : Int))) :: _) at hf
  refine sqgd (act := true) (g := 2) (want := true) (ag := true) (c := true) hf (by rfl) (by rfl) rfl (fun _ =>  Runs.does (R := fun vq wq => vq = (.bool true) ∧ w3 = wq) (Runs.veq (r_eq rfl rfl) (congrArg Value.bool (show _ = true from by decide))) ⟨rfl, rfl⟩) (fun h => by cases h) rfl ?_; clear hf fa; rintro fa _ _ ⟨rfl, rfl⟩ hf
  change Fr _ _ ((12, (.bool true)) :: _) at hf
  refine sqv hf (r_pick (b := true) rfl rfl rfl rfl) rfl rfl rfl ?_; clear hf fa; intro fa hf
  refine sqv hf (r_move rfl) rfl rfl rfl ?_; clear hf fa; intro fa hf
  refine sqgd (act := true) (g := 7) (want := true) (ag := true) (c := true) hf (by rfl) (by rfl) rfl (fun _ =>  Runs.does (R := fun vq wq => vq = (.pointer (some ⟨b1, 1, none⟩)) ∧ w3 = wq) (r_fa rfl Try.underlying45 (f := 1) (q := 1) rfl (by kernel_rfl) rfl) ⟨rfl, rfl⟩) (fun h => by cases h) rfl ?_; clear hf fa; rintro fa _ _ ⟨rfl, rfl⟩ hf
  change Fr _ _ ((15, (.pointer (some ⟨b1, 1, none⟩))) :: _) at hf
  refine sqgd (act := true) (g := 7) (want := true) (ag := true) (c := true) hf (by rfl) (by rfl) rfl (fun _ =>  Runs.does (R := fun vq wq => vq = (.slice aN 1 cN) ∧ w3 = wq) (r_load (v := (.slice aN 1 cN)) rfl Try.underlying41 rfl (cell_blk hk2 rfl)) ⟨rfl, rfl⟩) (fun h => by cases h) rfl ?_; clear hf fa; rintro fa _ _ ⟨rfl, rfl⟩ hf
  change Fr _ _ ((16, (.slice aN 1 cN)) :: _) at hf
  refine sqgd (act := true) (g := 7) (want := true) (ag := true) (c := true) hf (by rfl) (by rfl) rfl (fun _ =>  Runs.does (R := fun vq wq => vq = (.int .i64 (1 : Int)) ∧ w3 = wq) (r_lensl rfl Try.underlying41) ⟨rfl, rfl⟩) (fun h => by cases h) rfl ?_; clear hf fa; rintro fa _ _ ⟨rfl, rfl⟩ hf
  change Fr _ _ ((17, (.int .i64 (1 : Int))) :: _) at hf
  refine sqgd (act := true) (g := 7) (want := true) (ag := true) (c := true) hf (by rfl) (by rfl) rfl (fun _ =>  Runs.does (R := fun vq wq => vq = (.bool true) ∧ w3 = wq) (Runs.veq (r_eq rfl rfl) (congrArg Value.bool (show _ = true from by decide))) ⟨rfl, rfl⟩) (fun h => by cases h) rfl ?_; clear hf fa; rintro fa _ _ ⟨rfl, rfl⟩ hf
  change Fr _ _ ((18, (.bool true)) :: _) at hf
  refine sqv hf (r_pick (b := true) rfl rfl rfl rfl) rfl rfl rfl ?_; clear hf fa; intro fa hf
  refine sqv hf (r_move rfl) rfl rfl rfl ?_; clear hf fa; intro fa hf
  refine sqgd (act := true) (g := 13) (want := true) (ag := true) (c := true) hf (by rfl) (by rfl) rfl (fun _ =>  Runs.does (R := fun vq wq => vq = (.pointer (some ⟨b1, 2, none⟩)) ∧ w3 = wq) (r_fa rfl Try.underlying45 (f := 2) (q := 2) rfl (by kernel_rfl) rfl) ⟨rfl, rfl⟩) (fun h => by cases h) rfl ?_; clear hf fa; rintro fa _ _ ⟨rfl, rfl⟩ hf
  change Fr _ _ ((21, (.pointer (some ⟨b1, 2, none⟩))) :: _) at hf
  refine sqgd (act := true) (g := 13) (want := true) (ag := true) (c := true) hf (by rfl) (by rfl) rfl (fun _ =>  Runs.does (R := fun vq wq => vq = (.slice aS 1 cS) ∧ w3 = wq) (r_load (v := (.slice aS 1 cS)) rfl Try.underlying32 rfl (cell_blk hk2 rfl)) ⟨rfl, rfl⟩) (fun h => by cases h) rfl ?_; clear hf fa; rintro fa _ _ ⟨rfl, rfl⟩ hf
  change Fr _ _ ((22, (.slice aS 1 cS)) :: _) at hf
  refine sqgd (act := true) (g := 13) (want := true) (ag := true) (c := true) hf (by rfl) (by rfl) rfl (fun _ =>  Runs.does (R := fun vq wq => vq = (.int .i64 (1 : Int)) ∧ w3 = wq) (r_lensl rfl Try.underlying32) ⟨rfl, rfl⟩) (fun h => by cases h) rfl ?_; clear hf fa; rintro fa _ _ ⟨rfl, rfl⟩ hf
  change Fr _ _ ((23, (.int .i64 (1 : Int))) :: _) at hf
  refine sqgd (act := true) (g := 13) (want := true) (ag := true) (c := true) hf (by rfl) (by rfl) rfl (fun _ =>  Runs.does (R := fun vq wq => vq = (.bool true) ∧ w3 = wq) (Runs.veq (r_eq rfl rfl) (congrArg Value.bool (show _ = true from by decide))) ⟨rfl, rfl⟩) (fun h => by cases h) rfl ?_; clear hf fa; rintro fa _ _ ⟨rfl, rfl⟩ hf
  change Fr _ _ ((24, (.bool true)) :: _) at hf
  refine sqv hf (r_pick (b := true) rfl rfl rfl rfl) rfl rfl rfl ?_; clear hf fa; intro fa hf
  refine sqv hf (r_move rfl) rfl rfl rfl ?_; clear hf fa; intro fa hf
  refine sqgd (act := true) (g := 19) (want := true) (ag := true) (c := true) hf (by rfl) (by rfl) rfl (fun _ =>  Runs.does (R := fun vq wq => vq = (.pointer (some ⟨b1, 3, none⟩)) ∧ w3 = wq) (r_fa rfl Try.underlying45 (f := 3) (q := 3) rfl (by kernel_rfl) rfl) ⟨rfl, rfl⟩) (fun h => by cases h) rfl ?_; clear hf fa; rintro fa _ _ ⟨rfl, rfl⟩ hf
  change Fr _ _ ((27, (.pointer (some ⟨b1, 3, none⟩))) :: _) at hf
  refine sqgd (act := true) (g := 19) (want := true) (ag := true) (c := true) hf (by rfl) (by rfl) rfl (fun _ =>  Runs.does (R := fun vq wq => vq = (.slice (some ⟨ab, aoff, none⟩) 2 cA) ∧ w3 = wq) (r_load (v := (.slice (some ⟨ab, aoff, none⟩) 2 cA)) rfl Try.underlying42 rfl (cell_blk hk2 rfl)) ⟨rfl, rfl⟩) (fun h => by cases h) rfl ?_; clear hf fa; rintro fa _ _ ⟨rfl, rfl⟩ hf
  change Fr _ _ ((28, (.slice (some ⟨ab, aoff, none⟩) 2 cA)) :: _) at hf
  refine sqgd (act := true) (g := 19) (want := true) (ag := true) (c := true) hf (by rfl) (by rfl) rfl (fun _ =>  Runs.does (R := fun vq wq => vq = (.int .i64 (2 : Int)) ∧ w3 = wq) (r_lensl rfl Try.underlying42) ⟨rfl, rfl⟩) (fun h => by cases h) rfl ?_; clear hf fa; rintro fa _ _ ⟨rfl, rfl⟩ hf
  change Fr _ _ ((29, (.int .i64 (2 : Int))) :: _) at hf
  refine sqgd (act := true) (g := 19) (want := true) (ag := true) (c := true) hf (by rfl) (by rfl) rfl (fun _ =>  Runs.does (R := fun vq wq => vq = (.bool true) ∧ w3 = wq) (Runs.veq (r_eq rfl rfl) (congrArg Value.bool (show _ = true from by decide))) ⟨rfl, rfl⟩) (fun h => by cases h) rfl ?_; clear hf fa; rintro fa _ _ ⟨rfl, rfl⟩ hf
  change Fr _ _ ((30, (.bool true)) :: _) at hf
  refine sqv hf (r_pick (b := true) rfl rfl rfl rfl) rfl rfl rfl ?_; clear hf fa; intro fa hf
  refine sqv hf (r_move rfl) rfl rfl rfl ?_; clear hf fa; intro fa hf
  refine sqgd (act := true) (g := 25) (want := true) (ag := true) (c := true) hf (by rfl) (by rfl) rfl (fun _ =>  Runs.does (R := fun vq wq => vq = (.pointer (some ⟨b1, 3, none⟩)) ∧ w3 = wq) (r_fa rfl Try.underlying45 (f := 3) (q := 3) rfl (by kernel_rfl) rfl) ⟨rfl, rfl⟩) (fun h => by cases h) rfl ?_; clear hf fa; rintro fa _ _ ⟨rfl, rfl⟩ hf
  change Fr _ _ ((33, (.pointer (some ⟨b1, 3, none⟩))) :: _) at hf
  refine sqgd (act := true) (g := 25) (want := true) (ag := true) (c := true) hf (by rfl) (by rfl) rfl (fun _ =>  Runs.does (R := fun vq wq => vq = (.slice (some ⟨ab, aoff, none⟩) 2 cA) ∧ w3 = wq) (r_load (v := (.slice (some ⟨ab, aoff, none⟩) 2 cA)) rfl Try.underlying42 rfl (cell_blk hk2 rfl)) ⟨rfl, rfl⟩) (fun h => by cases h) rfl ?_; clear hf fa; rintro fa _ _ ⟨rfl, rfl⟩ hf
  change Fr _ _ ((34, (.slice (some ⟨ab, aoff, none⟩) 2 cA)) :: _) at hf
  refine sqgd (act := true) (g := 25) (want := true) (ag := true) (c := true) hf (by rfl) (by rfl) rfl (fun _ =>  Runs.does (R := fun vq wq => vq = (.pointer (some ⟨ab, (aoff + 0 * 2), none⟩)) ∧ w3 = wq) (r_ixa (sz := 2) (j := 0) rfl rfl Try.underlying42 (by kernel_rfl) rfl (by omega) rfl) ⟨rfl, rfl⟩) (fun h => by cases h) rfl ?_; clear hf fa; rintro fa _ _ ⟨rfl, rfl⟩ hf
  change Fr _ _ ((35, (.pointer (some ⟨ab, (aoff + 0 * 2), none⟩))) :: _) at hf
  refine sqgd (act := true) (g := 25) (want := true) (ag := true) (c := true) hf (by rfl) (by rfl) rfl (fun _ =>  Runs.does (R := fun vq wq => vq = (.pointer (some ⟨ab, ((aoff + 0 * 2) + 1), none⟩)) ∧ w3 = wq) (r_fa rfl Try.underlying65 (f := 1) (q := ((aoff + 0 * 2) + 1)) rfl (by kernel_rfl) rfl) ⟨rfl, rfl⟩) (fun h => by cases h) rfl ?_; clear hf fa; rintro fa _ _ ⟨rfl, rfl⟩ hf
  change Fr _ _ ((36, (.pointer (some ⟨ab, ((aoff + 0 * 2) + 1), none⟩))) :: _) at hf
  refine sqgd (act := true) (g := 25) (want := true) (ag := true) (c := true) hf (by rfl) (by rfl) rfl (fun _ =>  Runs.does (R := fun vq wq => vq = (.int .u64 (4294967295 : Int)) ∧ w3 = wq) (r_load (v := (.int .u64 (4294967295 : Int))) rfl Try.underlying63 rfl (cellsAt_cell helA (i := 1) rfl rfl)) ⟨rfl, rfl⟩) (fun h => by cases h) rfl ?_; clear hf fa; rintro fa _ _ ⟨rfl, rfl⟩ hf
  change Fr _ _ ((37, (.int .u64 (4294967295 : Int))) :: _) at hf
  refine sqgd (act := true) (g := 25) (want := true) (ag := true) (c := true) hf (by rfl) (by rfl) rfl (fun _ =>  Runs.does (R := fun vq wq => vq = (.bool true) ∧ w3 = wq) (Runs.veq (r_eq rfl rfl) (congrArg Value.bool (show _ = true from by decide))) ⟨rfl, rfl⟩) (fun h => by cases h) rfl ?_; clear hf fa; rintro fa _ _ ⟨rfl, rfl⟩ hf
  change Fr _ _ ((38, (.bool true)) :: _) at hf
  refine sqv hf (r_pick (b := true) rfl rfl rfl rfl) rfl rfl rfl ?_; clear hf fa; intro fa hf
  refine sqv hf (r_move rfl) rfl rfl rfl ?_; clear hf fa; intro fa hf
  refine sqv hf (r_pick (b := true) rfl rfl rfl rfl) rfl rfl rfl ?_; clear hf fa; intro fa hf
  refine sqv hf (r_move rfl) rfl rfl rfl ?_; clear hf fa; intro fa hf
  refine sqv hf (r_pick (b := true) rfl rfl rfl rfl) rfl rfl rfl ?_; clear hf fa; intro fa hf
  refine sqv hf (r_move rfl) rfl rfl rfl ?_; clear hf fa; intro fa hf
  refine sqv hf (r_pick (b := true) rfl rfl rfl rfl) rfl rfl rfl ?_; clear hf fa; intro fa hf
  refine sqv hf (r_assign rfl) rfl rfl rfl ?_; clear hf fa; intro fa hf
  apply wpList_nil
  (try simp only [Exit.then, Exit.inBlock, ↓reduceIte, Nat.reduceEqDiff])
  refine hK3 _ _ ?_
  refine wp_ret ?_
  (try simp only [Exit.then, Exit.inBlock])
  refine ret1 hf rfl rfl ?_
  exact ⟨rfl, hb⟩

end Go.Proofs.Ytpalmpfkliepfaa

namespace Go.Proofs.Ytpalmpfkliepfaa
open Go.RowKit Ut
set_option linter.unusedVariables false
set_option linter.unusedSimpArgs false
theorem readhex_h (s : ByteArray) (w : World) (hs : s.size ≤ 10000) : Calls Try.prog 29 #[.string (strN (hexB (bl s)))] w fun e w' => ∃ v, e = .returned v ∧ ((∃ a c, v = .tuple #[.slice a s.size c, .bool true] ∧ Row 1 (vInt .u8) 5 w.heap.size w' (.slice a s.size c) (nI (bl s))) ∧ Below w.heap.size w w') := by
  have h1 := hexB_len (bl s)
  rw [bl_length] at h1
  have h := readhex_y (strN (hexB (bl s))) w (by rw [strN_size]; omega)
  rw [bl_strN _ (hexB_byte (bl_lt s)), hexP_hexB _ (bl_lt s)] at h
  simp only [bl_length] at h
  exact h
theorem number_dig (n : Int) (w : World) (h : inI n) : Calls Try.prog 25 #[.string (dS n)] w fun e w' => e = .returned (.tuple #[.int .i64 n, .bool true]) ∧ Below w.heap.size w w' := by
  have h1 := dS_len h
  have h2 := number_any (dS n) w (by omega)
  rw [bl_dS, numP_dig h] at h2
  exact h2
theorem hex_eq2 (s : ByteArray) : (hexR (bl s)).2 = (hexP (bl s)).2 := (hex_eq (bl s)).1.symm
theorem hex_lit {s : ByteArray} : ((hexP (bl s)).2 && decide (strOfNums (nI (hexP (bl s)).1) ≠ strOfNums (nI (hexR (bl s)).1))) = false := by
  cases h : (hexP (bl s)).2 with
  | false => rfl
  | true => rw [(hex_eq (bl s)).2 h]; simp

theorem strOfNums_nI (s : ByteArray) : strOfNums (nI (bl s)) = s := strN_bl s

set_option maxHeartbeats 1000000 in
set_option maxRecDepth 100000 in
theorem opParts_any (n : Int) (v : MVal) (s : ByteArray) (w : World) (hn : inI n) (hv1 : 0 ≤ v.1 ∧ v.1 < 256) (hv2 : 0 ≤ v.2.1 ∧ v.2.1 < 18446744073709551616) : Calls Try.prog 6 #[(.int .i64 n), (.agg #[(.int .u8 v.1), (.int .u64 v.2.1)]), (.string s)] w fun e w' => e = .returned (.bool true) ∧ Below w.heap.size w w' := by
  refine sx_enter (L := [(0, (.int .i64 n)), (1, (.agg #[(.int .u8 v.1), (.int .u64 v.2.1)])), (2, (.string s))]) Try.func6 rfl rfl rfl rfl (fun fa hf => ?_)
  have hb : Below w.heap.size w w := Below.refl _ _
  refine wp_seq_k (fun K1 hK1 => ?_)
  refine wp_region_lit ?_
  refine sqdt hf (d_box (cs := #[(.int .u8 v.1), (.int .u64 v.2.1)]) rfl rfl) rfl rfl rfl ?_; clear hf fa; rintro fa _ w1 ⟨b1, rfl, hle1, hk1, he1⟩ hf
  have hBb1 : w.heap.size ≤ b1 := Nat.le_trans hb.size hle1
  replace hb := hb.trans (Below.mono he1 hb.size)
  refine sqv hf (r_assign rfl) rfl rfl rfl ?_; clear hf fa; intro fa hf
  apply wpList_nil
  (try simp only [Exit.then, Exit.inBlock, ↓reduceIte, Nat.reduceEqDiff])
  refine hK1 _ _ ?_
  refine wp_seq_k (fun K2 hK2 => ?_)
  refine wp_seq_k (fun K3 hK3 => ?_)
  refine wp_region_lit ?_
  refine sqdt hf (d_callB (vs := []) rfl Try.func12 (by kernel_rfl) (by kernel_rfl) (awake44_any _)) rfl rfl rfl ?_; clear hf fa; rintro fa _ w2 ⟨rfl, he2⟩ hf
  replace hk1 := blk_ext hk1 he2
  replace hb := hb.trans (Below.mono he2 hb.size)
  refine sqv hf (Runs.veq (v' := (.bool false)) (r_not rfl) rfl) rfl rfl rfl ?_; clear hf fa; intro fa hf
  apply wpList_nil
  (try simp only [Exit.then, Exit.inBlock, ↓reduceIte, Nat.reduceEqDiff])
  refine hK3 _ _ ?_
  refine wp_cond_false (hf.ev rfl) ?_
  refine wp_skip ?_
  (try simp only [Exit.then, Exit.inBlock, ↓reduceIte, Nat.reduceEqDiff])
  refine hK2 _ _ ?_
  refine wp_seq_k (fun K4 hK4 => ?_)
  refine wp_seq_k (fun K5 hK5 => ?_)
  refine wp_region_lit ?_
  refine sqv hf (r_move rfl) rfl rfl rfl ?_; clear hf fa; intro fa hf
  refine sqv hf (r_lens rfl Try.underlying9) rfl rfl rfl ?_; clear hf fa; intro fa hf
  refine sqv hf (r_gt rfl rfl) rfl rfl rfl ?_; clear hf fa; intro fa hf
  apply wpList_nil
  (try simp only [Exit.then, Exit.inBlock, ↓reduceIte, Nat.reduceEqDiff])
  refine hK5 _ _ ?_
  refine wp_cond_split (t := (decide ((300 : Int) < ((s.size : Nat) : Int)))) (hf.ev rfl) (fun hqt27_1 => ?_) (fun hqt27_1 => ?_)
  · have hqt27_1b := hqt27_1
    try simp only [decide_eq_true_eq, Bool.and_eq_true, Bool.or_eq_true, Bool.not_eq_true', decide_eq_false_iff_not, ne_eq, Bool.not_eq_true] at hqt27_1
    refine wp_seq_k (fun K6 hK6 => ?_)
    refine wp_region_lit ?_
    refine sqv hf (r_assign rfl) rfl rfl rfl ?_; clear hf fa; intro fa hf
    apply wpList_nil
    (try simp only [Exit.then, Exit.inBlock, ↓reduceIte, Nat.reduceEqDiff])
    refine hK6 _ _ ?_
    refine wp_ret ?_
    (try simp only [Exit.then, Exit.inBlock])
    refine ret1 hf rfl rfl ?_
    exact ⟨rfl, hb⟩
  · have hqt27_1b := hqt27_1
    replace hqt27_1 := Bool.eq_false_iff.1 hqt27_1
    try simp only [ne_eq, decide_eq_true_eq, Bool.and_eq_true, Bool.or_eq_true, Bool.not_eq_true', decide_eq_false_iff_not] at hqt27_1
    refine wp_skip ?_
    (try simp only [Exit.then, Exit.inBlock, ↓reduceIte, Nat.reduceEqDiff])
    refine hK4 _ _ ?_
    refine wp_seq_k (fun K7 hK7 => ?_)
    refine wp_region_lit ?_
    refine sqv hf (r_move rfl) rfl rfl rfl ?_; clear hf fa; intro fa hf
    refine sqdt hf (d_callB (vs := [(.string s)]) rfl Try.func25 (by kernel_rfl) (by kernel_rfl) (number_any s _ (by omega))) rfl rfl rfl ?_; clear hf fa; rintro fa _ w3 ⟨rfl, he3⟩ hf
    replace hk1 := blk_ext hk1 he3
    replace hb := hb.trans (Below.mono he3 hb.size)
    refine sqv hf (r_move rfl) rfl rfl rfl ?_; clear hf fa; intro fa hf
    refine sqv hf (r_extract rfl (i := 0) rfl) rfl rfl rfl ?_; clear hf fa; intro fa hf
    refine sqv hf (r_extract rfl (i := 1) rfl) rfl rfl rfl ?_; clear hf fa; intro fa hf
    refine sqv hf (r_assign rfl) rfl rfl rfl ?_; clear hf fa; intro fa hf
    refine sqv hf (r_assign rfl) rfl rfl rfl ?_; clear hf fa; intro fa hf
    apply wpList_nil
    (try simp only [Exit.then, Exit.inBlock, ↓reduceIte, Nat.reduceEqDiff])
    refine hK7 _ _ ?_
    refine wp_seq_k (fun K8 hK8 => ?_)
    refine wp_region_lit ?_
    refine sqv hf (r_move rfl) rfl rfl rfl ?_; clear hf fa; intro fa hf
    refine sqdt hf (d_callB (vs := [(.string s)]) rfl Try.func26 (by kernel_rfl) (by kernel_rfl) (rnumber_any s _ (by omega))) rfl rfl rfl ?_; clear hf fa; rintro fa _ w4 ⟨rfl, he4⟩ hf
    replace hk1 := blk_ext hk1 he4
    replace hb := hb.trans (Below.mono he4 hb.size)
    refine sqv hf (r_move rfl) rfl rfl rfl ?_; clear hf fa; intro fa hf
    refine sqv hf (r_extract rfl (i := 0) rfl) rfl rfl rfl ?_; clear hf fa; intro fa hf
    refine sqv hf (r_extract rfl (i := 1) rfl) rfl rfl rfl ?_; clear hf fa; intro fa hf
    refine sqv hf (r_assign rfl) rfl rfl rfl ?_; clear hf fa; intro fa hf
    refine sqv hf (r_assign rfl) rfl rfl rfl ?_; clear hf fa; intro fa hf
    apply wpList_nil
    (try simp only [Exit.then, Exit.inBlock, ↓reduceIte, Nat.reduceEqDiff])
    refine hK8 _ _ ?_
    refine wp_seq_k (fun K9 hK9 => ?_)
    refine wp_region_lit ?_
    refine sqv hf (r_move rfl) rfl rfl rfl ?_; clear hf fa; intro fa hf
    refine sqdt hf (d_callB (vs := [(.string s)]) rfl Try.func27 (by kernel_rfl) (by kernel_rfl) (readvalue_any s _ (by omega))) rfl rfl rfl ?_; clear hf fa; rintro fa _ w5 ⟨rfl, he5⟩ hf
    replace hk1 := blk_ext hk1 he5
    replace hb := hb.trans (Below.mono he5 hb.size)
    refine sqv hf (r_move rfl) rfl rfl rfl ?_; clear hf fa; intro fa hf
    refine sqv hf (r_extract rfl (i := 0) rfl) rfl rfl rfl ?_; clear hf fa; intro fa hf
    refine sqv hf (r_extract rfl (i := 1) rfl) rfl rfl rfl ?_; clear hf fa; intro fa hf
    refine sqdt hf (d_alloc (z := (.agg #[(.int .u8 (0 : Int)), (.int .u64 (0 : Int))])) (cs := #[(.int .u8 (0 : Int)), (.int .u64 (0 : Int))]) (by kernel_rfl) rfl) rfl rfl rfl ?_; clear hf fa; rintro fa _ w6 ⟨b2, rfl, hle2, hk2, he6⟩ hf
    have hBb2 : w.heap.size ≤ b2 := Nat.le_trans hb.size hle2
    have : b1 < b2 := Nat.lt_of_lt_of_le (blk_lt hk1) hle2
    replace hk1 := blk_ext hk1 he6
    replace hb := hb.trans (Below.mono he6 hb.size)
    refine sqn hf (d_storeK (T := 65) (v := (.agg #[(.int .u8 ((rdV s).1.1)), (.int .u64 ((rdV s).1.2.1))])) (cs := #[(.int .u8 (0 : Int)), (.int .u64 (0 : Int))]) (cs' := #[(.int .u8 ((rdV s).1.1)), (.int .u64 ((rdV s).1.2.1))]) rfl rfl (by kernel_rfl) (by kernel_rfl) hk2 (by kernel_rfl) (by kernel_rfl)) rfl rfl ?_; clear hf fa; rintro fa _ w7 ⟨hk3, hg1⟩ hf
    replace hk1 := blk_grown hk1 hg1 (by omega)
    replace hb := hb.trans (grown_below hg1 hb.size hBb2)
    refine sqv hf (r_assign rfl) rfl rfl rfl ?_; clear hf fa; intro fa hf
    apply wpList_nil
    (try simp only [Exit.then, Exit.inBlock, ↓reduceIte, Nat.reduceEqDiff])
    refine hK9 _ _ ?_
    refine wp_seq_k (fun K10 hK10 => ?_)
    refine wp_region_lit ?_
    refine sqv hf (r_move rfl) rfl rfl rfl ?_; clear hf fa; intro fa hf
    refine sqdt hf (d_callB (vs := [(.string s)]) rfl Try.func28 (by kernel_rfl) (by kernel_rfl) (rreadvalue_any s _ (by omega))) rfl rfl rfl ?_; clear hf fa; rintro fa _ w8 ⟨rfl, he7⟩ hf
    replace hk1 := blk_ext hk1 he7
    replace hk3 := blk_ext hk3 he7
    replace hb := hb.trans (Below.mono he7 hb.size)
    refine sqv hf (r_move rfl) rfl rfl rfl ?_; clear hf fa; intro fa hf
    refine sqv hf (r_extract rfl (i := 0) rfl) rfl rfl rfl ?_; clear hf fa; intro fa hf
    refine sqv hf (r_extract rfl (i := 1) rfl) rfl rfl rfl ?_; clear hf fa; intro fa hf
    refine sqdt hf (d_alloc (z := (.agg #[(.int .u8 (0 : Int)), (.int .u64 (0 : Int))])) (cs := #[(.int .u8 (0 : Int)), (.int .u64 (0 : Int))]) (by kernel_rfl) rfl) rfl rfl rfl ?_; clear hf fa; rintro fa _ w9 ⟨b3, rfl, hle3, hk4, he8⟩ hf
    have hBb3 : w.heap.size ≤ b3 := Nat.le_trans hb.size hle3
    have : b1 < b3 := Nat.lt_of_lt_of_le (blk_lt hk1) hle3
    have : b2 < b3 := Nat.lt_of_lt_of_le (blk_lt hk3) hle3
    replace hk1 := blk_ext hk1 he8
    replace hk3 := blk_ext hk3 he8
    replace hb := hb.trans (Below.mono he8 hb.size)
    refine sqn hf (d_storeK (T := 65) (v := (.agg #[(.int .u8 ((rdV s).1.1)), (.int .u64 ((rdV s).1.2.1))])) (cs := #[(.int .u8 (0 : Int)), (.int .u64 (0 : Int))]) (cs' := #[(.int .u8 ((rdV s).1.1)), (.int .u64 ((rdV s).1.2.1))]) rfl rfl (by kernel_rfl) (by kernel_rfl) hk4 (by kernel_rfl) (by kernel_rfl)) rfl rfl ?_; clear hf fa; rintro fa _ w10 ⟨hk5, hg2⟩ hf
    replace hk1 := blk_grown hk1 hg2 (by omega)
    replace hk3 := blk_grown hk3 hg2 (by omega)
    replace hb := hb.trans (grown_below hg2 hb.size hBb3)
    refine sqv hf (r_assign rfl) rfl rfl rfl ?_; clear hf fa; intro fa hf
    apply wpList_nil
    (try simp only [Exit.then, Exit.inBlock, ↓reduceIte, Nat.reduceEqDiff])
    refine hK10 _ _ ?_
    refine wp_seq_k (fun K11 hK11 => ?_)
    refine wp_region_lit ?_
    refine sqv hf (r_move rfl) rfl rfl rfl ?_; clear hf fa; intro fa hf
    refine sqdt hf (d_callX (vs := [(.string s)]) rfl Try.func29 (by kernel_rfl) (by kernel_rfl) (readhex_y s w10 (by omega))) rfl rfl rfl ?_; clear hf fa; rintro fa _ w11 ⟨⟨rap, rcp, rfl, hrp⟩, he9⟩ hf
    replace hrp := Row.rebase hrp hb.size
    replace hk1 := blk_ext hk1 he9
    replace hk3 := blk_ext hk3 he9
    replace hk5 := blk_ext hk5 he9
    replace hb := hb.trans (Below.mono he9 hb.size)
    refine sqv hf (r_move rfl) rfl rfl rfl ?_; clear hf fa; intro fa hf
    refine sqv hf (r_extract rfl (i := 0) rfl) rfl rfl rfl ?_; clear hf fa; intro fa hf
    refine sqv hf (r_extract rfl (i := 1) rfl) rfl rfl rfl ?_; clear hf fa; intro fa hf
    refine sqv hf (r_assign rfl) rfl rfl rfl ?_; clear hf fa; intro fa hf
    refine sqv hf (r_assign rfl) rfl rfl rfl ?_; clear hf fa; intro fa hf
    apply wpList_nil
    (try simp only [Exit.then, Exit.inBlock, ↓reduceIte, Nat.reduceEqDiff])
    refine hK11 _ _ ?_
    refine wp_seq_k (fun K12 hK12 => ?_)
    refine wp_region_lit ?_
    refine sqv hf (r_move rfl) rfl rfl rfl ?_; clear hf fa; intro fa hf
    refine sqdt hf (d_callX (vs := [(.string s)]) rfl Try.func30 (by kernel_rfl) (by kernel_rfl) (rreadhex_y s w11 (by omega))) rfl rfl rfl ?_; clear hf fa; rintro fa _ w12 ⟨⟨rar, rcr, rfl, hrr⟩, he10⟩ hf
    replace hrr := Row.rebase hrr hb.size
    replace hk1 := blk_ext hk1 he10
    replace hk3 := blk_ext hk3 he10
    replace hk5 := blk_ext hk5 he10
    replace hrp := Row.ext hrp he10
    replace hb := hb.trans (Below.mono he10 hb.size)
    refine sqv hf (r_move rfl) rfl rfl rfl ?_; clear hf fa; intro fa hf
    refine sqv hf (r_extract rfl (i := 0) rfl) rfl rfl rfl ?_; clear hf fa; intro fa hf
    refine sqv hf (r_extract rfl (i := 1) rfl) rfl rfl rfl ?_; clear hf fa; intro fa hf
    refine sqv hf (r_assign rfl) rfl rfl rfl ?_; clear hf fa; intro fa hf
    refine sqv hf (r_assign rfl) rfl rfl rfl ?_; clear hf fa; intro fa hf
    apply wpList_nil
    (try simp only [Exit.then, Exit.inBlock, ↓reduceIte, Nat.reduceEqDiff])
    refine hK12 _ _ ?_
    refine wp_seq_k (fun K13 hK13 => ?_)
    refine wp_seq_k (fun K14 hK14 => ?_)
    refine wp_region_lit ?_
    refine sqv hf (r_move rfl) rfl rfl rfl ?_; clear hf fa; intro fa hf
    refine sqv hf (r_move rfl) rfl rfl rfl ?_; clear hf fa; intro fa hf
    refine sqv hf (Runs.veq (r_ne rfl rfl) (congrArg Value.bool (show _ = false from (by simp)))) rfl rfl rfl ?_; clear hf fa; intro fa hf
    refine sqv hf (r_move rfl) rfl rfl rfl ?_; clear hf fa; intro fa hf
    refine sqgd (act := true) (g := 3) (want := false) (ag := true) (c := false) hf (by rfl) (by rfl) rfl (fun _ =>  Runs.does (R := fun vq wq => vq = (.bool (numP (bl s)).2) ∧ w12 = wq) (r_move rfl) ⟨rfl, rfl⟩) (fun h => by cases h) rfl ?_; clear hf fa; rintro fa _ _ ⟨rfl, rfl⟩ hf
    change Fr _ _ ((62, (.bool (numP (bl s)).2)) :: _) at hf
    refine sqgd (act := true) (g := 3) (want := false) (ag := true) (c := false) hf (by rfl) (by rfl) rfl (fun _ =>  Runs.does (R := fun vq wq => vq = (.bool (numP (bl s)).2) ∧ w12 = wq) (r_move rfl) ⟨rfl, rfl⟩) (fun h => by cases h) rfl ?_; clear hf fa; rintro fa _ _ ⟨rfl, rfl⟩ hf
    change Fr _ _ ((63, (.bool (numP (bl s)).2)) :: _) at hf
    refine sqgd (act := true) (g := 3) (want := false) (ag := true) (c := false) hf (by rfl) (by rfl) rfl (fun _ =>  Runs.does (R := fun vq wq => vq = (.bool false) ∧ w12 = wq) (Runs.veq (r_bne Try.underlying4 rfl rfl) (congrArg Value.bool (show _ = false from (by simp)))) ⟨rfl, rfl⟩) (fun h => by cases h) rfl ?_; clear hf fa; rintro fa _ _ ⟨rfl, rfl⟩ hf
    change Fr _ _ ((64, (.bool false)) :: _) at hf
    refine sqv hf (r_pick (b := false) rfl rfl rfl rfl) rfl rfl rfl ?_; clear hf fa; intro fa hf
    refine sqv hf (r_move rfl) rfl rfl rfl ?_; clear hf fa; intro fa hf
    refine sqgd (act := true) (g := 8) (want := false) (ag := true) (c := false) hf (by rfl) (by rfl) rfl (fun _ =>  Runs.does (R := fun vq wq => vq = (.agg #[(.int .u8 ((rdV s).1.1)), (.int .u64 ((rdV s).1.2.1))]) ∧ w12 = wq) (r_loadA (cs := [(.int .u8 ((rdV s).1.1)), (.int .u64 ((rdV s).1.2.1))]) rfl Try.underlying65 rfl (by kernel_rfl) (cellsAt_blk hk3)) ⟨rfl, rfl⟩) (fun h => by cases h) rfl ?_; clear hf fa; rintro fa _ _ ⟨rfl, rfl⟩ hf
    change Fr _ _ ((67, (.agg #[(.int .u8 ((rdV s).1.1)), (.int .u64 ((rdV s).1.2.1))])) :: _) at hf
    refine sqgd (act := true) (g := 8) (want := false) (ag := true) (c := false) hf (by rfl) (by rfl) rfl (fun _ =>  Runs.does (R := fun vq wq => vq = (.agg #[(.int .u8 ((rdV s).1.1)), (.int .u64 ((rdV s).1.2.1))]) ∧ w12 = wq) (r_loadA (cs := [(.int .u8 ((rdV s).1.1)), (.int .u64 ((rdV s).1.2.1))]) rfl Try.underlying65 rfl (by kernel_rfl) (cellsAt_blk hk5)) ⟨rfl, rfl⟩) (fun h => by cases h) rfl ?_; clear hf fa; rintro fa _ _ ⟨rfl, rfl⟩ hf
    change Fr _ _ ((68, (.agg #[(.int .u8 ((rdV s).1.1)), (.int .u64 ((rdV s).1.2.1))])) :: _) at hf
    refine sqgd (act := true) (g := 8) (want := false) (ag := true) (c := false) hf (by rfl) (by rfl) rfl (fun _ =>  Runs.does (R := fun vq wq => vq = (.bool false) ∧ w12 = wq) (Runs.veq (r_ane (k := 5) rfl rfl (by kernel_rfl) (eqt_struct (xs := #[(.int .u8 ((rdV s).1.1)), (.int .u64 ((rdV s).1.2.1))]) (ys := #[(.int .u8 ((rdV s).1.1)), (.int .u64 ((rdV s).1.2.1))]) Try.underlying65 (by kernel_rfl) (eqf_cons (by kernel_rfl) (fun _ => by kernel_rfl) (fun _ => by kernel_rfl) (eqt_int (kk := .u8) (a := ((rdV s).1.1)) (b := ((rdV s).1.1)) Try.underlying5) (eqf_one (by kernel_rfl) (fun _ => by kernel_rfl) (fun _ => by kernel_rfl) (eqt_int (kk := .u64) (a := ((rdV s).1.2.1)) (b := ((rdV s).1.2.1)) Try.underlying63)))) rfl) (congrArg Value.bool (show _ = false from (by simp)))) ⟨rfl, rfl⟩) (fun h => by cases h) rfl ?_; clear hf fa; rintro fa _ _ ⟨rfl, rfl⟩ hf
    change Fr _ _ ((69, (.bool false)) :: _) at hf
    refine sqv hf (r_pick (b := false) rfl rfl rfl rfl) rfl rfl rfl ?_; clear hf fa; intro fa hf
    refine sqv hf (r_move rfl) rfl rfl rfl ?_; clear hf fa; intro fa hf
    refine sqgd (act := true) (g := 13) (want := false) (ag := true) (c := false) hf (by rfl) (by rfl) rfl (fun _ =>  Runs.does (R := fun vq wq => vq = (.bool (rdV s).2) ∧ w12 = wq) (r_move rfl) ⟨rfl, rfl⟩) (fun h => by cases h) rfl ?_; clear hf fa; rintro fa _ _ ⟨rfl, rfl⟩ hf
    change Fr _ _ ((72, (.bool (rdV s).2)) :: _) at hf
    refine sqgd (act := true) (g := 13) (want := false) (ag := true) (c := false) hf (by rfl) (by rfl) rfl (fun _ =>  Runs.does (R := fun vq wq => vq = (.bool (rdV s).2) ∧ w12 = wq) (r_move rfl) ⟨rfl, rfl⟩) (fun h => by cases h) rfl ?_; clear hf fa; rintro fa _ _ ⟨rfl, rfl⟩ hf
    change Fr _ _ ((73, (.bool (rdV s).2)) :: _) at hf
    refine sqgd (act := true) (g := 13) (want := false) (ag := true) (c := false) hf (by rfl) (by rfl) rfl (fun _ =>  Runs.does (R := fun vq wq => vq = (.bool false) ∧ w12 = wq) (Runs.veq (r_bne Try.underlying4 rfl rfl) (congrArg Value.bool (show _ = false from (by simp)))) ⟨rfl, rfl⟩) (fun h => by cases h) rfl ?_; clear hf fa; rintro fa _ _ ⟨rfl, rfl⟩ hf
    change Fr _ _ ((74, (.bool false)) :: _) at hf
    refine sqv hf (r_pick (b := false) rfl rfl rfl rfl) rfl rfl rfl ?_; clear hf fa; intro fa hf
    refine sqv hf (r_move rfl) rfl rfl rfl ?_; clear hf fa; intro fa hf
    refine sqgd (act := true) (g := 18) (want := false) (ag := true) (c := false) hf (by rfl) (by rfl) rfl (fun _ =>  Runs.does (R := fun vq wq => vq = (.bool (hexP (bl s)).2) ∧ w12 = wq) (r_move rfl) ⟨rfl, rfl⟩) (fun h => by cases h) rfl ?_; clear hf fa; rintro fa _ _ ⟨rfl, rfl⟩ hf
    change Fr _ _ ((77, (.bool (hexP (bl s)).2)) :: _) at hf
    refine sqgd (act := true) (g := 18) (want := false) (ag := true) (c := false) hf (by rfl) (by rfl) rfl (fun _ =>  Runs.does (R := fun vq wq => vq = (.bool (hexR (bl s)).2) ∧ w12 = wq) (r_move rfl) ⟨rfl, rfl⟩) (fun h => by cases h) rfl ?_; clear hf fa; rintro fa _ _ ⟨rfl, rfl⟩ hf
    change Fr _ _ ((78, (.bool (hexR (bl s)).2)) :: _) at hf
    refine sqgd (act := true) (g := 18) (want := false) (ag := true) (c := false) hf (by rfl) (by rfl) rfl (fun _ =>  Runs.does (R := fun vq wq => vq = (.bool false) ∧ w12 = wq) (Runs.veq (r_bne Try.underlying4 rfl rfl) (congrArg Value.bool (show _ = false from (by rw [hex_eq2]; simp)))) ⟨rfl, rfl⟩) (fun h => by cases h) rfl ?_; clear hf fa; rintro fa _ _ ⟨rfl, rfl⟩ hf
    change Fr _ _ ((79, (.bool false)) :: _) at hf
    refine sqv hf (r_pick (b := false) rfl rfl rfl rfl) rfl rfl rfl ?_; clear hf fa; intro fa hf
    refine sqv hf (r_move rfl) rfl rfl rfl ?_; clear hf fa; intro fa hf
    refine sqgd (act := true) (g := 23) (want := false) (ag := true) (c := false) hf (by rfl) (by rfl) rfl (fun _ =>  Runs.does (R := fun vq wq => vq = (.bool (hexP (bl s)).2) ∧ w12 = wq) (r_move rfl) ⟨rfl, rfl⟩) (fun h => by cases h) rfl ?_; clear hf fa; rintro fa _ _ ⟨rfl, rfl⟩ hf
    change Fr _ _ ((82, (.bool (hexP (bl s)).2)) :: _) at hf
    refine sqgd (act := true) (g := 23) (want := false) (ag := true) (c := false) hf (by rfl) (by rfl) rfl (fun _ =>  Runs.does (R := fun vq wq => vq = (.bool (hexP (bl s)).2) ∧ w12 = wq) (r_move rfl) ⟨rfl, rfl⟩) (fun h => by cases h) rfl ?_; clear hf fa; rintro fa _ _ ⟨rfl, rfl⟩ hf
    change Fr _ _ ((83, (.bool (hexP (bl s)).2)) :: _) at hf
    refine sqgT (act := (hexP (bl s)).2) (ag := true) (c := (hexP (bl s)).2) (v := (.slice rap ((hexP (bl s)).1.length) rcp)) hf rfl rfl rfl (fun hact => (r_move rfl)) rfl rfl ?_; clear hf fa; intro fa hf
    refine sqgT (act := (hexP (bl s)).2) (ag := true) (c := (hexP (bl s)).2) (v := (.string (strOfNums (nI (hexP (bl s)).1)))) hf rfl rfl rfl (fun hact => (r_rowstr (gb_ev hact rfl) Try.underlying43 Try.underlying5 Try.underlying9 hrp)) rfl rfl ?_; clear hf fa; intro fa hf
    refine sqgT (act := (hexP (bl s)).2) (ag := true) (c := (hexP (bl s)).2) (v := (.slice rar ((hexR (bl s)).1.length) rcr)) hf rfl rfl rfl (fun hact => (r_move rfl)) rfl rfl ?_; clear hf fa; intro fa hf
    refine sqgT (act := (hexP (bl s)).2) (ag := true) (c := (hexP (bl s)).2) (v := (.string (strOfNums (nI (hexR (bl s)).1)))) hf rfl rfl rfl (fun hact => (r_rowstr (gb_ev hact rfl) Try.underlying43 Try.underlying5 Try.underlying9 hrr)) rfl rfl ?_; clear hf fa; intro fa hf
    refine sqgT (act := (hexP (bl s)).2) (ag := true) (c := (hexP (bl s)).2) (v := (.bool (decide ((strOfNums (nI (hexP (bl s)).1)) ≠ (strOfNums (nI (hexR (bl s)).1)))))) hf rfl rfl rfl (fun hact => (r_sne (gb_ev hact rfl) (gb_ev hact rfl))) rfl rfl ?_; clear hf fa; intro fa hf
    refine sqgd (act := true) (g := 23) (want := false) (ag := true) (c := false) hf (by rfl) (by rfl) rfl (fun _ =>  Runs.does (R := fun vq wq => vq = (.bool false) ∧ w12 = wq) (Runs.veq (r_pickA (b := (hexP (bl s)).2) (e := (decide ((strOfNums (nI (hexP (bl s)).1)) ≠ (strOfNums (nI (hexR (bl s)).1))))) rfl rfl rfl) (congrArg Value.bool (show _ = false from hex_lit))) ⟨rfl, rfl⟩) (fun h => by cases h) rfl ?_; clear hf fa; rintro fa _ _ ⟨rfl, rfl⟩ hf
    change Fr _ _ ((89, (.bool false)) :: _) at hf
    refine sqv hf (r_pick (b := false) rfl rfl rfl rfl) rfl rfl rfl ?_; clear hf fa; intro fa hf
    apply wpList_nil
    (try simp only [Exit.then, Exit.inBlock, ↓reduceIte, Nat.reduceEqDiff])
    refine hK14 _ _ ?_
    refine wp_cond_false (hf.ev rfl) ?_
    refine wp_skip ?_
    (try simp only [Exit.then, Exit.inBlock, ↓reduceIte, Nat.reduceEqDiff])
    refine hK13 _ _ ?_
    refine wp_seq_k (fun K15 hK15 => ?_)
    refine wp_region_lit ?_
    refine sqv hf (r_move rfl) rfl rfl rfl ?_; clear hf fa; intro fa hf
    refine sqdt hf (d_callB (vs := [(.int .i64 n)]) rfl Try.func31 (by kernel_rfl) (by kernel_rfl) (digits_any n _ hn)) rfl rfl rfl ?_; clear hf fa; rintro fa _ w13 ⟨rfl, he11⟩ hf
    replace hk1 := blk_ext hk1 he11
    replace hk3 := blk_ext hk3 he11
    replace hk5 := blk_ext hk5 he11
    replace hrp := Row.ext hrp he11
    replace hrr := Row.ext hrr he11
    replace hb := hb.trans (Below.mono he11 hb.size)
    refine sqdt hf (d_callB (vs := [(.string (dS n))]) rfl Try.func25 (by kernel_rfl) (by kernel_rfl) (number_dig n _ hn)) rfl rfl rfl ?_; clear hf fa; rintro fa _ w14 ⟨rfl, he12⟩ hf
    replace hk1 := blk_ext hk1 he12
    replace hk3 := blk_ext hk3 he12
    replace hk5 := blk_ext hk5 he12
    replace hrp := Row.ext hrp he12
    replace hrr := Row.ext hrr he12
    replace hb := hb.trans (Below.mono he12 hb.size)
    refine sqv hf (r_move rfl) rfl rfl rfl ?_; clear hf fa; intro fa hf
    refine sqv hf (r_extract rfl (i := 0) rfl) rfl rfl rfl ?_; clear hf fa; intro fa hf
    refine sqv hf (r_extract rfl (i := 1) rfl) rfl rfl rfl ?_; clear hf fa; intro fa hf
    refine sqv hf (r_assign rfl) rfl rfl rfl ?_; clear hf fa; intro fa hf
    refine sqv hf (r_assign rfl) rfl rfl rfl ?_; clear hf fa; intro fa hf
    apply wpList_nil
    (try simp only [Exit.then, Exit.inBlock, ↓reduceIte, Nat.reduceEqDiff])
    refine hK15 _ _ ?_
    refine wp_seq_k (fun K16 hK16 => ?_)
    refine wp_region_lit ?_
    refine sqv hf (r_move rfl) rfl rfl rfl ?_; clear hf fa; intro fa hf
    refine sqdt hf (d_strb rfl Try.underlying9 Try.underlying43 Try.underlying5) rfl rfl rfl ?_; clear hf fa; rintro fa _ w15 ⟨b4, C1, cs1, fr1, rfl, hle4, hk6, hs1, hcC1, he13⟩ hf
    have hBb4 : w.heap.size ≤ b4 := Nat.le_trans hb.size hle4
    have : b1 < b4 := Nat.lt_of_lt_of_le (blk_lt hk1) hle4
    have : b2 < b4 := Nat.lt_of_lt_of_le (blk_lt hk3) hle4
    have : b3 < b4 := Nat.lt_of_lt_of_le (blk_lt hk5) hle4
    have hnr1 : (Value.slice rap (((hexP (bl s)).1.length)) rcp).ownBlock ≠ some b4 := fun hq => by have := (Row.lt hrp _ hq).2; omega
    have hnl1 : ∀ q, (Value.slice rap (((hexP (bl s)).1.length)) rcp).ownBlock = some q → q < b4 := fun q hq => Nat.lt_of_lt_of_le (Row.lt hrp q hq).2 hle4
    have hnr2 : (Value.slice rar (((hexR (bl s)).1.length)) rcr).ownBlock ≠ some b4 := fun hq => by have := (Row.lt hrr _ hq).2; omega
    have hnl2 : ∀ q, (Value.slice rar (((hexR (bl s)).1.length)) rcr).ownBlock = some q → q < b4 := fun q hq => Nat.lt_of_lt_of_le (Row.lt hrr q hq).2 hle4
    replace hk1 := blk_ext hk1 he13
    replace hk3 := blk_ext hk3 he13
    replace hk5 := blk_ext hk5 he13
    replace hrp := Row.ext hrp he13
    replace hrr := Row.ext hrr he13
    replace hb := hb.trans (Below.mono he13 hb.size)
    refine sqdt hf (d_callB (v := (.string (strN (hexB (bl s))))) (vs := [(.slice (some ⟨b4, 0, none⟩) s.size C1)]) rfl Try.func32 (by kernel_rfl) (by kernel_rfl) (by have h := hex_any (bl s) (some ⟨b4, 0, none⟩) C1 _ (bl_lt s) (show RdS 1 (vInt .u8) _ (some ⟨b4, 0, none⟩) (nI (bl s)) from nums_nI s ▸ StrC.rd hk6 hs1) (by rw [bl_length]; omega); rw [bl_length] at h; exact h)) rfl rfl rfl ?_; clear hf fa; rintro fa _ w16 ⟨rfl, he14⟩ hf
    replace hk1 := blk_ext hk1 he14
    replace hk3 := blk_ext hk3 he14
    replace hk5 := blk_ext hk5 he14
    replace hk6 := blk_ext hk6 he14
    replace hrp := Row.ext hrp he14
    replace hrr := Row.ext hrr he14
    replace hb := hb.trans (Below.mono he14 hb.size)
    refine sqdt hf (d_callX (vs := [(.string (strN (hexB (bl s))))]) rfl Try.func29 (by kernel_rfl) (by kernel_rfl) (readhex_h s w16 (by omega))) rfl rfl rfl ?_; clear hf fa; rintro fa _ w17 ⟨⟨rah, rch, rfl, hrh⟩, he15⟩ hf
    replace hrh := Row.rebase hrh hb.size
    replace hk1 := blk_ext hk1 he15
    replace hk3 := blk_ext hk3 he15
    replace hk5 := blk_ext hk5 he15
    replace hk6 := blk_ext hk6 he15
    replace hrp := Row.ext hrp he15
    replace hrr := Row.ext hrr he15
    replace hb := hb.trans (Below.mono he15 hb.size)
    refine sqv hf (r_move rfl) rfl rfl rfl ?_; clear hf fa; intro fa hf
    refine sqv hf (r_extract rfl (i := 0) rfl) rfl rfl rfl ?_; clear hf fa; intro fa hf
    refine sqv hf (r_extract rfl (i := 1) rfl) rfl rfl rfl ?_; clear hf fa; intro fa hf
    refine sqv hf (r_assign rfl) rfl rfl rfl ?_; clear hf fa; intro fa hf
    refine sqv hf (r_assign rfl) rfl rfl rfl ?_; clear hf fa; intro fa hf
    apply wpList_nil
    (try simp only [Exit.then, Exit.inBlock, ↓reduceIte, Nat.reduceEqDiff])
    refine hK16 _ _ ?_
    refine wp_seq_k (fun K17 hK17 => ?_)
    refine wp_region_un (fun wq => Below w17.heap.size w17 wq) (fun w w' => Below w.heap.size w w')
      (fun V => [(fun x _ => x = (.int .i64 n)), (fun x _ => x = (.string (dS n))), (fun x _ => x = (.int .i64 n)), (fun x _ => x = (.string (dS n))), (fun x _ => x = (.bool true)), (fun x _ => x = (.bool true)), (fun x _ => x = (.bool true)), (fun x _ => x = (.bool true)), (fun x _ => x = (.bool true)), (fun x _ => x = (.int .i64 n)), (fun x _ => x = (.int .i64 n)), (fun x _ => x = (.bool true)), (fun x _ => x = (.bool true)), (fun x _ => x = (.bool true)), (fun x _ => x = (.agg #[(.int .u8 v.1), (.int .u64 v.2.1)])), (fun x _ => x = (.string (valS v))), (fun x _ => x = (.agg #[(.int .u8 v.1), (.int .u64 v.2.1)])), (fun x _ => x = (.string (valS v))), (fun x _ => x = (.bool true)), (fun x _ => x = (.bool true)), (fun x _ => x = (.bool true)), (fun x _ => x = (.string s)), (fun x wq => ∃ b, (∃ C, x = .slice (some ⟨b, 0, none⟩) s.size C ∧ s.size ≤ C) ∧ w17.heap.size ≤ b ∧ ∃ cs fr, wq.heap[b]? = some (.cells cs 5 fr) ∧ StrC cs s), (fun x _ => x = (.string (strN (hexB (bl s))))), (fun x _ => x = (.string s)), (fun x wq => ∃ b, (∃ C, x = .slice (some ⟨b, 0, none⟩) s.size C ∧ s.size ≤ C) ∧ w17.heap.size ≤ b ∧ ∃ cs fr, wq.heap[b]? = some (.cells cs 5 fr) ∧ StrC cs s), (fun x _ => x = (.string (strN (hexB (bl s))))), (fun x _ => x = (.bool true)), (fun x _ => x = (.bool true)), (fun x _ => x = (.bool true)), (fun x _ => x = (.bool true)), (fun x _ => x = (.bool true)), (fun x _ => x = (.bool true)), (fun x _ => x = (.slice rah s.size rch)), (fun x _ => x = (.string (strOfNums (nI (bl s))))), (fun x _ => x = (.string s)), (fun x _ => x = (.bool true)), (fun x _ => x = (.bool true)), (fun x _ => x = (.bool true))])
      [22, 25]
      [[], [0], [], [1, 2], [1, 3], [3, 4], [5], [5, 6], [5, 7], [8], [8], [8, 9, 10], [8, 11], [8, 12], [13], [13, 14], [13], [13, 15, 16], [13, 15, 17], [13, 18], [17, 19], [20], [20, 21], [20, 22], [20], [20, 24], [20, 23, 25], [20, 23, 26], [20, 27], [26, 28], [29], [29, 30], [29, 31], [32], [32, 33], [32], [32, 34, 35], [32, 36], [0, 1, 2, 3, 4, 5, 6, 7, 8, 9, 10, 11, 12, 13, 14, 15, 16, 17, 18, 19, 20, 21, 22, 23, 24, 25, 26, 27, 28, 29, 30, 31, 32, 33, 34, 35, 36, 37]]
      hf (by kernel_rfl) (by kernel_rfl) (fun _ => rfl) ((Below.refl _ _).drew) (fun a b h1 h2 => h1.trans (h2.mono h1.size)) (fun _ _ h => h.size) (fun V => ⟨kept_eq, kept_eq, kept_eq, kept_eq, kept_eq, kept_eq, kept_eq, kept_eq, kept_eq, kept_eq, kept_eq, kept_eq, kept_eq, kept_eq, kept_eq, kept_eq, kept_eq, kept_eq, kept_eq, kept_eq, kept_eq, kept_eq, keptStr, kept_eq, kept_eq, keptStr, kept_eq, kept_eq, kept_eq, kept_eq, kept_eq, kept_eq, kept_eq, kept_eq, kept_eq, kept_eq, kept_eq, kept_eq, kept_eq, trivial⟩) (fun _ _ _ _ _ => rfl) ?_ ?_
    · skip
      intro V
      refine ⟨fun wu0 hC hd => ?_, ?_⟩
      · clear hd
        replace hb := hb.trans (hC.mono hb.size)
        replace hk1 := blk_ext hk1 hC
        replace hk3 := blk_ext hk3 hC
        replace hk5 := blk_ext hk5 hC
        replace hk6 := blk_ext hk6 hC
        replace hrp := Row.ext hrp hC
        replace hrr := Row.ext hrr hC
        replace hrh := Row.ext hrh hC
        exact Runs.does (r_move rfl) ⟨Below.refl _ _, rfl, nofr rfl⟩
      refine ⟨fun wu1 hC hd => ?_, ?_⟩
      · obtain ⟨h0, _⟩ := hd
        skip
        replace h0 : V 0 = (.int .i64 n) := h0
        replace hb := hb.trans (hC.mono hb.size)
        replace hk1 := blk_ext hk1 hC
        replace hk3 := blk_ext hk3 hC
        replace hk5 := blk_ext hk5 hC
        replace hk6 := blk_ext hk6 hC
        replace hrp := Row.ext hrp hC
        replace hrr := Row.ext hrr hC
        replace hrh := Row.ext hrh hC
        refine Does.mono (d_callB (vs := [(.int .i64 n)]) (show [some (V 0)] = [some (.int .i64 n)] from by rw [h0]) Try.func31 (by kernel_rfl) (by kernel_rfl) (digits_any n _ hn)) (fun _ _ h => ⟨h.2, h.1, nofr rfl⟩)
      refine ⟨fun wu2 hC hd => ?_, ?_⟩
      · clear hd
        replace hb := hb.trans (hC.mono hb.size)
        replace hk1 := blk_ext hk1 hC
        replace hk3 := blk_ext hk3 hC
        replace hk5 := blk_ext hk5 hC
        replace hk6 := blk_ext hk6 hC
        replace hrp := Row.ext hrp hC
        replace hrr := Row.ext hrr hC
        replace hrh := Row.ext hrh hC
        exact Runs.does (r_move rfl) ⟨Below.refl _ _, rfl, nofr rfl⟩
      refine ⟨fun wu3 hC hd => ?_, ?_⟩
      · obtain ⟨h1, h2, _⟩ := hd
        skip
        skip
        replace h1 : V 1 = (.string (dS n)) := h1
        replace h2 : V 2 = (.int .i64 n) := h2
        replace hb := hb.trans (hC.mono hb.size)
        replace hk1 := blk_ext hk1 hC
        replace hk3 := blk_ext hk3 hC
        replace hk5 := blk_ext hk5 hC
        replace hk6 := blk_ext hk6 hC
        replace hrp := Row.ext hrp hC
        replace hrr := Row.ext hrr hC
        replace hrh := Row.ext hrh hC
        refine Does.mono (d_callB (vs := [(.int .i64 n)]) (show [some (V 2)] = [some (.int .i64 n)] from by rw [h2]) Try.func33 (by kernel_rfl) (by kernel_rfl) (rdigits_any n _ hn)) (fun _ _ h => ⟨h.2, h.1, nofr rfl⟩)
      refine ⟨fun wu4 hC hd => ?_, ?_⟩
      · obtain ⟨h1, h3, _⟩ := hd
        skip
        skip
        replace h1 : V 1 = (.string (dS n)) := h1
        replace h3 : V 3 = (.string (dS n)) := h3
        replace hb := hb.trans (hC.mono hb.size)
        replace hk1 := blk_ext hk1 hC
        replace hk3 := blk_ext hk3 hC
        replace hk5 := blk_ext hk5 hC
        replace hk6 := blk_ext hk6 hC
        replace hrp := Row.ext hrp hC
        replace hrr := Row.ext hrr hC
        replace hrh := Row.ext hrh hC
        exact Runs.does (Runs.veq (r_seq (congrArg some h1) (congrArg some h3)) (congrArg Value.bool (show _ = true from (by simp)))) ⟨Below.refl _ _, rfl, nofr rfl⟩
      refine ⟨fun wu5 hC hd => ?_, ?_⟩
      · obtain ⟨h3, h4, _⟩ := hd
        skip
        skip
        replace h3 : V 3 = (.string (dS n)) := h3
        replace h4 : V 4 = (.bool true) := h4
        replace hb := hb.trans (hC.mono hb.size)
        replace hk1 := blk_ext hk1 hC
        replace hk3 := blk_ext hk3 hC
        replace hk5 := blk_ext hk5 hC
        replace hk6 := blk_ext hk6 hC
        replace hrp := Row.ext hrp hC
        replace hrr := Row.ext hrr hC
        replace hrh := Row.ext hrh hC
        exact Runs.does (r_move (congrArg some h4)) ⟨Below.refl _ _, rfl, nofr rfl⟩
      refine ⟨fun wu6 hC hd => ?_, ?_⟩
      · obtain ⟨h5, _⟩ := hd
        skip
        replace h5 : V 5 = (.bool true) := h5
        replace hb := hb.trans (hC.mono hb.size)
        replace hk1 := blk_ext hk1 hC
        replace hk3 := blk_ext hk3 hC
        replace hk5 := blk_ext hk5 hC
        replace hk6 := blk_ext hk6 hC
        replace hrp := Row.ext hrp hC
        replace hrr := Row.ext hrr hC
        replace hrh := Row.ext hrh hC
        refine ⟨true, true, congrArg some h5, fun hact => ?_, fun hact => ?_⟩
        · exact Runs.does (r_move rfl) ⟨Below.refl _ _, rfl, nofr rfl⟩
        · exfalso; simp at hact
      refine ⟨fun wu7 hC hd => ?_, ?_⟩
      · obtain ⟨h5, h6, _⟩ := hd
        skip
        skip
        replace h5 : V 5 = (.bool true) := h5
        replace h6 : V 6 = (.bool true) := h6
        replace hb := hb.trans (hC.mono hb.size)
        replace hk1 := blk_ext hk1 hC
        replace hk3 := blk_ext hk3 hC
        replace hk5 := blk_ext hk5 hC
        replace hk6 := blk_ext hk6 hC
        replace hrp := Row.ext hrp hC
        replace hrr := Row.ext hrr hC
        replace hrh := Row.ext hrh hC
        exact Runs.does (r_pick (b := true) (congrArg some h5) (congrArg some h6) rfl rfl) ⟨Below.refl _ _, rfl, nofr rfl⟩
      refine ⟨fun wu8 hC hd => ?_, ?_⟩
      · obtain ⟨h5, h7, _⟩ := hd
        skip
        skip
        replace h5 : V 5 = (.bool true) := h5
        replace h7 : V 7 = (.bool true) := h7
        replace hb := hb.trans (hC.mono hb.size)
        replace hk1 := blk_ext hk1 hC
        replace hk3 := blk_ext hk3 hC
        replace hk5 := blk_ext hk5 hC
        replace hk6 := blk_ext hk6 hC
        replace hrp := Row.ext hrp hC
        replace hrr := Row.ext hrr hC
        replace hrh := Row.ext hrh hC
        exact Runs.does (r_move (congrArg some h7)) ⟨Below.refl _ _, rfl, nofr rfl⟩
      refine ⟨fun wu9 hC hd => ?_, ?_⟩
      · obtain ⟨h8, _⟩ := hd
        skip
        replace h8 : V 8 = (.bool true) := h8
        replace hb := hb.trans (hC.mono hb.size)
        replace hk1 := blk_ext hk1 hC
        replace hk3 := blk_ext hk3 hC
        replace hk5 := blk_ext hk5 hC
        replace hk6 := blk_ext hk6 hC
        replace hrp := Row.ext hrp hC
        replace hrr := Row.ext hrr hC
        replace hrh := Row.ext hrh hC
        refine ⟨true, true, congrArg some h8, fun hact => ?_, fun hact => ?_⟩
        · exact Runs.does (r_move rfl) ⟨Below.refl _ _, rfl, nofr rfl⟩
        · exfalso; simp at hact
      refine ⟨fun wu10 hC hd => ?_, ?_⟩
      · obtain ⟨h8, _⟩ := hd
        skip
        replace h8 : V 8 = (.bool true) := h8
        replace hb := hb.trans (hC.mono hb.size)
        replace hk1 := blk_ext hk1 hC
        replace hk3 := blk_ext hk3 hC
        replace hk5 := blk_ext hk5 hC
        replace hk6 := blk_ext hk6 hC
        replace hrp := Row.ext hrp hC
        replace hrr := Row.ext hrr hC
        replace hrh := Row.ext hrh hC
        refine ⟨true, true, congrArg some h8, fun hact => ?_, fun hact => ?_⟩
        · exact Runs.does (r_move rfl) ⟨Below.refl _ _, rfl, nofr rfl⟩
        · exfalso; simp at hact
      refine ⟨fun wu11 hC hd => ?_, ?_⟩
      · obtain ⟨h8, h9, h10, _⟩ := hd
        skip
        skip
        skip
        replace h8 : V 8 = (.bool true) := h8
        replace h9 : V 9 = (.int .i64 n) := h9
        replace h10 : V 10 = (.int .i64 n) := h10
        replace hb := hb.trans (hC.mono hb.size)
        replace hk1 := blk_ext hk1 hC
        replace hk3 := blk_ext hk3 hC
        replace hk5 := blk_ext hk5 hC
        replace hk6 := blk_ext hk6 hC
        replace hrp := Row.ext hrp hC
        replace hrr := Row.ext hrr hC
        replace hrh := Row.ext hrh hC
        refine ⟨true, true, congrArg some h8, fun hact => ?_, fun hact => ?_⟩
        · exact Runs.does (Runs.veq (r_eq (congrArg some h9) (congrArg some h10)) (congrArg Value.bool (show _ = true from (by simp)))) ⟨Below.refl _ _, rfl, nofr rfl⟩
        · exfalso; simp at hact
      refine ⟨fun wu12 hC hd => ?_, ?_⟩
      · obtain ⟨h8, h11, _⟩ := hd
        skip
        skip
        replace h8 : V 8 = (.bool true) := h8
        replace h11 : V 11 = (.bool true) := h11
        replace hb := hb.trans (hC.mono hb.size)
        replace hk1 := blk_ext hk1 hC
        replace hk3 := blk_ext hk3 hC
        replace hk5 := blk_ext hk5 hC
        replace hk6 := blk_ext hk6 hC
        replace hrp := Row.ext hrp hC
        replace hrr := Row.ext hrr hC
        replace hrh := Row.ext hrh hC
        exact Runs.does (r_pick (b := true) (congrArg some h8) (congrArg some h11) rfl rfl) ⟨Below.refl _ _, rfl, nofr rfl⟩
      refine ⟨fun wu13 hC hd => ?_, ?_⟩
      · obtain ⟨h8, h12, _⟩ := hd
        skip
        skip
        replace h8 : V 8 = (.bool true) := h8
        replace h12 : V 12 = (.bool true) := h12
        replace hb := hb.trans (hC.mono hb.size)
        replace hk1 := blk_ext hk1 hC
        replace hk3 := blk_ext hk3 hC
        replace hk5 := blk_ext hk5 hC
        replace hk6 := blk_ext hk6 hC
        replace hrp := Row.ext hrp hC
        replace hrr := Row.ext hrr hC
        replace hrh := Row.ext hrh hC
        exact Runs.does (r_move (congrArg some h12)) ⟨Below.refl _ _, rfl, nofr rfl⟩
      refine ⟨fun wu14 hC hd => ?_, ?_⟩
      · obtain ⟨h13, _⟩ := hd
        skip
        replace h13 : V 13 = (.bool true) := h13
        replace hb := hb.trans (hC.mono hb.size)
        replace hk1 := blk_ext hk1 hC
        replace hk3 := blk_ext hk3 hC
        replace hk5 := blk_ext hk5 hC
        replace hk6 := blk_ext hk6 hC
        replace hrp := Row.ext hrp hC
        replace hrr := Row.ext hrr hC
        replace hrh := Row.ext hrh hC
        refine ⟨true, true, congrArg some h13, fun hact => ?_, fun hact => ?_⟩
        · exact Runs.does (r_loadA (cs := [(.int .u8 v.1), (.int .u64 v.2.1)]) rfl Try.underlying65 rfl (by kernel_rfl) (cellsAt_blk hk1)) ⟨Below.refl _ _, rfl, nofr rfl⟩
        · exfalso; simp at hact
      refine ⟨fun wu15 hC hd => ?_, ?_⟩
      · obtain ⟨h13, h14, _⟩ := hd
        skip
        skip
        replace h13 : V 13 = (.bool true) := h13
        replace h14 : V 14 = (.agg #[(.int .u8 v.1), (.int .u64 v.2.1)]) := h14
        replace hb := hb.trans (hC.mono hb.size)
        replace hk1 := blk_ext hk1 hC
        replace hk3 := blk_ext hk3 hC
        replace hk5 := blk_ext hk5 hC
        replace hk6 := blk_ext hk6 hC
        replace hrp := Row.ext hrp hC
        replace hrr := Row.ext hrr hC
        replace hrh := Row.ext hrh hC
        refine ⟨true, true, congrArg some h13, fun hact => ?_, fun hact => ?_⟩
        · refine Does.mono (d_callB (vs := [(.agg #[(.int .u8 v.1), (.int .u64 v.2.1)])]) (show [some (V 14)] = [some (.agg #[(.int .u8 v.1), (.int .u64 v.2.1)])] from by rw [h14]) Try.func34 (by kernel_rfl) (by kernel_rfl) (opvalue_any v _ hv1 hv2)) (fun _ _ h => ⟨h.2, h.1, nofr rfl⟩)
        · exfalso; simp at hact
      refine ⟨fun wu16 hC hd => ?_, ?_⟩
      · obtain ⟨h13, _⟩ := hd
        skip
        replace h13 : V 13 = (.bool true) := h13
        replace hb := hb.trans (hC.mono hb.size)
        replace hk1 := blk_ext hk1 hC
        replace hk3 := blk_ext hk3 hC
        replace hk5 := blk_ext hk5 hC
        replace hk6 := blk_ext hk6 hC
        replace hrp := Row.ext hrp hC
        replace hrr := Row.ext hrr hC
        replace hrh := Row.ext hrh hC
        refine ⟨true, true, congrArg some h13, fun hact => ?_, fun hact => ?_⟩
        · exact Runs.does (r_loadA (cs := [(.int .u8 v.1), (.int .u64 v.2.1)]) rfl Try.underlying65 rfl (by kernel_rfl) (cellsAt_blk hk1)) ⟨Below.refl _ _, rfl, nofr rfl⟩
        · exfalso; simp at hact
      refine ⟨fun wu17 hC hd => ?_, ?_⟩
      · obtain ⟨h13, h15, h16, _⟩ := hd
        skip
        skip
        skip
        replace h13 : V 13 = (.bool true) := h13
        replace h15 : V 15 = (.string (valS v)) := h15
        replace h16 : V 16 = (.agg #[(.int .u8 v.1), (.int .u64 v.2.1)]) := h16
        replace hb := hb.trans (hC.mono hb.size)
        replace hk1 := blk_ext hk1 hC
        replace hk3 := blk_ext hk3 hC
        replace hk5 := blk_ext hk5 hC
        replace hk6 := blk_ext hk6 hC
        replace hrp := Row.ext hrp hC
        replace hrr := Row.ext hrr hC
        replace hrh := Row.ext hrh hC
        refine ⟨true, true, congrArg some h13, fun hact => ?_, fun hact => ?_⟩
        · refine Does.mono (d_callB (vs := [(.agg #[(.int .u8 v.1), (.int .u64 v.2.1)])]) (show [some (V 16)] = [some (.agg #[(.int .u8 v.1), (.int .u64 v.2.1)])] from by rw [h16]) Try.func35 (by kernel_rfl) (by kernel_rfl) (oprvalue_any v _ hv1 hv2)) (fun _ _ h => ⟨h.2, h.1, nofr rfl⟩)
        · exfalso; simp at hact
      refine ⟨fun wu18 hC hd => ?_, ?_⟩
      · obtain ⟨h13, h15, h17, _⟩ := hd
        skip
        skip
        skip
        replace h13 : V 13 = (.bool true) := h13
        replace h15 : V 15 = (.string (valS v)) := h15
        replace h17 : V 17 = (.string (valS v)) := h17
        replace hb := hb.trans (hC.mono hb.size)
        replace hk1 := blk_ext hk1 hC
        replace hk3 := blk_ext hk3 hC
        replace hk5 := blk_ext hk5 hC
        replace hk6 := blk_ext hk6 hC
        replace hrp := Row.ext hrp hC
        replace hrr := Row.ext hrr hC
        replace hrh := Row.ext hrh hC
        refine ⟨true, true, congrArg some h13, fun hact => ?_, fun hact => ?_⟩
        · exact Runs.does (Runs.veq (r_seq (congrArg some h15) (congrArg some h17)) (congrArg Value.bool (show _ = true from (by simp)))) ⟨Below.refl _ _, rfl, nofr rfl⟩
        · exfalso; simp at hact
      refine ⟨fun wu19 hC hd => ?_, ?_⟩
      · obtain ⟨h13, h18, _⟩ := hd
        skip
        skip
        replace h13 : V 13 = (.bool true) := h13
        replace h18 : V 18 = (.bool true) := h18
        replace hb := hb.trans (hC.mono hb.size)
        replace hk1 := blk_ext hk1 hC
        replace hk3 := blk_ext hk3 hC
        replace hk5 := blk_ext hk5 hC
        replace hk6 := blk_ext hk6 hC
        replace hrp := Row.ext hrp hC
        replace hrr := Row.ext hrr hC
        replace hrh := Row.ext hrh hC
        exact Runs.does (r_pick (b := true) (congrArg some h13) (congrArg some h18) rfl rfl) ⟨Below.refl _ _, rfl, nofr rfl⟩
      refine ⟨fun wu20 hC hd => ?_, ?_⟩
      · obtain ⟨h17, h19, _⟩ := hd
        skip
        skip
        replace h17 : V 17 = (.string (valS v)) := h17
        replace h19 : V 19 = (.bool true) := h19
        replace hb := hb.trans (hC.mono hb.size)
        replace hk1 := blk_ext hk1 hC
        replace hk3 := blk_ext hk3 hC
        replace hk5 := blk_ext hk5 hC
        replace hk6 := blk_ext hk6 hC
        replace hrp := Row.ext hrp hC
        replace hrr := Row.ext hrr hC
        replace hrh := Row.ext hrh hC
        exact Runs.does (r_move (congrArg some h19)) ⟨Below.refl _ _, rfl, nofr rfl⟩
      refine ⟨fun wu21 hC hd => ?_, ?_⟩
      · obtain ⟨h20, _⟩ := hd
        skip
        replace h20 : V 20 = (.bool true) := h20
        replace hb := hb.trans (hC.mono hb.size)
        replace hk1 := blk_ext hk1 hC
        replace hk3 := blk_ext hk3 hC
        replace hk5 := blk_ext hk5 hC
        replace hk6 := blk_ext hk6 hC
        replace hrp := Row.ext hrp hC
        replace hrr := Row.ext hrr hC
        replace hrh := Row.ext hrh hC
        refine ⟨true, true, congrArg some h20, fun hact => ?_, fun hact => ?_⟩
        · exact Runs.does (r_move rfl) ⟨Below.refl _ _, rfl, nofr rfl⟩
        · exfalso; simp at hact
      refine ⟨fun wu22 hC hd => ?_, ?_⟩
      · obtain ⟨h20, h21, _⟩ := hd
        skip
        skip
        replace h20 : V 20 = (.bool true) := h20
        replace h21 : V 21 = (.string s) := h21
        replace hb := hb.trans (hC.mono hb.size)
        replace hk1 := blk_ext hk1 hC
        replace hk3 := blk_ext hk3 hC
        replace hk5 := blk_ext hk5 hC
        replace hk6 := blk_ext hk6 hC
        replace hrp := Row.ext hrp hC
        replace hrr := Row.ext hrr hC
        replace hrh := Row.ext hrh hC
        refine ⟨true, true, congrArg some h20, fun hact => ?_, fun hact => ?_⟩
        · refine Does.mono (d_strb (congrArg some h21) Try.underlying9 Try.underlying43 Try.underlying5) ?_
          rintro _ w' ⟨b, C, cs, fr, rfl, hF, hF2, hF3, hF4, hF5⟩
          exact ⟨hF5, ⟨b, ⟨C, rfl, hF4⟩, Nat.le_trans hC.size hF, cs, fr, hF2, hF3⟩, isfr rfl hF (blk_lt hF2)⟩
        · exfalso; simp at hact
      refine ⟨fun wu23 hC hd => ?_, ?_⟩
      · obtain ⟨h20, h22, _⟩ := hd
        skip
        skip
        replace h20 : V 20 = (.bool true) := h20
        obtain ⟨b5, ⟨C2, h22, hcC2⟩, hle5, cs2, fr2, hk7, hs2⟩ := h22
        replace hb := hb.trans (hC.mono hb.size)
        replace hk1 := blk_ext hk1 hC
        replace hk3 := blk_ext hk3 hC
        replace hk5 := blk_ext hk5 hC
        replace hk6 := blk_ext hk6 hC
        replace hrp := Row.ext hrp hC
        replace hrr := Row.ext hrr hC
        replace hrh := Row.ext hrh hC
        refine ⟨true, true, congrArg some h20, fun hact => ?_, fun hact => ?_⟩
        · refine Does.mono (d_callB (vs := [(.slice (some ⟨b5, 0, none⟩) s.size C2)]) (show [some (V 22)] = [some (.slice (some ⟨b5, 0, none⟩) s.size C2)] from by rw [h22]) Try.func32 (by kernel_rfl) (by kernel_rfl) (by have h := hex_any (bl s) (some ⟨b5, 0, none⟩) C2 _ (bl_lt s) (show RdS 1 (vInt .u8) _ (some ⟨b5, 0, none⟩) (nI (bl s)) from nums_nI s ▸ StrC.rd hk7 hs2) (by rw [bl_length]; omega); rw [bl_length] at h; exact h)) (fun _ _ h => ⟨h.2, h.1, nofr rfl⟩)
        · exfalso; simp at hact
      refine ⟨fun wu24 hC hd => ?_, ?_⟩
      · obtain ⟨h20, _⟩ := hd
        skip
        replace h20 : V 20 = (.bool true) := h20
        replace hb := hb.trans (hC.mono hb.size)
        replace hk1 := blk_ext hk1 hC
        replace hk3 := blk_ext hk3 hC
        replace hk5 := blk_ext hk5 hC
        replace hk6 := blk_ext hk6 hC
        replace hrp := Row.ext hrp hC
        replace hrr := Row.ext hrr hC
        replace hrh := Row.ext hrh hC
        refine ⟨true, true, congrArg some h20, fun hact => ?_, fun hact => ?_⟩
        · exact Runs.does (r_move rfl) ⟨Below.refl _ _, rfl, nofr rfl⟩
        · exfalso; simp at hact
      refine ⟨fun wu25 hC hd => ?_, ?_⟩
      · obtain ⟨h20, h24, _⟩ := hd
        skip
        skip
        replace h20 : V 20 = (.bool true) := h20
        replace h24 : V 24 = (.string s) := h24
        replace hb := hb.trans (hC.mono hb.size)
        replace hk1 := blk_ext hk1 hC
        replace hk3 := blk_ext hk3 hC
        replace hk5 := blk_ext hk5 hC
        replace hk6 := blk_ext hk6 hC
        replace hrp := Row.ext hrp hC
        replace hrr := Row.ext hrr hC
        replace hrh := Row.ext hrh hC
        refine ⟨true, true, congrArg some h20, fun hact => ?_, fun hact => ?_⟩
        · refine Does.mono (d_strb (congrArg some h24) Try.underlying9 Try.underlying43 Try.underlying5) ?_
          rintro _ w' ⟨b, C, cs, fr, rfl, hF, hF2, hF3, hF4, hF5⟩
          exact ⟨hF5, ⟨b, ⟨C, rfl, hF4⟩, Nat.le_trans hC.size hF, cs, fr, hF2, hF3⟩, isfr rfl hF (blk_lt hF2)⟩
        · exfalso; simp at hact
      refine ⟨fun wu26 hC hd => ?_, ?_⟩
      · obtain ⟨h20, h23, h25, _⟩ := hd
        skip
        skip
        skip
        replace h20 : V 20 = (.bool true) := h20
        replace h23 : V 23 = (.string (strN (hexB (bl s)))) := h23
        obtain ⟨b6, ⟨C3, h25, hcC3⟩, hle6, cs3, fr3, hk8, hs3⟩ := h25
        replace hb := hb.trans (hC.mono hb.size)
        replace hk1 := blk_ext hk1 hC
        replace hk3 := blk_ext hk3 hC
        replace hk5 := blk_ext hk5 hC
        replace hk6 := blk_ext hk6 hC
        replace hrp := Row.ext hrp hC
        replace hrr := Row.ext hrr hC
        replace hrh := Row.ext hrh hC
        refine ⟨true, true, congrArg some h20, fun hact => ?_, fun hact => ?_⟩
        · refine Does.mono (d_callB (vs := [(.slice (some ⟨b6, 0, none⟩) s.size C3)]) (show [some (V 25)] = [some (.slice (some ⟨b6, 0, none⟩) s.size C3)] from by rw [h25]) Try.func36 (by kernel_rfl) (by kernel_rfl) (by have h := rhex_any (bl s) (some ⟨b6, 0, none⟩) C3 _ (bl_lt s) (show RdS 1 (vInt .u8) _ (some ⟨b6, 0, none⟩) (nI (bl s)) from nums_nI s ▸ StrC.rd hk8 hs3) (by rw [bl_length]; omega); rw [bl_length] at h; exact h)) (fun _ _ h => ⟨h.2, h.1, nofr rfl⟩)
        · exfalso; simp at hact
      refine ⟨fun wu27 hC hd => ?_, ?_⟩
      · obtain ⟨h20, h23, h26, _⟩ := hd
        skip
        skip
        skip
        replace h20 : V 20 = (.bool true) := h20
        replace h23 : V 23 = (.string (strN (hexB (bl s)))) := h23
        replace h26 : V 26 = (.string (strN (hexB (bl s)))) := h26
        replace hb := hb.trans (hC.mono hb.size)
        replace hk1 := blk_ext hk1 hC
        replace hk3 := blk_ext hk3 hC
        replace hk5 := blk_ext hk5 hC
        replace hk6 := blk_ext hk6 hC
        replace hrp := Row.ext hrp hC
        replace hrr := Row.ext hrr hC
        replace hrh := Row.ext hrh hC
        refine ⟨true, true, congrArg some h20, fun hact => ?_, fun hact => ?_⟩
        · exact Runs.does (Runs.veq (r_seq (congrArg some h23) (congrArg some h26)) (congrArg Value.bool (show _ = true from (by simp)))) ⟨Below.refl _ _, rfl, nofr rfl⟩
        · exfalso; simp at hact
      refine ⟨fun wu28 hC hd => ?_, ?_⟩
      · obtain ⟨h20, h27, _⟩ := hd
        skip
        skip
        replace h20 : V 20 = (.bool true) := h20
        replace h27 : V 27 = (.bool true) := h27
        replace hb := hb.trans (hC.mono hb.size)
        replace hk1 := blk_ext hk1 hC
        replace hk3 := blk_ext hk3 hC
        replace hk5 := blk_ext hk5 hC
        replace hk6 := blk_ext hk6 hC
        replace hrp := Row.ext hrp hC
        replace hrr := Row.ext hrr hC
        replace hrh := Row.ext hrh hC
        exact Runs.does (r_pick (b := true) (congrArg some h20) (congrArg some h27) rfl rfl) ⟨Below.refl _ _, rfl, nofr rfl⟩
      refine ⟨fun wu29 hC hd => ?_, ?_⟩
      · obtain ⟨h26, h28, _⟩ := hd
        skip
        skip
        replace h26 : V 26 = (.string (strN (hexB (bl s)))) := h26
        replace h28 : V 28 = (.bool true) := h28
        replace hb := hb.trans (hC.mono hb.size)
        replace hk1 := blk_ext hk1 hC
        replace hk3 := blk_ext hk3 hC
        replace hk5 := blk_ext hk5 hC
        replace hk6 := blk_ext hk6 hC
        replace hrp := Row.ext hrp hC
        replace hrr := Row.ext hrr hC
        replace hrh := Row.ext hrh hC
        exact Runs.does (r_move (congrArg some h28)) ⟨Below.refl _ _, rfl, nofr rfl⟩
      refine ⟨fun wu30 hC hd => ?_, ?_⟩
      · obtain ⟨h29, _⟩ := hd
        skip
        replace h29 : V 29 = (.bool true) := h29
        replace hb := hb.trans (hC.mono hb.size)
        replace hk1 := blk_ext hk1 hC
        replace hk3 := blk_ext hk3 hC
        replace hk5 := blk_ext hk5 hC
        replace hk6 := blk_ext hk6 hC
        replace hrp := Row.ext hrp hC
        replace hrr := Row.ext hrr hC
        replace hrh := Row.ext hrh hC
        refine ⟨true, true, congrArg some h29, fun hact => ?_, fun hact => ?_⟩
        · exact Runs.does (r_move rfl) ⟨Below.refl _ _, rfl, nofr rfl⟩
        · exfalso; simp at hact
      refine ⟨fun wu31 hC hd => ?_, ?_⟩
      · obtain ⟨h29, h30, _⟩ := hd
        skip
        skip
        replace h29 : V 29 = (.bool true) := h29
        replace h30 : V 30 = (.bool true) := h30
        replace hb := hb.trans (hC.mono hb.size)
        replace hk1 := blk_ext hk1 hC
        replace hk3 := blk_ext hk3 hC
        replace hk5 := blk_ext hk5 hC
        replace hk6 := blk_ext hk6 hC
        replace hrp := Row.ext hrp hC
        replace hrr := Row.ext hrr hC
        replace hrh := Row.ext hrh hC
        exact Runs.does (r_pick (b := true) (congrArg some h29) (congrArg some h30) rfl rfl) ⟨Below.refl _ _, rfl, nofr rfl⟩
      refine ⟨fun wu32 hC hd => ?_, ?_⟩
      · obtain ⟨h29, h31, _⟩ := hd
        skip
        skip
        replace h29 : V 29 = (.bool true) := h29
        replace h31 : V 31 = (.bool true) := h31
        replace hb := hb.trans (hC.mono hb.size)
        replace hk1 := blk_ext hk1 hC
        replace hk3 := blk_ext hk3 hC
        replace hk5 := blk_ext hk5 hC
        replace hk6 := blk_ext hk6 hC
        replace hrp := Row.ext hrp hC
        replace hrr := Row.ext hrr hC
        replace hrh := Row.ext hrh hC
        exact Runs.does (r_move (congrArg some h31)) ⟨Below.refl _ _, rfl, nofr rfl⟩
      refine ⟨fun wu33 hC hd => ?_, ?_⟩
      · obtain ⟨h32, _⟩ := hd
        skip
        replace h32 : V 32 = (.bool true) := h32
        replace hb := hb.trans (hC.mono hb.size)
        replace hk1 := blk_ext hk1 hC
        replace hk3 := blk_ext hk3 hC
        replace hk5 := blk_ext hk5 hC
        replace hk6 := blk_ext hk6 hC
        replace hrp := Row.ext hrp hC
        replace hrr := Row.ext hrr hC
        replace hrh := Row.ext hrh hC
        refine ⟨true, true, congrArg some h32, fun hact => ?_, fun hact => ?_⟩
        · exact Runs.does (r_move rfl) ⟨Below.refl _ _, rfl, nofr rfl⟩
        · exfalso; simp at hact
      refine ⟨fun wu34 hC hd => ?_, ?_⟩
      · obtain ⟨h32, h33, _⟩ := hd
        skip
        skip
        replace h32 : V 32 = (.bool true) := h32
        replace h33 : V 33 = (.slice rah s.size rch) := h33
        replace hb := hb.trans (hC.mono hb.size)
        replace hk1 := blk_ext hk1 hC
        replace hk3 := blk_ext hk3 hC
        replace hk5 := blk_ext hk5 hC
        replace hk6 := blk_ext hk6 hC
        replace hrp := Row.ext hrp hC
        replace hrr := Row.ext hrr hC
        replace hrh := Row.ext hrh hC
        refine ⟨true, true, congrArg some h32, fun hact => ?_, fun hact => ?_⟩
        · exact Runs.does (r_rowstr (congrArg some h33) Try.underlying43 Try.underlying5 Try.underlying9 hrh) ⟨Below.refl _ _, rfl, nofr rfl⟩
        · exfalso; simp at hact
      refine ⟨fun wu35 hC hd => ?_, ?_⟩
      · obtain ⟨h32, _⟩ := hd
        skip
        replace h32 : V 32 = (.bool true) := h32
        replace hb := hb.trans (hC.mono hb.size)
        replace hk1 := blk_ext hk1 hC
        replace hk3 := blk_ext hk3 hC
        replace hk5 := blk_ext hk5 hC
        replace hk6 := blk_ext hk6 hC
        replace hrp := Row.ext hrp hC
        replace hrr := Row.ext hrr hC
        replace hrh := Row.ext hrh hC
        refine ⟨true, true, congrArg some h32, fun hact => ?_, fun hact => ?_⟩
        · exact Runs.does (r_move rfl) ⟨Below.refl _ _, rfl, nofr rfl⟩
        · exfalso; simp at hact
      refine ⟨fun wu36 hC hd => ?_, ?_⟩
      · obtain ⟨h32, h34, h35, _⟩ := hd
        skip
        skip
        skip
        replace h32 : V 32 = (.bool true) := h32
        replace h34 : V 34 = (.string (strOfNums (nI (bl s)))) := h34
        replace h35 : V 35 = (.string s) := h35
        replace hb := hb.trans (hC.mono hb.size)
        replace hk1 := blk_ext hk1 hC
        replace hk3 := blk_ext hk3 hC
        replace hk5 := blk_ext hk5 hC
        replace hk6 := blk_ext hk6 hC
        replace hrp := Row.ext hrp hC
        replace hrr := Row.ext hrr hC
        replace hrh := Row.ext hrh hC
        refine ⟨true, true, congrArg some h32, fun hact => ?_, fun hact => ?_⟩
        · exact Runs.does (Runs.veq (r_seq (congrArg some h34) (congrArg some h35)) (congrArg Value.bool (show _ = true from (decide_eq_true (strOfNums_nI s))))) ⟨Below.refl _ _, rfl, nofr rfl⟩
        · exfalso; simp at hact
      refine ⟨fun wu37 hC hd => ?_, ?_⟩
      · obtain ⟨h32, h36, _⟩ := hd
        skip
        skip
        replace h32 : V 32 = (.bool true) := h32
        replace h36 : V 36 = (.bool true) := h36
        replace hb := hb.trans (hC.mono hb.size)
        replace hk1 := blk_ext hk1 hC
        replace hk3 := blk_ext hk3 hC
        replace hk5 := blk_ext hk5 hC
        replace hk6 := blk_ext hk6 hC
        replace hrp := Row.ext hrp hC
        replace hrr := Row.ext hrr hC
        replace hrh := Row.ext hrh hC
        exact Runs.does (r_pick (b := true) (congrArg some h32) (congrArg some h36) rfl rfl) ⟨Below.refl _ _, rfl, nofr rfl⟩
      refine ⟨fun wu38 hC hd => ?_, ?_⟩
      · obtain ⟨h0, h1, h2, h3, h4, h5, h6, h7, h8, h9, h10, h11, h12, h13, h14, h15, h16, h17, h18, h19, h20, h21, h22, h23, h24, h25, h26, h27, h28, h29, h30, h31, h32, h33, h34, h35, h36, h37, _⟩ := hd
        skip
        skip
        skip
        skip
        skip
        skip
        skip
        skip
        skip
        skip
        skip
        skip
        skip
        skip
        skip
        skip
        skip
        skip
        skip
        skip
        skip
        skip
        skip
        skip
        skip
        skip
        skip
        skip
        skip
        skip
        skip
        skip
        skip
        skip
        skip
        skip
        skip
        skip
        replace h0 : V 0 = (.int .i64 n) := h0
        replace h1 : V 1 = (.string (dS n)) := h1
        replace h2 : V 2 = (.int .i64 n) := h2
        replace h3 : V 3 = (.string (dS n)) := h3
        replace h4 : V 4 = (.bool true) := h4
        replace h5 : V 5 = (.bool true) := h5
        replace h6 : V 6 = (.bool true) := h6
        replace h7 : V 7 = (.bool true) := h7
        replace h8 : V 8 = (.bool true) := h8
        replace h9 : V 9 = (.int .i64 n) := h9
        replace h10 : V 10 = (.int .i64 n) := h10
        replace h11 : V 11 = (.bool true) := h11
        replace h12 : V 12 = (.bool true) := h12
        replace h13 : V 13 = (.bool true) := h13
        replace h14 : V 14 = (.agg #[(.int .u8 v.1), (.int .u64 v.2.1)]) := h14
        replace h15 : V 15 = (.string (valS v)) := h15
        replace h16 : V 16 = (.agg #[(.int .u8 v.1), (.int .u64 v.2.1)]) := h16
        replace h17 : V 17 = (.string (valS v)) := h17
        replace h18 : V 18 = (.bool true) := h18
        replace h19 : V 19 = (.bool true) := h19
        replace h20 : V 20 = (.bool true) := h20
        replace h21 : V 21 = (.string s) := h21
        obtain ⟨b5, ⟨C2, h22, hcC2⟩, hle5, cs2, fr2, hk7, hs2⟩ := h22
        replace h23 : V 23 = (.string (strN (hexB (bl s)))) := h23
        replace h24 : V 24 = (.string s) := h24
        obtain ⟨b6, ⟨C3, h25, hcC3⟩, hle6, cs3, fr3, hk8, hs3⟩ := h25
        replace h26 : V 26 = (.string (strN (hexB (bl s)))) := h26
        replace h27 : V 27 = (.bool true) := h27
        replace h28 : V 28 = (.bool true) := h28
        replace h29 : V 29 = (.bool true) := h29
        replace h30 : V 30 = (.bool true) := h30
        replace h31 : V 31 = (.bool true) := h31
        replace h32 : V 32 = (.bool true) := h32
        replace h33 : V 33 = (.slice rah s.size rch) := h33
        replace h34 : V 34 = (.string (strOfNums (nI (bl s)))) := h34
        replace h35 : V 35 = (.string s) := h35
        replace h36 : V 36 = (.bool true) := h36
        replace h37 : V 37 = (.bool true) := h37
        replace hb := hb.trans (hC.mono hb.size)
        replace hk1 := blk_ext hk1 hC
        replace hk3 := blk_ext hk3 hC
        replace hk5 := blk_ext hk5 hC
        replace hk6 := blk_ext hk6 hC
        replace hrp := Row.ext hrp hC
        replace hrr := Row.ext hrr hC
        replace hrh := Row.ext hrh hC
        exact Runs.does (r_assign (congrArg some h37)) ⟨Below.refl _ _, rfl, nofr rfl⟩
      trivial
    · skip
      clear hf fa; intro V w18 fa he16 hp hnb hf
      have hv0 : V 0 = (.int .i64 n) := postsHold_at hp 0 rfl
      have hv1 : V 1 = (.string (dS n)) := postsHold_at hp 1 rfl
      have hv2 : V 2 = (.int .i64 n) := postsHold_at hp 2 rfl
      have hv3 : V 3 = (.string (dS n)) := postsHold_at hp 3 rfl
      have hv4 : V 4 = (.bool true) := postsHold_at hp 4 rfl
      have hv5 : V 5 = (.bool true) := postsHold_at hp 5 rfl
      have hv6 : V 6 = (.bool true) := postsHold_at hp 6 rfl
      have hv7 : V 7 = (.bool true) := postsHold_at hp 7 rfl
      have hv8 : V 8 = (.bool true) := postsHold_at hp 8 rfl
      have hv9 : V 9 = (.int .i64 n) := postsHold_at hp 9 rfl
      have hv10 : V 10 = (.int .i64 n) := postsHold_at hp 10 rfl
      have hv11 : V 11 = (.bool true) := postsHold_at hp 11 rfl
      have hv12 : V 12 = (.bool true) := postsHold_at hp 12 rfl
      have hv13 : V 13 = (.bool true) := postsHold_at hp 13 rfl
      have hv14 : V 14 = (.agg #[(.int .u8 v.1), (.int .u64 v.2.1)]) := postsHold_at hp 14 rfl
      have hv15 : V 15 = (.string (valS v)) := postsHold_at hp 15 rfl
      have hv16 : V 16 = (.agg #[(.int .u8 v.1), (.int .u64 v.2.1)]) := postsHold_at hp 16 rfl
      have hv17 : V 17 = (.string (valS v)) := postsHold_at hp 17 rfl
      have hv18 : V 18 = (.bool true) := postsHold_at hp 18 rfl
      have hv19 : V 19 = (.bool true) := postsHold_at hp 19 rfl
      have hv20 : V 20 = (.bool true) := postsHold_at hp 20 rfl
      have hv21 : V 21 = (.string s) := postsHold_at hp 21 rfl
      have hv22 := postsHold_at hp 22 rfl
      obtain ⟨b5, ⟨C2, hv22, hcC2⟩, hle5, cs2, fr2, hk7, hs2⟩ := hv22
      have hBb5 : w.heap.size ≤ b5 := Nat.le_trans hb.size hle5
      have hv23 : V 23 = (.string (strN (hexB (bl s)))) := postsHold_at hp 23 rfl
      have hv24 : V 24 = (.string s) := postsHold_at hp 24 rfl
      have hv25 := postsHold_at hp 25 rfl
      obtain ⟨b6, ⟨C3, hv25, hcC3⟩, hle6, cs3, fr3, hk8, hs3⟩ := hv25
      have hBb6 : w.heap.size ≤ b6 := Nat.le_trans hb.size hle6
      have hv26 : V 26 = (.string (strN (hexB (bl s)))) := postsHold_at hp 26 rfl
      have hv27 : V 27 = (.bool true) := postsHold_at hp 27 rfl
      have hv28 : V 28 = (.bool true) := postsHold_at hp 28 rfl
      have hv29 : V 29 = (.bool true) := postsHold_at hp 29 rfl
      have hv30 : V 30 = (.bool true) := postsHold_at hp 30 rfl
      have hv31 : V 31 = (.bool true) := postsHold_at hp 31 rfl
      have hv32 : V 32 = (.bool true) := postsHold_at hp 32 rfl
      have hv33 : V 33 = (.slice rah s.size rch) := postsHold_at hp 33 rfl
      have hv34 : V 34 = (.string (strOfNums (nI (bl s)))) := postsHold_at hp 34 rfl
      have hv35 : V 35 = (.string s) := postsHold_at hp 35 rfl
      have hv36 : V 36 = (.bool true) := postsHold_at hp 36 rfl
      have hv37 : V 37 = (.bool true) := postsHold_at hp 37 rfl
      have hv38 : V 38 = (.bool true) := postsHold_at hp 38 rfl
      simp only [List.take_succ_cons, List.take_zero, insAll, ins, hv0, hv1, hv2, hv3, hv4, hv5, hv6, hv7, hv8, hv9, hv10, hv11, hv12, hv13, hv14, hv15, hv16, hv17, hv18, hv19, hv20, hv21, hv22, hv23, hv24, hv25, hv26, hv27, hv28, hv29, hv30, hv31, hv32, hv33, hv34, hv35, hv36, hv37, hv38] at hf
      have : b5 ≠ b6 := two_blk (i := 22) (j := 25) hnb rfl rfl rfl rfl rfl (by rw [hv22]; rfl) (by rw [hv25]; rfl)
      have : b1 < b5 := Nat.lt_of_lt_of_le (blk_lt hk1) hle5
      have : b1 < b6 := Nat.lt_of_lt_of_le (blk_lt hk1) hle6
      have : b2 < b5 := Nat.lt_of_lt_of_le (blk_lt hk3) hle5
      have : b2 < b6 := Nat.lt_of_lt_of_le (blk_lt hk3) hle6
      have : b3 < b5 := Nat.lt_of_lt_of_le (blk_lt hk5) hle5
      have : b3 < b6 := Nat.lt_of_lt_of_le (blk_lt hk5) hle6
      have : b4 < b5 := Nat.lt_of_lt_of_le (blk_lt hk6) hle5
      have : b4 < b6 := Nat.lt_of_lt_of_le (blk_lt hk6) hle6
      have hnr3 : (Value.slice rap (((hexP (bl s)).1.length)) rcp).ownBlock ≠ some b5 := fun hq => by have := (Row.lt hrp _ hq).2; have := hle5; omega
      have hnr4 : (Value.slice rap (((hexP (bl s)).1.length)) rcp).ownBlock ≠ some b6 := fun hq => by have := (Row.lt hrp _ hq).2; have := hle6; omega
      have hnr5 : (Value.slice rar (((hexR (bl s)).1.length)) rcr).ownBlock ≠ some b5 := fun hq => by have := (Row.lt hrr _ hq).2; have := hle5; omega
      have hnr6 : (Value.slice rar (((hexR (bl s)).1.length)) rcr).ownBlock ≠ some b6 := fun hq => by have := (Row.lt hrr _ hq).2; have := hle6; omega
      have hnr7 : (Value.slice rah (s.size) rch).ownBlock ≠ some b5 := fun hq => by have := (Row.lt hrh _ hq).2; have := hle5; omega
      have hnr8 : (Value.slice rah (s.size) rch).ownBlock ≠ some b6 := fun hq => by have := (Row.lt hrh _ hq).2; have := hle6; omega
      clear hp hnb hv0 hv1 hv2 hv3 hv4 hv5 hv6 hv7 hv8 hv9 hv10 hv11 hv12 hv13 hv14 hv15 hv16 hv17 hv18 hv19 hv20 hv21 hv22 hv23 hv24 hv25 hv26 hv27 hv28 hv29 hv30 hv31 hv32 hv33 hv34 hv35 hv36 hv37 hv38
      replace hk1 := blk_ext hk1 he16
      replace hk3 := blk_ext hk3 he16
      replace hk5 := blk_ext hk5 he16
      replace hk6 := blk_ext hk6 he16
      replace hrp := Row.ext hrp he16
      replace hrr := Row.ext hrr he16
      replace hrh := Row.ext hrh he16
      replace hb := hb.trans (Below.mono he16 hb.size)
      (try simp only [Exit.then, Exit.inBlock, ↓reduceIte, Nat.reduceEqDiff])
      refine hK17 _ _ ?_
      refine wp_ret ?_
      (try simp only [Exit.then, Exit.inBlock])
      refine ret1 hf rfl rfl ?_
      exact ⟨rfl, hb⟩
end Go.Proofs.Ytpalmpfkliepfaa

namespace Go.Proofs.Ytpalmpfkliepfaa.opParts
open Go.ChangeShapes Go.WideShapes Go.ChangeAt Go.RowKit
open Go.ChangeMaps (open_string shut_string)
set_option linter.unusedVariables false
set_option linter.unusedSimpArgs false

theorem own : ownKnob Try.prog.godebug = none := by kernel_rfl
theorem laidOut : laidOutB Try.prog = true := by kernel_rfl

theorem walk (n : Int) (d : MVal) (s : ByteArray) (wn : (Lit.int .i64 n).wf = true) (W : World) (g : fMVal W d) : Calls Try.prog 6 #[.int .i64 n, (.agg #[(.int .u8 d.1), (.int .u64 d.2.1)]), .string s] W fun e w' => e = .returned (.bool true) ∧ Below W.heap.size W w' := by
  simp [Lit.wf, IntKind.min, IntKind.max, IntKind.signed, IntKind.bits] at wn
  exact opParts_any n d s W (by unfold inI; omega) (fInt_u8 g.1) (fInt_u64 g.2.1)

set_option maxRecDepth 100000 in
theorem lifted (os : Os) (started : os.Started) (H : Type) (enc : TypeId × Value → H) :
    ReturnsInHanded {} Try.checked os 6 .any (Rows.opPartsSpec.pre6 enc Try.prog Try.f6 Rows.opPartsRow.domain false) (Rows.opPartsSpec.post enc Try.prog Try.f6 false true false false) := by
  refine returnsInHanded_of_change_sized (C := Try.checked) own started (by kernel_rfl) Try.func6
    (ChangeSpec.witness6 (enc := enc) (C := Try.checked) false ⟨#[], #[.int .i64 0, .agg #[.int .u8 0, .int .u64 0], .string ⟨#[]⟩], []⟩ 8 (by kernel_rfl) (by kernel_rfl) (by kernel_rfl) (by kernel_rfl)) ?_
  intro W base args ds gs before hval0 hW hcnd hsz _
  have hval : ∀ (j : Nat) t v, Try.f6.params[j]? = some t → args[j]? = some v → Value.okWide Try.prog W .any base t v := hval0
  have hW' := hW
  obtain ⟨p, q, hA0, hV, rfl, hfz, hnd⟩ := hW
  have hA : DataW.TrodAll enc Try.prog W 0 (fun _ => true) true Try.f6.params.toList args.toList ds p := hA0
  rw [Try.params6] at hA hval
  obtain ⟨v0, vs0, x0, ds0, p0, q0, hargs, rfl, rfl, h0, r0⟩ := trodAll_cons hA
  obtain ⟨v1, vs1, x1, ds1, p1, q1, rfl, rfl, rfl, h1, r1⟩ := trodAll_cons r0
  obtain ⟨v2, vs2, x2, ds2, p2, q2, rfl, rfl, rfl, h2, r2⟩ := trodAll_cons r1
  obtain ⟨rfl, rfl, rfl⟩ := trodAll_nil r2
  obtain rfl : args = #[v0, v1, v2] := by cases args; simp_all
  obtain ⟨rfl, rfl⟩ := trodVars_none hV
  have k0 := h0
  have lt0 : ∀ x ∈ p0, x.block < W.heap.size := by obtain ⟨m, hm⟩ := k0; exact DataW.trod_lt m _ _ _ hm
  obtain ⟨a0, rfl, _, _, w0⟩ := open_int Try.underlying3 (hval 0 3 v0 rfl rfl) h0
  have k1 := h1
  have lt1 : ∀ x ∈ p1, x.block < W.heap.size := by obtain ⟨m, hm⟩ := k1; exact DataW.trod_lt m _ _ _ hm
  obtain ⟨cs1, rfl, _, _⟩ : ∃ cs, v1 = .agg cs ∧ cs.size = Try.prog.cellsOf 65 ∧ Row.okWide Try.prog W .any base 65 cs := by
    have := hval 1 65 v1 rfl rfl
    simpa [Value.okWide, Try.underlying65] using this
  obtain ⟨d1, e1, g1⟩ := (rdMVal).arg h1 (weights_at hsz (j := 1) (t := 65) (by kernel_rfl) rfl)
  replace e1 : cs1 = (_ : List Value).toArray := Array.ext' (by simpa [Value.cells] using e1)
  subst e1
  have k2 := h2
  have lt2 : ∀ x ∈ p2, x.block < W.heap.size := by obtain ⟨m, hm⟩ := k2; exact DataW.trod_lt m _ _ _ hm
  obtain ⟨a2, rfl, _, _, w2⟩ := open_string Try.underlying9 (hval 2 9 v2 rfl rfl) h2
  clear hA0 hval0
  refine (walk a0 d1 a2 w0 W g1).mono fun e W' ⟨he, bel⟩ => ?_
  subst he
  exact ⟨_, rfl, _, _, _, [], _, [], hW', trodAll_mk1 (shut_bool Try.underlying4 _), (trodAll_cons_mk (Below.trod laidOut (by kernel_rfl) (of_decide_eq_true (by kernel_rfl)) k0 bel lt0) (trodAll_cons_mk (Below.trod laidOut (by kernel_rfl) (of_decide_eq_true (by kernel_rfl)) k1 bel lt1) (trodAll_cons_mk (Below.trod laidOut (by kernel_rfl) (of_decide_eq_true (by kernel_rfl)) k2 bel lt2) trodAll_mk0))), rfl, bel.frame _, fun h => by cases h⟩

theorem over : Rows.opPartsRow.holds Try.pinned (OpenSpec.ofChange Rows.opPartsSpec) :=
  OpenClaim.holds_of_wide 6 Try.f6 rfl rfl rfl rfl rfl rfl rfl ⟨rfl, rfl, rfl, rfl, rfl⟩ rfl rfl rfl rfl rfl (by kernel_rfl) Try.func6 (by kernel_rfl)
    (of_decide_eq_true (by kernel_rfl)) (by unfold Func.isWrapper; first | (rw [if_pos (by decide +kernel)]; kernel_rfl) | (rw [if_neg (by decide +kernel)]; exact ⟨rfl, rfl⟩))
    (fun os started H enc _ => lifted os started H enc)

/-- The statement. -/
theorem proved : Rows.OpPartsSaid := over
#print axioms proved
end Go.Proofs.Ytpalmpfkliepfaa.opParts
