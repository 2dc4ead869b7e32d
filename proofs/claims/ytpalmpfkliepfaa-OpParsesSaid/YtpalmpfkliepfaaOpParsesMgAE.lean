/- What is proved here: which operations may be, by the program and by the document. What is proved here: the line of an operation, by the program and by the document. What is proved here: the operation of a line: what the program's reading comes to, what the document's comes to, that they are the same, and that a line is read back: no program in sight. -/
import Derived.Test.YtpalmpfkliepfaaOpParsesMgAD
namespace Go.Proofs.Ytpalmpfkliepfaa
open Go.RowKit Ut
set_option linter.unusedVariables false
set_option linter.unusedSimpArgs false
/-- What an operation has beside its kind: numbers, names, values, bytes. -/
structure PSt where
  N : List Int
  S : List ByteArray
  A : List MVal
  D : List Nat
def OpF (w : World) (st : PSt) (aN aS aA aD : Option Addr) : Prop := RdS 1 (vInt .i64) w aN st.N ∧ RdS 1 vStr w aS st.S ∧ RdS 2 vMVal w aA st.A ∧ RdS 1 (vInt .u8) w aD (nI st.D)
theorem OpF.ext {w w' : World} {st : PSt} {aN aS aA aD : Option Addr} (h : OpF w st aN aS aA aD) (hb : Below w.heap.size w w') : OpF w' st aN aS aA aD := ⟨RdS.ext h.1 hb, RdS.ext h.2.1 hb, RdS.ext h.2.2.1 hb, RdS.ext h.2.2.2 hb⟩
def RngV (v : MVal) : Prop := (0 ≤ v.1 ∧ v.1 < 256) ∧ (0 ≤ v.2.1 ∧ v.2.1 < 18446744073709551616)
structure OpB (st : PSt) : Prop where
  n : ∀ x ∈ st.N, inI x
  s : ∀ x ∈ st.S, x.size ≤ 100000
  a : ∀ x ∈ st.A, RngV x
  d : ∀ x ∈ st.D, x < 256
  nl : st.N.length ≤ 1000000
  sl : st.S.length ≤ 1000000
  al : st.A.length ≤ 1000000
  dl : st.D.length ≤ 1000000
def Head (k : Int) (st : PSt) : Prop := ¬ wordS k = ⟨#[]⟩ ∧ st.N.length = cntB (formS k) 110 ∧ st.S.length = cntB (formS k) 115 ∧ st.D.length ≤ 4096 ∧ st.A.length ≤ 20 ∧
  (0 < st.D.length → posB (formS k) 100 < (formS k).size) ∧ (0 < st.A.length → posB (formS k) 97 < (formS k).size)
instance (k : Int) (st : PSt) : Decidable (Head k st) := by unfold Head; infer_instance
def rightP (k : Int) (st : PSt) : Bool := decide (Head k st) && st.S.all (fun s => decide (checkF s = 0)) && st.A.all vrightP
theorem right_head {k : Int} {st : PSt} (h : ¬ Head k st) : rightP k st = false := by unfold rightP; rw [decide_eq_false h]; rfl
theorem right_badS {k : Int} {st : PSt} {j : Nat} {y : ByteArray} (h : st.S[j]? = some y) (hn : ¬ checkF y = 0) : rightP k st = false := by
  cases hr : rightP k st with
  | false => rfl
  | true =>
    unfold rightP at hr
    simp only [Bool.and_eq_true, List.all_eq_true, decide_eq_true_eq] at hr
    exact absurd (hr.1.2 y (List.mem_of_getElem? h)) hn
theorem right_badA {k : Int} {st : PSt} {j : Nat} {y : MVal} (h : st.A[j]? = some y) (hn : vrightP y = false) : rightP k st = false := by
  cases hr : rightP k st with
  | false => rfl
  | true =>
    unfold rightP at hr
    simp only [Bool.and_eq_true, List.all_eq_true, decide_eq_true_eq] at hr
    rw [hr.2 y (List.mem_of_getElem? h)] at hn; cases hn
theorem right_yes {k : Int} {st : PSt} (h : Head k st) (hS : ∀ s ∈ st.S, checkF s = 0) (hA : ∀ v ∈ st.A, vrightP v = true) : rightP k st = true := by
  unfold rightP
  simp only [Bool.and_eq_true, List.all_eq_true, decide_eq_true_eq]
  exact ⟨⟨h, hS⟩, hA⟩
theorem right_split {k : Int} {st : PSt} (h : rightP k st = true) : Head k st ∧ (∀ s ∈ st.S, checkF s = 0) ∧ (∀ v ∈ st.A, vrightP v = true) := by
  unfold rightP at h
  simp only [Bool.and_eq_true, List.all_eq_true, decide_eq_true_eq] at h
  exact ⟨h.1.1, h.1.2, h.2⟩
theorem all_snoc {α : Type} {p : α → Prop} {l : List α} {j : Nat} {y : α} (h : ∀ x ∈ l.take j, p x) (hy : l[j]? = some y) (hp : p y) : ∀ x ∈ l.take (j + 1), p x := by
  rw [List.take_add_one, hy]
  intro x hx
  rcases List.mem_append.1 hx with hx | hx
  · exact h x hx
  · simp only [Option.toList, List.mem_singleton] at hx; subst hx; exact hp
theorem all_end {α : Type} {p : α → Prop} {l : List α} {j : Nat} (h : ∀ x ∈ l.take j, p x) (hj : l.length ≤ j) : ∀ x ∈ l, p x := by rwa [List.take_of_length_le hj] at h
theorem form_cnt (k : Int) : cntB (formS k) 100 = (if posB (formS k) 100 < (formS k).size then 1 else 0) ∧ cntB (formS k) 97 = (if posB (formS k) 97 < (formS k).size then 1 else 0) ∧ cntB (formS k) 110 ≤ 4 ∧ cntB (formS k) 115 ≤ 4 ∧ cntB (formS k) 100 ≤ 1 ∧ cntB (formS k) 97 ≤ 1 := by
  rcases form_cases k with ⟨_, h1, h2⟩ | rfl | rfl | rfl | rfl | rfl | rfl | rfl | rfl | rfl
  · rw [h2]; decide
  all_goals decide
theorem check_iff (s : ByteArray) : checkF s = 0 ↔ s.size ≤ 200 ∧ 0 ≤ cnt (bl s) := by
  unfold checkF
  by_cases h : 200 < s.size
  · rw [if_pos h]; omega
  · rw [if_neg h]; split <;> omega
theorem nv_bool {t : Int} {x b : Bool} (h : (decide (t ≠ 0) || !x) = b) : (decide (t = 0) && x) = !b := by
  by_cases h2 : t = 0 <;> cases x <;> simp [h2] at h ⊢ <;> subst h <;> rfl
set_option maxHeartbeats 1000000 in
set_option maxRecDepth 100000 in
theorem right_any (k : Int) (st : PSt) (aN aS aA aD : Option Addr) (cN cS cA cD : Nat) (w : World) (hF : OpF w st aN aS aA aD) (hB : OpB st) : Calls Try.prog 19 #[(.agg #[(.int .i64 k), (.slice aN st.N.length cN), (.slice aS st.S.length cS), (.slice aA st.A.length cA), (.slice aD st.D.length cD)])] w fun e w' => e = .returned (.bool (rightP k st)) ∧ Below w.heap.size w w' := by
  have hwl := word_len k
  have hsl := hB.sl
  have hal := hB.al
  have hdl := hB.dl
  have hnl := hB.nl
  have hfc := form_cnt k
  refine sx_enter (L := [(0, (.agg #[(.int .i64 k), (.slice aN st.N.length cN), (.slice aS st.S.length cS), (.slice aA st.A.length cA), (.slice aD st.D.length cD)]))]) Try.func19 rfl rfl rfl rfl (fun fa hf => ?_)
  have hb : Below w.heap.size w w := Below.refl _ _
  refine wp_seq_k (fun K1 hK1 => ?_)
  refine wp_region_lit ?_
  refine sqdt hf (d_box (cs := #[(.int .i64 k), (.slice aN st.N.length cN), (.slice aS st.S.length cS), (.slice aA st.A.length cA), (.slice aD st.D.length cD)]) rfl rfl) rfl rfl rfl ?_; clear hf fa; rintro fa _ w1 ⟨b1, rfl, hle1, hk1, he1⟩ hf
  have hBb1 : w.heap.size ≤ b1 := Nat.le_trans hb.size hle1
  replace hb := hb.trans (Below.mono he1 hb.size)
  refine sqv hf (r_assign rfl) rfl rfl rfl ?_; clear hf fa; intro fa hf
  apply wpList_nil
  (try simp only [Exit.then, Exit.inBlock, ↓reduceIte, Nat.reduceEqDiff])
  refine hK1 _ _ ?_
  refine wp_seq_k (fun K2 hK2 => ?_)
  refine wp_region_lit ?_
  refine sqv hf (r_fa rfl Try.underlying45 (f := 0) (q := 0) rfl (by kernel_rfl) rfl) rfl rfl rfl ?_; clear hf fa; intro fa hf
  refine sqv hf (r_load (v := (.int .i64 k)) rfl Try.underlying3 rfl (cell_blk hk1 rfl)) rfl rfl rfl ?_; clear hf fa; intro fa hf
  refine sqdt hf (d_callB (vs := [(.int .i64 k)]) rfl Try.func17 (by kernel_rfl) (by kernel_rfl) (form_any k _)) rfl rfl rfl ?_; clear hf fa; rintro fa _ w2 ⟨rfl, he2⟩ hf
  replace hk1 := blk_ext hk1 he2
  replace hb := hb.trans (Below.mono he2 hb.size)
  refine sqv hf (r_move rfl) rfl rfl rfl ?_; clear hf fa; intro fa hf
  refine sqv hf (r_extract rfl (i := 0) rfl) rfl rfl rfl ?_; clear hf fa; intro fa hf
  refine sqv hf (r_extract rfl (i := 1) rfl) rfl rfl rfl ?_; clear hf fa; intro fa hf
  refine sqv hf (r_assign rfl) rfl rfl rfl ?_; clear hf fa; intro fa hf
  refine sqv hf (r_assign rfl) rfl rfl rfl ?_; clear hf fa; intro fa hf
  apply wpList_nil
  (try simp only [Exit.then, Exit.inBlock, ↓reduceIte, Nat.reduceEqDiff])
  refine hK2 _ _ ?_
  refine wp_seq_k (fun K3 hK3 => ?_)
  refine wp_seq_k (fun K4 hK4 => ?_)
  obtain ⟨c1, hc1⟩ : ∃ b, decide (wordS k = ⟨#[]⟩) = b := ⟨_, rfl⟩
  obtain ⟨c2, hc2⟩ : ∃ b, decide (((st.N.length : Nat) : Int) ≠ ((cntB (formS k) 110 : Nat) : Int)) = b := ⟨_, rfl⟩
  obtain ⟨c3, hc3⟩ : ∃ b, decide (((st.S.length : Nat) : Int) ≠ ((cntB (formS k) 115 : Nat) : Int)) = b := ⟨_, rfl⟩
  refine wp_region_un (fun wq => Below w2.heap.size w2 wq) (fun w w' => Below w.heap.size w w')
    (fun V => [(fun x _ => x = (.string (wordS k))), (fun x _ => x = (.bool c1)), (fun x _ => x = (.bool c1)), (fun x _ => x = (gb (!c1) (.pointer (some ⟨b1, 1, none⟩)))), (fun x _ => x = (gb (!c1) (.slice aN st.N.length cN))), (fun x _ => x = (gb (!c1) (.int .i64 ((st.N.length : Nat) : Int)))), (fun x _ => x = (gb (!c1) (.string (formS k)))), (fun x _ => x = (gb (!c1) (.int .i64 (((cntB (formS k) 110) : Nat) : Int)))), (fun x _ => x = (gb (!c1) (.bool c2))), (fun x _ => x = (.bool (c1 || c2))), (fun x _ => x = (.bool (c1 || c2))), (fun x _ => x = (gb (!(c1 || c2)) (.pointer (some ⟨b1, 2, none⟩)))), (fun x _ => x = (gb (!(c1 || c2)) (.slice aS st.S.length cS))), (fun x _ => x = (gb (!(c1 || c2)) (.int .i64 ((st.S.length : Nat) : Int)))), (fun x _ => x = (gb (!(c1 || c2)) (.string (formS k)))), (fun x _ => x = (gb (!(c1 || c2)) (.int .i64 (((cntB (formS k) 115) : Nat) : Int)))), (fun x _ => x = (gb (!(c1 || c2)) (.bool c3))), (fun x _ => x = (.bool ((c1 || c2) || c3)))])
    []
    [[], [0], [1], [2], [2, 3], [2, 4], [2], [2, 6], [2, 5, 7], [2, 8], [7, 9], [10], [10, 11], [10, 12], [10], [10, 14], [10, 13, 15], [10, 16]]
    hf (by kernel_rfl) (by kernel_rfl) (fun _ => rfl) ((Below.refl _ _).drew) (fun a b h1 h2 => h1.trans (h2.mono h1.size)) (fun _ _ h => h.size) (fun V => ⟨kept_eq, kept_eq, kept_eq, kept_eq, kept_eq, kept_eq, kept_eq, kept_eq, kept_eq, kept_eq, kept_eq, kept_eq, kept_eq, kept_eq, kept_eq, kept_eq, kept_eq, kept_eq, trivial⟩) (fun _ _ _ _ _ => rfl) ?_ ?_
  · skip
    intro V
    refine ⟨fun wu0 hC hd => ?_, ?_⟩
    · clear hd
      replace hb := hb.trans (hC.mono hb.size)
      replace hk1 := blk_ext hk1 hC
      exact Runs.does (r_move rfl) ⟨Below.refl _ _, rfl, nofr rfl⟩
    refine ⟨fun wu1 hC hd => ?_, ?_⟩
    · obtain ⟨h0, _⟩ := hd
      skip
      replace h0 : V 0 = (.string (wordS k)) := h0
      replace hb := hb.trans (hC.mono hb.size)
      replace hk1 := blk_ext hk1 hC
      exact Runs.does (Runs.veq (r_seq (congrArg some h0) rfl) (congrArg Value.bool (show _ = c1 from hc1))) ⟨Below.refl _ _, rfl, nofr rfl⟩
    refine ⟨fun wu2 hC hd => ?_, ?_⟩
    · obtain ⟨h1, _⟩ := hd
      skip
      replace h1 : V 1 = (.bool c1) := h1
      replace hb := hb.trans (hC.mono hb.size)
      replace hk1 := blk_ext hk1 hC
      exact Runs.does (r_move (congrArg some h1)) ⟨Below.refl _ _, rfl, nofr rfl⟩
    refine ⟨fun wu3 hC hd => ?_, ?_⟩
    · obtain ⟨h2, _⟩ := hd
      skip
      replace h2 : V 2 = (.bool c1) := h2
      replace hb := hb.trans (hC.mono hb.size)
      replace hk1 := blk_ext hk1 hC
      refine ⟨true, c1, congrArg some h2, fun hact => ?_, fun hact => ?_⟩
      · replace hact : (!c1) = true := by simpa using hact
        refine Runs.does (v := (.pointer (some ⟨b1, 1, none⟩))) (r_fa rfl Try.underlying45 (f := 1) (q := 1) rfl (by kernel_rfl) rfl) ⟨Below.refl _ _, ?_, nofr rfl⟩
        show _ = gb _ _; rw [hact]; rfl
      · replace hact : (!c1) = false := by simpa using hact
        refine ⟨Below.refl _ _, ?_, nofr rfl⟩
        show _ = gb _ _; rw [hact]; rfl
    refine ⟨fun wu4 hC hd => ?_, ?_⟩
    · obtain ⟨h2, h3, _⟩ := hd
      skip
      skip
      replace h2 : V 2 = (.bool c1) := h2
      replace h3 : V 3 = (gb (!c1) (.pointer (some ⟨b1, 1, none⟩))) := h3
      replace hb := hb.trans (hC.mono hb.size)
      replace hk1 := blk_ext hk1 hC
      refine ⟨true, c1, congrArg some h2, fun hact => ?_, fun hact => ?_⟩
      · replace hact : (!c1) = true := by simpa using hact
        refine Runs.does (v := (.slice aN st.N.length cN)) (r_load (v := (.slice aN st.N.length cN)) (gb_ev hact (congrArg some h3)) Try.underlying41 rfl (cell_blk hk1 rfl)) ⟨Below.refl _ _, ?_, nofr rfl⟩
        show _ = gb _ _; rw [hact]; rfl
      · replace hact : (!c1) = false := by simpa using hact
        refine ⟨Below.refl _ _, ?_, nofr rfl⟩
        show _ = gb _ _; rw [hact]; rfl
    refine ⟨fun wu5 hC hd => ?_, ?_⟩
    · obtain ⟨h2, h4, _⟩ := hd
      skip
      skip
      replace h2 : V 2 = (.bool c1) := h2
      replace h4 : V 4 = (gb (!c1) (.slice aN st.N.length cN)) := h4
      replace hb := hb.trans (hC.mono hb.size)
      replace hk1 := blk_ext hk1 hC
      refine ⟨true, c1, congrArg some h2, fun hact => ?_, fun hact => ?_⟩
      · replace hact : (!c1) = true := by simpa using hact
        refine Runs.does (v := (.int .i64 ((st.N.length : Nat) : Int))) (r_lensl (gb_ev hact (congrArg some h4)) Try.underlying41) ⟨Below.refl _ _, ?_, nofr rfl⟩
        show _ = gb _ _; rw [hact]; rfl
      · replace hact : (!c1) = false := by simpa using hact
        refine ⟨Below.refl _ _, ?_, nofr rfl⟩
        show _ = gb _ _; rw [hact]; rfl
    refine ⟨fun wu6 hC hd => ?_, ?_⟩
    · obtain ⟨h2, _⟩ := hd
      skip
      replace h2 : V 2 = (.bool c1) := h2
      replace hb := hb.trans (hC.mono hb.size)
      replace hk1 := blk_ext hk1 hC
      refine ⟨true, c1, congrArg some h2, fun hact => ?_, fun hact => ?_⟩
      · replace hact : (!c1) = true := by simpa using hact
        refine Runs.does (v := (.string (formS k))) (r_move rfl) ⟨Below.refl _ _, ?_, nofr rfl⟩
        show _ = gb _ _; rw [hact]; rfl
      · replace hact : (!c1) = false := by simpa using hact
        refine ⟨Below.refl _ _, ?_, nofr rfl⟩
        show _ = gb _ _; rw [hact]; rfl
    refine ⟨fun wu7 hC hd => ?_, ?_⟩
    · obtain ⟨h2, h6, _⟩ := hd
      skip
      skip
      replace h2 : V 2 = (.bool c1) := h2
      replace h6 : V 6 = (gb (!c1) (.string (formS k))) := h6
      replace hb := hb.trans (hC.mono hb.size)
      replace hk1 := blk_ext hk1 hC
      refine ⟨true, c1, congrArg some h2, fun hact => ?_, fun hact => ?_⟩
      · replace hact : (!c1) = true := by simpa using hact
        refine Does.mono (d_callS (vs := [(.string (formS k)), (.string ⟨#[110]⟩)]) (cons_ev (gb_ev hact (congrArg some h6)) (cons_ev rfl rfl)) Try.func54 (by kernel_rfl) (by kernel_rfl) (count_any (formS k) 110 _)) (fun _ _ h => ⟨h.2 ▸ Below.refl _ _, ?_, nofr rfl⟩)
        show _ = gb _ _; rw [hact]; exact h.1
      · replace hact : (!c1) = false := by simpa using hact
        refine ⟨Below.refl _ _, ?_, nofr rfl⟩
        show _ = gb _ _; rw [hact]; rfl
    refine ⟨fun wu8 hC hd => ?_, ?_⟩
    · obtain ⟨h2, h5, h7, _⟩ := hd
      skip
      skip
      skip
      replace h2 : V 2 = (.bool c1) := h2
      replace h5 : V 5 = (gb (!c1) (.int .i64 ((st.N.length : Nat) : Int))) := h5
      replace h7 : V 7 = (gb (!c1) (.int .i64 (((cntB (formS k) 110) : Nat) : Int))) := h7
      replace hb := hb.trans (hC.mono hb.size)
      replace hk1 := blk_ext hk1 hC
      refine ⟨true, c1, congrArg some h2, fun hact => ?_, fun hact => ?_⟩
      · replace hact : (!c1) = true := by simpa using hact
        refine Runs.does (v := (.bool c2)) (Runs.veq (r_ne (gb_ev hact (congrArg some h5)) (gb_ev hact (congrArg some h7))) (congrArg Value.bool (show _ = c2 from hc2))) ⟨Below.refl _ _, ?_, nofr rfl⟩
        show _ = gb _ _; rw [hact]; rfl
      · replace hact : (!c1) = false := by simpa using hact
        refine ⟨Below.refl _ _, ?_, nofr rfl⟩
        show _ = gb _ _; rw [hact]; rfl
    refine ⟨fun wu9 hC hd => ?_, ?_⟩
    · obtain ⟨h2, h8, _⟩ := hd
      skip
      skip
      replace h2 : V 2 = (.bool c1) := h2
      replace h8 : V 8 = (gb (!c1) (.bool c2)) := h8
      replace hb := hb.trans (hC.mono hb.size)
      replace hk1 := blk_ext hk1 hC
      exact Runs.does (r_pickO (b := c1) (e := c2) (congrArg some h2) rfl (congrArg some h8)) ⟨Below.refl _ _, rfl, nofr rfl⟩
    refine ⟨fun wu10 hC hd => ?_, ?_⟩
    · obtain ⟨h7, h9, _⟩ := hd
      skip
      skip
      replace h7 : V 7 = (gb (!c1) (.int .i64 (((cntB (formS k) 110) : Nat) : Int))) := h7
      replace h9 : V 9 = (.bool (c1 || c2)) := h9
      replace hb := hb.trans (hC.mono hb.size)
      replace hk1 := blk_ext hk1 hC
      exact Runs.does (r_move (congrArg some h9)) ⟨Below.refl _ _, rfl, nofr rfl⟩
    refine ⟨fun wu11 hC hd => ?_, ?_⟩
    · obtain ⟨h10, _⟩ := hd
      skip
      replace h10 : V 10 = (.bool (c1 || c2)) := h10
      replace hb := hb.trans (hC.mono hb.size)
      replace hk1 := blk_ext hk1 hC
      refine ⟨true, (c1 || c2), congrArg some h10, fun hact => ?_, fun hact => ?_⟩
      · replace hact : (!(c1 || c2)) = true := by simpa using hact
        refine Runs.does (v := (.pointer (some ⟨b1, 2, none⟩))) (r_fa rfl Try.underlying45 (f := 2) (q := 2) rfl (by kernel_rfl) rfl) ⟨Below.refl _ _, ?_, nofr rfl⟩
        show _ = gb _ _; rw [hact]; rfl
      · replace hact : (!(c1 || c2)) = false := by simpa using hact
        refine ⟨Below.refl _ _, ?_, nofr rfl⟩
        show _ = gb _ _; rw [hact]; rfl
    refine ⟨fun wu12 hC hd => ?_, ?_⟩
    · obtain ⟨h10, h11, _⟩ := hd
      skip
      skip
      replace h10 : V 10 = (.bool (c1 || c2)) := h10
      replace h11 : V 11 = (gb (!(c1 || c2)) (.pointer (some ⟨b1, 2, none⟩))) := h11
      replace hb := hb.trans (hC.mono hb.size)
      replace hk1 := blk_ext hk1 hC
      refine ⟨true, (c1 || c2), congrArg some h10, fun hact => ?_, fun hact => ?_⟩
      · replace hact : (!(c1 || c2)) = true := by simpa using hact
        refine Runs.does (v := (.slice aS st.S.length cS)) (r_load (v := (.slice aS st.S.length cS)) (gb_ev hact (congrArg some h11)) Try.underlying32 rfl (cell_blk hk1 rfl)) ⟨Below.refl _ _, ?_, nofr rfl⟩
        show _ = gb _ _; rw [hact]; rfl
      · replace hact : (!(c1 || c2)) = false := by simpa using hact
        refine ⟨Below.refl _ _, ?_, nofr rfl⟩
        show _ = gb _ _; rw [hact]; rfl
    refine ⟨fun wu13 hC hd => ?_, ?_⟩
    · obtain ⟨h10, h12, _⟩ := hd
      skip
      skip
      replace h10 : V 10 = (.bool (c1 || c2)) := h10
      replace h12 : V 12 = (gb (!(c1 || c2)) (.slice aS st.S.length cS)) := h12
      replace hb := hb.trans (hC.mono hb.size)
      replace hk1 := blk_ext hk1 hC
      refine ⟨true, (c1 || c2), congrArg some h10, fun hact => ?_, fun hact => ?_⟩
      · replace hact : (!(c1 || c2)) = true := by simpa using hact
        refine Runs.does (v := (.int .i64 ((st.S.length : Nat) : Int))) (r_lensl (gb_ev hact (congrArg some h12)) Try.underlying32) ⟨Below.refl _ _, ?_, nofr rfl⟩
        show _ = gb _ _; rw [hact]; rfl
      · replace hact : (!(c1 || c2)) = false := by simpa using hact
        refine ⟨Below.refl _ _, ?_, nofr rfl⟩
        show _ = gb _ _; rw [hact]; rfl
    refine ⟨fun wu14 hC hd => ?_, ?_⟩
    · obtain ⟨h10, _⟩ := hd
      skip
      replace h10 : V 10 = (.bool (c1 || c2)) := h10
      replace hb := hb.trans (hC.mono hb.size)
      replace hk1 := blk_ext hk1 hC
      refine ⟨true, (c1 || c2), congrArg some h10, fun hact => ?_, fun hact => ?_⟩
      · replace hact : (!(c1 || c2)) = true := by simpa using hact
        refine Runs.does (v := (.string (formS k))) (r_move rfl) ⟨Below.refl _ _, ?_, nofr rfl⟩
        show _ = gb _ _; rw [hact]; rfl
      · replace hact : (!(c1 || c2)) = false := by simpa using hact
        refine ⟨Below.refl _ _, ?_, nofr rfl⟩
        show _ = gb _ _; rw [hact]; rfl
    refine ⟨fun wu15 hC hd => ?_, ?_⟩
    · obtain ⟨h10, h14, _⟩ := hd
      skip
      skip
      replace h10 : V 10 = (.bool (c1 || c2)) := h10
      replace h14 : V 14 = (gb (!(c1 || c2)) (.string (formS k))) := h14
      replace hb := hb.trans (hC.mono hb.size)
      replace hk1 := blk_ext hk1 hC
      refine ⟨true, (c1 || c2), congrArg some h10, fun hact => ?_, fun hact => ?_⟩
      · replace hact : (!(c1 || c2)) = true := by simpa using hact
        refine Does.mono (d_callS (vs := [(.string (formS k)), (.string ⟨#[115]⟩)]) (cons_ev (gb_ev hact (congrArg some h14)) (cons_ev rfl rfl)) Try.func54 (by kernel_rfl) (by kernel_rfl) (count_any (formS k) 115 _)) (fun _ _ h => ⟨h.2 ▸ Below.refl _ _, ?_, nofr rfl⟩)
        show _ = gb _ _; rw [hact]; exact h.1
      · replace hact : (!(c1 || c2)) = false := by simpa using hact
        refine ⟨Below.refl _ _, ?_, nofr rfl⟩
        show _ = gb _ _; rw [hact]; rfl
    refine ⟨fun wu16 hC hd => ?_, ?_⟩
    · obtain ⟨h10, h13, h15, _⟩ := hd
      skip
      skip
      skip
      replace h10 : V 10 = (.bool (c1 || c2)) := h10
      replace h13 : V 13 = (gb (!(c1 || c2)) (.int .i64 ((st.S.length : Nat) : Int))) := h13
      replace h15 : V 15 = (gb (!(c1 || c2)) (.int .i64 (((cntB (formS k) 115) : Nat) : Int))) := h15
      replace hb := hb.trans (hC.mono hb.size)
      replace hk1 := blk_ext hk1 hC
      refine ⟨true, (c1 || c2), congrArg some h10, fun hact => ?_, fun hact => ?_⟩
      · replace hact : (!(c1 || c2)) = true := by simpa using hact
        refine Runs.does (v := (.bool c3)) (Runs.veq (r_ne (gb_ev hact (congrArg some h13)) (gb_ev hact (congrArg some h15))) (congrArg Value.bool (show _ = c3 from hc3))) ⟨Below.refl _ _, ?_, nofr rfl⟩
        show _ = gb _ _; rw [hact]; rfl
      · replace hact : (!(c1 || c2)) = false := by simpa using hact
        refine ⟨Below.refl _ _, ?_, nofr rfl⟩
        show _ = gb _ _; rw [hact]; rfl
    refine ⟨fun wu17 hC hd => ?_, ?_⟩
    · obtain ⟨h10, h16, _⟩ := hd
      skip
      skip
      replace h10 : V 10 = (.bool (c1 || c2)) := h10
      replace h16 : V 16 = (gb (!(c1 || c2)) (.bool c3)) := h16
      replace hb := hb.trans (hC.mono hb.size)
      replace hk1 := blk_ext hk1 hC
      exact Runs.does (r_pickO (b := (c1 || c2)) (e := c3) (congrArg some h10) rfl (congrArg some h16)) ⟨Below.refl _ _, rfl, nofr rfl⟩
    trivial
  · skip
    clear hf fa; intro V w3 fa he3 hp hnb hf
    have hv0 : V 0 = (.string (wordS k)) := postsHold_at hp 0 rfl
    have hv1 : V 1 = (.bool c1) := postsHold_at hp 1 rfl
    have hv2 : V 2 = (.bool c1) := postsHold_at hp 2 rfl
    have hv3 : V 3 = (gb (!c1) (.pointer (some ⟨b1, 1, none⟩))) := postsHold_at hp 3 rfl
    have hv4 : V 4 = (gb (!c1) (.slice aN st.N.length cN)) := postsHold_at hp 4 rfl
    have hv5 : V 5 = (gb (!c1) (.int .i64 ((st.N.length : Nat) : Int))) := postsHold_at hp 5 rfl
    have hv6 : V 6 = (gb (!c1) (.string (formS k))) := postsHold_at hp 6 rfl
    have hv7 : V 7 = (gb (!c1) (.int .i64 (((cntB (formS k) 110) : Nat) : Int))) := postsHold_at hp 7 rfl
    have hv8 : V 8 = (gb (!c1) (.bool c2)) := postsHold_at hp 8 rfl
    have hv9 : V 9 = (.bool (c1 || c2)) := postsHold_at hp 9 rfl
    have hv10 : V 10 = (.bool (c1 || c2)) := postsHold_at hp 10 rfl
    have hv11 : V 11 = (gb (!(c1 || c2)) (.pointer (some ⟨b1, 2, none⟩))) := postsHold_at hp 11 rfl
    have hv12 : V 12 = (gb (!(c1 || c2)) (.slice aS st.S.length cS)) := postsHold_at hp 12 rfl
    have hv13 : V 13 = (gb (!(c1 || c2)) (.int .i64 ((st.S.length : Nat) : Int))) := postsHold_at hp 13 rfl
    have hv14 : V 14 = (gb (!(c1 || c2)) (.string (formS k))) := postsHold_at hp 14 rfl
    have hv15 : V 15 = (gb (!(c1 || c2)) (.int .i64 (((cntB (formS k) 115) : Nat) : Int))) := postsHold_at hp 15 rfl
    have hv16 : V 16 = (gb (!(c1 || c2)) (.bool c3)) := postsHold_at hp 16 rfl
    have hv17 : V 17 = (.bool ((c1 || c2) || c3)) := postsHold_at hp 17 rfl
    simp only [List.take_succ_cons, List.take_zero, insAll, ins, hv0, hv1, hv2, hv3, hv4, hv5, hv6, hv7, hv8, hv9, hv10, hv11, hv12, hv13, hv14, hv15, hv16, hv17] at hf
    clear hp hnb hv0 hv1 hv2 hv3 hv4 hv5 hv6 hv7 hv8 hv9 hv10 hv11 hv12 hv13 hv14 hv15 hv16 hv17
    replace hk1 := blk_ext hk1 he3
    replace hb := hb.trans (Below.mono he3 hb.size)
    (try simp only [Exit.then, Exit.inBlock, ↓reduceIte, Nat.reduceEqDiff])
    refine hK4 _ _ ?_
    refine wp_cond_split (t := ((c1 || c2) || c3)) (hf.ev rfl) (fun hqt32_1 => ?_) (fun hqt32_1 => ?_)
    · have hqt32_1b := hqt32_1
      try simp only [decide_eq_true_eq, Bool.and_eq_true, Bool.or_eq_true, Bool.not_eq_true', decide_eq_false_iff_not, ne_eq, Bool.not_eq_true] at hqt32_1
      refine wp_seq_k (fun K5 hK5 => ?_)
      refine wp_region_lit ?_
      refine sqv hf (r_assign rfl) rfl rfl rfl ?_; clear hf fa; intro fa hf
      apply wpList_nil
      (try simp only [Exit.then, Exit.inBlock, ↓reduceIte, Nat.reduceEqDiff])
      refine hK5 _ _ ?_
      refine wp_ret ?_
      (try simp only [Exit.then, Exit.inBlock])
      refine ret1 hf rfl rfl ?_
      refine ⟨?_, hb⟩; rw [right_head (by rintro ⟨h1, h2, h3, _⟩; have hX := hqt32_1; simp only [← hc1, ← hc2, ← hc3, decide_eq_true_eq, decide_eq_false_iff_not, ne_eq] at hX; rcases hX with (h | h) | h; exact h1 h; omega; omega)]
    · have hqt32_1b := hqt32_1
      replace hqt32_1 := Bool.eq_false_iff.1 hqt32_1
      try simp only [ne_eq, decide_eq_true_eq, Bool.and_eq_true, Bool.or_eq_true, Bool.not_eq_true', decide_eq_false_iff_not] at hqt32_1
      refine wp_skip ?_
      (try simp only [Exit.then, Exit.inBlock, ↓reduceIte, Nat.reduceEqDiff])
      refine hK3 _ _ ?_
      refine wp_seq_k (fun K6 hK6 => ?_)
      refine wp_seq_k (fun K7 hK7 => ?_)
      obtain ⟨d1, hd1⟩ : ∃ b, decide ((4096 : Int) < ((st.D.length : Nat) : Int)) = b := ⟨_, rfl⟩
      obtain ⟨d2, hd2⟩ : ∃ b, decide ((20 : Int) < ((st.A.length : Nat) : Int)) = b := ⟨_, rfl⟩
      obtain ⟨d3, hd3⟩ : ∃ b, decide ((0 : Int) < ((st.D.length : Nat) : Int)) = b := ⟨_, rfl⟩
      obtain ⟨d4, hd4⟩ : ∃ b, decide ((0 : Int) < ((st.A.length : Nat) : Int)) = b := ⟨_, rfl⟩
      obtain ⟨p1, hp1⟩ : ∃ b, decide (posB (formS k) 100 < (formS k).size) = b := ⟨_, rfl⟩
      obtain ⟨p2, hp2⟩ : ∃ b, decide (posB (formS k) 97 < (formS k).size) = b := ⟨_, rfl⟩
      refine wp_region_lit ?_
      refine sqv hf (r_fa rfl Try.underlying45 (f := 4) (q := 4) rfl (by kernel_rfl) rfl) rfl rfl rfl ?_; clear hf fa; intro fa hf
      refine sqv hf (r_load (v := (.slice aD st.D.length cD)) rfl Try.underlying43 rfl (cell_blk hk1 rfl)) rfl rfl rfl ?_; clear hf fa; intro fa hf
      refine sqv hf (r_lensl rfl Try.underlying43) rfl rfl rfl ?_; clear hf fa; intro fa hf
      refine sqv hf (Runs.veq (r_gt rfl rfl) (congrArg Value.bool (show _ = d1 from hd1))) rfl rfl rfl ?_; clear hf fa; intro fa hf
      refine sqv hf (r_move rfl) rfl rfl rfl ?_; clear hf fa; intro fa hf
      refine sqgF (act := (!d1)) (ag := true) (c := d1) (v := (.pointer (some ⟨b1, 3, none⟩))) hf rfl rfl rfl (fun hact => (r_fa rfl Try.underlying45 (f := 3) (q := 3) rfl (by kernel_rfl) rfl)) rfl rfl ?_; clear hf fa; intro fa hf
      refine sqgF (act := (!d1)) (ag := true) (c := d1) (v := (.slice aA st.A.length cA)) hf rfl rfl rfl (fun hact => (r_load (v := (.slice aA st.A.length cA)) (gb_ev hact rfl) Try.underlying42 rfl (cell_blk hk1 rfl))) rfl rfl ?_; clear hf fa; intro fa hf
      refine sqgF (act := (!d1)) (ag := true) (c := d1) (v := (.int .i64 ((st.A.length : Nat) : Int))) hf rfl rfl rfl (fun hact => (r_lensl (gb_ev hact rfl) Try.underlying42)) rfl rfl ?_; clear hf fa; intro fa hf
      refine sqgF (act := (!d1)) (ag := true) (c := d1) (v := (.bool d2)) hf rfl rfl rfl (fun hact => (Runs.veq (r_gt (gb_ev hact rfl) rfl) (congrArg Value.bool (show _ = d2 from hd2)))) rfl rfl ?_; clear hf fa; intro fa hf
      refine sqv hf (r_pickO (b := d1) (e := d2) rfl rfl rfl) rfl rfl rfl ?_; clear hf fa; intro fa hf
      refine sqv hf (r_move rfl) rfl rfl rfl ?_; clear hf fa; intro fa hf
      refine sqgF (act := (!(d1 || d2))) (ag := true) (c := (d1 || d2)) (v := (.pointer (some ⟨b1, 4, none⟩))) hf rfl rfl rfl (fun hact => (r_fa rfl Try.underlying45 (f := 4) (q := 4) rfl (by kernel_rfl) rfl)) rfl rfl ?_; clear hf fa; intro fa hf
      refine sqgF (act := (!(d1 || d2))) (ag := true) (c := (d1 || d2)) (v := (.slice aD st.D.length cD)) hf rfl rfl rfl (fun hact => (r_load (v := (.slice aD st.D.length cD)) (gb_ev hact rfl) Try.underlying43 rfl (cell_blk hk1 rfl))) rfl rfl ?_; clear hf fa; intro fa hf
      refine sqgF (act := (!(d1 || d2))) (ag := true) (c := (d1 || d2)) (v := (.int .i64 ((st.D.length : Nat) : Int))) hf rfl rfl rfl (fun hact => (r_lensl (gb_ev hact rfl) Try.underlying43)) rfl rfl ?_; clear hf fa; intro fa hf
      refine sqgF (act := (!(d1 || d2))) (ag := true) (c := (d1 || d2)) (v := (.bool d3)) hf rfl rfl rfl (fun hact => (Runs.veq (r_gt (gb_ev hact rfl) rfl) (congrArg Value.bool (show _ = d3 from hd3)))) rfl rfl ?_; clear hf fa; intro fa hf
      refine sqgF (act := (!(d1 || d2))) (ag := true) (c := (d1 || d2)) (v := (.bool d3)) hf rfl rfl rfl (fun hact => (r_move (gb_ev hact rfl))) rfl rfl ?_; clear hf fa; intro fa hf
      refine sqgT (act := ((!(d1 || d2)) && d3)) (ag := (!(d1 || d2))) (c := d3) (v := (.string (formS k))) hf rfl rfl rfl (fun hact => (r_move rfl)) rfl rfl ?_; clear hf fa; intro fa hf
      refine sqgd (R := fun vq wq => vq = gb ((!(d1 || d2)) && d3) (.bool p1) ∧ w3 = wq) (act := ((!(d1 || d2)) && d3)) (g := 15) (want := true) (ag := (!(d1 || d2))) (c := d3) hf (by rfl) (by rfl) (act_T _ _) (fun hact => (d_callS (vs := [(.string (formS k)), (.string ⟨#[100]⟩)]) (cons_ev (gb_ev hact rfl) (cons_ev rfl rfl)) Try.func55 (by kernel_rfl) (by kernel_rfl) (by have h := contains_any (formS k) 100 w3; rw [show decide (posB (formS k) (UInt8.toNat 100) < (formS k).size) = p1 from hp1] at h; exact h)).mono (fun _ _ h => ⟨by rw [h.1, hact]; rfl, h.2⟩)) (fun h => ⟨by rw [h]; rfl, rfl⟩) rfl ?_; clear hf fa; rintro fa _ _ ⟨rfl, rfl⟩ hf
      change Fr _ _ ((50, (gb ((!(d1 || d2)) && d3) (.bool p1))) :: _) at hf
      refine sqgT (act := ((!(d1 || d2)) && d3)) (ag := (!(d1 || d2))) (c := d3) (v := (.bool (!p1))) hf rfl rfl rfl (fun hact => (r_not (gb_ev hact rfl))) rfl rfl ?_; clear hf fa; intro fa hf
      refine sqgF (act := (!(d1 || d2))) (ag := true) (c := (d1 || d2)) (v := (.bool (d3 && (!p1)))) hf rfl rfl rfl (fun hact => (r_pickA2 (q := (!(d1 || d2))) (b := d3) (e := (!p1)) hact rfl rfl rfl)) rfl rfl ?_; clear hf fa; intro fa hf
      refine sqv hf (r_pickO (b := (d1 || d2)) (e := (d3 && (!p1))) rfl rfl rfl) rfl rfl rfl ?_; clear hf fa; intro fa hf
      refine sqv hf (r_move rfl) rfl rfl rfl ?_; clear hf fa; intro fa hf
      refine sqgF (act := (!((d1 || d2) || (d3 && (!p1))))) (ag := true) (c := ((d1 || d2) || (d3 && (!p1)))) (v := (.pointer (some ⟨b1, 3, none⟩))) hf rfl rfl rfl (fun hact => (r_fa rfl Try.underlying45 (f := 3) (q := 3) rfl (by kernel_rfl) rfl)) rfl rfl ?_; clear hf fa; intro fa hf
      refine sqgF (act := (!((d1 || d2) || (d3 && (!p1))))) (ag := true) (c := ((d1 || d2) || (d3 && (!p1)))) (v := (.slice aA st.A.length cA)) hf rfl rfl rfl (fun hact => (r_load (v := (.slice aA st.A.length cA)) (gb_ev hact rfl) Try.underlying42 rfl (cell_blk hk1 rfl))) rfl rfl ?_; clear hf fa; intro fa hf
      refine sqgF (act := (!((d1 || d2) || (d3 && (!p1))))) (ag := true) (c := ((d1 || d2) || (d3 && (!p1)))) (v := (.int .i64 ((st.A.length : Nat) : Int))) hf rfl rfl rfl (fun hact => (r_lensl (gb_ev hact rfl) Try.underlying42)) rfl rfl ?_; clear hf fa; intro fa hf
      refine sqgF (act := (!((d1 || d2) || (d3 && (!p1))))) (ag := true) (c := ((d1 || d2) || (d3 && (!p1)))) (v := (.bool d4)) hf rfl rfl rfl (fun hact => (Runs.veq (r_gt (gb_ev hact rfl) rfl) (congrArg Value.bool (show _ = d4 from hd4)))) rfl rfl ?_; clear hf fa; intro fa hf
      refine sqgF (act := (!((d1 || d2) || (d3 && (!p1))))) (ag := true) (c := ((d1 || d2) || (d3 && (!p1)))) (v := (.bool d4)) hf rfl rfl rfl (fun hact => (r_move (gb_ev hact rfl))) rfl rfl ?_; clear hf fa; intro fa hf
      refine sqgT (act := ((!((d1 || d2) || (d3 && (!p1)))) && d4)) (ag := (!((d1 || d2) || (d3 && (!p1))))) (c := d4) (v := (.string (formS k))) hf rfl rfl rfl (fun hact => (r_move rfl)) rfl rfl ?_; clear hf fa; intro fa hf
      refine sqgd (R := fun vq wq => vq = gb ((!((d1 || d2) || (d3 && (!p1)))) && d4) (.bool p2) ∧ w3 = wq) (act := ((!((d1 || d2) || (d3 && (!p1)))) && d4)) (g := 26) (want := true) (ag := (!((d1 || d2) || (d3 && (!p1))))) (c := d4) hf (by rfl) (by rfl) (act_T _ _) (fun hact => (d_callS (vs := [(.string (formS k)), (.string ⟨#[97]⟩)]) (cons_ev (gb_ev hact rfl) (cons_ev rfl rfl)) Try.func55 (by kernel_rfl) (by kernel_rfl) (by have h := contains_any (formS k) 97 w3; rw [show decide (posB (formS k) (UInt8.toNat 97) < (formS k).size) = p2 from hp2] at h; exact h)).mono (fun _ _ h => ⟨by rw [h.1, hact]; rfl, h.2⟩)) (fun h => ⟨by rw [h]; rfl, rfl⟩) rfl ?_; clear hf fa; rintro fa _ _ ⟨rfl, rfl⟩ hf
      change Fr _ _ ((61, (gb ((!((d1 || d2) || (d3 && (!p1)))) && d4) (.bool p2))) :: _) at hf
      refine sqgT (act := ((!((d1 || d2) || (d3 && (!p1)))) && d4)) (ag := (!((d1 || d2) || (d3 && (!p1))))) (c := d4) (v := (.bool (!p2))) hf rfl rfl rfl (fun hact => (r_not (gb_ev hact rfl))) rfl rfl ?_; clear hf fa; intro fa hf
      refine sqgF (act := (!((d1 || d2) || (d3 && (!p1))))) (ag := true) (c := ((d1 || d2) || (d3 && (!p1)))) (v := (.bool (d4 && (!p2)))) hf rfl rfl rfl (fun hact => (r_pickA2 (q := (!((d1 || d2) || (d3 && (!p1))))) (b := d4) (e := (!p2)) hact rfl rfl rfl)) rfl rfl ?_; clear hf fa; intro fa hf
      refine sqv hf (r_pickO (b := ((d1 || d2) || (d3 && (!p1)))) (e := (d4 && (!p2))) rfl rfl rfl) rfl rfl rfl ?_; clear hf fa; intro fa hf
      apply wpList_nil
      (try simp only [Exit.then, Exit.inBlock, ↓reduceIte, Nat.reduceEqDiff])
      refine hK7 _ _ ?_
      refine wp_cond_split (t := (((d1 || d2) || (d3 && (!p1))) || (d4 && (!p2)))) (hf.ev rfl) (fun hqt64_1 => ?_) (fun hqt64_1 => ?_)
      · have hqt64_1b := hqt64_1
        try simp only [decide_eq_true_eq, Bool.and_eq_true, Bool.or_eq_true, Bool.not_eq_true', decide_eq_false_iff_not, ne_eq, Bool.not_eq_true] at hqt64_1
        refine wp_seq_k (fun K8 hK8 => ?_)
        refine wp_region_lit ?_
        refine sqv hf (r_assign rfl) rfl rfl rfl ?_; clear hf fa; intro fa hf
        apply wpList_nil
        (try simp only [Exit.then, Exit.inBlock, ↓reduceIte, Nat.reduceEqDiff])
        refine hK8 _ _ ?_
        refine wp_ret ?_
        (try simp only [Exit.then, Exit.inBlock])
        refine ret1 hf rfl rfl ?_
        refine ⟨?_, hb⟩; rw [right_head (by rintro ⟨_, _, _, h4, h5, h6, h7⟩; have hX := hqt64_1; simp only [← hd1, ← hd2, ← hd3, ← hd4, ← hp1, ← hp2, decide_eq_true_eq, decide_eq_false_iff_not, ne_eq] at hX; rcases hX with ((h | h) | ⟨h, h8⟩) | ⟨h, h8⟩; omega; omega; exact absurd (h6 (by omega)) (by simpa using h8); exact absurd (h7 (by omega)) (by simpa using h8))]
      · have hqt64_1b := hqt64_1
        replace hqt64_1 := Bool.eq_false_iff.1 hqt64_1
        try simp only [ne_eq, decide_eq_true_eq, Bool.and_eq_true, Bool.or_eq_true, Bool.not_eq_true', decide_eq_false_iff_not] at hqt64_1
        refine wp_skip ?_
        (try simp only [Exit.then, Exit.inBlock, ↓reduceIte, Nat.reduceEqDiff])
        refine hK6 _ _ ?_
        refine wp_seq_k (fun K9 hK9 => ?_)
        refine wp_seq_k (fun K10 hK10 => ?_)
        have hH : Head k st := by
          have hX := hqt64_1; simp only [← hd1, ← hd2, ← hd3, ← hd4, ← hp1, ← hp2, decide_eq_true_eq, decide_eq_false_iff_not, ne_eq] at hX
          have hY := hX
          clear hX
          have hX := hqt32_1; simp only [← hc1, ← hc2, ← hc3, decide_eq_true_eq, decide_eq_false_iff_not, ne_eq] at hX
          refine ⟨fun e => hX (.inl (.inl e)), Classical.byContradiction fun e => hX (.inl (.inr (by omega))), Classical.byContradiction fun e => hX (.inr (by omega)), by omega, by omega, fun h0 => Classical.byContradiction fun e => hY (.inl (.inr ⟨by omega, by simpa using e⟩)), fun h0 => Classical.byContradiction fun e => hY (.inr ⟨by omega, by simpa using e⟩)⟩
        refine wp_region_lit ?_
        refine sqv hf (r_fa rfl Try.underlying45 (f := 2) (q := 2) rfl (by kernel_rfl) rfl) rfl rfl rfl ?_; clear hf fa; intro fa hf
        refine sqv hf (r_load (v := (.slice aS st.S.length cS)) rfl Try.underlying32 rfl (cell_blk hk1 rfl)) rfl rfl rfl ?_; clear hf fa; intro fa hf
        refine sqv hf (r_lensl rfl Try.underlying32) rfl rfl rfl ?_; clear hf fa; intro fa hf
        refine sqv hf (r_move rfl) rfl rfl rfl ?_; clear hf fa; intro fa hf
        apply wpList_nil
        (try simp only [Exit.then, Exit.inBlock, ↓reduceIte, Nat.reduceEqDiff])
        refine hK10 _ _ ?_
        refine wp_block ?_
        refine wp_loop_k (fun mq fa wr => ∃ (j : Nat), mq = st.S.length - j ∧ Fr 87 fa [(1, (.pointer (some ⟨b1, 0, none⟩))), (66, (.slice aS st.S.length cS)), (67, (.int .i64 ((st.S.length : Nat) : Int))), (68, (.int .i64 ((j : Nat) : Int)))] ∧ Below w.heap.size w wr ∧ wr.heap[b1]? = some (.cells #[(.int .i64 k), (.slice aN st.N.length cN), (.slice aS st.S.length cS), (.slice aA st.A.length cA), (.slice aD st.D.length cD)] 45 (0, 0)) ∧ (j ≤ st.S.length) ∧ (∀ s ∈ st.S.take j, checkF s = 0)) ?_ ?_
        · skip
          exact ⟨_, 0, rfl, hf.sub ⟨rfl, rfl, rfl, (some_int (by first | rfl | omega)), trivial⟩, hb, hk1, by omega, (by intro s hs; cases hs)⟩
        · skip
          clear hf fa; intro mq1 fa w4 hI KL1 hKL1
          clear hb
          clear hk1
          obtain ⟨j, hmq1, hf, hb, hkb1, hj, HS⟩ := hI
          refine wp_seq_k (fun K11 hK11 => ?_)
          refine wp_region_lit ?_
          refine sqv hf (r_lt rfl rfl) rfl rfl rfl ?_; clear hf fa; intro fa hf
          apply wpList_nil
          (try simp only [Exit.then, Exit.inBlock, ↓reduceIte, Nat.reduceEqDiff])
          refine hK11 _ _ ?_
          refine wp_seq_k (fun K12 hK12 => ?_)
          refine wp_cond_split (t := (decide (((j : Nat) : Int) < ((st.S.length : Nat) : Int)))) (hf.ev rfl) (fun hqt69_1 => ?_) (fun hqt69_1 => ?_)
          · have hqt69_1b := hqt69_1
            try simp only [decide_eq_true_eq, Bool.and_eq_true, Bool.or_eq_true, Bool.not_eq_true', decide_eq_false_iff_not, ne_eq, Bool.not_eq_true] at hqt69_1
            refine wp_skip ?_
            (try simp only [Exit.then, Exit.inBlock, ↓reduceIte, Nat.reduceEqDiff])
            refine hK12 _ _ ?_
            refine wp_seq_k (fun K13 hK13 => ?_)
            refine wp_block ?_
            refine wp_seq_k (fun K14 hK14 => ?_)
            refine wp_region_lit ?_
            obtain ⟨y1, hy1⟩ : ∃ x, (st.S)[j]? = some x := ⟨_, List.getElem?_eq_getElem (by (try simp only [Sl.list_length]); omega)⟩
            obtain ⟨ab1, aoff1, rfl, hlb1, hel1⟩ := RdS.at hF.2.1 hy1
            refine sqv hf (r_ixa (sz := 1) (j := j) rfl rfl Try.underlying32 (by kernel_rfl) rfl (by omega) rfl) rfl rfl rfl ?_; clear hf fa; intro fa hf
            refine sqv hf (r_load (v := (.string y1)) rfl Try.underlying9 rfl (cellsAt_cell (cellsAt_below hel1 hb hlb1) (i := 0) rfl rfl)) rfl rfl rfl ?_; clear hf fa; intro fa hf
            refine sqv hf (r_assign rfl) rfl rfl rfl ?_; clear hf fa; intro fa hf
            apply wpList_nil
            (try simp only [Exit.then, Exit.inBlock, ↓reduceIte, Nat.reduceEqDiff])
            refine hK14 _ _ ?_
            refine wp_seq_k (fun K15 hK15 => ?_)
            refine wp_region_lit ?_
            refine sqv hf (r_move rfl) rfl rfl rfl ?_; clear hf fa; intro fa hf
            refine sqdt hf (d_callB (vs := [(.string y1)]) rfl Try.func56 (by kernel_rfl) (by kernel_rfl) (check_any y1 _ (by have h9 := hB.s _ (List.mem_of_getElem? hy1); omega))) rfl rfl rfl ?_; clear hf fa; rintro fa _ w5 ⟨rfl, he4⟩ hf
            replace hkb1 := blk_ext hkb1 he4
            replace hb := hb.trans (Below.mono he4 hb.size)
            refine sqv hf (r_ne rfl rfl) rfl rfl rfl ?_; clear hf fa; intro fa hf
            apply wpList_nil
            (try simp only [Exit.then, Exit.inBlock, ↓reduceIte, Nat.reduceEqDiff])
            refine hK15 _ _ ?_
            refine wp_cond_split (t := (decide (((checkF y1)) ≠ (0 : Int)))) (hf.ev rfl) (fun hqt74_1 => ?_) (fun hqt74_1 => ?_)
            · have hqt74_1b := hqt74_1
              try simp only [decide_eq_true_eq, Bool.and_eq_true, Bool.or_eq_true, Bool.not_eq_true', decide_eq_false_iff_not, ne_eq, Bool.not_eq_true] at hqt74_1
              refine wp_seq_k (fun K16 hK16 => ?_)
              refine wp_region_lit ?_
              refine sqv hf (r_assign rfl) rfl rfl rfl ?_; clear hf fa; intro fa hf
              apply wpList_nil
              (try simp only [Exit.then, Exit.inBlock, ↓reduceIte, Nat.reduceEqDiff])
              refine hK16 _ _ ?_
              refine wp_ret ?_
              (try simp only [Exit.then, Exit.inBlock])
              refine ret1 hf rfl rfl ?_
              refine ⟨?_, hb⟩; rw [right_badS hy1 (by have h := hqt74_1; omega)]
            · have hqt74_1b := hqt74_1
              replace hqt74_1 := Bool.eq_false_iff.1 hqt74_1
              try simp only [ne_eq, decide_eq_true_eq, Bool.and_eq_true, Bool.or_eq_true, Bool.not_eq_true', decide_eq_false_iff_not] at hqt74_1
              refine wp_skip ?_
              (try simp only [Exit.then, Exit.inBlock, ↓reduceIte, Nat.reduceEqDiff])
              refine hK13 _ _ ?_
              refine wp_region_lit ?_
              refine sqv hf (r_add (C := (((j : Nat) : Int) + (1 : Int))) rfl rfl (by rw [IntKind.wrap_i64]; omega)) rfl rfl rfl ?_; clear hf fa; intro fa hf
              refine sqv hf (r_move rfl) rfl rfl rfl ?_; clear hf fa; intro fa hf
              apply wpList_nil
              (try simp only [Exit.then, Exit.inBlock, ↓reduceIte, Nat.reduceEqDiff])
              refine hKL1 _ _ _ (by omega) ⟨(j + 1), rfl, hf.sub ⟨rfl, rfl, rfl, (some_int (by first | rfl | omega)), trivial⟩, hb, hkb1, by omega, (all_snoc HS hy1 (by have h := hqt74_1; omega))⟩
          · have hqt69_1b := hqt69_1
            replace hqt69_1 := Bool.eq_false_iff.1 hqt69_1
            try simp only [ne_eq, decide_eq_true_eq, Bool.and_eq_true, Bool.or_eq_true, Bool.not_eq_true', decide_eq_false_iff_not] at hqt69_1
            refine wp_exit ?_
            (try simp only [Exit.then, Exit.inBlock, ↓reduceIte, Nat.reduceEqDiff])
            refine hK9 _ _ ?_
            refine wp_seq_k (fun K17 hK17 => ?_)
            refine wp_seq_k (fun K18 hK18 => ?_)
            refine wp_region_lit ?_
            refine sqv hf (r_fa rfl Try.underlying45 (f := 3) (q := 3) rfl (by kernel_rfl) rfl) rfl rfl rfl ?_; clear hf fa; intro fa hf
            refine sqv hf (r_load (v := (.slice aA st.A.length cA)) rfl Try.underlying42 rfl (cell_blk hkb1 rfl)) rfl rfl rfl ?_; clear hf fa; intro fa hf
            refine sqv hf (r_lensl rfl Try.underlying42) rfl rfl rfl ?_; clear hf fa; intro fa hf
            refine sqv hf (r_move rfl) rfl rfl rfl ?_; clear hf fa; intro fa hf
            apply wpList_nil
            (try simp only [Exit.then, Exit.inBlock, ↓reduceIte, Nat.reduceEqDiff])
            refine hK18 _ _ ?_
            refine wp_block ?_
            refine wp_loop_k (fun mq fa wr => ∃ (i : Nat), mq = st.A.length - i ∧ Fr 87 fa [(77, (.slice aA st.A.length cA)), (78, (.int .i64 ((st.A.length : Nat) : Int))), (79, (.int .i64 ((i : Nat) : Int)))] ∧ Below w.heap.size w wr ∧ (i ≤ st.A.length) ∧ (∀ v ∈ st.A.take i, vrightP v = true)) ?_ ?_
            · skip
              exact ⟨_, 0, rfl, hf.sub ⟨rfl, rfl, (some_int (by first | rfl | omega)), trivial⟩, hb, by omega, (by intro s hs; cases hs)⟩
            · skip
              clear hf fa; intro mq2 fa w6 hI KL2 hKL2
              clear hb
              clear hkb1
              obtain ⟨i, hmq2, hf, hb, hi, HA⟩ := hI
              refine wp_seq_k (fun K19 hK19 => ?_)
              refine wp_region_lit ?_
              refine sqv hf (r_lt rfl rfl) rfl rfl rfl ?_; clear hf fa; intro fa hf
              apply wpList_nil
              (try simp only [Exit.then, Exit.inBlock, ↓reduceIte, Nat.reduceEqDiff])
              refine hK19 _ _ ?_
              refine wp_seq_k (fun K20 hK20 => ?_)
              refine wp_cond_split (t := (decide (((i : Nat) : Int) < ((st.A.length : Nat) : Int)))) (hf.ev rfl) (fun hqt80_1 => ?_) (fun hqt80_1 => ?_)
              · have hqt80_1b := hqt80_1
                try simp only [decide_eq_true_eq, Bool.and_eq_true, Bool.or_eq_true, Bool.not_eq_true', decide_eq_false_iff_not, ne_eq, Bool.not_eq_true] at hqt80_1
                refine wp_skip ?_
                (try simp only [Exit.then, Exit.inBlock, ↓reduceIte, Nat.reduceEqDiff])
                refine hK20 _ _ ?_
                refine wp_seq_k (fun K21 hK21 => ?_)
                refine wp_block ?_
                refine wp_seq_k (fun K22 hK22 => ?_)
                refine wp_region_lit ?_
                obtain ⟨y2, hy2⟩ : ∃ x, (st.A)[i]? = some x := ⟨_, List.getElem?_eq_getElem (by (try simp only [Sl.list_length]); omega)⟩
                obtain ⟨ab2, aoff2, rfl, hlb2, hel2⟩ := RdS.at hF.2.2.1 hy2
                refine sqv hf (r_ixa (sz := 2) (j := i) rfl rfl Try.underlying42 (by kernel_rfl) rfl (by omega) rfl) rfl rfl rfl ?_; clear hf fa; intro fa hf
                refine sqv hf (r_loadA (cs := [(.int .u8 y2.1), (.int .u64 y2.2.1)]) rfl Try.underlying65 rfl (by kernel_rfl) (cellsAt_below hel2 hb hlb2)) rfl rfl rfl ?_; clear hf fa; intro fa hf
                refine sqdt hf (d_alloc (z := (.agg #[(.int .u8 (0 : Int)), (.int .u64 (0 : Int))])) (cs := #[(.int .u8 (0 : Int)), (.int .u64 (0 : Int))]) (by kernel_rfl) rfl) rfl rfl rfl ?_; clear hf fa; rintro fa _ w7 ⟨b2, rfl, hle2, hk2, he5⟩ hf
                have hBb2 : w.heap.size ≤ b2 := Nat.le_trans hb.size hle2
                replace hb := hb.trans (Below.mono he5 hb.size)
                refine sqn hf (d_storeK (T := 65) (v := (.agg #[(.int .u8 y2.1), (.int .u64 y2.2.1)])) (cs := #[(.int .u8 (0 : Int)), (.int .u64 (0 : Int))]) (cs' := #[(.int .u8 y2.1), (.int .u64 y2.2.1)]) rfl rfl (by kernel_rfl) (by kernel_rfl) hk2 (by kernel_rfl) (by kernel_rfl)) rfl rfl ?_; clear hf fa; rintro fa _ w8 ⟨hk3, hg1⟩ hf
                replace hb := hb.trans (grown_below hg1 hb.size hBb2)
                apply wpList_nil
                (try simp only [Exit.then, Exit.inBlock, ↓reduceIte, Nat.reduceEqDiff])
                refine hK22 _ _ ?_
                refine wp_seq_k (fun K23 hK23 => ?_)
                refine wp_region_lit ?_
                refine sqv hf (r_loadA (cs := [(.int .u8 y2.1), (.int .u64 y2.2.1)]) rfl Try.underlying65 rfl (by kernel_rfl) (cellsAt_blk hk3)) rfl rfl rfl ?_; clear hf fa; intro fa hf
                refine sqdt hf (d_callB (vs := [(.agg #[(.int .u8 y2.1), (.int .u64 y2.2.1)])]) rfl Try.func57 (by kernel_rfl) (by kernel_rfl) (vright_any y2 _ (hB.a _ (List.mem_of_getElem? hy2)).1 (hB.a _ (List.mem_of_getElem? hy2)).2)) rfl rfl rfl ?_; clear hf fa; rintro fa _ w9 ⟨rfl, he6⟩ hf
                replace hk3 := blk_ext hk3 he6
                replace hb := hb.trans (Below.mono he6 hb.size)
                refine sqv hf (r_not rfl) rfl rfl rfl ?_; clear hf fa; intro fa hf
                apply wpList_nil
                (try simp only [Exit.then, Exit.inBlock, ↓reduceIte, Nat.reduceEqDiff])
                refine hK23 _ _ ?_
                refine wp_cond_split (t := (!(vrightP y2))) (hf.ev rfl) (fun hqt85_1 => ?_) (fun hqt85_1 => ?_)
                · have hqt85_1b := hqt85_1
                  try simp only [decide_eq_true_eq, Bool.and_eq_true, Bool.or_eq_true, Bool.not_eq_true', decide_eq_false_iff_not, ne_eq, Bool.not_eq_true] at hqt85_1
                  refine wp_seq_k (fun K24 hK24 => ?_)
                  refine wp_region_lit ?_
                  refine sqv hf (r_assign rfl) rfl rfl rfl ?_; clear hf fa; intro fa hf
                  apply wpList_nil
                  (try simp only [Exit.then, Exit.inBlock, ↓reduceIte, Nat.reduceEqDiff])
                  refine hK24 _ _ ?_
                  refine wp_ret ?_
                  (try simp only [Exit.then, Exit.inBlock])
                  refine ret1 hf rfl rfl ?_
                  refine ⟨?_, hb⟩; rw [right_badA hy2 (by simpa using hqt85_1)]
                · have hqt85_1b := hqt85_1
                  replace hqt85_1 := Bool.eq_false_iff.1 hqt85_1
                  try simp only [ne_eq, decide_eq_true_eq, Bool.and_eq_true, Bool.or_eq_true, Bool.not_eq_true', decide_eq_false_iff_not] at hqt85_1
                  refine wp_skip ?_
                  (try simp only [Exit.then, Exit.inBlock, ↓reduceIte, Nat.reduceEqDiff])
                  refine hK21 _ _ ?_
                  refine wp_region_lit ?_
                  refine sqv hf (r_add (C := (((i : Nat) : Int) + (1 : Int))) rfl rfl (by rw [IntKind.wrap_i64]; omega)) rfl rfl rfl ?_; clear hf fa; intro fa hf
                  refine sqv hf (r_move rfl) rfl rfl rfl ?_; clear hf fa; intro fa hf
                  apply wpList_nil
                  (try simp only [Exit.then, Exit.inBlock, ↓reduceIte, Nat.reduceEqDiff])
                  refine hKL2 _ _ _ (by omega) ⟨(i + 1), rfl, hf.sub ⟨rfl, rfl, (some_int (by first | rfl | omega)), trivial⟩, hb, by omega, (all_snoc HA hy2 (by simpa using hqt85_1))⟩
              · have hqt80_1b := hqt80_1
                replace hqt80_1 := Bool.eq_false_iff.1 hqt80_1
                try simp only [ne_eq, decide_eq_true_eq, Bool.and_eq_true, Bool.or_eq_true, Bool.not_eq_true', decide_eq_false_iff_not] at hqt80_1
                refine wp_exit ?_
                (try simp only [Exit.then, Exit.inBlock, ↓reduceIte, Nat.reduceEqDiff])
                refine hK17 _ _ ?_
                refine wp_seq_k (fun K25 hK25 => ?_)
                refine wp_region_lit ?_
                refine sqv hf (r_assign rfl) rfl rfl rfl ?_; clear hf fa; intro fa hf
                apply wpList_nil
                (try simp only [Exit.then, Exit.inBlock, ↓reduceIte, Nat.reduceEqDiff])
                refine hK25 _ _ ?_
                refine wp_ret ?_
                (try simp only [Exit.then, Exit.inBlock])
                refine ret1 hf rfl rfl ?_
                refine ⟨?_, hb⟩; rw [right_yes hH (all_end HS (by omega)) (all_end HA (by omega))]

set_option maxHeartbeats 1000000 in
set_option maxRecDepth 100000 in
theorem rright_any (k : Int) (st : PSt) (aN aS aA aD : Option Addr) (cN cS cA cD : Nat) (w : World) (hF : OpF w st aN aS aA aD) (hB : OpB st) : Calls Try.prog 15 #[(.agg #[(.int .i64 k), (.slice aN st.N.length cN), (.slice aS st.S.length cS), (.slice aA st.A.length cA), (.slice aD st.D.length cD)])] w fun e w' => e = .returned (.bool (rightP k st)) ∧ Below w.heap.size w w' := by
  have hwl := word_len k
  have hsl := hB.sl
  have hal := hB.al
  have hdl := hB.dl
  have hnl := hB.nl
  have hfc := form_cnt k
  refine sx_enter (L := [(0, (.agg #[(.int .i64 k), (.slice aN st.N.length cN), (.slice aS st.S.length cS), (.slice aA st.A.length cA), (.slice aD st.D.length cD)]))]) Try.func15 rfl rfl rfl rfl (fun fa hf => ?_)
  have hb : Below w.heap.size w w := Below.refl _ _
  refine wp_seq_k (fun K1 hK1 => ?_)
  refine wp_region_lit ?_
  refine sqdt hf (d_box (cs := #[(.int .i64 k), (.slice aN st.N.length cN), (.slice aS st.S.length cS), (.slice aA st.A.length cA), (.slice aD st.D.length cD)]) rfl rfl) rfl rfl rfl ?_; clear hf fa; rintro fa _ w1 ⟨b1, rfl, hle1, hk1, he1⟩ hf
  have hBb1 : w.heap.size ≤ b1 := Nat.le_trans hb.size hle1
  replace hb := hb.trans (Below.mono he1 hb.size)
  refine sqv hf (r_assign rfl) rfl rfl rfl ?_; clear hf fa; intro fa hf
  apply wpList_nil
  (try simp only [Exit.then, Exit.inBlock, ↓reduceIte, Nat.reduceEqDiff])
  refine hK1 _ _ ?_
  refine wp_seq_k (fun K2 hK2 => ?_)
  refine wp_region_lit ?_
  refine sqv hf (r_fa rfl Try.underlying49 (f := 0) (q := 0) rfl (by kernel_rfl) rfl) rfl rfl rfl ?_; clear hf fa; intro fa hf
  refine sqv hf (r_load (v := (.int .i64 k)) rfl Try.underlying3 rfl (cell_blk hk1 rfl)) rfl rfl rfl ?_; clear hf fa; intro fa hf
  refine sqdt hf (d_callB (vs := [(.int .i64 k)]) rfl Try.func18 (by kernel_rfl) (by kernel_rfl) (rform_any k _)) rfl rfl rfl ?_; clear hf fa; rintro fa _ w2 ⟨rfl, he2⟩ hf
  replace hk1 := blk_ext hk1 he2
  replace hb := hb.trans (Below.mono he2 hb.size)
  refine sqv hf (r_move rfl) rfl rfl rfl ?_; clear hf fa; intro fa hf
  refine sqv hf (r_extract rfl (i := 0) rfl) rfl rfl rfl ?_; clear hf fa; intro fa hf
  refine sqv hf (r_extract rfl (i := 1) rfl) rfl rfl rfl ?_; clear hf fa; intro fa hf
  refine sqv hf (r_assign rfl) rfl rfl rfl ?_; clear hf fa; intro fa hf
  refine sqv hf (r_assign rfl) rfl rfl rfl ?_; clear hf fa; intro fa hf
  apply wpList_nil
  (try simp only [Exit.then, Exit.inBlock, ↓reduceIte, Nat.reduceEqDiff])
  refine hK2 _ _ ?_
  refine wp_seq_k (fun K3 hK3 => ?_)
  refine wp_seq_k (fun K4 hK4 => ?_)
  obtain ⟨c1, hc1⟩ : ∃ b, decide (wordS k = ⟨#[]⟩) = b := ⟨_, rfl⟩
  obtain ⟨c2, hc2⟩ : ∃ b, decide (((st.N.length : Nat) : Int) ≠ ((cntB (formS k) 110 : Nat) : Int)) = b := ⟨_, rfl⟩
  obtain ⟨c3, hc3⟩ : ∃ b, decide (((st.S.length : Nat) : Int) ≠ ((cntB (formS k) 115 : Nat) : Int)) = b := ⟨_, rfl⟩
  obtain ⟨c4, hc4⟩ : ∃ b, decide (((4096 : Int) * ((cntB (formS k) 100 : Nat) : Int)) < ((st.D.length : Nat) : Int)) = b := ⟨_, rfl⟩
  obtain ⟨c5, hc5⟩ : ∃ b, decide (((20 : Int) * ((cntB (formS k) 97 : Nat) : Int)) < ((st.A.length : Nat) : Int)) = b := ⟨_, rfl⟩
  refine wp_region_un (fun wq => Below w2.heap.size w2 wq) (fun w w' => Below w.heap.size w w')
    (fun V => [(fun x _ => x = (.string (wordS k))), (fun x _ => x = (.bool c1)), (fun x _ => x = (.bool c1)), (fun x _ => x = (gb (!c1) (.pointer (some ⟨b1, 1, none⟩)))), (fun x _ => x = (gb (!c1) (.slice aN st.N.length cN))), (fun x _ => x = (gb (!c1) (.int .i64 ((st.N.length : Nat) : Int)))), (fun x _ => x = (gb (!c1) (.string (formS k)))), (fun x _ => x = (gb (!c1) (.int .i64 (((cntB (formS k) 110) : Nat) : Int)))), (fun x _ => x = (gb (!c1) (.bool c2))), (fun x _ => x = (.bool (c1 || c2))), (fun x _ => x = (.bool (c1 || c2))), (fun x _ => x = (gb (!(c1 || c2)) (.pointer (some ⟨b1, 2, none⟩)))), (fun x _ => x = (gb (!(c1 || c2)) (.slice aS st.S.length cS))), (fun x _ => x = (gb (!(c1 || c2)) (.int .i64 ((st.S.length : Nat) : Int)))), (fun x _ => x = (gb (!(c1 || c2)) (.string (formS k)))), (fun x _ => x = (gb (!(c1 || c2)) (.int .i64 (((cntB (formS k) 115) : Nat) : Int)))), (fun x _ => x = (gb (!(c1 || c2)) (.bool c3))), (fun x _ => x = (.bool ((c1 || c2) || c3))), (fun x _ => x = (.bool ((c1 || c2) || c3))), (fun x _ => x = (gb (!((c1 || c2) || c3)) (.pointer (some ⟨b1, 4, none⟩)))), (fun x _ => x = (gb (!((c1 || c2) || c3)) (.slice aD st.D.length cD))), (fun x _ => x = (gb (!((c1 || c2) || c3)) (.int .i64 ((st.D.length : Nat) : Int)))), (fun x _ => x = (gb (!((c1 || c2) || c3)) (.string (formS k)))), (fun x _ => x = (gb (!((c1 || c2) || c3)) (.int .i64 (((cntB (formS k) 100) : Nat) : Int)))), (fun x _ => x = (gb (!((c1 || c2) || c3)) (.int .i64 ((4096 : Int) * (((cntB (formS k) 100) : Nat) : Int))))), (fun x _ => x = (gb (!((c1 || c2) || c3)) (.bool c4))), (fun x _ => x = (.bool (((c1 || c2) || c3) || c4))), (fun x _ => x = (.bool (((c1 || c2) || c3) || c4))), (fun x _ => x = (gb (!(((c1 || c2) || c3) || c4)) (.pointer (some ⟨b1, 3, none⟩)))), (fun x _ => x = (gb (!(((c1 || c2) || c3) || c4)) (.slice aA st.A.length cA))), (fun x _ => x = (gb (!(((c1 || c2) || c3) || c4)) (.int .i64 ((st.A.length : Nat) : Int)))), (fun x _ => x = (gb (!(((c1 || c2) || c3) || c4)) (.string (formS k)))), (fun x _ => x = (gb (!(((c1 || c2) || c3) || c4)) (.int .i64 (((cntB (formS k) 97) : Nat) : Int)))), (fun x _ => x = (gb (!(((c1 || c2) || c3) || c4)) (.int .i64 ((20 : Int) * (((cntB (formS k) 97) : Nat) : Int))))), (fun x _ => x = (gb (!(((c1 || c2) || c3) || c4)) (.bool c5))), (fun x _ => x = (.bool ((((c1 || c2) || c3) || c4) || c5)))])
    []
    [[], [0], [1], [2], [2, 3], [2, 4], [2], [2, 6], [2, 5, 7], [2, 8], [7, 9], [10], [10, 11], [10, 12], [10], [10, 14], [10, 13, 15], [10, 16], [15, 17], [18], [18, 19], [18, 20], [18], [18, 22], [18, 23], [18, 21, 24], [18, 25], [23, 26], [27], [27, 28], [27, 29], [27], [27, 31], [27, 32], [27, 30, 33], [27, 34]]
    hf (by kernel_rfl) (by kernel_rfl) (fun _ => rfl) ((Below.refl _ _).drew) (fun a b h1 h2 => h1.trans (h2.mono h1.size)) (fun _ _ h => h.size) (fun V => ⟨kept_eq, kept_eq, kept_eq, kept_eq, kept_eq, kept_eq, kept_eq, kept_eq, kept_eq, kept_eq, kept_eq, kept_eq, kept_eq, kept_eq, kept_eq, kept_eq, kept_eq, kept_eq, kept_eq, kept_eq, kept_eq, kept_eq, kept_eq, kept_eq, kept_eq, kept_eq, kept_eq, kept_eq, kept_eq, kept_eq, kept_eq, kept_eq, kept_eq, kept_eq, kept_eq, kept_eq, trivial⟩) (fun _ _ _ _ _ => rfl) ?_ ?_
  · skip
    intro V
    refine ⟨fun wu0 hC hd => ?_, ?_⟩
    · clear hd
      replace hb := hb.trans (hC.mono hb.size)
      replace hk1 := blk_ext hk1 hC
      exact Runs.does (r_move rfl) ⟨Below.refl _ _, rfl, nofr rfl⟩
    refine ⟨fun wu1 hC hd => ?_, ?_⟩
    · obtain ⟨h0, _⟩ := hd
      skip
      replace h0 : V 0 = (.string (wordS k)) := h0
      replace hb := hb.trans (hC.mono hb.size)
      replace hk1 := blk_ext hk1 hC
      exact Runs.does (Runs.veq (r_seq (congrArg some h0) rfl) (congrArg Value.bool (show _ = c1 from hc1))) ⟨Below.refl _ _, rfl, nofr rfl⟩
    refine ⟨fun wu2 hC hd => ?_, ?_⟩
    · obtain ⟨h1, _⟩ := hd
      skip
      replace h1 : V 1 = (.bool c1) := h1
      replace hb := hb.trans (hC.mono hb.size)
      replace hk1 := blk_ext hk1 hC
      exact Runs.does (r_move (congrArg some h1)) ⟨Below.refl _ _, rfl, nofr rfl⟩
    refine ⟨fun wu3 hC hd => ?_, ?_⟩
    · obtain ⟨h2, _⟩ := hd
      skip
      replace h2 : V 2 = (.bool c1) := h2
      replace hb := hb.trans (hC.mono hb.size)
      replace hk1 := blk_ext hk1 hC
      refine ⟨true, c1, congrArg some h2, fun hact => ?_, fun hact => ?_⟩
      · replace hact : (!c1) = true := by simpa using hact
        refine Runs.does (v := (.pointer (some ⟨b1, 1, none⟩))) (r_fa rfl Try.underlying49 (f := 1) (q := 1) rfl (by kernel_rfl) rfl) ⟨Below.refl _ _, ?_, nofr rfl⟩
        show _ = gb _ _; rw [hact]; rfl
      · replace hact : (!c1) = false := by simpa using hact
        refine ⟨Below.refl _ _, ?_, nofr rfl⟩
        show _ = gb _ _; rw [hact]; rfl
    refine ⟨fun wu4 hC hd => ?_, ?_⟩
    · obtain ⟨h2, h3, _⟩ := hd
      skip
      skip
      replace h2 : V 2 = (.bool c1) := h2
      replace h3 : V 3 = (gb (!c1) (.pointer (some ⟨b1, 1, none⟩))) := h3
      replace hb := hb.trans (hC.mono hb.size)
      replace hk1 := blk_ext hk1 hC
      refine ⟨true, c1, congrArg some h2, fun hact => ?_, fun hact => ?_⟩
      · replace hact : (!c1) = true := by simpa using hact
        refine Runs.does (v := (.slice aN st.N.length cN)) (r_load (v := (.slice aN st.N.length cN)) (gb_ev hact (congrArg some h3)) Try.underlying41 rfl (cell_blk hk1 rfl)) ⟨Below.refl _ _, ?_, nofr rfl⟩
        show _ = gb _ _; rw [hact]; rfl
      · replace hact : (!c1) = false := by simpa using hact
        refine ⟨Below.refl _ _, ?_, nofr rfl⟩
        show _ = gb _ _; rw [hact]; rfl
    refine ⟨fun wu5 hC hd => ?_, ?_⟩
    · obtain ⟨h2, h4, _⟩ := hd
      skip
      skip
      replace h2 : V 2 = (.bool c1) := h2
      replace h4 : V 4 = (gb (!c1) (.slice aN st.N.length cN)) := h4
      replace hb := hb.trans (hC.mono hb.size)
      replace hk1 := blk_ext hk1 hC
      refine ⟨true, c1, congrArg some h2, fun hact => ?_, fun hact => ?_⟩
      · replace hact : (!c1) = true := by simpa using hact
        refine Runs.does (v := (.int .i64 ((st.N.length : Nat) : Int))) (r_lensl (gb_ev hact (congrArg some h4)) Try.underlying41) ⟨Below.refl _ _, ?_, nofr rfl⟩
        show _ = gb _ _; rw [hact]; rfl
      · replace hact : (!c1) = false := by simpa using hact
        refine ⟨Below.refl _ _, ?_, nofr rfl⟩
        show _ = gb _ _; rw [hact]; rfl
    refine ⟨fun wu6 hC hd => ?_, ?_⟩
    · obtain ⟨h2, _⟩ := hd
      skip
      replace h2 : V 2 = (.bool c1) := h2
      replace hb := hb.trans (hC.mono hb.size)
      replace hk1 := blk_ext hk1 hC
      refine ⟨true, c1, congrArg some h2, fun hact => ?_, fun hact => ?_⟩
      · replace hact : (!c1) = true := by simpa using hact
        refine Runs.does (v := (.string (formS k))) (r_move rfl) ⟨Below.refl _ _, ?_, nofr rfl⟩
        show _ = gb _ _; rw [hact]; rfl
      · replace hact : (!c1) = false := by simpa using hact
        refine ⟨Below.refl _ _, ?_, nofr rfl⟩
        show _ = gb _ _; rw [hact]; rfl
    refine ⟨fun wu7 hC hd => ?_, ?_⟩
    · obtain ⟨h2, h6, _⟩ := hd
      skip
      skip
      replace h2 : V 2 = (.bool c1) := h2
      replace h6 : V 6 = (gb (!c1) (.string (formS k))) := h6
      replace hb := hb.trans (hC.mono hb.size)
      replace hk1 := blk_ext hk1 hC
      refine ⟨true, c1, congrArg some h2, fun hact => ?_, fun hact => ?_⟩
      · replace hact : (!c1) = true := by simpa using hact
        refine Does.mono (d_callB (vs := [(.string (formS k)), (.int .u8 (110 : Int))]) (cons_ev (gb_ev hact (congrArg some h6)) (cons_ev rfl rfl)) Try.func50 (by kernel_rfl) (by kernel_rfl) (by have hact0 := hact; (try simp only [Bool.and_eq_true, Bool.not_eq_true', Bool.or_eq_false_iff, Bool.or_eq_true, Bool.and_eq_false_iff, ne_eq, decide_eq_true_eq, decide_eq_false_iff_not] at hact0); exact (rcount_any (formS k) 110 _ (by have := (word_len k).2; omega)))) (fun _ _ h => ⟨h.2, ?_, nofr rfl⟩)
        show _ = gb _ _; rw [hact]; exact h.1
      · replace hact : (!c1) = false := by simpa using hact
        refine ⟨Below.refl _ _, ?_, nofr rfl⟩
        show _ = gb _ _; rw [hact]; rfl
    refine ⟨fun wu8 hC hd => ?_, ?_⟩
    · obtain ⟨h2, h5, h7, _⟩ := hd
      skip
      skip
      skip
      replace h2 : V 2 = (.bool c1) := h2
      replace h5 : V 5 = (gb (!c1) (.int .i64 ((st.N.length : Nat) : Int))) := h5
      replace h7 : V 7 = (gb (!c1) (.int .i64 (((cntB (formS k) 110) : Nat) : Int))) := h7
      replace hb := hb.trans (hC.mono hb.size)
      replace hk1 := blk_ext hk1 hC
      refine ⟨true, c1, congrArg some h2, fun hact => ?_, fun hact => ?_⟩
      · replace hact : (!c1) = true := by simpa using hact
        refine Runs.does (v := (.bool c2)) (Runs.veq (r_ne (gb_ev hact (congrArg some h5)) (gb_ev hact (congrArg some h7))) (congrArg Value.bool (show _ = c2 from hc2))) ⟨Below.refl _ _, ?_, nofr rfl⟩
        show _ = gb _ _; rw [hact]; rfl
      · replace hact : (!c1) = false := by simpa using hact
        refine ⟨Below.refl _ _, ?_, nofr rfl⟩
        show _ = gb _ _; rw [hact]; rfl
    refine ⟨fun wu9 hC hd => ?_, ?_⟩
    · obtain ⟨h2, h8, _⟩ := hd
      skip
      skip
      replace h2 : V 2 = (.bool c1) := h2
      replace h8 : V 8 = (gb (!c1) (.bool c2)) := h8
      replace hb := hb.trans (hC.mono hb.size)
      replace hk1 := blk_ext hk1 hC
      exact Runs.does (r_pickO (b := c1) (e := c2) (congrArg some h2) rfl (congrArg some h8)) ⟨Below.refl _ _, rfl, nofr rfl⟩
    refine ⟨fun wu10 hC hd => ?_, ?_⟩
    · obtain ⟨h7, h9, _⟩ := hd
      skip
      skip
      replace h7 : V 7 = (gb (!c1) (.int .i64 (((cntB (formS k) 110) : Nat) : Int))) := h7
      replace h9 : V 9 = (.bool (c1 || c2)) := h9
      replace hb := hb.trans (hC.mono hb.size)
      replace hk1 := blk_ext hk1 hC
      exact Runs.does (r_move (congrArg some h9)) ⟨Below.refl _ _, rfl, nofr rfl⟩
    refine ⟨fun wu11 hC hd => ?_, ?_⟩
    · obtain ⟨h10, _⟩ := hd
      skip
      replace h10 : V 10 = (.bool (c1 || c2)) := h10
      replace hb := hb.trans (hC.mono hb.size)
      replace hk1 := blk_ext hk1 hC
      refine ⟨true, (c1 || c2), congrArg some h10, fun hact => ?_, fun hact => ?_⟩
      · replace hact : (!(c1 || c2)) = true := by simpa using hact
        refine Runs.does (v := (.pointer (some ⟨b1, 2, none⟩))) (r_fa rfl Try.underlying49 (f := 2) (q := 2) rfl (by kernel_rfl) rfl) ⟨Below.refl _ _, ?_, nofr rfl⟩
        show _ = gb _ _; rw [hact]; rfl
      · replace hact : (!(c1 || c2)) = false := by simpa using hact
        refine ⟨Below.refl _ _, ?_, nofr rfl⟩
        show _ = gb _ _; rw [hact]; rfl
    refine ⟨fun wu12 hC hd => ?_, ?_⟩
    · obtain ⟨h10, h11, _⟩ := hd
      skip
      skip
      replace h10 : V 10 = (.bool (c1 || c2)) := h10
      replace h11 : V 11 = (gb (!(c1 || c2)) (.pointer (some ⟨b1, 2, none⟩))) := h11
      replace hb := hb.trans (hC.mono hb.size)
      replace hk1 := blk_ext hk1 hC
      refine ⟨true, (c1 || c2), congrArg some h10, fun hact => ?_, fun hact => ?_⟩
      · replace hact : (!(c1 || c2)) = true := by simpa using hact
        refine Runs.does (v := (.slice aS st.S.length cS)) (r_load (v := (.slice aS st.S.length cS)) (gb_ev hact (congrArg some h11)) Try.underlying32 rfl (cell_blk hk1 rfl)) ⟨Below.refl _ _, ?_, nofr rfl⟩
        show _ = gb _ _; rw [hact]; rfl
      · replace hact : (!(c1 || c2)) = false := by simpa using hact
        refine ⟨Below.refl _ _, ?_, nofr rfl⟩
        show _ = gb _ _; rw [hact]; rfl
    refine ⟨fun wu13 hC hd => ?_, ?_⟩
    · obtain ⟨h10, h12, _⟩ := hd
      skip
      skip
      replace h10 : V 10 = (.bool (c1 || c2)) := h10
      replace h12 : V 12 = (gb (!(c1 || c2)) (.slice aS st.S.length cS)) := h12
      replace hb := hb.trans (hC.mono hb.size)
      replace hk1 := blk_ext hk1 hC
      refine ⟨true, (c1 || c2), congrArg some h10, fun hact => ?_, fun hact => ?_⟩
      · replace hact : (!(c1 || c2)) = true := by simpa using hact
        refine Runs.does (v := (.int .i64 ((st.S.length : Nat) : Int))) (r_lensl (gb_ev hact (congrArg some h12)) Try.underlying32) ⟨Below.refl _ _, ?_, nofr rfl⟩
        show _ = gb _ _; rw [hact]; rfl
      · replace hact : (!(c1 || c2)) = false := by simpa using hact
        refine ⟨Below.refl _ _, ?_, nofr rfl⟩
        show _ = gb _ _; rw [hact]; rfl
    refine ⟨fun wu14 hC hd => ?_, ?_⟩
    · obtain ⟨h10, _⟩ := hd
      skip
      replace h10 : V 10 = (.bool (c1 || c2)) := h10
      replace hb := hb.trans (hC.mono hb.size)
      replace hk1 := blk_ext hk1 hC
      refine ⟨true, (c1 || c2), congrArg some h10, fun hact => ?_, fun hact => ?_⟩
      · replace hact : (!(c1 || c2)) = true := by simpa using hact
        refine Runs.does (v := (.string (formS k))) (r_move rfl) ⟨Below.refl _ _, ?_, nofr rfl⟩
        show _ = gb _ _; rw [hact]; rfl
      · replace hact : (!(c1 || c2)) = false := by simpa using hact
        refine ⟨Below.refl _ _, ?_, nofr rfl⟩
        show _ = gb _ _; rw [hact]; rfl
    refine ⟨fun wu15 hC hd => ?_, ?_⟩
    · obtain ⟨h10, h14, _⟩ := hd
      skip
      skip
      replace h10 : V 10 = (.bool (c1 || c2)) := h10
      replace h14 : V 14 = (gb (!(c1 || c2)) (.string (formS k))) := h14
      replace hb := hb.trans (hC.mono hb.size)
      replace hk1 := blk_ext hk1 hC
      refine ⟨true, (c1 || c2), congrArg some h10, fun hact => ?_, fun hact => ?_⟩
      · replace hact : (!(c1 || c2)) = true := by simpa using hact
        refine Does.mono (d_callB (vs := [(.string (formS k)), (.int .u8 (115 : Int))]) (cons_ev (gb_ev hact (congrArg some h14)) (cons_ev rfl rfl)) Try.func50 (by kernel_rfl) (by kernel_rfl) (by have hact0 := hact; (try simp only [Bool.and_eq_true, Bool.not_eq_true', Bool.or_eq_false_iff, Bool.or_eq_true, Bool.and_eq_false_iff, ne_eq, decide_eq_true_eq, decide_eq_false_iff_not] at hact0); exact (rcount_any (formS k) 115 _ (by have := (word_len k).2; omega)))) (fun _ _ h => ⟨h.2, ?_, nofr rfl⟩)
        show _ = gb _ _; rw [hact]; exact h.1
      · replace hact : (!(c1 || c2)) = false := by simpa using hact
        refine ⟨Below.refl _ _, ?_, nofr rfl⟩
        show _ = gb _ _; rw [hact]; rfl
    refine ⟨fun wu16 hC hd => ?_, ?_⟩
    · obtain ⟨h10, h13, h15, _⟩ := hd
      skip
      skip
      skip
      replace h10 : V 10 = (.bool (c1 || c2)) := h10
      replace h13 : V 13 = (gb (!(c1 || c2)) (.int .i64 ((st.S.length : Nat) : Int))) := h13
      replace h15 : V 15 = (gb (!(c1 || c2)) (.int .i64 (((cntB (formS k) 115) : Nat) : Int))) := h15
      replace hb := hb.trans (hC.mono hb.size)
      replace hk1 := blk_ext hk1 hC
      refine ⟨true, (c1 || c2), congrArg some h10, fun hact => ?_, fun hact => ?_⟩
      · replace hact : (!(c1 || c2)) = true := by simpa using hact
        refine Runs.does (v := (.bool c3)) (Runs.veq (r_ne (gb_ev hact (congrArg some h13)) (gb_ev hact (congrArg some h15))) (congrArg Value.bool (show _ = c3 from hc3))) ⟨Below.refl _ _, ?_, nofr rfl⟩
        show _ = gb _ _; rw [hact]; rfl
      · replace hact : (!(c1 || c2)) = false := by simpa using hact
        refine ⟨Below.refl _ _, ?_, nofr rfl⟩
        show _ = gb _ _; rw [hact]; rfl
    refine ⟨fun wu17 hC hd => ?_, ?_⟩
    · obtain ⟨h10, h16, _⟩ := hd
      skip
      skip
      replace h10 : V 10 = (.bool (c1 || c2)) := h10
      replace h16 : V 16 = (gb (!(c1 || c2)) (.bool c3)) := h16
      replace hb := hb.trans (hC.mono hb.size)
      replace hk1 := blk_ext hk1 hC
      exact Runs.does (r_pickO (b := (c1 || c2)) (e := c3) (congrArg some h10) rfl (congrArg some h16)) ⟨Below.refl _ _, rfl, nofr rfl⟩
    refine ⟨fun wu18 hC hd => ?_, ?_⟩
    · obtain ⟨h15, h17, _⟩ := hd
      skip
      skip
      replace h15 : V 15 = (gb (!(c1 || c2)) (.int .i64 (((cntB (formS k) 115) : Nat) : Int))) := h15
      replace h17 : V 17 = (.bool ((c1 || c2) || c3)) := h17
      replace hb := hb.trans (hC.mono hb.size)
      replace hk1 := blk_ext hk1 hC
      exact Runs.does (r_move (congrArg some h17)) ⟨Below.refl _ _, rfl, nofr rfl⟩
    refine ⟨fun wu19 hC hd => ?_, ?_⟩
    · obtain ⟨h18, _⟩ := hd
      skip
      replace h18 : V 18 = (.bool ((c1 || c2) || c3)) := h18
      replace hb := hb.trans (hC.mono hb.size)
      replace hk1 := blk_ext hk1 hC
      refine ⟨true, ((c1 || c2) || c3), congrArg some h18, fun hact => ?_, fun hact => ?_⟩
      · replace hact : (!((c1 || c2) || c3)) = true := by simpa using hact
        refine Runs.does (v := (.pointer (some ⟨b1, 4, none⟩))) (r_fa rfl Try.underlying49 (f := 4) (q := 4) rfl (by kernel_rfl) rfl) ⟨Below.refl _ _, ?_, nofr rfl⟩
        show _ = gb _ _; rw [hact]; rfl
      · replace hact : (!((c1 || c2) || c3)) = false := by simpa using hact
        refine ⟨Below.refl _ _, ?_, nofr rfl⟩
        show _ = gb _ _; rw [hact]; rfl
    refine ⟨fun wu20 hC hd => ?_, ?_⟩
    · obtain ⟨h18, h19, _⟩ := hd
      skip
      skip
      replace h18 : V 18 = (.bool ((c1 || c2) || c3)) := h18
      replace h19 : V 19 = (gb (!((c1 || c2) || c3)) (.pointer (some ⟨b1, 4, none⟩))) := h19
      replace hb := hb.trans (hC.mono hb.size)
      replace hk1 := blk_ext hk1 hC
      refine ⟨true, ((c1 || c2) || c3), congrArg some h18, fun hact => ?_, fun hact => ?_⟩
      · replace hact : (!((c1 || c2) || c3)) = true := by simpa using hact
        refine Runs.does (v := (.slice aD st.D.length cD)) (r_load (v := (.slice aD st.D.length cD)) (gb_ev hact (congrArg some h19)) Try.underlying43 rfl (cell_blk hk1 rfl)) ⟨Below.refl _ _, ?_, nofr rfl⟩
        show _ = gb _ _; rw [hact]; rfl
      · replace hact : (!((c1 || c2) || c3)) = false := by simpa using hact
        refine ⟨Below.refl _ _, ?_, nofr rfl⟩
        show _ = gb _ _; rw [hact]; rfl
    refine ⟨fun wu21 hC hd => ?_, ?_⟩
    · obtain ⟨h18, h20, _⟩ := hd
      skip
      skip
      replace h18 : V 18 = (.bool ((c1 || c2) || c3)) := h18
      replace h20 : V 20 = (gb (!((c1 || c2) || c3)) (.slice aD st.D.length cD)) := h20
      replace hb := hb.trans (hC.mono hb.size)
      replace hk1 := blk_ext hk1 hC
      refine ⟨true, ((c1 || c2) || c3), congrArg some h18, fun hact => ?_, fun hact => ?_⟩
      · replace hact : (!((c1 || c2) || c3)) = true := by simpa using hact
        refine Runs.does (v := (.int .i64 ((st.D.length : Nat) : Int))) (r_lensl (gb_ev hact (congrArg some h20)) Try.underlying43) ⟨Below.refl _ _, ?_, nofr rfl⟩
        show _ = gb _ _; rw [hact]; rfl
      · replace hact : (!((c1 || c2) || c3)) = false := by simpa using hact
        refine ⟨Below.refl _ _, ?_, nofr rfl⟩
        show _ = gb _ _; rw [hact]; rfl
    refine ⟨fun wu22 hC hd => ?_, ?_⟩
    · obtain ⟨h18, _⟩ := hd
      skip
      replace h18 : V 18 = (.bool ((c1 || c2) || c3)) := h18
      replace hb := hb.trans (hC.mono hb.size)
      replace hk1 := blk_ext hk1 hC
      refine ⟨true, ((c1 || c2) || c3), congrArg some h18, fun hact => ?_, fun hact => ?_⟩
      · replace hact : (!((c1 || c2) || c3)) = true := by simpa using hact
        refine Runs.does (v := (.string (formS k))) (r_move rfl) ⟨Below.refl _ _, ?_, nofr rfl⟩
        show _ = gb _ _; rw [hact]; rfl
      · replace hact : (!((c1 || c2) || c3)) = false := by simpa using hact
        refine ⟨Below.refl _ _, ?_, nofr rfl⟩
        show _ = gb _ _; rw [hact]; rfl
    refine ⟨fun wu23 hC hd => ?_, ?_⟩
    · obtain ⟨h18, h22, _⟩ := hd
      skip
      skip
      replace h18 : V 18 = (.bool ((c1 || c2) || c3)) := h18
      replace h22 : V 22 = (gb (!((c1 || c2) || c3)) (.string (formS k))) := h22
      replace hb := hb.trans (hC.mono hb.size)
      replace hk1 := blk_ext hk1 hC
      refine ⟨true, ((c1 || c2) || c3), congrArg some h18, fun hact => ?_, fun hact => ?_⟩
      · replace hact : (!((c1 || c2) || c3)) = true := by simpa using hact
        refine Does.mono (d_callB (vs := [(.string (formS k)), (.int .u8 (100 : Int))]) (cons_ev (gb_ev hact (congrArg some h22)) (cons_ev rfl rfl)) Try.func50 (by kernel_rfl) (by kernel_rfl) (by have hact0 := hact; (try simp only [Bool.and_eq_true, Bool.not_eq_true', Bool.or_eq_false_iff, Bool.or_eq_true, Bool.and_eq_false_iff, ne_eq, decide_eq_true_eq, decide_eq_false_iff_not] at hact0); exact (rcount_any (formS k) 100 _ (by have := (word_len k).2; omega)))) (fun _ _ h => ⟨h.2, ?_, nofr rfl⟩)
        show _ = gb _ _; rw [hact]; exact h.1
      · replace hact : (!((c1 || c2) || c3)) = false := by simpa using hact
        refine ⟨Below.refl _ _, ?_, nofr rfl⟩
        show _ = gb _ _; rw [hact]; rfl
    refine ⟨fun wu24 hC hd => ?_, ?_⟩
    · obtain ⟨h18, h23, _⟩ := hd
      skip
      skip
      replace h18 : V 18 = (.bool ((c1 || c2) || c3)) := h18
      replace h23 : V 23 = (gb (!((c1 || c2) || c3)) (.int .i64 (((cntB (formS k) 100) : Nat) : Int))) := h23
      replace hb := hb.trans (hC.mono hb.size)
      replace hk1 := blk_ext hk1 hC
      refine ⟨true, ((c1 || c2) || c3), congrArg some h18, fun hact => ?_, fun hact => ?_⟩
      · replace hact : (!((c1 || c2) || c3)) = true := by simpa using hact
        refine Runs.does (v := (.int .i64 ((4096 : Int) * (((cntB (formS k) 100) : Nat) : Int)))) (by have hact0 := hact; (try simp only [Bool.and_eq_true, Bool.not_eq_true', Bool.or_eq_false_iff, Bool.or_eq_true, Bool.and_eq_false_iff, ne_eq, decide_eq_true_eq, decide_eq_false_iff_not] at hact0); exact (r_mul (C := ((4096 : Int) * (((cntB (formS k) 100) : Nat) : Int))) rfl (gb_ev hact (congrArg some h23)) (by rw [IntKind.wrap_i64]; omega))) ⟨Below.refl _ _, ?_, nofr rfl⟩
        show _ = gb _ _; rw [hact]; rfl
      · replace hact : (!((c1 || c2) || c3)) = false := by simpa using hact
        refine ⟨Below.refl _ _, ?_, nofr rfl⟩
        show _ = gb _ _; rw [hact]; rfl
    refine ⟨fun wu25 hC hd => ?_, ?_⟩
    · obtain ⟨h18, h21, h24, _⟩ := hd
      skip
      skip
      skip
      replace h18 : V 18 = (.bool ((c1 || c2) || c3)) := h18
      replace h21 : V 21 = (gb (!((c1 || c2) || c3)) (.int .i64 ((st.D.length : Nat) : Int))) := h21
      replace h24 : V 24 = (gb (!((c1 || c2) || c3)) (.int .i64 ((4096 : Int) * (((cntB (formS k) 100) : Nat) : Int)))) := h24
      replace hb := hb.trans (hC.mono hb.size)
      replace hk1 := blk_ext hk1 hC
      refine ⟨true, ((c1 || c2) || c3), congrArg some h18, fun hact => ?_, fun hact => ?_⟩
      · replace hact : (!((c1 || c2) || c3)) = true := by simpa using hact
        refine Runs.does (v := (.bool c4)) (Runs.veq (r_gt (gb_ev hact (congrArg some h21)) (gb_ev hact (congrArg some h24))) (congrArg Value.bool (show _ = c4 from hc4))) ⟨Below.refl _ _, ?_, nofr rfl⟩
        show _ = gb _ _; rw [hact]; rfl
      · replace hact : (!((c1 || c2) || c3)) = false := by simpa using hact
        refine ⟨Below.refl _ _, ?_, nofr rfl⟩
        show _ = gb _ _; rw [hact]; rfl
    refine ⟨fun wu26 hC hd => ?_, ?_⟩
    · obtain ⟨h18, h25, _⟩ := hd
      skip
      skip
      replace h18 : V 18 = (.bool ((c1 || c2) || c3)) := h18
      replace h25 : V 25 = (gb (!((c1 || c2) || c3)) (.bool c4)) := h25
      replace hb := hb.trans (hC.mono hb.size)
      replace hk1 := blk_ext hk1 hC
      exact Runs.does (r_pickO (b := ((c1 || c2) || c3)) (e := c4) (congrArg some h18) rfl (congrArg some h25)) ⟨Below.refl _ _, rfl, nofr rfl⟩
    refine ⟨fun wu27 hC hd => ?_, ?_⟩
    · obtain ⟨h23, h26, _⟩ := hd
      skip
      skip
      replace h23 : V 23 = (gb (!((c1 || c2) || c3)) (.int .i64 (((cntB (formS k) 100) : Nat) : Int))) := h23
      replace h26 : V 26 = (.bool (((c1 || c2) || c3) || c4)) := h26
      replace hb := hb.trans (hC.mono hb.size)
      replace hk1 := blk_ext hk1 hC
      exact Runs.does (r_move (congrArg some h26)) ⟨Below.refl _ _, rfl, nofr rfl⟩
    refine ⟨fun wu28 hC hd => ?_, ?_⟩
    · obtain ⟨h27, _⟩ := hd
      skip
      replace h27 : V 27 = (.bool (((c1 || c2) || c3) || c4)) := h27
      replace hb := hb.trans (hC.mono hb.size)
      replace hk1 := blk_ext hk1 hC
      refine ⟨true, (((c1 || c2) || c3) || c4), congrArg some h27, fun hact => ?_, fun hact => ?_⟩
      · replace hact : (!(((c1 || c2) || c3) || c4)) = true := by simpa using hact
        refine Runs.does (v := (.pointer (some ⟨b1, 3, none⟩))) (r_fa rfl Try.underlying49 (f := 3) (q := 3) rfl (by kernel_rfl) rfl) ⟨Below.refl _ _, ?_, nofr rfl⟩
        show _ = gb _ _; rw [hact]; rfl
      · replace hact : (!(((c1 || c2) || c3) || c4)) = false := by simpa using hact
        refine ⟨Below.refl _ _, ?_, nofr rfl⟩
        show _ = gb _ _; rw [hact]; rfl
    refine ⟨fun wu29 hC hd => ?_, ?_⟩
    · obtain ⟨h27, h28, _⟩ := hd
      skip
      skip
      replace h27 : V 27 = (.bool (((c1 || c2) || c3) || c4)) := h27
      replace h28 : V 28 = (gb (!(((c1 || c2) || c3) || c4)) (.pointer (some ⟨b1, 3, none⟩))) := h28
      replace hb := hb.trans (hC.mono hb.size)
      replace hk1 := blk_ext hk1 hC
      refine ⟨true, (((c1 || c2) || c3) || c4), congrArg some h27, fun hact => ?_, fun hact => ?_⟩
      · replace hact : (!(((c1 || c2) || c3) || c4)) = true := by simpa using hact
        refine Runs.does (v := (.slice aA st.A.length cA)) (r_load (v := (.slice aA st.A.length cA)) (gb_ev hact (congrArg some h28)) Try.underlying42 rfl (cell_blk hk1 rfl)) ⟨Below.refl _ _, ?_, nofr rfl⟩
        show _ = gb _ _; rw [hact]; rfl
      · replace hact : (!(((c1 || c2) || c3) || c4)) = false := by simpa using hact
        refine ⟨Below.refl _ _, ?_, nofr rfl⟩
        show _ = gb _ _; rw [hact]; rfl
    refine ⟨fun wu30 hC hd => ?_, ?_⟩
    · obtain ⟨h27, h29, _⟩ := hd
      skip
      skip
      replace h27 : V 27 = (.bool (((c1 || c2) || c3) || c4)) := h27
      replace h29 : V 29 = (gb (!(((c1 || c2) || c3) || c4)) (.slice aA st.A.length cA)) := h29
      replace hb := hb.trans (hC.mono hb.size)
      replace hk1 := blk_ext hk1 hC
      refine ⟨true, (((c1 || c2) || c3) || c4), congrArg some h27, fun hact => ?_, fun hact => ?_⟩
      · replace hact : (!(((c1 || c2) || c3) || c4)) = true := by simpa using hact
        refine Runs.does (v := (.int .i64 ((st.A.length : Nat) : Int))) (r_lensl (gb_ev hact (congrArg some h29)) Try.underlying42) ⟨Below.refl _ _, ?_, nofr rfl⟩
        show _ = gb _ _; rw [hact]; rfl
      · replace hact : (!(((c1 || c2) || c3) || c4)) = false := by simpa using hact
        refine ⟨Below.refl _ _, ?_, nofr rfl⟩
        show _ = gb _ _; rw [hact]; rfl
    refine ⟨fun wu31 hC hd => ?_, ?_⟩
    · obtain ⟨h27, _⟩ := hd
      skip
      replace h27 : V 27 = (.bool (((c1 || c2) || c3) || c4)) := h27
      replace hb := hb.trans (hC.mono hb.size)
      replace hk1 := blk_ext hk1 hC
      refine ⟨true, (((c1 || c2) || c3) || c4), congrArg some h27, fun hact => ?_, fun hact => ?_⟩
      · replace hact : (!(((c1 || c2) || c3) || c4)) = true := by simpa using hact
        refine Runs.does (v := (.string (formS k))) (r_move rfl) ⟨Below.refl _ _, ?_, nofr rfl⟩
        show _ = gb _ _; rw [hact]; rfl
      · replace hact : (!(((c1 || c2) || c3) || c4)) = false := by simpa using hact
        refine ⟨Below.refl _ _, ?_, nofr rfl⟩
        show _ = gb _ _; rw [hact]; rfl
    refine ⟨fun wu32 hC hd => ?_, ?_⟩
    · obtain ⟨h27, h31, _⟩ := hd
      skip
      skip
      replace h27 : V 27 = (.bool (((c1 || c2) || c3) || c4)) := h27
      replace h31 : V 31 = (gb (!(((c1 || c2) || c3) || c4)) (.string (formS k))) := h31
      replace hb := hb.trans (hC.mono hb.size)
      replace hk1 := blk_ext hk1 hC
      refine ⟨true, (((c1 || c2) || c3) || c4), congrArg some h27, fun hact => ?_, fun hact => ?_⟩
      · replace hact : (!(((c1 || c2) || c3) || c4)) = true := by simpa using hact
        refine Does.mono (d_callB (vs := [(.string (formS k)), (.int .u8 (97 : Int))]) (cons_ev (gb_ev hact (congrArg some h31)) (cons_ev rfl rfl)) Try.func50 (by kernel_rfl) (by kernel_rfl) (by have hact0 := hact; (try simp only [Bool.and_eq_true, Bool.not_eq_true', Bool.or_eq_false_iff, Bool.or_eq_true, Bool.and_eq_false_iff, ne_eq, decide_eq_true_eq, decide_eq_false_iff_not] at hact0); exact (rcount_any (formS k) 97 _ (by have := (word_len k).2; omega)))) (fun _ _ h => ⟨h.2, ?_, nofr rfl⟩)
        show _ = gb _ _; rw [hact]; exact h.1
      · replace hact : (!(((c1 || c2) || c3) || c4)) = false := by simpa using hact
        refine ⟨Below.refl _ _, ?_, nofr rfl⟩
        show _ = gb _ _; rw [hact]; rfl
    refine ⟨fun wu33 hC hd => ?_, ?_⟩
    · obtain ⟨h27, h32, _⟩ := hd
      skip
      skip
      replace h27 : V 27 = (.bool (((c1 || c2) || c3) || c4)) := h27
      replace h32 : V 32 = (gb (!(((c1 || c2) || c3) || c4)) (.int .i64 (((cntB (formS k) 97) : Nat) : Int))) := h32
      replace hb := hb.trans (hC.mono hb.size)
      replace hk1 := blk_ext hk1 hC
      refine ⟨true, (((c1 || c2) || c3) || c4), congrArg some h27, fun hact => ?_, fun hact => ?_⟩
      · replace hact : (!(((c1 || c2) || c3) || c4)) = true := by simpa using hact
        refine Runs.does (v := (.int .i64 ((20 : Int) * (((cntB (formS k) 97) : Nat) : Int)))) (by have hact0 := hact; (try simp only [Bool.and_eq_true, Bool.not_eq_true', Bool.or_eq_false_iff, Bool.or_eq_true, Bool.and_eq_false_iff, ne_eq, decide_eq_true_eq, decide_eq_false_iff_not] at hact0); exact (r_mul (C := ((20 : Int) * (((cntB (formS k) 97) : Nat) : Int))) rfl (gb_ev hact (congrArg some h32)) (by rw [IntKind.wrap_i64]; omega))) ⟨Below.refl _ _, ?_, nofr rfl⟩
        show _ = gb _ _; rw [hact]; rfl
      · replace hact : (!(((c1 || c2) || c3) || c4)) = false := by simpa using hact
        refine ⟨Below.refl _ _, ?_, nofr rfl⟩
        show _ = gb _ _; rw [hact]; rfl
    refine ⟨fun wu34 hC hd => ?_, ?_⟩
    · obtain ⟨h27, h30, h33, _⟩ := hd
      skip
      skip
      skip
      replace h27 : V 27 = (.bool (((c1 || c2) || c3) || c4)) := h27
      replace h30 : V 30 = (gb (!(((c1 || c2) || c3) || c4)) (.int .i64 ((st.A.length : Nat) : Int))) := h30
      replace h33 : V 33 = (gb (!(((c1 || c2) || c3) || c4)) (.int .i64 ((20 : Int) * (((cntB (formS k) 97) : Nat) : Int)))) := h33
      replace hb := hb.trans (hC.mono hb.size)
      replace hk1 := blk_ext hk1 hC
      refine ⟨true, (((c1 || c2) || c3) || c4), congrArg some h27, fun hact => ?_, fun hact => ?_⟩
      · replace hact : (!(((c1 || c2) || c3) || c4)) = true := by simpa using hact
        refine Runs.does (v := (.bool c5)) (Runs.veq (r_gt (gb_ev hact (congrArg some h30)) (gb_ev hact (congrArg some h33))) (congrArg Value.bool (show _ = c5 from hc5))) ⟨Below.refl _ _, ?_, nofr rfl⟩
        show _ = gb _ _; rw [hact]; rfl
      · replace hact : (!(((c1 || c2) || c3) || c4)) = false := by simpa using hact
        refine ⟨Below.refl _ _, ?_, nofr rfl⟩
        show _ = gb _ _; rw [hact]; rfl
    refine ⟨fun wu35 hC hd => ?_, ?_⟩
    · obtain ⟨h27, h34, _⟩ := hd
      skip
      skip
      replace h27 : V 27 = (.bool (((c1 || c2) || c3) || c4)) := h27
      replace h34 : V 34 = (gb (!(((c1 || c2) || c3) || c4)) (.bool c5)) := h34
      replace hb := hb.trans (hC.mono hb.size)
      replace hk1 := blk_ext hk1 hC
      exact Runs.does (r_pickO (b := (((c1 || c2) || c3) || c4)) (e := c5) (congrArg some h27) rfl (congrArg some h34)) ⟨Below.refl _ _, rfl, nofr rfl⟩
    trivial
  · skip
    clear hf fa; intro V w3 fa he3 hp hnb hf
    have hv0 : V 0 = (.string (wordS k)) := postsHold_at hp 0 rfl
    have hv1 : V 1 = (.bool c1) := postsHold_at hp 1 rfl
    have hv2 : V 2 = (.bool c1) := postsHold_at hp 2 rfl
    have hv3 : V 3 = (gb (!c1) (.pointer (some ⟨b1, 1, none⟩))) := postsHold_at hp 3 rfl
    have hv4 : V 4 = (gb (!c1) (.slice aN st.N.length cN)) := postsHold_at hp 4 rfl
    have hv5 : V 5 = (gb (!c1) (.int .i64 ((st.N.length : Nat) : Int))) := postsHold_at hp 5 rfl
    have hv6 : V 6 = (gb (!c1) (.string (formS k))) := postsHold_at hp 6 rfl
    have hv7 : V 7 = (gb (!c1) (.int .i64 (((cntB (formS k) 110) : Nat) : Int))) := postsHold_at hp 7 rfl
    have hv8 : V 8 = (gb (!c1) (.bool c2)) := postsHold_at hp 8 rfl
    have hv9 : V 9 = (.bool (c1 || c2)) := postsHold_at hp 9 rfl
    have hv10 : V 10 = (.bool (c1 || c2)) := postsHold_at hp 10 rfl
    have hv11 : V 11 = (gb (!(c1 || c2)) (.pointer (some ⟨b1, 2, none⟩))) := postsHold_at hp 11 rfl
    have hv12 : V 12 = (gb (!(c1 || c2)) (.slice aS st.S.length cS)) := postsHold_at hp 12 rfl
    have hv13 : V 13 = (gb (!(c1 || c2)) (.int .i64 ((st.S.length : Nat) : Int))) := postsHold_at hp 13 rfl
    have hv14 : V 14 = (gb (!(c1 || c2)) (.string (formS k))) := postsHold_at hp 14 rfl
    have hv15 : V 15 = (gb (!(c1 || c2)) (.int .i64 (((cntB (formS k) 115) : Nat) : Int))) := postsHold_at hp 15 rfl
    have hv16 : V 16 = (gb (!(c1 || c2)) (.bool c3)) := postsHold_at hp 16 rfl
    have hv17 : V 17 = (.bool ((c1 || c2) || c3)) := postsHold_at hp 17 rfl
    have hv18 : V 18 = (.bool ((c1 || c2) || c3)) := postsHold_at hp 18 rfl
    have hv19 : V 19 = (gb (!((c1 || c2) || c3)) (.pointer (some ⟨b1, 4, none⟩))) := postsHold_at hp 19 rfl
    have hv20 : V 20 = (gb (!((c1 || c2) || c3)) (.slice aD st.D.length cD)) := postsHold_at hp 20 rfl
    have hv21 : V 21 = (gb (!((c1 || c2) || c3)) (.int .i64 ((st.D.length : Nat) : Int))) := postsHold_at hp 21 rfl
    have hv22 : V 22 = (gb (!((c1 || c2) || c3)) (.string (formS k))) := postsHold_at hp 22 rfl
    have hv23 : V 23 = (gb (!((c1 || c2) || c3)) (.int .i64 (((cntB (formS k) 100) : Nat) : Int))) := postsHold_at hp 23 rfl
    have hv24 : V 24 = (gb (!((c1 || c2) || c3)) (.int .i64 ((4096 : Int) * (((cntB (formS k) 100) : Nat) : Int)))) := postsHold_at hp 24 rfl
    have hv25 : V 25 = (gb (!((c1 || c2) || c3)) (.bool c4)) := postsHold_at hp 25 rfl
    have hv26 : V 26 = (.bool (((c1 || c2) || c3) || c4)) := postsHold_at hp 26 rfl
    have hv27 : V 27 = (.bool (((c1 || c2) || c3) || c4)) := postsHold_at hp 27 rfl
    have hv28 : V 28 = (gb (!(((c1 || c2) || c3) || c4)) (.pointer (some ⟨b1, 3, none⟩))) := postsHold_at hp 28 rfl
    have hv29 : V 29 = (gb (!(((c1 || c2) || c3) || c4)) (.slice aA st.A.length cA)) := postsHold_at hp 29 rfl
    have hv30 : V 30 = (gb (!(((c1 || c2) || c3) || c4)) (.int .i64 ((st.A.length : Nat) : Int))) := postsHold_at hp 30 rfl
    have hv31 : V 31 = (gb (!(((c1 || c2) || c3) || c4)) (.string (formS k))) := postsHold_at hp 31 rfl
    have hv32 : V 32 = (gb (!(((c1 || c2) || c3) || c4)) (.int .i64 (((cntB (formS k) 97) : Nat) : Int))) := postsHold_at hp 32 rfl
    have hv33 : V 33 = (gb (!(((c1 || c2) || c3) || c4)) (.int .i64 ((20 : Int) * (((cntB (formS k) 97) : Nat) : Int)))) := postsHold_at hp 33 rfl
    have hv34 : V 34 = (gb (!(((c1 || c2) || c3) || c4)) (.bool c5)) := postsHold_at hp 34 rfl
    have hv35 : V 35 = (.bool ((((c1 || c2) || c3) || c4) || c5)) := postsHold_at hp 35 rfl
    simp only [List.take_succ_cons, List.take_zero, insAll, ins, hv0, hv1, hv2, hv3, hv4, hv5, hv6, hv7, hv8, hv9, hv10, hv11, hv12, hv13, hv14, hv15, hv16, hv17, hv18, hv19, hv20, hv21, hv22, hv23, hv24, hv25, hv26, hv27, hv28, hv29, hv30, hv31, hv32, hv33, hv34, hv35] at hf
    clear hp hnb hv0 hv1 hv2 hv3 hv4 hv5 hv6 hv7 hv8 hv9 hv10 hv11 hv12 hv13 hv14 hv15 hv16 hv17 hv18 hv19 hv20 hv21 hv22 hv23 hv24 hv25 hv26 hv27 hv28 hv29 hv30 hv31 hv32 hv33 hv34 hv35
    replace hk1 := blk_ext hk1 he3
    replace hb := hb.trans (Below.mono he3 hb.size)
    (try simp only [Exit.then, Exit.inBlock, ↓reduceIte, Nat.reduceEqDiff])
    refine hK4 _ _ ?_
    refine wp_cond_split (t := ((((c1 || c2) || c3) || c4) || c5)) (hf.ev rfl) (fun hqt48_1 => ?_) (fun hqt48_1 => ?_)
    · have hqt48_1b := hqt48_1
      try simp only [decide_eq_true_eq, Bool.and_eq_true, Bool.or_eq_true, Bool.not_eq_true', decide_eq_false_iff_not, ne_eq, Bool.not_eq_true] at hqt48_1
      refine wp_seq_k (fun K5 hK5 => ?_)
      refine wp_region_lit ?_
      refine sqv hf (r_assign rfl) rfl rfl rfl ?_; clear hf fa; intro fa hf
      apply wpList_nil
      (try simp only [Exit.then, Exit.inBlock, ↓reduceIte, Nat.reduceEqDiff])
      refine hK5 _ _ ?_
      refine wp_ret ?_
      (try simp only [Exit.then, Exit.inBlock])
      refine ret1 hf rfl rfl ?_
      refine ⟨?_, hb⟩; rw [right_head (by rintro ⟨h1, h2, h3, h4, h5, h6, h7⟩; have hd := hfc.1; have ha := hfc.2.1; have hX := hqt48_1; simp only [← hc1, ← hc2, ← hc3, ← hc4, ← hc5, decide_eq_true_eq, decide_eq_false_iff_not, ne_eq] at hX; rcases hX with (((h | h) | h) | h) | h; exact h1 h; omega; omega; (split at hd <;> omega); (split at ha <;> omega))]
    · have hqt48_1b := hqt48_1
      replace hqt48_1 := Bool.eq_false_iff.1 hqt48_1
      try simp only [ne_eq, decide_eq_true_eq, Bool.and_eq_true, Bool.or_eq_true, Bool.not_eq_true', decide_eq_false_iff_not] at hqt48_1
      refine wp_skip ?_
      (try simp only [Exit.then, Exit.inBlock, ↓reduceIte, Nat.reduceEqDiff])
      refine hK3 _ _ ?_
      refine wp_seq_k (fun K6 hK6 => ?_)
      refine wp_seq_k (fun K7 hK7 => ?_)
      have hH : Head k st := by
        have hX := hqt48_1; simp only [← hc1, ← hc2, ← hc3, ← hc4, ← hc5, decide_eq_true_eq, decide_eq_false_iff_not, ne_eq] at hX
        have hd := hfc.1
        have ha := hfc.2.1
        refine ⟨fun e => hX (.inl (.inl (.inl (.inl e)))), Classical.byContradiction fun e => hX (.inl (.inl (.inl (.inr (by omega))))), Classical.byContradiction fun e => hX (.inl (.inl (.inr (by omega)))), ?_⟩
        have h1 : ¬ (4096 * cntB (formS k) 100 < st.D.length) := fun e => hX (.inl (.inr (by omega)))
        have h2 : ¬ (20 * cntB (formS k) 97 < st.A.length) := fun e => hX (.inr (by omega))
        clear hX
        split at hd <;> split at ha <;> refine ⟨by omega, by omega, fun h0 => by omega, fun h0 => by omega⟩
      refine wp_region_lit ?_
      refine sqv hf (r_assign rfl) rfl rfl rfl ?_; clear hf fa; intro fa hf
      apply wpList_nil
      (try simp only [Exit.then, Exit.inBlock, ↓reduceIte, Nat.reduceEqDiff])
      refine hK7 _ _ ?_
      refine wp_block ?_
      refine wp_loop_k (fun mq fa wr => ∃ (j : Nat), mq = st.S.length - j ∧ Fr 102 fa [(1, (.pointer (some ⟨b1, 0, none⟩))), (5, (.int .i64 ((j : Nat) : Int)))] ∧ Below w.heap.size w wr ∧ wr.heap[b1]? = some (.cells #[(.int .i64 k), (.slice aN st.N.length cN), (.slice aS st.S.length cS), (.slice aA st.A.length cA), (.slice aD st.D.length cD)] 49 (0, 0)) ∧ (j ≤ st.S.length) ∧ (∀ s ∈ st.S.take j, checkF s = 0)) ?_ ?_
      · skip
        exact ⟨_, 0, rfl, hf.sub ⟨rfl, (some_int (by first | rfl | omega)), trivial⟩, hb, hk1, by omega, (by intro s hs; cases hs)⟩
      · skip
        clear hf fa; intro mq1 fa w4 hI KL1 hKL1
        clear hb
        clear hk1
        obtain ⟨j, hmq1, hf, hb, hkb1, hj, HS⟩ := hI
        refine wp_seq_k (fun K8 hK8 => ?_)
        refine wp_seq_k (fun K9 hK9 => ?_)
        refine wp_region_lit ?_
        refine sqv hf (r_move rfl) rfl rfl rfl ?_; clear hf fa; intro fa hf
        refine sqv hf (r_fa rfl Try.underlying49 (f := 2) (q := 2) rfl (by kernel_rfl) rfl) rfl rfl rfl ?_; clear hf fa; intro fa hf
        refine sqv hf (r_load (v := (.slice aS st.S.length cS)) rfl Try.underlying32 rfl (cell_blk hkb1 rfl)) rfl rfl rfl ?_; clear hf fa; intro fa hf
        refine sqv hf (r_lensl rfl Try.underlying32) rfl rfl rfl ?_; clear hf fa; intro fa hf
        refine sqv hf (r_lt rfl rfl) rfl rfl rfl ?_; clear hf fa; intro fa hf
        apply wpList_nil
        (try simp only [Exit.then, Exit.inBlock, ↓reduceIte, Nat.reduceEqDiff])
        refine hK9 _ _ ?_
        refine wp_cond_split (t := (decide (((j : Nat) : Int) < ((st.S.length : Nat) : Int)))) (hf.ev rfl) (fun hqt53_1 => ?_) (fun hqt53_1 => ?_)
        · have hqt53_1b := hqt53_1
          try simp only [decide_eq_true_eq, Bool.and_eq_true, Bool.or_eq_true, Bool.not_eq_true', decide_eq_false_iff_not, ne_eq, Bool.not_eq_true] at hqt53_1
          refine wp_skip ?_
          (try simp only [Exit.then, Exit.inBlock, ↓reduceIte, Nat.reduceEqDiff])
          refine hK8 _ _ ?_
          refine wp_seq_k (fun K10 hK10 => ?_)
          refine wp_block ?_
          refine wp_seq_k (fun K11 hK11 => ?_)
          refine wp_region_lit ?_
          refine sqv hf (r_fa rfl Try.underlying49 (f := 2) (q := 2) rfl (by kernel_rfl) rfl) rfl rfl rfl ?_; clear hf fa; intro fa hf
          refine sqv hf (r_load (v := (.slice aS st.S.length cS)) rfl Try.underlying32 rfl (cell_blk hkb1 rfl)) rfl rfl rfl ?_; clear hf fa; intro fa hf
          refine sqv hf (r_move rfl) rfl rfl rfl ?_; clear hf fa; intro fa hf
          obtain ⟨y1, hy1⟩ : ∃ x, (st.S)[j]? = some x := ⟨_, List.getElem?_eq_getElem (by (try simp only [Sl.list_length]); omega)⟩
          obtain ⟨ab1, aoff1, rfl, hlb1, hel1⟩ := RdS.at hF.2.1 hy1
          refine sqv hf (r_ixa (sz := 1) (j := j) rfl rfl Try.underlying32 (by kernel_rfl) rfl (by omega) rfl) rfl rfl rfl ?_; clear hf fa; intro fa hf
          refine sqv hf (r_load (v := (.string y1)) rfl Try.underlying9 rfl (cellsAt_cell (cellsAt_below hel1 hb hlb1) (i := 0) rfl rfl)) rfl rfl rfl ?_; clear hf fa; intro fa hf
          refine sqv hf (r_lens rfl Try.underlying9) rfl rfl rfl ?_; clear hf fa; intro fa hf
          refine sqv hf (r_gt rfl rfl) rfl rfl rfl ?_; clear hf fa; intro fa hf
          refine sqv hf (r_move rfl) rfl rfl rfl ?_; clear hf fa; intro fa hf
          refine sqgF (act := (!(decide ((200 : Int) < ((y1.size : Nat) : Int))))) (ag := true) (c := (decide ((200 : Int) < ((y1.size : Nat) : Int)))) (v := (.pointer (some ⟨b1, 2, none⟩))) hf rfl rfl rfl (fun hact => (r_fa rfl Try.underlying49 (f := 2) (q := 2) rfl (by kernel_rfl) rfl)) rfl rfl ?_; clear hf fa; intro fa hf
          refine sqgF (act := (!(decide ((200 : Int) < ((y1.size : Nat) : Int))))) (ag := true) (c := (decide ((200 : Int) < ((y1.size : Nat) : Int)))) (v := (.slice (some ⟨ab1, aoff1, none⟩) st.S.length cS)) hf rfl rfl rfl (fun hact => (r_load (v := (.slice (some ⟨ab1, aoff1, none⟩) st.S.length cS)) (gb_ev hact rfl) Try.underlying32 rfl (cell_blk hkb1 rfl))) rfl rfl ?_; clear hf fa; intro fa hf
          refine sqgF (act := (!(decide ((200 : Int) < ((y1.size : Nat) : Int))))) (ag := true) (c := (decide ((200 : Int) < ((y1.size : Nat) : Int)))) (v := (.int .i64 ((j : Nat) : Int))) hf rfl rfl rfl (fun hact => (r_move rfl)) rfl rfl ?_; clear hf fa; intro fa hf
          refine sqgF (act := (!(decide ((200 : Int) < ((y1.size : Nat) : Int))))) (ag := true) (c := (decide ((200 : Int) < ((y1.size : Nat) : Int)))) (v := (.pointer (some ⟨ab1, (aoff1 + j * 1), none⟩))) hf rfl rfl rfl (fun hact => (by have hact0 := hact; (try simp only [Bool.and_eq_true, Bool.not_eq_true', Bool.or_eq_false_iff, Bool.or_eq_true, Bool.and_eq_false_iff, ne_eq, decide_eq_true_eq, decide_eq_false_iff_not] at hact0); exact (r_ixa (sz := 1) (j := j) (gb_ev hact rfl) (gb_ev hact rfl) Try.underlying32 (by kernel_rfl) rfl (by omega) rfl))) rfl rfl ?_; clear hf fa; intro fa hf
          refine sqgF (act := (!(decide ((200 : Int) < ((y1.size : Nat) : Int))))) (ag := true) (c := (decide ((200 : Int) < ((y1.size : Nat) : Int)))) (v := (.string y1)) hf rfl rfl rfl (fun hact => (r_load (v := (.string y1)) (gb_ev hact rfl) Try.underlying9 rfl (cellsAt_cell (cellsAt_below hel1 hb hlb1) (i := 0) rfl rfl))) rfl rfl ?_; clear hf fa; intro fa hf
          refine sqgd (R := fun vq wq => vq = gb (!(decide ((200 : Int) < ((y1.size : Nat) : Int)))) (.int .i64 ((cnt (bl y1)))) ∧ Below w4.heap.size w4 wq) (act := (!(decide ((200 : Int) < ((y1.size : Nat) : Int))))) (g := 7) (want := false) (ag := true) (c := (decide ((200 : Int) < ((y1.size : Nat) : Int)))) hf (by rfl) (by rfl) (act_F _ _) (fun hact => (d_callB (vs := [(.string y1)]) (cons_ev (gb_ev hact rfl) rfl) Try.func51 (by kernel_rfl) (by kernel_rfl) (refCount_any y1 _ (by have h9 := hB.s _ (List.mem_of_getElem? hy1); omega))).mono (fun _ _ h => ⟨by rw [h.1, hact]; rfl, h.2⟩)) (fun h => ⟨by rw [h]; rfl, Below.refl _ _⟩) rfl ?_; clear hf fa; rintro fa _ w5 ⟨rfl, he4⟩ hf
          replace hkb1 := blk_ext hkb1 he4
          replace hb := hb.trans (Below.mono he4 hb.size)
          change Fr _ _ ((69, (gb (!(decide ((200 : Int) < ((y1.size : Nat) : Int)))) (.int .i64 ((cnt (bl y1)))))) :: _) at hf
          refine sqgF (act := (!(decide ((200 : Int) < ((y1.size : Nat) : Int))))) (ag := true) (c := (decide ((200 : Int) < ((y1.size : Nat) : Int)))) (v := (.bool (decide (((cnt (bl y1))) < (0 : Int))))) hf rfl rfl rfl (fun hact => (r_lt (gb_ev hact rfl) rfl)) rfl rfl ?_; clear hf fa; intro fa hf
          refine sqv hf (r_pickO (b := (decide ((200 : Int) < ((y1.size : Nat) : Int)))) (e := (decide (((cnt (bl y1))) < (0 : Int)))) rfl rfl rfl) rfl rfl rfl ?_; clear hf fa; intro fa hf
          apply wpList_nil
          (try simp only [Exit.then, Exit.inBlock, ↓reduceIte, Nat.reduceEqDiff])
          refine hK11 _ _ ?_
          refine wp_cond_split (t := ((decide ((200 : Int) < ((y1.size : Nat) : Int))) || (decide (((cnt (bl y1))) < (0 : Int))))) (hf.ev rfl) (fun hqt71_1 => ?_) (fun hqt71_1 => ?_)
          · have hqt71_1b := hqt71_1
            try simp only [decide_eq_true_eq, Bool.and_eq_true, Bool.or_eq_true, Bool.not_eq_true', decide_eq_false_iff_not, ne_eq, Bool.not_eq_true] at hqt71_1
            refine wp_seq_k (fun K12 hK12 => ?_)
            refine wp_region_lit ?_
            refine sqv hf (r_assign rfl) rfl rfl rfl ?_; clear hf fa; intro fa hf
            apply wpList_nil
            (try simp only [Exit.then, Exit.inBlock, ↓reduceIte, Nat.reduceEqDiff])
            refine hK12 _ _ ?_
            refine wp_ret ?_
            (try simp only [Exit.then, Exit.inBlock])
            refine ret1 hf rfl rfl ?_
            refine ⟨?_, hb⟩; rw [right_badS hy1 (by rw [check_iff]; have h := hqt71_1; omega)]
          · have hqt71_1b := hqt71_1
            replace hqt71_1 := Bool.eq_false_iff.1 hqt71_1
            try simp only [ne_eq, decide_eq_true_eq, Bool.and_eq_true, Bool.or_eq_true, Bool.not_eq_true', decide_eq_false_iff_not] at hqt71_1
            refine wp_skip ?_
            (try simp only [Exit.then, Exit.inBlock, ↓reduceIte, Nat.reduceEqDiff])
            refine hK10 _ _ ?_
            refine wp_region_lit ?_
            refine sqv hf (r_move rfl) rfl rfl rfl ?_; clear hf fa; intro fa hf
            refine sqv hf (r_add (C := (((j : Nat) : Int) + (1 : Int))) rfl rfl (by rw [IntKind.wrap_i64]; omega)) rfl rfl rfl ?_; clear hf fa; intro fa hf
            refine sqv hf (r_assign rfl) rfl rfl rfl ?_; clear hf fa; intro fa hf
            apply wpList_nil
            (try simp only [Exit.then, Exit.inBlock, ↓reduceIte, Nat.reduceEqDiff])
            refine hKL1 _ _ _ (by omega) ⟨(j + 1), rfl, hf.sub ⟨rfl, (some_int (by first | rfl | omega)), trivial⟩, hb, hkb1, by omega, (all_snoc HS hy1 ((check_iff _).2 (by have h := hqt71_1; omega)))⟩
        · have hqt53_1b := hqt53_1
          replace hqt53_1 := Bool.eq_false_iff.1 hqt53_1
          try simp only [ne_eq, decide_eq_true_eq, Bool.and_eq_true, Bool.or_eq_true, Bool.not_eq_true', decide_eq_false_iff_not] at hqt53_1
          refine wp_exit ?_
          (try simp only [Exit.then, Exit.inBlock, ↓reduceIte, Nat.reduceEqDiff])
          refine hK6 _ _ ?_
          refine wp_seq_k (fun K13 hK13 => ?_)
          refine wp_seq_k (fun K14 hK14 => ?_)
          refine wp_region_lit ?_
          refine sqv hf (r_assign rfl) rfl rfl rfl ?_; clear hf fa; intro fa hf
          apply wpList_nil
          (try simp only [Exit.then, Exit.inBlock, ↓reduceIte, Nat.reduceEqDiff])
          refine hK14 _ _ ?_
          refine wp_block ?_
          refine wp_loop_k (fun mq fa wr => ∃ (i : Nat), mq = st.A.length - i ∧ Fr 102 fa [(1, (.pointer (some ⟨b1, 0, none⟩))), (6, (.int .i64 ((i : Nat) : Int)))] ∧ Below w.heap.size w wr ∧ wr.heap[b1]? = some (.cells #[(.int .i64 k), (.slice aN st.N.length cN), (.slice aS st.S.length cS), (.slice aA st.A.length cA), (.slice aD st.D.length cD)] 49 (0, 0)) ∧ (i ≤ st.A.length) ∧ (∀ v ∈ st.A.take i, vrightP v = true)) ?_ ?_
          · skip
            exact ⟨_, 0, rfl, hf.sub ⟨rfl, (some_int (by first | rfl | omega)), trivial⟩, hb, hkb1, by omega, (by intro s hs; cases hs)⟩
          · skip
            clear hf fa; intro mq2 fa w6 hI KL2 hKL2
            clear hb
            clear hkb1
            obtain ⟨i, hmq2, hf, hb, hkb1, hi, HA⟩ := hI
            refine wp_seq_k (fun K15 hK15 => ?_)
            refine wp_seq_k (fun K16 hK16 => ?_)
            refine wp_region_lit ?_
            refine sqv hf (r_move rfl) rfl rfl rfl ?_; clear hf fa; intro fa hf
            refine sqv hf (r_fa rfl Try.underlying49 (f := 3) (q := 3) rfl (by kernel_rfl) rfl) rfl rfl rfl ?_; clear hf fa; intro fa hf
            refine sqv hf (r_load (v := (.slice aA st.A.length cA)) rfl Try.underlying42 rfl (cell_blk hkb1 rfl)) rfl rfl rfl ?_; clear hf fa; intro fa hf
            refine sqv hf (r_lensl rfl Try.underlying42) rfl rfl rfl ?_; clear hf fa; intro fa hf
            refine sqv hf (r_lt rfl rfl) rfl rfl rfl ?_; clear hf fa; intro fa hf
            apply wpList_nil
            (try simp only [Exit.then, Exit.inBlock, ↓reduceIte, Nat.reduceEqDiff])
            refine hK16 _ _ ?_
            refine wp_cond_split (t := (decide (((i : Nat) : Int) < ((st.A.length : Nat) : Int)))) (hf.ev rfl) (fun hqt76_1 => ?_) (fun hqt76_1 => ?_)
            · have hqt76_1b := hqt76_1
              try simp only [decide_eq_true_eq, Bool.and_eq_true, Bool.or_eq_true, Bool.not_eq_true', decide_eq_false_iff_not, ne_eq, Bool.not_eq_true] at hqt76_1
              refine wp_skip ?_
              (try simp only [Exit.then, Exit.inBlock, ↓reduceIte, Nat.reduceEqDiff])
              refine hK15 _ _ ?_
              refine wp_seq_k (fun K17 hK17 => ?_)
              refine wp_block ?_
              refine wp_seq_k (fun K18 hK18 => ?_)
              obtain ⟨y, hy⟩ : ∃ x, st.A[i]? = some x := ⟨_, List.getElem?_eq_getElem (by omega)⟩
              have hyr : RngV y := hB.a y (List.mem_of_getElem? hy)
              have hyr1 := hyr.1
              obtain ⟨c6, hc6⟩ : ∃ b, decide (tvalP y.1 ≠ 0) = b := ⟨_, rfl⟩
              have hy2 : (st.A)[i]? = some y := hy
              obtain ⟨ab2, aoff2, rfl, hlb2, hel2⟩ := RdS.at hF.2.2.1 hy2
              have hy3 : (st.A)[i]? = some y := hy
              obtain ⟨_, _, hab, hlb3, hel3⟩ := RdS.at hF.2.2.1 hy3
              cases hab
              have hy4 : (st.A)[i]? = some y := hy
              obtain ⟨_, _, hab, hlb4, hel4⟩ := RdS.at hF.2.2.1 hy4
              cases hab
              refine wp_region_un (fun wq => Below w6.heap.size w6 wq) (fun w w' => Below w.heap.size w w')
                (fun V => [(fun x _ => x = (.pointer (some ⟨b1, 3, none⟩))), (fun x _ => x = (.slice (some ⟨ab2, aoff2, none⟩) st.A.length cA)), (fun x _ => x = (.int .i64 ((i : Nat) : Int))), (fun x _ => x = (.pointer (some ⟨ab2, (aoff2 + i * 2), none⟩))), (fun x _ => x = (.pointer (some ⟨ab2, (aoff2 + i * 2), none⟩))), (fun x _ => x = (.int .u8 y.1)), (fun x _ => x = (.int .i64 y.1)), (fun x _ => x = (.int .i64 ((tvalP y.1)))), (fun x _ => x = (.bool c6)), (fun x _ => x = (.bool c6)), (fun x _ => x = (gb (!c6) (.pointer (some ⟨b1, 3, none⟩)))), (fun x _ => x = (gb (!c6) (.slice (some ⟨ab2, aoff2, none⟩) st.A.length cA))), (fun x _ => x = (gb (!c6) (.int .i64 ((i : Nat) : Int)))), (fun x _ => x = (gb (!c6) (.pointer (some ⟨ab2, (aoff2 + i * 2), none⟩)))), (fun x _ => x = (gb (!c6) (.agg #[(.int .u8 y.1), (.int .u64 y.2.1)]))), (fun x _ => x = (gb (!c6) (.agg #[(.int .u8 ((tcutP y).1)), (.int .u64 ((tcutP y).2.1))]))), (fun x _ => x = (gb (!c6) (.pointer (some ⟨b1, 3, none⟩)))), (fun x _ => x = (gb (!c6) (.slice (some ⟨ab2, aoff2, none⟩) st.A.length cA))), (fun x _ => x = (gb (!c6) (.int .i64 ((i : Nat) : Int)))), (fun x _ => x = (gb (!c6) (.pointer (some ⟨ab2, (aoff2 + i * 2), none⟩)))), (fun x _ => x = (gb (!c6) (.agg #[(.int .u8 y.1), (.int .u64 y.2.1)]))), (fun x _ => x = (gb (!c6) (.bool (!((decide (((tcutP y).1) = y.1)) && (decide (((tcutP y).2.1) = y.2.1))))))), (fun x _ => x = (.bool (c6 || (!((decide (((tcutP y).1) = y.1)) && (decide (((tcutP y).2.1) = y.2.1)))))))])
                []
                [[], [0], [], [1, 2], [3], [4], [5], [6], [7], [7, 8], [9], [9, 10], [9], [9, 11, 12], [9, 13], [9, 14], [9], [9, 16], [9], [9, 17, 18], [9, 19], [9, 15, 20], [9, 21]]
                hf (by kernel_rfl) (by kernel_rfl) (fun _ => rfl) ((Below.refl _ _).drew) (fun a b h1 h2 => h1.trans (h2.mono h1.size)) (fun _ _ h => h.size) (fun V => ⟨kept_eq, kept_eq, kept_eq, kept_eq, kept_eq, kept_eq, kept_eq, kept_eq, kept_eq, kept_eq, kept_eq, kept_eq, kept_eq, kept_eq, kept_eq, kept_eq, kept_eq, kept_eq, kept_eq, kept_eq, kept_eq, kept_eq, kept_eq, trivial⟩) (fun _ _ _ _ _ => rfl) ?_ ?_
              · skip
                intro V
                refine ⟨fun wu0 hC hd => ?_, ?_⟩
                · clear hd
                  replace hb := hb.trans (hC.mono hb.size)
                  replace hkb1 := blk_ext hkb1 hC
                  exact Runs.does (r_fa rfl Try.underlying49 (f := 3) (q := 3) rfl (by kernel_rfl) rfl) ⟨Below.refl _ _, rfl, nofr rfl⟩
                refine ⟨fun wu1 hC hd => ?_, ?_⟩
                · obtain ⟨h0, _⟩ := hd
                  skip
                  replace h0 : V 0 = (.pointer (some ⟨b1, 3, none⟩)) := h0
                  replace hb := hb.trans (hC.mono hb.size)
                  replace hkb1 := blk_ext hkb1 hC
                  exact Runs.does (r_load (v := (.slice (some ⟨ab2, aoff2, none⟩) st.A.length cA)) (congrArg some h0) Try.underlying42 rfl (cell_blk hkb1 rfl)) ⟨Below.refl _ _, rfl, nofr rfl⟩
                refine ⟨fun wu2 hC hd => ?_, ?_⟩
                · clear hd
                  replace hb := hb.trans (hC.mono hb.size)
                  replace hkb1 := blk_ext hkb1 hC
                  exact Runs.does (r_move rfl) ⟨Below.refl _ _, rfl, nofr rfl⟩
                refine ⟨fun wu3 hC hd => ?_, ?_⟩
                · obtain ⟨h1, h2, _⟩ := hd
                  skip
                  skip
                  replace h1 : V 1 = (.slice (some ⟨ab2, aoff2, none⟩) st.A.length cA) := h1
                  replace h2 : V 2 = (.int .i64 ((i : Nat) : Int)) := h2
                  replace hb := hb.trans (hC.mono hb.size)
                  replace hkb1 := blk_ext hkb1 hC
                  exact Runs.does (r_ixa (sz := 2) (j := i) (congrArg some h1) (congrArg some h2) Try.underlying42 (by kernel_rfl) rfl (by omega) rfl) ⟨Below.refl _ _, rfl, nofr rfl⟩
                refine ⟨fun wu4 hC hd => ?_, ?_⟩
                · obtain ⟨h3, _⟩ := hd
                  skip
                  replace h3 : V 3 = (.pointer (some ⟨ab2, (aoff2 + i * 2), none⟩)) := h3
                  replace hb := hb.trans (hC.mono hb.size)
                  replace hkb1 := blk_ext hkb1 hC
                  exact Runs.does (r_fa (congrArg some h3) Try.underlying65 (f := 0) (q := (aoff2 + i * 2)) rfl (by kernel_rfl) rfl) ⟨Below.refl _ _, rfl, nofr rfl⟩
                refine ⟨fun wu5 hC hd => ?_, ?_⟩
                · obtain ⟨h4, _⟩ := hd
                  skip
                  replace h4 : V 4 = (.pointer (some ⟨ab2, (aoff2 + i * 2), none⟩)) := h4
                  replace hb := hb.trans (hC.mono hb.size)
                  replace hkb1 := blk_ext hkb1 hC
                  exact Runs.does (r_load (v := (.int .u8 y.1)) (congrArg some h4) Try.underlying5 rfl (cellsAt_cell (cellsAt_below hel2 hb hlb2) (i := 0) rfl rfl)) ⟨Below.refl _ _, rfl, nofr rfl⟩
                refine ⟨fun wu6 hC hd => ?_, ?_⟩
                · obtain ⟨h5, _⟩ := hd
                  skip
                  replace h5 : V 5 = (.int .u8 y.1) := h5
                  replace hb := hb.trans (hC.mono hb.size)
                  replace hkb1 := blk_ext hkb1 hC
                  exact Runs.does (r_conv (C := y.1) (congrArg some h5) Try.underlying5 Try.underlying3 (by rw [IntKind.wrap_i64]; omega)) ⟨Below.refl _ _, rfl, nofr rfl⟩
                refine ⟨fun wu7 hC hd => ?_, ?_⟩
                · obtain ⟨h6, _⟩ := hd
                  skip
                  replace h6 : V 6 = (.int .i64 y.1) := h6
                  replace hb := hb.trans (hC.mono hb.size)
                  replace hkb1 := blk_ext hkb1 hC
                  refine Does.mono (d_callS (vs := [(.int .i64 y.1)]) (show [some (V 6)] = [some (.int .i64 y.1)] from by rw [h6]) Try.func52 (by kernel_rfl) (by kernel_rfl) (rval2_any y.1 _)) (fun _ _ h => ⟨h.2 ▸ Below.refl _ _, h.1, nofr rfl⟩)
                refine ⟨fun wu8 hC hd => ?_, ?_⟩
                · obtain ⟨h7, _⟩ := hd
                  skip
                  replace h7 : V 7 = (.int .i64 ((tvalP y.1))) := h7
                  replace hb := hb.trans (hC.mono hb.size)
                  replace hkb1 := blk_ext hkb1 hC
                  exact Runs.does (Runs.veq (r_ne (congrArg some h7) rfl) (congrArg Value.bool (show _ = c6 from hc6))) ⟨Below.refl _ _, rfl, nofr rfl⟩
                refine ⟨fun wu9 hC hd => ?_, ?_⟩
                · obtain ⟨h7, h8, _⟩ := hd
                  skip
                  skip
                  replace h7 : V 7 = (.int .i64 ((tvalP y.1))) := h7
                  replace h8 : V 8 = (.bool c6) := h8
                  replace hb := hb.trans (hC.mono hb.size)
                  replace hkb1 := blk_ext hkb1 hC
                  exact Runs.does (r_move (congrArg some h8)) ⟨Below.refl _ _, rfl, nofr rfl⟩
                refine ⟨fun wu10 hC hd => ?_, ?_⟩
                · obtain ⟨h9, _⟩ := hd
                  skip
                  replace h9 : V 9 = (.bool c6) := h9
                  replace hb := hb.trans (hC.mono hb.size)
                  replace hkb1 := blk_ext hkb1 hC
                  refine ⟨true, c6, congrArg some h9, fun hact => ?_, fun hact => ?_⟩
                  · replace hact : (!c6) = true := by simpa using hact
                    refine Runs.does (v := (.pointer (some ⟨b1, 3, none⟩))) (r_fa rfl Try.underlying49 (f := 3) (q := 3) rfl (by kernel_rfl) rfl) ⟨Below.refl _ _, ?_, nofr rfl⟩
                    show _ = gb _ _; rw [hact]; rfl
                  · replace hact : (!c6) = false := by simpa using hact
                    refine ⟨Below.refl _ _, ?_, nofr rfl⟩
                    show _ = gb _ _; rw [hact]; rfl
                refine ⟨fun wu11 hC hd => ?_, ?_⟩
                · obtain ⟨h9, h10, _⟩ := hd
                  skip
                  skip
                  replace h9 : V 9 = (.bool c6) := h9
                  replace h10 : V 10 = (gb (!c6) (.pointer (some ⟨b1, 3, none⟩))) := h10
                  replace hb := hb.trans (hC.mono hb.size)
                  replace hkb1 := blk_ext hkb1 hC
                  refine ⟨true, c6, congrArg some h9, fun hact => ?_, fun hact => ?_⟩
                  · replace hact : (!c6) = true := by simpa using hact
                    refine Runs.does (v := (.slice (some ⟨ab2, aoff2, none⟩) st.A.length cA)) (r_load (v := (.slice (some ⟨ab2, aoff2, none⟩) st.A.length cA)) (gb_ev hact (congrArg some h10)) Try.underlying42 rfl (cell_blk hkb1 rfl)) ⟨Below.refl _ _, ?_, nofr rfl⟩
                    show _ = gb _ _; rw [hact]; rfl
                  · replace hact : (!c6) = false := by simpa using hact
                    refine ⟨Below.refl _ _, ?_, nofr rfl⟩
                    show _ = gb _ _; rw [hact]; rfl
                refine ⟨fun wu12 hC hd => ?_, ?_⟩
                · obtain ⟨h9, _⟩ := hd
                  skip
                  replace h9 : V 9 = (.bool c6) := h9
                  replace hb := hb.trans (hC.mono hb.size)
                  replace hkb1 := blk_ext hkb1 hC
                  refine ⟨true, c6, congrArg some h9, fun hact => ?_, fun hact => ?_⟩
                  · replace hact : (!c6) = true := by simpa using hact
                    refine Runs.does (v := (.int .i64 ((i : Nat) : Int))) (r_move rfl) ⟨Below.refl _ _, ?_, nofr rfl⟩
                    show _ = gb _ _; rw [hact]; rfl
                  · replace hact : (!c6) = false := by simpa using hact
                    refine ⟨Below.refl _ _, ?_, nofr rfl⟩
                    show _ = gb _ _; rw [hact]; rfl
                refine ⟨fun wu13 hC hd => ?_, ?_⟩
                · obtain ⟨h9, h11, h12, _⟩ := hd
                  skip
                  skip
                  skip
                  replace h9 : V 9 = (.bool c6) := h9
                  replace h11 : V 11 = (gb (!c6) (.slice (some ⟨ab2, aoff2, none⟩) st.A.length cA)) := h11
                  replace h12 : V 12 = (gb (!c6) (.int .i64 ((i : Nat) : Int))) := h12
                  replace hb := hb.trans (hC.mono hb.size)
                  replace hkb1 := blk_ext hkb1 hC
                  refine ⟨true, c6, congrArg some h9, fun hact => ?_, fun hact => ?_⟩
                  · replace hact : (!c6) = true := by simpa using hact
                    refine Runs.does (v := (.pointer (some ⟨ab2, (aoff2 + i * 2), none⟩))) (by have hact0 := hact; (try simp only [Bool.and_eq_true, Bool.not_eq_true', Bool.or_eq_false_iff, Bool.or_eq_true, Bool.and_eq_false_iff, ne_eq, decide_eq_true_eq, decide_eq_false_iff_not] at hact0); exact (r_ixa (sz := 2) (j := i) (gb_ev hact (congrArg some h11)) (gb_ev hact (congrArg some h12)) Try.underlying42 (by kernel_rfl) rfl (by omega) rfl)) ⟨Below.refl _ _, ?_, nofr rfl⟩
                    show _ = gb _ _; rw [hact]; rfl
                  · replace hact : (!c6) = false := by simpa using hact
                    refine ⟨Below.refl _ _, ?_, nofr rfl⟩
                    show _ = gb _ _; rw [hact]; rfl
                refine ⟨fun wu14 hC hd => ?_, ?_⟩
                · obtain ⟨h9, h13, _⟩ := hd
                  skip
                  skip
                  replace h9 : V 9 = (.bool c6) := h9
                  replace h13 : V 13 = (gb (!c6) (.pointer (some ⟨ab2, (aoff2 + i * 2), none⟩))) := h13
                  replace hb := hb.trans (hC.mono hb.size)
                  replace hkb1 := blk_ext hkb1 hC
                  refine ⟨true, c6, congrArg some h9, fun hact => ?_, fun hact => ?_⟩
                  · replace hact : (!c6) = true := by simpa using hact
                    refine Runs.does (v := (.agg #[(.int .u8 y.1), (.int .u64 y.2.1)])) (r_loadA (cs := [(.int .u8 y.1), (.int .u64 y.2.1)]) (gb_ev hact (congrArg some h13)) Try.underlying65 rfl (by kernel_rfl) (cellsAt_below hel3 hb hlb3)) ⟨Below.refl _ _, ?_, nofr rfl⟩
                    show _ = gb _ _; rw [hact]; rfl
                  · replace hact : (!c6) = false := by simpa using hact
                    refine ⟨Below.refl _ _, ?_, nofr rfl⟩
                    show _ = gb _ _; rw [hact]; rfl
                refine ⟨fun wu15 hC hd => ?_, ?_⟩
                · obtain ⟨h9, h14, _⟩ := hd
                  skip
                  skip
                  replace h9 : V 9 = (.bool c6) := h9
                  replace h14 : V 14 = (gb (!c6) (.agg #[(.int .u8 y.1), (.int .u64 y.2.1)])) := h14
                  replace hb := hb.trans (hC.mono hb.size)
                  replace hkb1 := blk_ext hkb1 hC
                  refine ⟨true, c6, congrArg some h9, fun hact => ?_, fun hact => ?_⟩
                  · replace hact : (!c6) = true := by simpa using hact
                    refine Does.mono (d_callB (vs := [(.agg #[(.int .u8 y.1), (.int .u64 y.2.1)])]) (cons_ev (gb_ev hact (congrArg some h14)) rfl) Try.func53 (by kernel_rfl) (by kernel_rfl) (rcut2_any y _ (hB.a _ (List.mem_of_getElem? hy3)).1 (hB.a _ (List.mem_of_getElem? hy3)).2)) (fun _ _ h => ⟨h.2, ?_, nofr rfl⟩)
                    show _ = gb _ _; rw [hact]; exact h.1
                  · replace hact : (!c6) = false := by simpa using hact
                    refine ⟨Below.refl _ _, ?_, nofr rfl⟩
                    show _ = gb _ _; rw [hact]; rfl
                refine ⟨fun wu16 hC hd => ?_, ?_⟩
                · obtain ⟨h9, _⟩ := hd
                  skip
                  replace h9 : V 9 = (.bool c6) := h9
                  replace hb := hb.trans (hC.mono hb.size)
                  replace hkb1 := blk_ext hkb1 hC
                  refine ⟨true, c6, congrArg some h9, fun hact => ?_, fun hact => ?_⟩
                  · replace hact : (!c6) = true := by simpa using hact
                    refine Runs.does (v := (.pointer (some ⟨b1, 3, none⟩))) (r_fa rfl Try.underlying49 (f := 3) (q := 3) rfl (by kernel_rfl) rfl) ⟨Below.refl _ _, ?_, nofr rfl⟩
                    show _ = gb _ _; rw [hact]; rfl
                  · replace hact : (!c6) = false := by simpa using hact
                    refine ⟨Below.refl _ _, ?_, nofr rfl⟩
                    show _ = gb _ _; rw [hact]; rfl
                refine ⟨fun wu17 hC hd => ?_, ?_⟩
                · obtain ⟨h9, h16, _⟩ := hd
                  skip
                  skip
                  replace h9 : V 9 = (.bool c6) := h9
                  replace h16 : V 16 = (gb (!c6) (.pointer (some ⟨b1, 3, none⟩))) := h16
                  replace hb := hb.trans (hC.mono hb.size)
                  replace hkb1 := blk_ext hkb1 hC
                  refine ⟨true, c6, congrArg some h9, fun hact => ?_, fun hact => ?_⟩
                  · replace hact : (!c6) = true := by simpa using hact
                    refine Runs.does (v := (.slice (some ⟨ab2, aoff2, none⟩) st.A.length cA)) (r_load (v := (.slice (some ⟨ab2, aoff2, none⟩) st.A.length cA)) (gb_ev hact (congrArg some h16)) Try.underlying42 rfl (cell_blk hkb1 rfl)) ⟨Below.refl _ _, ?_, nofr rfl⟩
                    show _ = gb _ _; rw [hact]; rfl
                  · replace hact : (!c6) = false := by simpa using hact
                    refine ⟨Below.refl _ _, ?_, nofr rfl⟩
                    show _ = gb _ _; rw [hact]; rfl
                refine ⟨fun wu18 hC hd => ?_, ?_⟩
                · obtain ⟨h9, _⟩ := hd
                  skip
                  replace h9 : V 9 = (.bool c6) := h9
                  replace hb := hb.trans (hC.mono hb.size)
                  replace hkb1 := blk_ext hkb1 hC
                  refine ⟨true, c6, congrArg some h9, fun hact => ?_, fun hact => ?_⟩
                  · replace hact : (!c6) = true := by simpa using hact
                    refine Runs.does (v := (.int .i64 ((i : Nat) : Int))) (r_move rfl) ⟨Below.refl _ _, ?_, nofr rfl⟩
                    show _ = gb _ _; rw [hact]; rfl
                  · replace hact : (!c6) = false := by simpa using hact
                    refine ⟨Below.refl _ _, ?_, nofr rfl⟩
                    show _ = gb _ _; rw [hact]; rfl
                refine ⟨fun wu19 hC hd => ?_, ?_⟩
                · obtain ⟨h9, h17, h18, _⟩ := hd
                  skip
                  skip
                  skip
                  replace h9 : V 9 = (.bool c6) := h9
                  replace h17 : V 17 = (gb (!c6) (.slice (some ⟨ab2, aoff2, none⟩) st.A.length cA)) := h17
                  replace h18 : V 18 = (gb (!c6) (.int .i64 ((i : Nat) : Int))) := h18
                  replace hb := hb.trans (hC.mono hb.size)
                  replace hkb1 := blk_ext hkb1 hC
                  refine ⟨true, c6, congrArg some h9, fun hact => ?_, fun hact => ?_⟩
                  · replace hact : (!c6) = true := by simpa using hact
                    refine Runs.does (v := (.pointer (some ⟨ab2, (aoff2 + i * 2), none⟩))) (by have hact0 := hact; (try simp only [Bool.and_eq_true, Bool.not_eq_true', Bool.or_eq_false_iff, Bool.or_eq_true, Bool.and_eq_false_iff, ne_eq, decide_eq_true_eq, decide_eq_false_iff_not] at hact0); exact (r_ixa (sz := 2) (j := i) (gb_ev hact (congrArg some h17)) (gb_ev hact (congrArg some h18)) Try.underlying42 (by kernel_rfl) rfl (by omega) rfl)) ⟨Below.refl _ _, ?_, nofr rfl⟩
                    show _ = gb _ _; rw [hact]; rfl
                  · replace hact : (!c6) = false := by simpa using hact
                    refine ⟨Below.refl _ _, ?_, nofr rfl⟩
                    show _ = gb _ _; rw [hact]; rfl
                refine ⟨fun wu20 hC hd => ?_, ?_⟩
                · obtain ⟨h9, h19, _⟩ := hd
                  skip
                  skip
                  replace h9 : V 9 = (.bool c6) := h9
                  replace h19 : V 19 = (gb (!c6) (.pointer (some ⟨ab2, (aoff2 + i * 2), none⟩))) := h19
                  replace hb := hb.trans (hC.mono hb.size)
                  replace hkb1 := blk_ext hkb1 hC
                  refine ⟨true, c6, congrArg some h9, fun hact => ?_, fun hact => ?_⟩
                  · replace hact : (!c6) = true := by simpa using hact
                    refine Runs.does (v := (.agg #[(.int .u8 y.1), (.int .u64 y.2.1)])) (r_loadA (cs := [(.int .u8 y.1), (.int .u64 y.2.1)]) (gb_ev hact (congrArg some h19)) Try.underlying65 rfl (by kernel_rfl) (cellsAt_below hel4 hb hlb4)) ⟨Below.refl _ _, ?_, nofr rfl⟩
                    show _ = gb _ _; rw [hact]; rfl
                  · replace hact : (!c6) = false := by simpa using hact
                    refine ⟨Below.refl _ _, ?_, nofr rfl⟩
                    show _ = gb _ _; rw [hact]; rfl
                refine ⟨fun wu21 hC hd => ?_, ?_⟩
                · obtain ⟨h9, h15, h20, _⟩ := hd
                  skip
                  skip
                  skip
                  replace h9 : V 9 = (.bool c6) := h9
                  replace h15 : V 15 = (gb (!c6) (.agg #[(.int .u8 ((tcutP y).1)), (.int .u64 ((tcutP y).2.1))])) := h15
                  replace h20 : V 20 = (gb (!c6) (.agg #[(.int .u8 y.1), (.int .u64 y.2.1)])) := h20
                  replace hb := hb.trans (hC.mono hb.size)
                  replace hkb1 := blk_ext hkb1 hC
                  refine ⟨true, c6, congrArg some h9, fun hact => ?_, fun hact => ?_⟩
                  · replace hact : (!c6) = true := by simpa using hact
                    refine Runs.does (v := (.bool (!((decide (((tcutP y).1) = y.1)) && (decide (((tcutP y).2.1) = y.2.1)))))) (r_ane (k := 5) (gb_ev hact (congrArg some h15)) (gb_ev hact (congrArg some h20)) (by kernel_rfl) (eqt_struct (xs := #[(.int .u8 ((tcutP y).1)), (.int .u64 ((tcutP y).2.1))]) (ys := #[(.int .u8 y.1), (.int .u64 y.2.1)]) Try.underlying65 (by kernel_rfl) (eqf_cons (by kernel_rfl) (fun _ => by kernel_rfl) (fun _ => by kernel_rfl) (eqt_int (kk := .u8) (a := ((tcutP y).1)) (b := y.1) Try.underlying5) (eqf_one (by kernel_rfl) (fun _ => by kernel_rfl) (fun _ => by kernel_rfl) (eqt_int (kk := .u64) (a := ((tcutP y).2.1)) (b := y.2.1) Try.underlying63)))) rfl) ⟨Below.refl _ _, ?_, nofr rfl⟩
                    show _ = gb _ _; rw [hact]; rfl
                  · replace hact : (!c6) = false := by simpa using hact
                    refine ⟨Below.refl _ _, ?_, nofr rfl⟩
                    show _ = gb _ _; rw [hact]; rfl
                refine ⟨fun wu22 hC hd => ?_, ?_⟩
                · obtain ⟨h9, h21, _⟩ := hd
                  skip
                  skip
                  replace h9 : V 9 = (.bool c6) := h9
                  replace h21 : V 21 = (gb (!c6) (.bool (!((decide (((tcutP y).1) = y.1)) && (decide (((tcutP y).2.1) = y.2.1)))))) := h21
                  replace hb := hb.trans (hC.mono hb.size)
                  replace hkb1 := blk_ext hkb1 hC
                  exact Runs.does (r_pickO (b := c6) (e := (!((decide (((tcutP y).1) = y.1)) && (decide (((tcutP y).2.1) = y.2.1))))) (congrArg some h9) rfl (congrArg some h21)) ⟨Below.refl _ _, rfl, nofr rfl⟩
                trivial
              · skip
                clear hf fa; intro V w7 fa he5 hp hnb hf
                have hv0 : V 0 = (.pointer (some ⟨b1, 3, none⟩)) := postsHold_at hp 0 rfl
                have hv1 : V 1 = (.slice (some ⟨ab2, aoff2, none⟩) st.A.length cA) := postsHold_at hp 1 rfl
                have hv2 : V 2 = (.int .i64 ((i : Nat) : Int)) := postsHold_at hp 2 rfl
                have hv3 : V 3 = (.pointer (some ⟨ab2, (aoff2 + i * 2), none⟩)) := postsHold_at hp 3 rfl
                have hv4 : V 4 = (.pointer (some ⟨ab2, (aoff2 + i * 2), none⟩)) := postsHold_at hp 4 rfl
                have hv5 : V 5 = (.int .u8 y.1) := postsHold_at hp 5 rfl
                have hv6 : V 6 = (.int .i64 y.1) := postsHold_at hp 6 rfl
                have hv7 : V 7 = (.int .i64 ((tvalP y.1))) := postsHold_at hp 7 rfl
                have hv8 : V 8 = (.bool c6) := postsHold_at hp 8 rfl
                have hv9 : V 9 = (.bool c6) := postsHold_at hp 9 rfl
                have hv10 : V 10 = (gb (!c6) (.pointer (some ⟨b1, 3, none⟩))) := postsHold_at hp 10 rfl
                have hv11 : V 11 = (gb (!c6) (.slice (some ⟨ab2, aoff2, none⟩) st.A.length cA)) := postsHold_at hp 11 rfl
                have hv12 : V 12 = (gb (!c6) (.int .i64 ((i : Nat) : Int))) := postsHold_at hp 12 rfl
                have hv13 : V 13 = (gb (!c6) (.pointer (some ⟨ab2, (aoff2 + i * 2), none⟩))) := postsHold_at hp 13 rfl
                have hv14 : V 14 = (gb (!c6) (.agg #[(.int .u8 y.1), (.int .u64 y.2.1)])) := postsHold_at hp 14 rfl
                have hv15 : V 15 = (gb (!c6) (.agg #[(.int .u8 ((tcutP y).1)), (.int .u64 ((tcutP y).2.1))])) := postsHold_at hp 15 rfl
                have hv16 : V 16 = (gb (!c6) (.pointer (some ⟨b1, 3, none⟩))) := postsHold_at hp 16 rfl
                have hv17 : V 17 = (gb (!c6) (.slice (some ⟨ab2, aoff2, none⟩) st.A.length cA)) := postsHold_at hp 17 rfl
                have hv18 : V 18 = (gb (!c6) (.int .i64 ((i : Nat) : Int))) := postsHold_at hp 18 rfl
                have hv19 : V 19 = (gb (!c6) (.pointer (some ⟨ab2, (aoff2 + i * 2), none⟩))) := postsHold_at hp 19 rfl
                have hv20 : V 20 = (gb (!c6) (.agg #[(.int .u8 y.1), (.int .u64 y.2.1)])) := postsHold_at hp 20 rfl
                have hv21 : V 21 = (gb (!c6) (.bool (!((decide (((tcutP y).1) = y.1)) && (decide (((tcutP y).2.1) = y.2.1)))))) := postsHold_at hp 21 rfl
                have hv22 : V 22 = (.bool (c6 || (!((decide (((tcutP y).1) = y.1)) && (decide (((tcutP y).2.1) = y.2.1)))))) := postsHold_at hp 22 rfl
                simp only [List.take_succ_cons, List.take_zero, insAll, ins, hv0, hv1, hv2, hv3, hv4, hv5, hv6, hv7, hv8, hv9, hv10, hv11, hv12, hv13, hv14, hv15, hv16, hv17, hv18, hv19, hv20, hv21, hv22] at hf
                clear hp hnb hv0 hv1 hv2 hv3 hv4 hv5 hv6 hv7 hv8 hv9 hv10 hv11 hv12 hv13 hv14 hv15 hv16 hv17 hv18 hv19 hv20 hv21 hv22
                replace hkb1 := blk_ext hkb1 he5
                replace hb := hb.trans (Below.mono he5 hb.size)
                (try simp only [Exit.then, Exit.inBlock, ↓reduceIte, Nat.reduceEqDiff])
                refine hK18 _ _ ?_
                refine wp_cond_split (t := (c6 || (!((decide (((tcutP y).1) = y.1)) && (decide (((tcutP y).2.1) = y.2.1)))))) (hf.ev rfl) (fun hqt101_1 => ?_) (fun hqt101_1 => ?_)
                · have hqt101_1b := hqt101_1
                  try simp only [decide_eq_true_eq, Bool.and_eq_true, Bool.or_eq_true, Bool.not_eq_true', decide_eq_false_iff_not, ne_eq, Bool.not_eq_true] at hqt101_1
                  refine wp_seq_k (fun K19 hK19 => ?_)
                  refine wp_region_lit ?_
                  refine sqv hf (r_assign rfl) rfl rfl rfl ?_; clear hf fa; intro fa hf
                  apply wpList_nil
                  (try simp only [Exit.then, Exit.inBlock, ↓reduceIte, Nat.reduceEqDiff])
                  refine hK19 _ _ ?_
                  refine wp_ret ?_
                  (try simp only [Exit.then, Exit.inBlock])
                  refine ret1 hf rfl rfl ?_
                  refine ⟨?_, hb⟩; rw [right_badA hy4 (by rw [vright_def]; have h := hqt101_1b; rw [← hc6] at h; exact nv_bool h)]
                · have hqt101_1b := hqt101_1
                  replace hqt101_1 := Bool.eq_false_iff.1 hqt101_1
                  try simp only [ne_eq, decide_eq_true_eq, Bool.and_eq_true, Bool.or_eq_true, Bool.not_eq_true', decide_eq_false_iff_not] at hqt101_1
                  refine wp_skip ?_
                  (try simp only [Exit.then, Exit.inBlock, ↓reduceIte, Nat.reduceEqDiff])
                  refine hK17 _ _ ?_
                  refine wp_region_lit ?_
                  refine sqv hf (r_move rfl) rfl rfl rfl ?_; clear hf fa; intro fa hf
                  refine sqv hf (r_add (C := (((i : Nat) : Int) + (1 : Int))) rfl rfl (by rw [IntKind.wrap_i64]; omega)) rfl rfl rfl ?_; clear hf fa; intro fa hf
                  refine sqv hf (r_assign rfl) rfl rfl rfl ?_; clear hf fa; intro fa hf
                  apply wpList_nil
                  (try simp only [Exit.then, Exit.inBlock, ↓reduceIte, Nat.reduceEqDiff])
                  refine hKL2 _ _ _ (by omega) ⟨(i + 1), rfl, hf.sub ⟨rfl, (some_int (by first | rfl | omega)), trivial⟩, hb, hkb1, by omega, (all_snoc HA hy4 (by rw [vright_def]; have h := hqt101_1b; rw [← hc6] at h; exact nv_bool h))⟩
            · have hqt76_1b := hqt76_1
              replace hqt76_1 := Bool.eq_false_iff.1 hqt76_1
              try simp only [ne_eq, decide_eq_true_eq, Bool.and_eq_true, Bool.or_eq_true, Bool.not_eq_true', decide_eq_false_iff_not] at hqt76_1
              refine wp_exit ?_
              (try simp only [Exit.then, Exit.inBlock, ↓reduceIte, Nat.reduceEqDiff])
              refine hK13 _ _ ?_
              refine wp_seq_k (fun K20 hK20 => ?_)
              refine wp_region_lit ?_
              refine sqv hf (r_assign rfl) rfl rfl rfl ?_; clear hf fa; intro fa hf
              apply wpList_nil
              (try simp only [Exit.then, Exit.inBlock, ↓reduceIte, Nat.reduceEqDiff])
              refine hK20 _ _ ?_
              refine wp_ret ?_
              (try simp only [Exit.then, Exit.inBlock])
              refine ret1 hf rfl rfl ?_
              refine ⟨?_, hb⟩; rw [right_yes hH (all_end HS (by omega)) (all_end HA (by omega))]
end Go.Proofs.Ytpalmpfkliepfaa

namespace Go.Proofs.Ytpalmpfkliepfaa
open Go.RowKit Ut
set_option linter.unusedVariables false
set_option linter.unusedSimpArgs false
/-- The pieces behind the word. -/
def argsP : List Nat → List Int → List ByteArray → List MVal → List Nat → List (List Nat)
  | [], _, _, _, _ => []
  | c :: f, N, S, A, D =>
    if c = 110 then (N.take 1).map digB ++ argsP f (N.drop 1) S A D
    else if c = 115 then (S.take 1).map (fun s => showL (bl s)) ++ argsP f N (S.drop 1) A D
    else if c = 100 then hexB D :: argsP f N S A D
    else if c = 97 then A.map (fun v => bl (valS v)) ++ argsP f N S A D
    else argsP f N S A D
def lineL (k : Int) (st : PSt) : List Nat := bl (wordS k) ++ joinB (argsP (bl (formS k)) st.N st.S st.A st.D)
def lineS (k : Int) (st : PSt) : ByteArray := strN (lineL k st)
theorem joinB_app (a b : List (List Nat)) : joinB (a ++ b) = joinB a ++ joinB b := by
  induction a with
  | nil => rfl
  | cons x a ih => rw [List.cons_append, joinB, joinB, ih]; simp
section
variable {L : List Nat} {t F : ByteArray} {i n s : Nat} {N : List Int} {S : List ByteArray} {A : List MVal} {D : List Nat}
theorem line_n {y : Int} (Hs : L = bl t ++ joinB (argsP ((bl F).drop i) (N.drop n) (S.drop s) A D)) (hi : i < F.size) (hc : sbt F i = 110) (hy : N[n]? = some y) : L = (bl t ++ 32 :: digB y) ++ joinB (argsP ((bl F).drop (i + 1)) (N.drop (n + 1)) (S.drop s) A D) := by
  rw [Hs, bl_dropc F i hi, drop_at hy, argsP, if_pos hc]
  simp [joinB]
theorem line_s {y : ByteArray} (Hs : L = bl t ++ joinB (argsP ((bl F).drop i) (N.drop n) (S.drop s) A D)) (hi : i < F.size) (hc : sbt F i = 115) (hy : S[s]? = some y) : L = (bl t ++ 32 :: showL (bl y)) ++ joinB (argsP ((bl F).drop (i + 1)) (N.drop n) (S.drop (s + 1)) A D) := by
  rw [Hs, bl_dropc F i hi, drop_at hy, argsP, if_neg (by omega), if_pos hc]
  simp [joinB]
theorem line_d (Hs : L = bl t ++ joinB (argsP ((bl F).drop i) (N.drop n) (S.drop s) A D)) (hi : i < F.size) (hc : sbt F i = 100) : L = (bl t ++ 32 :: hexB D) ++ joinB (argsP ((bl F).drop (i + 1)) (N.drop n) (S.drop s) A D) := by
  rw [Hs, bl_dropc F i hi, argsP, if_neg (by omega), if_neg (by omega), if_pos hc]
  simp only [joinB]; simp
theorem line_a (Hs : L = bl t ++ joinB (argsP ((bl F).drop i) (N.drop n) (S.drop s) A D)) (hi : i < F.size) (hc : sbt F i = 97) : L = bl t ++ joinB ((A.drop 0).map (fun v => bl (valS v)) ++ argsP ((bl F).drop (i + 1)) (N.drop n) (S.drop s) A D) := by
  rw [Hs, bl_dropc F i hi, argsP, if_neg (by omega), if_neg (by omega), if_neg (by omega), if_pos hc, List.drop_zero]
theorem line_o (Hs : L = bl t ++ joinB (argsP ((bl F).drop i) (N.drop n) (S.drop s) A D)) (hi : i < F.size) (hc : ¬ sbt F i = 110 ∧ ¬ sbt F i = 115 ∧ ¬ sbt F i = 100 ∧ ¬ sbt F i = 97) : L = bl t ++ joinB (argsP ((bl F).drop (i + 1)) (N.drop n) (S.drop s) A D) := by
  rw [Hs, bl_dropc F i hi, argsP, if_neg hc.1, if_neg hc.2.1, if_neg hc.2.2.1, if_neg hc.2.2.2]
theorem line_v {R : List (List Nat)} {m : Nat} {y : MVal} (Hs : L = bl t ++ joinB ((A.drop m).map (fun v => bl (valS v)) ++ R)) (hy : A[m]? = some y) : L = (bl t ++ 32 :: bl (valS y)) ++ joinB ((A.drop (m + 1)).map (fun v => bl (valS v)) ++ R) := by
  rw [Hs, drop_at hy, List.map_cons, List.cons_append, joinB]; simp
theorem line_ve {R : List (List Nat)} {m : Nat} (Hs : L = bl t ++ joinB ((A.drop m).map (fun v => bl (valS v)) ++ R)) (hm : A.length ≤ m) : L = bl t ++ joinB R := by
  rw [Hs, List.drop_eq_nil_of_le hm]; rfl
theorem line_end (Hs : L = bl t ++ joinB (argsP ((bl F).drop i) (N.drop n) (S.drop s) A D)) (hi : F.size ≤ i) : L = bl t := by
  rw [Hs, List.drop_eq_nil_of_le (by rw [bl_length]; exact hi), argsP, joinB, List.append_nil]
end
theorem cnt_step {F : ByteArray} {i : Nat} (x : Nat) (hi : i < F.size) : ((bl F).drop i).count x = ((bl F).drop (i + 1)).count x + if sbt F i = x then 1 else 0 := by
  rw [bl_dropc F i hi, List.count_cons]; simp
theorem show_len (s : ByteArray) : (showL (bl s)).length ≤ 3 * s.size + 2 := by
  unfold showL
  have h := flat_len (bl s)
  rw [bl_length] at h
  simp only [List.length_cons, List.length_append, List.length_nil]; omega
theorem hexB_len (D : List Nat) : (hexB D).length ≤ 2 * D.length + 1 := by
  unfold hexB
  split
  · simp
  · rw [hxs_len]; omega
theorem joinA_len (A : List MVal) (h : ∀ v ∈ A, RngV v) : (joinB (A.map (fun v => bl (valS v)))).length ≤ 29 * A.length := by
  induction A with
  | nil => simp [joinB]
  | cons v A ih =>
    have h1 := valS_len (h v List.mem_cons_self).2
    have h2 := ih (fun x hx => h x (List.mem_cons_of_mem _ hx))
    simp only [List.map_cons, joinB, List.length_cons, List.length_append, bl_length]; omega
theorem args_len (A : List MVal) (D : List Nat) (hA : ∀ v ∈ A, RngV v) (hA2 : A.length ≤ 20) (hD : D.length ≤ 4096) : ∀ (f : List Nat) (N : List Int) (S : List ByteArray), (∀ n ∈ N, inI n) → (∀ s ∈ S, s.size ≤ 200) → (joinB (argsP f N S A D)).length ≤ 10000 * f.length
  | [], _, _, _, _ => by simp [argsP, joinB]
  | c :: f, N, S, hN, hS => by
    have h1 := joinA_len A hA
    have h2 := hexB_len D
    rw [argsP]
    simp only [List.length_cons]
    split
    · have := args_len A D hA hA2 hD f (N.drop 1) S (fun x hx => hN x (List.mem_of_mem_drop hx)) hS
      rw [joinB_app, List.length_append]
      cases N with
      | nil => simp [joinB] at this ⊢; omega
      | cons n N =>
        have h3 := digB_len (hN n List.mem_cons_self)
        simp [joinB] at this ⊢; omega
    · split
      · have := args_len A D hA hA2 hD f N (S.drop 1) hN (fun x hx => hS x (List.mem_of_mem_drop hx))
        rw [joinB_app, List.length_append]
        cases S with
        | nil => simp [joinB] at this ⊢; omega
        | cons s S =>
          have h3 := show_len s
          have h4 := hS s List.mem_cons_self
          simp [joinB] at this ⊢; omega
      · have := args_len A D hA hA2 hD f N S hN hS
        split
        · simp only [joinB, List.length_cons, List.length_append]; omega
        · split
          · rw [joinB_app, List.length_append]; omega
          · omega
theorem line_len {k : Int} {st : PSt} (hB : OpB st) (h : rightP k st = true) : (lineL k st).length ≤ 50000 := by
  obtain ⟨h1, h2, h3⟩ := right_split h
  have h4 := args_len st.A st.D hB.a h1.2.2.2.2.1 h1.2.2.2.1 (bl (formS k)) st.N st.S hB.n (fun s hs => ((check_iff s).1 (h2 s hs)).1)
  have h5 := word_len k
  unfold lineL
  rw [List.length_append, bl_length]
  rw [bl_length] at h4
  omega

set_option maxHeartbeats 1000000 in
set_option maxRecDepth 100000 in
theorem line_any (k : Int) (st : PSt) (aN aS aA aD : Option Addr) (cN cS cA cD : Nat) (w : World) (hF : OpF w st aN aS aA aD) (hB : OpB st) : Calls Try.prog 14 #[(.agg #[(.int .i64 k), (.slice aN st.N.length cN), (.slice aS st.S.length cS), (.slice aA st.A.length cA), (.slice aD st.D.length cD)])] w fun e w' => e = .returned (.string (if rightP k st = true then lineS k st else ⟨#[]⟩)) ∧ Below w.heap.size w w' := by
  refine sx_enter (L := [(0, (.agg #[(.int .i64 k), (.slice aN st.N.length cN), (.slice aS st.S.length cS), (.slice aA st.A.length cA), (.slice aD st.D.length cD)]))]) Try.func14 rfl rfl rfl rfl (fun fa hf => ?_)
  have hb : Below w.heap.size w w := Below.refl _ _
  refine wp_seq_k (fun K1 hK1 => ?_)
  refine wp_region_lit ?_
  refine sqdt hf (d_box (cs := #[(.int .i64 k), (.slice aN st.N.length cN), (.slice aS st.S.length cS), (.slice aA st.A.length cA), (.slice aD st.D.length cD)]) rfl rfl) rfl rfl rfl ?_; clear hf fa; rintro fa _ w1 ⟨b1, rfl, hle1, hk1, he1⟩ hf
  have hBb1 : w.heap.size ≤ b1 := Nat.le_trans hb.size hle1
  replace hb := hb.trans (Below.mono he1 hb.size)
  refine sqv hf (r_assign rfl) rfl rfl rfl ?_; clear hf fa; intro fa hf
  apply wpList_nil
  (try simp only [Exit.then, Exit.inBlock, ↓reduceIte, Nat.reduceEqDiff])
  refine hK1 _ _ ?_
  refine wp_seq_k (fun K2 hK2 => ?_)
  refine wp_seq_k (fun K3 hK3 => ?_)
  refine wp_region_lit ?_
  refine sqv hf (r_loadA (cs := [(.int .i64 k), (.slice aN st.N.length cN), (.slice aS st.S.length cS), (.slice aA st.A.length cA), (.slice aD st.D.length cD)]) rfl Try.underlying45 rfl (by kernel_rfl) (cellsAt_blk hk1)) rfl rfl rfl ?_; clear hf fa; intro fa hf
  refine sqdt hf (d_callB (vs := [(.agg #[(.int .i64 k), (.slice aN st.N.length cN), (.slice aS st.S.length cS), (.slice aA st.A.length cA), (.slice aD st.D.length cD)])]) rfl Try.func19 (by kernel_rfl) (by kernel_rfl) (right_any k st aN aS aA aD cN cS cA cD _ (hF.ext hb) hB)) rfl rfl rfl ?_; clear hf fa; rintro fa _ w2 ⟨rfl, he2⟩ hf
  replace hk1 := blk_ext hk1 he2
  replace hb := hb.trans (Below.mono he2 hb.size)
  refine sqv hf (r_not rfl) rfl rfl rfl ?_; clear hf fa; intro fa hf
  apply wpList_nil
  (try simp only [Exit.then, Exit.inBlock, ↓reduceIte, Nat.reduceEqDiff])
  refine hK3 _ _ ?_
  refine wp_cond_split (t := (!(rightP k st))) (hf.ev rfl) (fun hqt12_1 => ?_) (fun hqt12_1 => ?_)
  · have hqt12_1b := hqt12_1
    try simp only [decide_eq_true_eq, Bool.and_eq_true, Bool.or_eq_true, Bool.not_eq_true', decide_eq_false_iff_not, ne_eq, Bool.not_eq_true] at hqt12_1
    refine wp_seq_k (fun K4 hK4 => ?_)
    refine wp_region_lit ?_
    refine sqv hf (r_assign rfl) rfl rfl rfl ?_; clear hf fa; intro fa hf
    apply wpList_nil
    (try simp only [Exit.then, Exit.inBlock, ↓reduceIte, Nat.reduceEqDiff])
    refine hK4 _ _ ?_
    refine wp_ret ?_
    (try simp only [Exit.then, Exit.inBlock])
    refine ret1 hf rfl rfl ?_
    refine ⟨?_, hb⟩; rw [if_neg (by have h := hqt12_1; rw [h]; decide)]
  · have hqt12_1b := hqt12_1
    replace hqt12_1 := Bool.eq_false_iff.1 hqt12_1
    try simp only [ne_eq, decide_eq_true_eq, Bool.and_eq_true, Bool.or_eq_true, Bool.not_eq_true', decide_eq_false_iff_not] at hqt12_1
    refine wp_skip ?_
    (try simp only [Exit.then, Exit.inBlock, ↓reduceIte, Nat.reduceEqDiff])
    refine hK2 _ _ ?_
    refine wp_seq_k (fun K5 hK5 => ?_)
    have hrt : rightP k st = true := by have h := hqt12_1; simpa using h
    have hsl9 := hB.sl
    have hal9 := hB.al
    have hdl9 := hB.dl
    have hnl9 := hB.nl
    have hHd := (right_split hrt).1
    have hll := line_len hB hrt
    have hwl := word_len k
    refine wp_region_lit ?_
    refine sqv hf (r_fa rfl Try.underlying45 (f := 0) (q := 0) rfl (by kernel_rfl) rfl) rfl rfl rfl ?_; clear hf fa; intro fa hf
    refine sqv hf (r_load (v := (.int .i64 k)) rfl Try.underlying3 rfl (cell_blk hk1 rfl)) rfl rfl rfl ?_; clear hf fa; intro fa hf
    refine sqdt hf (d_callB (vs := [(.int .i64 k)]) rfl Try.func17 (by kernel_rfl) (by kernel_rfl) (form_any k _)) rfl rfl rfl ?_; clear hf fa; rintro fa _ w3 ⟨rfl, he3⟩ hf
    replace hk1 := blk_ext hk1 he3
    replace hb := hb.trans (Below.mono he3 hb.size)
    refine sqv hf (r_move rfl) rfl rfl rfl ?_; clear hf fa; intro fa hf
    refine sqv hf (r_extract rfl (i := 0) rfl) rfl rfl rfl ?_; clear hf fa; intro fa hf
    refine sqv hf (r_extract rfl (i := 1) rfl) rfl rfl rfl ?_; clear hf fa; intro fa hf
    refine sqv hf (r_assign rfl) rfl rfl rfl ?_; clear hf fa; intro fa hf
    refine sqv hf (r_assign rfl) rfl rfl rfl ?_; clear hf fa; intro fa hf
    apply wpList_nil
    (try simp only [Exit.then, Exit.inBlock, ↓reduceIte, Nat.reduceEqDiff])
    refine hK5 _ _ ?_
    refine wp_seq_k (fun K6 hK6 => ?_)
    refine wp_region_lit ?_
    refine sqv hf (r_assign rfl) rfl rfl rfl ?_; clear hf fa; intro fa hf
    refine sqv hf (r_assign rfl) rfl rfl rfl ?_; clear hf fa; intro fa hf
    apply wpList_nil
    (try simp only [Exit.then, Exit.inBlock, ↓reduceIte, Nat.reduceEqDiff])
    refine hK6 _ _ ?_
    refine wp_seq_k (fun K7 hK7 => ?_)
    refine wp_seq_k (fun K8 hK8 => ?_)
    refine wp_region_lit ?_
    refine sqv hf (r_move rfl) rfl rfl rfl ?_; clear hf fa; intro fa hf
    refine sqv hf (r_lens rfl Try.underlying9) rfl rfl rfl ?_; clear hf fa; intro fa hf
    refine sqv hf (r_move rfl) rfl rfl rfl ?_; clear hf fa; intro fa hf
    apply wpList_nil
    (try simp only [Exit.then, Exit.inBlock, ↓reduceIte, Nat.reduceEqDiff])
    refine hK8 _ _ ?_
    refine wp_block ?_
    refine wp_loop_k (fun mq fa wr => ∃ (i : Nat) (n : Nat) (s : Nat) (t : ByteArray), mq = (formS k).size - i ∧ Fr 78 fa [(1, (.pointer (some ⟨b1, 0, none⟩))), (3, (.string t)), (4, (.string (formS k))), (5, (.int .i64 ((n : Nat) : Int))), (6, (.int .i64 ((s : Nat) : Int))), (20, (.int .i64 (((formS k).size : Nat) : Int))), (21, (.int .i64 ((i : Nat) : Int)))] ∧ Below w.heap.size w wr ∧ wr.heap[b1]? = some (.cells #[(.int .i64 k), (.slice aN st.N.length cN), (.slice aS st.S.length cS), (.slice aA st.A.length cA), (.slice aD st.D.length cD)] 45 (0, 0)) ∧ (i ≤ (formS k).size) ∧ (lineL k st = bl t ++ joinB (argsP ((bl (formS k)).drop i) (st.N.drop n) (st.S.drop s) st.A st.D)) ∧ (st.N.length = n + ((bl (formS k)).drop i).count 110) ∧ (st.S.length = s + ((bl (formS k)).drop i).count 115)) ?_ ?_
    · skip
      exact ⟨_, 0, 0, 0, (wordS k), rfl, hf.sub ⟨rfl, rfl, rfl, (some_int (by first | rfl | omega)), (some_int (by first | rfl | omega)), rfl, (some_int (by first | rfl | omega)), trivial⟩, hb, hk1, by omega, rfl, (by rw [List.drop_zero, Nat.zero_add]; exact hHd.2.1), (by rw [List.drop_zero, Nat.zero_add]; exact hHd.2.2.1)⟩
    · skip
      clear hf fa; intro mq1 fa w4 hI KL1 hKL1
      clear hb
      clear hk1
      obtain ⟨i, n, s, t, hmq1, hf, hb, hkb1, hi, Hs, Hn, Hsn⟩ := hI
      have htl : t.size ≤ 50000 := by have h1 := congrArg List.length Hs; rw [List.length_append, bl_length] at h1; omega
      refine wp_seq_k (fun K9 hK9 => ?_)
      refine wp_region_lit ?_
      refine sqv hf (r_lt rfl rfl) rfl rfl rfl ?_; clear hf fa; intro fa hf
      apply wpList_nil
      (try simp only [Exit.then, Exit.inBlock, ↓reduceIte, Nat.reduceEqDiff])
      refine hK9 _ _ ?_
      refine wp_seq_k (fun K10 hK10 => ?_)
      refine wp_cond_split (t := (decide (((i : Nat) : Int) < (((formS k).size : Nat) : Int)))) (hf.ev rfl) (fun hqt22_1 => ?_) (fun hqt22_1 => ?_)
      · have hqt22_1b := hqt22_1
        try simp only [decide_eq_true_eq, Bool.and_eq_true, Bool.or_eq_true, Bool.not_eq_true', decide_eq_false_iff_not, ne_eq, Bool.not_eq_true] at hqt22_1
        refine wp_skip ?_
        (try simp only [Exit.then, Exit.inBlock, ↓reduceIte, Nat.reduceEqDiff])
        refine hK10 _ _ ?_
        refine wp_seq_k (fun K11 hK11 => ?_)
        refine wp_block ?_
        refine wp_seq_k (fun K12 hK12 => ?_)
        refine wp_region_lit ?_
        refine sqv hf (r_move rfl) rfl rfl rfl ?_; clear hf fa; intro fa hf
        refine sqv hf (r_assign rfl) rfl rfl rfl ?_; clear hf fa; intro fa hf
        apply wpList_nil
        (try simp only [Exit.then, Exit.inBlock, ↓reduceIte, Nat.reduceEqDiff])
        refine hK12 _ _ ?_
        refine wp_seq_k (fun K13 hK13 => ?_)
        refine wp_region_lit ?_
        refine sqv hf (r_move rfl) rfl rfl rfl ?_; clear hf fa; intro fa hf
        refine sqv hf (r_move rfl) rfl rfl rfl ?_; clear hf fa; intro fa hf
        refine sqv hf (r_sindexD (j := i) rfl rfl Try.underlying9 rfl (by omega)) rfl rfl rfl ?_; clear hf fa; intro fa hf
        apply wpList_nil
        (try simp only [Exit.then, Exit.inBlock, ↓reduceIte, Nat.reduceEqDiff])
        refine hK13 _ _ ?_
        refine wp_block ?_
        refine wp_seq_k (fun K14 hK14 => ?_)
        refine wp_region_lit ?_
        refine sqv hf (r_eq rfl rfl) rfl rfl rfl ?_; clear hf fa; intro fa hf
        refine sqv hf (r_assign rfl) rfl rfl rfl ?_; clear hf fa; intro fa hf
        apply wpList_nil
        (try simp only [Exit.then, Exit.inBlock, ↓reduceIte, Nat.reduceEqDiff])
        refine hK14 _ _ ?_
        refine wp_cond_split (t := (decide (((sbt (formS k) i : Nat) : Int) = (110 : Int)))) (hf.ev rfl) (fun hqt27_1 => ?_) (fun hqt27_1 => ?_)
        · have hqt27_1b := hqt27_1
          try simp only [decide_eq_true_eq, Bool.and_eq_true, Bool.or_eq_true, Bool.not_eq_true', decide_eq_false_iff_not, ne_eq, Bool.not_eq_true] at hqt27_1
          refine wp_seq_k (fun K15 hK15 => ?_)
          have hcn1 := cnt_step (F := formS k) (i := i) 110 (by omega)
          have hn9 : n < st.N.length := by have h := hqt27_1; rw [if_pos (by omega)] at hcn1; omega
          refine wp_region_lit ?_
          refine sqv hf (r_move rfl) rfl rfl rfl ?_; clear hf fa; intro fa hf
          refine sqv hf (r_fa rfl Try.underlying45 (f := 1) (q := 1) rfl (by kernel_rfl) rfl) rfl rfl rfl ?_; clear hf fa; intro fa hf
          refine sqv hf (r_load (v := (.slice aN st.N.length cN)) rfl Try.underlying41 rfl (cell_blk hkb1 rfl)) rfl rfl rfl ?_; clear hf fa; intro fa hf
          refine sqv hf (r_move rfl) rfl rfl rfl ?_; clear hf fa; intro fa hf
          obtain ⟨y1, hy1⟩ : ∃ x, (st.N)[n]? = some x := ⟨_, List.getElem?_eq_getElem (by (try simp only [Sl.list_length]); omega)⟩
          obtain ⟨ab1, aoff1, rfl, hlb1, hel1⟩ := RdS.at hF.1 hy1
          refine sqv hf (r_ixa (sz := 1) (j := n) rfl rfl Try.underlying41 (by kernel_rfl) rfl (by omega) rfl) rfl rfl rfl ?_; clear hf fa; intro fa hf
          refine sqv hf (r_load (v := (.int .i64 y1)) rfl Try.underlying3 rfl (cellsAt_cell (cellsAt_below hel1 hb hlb1) (i := 0) rfl rfl)) rfl rfl rfl ?_; clear hf fa; intro fa hf
          refine sqdt hf (d_callB (vs := [(.int .i64 y1)]) rfl Try.func31 (by kernel_rfl) (by kernel_rfl) (digits_any y1 _ (hB.n _ (List.mem_of_getElem? hy1)))) rfl rfl rfl ?_; clear hf fa; rintro fa _ w5 ⟨rfl, he4⟩ hf
          replace hkb1 := blk_ext hkb1 he4
          replace hb := hb.trans (Below.mono he4 hb.size)
          refine sqv hf (r_sadd rfl rfl (by have : ((⟨#[32]⟩) : ByteArray).size = 1 := rfl; have := dS_len (hB.n _ (List.mem_of_getElem? hy1)); omega)) rfl rfl rfl ?_; clear hf fa; intro fa hf
          refine sqv hf (r_sadd rfl rfl (by have : ((⟨#[32]⟩) : ByteArray).size = 1 := rfl; have := dS_len (hB.n _ (List.mem_of_getElem? hy1)); have := sz_app ⟨#[32]⟩ (dS y1); omega)) rfl rfl rfl ?_; clear hf fa; intro fa hf
          refine sqv hf (r_assign rfl) rfl rfl rfl ?_; clear hf fa; intro fa hf
          apply wpList_nil
          (try simp only [Exit.then, Exit.inBlock, ↓reduceIte, Nat.reduceEqDiff])
          refine hK15 _ _ ?_
          refine wp_region_lit ?_
          refine sqv hf (r_move rfl) rfl rfl rfl ?_; clear hf fa; intro fa hf
          refine sqv hf (r_add (C := (((n : Nat) : Int) + (1 : Int))) rfl rfl (by rw [IntKind.wrap_i64]; omega)) rfl rfl rfl ?_; clear hf fa; intro fa hf
          refine sqv hf (r_assign rfl) rfl rfl rfl ?_; clear hf fa; intro fa hf
          apply wpList_nil
          (try simp only [Exit.then, Exit.inBlock, ↓reduceIte, Nat.reduceEqDiff])
          refine hK11 _ _ ?_
          refine wp_region_lit ?_
          refine sqv hf (r_add (C := (((i : Nat) : Int) + (1 : Int))) rfl rfl (by rw [IntKind.wrap_i64]; omega)) rfl rfl rfl ?_; clear hf fa; intro fa hf
          refine sqv hf (r_move rfl) rfl rfl rfl ?_; clear hf fa; intro fa hf
          apply wpList_nil
          (try simp only [Exit.then, Exit.inBlock, ↓reduceIte, Nat.reduceEqDiff])
          have hcn := cnt_step (F := formS k) (i := i) 110 (by omega)
          have hcs := cnt_step (F := formS k) (i := i) 115 (by omega)
          refine hKL1 _ _ _ (by omega) ⟨(i + 1), (n + 1), s, (t ++ (⟨#[32]⟩ ++ (dS y1))), rfl, hf.sub ⟨rfl, rfl, rfl, (some_int (by first | rfl | omega)), rfl, rfl, (some_int (by first | rfl | omega)), trivial⟩, hb, hkb1, by omega, (by have h := line_n Hs (by omega) (by have h := hqt27_1; omega) hy1; rw [h]; simp only [bl_app, bl_dS, bl_strN _ (showL_lt _ (bl_lt _)), bl_strN _ (hexB_byte hB.d), List.append_assoc]; rfl), (by split at hcn <;> split at hcs <;> omega), (by split at hcn <;> split at hcs <;> omega)⟩
        · have hqt27_1b := hqt27_1
          replace hqt27_1 := Bool.eq_false_iff.1 hqt27_1
          try simp only [ne_eq, decide_eq_true_eq, Bool.and_eq_true, Bool.or_eq_true, Bool.not_eq_true', decide_eq_false_iff_not] at hqt27_1
          refine wp_seq_k (fun K16 hK16 => ?_)
          refine wp_region_lit ?_
          refine sqv hf (r_eq rfl rfl) rfl rfl rfl ?_; clear hf fa; intro fa hf
          refine sqv hf (r_assign rfl) rfl rfl rfl ?_; clear hf fa; intro fa hf
          apply wpList_nil
          (try simp only [Exit.then, Exit.inBlock, ↓reduceIte, Nat.reduceEqDiff])
          refine hK16 _ _ ?_
          refine wp_cond_split (t := (decide (((sbt (formS k) i : Nat) : Int) = (115 : Int)))) (hf.ev rfl) (fun hqt40_1 => ?_) (fun hqt40_1 => ?_)
          · have hqt40_1b := hqt40_1
            try simp only [decide_eq_true_eq, Bool.and_eq_true, Bool.or_eq_true, Bool.not_eq_true', decide_eq_false_iff_not, ne_eq, Bool.not_eq_true] at hqt40_1
            refine wp_seq_k (fun K17 hK17 => ?_)
            have hcs1 := cnt_step (F := formS k) (i := i) 115 (by omega)
            have hs9 : s < st.S.length := by have h := hqt40_1; rw [if_pos (by omega)] at hcs1; omega
            refine wp_region_lit ?_
            refine sqv hf (r_move rfl) rfl rfl rfl ?_; clear hf fa; intro fa hf
            refine sqv hf (r_fa rfl Try.underlying45 (f := 2) (q := 2) rfl (by kernel_rfl) rfl) rfl rfl rfl ?_; clear hf fa; intro fa hf
            refine sqv hf (r_load (v := (.slice aS st.S.length cS)) rfl Try.underlying32 rfl (cell_blk hkb1 rfl)) rfl rfl rfl ?_; clear hf fa; intro fa hf
            refine sqv hf (r_move rfl) rfl rfl rfl ?_; clear hf fa; intro fa hf
            obtain ⟨y2, hy2⟩ : ∃ x, (st.S)[s]? = some x := ⟨_, List.getElem?_eq_getElem (by (try simp only [Sl.list_length]); omega)⟩
            obtain ⟨ab2, aoff2, rfl, hlb2, hel2⟩ := RdS.at hF.2.1 hy2
            refine sqv hf (r_ixa (sz := 1) (j := s) rfl rfl Try.underlying32 (by kernel_rfl) rfl (by omega) rfl) rfl rfl rfl ?_; clear hf fa; intro fa hf
            refine sqv hf (r_load (v := (.string y2)) rfl Try.underlying9 rfl (cellsAt_cell (cellsAt_below hel2 hb hlb2) (i := 0) rfl rfl)) rfl rfl rfl ?_; clear hf fa; intro fa hf
            refine sqdt hf (d_callB (vs := [(.string y2)]) rfl Try.func41 (by kernel_rfl) (by kernel_rfl) (show_any y2 _ (by have h9 := hB.s _ (List.mem_of_getElem? hy2); omega))) rfl rfl rfl ?_; clear hf fa; rintro fa _ w6 ⟨rfl, he5⟩ hf
            replace hkb1 := blk_ext hkb1 he5
            replace hb := hb.trans (Below.mono he5 hb.size)
            refine sqv hf (r_sadd rfl rfl (by have : ((⟨#[32]⟩) : ByteArray).size = 1 := rfl; have := show_len y2; have := strN_size (showL (bl y2)); have := hB.s _ (List.mem_of_getElem? hy2); omega)) rfl rfl rfl ?_; clear hf fa; intro fa hf
            refine sqv hf (r_sadd rfl rfl (by have : ((⟨#[32]⟩) : ByteArray).size = 1 := rfl; have := show_len y2; have := strN_size (showL (bl y2)); have := hB.s _ (List.mem_of_getElem? hy2); have := sz_app ⟨#[32]⟩ (strN (showL (bl y2))); omega)) rfl rfl rfl ?_; clear hf fa; intro fa hf
            refine sqv hf (r_assign rfl) rfl rfl rfl ?_; clear hf fa; intro fa hf
            apply wpList_nil
            (try simp only [Exit.then, Exit.inBlock, ↓reduceIte, Nat.reduceEqDiff])
            refine hK17 _ _ ?_
            refine wp_region_lit ?_
            refine sqv hf (r_move rfl) rfl rfl rfl ?_; clear hf fa; intro fa hf
            refine sqv hf (r_add (C := (((s : Nat) : Int) + (1 : Int))) rfl rfl (by rw [IntKind.wrap_i64]; omega)) rfl rfl rfl ?_; clear hf fa; intro fa hf
            refine sqv hf (r_assign rfl) rfl rfl rfl ?_; clear hf fa; intro fa hf
            apply wpList_nil
            (try simp only [Exit.then, Exit.inBlock, ↓reduceIte, Nat.reduceEqDiff])
            refine hK11 _ _ ?_
            refine wp_region_lit ?_
            refine sqv hf (r_add (C := (((i : Nat) : Int) + (1 : Int))) rfl rfl (by rw [IntKind.wrap_i64]; omega)) rfl rfl rfl ?_; clear hf fa; intro fa hf
            refine sqv hf (r_move rfl) rfl rfl rfl ?_; clear hf fa; intro fa hf
            apply wpList_nil
            (try simp only [Exit.then, Exit.inBlock, ↓reduceIte, Nat.reduceEqDiff])
            have hcn := cnt_step (F := formS k) (i := i) 110 (by omega)
            have hcs := cnt_step (F := formS k) (i := i) 115 (by omega)
            refine hKL1 _ _ _ (by omega) ⟨(i + 1), n, (s + 1), (t ++ (⟨#[32]⟩ ++ (strN (showL (bl y2))))), rfl, hf.sub ⟨rfl, rfl, rfl, rfl, (some_int (by first | rfl | omega)), rfl, (some_int (by first | rfl | omega)), trivial⟩, hb, hkb1, by omega, (by have h := line_s Hs (by omega) (by have h := hqt40_1; omega) hy2; rw [h]; simp only [bl_app, bl_dS, bl_strN _ (showL_lt _ (bl_lt _)), bl_strN _ (hexB_byte hB.d), List.append_assoc]; rfl), (by split at hcn <;> split at hcs <;> omega), (by split at hcn <;> split at hcs <;> omega)⟩
          · have hqt40_1b := hqt40_1
            replace hqt40_1 := Bool.eq_false_iff.1 hqt40_1
            try simp only [ne_eq, decide_eq_true_eq, Bool.and_eq_true, Bool.or_eq_true, Bool.not_eq_true', decide_eq_false_iff_not] at hqt40_1
            refine wp_seq_k (fun K18 hK18 => ?_)
            refine wp_region_lit ?_
            refine sqv hf (r_eq rfl rfl) rfl rfl rfl ?_; clear hf fa; intro fa hf
            refine sqv hf (r_assign rfl) rfl rfl rfl ?_; clear hf fa; intro fa hf
            apply wpList_nil
            (try simp only [Exit.then, Exit.inBlock, ↓reduceIte, Nat.reduceEqDiff])
            refine hK18 _ _ ?_
            refine wp_cond_split (t := (decide (((sbt (formS k) i : Nat) : Int) = (100 : Int)))) (hf.ev rfl) (fun hqt53_1 => ?_) (fun hqt53_1 => ?_)
            · have hqt53_1b := hqt53_1
              try simp only [decide_eq_true_eq, Bool.and_eq_true, Bool.or_eq_true, Bool.not_eq_true', decide_eq_false_iff_not, ne_eq, Bool.not_eq_true] at hqt53_1
              refine wp_region_lit ?_
              refine sqv hf (r_move rfl) rfl rfl rfl ?_; clear hf fa; intro fa hf
              refine sqv hf (r_fa rfl Try.underlying45 (f := 4) (q := 4) rfl (by kernel_rfl) rfl) rfl rfl rfl ?_; clear hf fa; intro fa hf
              refine sqv hf (r_load (v := (.slice aD st.D.length cD)) rfl Try.underlying43 rfl (cell_blk hkb1 rfl)) rfl rfl rfl ?_; clear hf fa; intro fa hf
              refine sqdt hf (d_callB (vs := [(.slice aD st.D.length cD)]) rfl Try.func32 (by kernel_rfl) (by kernel_rfl) (hex_any st.D aD cD _ hB.d (RdS.ext hF.2.2.2 hb) hB.dl)) rfl rfl rfl ?_; clear hf fa; rintro fa _ w7 ⟨rfl, he6⟩ hf
              replace hkb1 := blk_ext hkb1 he6
              replace hb := hb.trans (Below.mono he6 hb.size)
              refine sqv hf (r_sadd rfl rfl (by have : ((⟨#[32]⟩) : ByteArray).size = 1 := rfl; have := hexB_len st.D; have := strN_size (hexB st.D); omega)) rfl rfl rfl ?_; clear hf fa; intro fa hf
              refine sqv hf (r_sadd rfl rfl (by have : ((⟨#[32]⟩) : ByteArray).size = 1 := rfl; have := hexB_len st.D; have := strN_size (hexB st.D); have := sz_app ⟨#[32]⟩ (strN (hexB st.D)); omega)) rfl rfl rfl ?_; clear hf fa; intro fa hf
              refine sqv hf (r_assign rfl) rfl rfl rfl ?_; clear hf fa; intro fa hf
              apply wpList_nil
              (try simp only [Exit.then, Exit.inBlock, ↓reduceIte, Nat.reduceEqDiff])
              refine hK11 _ _ ?_
              refine wp_region_lit ?_
              refine sqv hf (r_add (C := (((i : Nat) : Int) + (1 : Int))) rfl rfl (by rw [IntKind.wrap_i64]; omega)) rfl rfl rfl ?_; clear hf fa; intro fa hf
              refine sqv hf (r_move rfl) rfl rfl rfl ?_; clear hf fa; intro fa hf
              apply wpList_nil
              (try simp only [Exit.then, Exit.inBlock, ↓reduceIte, Nat.reduceEqDiff])
              have hcn := cnt_step (F := formS k) (i := i) 110 (by omega)
              have hcs := cnt_step (F := formS k) (i := i) 115 (by omega)
              refine hKL1 _ _ _ (by omega) ⟨(i + 1), n, s, (t ++ (⟨#[32]⟩ ++ (strN (hexB st.D)))), rfl, hf.sub ⟨rfl, rfl, rfl, rfl, rfl, rfl, (some_int (by first | rfl | omega)), trivial⟩, hb, hkb1, by omega, (by have h := line_d Hs (by omega) (by have h := hqt53_1; omega); rw [h]; simp only [bl_app, bl_dS, bl_strN _ (showL_lt _ (bl_lt _)), bl_strN _ (hexB_byte hB.d), List.append_assoc]; rfl), (by split at hcn <;> split at hcs <;> omega), (by split at hcn <;> split at hcs <;> omega)⟩
            · have hqt53_1b := hqt53_1
              replace hqt53_1 := Bool.eq_false_iff.1 hqt53_1
              try simp only [ne_eq, decide_eq_true_eq, Bool.and_eq_true, Bool.or_eq_true, Bool.not_eq_true', decide_eq_false_iff_not] at hqt53_1
              refine wp_seq_k (fun K19 hK19 => ?_)
              refine wp_region_lit ?_
              refine sqv hf (r_eq rfl rfl) rfl rfl rfl ?_; clear hf fa; intro fa hf
              refine sqv hf (r_assign rfl) rfl rfl rfl ?_; clear hf fa; intro fa hf
              apply wpList_nil
              (try simp only [Exit.then, Exit.inBlock, ↓reduceIte, Nat.reduceEqDiff])
              refine hK19 _ _ ?_
              refine wp_cond_split (t := (decide (((sbt (formS k) i : Nat) : Int) = (97 : Int)))) (hf.ev rfl) (fun hqt61_1 => ?_) (fun hqt61_1 => ?_)
              · have hqt61_1b := hqt61_1
                try simp only [decide_eq_true_eq, Bool.and_eq_true, Bool.or_eq_true, Bool.not_eq_true', decide_eq_false_iff_not, ne_eq, Bool.not_eq_true] at hqt61_1
                refine wp_seq_k (fun K20 hK20 => ?_)
                refine wp_region_lit ?_
                refine sqv hf (r_fa rfl Try.underlying45 (f := 3) (q := 3) rfl (by kernel_rfl) rfl) rfl rfl rfl ?_; clear hf fa; intro fa hf
                refine sqv hf (r_load (v := (.slice aA st.A.length cA)) rfl Try.underlying42 rfl (cell_blk hkb1 rfl)) rfl rfl rfl ?_; clear hf fa; intro fa hf
                refine sqv hf (r_lensl rfl Try.underlying42) rfl rfl rfl ?_; clear hf fa; intro fa hf
                refine sqv hf (r_move rfl) rfl rfl rfl ?_; clear hf fa; intro fa hf
                apply wpList_nil
                (try simp only [Exit.then, Exit.inBlock, ↓reduceIte, Nat.reduceEqDiff])
                refine hK20 _ _ ?_
                refine wp_block ?_
                refine wp_loop_k (fun mq fa wr => ∃ (m : Nat) (t : ByteArray), mq = st.A.length - m ∧ Fr 78 fa [(1, (.pointer (some ⟨b1, 0, none⟩))), (3, (.string t)), (4, (.string (formS k))), (5, (.int .i64 ((n : Nat) : Int))), (6, (.int .i64 ((s : Nat) : Int))), (20, (.int .i64 (((formS k).size : Nat) : Int))), (21, (.int .i64 ((i : Nat) : Int))), (64, (.slice aA st.A.length cA)), (65, (.int .i64 ((st.A.length : Nat) : Int))), (66, (.int .i64 ((m : Nat) : Int)))] ∧ Below w.heap.size w wr ∧ wr.heap[b1]? = some (.cells #[(.int .i64 k), (.slice aN st.N.length cN), (.slice aS st.S.length cS), (.slice aA st.A.length cA), (.slice aD st.D.length cD)] 45 (0, 0)) ∧ (m ≤ st.A.length) ∧ (lineL k st = bl t ++ joinB ((st.A.drop m).map (fun v => bl (valS v)) ++ argsP ((bl (formS k)).drop (i + 1)) (st.N.drop n) (st.S.drop s) st.A st.D))) ?_ ?_
                · skip
                  exact ⟨_, 0, t, rfl, hf.sub ⟨rfl, rfl, rfl, rfl, rfl, rfl, rfl, rfl, rfl, (some_int (by first | rfl | omega)), trivial⟩, hb, hkb1, by omega, (line_a Hs (by omega) (by have h := hqt61_1; omega))⟩
                · skip
                  clear hf fa; intro mq2 fa w8 hI KL2 hKL2
                  clear hb
                  clear hkb1
                  obtain ⟨m, t, hmq2, hf, hb, hkb1, hm, Hv⟩ := hI
                  have htl2 : t.size ≤ 50000 := by have h1 := congrArg List.length Hv; rw [List.length_append, bl_length] at h1; omega
                  refine wp_seq_k (fun K21 hK21 => ?_)
                  refine wp_region_lit ?_
                  refine sqv hf (r_lt rfl rfl) rfl rfl rfl ?_; clear hf fa; intro fa hf
                  apply wpList_nil
                  (try simp only [Exit.then, Exit.inBlock, ↓reduceIte, Nat.reduceEqDiff])
                  refine hK21 _ _ ?_
                  refine wp_seq_k (fun K22 hK22 => ?_)
                  refine wp_cond_split (t := (decide (((m : Nat) : Int) < ((st.A.length : Nat) : Int)))) (hf.ev rfl) (fun hqt67_1 => ?_) (fun hqt67_1 => ?_)
                  · have hqt67_1b := hqt67_1
                    try simp only [decide_eq_true_eq, Bool.and_eq_true, Bool.or_eq_true, Bool.not_eq_true', decide_eq_false_iff_not, ne_eq, Bool.not_eq_true] at hqt67_1
                    refine wp_skip ?_
                    (try simp only [Exit.then, Exit.inBlock, ↓reduceIte, Nat.reduceEqDiff])
                    refine hK22 _ _ ?_
                    refine wp_seq_k (fun K23 hK23 => ?_)
                    refine wp_block ?_
                    refine wp_seq_k (fun K24 hK24 => ?_)
                    refine wp_region_lit ?_
                    obtain ⟨y3, hy3⟩ : ∃ x, (st.A)[m]? = some x := ⟨_, List.getElem?_eq_getElem (by (try simp only [Sl.list_length]); omega)⟩
                    obtain ⟨ab3, aoff3, rfl, hlb3, hel3⟩ := RdS.at hF.2.2.1 hy3
                    refine sqv hf (r_ixa (sz := 2) (j := m) rfl rfl Try.underlying42 (by kernel_rfl) rfl (by omega) rfl) rfl rfl rfl ?_; clear hf fa; intro fa hf
                    refine sqv hf (r_loadA (cs := [(.int .u8 y3.1), (.int .u64 y3.2.1)]) rfl Try.underlying65 rfl (by kernel_rfl) (cellsAt_below hel3 hb hlb3)) rfl rfl rfl ?_; clear hf fa; intro fa hf
                    refine sqdt hf (d_alloc (z := (.agg #[(.int .u8 (0 : Int)), (.int .u64 (0 : Int))])) (cs := #[(.int .u8 (0 : Int)), (.int .u64 (0 : Int))]) (by kernel_rfl) rfl) rfl rfl rfl ?_; clear hf fa; rintro fa _ w9 ⟨b2, rfl, hle2, hk2, he7⟩ hf
                    have hBb2 : w.heap.size ≤ b2 := Nat.le_trans hb.size hle2
                    have : b1 < b2 := Nat.lt_of_lt_of_le (blk_lt hkb1) hle2
                    replace hkb1 := blk_ext hkb1 he7
                    replace hb := hb.trans (Below.mono he7 hb.size)
                    refine sqn hf (d_storeK (T := 65) (v := (.agg #[(.int .u8 y3.1), (.int .u64 y3.2.1)])) (cs := #[(.int .u8 (0 : Int)), (.int .u64 (0 : Int))]) (cs' := #[(.int .u8 y3.1), (.int .u64 y3.2.1)]) rfl rfl (by kernel_rfl) (by kernel_rfl) hk2 (by kernel_rfl) (by kernel_rfl)) rfl rfl ?_; clear hf fa; rintro fa _ w10 ⟨hk3, hg1⟩ hf
                    replace hkb1 := blk_grown hkb1 hg1 (by omega)
                    replace hb := hb.trans (grown_below hg1 hb.size hBb2)
                    apply wpList_nil
                    (try simp only [Exit.then, Exit.inBlock, ↓reduceIte, Nat.reduceEqDiff])
                    refine hK24 _ _ ?_
                    refine wp_region_lit ?_
                    refine sqv hf (r_move rfl) rfl rfl rfl ?_; clear hf fa; intro fa hf
                    refine sqv hf (r_loadA (cs := [(.int .u8 y3.1), (.int .u64 y3.2.1)]) rfl Try.underlying65 rfl (by kernel_rfl) (cellsAt_blk hk3)) rfl rfl rfl ?_; clear hf fa; intro fa hf
                    refine sqdt hf (d_callB (vs := [(.agg #[(.int .u8 y3.1), (.int .u64 y3.2.1)])]) rfl Try.func34 (by kernel_rfl) (by kernel_rfl) (opvalue_any y3 _ (hB.a _ (List.mem_of_getElem? hy3)).1 (hB.a _ (List.mem_of_getElem? hy3)).2)) rfl rfl rfl ?_; clear hf fa; rintro fa _ w11 ⟨rfl, he8⟩ hf
                    replace hkb1 := blk_ext hkb1 he8
                    replace hk3 := blk_ext hk3 he8
                    replace hb := hb.trans (Below.mono he8 hb.size)
                    refine sqv hf (r_sadd rfl rfl (by have : ((⟨#[32]⟩) : ByteArray).size = 1 := rfl; have := valS_len (hB.a _ (List.mem_of_getElem? hy3)).2; omega)) rfl rfl rfl ?_; clear hf fa; intro fa hf
                    refine sqv hf (r_sadd rfl rfl (by have : ((⟨#[32]⟩) : ByteArray).size = 1 := rfl; have := valS_len (hB.a _ (List.mem_of_getElem? hy3)).2; have := sz_app ⟨#[32]⟩ (valS y3); omega)) rfl rfl rfl ?_; clear hf fa; intro fa hf
                    refine sqv hf (r_assign rfl) rfl rfl rfl ?_; clear hf fa; intro fa hf
                    apply wpList_nil
                    (try simp only [Exit.then, Exit.inBlock, ↓reduceIte, Nat.reduceEqDiff])
                    refine hK23 _ _ ?_
                    refine wp_region_lit ?_
                    refine sqv hf (r_add (C := (((m : Nat) : Int) + (1 : Int))) rfl rfl (by rw [IntKind.wrap_i64]; omega)) rfl rfl rfl ?_; clear hf fa; intro fa hf
                    refine sqv hf (r_move rfl) rfl rfl rfl ?_; clear hf fa; intro fa hf
                    apply wpList_nil
                    (try simp only [Exit.then, Exit.inBlock, ↓reduceIte, Nat.reduceEqDiff])
                    refine hKL2 _ _ _ (by omega) ⟨(m + 1), (t ++ (⟨#[32]⟩ ++ (valS y3))), rfl, hf.sub ⟨rfl, rfl, rfl, rfl, rfl, rfl, rfl, rfl, rfl, (some_int (by first | rfl | omega)), trivial⟩, hb, hkb1, by omega, (by have h := line_v Hv hy3; rw [h]; simp only [bl_app, bl_dS, bl_strN _ (showL_lt _ (bl_lt _)), bl_strN _ (hexB_byte hB.d), List.append_assoc]; rfl)⟩
                  · have hqt67_1b := hqt67_1
                    replace hqt67_1 := Bool.eq_false_iff.1 hqt67_1
                    try simp only [ne_eq, decide_eq_true_eq, Bool.and_eq_true, Bool.or_eq_true, Bool.not_eq_true', decide_eq_false_iff_not] at hqt67_1
                    refine wp_exit ?_
                    (try simp only [Exit.then, Exit.inBlock, ↓reduceIte, Nat.reduceEqDiff])
                    refine hK11 _ _ ?_
                    refine wp_region_lit ?_
                    refine sqv hf (r_add (C := (((i : Nat) : Int) + (1 : Int))) rfl rfl (by rw [IntKind.wrap_i64]; omega)) rfl rfl rfl ?_; clear hf fa; intro fa hf
                    refine sqv hf (r_move rfl) rfl rfl rfl ?_; clear hf fa; intro fa hf
                    apply wpList_nil
                    (try simp only [Exit.then, Exit.inBlock, ↓reduceIte, Nat.reduceEqDiff])
                    have hcn := cnt_step (F := formS k) (i := i) 110 (by omega)
                    have hcs := cnt_step (F := formS k) (i := i) 115 (by omega)
                    refine hKL1 _ _ _ (by omega) ⟨(i + 1), n, s, t, rfl, hf.sub ⟨rfl, rfl, rfl, rfl, rfl, rfl, (some_int (by first | rfl | omega)), trivial⟩, hb, hkb1, by omega, (line_ve Hv (by omega)), (by split at hcn <;> split at hcs <;> omega), (by split at hcn <;> split at hcs <;> omega)⟩
              · have hqt61_1b := hqt61_1
                replace hqt61_1 := Bool.eq_false_iff.1 hqt61_1
                try simp only [ne_eq, decide_eq_true_eq, Bool.and_eq_true, Bool.or_eq_true, Bool.not_eq_true', decide_eq_false_iff_not] at hqt61_1
                refine wp_skip ?_
                (try simp only [Exit.then, Exit.inBlock, ↓reduceIte, Nat.reduceEqDiff])
                refine hK11 _ _ ?_
                refine wp_region_lit ?_
                refine sqv hf (r_add (C := (((i : Nat) : Int) + (1 : Int))) rfl rfl (by rw [IntKind.wrap_i64]; omega)) rfl rfl rfl ?_; clear hf fa; intro fa hf
                refine sqv hf (r_move rfl) rfl rfl rfl ?_; clear hf fa; intro fa hf
                apply wpList_nil
                (try simp only [Exit.then, Exit.inBlock, ↓reduceIte, Nat.reduceEqDiff])
                have hcn := cnt_step (F := formS k) (i := i) 110 (by omega)
                have hcs := cnt_step (F := formS k) (i := i) 115 (by omega)
                refine hKL1 _ _ _ (by omega) ⟨(i + 1), n, s, t, rfl, hf.sub ⟨rfl, rfl, rfl, rfl, rfl, rfl, (some_int (by first | rfl | omega)), trivial⟩, hb, hkb1, by omega, (line_o Hs (by omega) (by omega)), (by split at hcn <;> split at hcs <;> omega), (by split at hcn <;> split at hcs <;> omega)⟩
      · have hqt22_1b := hqt22_1
        replace hqt22_1 := Bool.eq_false_iff.1 hqt22_1
        try simp only [ne_eq, decide_eq_true_eq, Bool.and_eq_true, Bool.or_eq_true, Bool.not_eq_true', decide_eq_false_iff_not] at hqt22_1
        refine wp_exit ?_
        (try simp only [Exit.then, Exit.inBlock, ↓reduceIte, Nat.reduceEqDiff])
        refine hK7 _ _ ?_
        refine wp_seq_k (fun K25 hK25 => ?_)
        refine wp_region_lit ?_
        refine sqv hf (r_move rfl) rfl rfl rfl ?_; clear hf fa; intro fa hf
        refine sqv hf (r_assign rfl) rfl rfl rfl ?_; clear hf fa; intro fa hf
        apply wpList_nil
        (try simp only [Exit.then, Exit.inBlock, ↓reduceIte, Nat.reduceEqDiff])
        refine hK25 _ _ ?_
        refine wp_ret ?_
        (try simp only [Exit.then, Exit.inBlock])
        refine ret1 hf rfl rfl ?_
        refine ⟨?_, hb⟩; rw [if_pos hrt]; unfold lineS; rw [line_end Hs (by omega), strN_bl]

set_option maxHeartbeats 1000000 in
set_option maxRecDepth 100000 in
theorem rline_any (k : Int) (st : PSt) (aN aS aA aD : Option Addr) (cN cS cA cD : Nat) (w : World) (hF : OpF w st aN aS aA aD) (hB : OpB st) (hrt : rightP k st = true) : Calls Try.prog 22 #[(.agg #[(.int .i64 k), (.slice aN st.N.length cN), (.slice aS st.S.length cS), (.slice aA st.A.length cA), (.slice aD st.D.length cD)])] w fun e w' => e = .returned (.string (lineS k st)) ∧ Below w.heap.size w w' := by
  have hsl9 := hB.sl
  have hal9 := hB.al
  have hdl9 := hB.dl
  have hnl9 := hB.nl
  have hHd := (right_split hrt).1
  have hll := line_len hB hrt
  have hwl := word_len k
  refine sx_enter (L := [(0, (.agg #[(.int .i64 k), (.slice aN st.N.length cN), (.slice aS st.S.length cS), (.slice aA st.A.length cA), (.slice aD st.D.length cD)]))]) Try.func22 rfl rfl rfl rfl (fun fa hf => ?_)
  have hb : Below w.heap.size w w := Below.refl _ _
  refine wp_seq_k (fun K1 hK1 => ?_)
  refine wp_region_lit ?_
  refine sqdt hf (d_box (cs := #[(.int .i64 k), (.slice aN st.N.length cN), (.slice aS st.S.length cS), (.slice aA st.A.length cA), (.slice aD st.D.length cD)]) rfl rfl) rfl rfl rfl ?_; clear hf fa; rintro fa _ w1 ⟨b1, rfl, hle1, hk1, he1⟩ hf
  have hBb1 : w.heap.size ≤ b1 := Nat.le_trans hb.size hle1
  replace hb := hb.trans (Below.mono he1 hb.size)
  refine sqv hf (r_assign rfl) rfl rfl rfl ?_; clear hf fa; intro fa hf
  apply wpList_nil
  (try simp only [Exit.then, Exit.inBlock, ↓reduceIte, Nat.reduceEqDiff])
  refine hK1 _ _ ?_
  refine wp_seq_k (fun K2 hK2 => ?_)
  refine wp_region_lit ?_
  refine sqv hf (r_fa rfl Try.underlying49 (f := 0) (q := 0) rfl (by kernel_rfl) rfl) rfl rfl rfl ?_; clear hf fa; intro fa hf
  refine sqv hf (r_load (v := (.int .i64 k)) rfl Try.underlying3 rfl (cell_blk hk1 rfl)) rfl rfl rfl ?_; clear hf fa; intro fa hf
  refine sqdt hf (d_callB (vs := [(.int .i64 k)]) rfl Try.func18 (by kernel_rfl) (by kernel_rfl) (rform_any k _)) rfl rfl rfl ?_; clear hf fa; rintro fa _ w2 ⟨rfl, he2⟩ hf
  replace hk1 := blk_ext hk1 he2
  replace hb := hb.trans (Below.mono he2 hb.size)
  refine sqv hf (r_move rfl) rfl rfl rfl ?_; clear hf fa; intro fa hf
  refine sqv hf (r_extract rfl (i := 0) rfl) rfl rfl rfl ?_; clear hf fa; intro fa hf
  refine sqv hf (r_extract rfl (i := 1) rfl) rfl rfl rfl ?_; clear hf fa; intro fa hf
  refine sqv hf (r_assign rfl) rfl rfl rfl ?_; clear hf fa; intro fa hf
  refine sqv hf (r_assign rfl) rfl rfl rfl ?_; clear hf fa; intro fa hf
  apply wpList_nil
  (try simp only [Exit.then, Exit.inBlock, ↓reduceIte, Nat.reduceEqDiff])
  refine hK2 _ _ ?_
  refine wp_seq_k (fun K3 hK3 => ?_)
  refine wp_region_lit ?_
  refine sqv hf (r_assign rfl) rfl rfl rfl ?_; clear hf fa; intro fa hf
  refine sqv hf (r_assign rfl) rfl rfl rfl ?_; clear hf fa; intro fa hf
  apply wpList_nil
  (try simp only [Exit.then, Exit.inBlock, ↓reduceIte, Nat.reduceEqDiff])
  refine hK3 _ _ ?_
  refine wp_seq_k (fun K4 hK4 => ?_)
  refine wp_seq_k (fun K5 hK5 => ?_)
  refine wp_region_lit ?_
  refine sqv hf (r_assign rfl) rfl rfl rfl ?_; clear hf fa; intro fa hf
  apply wpList_nil
  (try simp only [Exit.then, Exit.inBlock, ↓reduceIte, Nat.reduceEqDiff])
  refine hK5 _ _ ?_
  refine wp_block ?_
  refine wp_loop_k (fun mq fa wr => ∃ (i : Nat) (n : Nat) (s : Nat) (t : ByteArray), mq = (formS k).size - i ∧ Fr 77 fa [(1, (.pointer (some ⟨b1, 0, none⟩))), (3, (.string t)), (4, (.string (formS k))), (5, (.int .i64 ((n : Nat) : Int))), (6, (.int .i64 ((s : Nat) : Int))), (7, (.int .i64 ((i : Nat) : Int)))] ∧ Below w.heap.size w wr ∧ wr.heap[b1]? = some (.cells #[(.int .i64 k), (.slice aN st.N.length cN), (.slice aS st.S.length cS), (.slice aA st.A.length cA), (.slice aD st.D.length cD)] 49 (0, 0)) ∧ (i ≤ (formS k).size) ∧ (lineL k st = bl t ++ joinB (argsP ((bl (formS k)).drop i) (st.N.drop n) (st.S.drop s) st.A st.D)) ∧ (st.N.length = n + ((bl (formS k)).drop i).count 110) ∧ (st.S.length = s + ((bl (formS k)).drop i).count 115)) ?_ ?_
  · skip
    exact ⟨_, 0, 0, 0, (wordS k), rfl, hf.sub ⟨rfl, rfl, rfl, (some_int (by first | rfl | omega)), (some_int (by first | rfl | omega)), (some_int (by first | rfl | omega)), trivial⟩, hb, hk1, by omega, rfl, (by rw [List.drop_zero, Nat.zero_add]; exact hHd.2.1), (by rw [List.drop_zero, Nat.zero_add]; exact hHd.2.2.1)⟩
  · skip
    clear hf fa; intro mq1 fa w3 hI KL1 hKL1
    clear hb
    clear hk1
    obtain ⟨i, n, s, t, hmq1, hf, hb, hkb1, hi, Hs, Hn, Hsn⟩ := hI
    have htl : t.size ≤ 50000 := by have h1 := congrArg List.length Hs; rw [List.length_append, bl_length] at h1; omega
    refine wp_seq_k (fun K6 hK6 => ?_)
    refine wp_seq_k (fun K7 hK7 => ?_)
    refine wp_region_lit ?_
    refine sqv hf (r_move rfl) rfl rfl rfl ?_; clear hf fa; intro fa hf
    refine sqv hf (r_move rfl) rfl rfl rfl ?_; clear hf fa; intro fa hf
    refine sqv hf (r_lens rfl Try.underlying9) rfl rfl rfl ?_; clear hf fa; intro fa hf
    refine sqv hf (r_lt rfl rfl) rfl rfl rfl ?_; clear hf fa; intro fa hf
    apply wpList_nil
    (try simp only [Exit.then, Exit.inBlock, ↓reduceIte, Nat.reduceEqDiff])
    refine hK7 _ _ ?_
    refine wp_cond_split (t := (decide (((i : Nat) : Int) < (((formS k).size : Nat) : Int)))) (hf.ev rfl) (fun hqt18_1 => ?_) (fun hqt18_1 => ?_)
    · have hqt18_1b := hqt18_1
      try simp only [decide_eq_true_eq, Bool.and_eq_true, Bool.or_eq_true, Bool.not_eq_true', decide_eq_false_iff_not, ne_eq, Bool.not_eq_true] at hqt18_1
      refine wp_skip ?_
      (try simp only [Exit.then, Exit.inBlock, ↓reduceIte, Nat.reduceEqDiff])
      refine hK6 _ _ ?_
      refine wp_seq_k (fun K8 hK8 => ?_)
      refine wp_block ?_
      refine wp_seq_k (fun K9 hK9 => ?_)
      refine wp_region_lit ?_
      refine sqv hf (r_move rfl) rfl rfl rfl ?_; clear hf fa; intro fa hf
      refine sqv hf (r_move rfl) rfl rfl rfl ?_; clear hf fa; intro fa hf
      refine sqv hf (r_sindexD (j := i) rfl rfl Try.underlying9 rfl (by omega)) rfl rfl rfl ?_; clear hf fa; intro fa hf
      apply wpList_nil
      (try simp only [Exit.then, Exit.inBlock, ↓reduceIte, Nat.reduceEqDiff])
      refine hK9 _ _ ?_
      refine wp_block ?_
      refine wp_seq_k (fun K10 hK10 => ?_)
      refine wp_region_lit ?_
      refine sqv hf (r_eq rfl rfl) rfl rfl rfl ?_; clear hf fa; intro fa hf
      refine sqv hf (r_assign rfl) rfl rfl rfl ?_; clear hf fa; intro fa hf
      apply wpList_nil
      (try simp only [Exit.then, Exit.inBlock, ↓reduceIte, Nat.reduceEqDiff])
      refine hK10 _ _ ?_
      refine wp_cond_split (t := (decide (((sbt (formS k) i : Nat) : Int) = (110 : Int)))) (hf.ev rfl) (fun hqt24_1 => ?_) (fun hqt24_1 => ?_)
      · have hqt24_1b := hqt24_1
        try simp only [decide_eq_true_eq, Bool.and_eq_true, Bool.or_eq_true, Bool.not_eq_true', decide_eq_false_iff_not, ne_eq, Bool.not_eq_true] at hqt24_1
        refine wp_seq_k (fun K11 hK11 => ?_)
        have hcn1 := cnt_step (F := formS k) (i := i) 110 (by omega)
        have hn9 : n < st.N.length := by have h := hqt24_1; rw [if_pos (by omega)] at hcn1; omega
        refine wp_region_lit ?_
        refine sqv hf (r_move rfl) rfl rfl rfl ?_; clear hf fa; intro fa hf
        refine sqv hf (r_sadd rfl rfl (by have : ((⟨#[32]⟩) : ByteArray).size = 1 := rfl; omega)) rfl rfl rfl ?_; clear hf fa; intro fa hf
        refine sqv hf (r_fa rfl Try.underlying49 (f := 1) (q := 1) rfl (by kernel_rfl) rfl) rfl rfl rfl ?_; clear hf fa; intro fa hf
        refine sqv hf (r_load (v := (.slice aN st.N.length cN)) rfl Try.underlying41 rfl (cell_blk hkb1 rfl)) rfl rfl rfl ?_; clear hf fa; intro fa hf
        refine sqv hf (r_move rfl) rfl rfl rfl ?_; clear hf fa; intro fa hf
        obtain ⟨y1, hy1⟩ : ∃ x, (st.N)[n]? = some x := ⟨_, List.getElem?_eq_getElem (by (try simp only [Sl.list_length]); omega)⟩
        obtain ⟨ab1, aoff1, rfl, hlb1, hel1⟩ := RdS.at hF.1 hy1
        refine sqv hf (r_ixa (sz := 1) (j := n) rfl rfl Try.underlying41 (by kernel_rfl) rfl (by omega) rfl) rfl rfl rfl ?_; clear hf fa; intro fa hf
        refine sqv hf (r_load (v := (.int .i64 y1)) rfl Try.underlying3 rfl (cellsAt_cell (cellsAt_below hel1 hb hlb1) (i := 0) rfl rfl)) rfl rfl rfl ?_; clear hf fa; intro fa hf
        refine sqdt hf (d_callB (vs := [(.int .i64 y1)]) rfl Try.func33 (by kernel_rfl) (by kernel_rfl) (rdigits_any y1 _ (hB.n _ (List.mem_of_getElem? hy1)))) rfl rfl rfl ?_; clear hf fa; rintro fa _ w4 ⟨rfl, he3⟩ hf
        replace hkb1 := blk_ext hkb1 he3
        replace hb := hb.trans (Below.mono he3 hb.size)
        refine sqv hf (r_sadd rfl rfl (by have : ((⟨#[32]⟩) : ByteArray).size = 1 := rfl; have := sz_app t ⟨#[32]⟩; have := dS_len (hB.n _ (List.mem_of_getElem? hy1)); omega)) rfl rfl rfl ?_; clear hf fa; intro fa hf
        refine sqv hf (r_assign rfl) rfl rfl rfl ?_; clear hf fa; intro fa hf
        apply wpList_nil
        (try simp only [Exit.then, Exit.inBlock, ↓reduceIte, Nat.reduceEqDiff])
        refine hK11 _ _ ?_
        refine wp_region_lit ?_
        refine sqv hf (r_move rfl) rfl rfl rfl ?_; clear hf fa; intro fa hf
        refine sqv hf (r_add (C := (((n : Nat) : Int) + (1 : Int))) rfl rfl (by rw [IntKind.wrap_i64]; omega)) rfl rfl rfl ?_; clear hf fa; intro fa hf
        refine sqv hf (r_assign rfl) rfl rfl rfl ?_; clear hf fa; intro fa hf
        apply wpList_nil
        (try simp only [Exit.then, Exit.inBlock, ↓reduceIte, Nat.reduceEqDiff])
        refine hK8 _ _ ?_
        refine wp_region_lit ?_
        refine sqv hf (r_move rfl) rfl rfl rfl ?_; clear hf fa; intro fa hf
        refine sqv hf (r_add (C := (((i : Nat) : Int) + (1 : Int))) rfl rfl (by rw [IntKind.wrap_i64]; omega)) rfl rfl rfl ?_; clear hf fa; intro fa hf
        refine sqv hf (r_assign rfl) rfl rfl rfl ?_; clear hf fa; intro fa hf
        apply wpList_nil
        (try simp only [Exit.then, Exit.inBlock, ↓reduceIte, Nat.reduceEqDiff])
        have hcn := cnt_step (F := formS k) (i := i) 110 (by omega)
        have hcs := cnt_step (F := formS k) (i := i) 115 (by omega)
        refine hKL1 _ _ _ (by omega) ⟨(i + 1), (n + 1), s, ((t ++ ⟨#[32]⟩) ++ (dS y1)), rfl, hf.sub ⟨rfl, rfl, rfl, (some_int (by first | rfl | omega)), rfl, (some_int (by first | rfl | omega)), trivial⟩, hb, hkb1, by omega, (by have h := line_n Hs (by omega) (by have h := hqt24_1; omega) hy1; rw [h]; simp only [bl_app, bl_dS, bl_strN _ (showL_lt _ (bl_lt _)), bl_strN _ (hexB_byte hB.d), List.append_assoc]; rfl), (by split at hcn <;> split at hcs <;> omega), (by split at hcn <;> split at hcs <;> omega)⟩
      · have hqt24_1b := hqt24_1
        replace hqt24_1 := Bool.eq_false_iff.1 hqt24_1
        try simp only [ne_eq, decide_eq_true_eq, Bool.and_eq_true, Bool.or_eq_true, Bool.not_eq_true', decide_eq_false_iff_not] at hqt24_1
        refine wp_seq_k (fun K12 hK12 => ?_)
        refine wp_region_lit ?_
        refine sqv hf (r_eq rfl rfl) rfl rfl rfl ?_; clear hf fa; intro fa hf
        refine sqv hf (r_assign rfl) rfl rfl rfl ?_; clear hf fa; intro fa hf
        apply wpList_nil
        (try simp only [Exit.then, Exit.inBlock, ↓reduceIte, Nat.reduceEqDiff])
        refine hK12 _ _ ?_
        refine wp_cond_split (t := (decide (((sbt (formS k) i : Nat) : Int) = (115 : Int)))) (hf.ev rfl) (fun hqt37_1 => ?_) (fun hqt37_1 => ?_)
        · have hqt37_1b := hqt37_1
          try simp only [decide_eq_true_eq, Bool.and_eq_true, Bool.or_eq_true, Bool.not_eq_true', decide_eq_false_iff_not, ne_eq, Bool.not_eq_true] at hqt37_1
          refine wp_seq_k (fun K13 hK13 => ?_)
          have hcs1 := cnt_step (F := formS k) (i := i) 115 (by omega)
          have hs9 : s < st.S.length := by have h := hqt37_1; rw [if_pos (by omega)] at hcs1; omega
          refine wp_region_lit ?_
          refine sqv hf (r_move rfl) rfl rfl rfl ?_; clear hf fa; intro fa hf
          refine sqv hf (r_sadd rfl rfl (by have : ((⟨#[32]⟩) : ByteArray).size = 1 := rfl; omega)) rfl rfl rfl ?_; clear hf fa; intro fa hf
          refine sqv hf (r_fa rfl Try.underlying49 (f := 2) (q := 2) rfl (by kernel_rfl) rfl) rfl rfl rfl ?_; clear hf fa; intro fa hf
          refine sqv hf (r_load (v := (.slice aS st.S.length cS)) rfl Try.underlying32 rfl (cell_blk hkb1 rfl)) rfl rfl rfl ?_; clear hf fa; intro fa hf
          refine sqv hf (r_move rfl) rfl rfl rfl ?_; clear hf fa; intro fa hf
          obtain ⟨y2, hy2⟩ : ∃ x, (st.S)[s]? = some x := ⟨_, List.getElem?_eq_getElem (by (try simp only [Sl.list_length]); omega)⟩
          obtain ⟨ab2, aoff2, rfl, hlb2, hel2⟩ := RdS.at hF.2.1 hy2
          refine sqv hf (r_ixa (sz := 1) (j := s) rfl rfl Try.underlying32 (by kernel_rfl) rfl (by omega) rfl) rfl rfl rfl ?_; clear hf fa; intro fa hf
          refine sqv hf (r_load (v := (.string y2)) rfl Try.underlying9 rfl (cellsAt_cell (cellsAt_below hel2 hb hlb2) (i := 0) rfl rfl)) rfl rfl rfl ?_; clear hf fa; intro fa hf
          refine sqdt hf (d_callB (vs := [(.string y2)]) rfl Try.func46 (by kernel_rfl) (by kernel_rfl) (refShow_any y2 _ (by have h9 := hB.s _ (List.mem_of_getElem? hy2); omega))) rfl rfl rfl ?_; clear hf fa; rintro fa _ w5 ⟨rfl, he4⟩ hf
          replace hkb1 := blk_ext hkb1 he4
          replace hb := hb.trans (Below.mono he4 hb.size)
          refine sqv hf (r_sadd rfl rfl (by have : ((⟨#[32]⟩) : ByteArray).size = 1 := rfl; have := sz_app t ⟨#[32]⟩; have := show_len y2; have := strN_size (showL (bl y2)); have := hB.s _ (List.mem_of_getElem? hy2); omega)) rfl rfl rfl ?_; clear hf fa; intro fa hf
          refine sqv hf (r_assign rfl) rfl rfl rfl ?_; clear hf fa; intro fa hf
          apply wpList_nil
          (try simp only [Exit.then, Exit.inBlock, ↓reduceIte, Nat.reduceEqDiff])
          refine hK13 _ _ ?_
          refine wp_region_lit ?_
          refine sqv hf (r_move rfl) rfl rfl rfl ?_; clear hf fa; intro fa hf
          refine sqv hf (r_add (C := (((s : Nat) : Int) + (1 : Int))) rfl rfl (by rw [IntKind.wrap_i64]; omega)) rfl rfl rfl ?_; clear hf fa; intro fa hf
          refine sqv hf (r_assign rfl) rfl rfl rfl ?_; clear hf fa; intro fa hf
          apply wpList_nil
          (try simp only [Exit.then, Exit.inBlock, ↓reduceIte, Nat.reduceEqDiff])
          refine hK8 _ _ ?_
          refine wp_region_lit ?_
          refine sqv hf (r_move rfl) rfl rfl rfl ?_; clear hf fa; intro fa hf
          refine sqv hf (r_add (C := (((i : Nat) : Int) + (1 : Int))) rfl rfl (by rw [IntKind.wrap_i64]; omega)) rfl rfl rfl ?_; clear hf fa; intro fa hf
          refine sqv hf (r_assign rfl) rfl rfl rfl ?_; clear hf fa; intro fa hf
          apply wpList_nil
          (try simp only [Exit.then, Exit.inBlock, ↓reduceIte, Nat.reduceEqDiff])
          have hcn := cnt_step (F := formS k) (i := i) 110 (by omega)
          have hcs := cnt_step (F := formS k) (i := i) 115 (by omega)
          refine hKL1 _ _ _ (by omega) ⟨(i + 1), n, (s + 1), ((t ++ ⟨#[32]⟩) ++ (strN (showL (bl y2)))), rfl, hf.sub ⟨rfl, rfl, rfl, rfl, (some_int (by first | rfl | omega)), (some_int (by first | rfl | omega)), trivial⟩, hb, hkb1, by omega, (by have h := line_s Hs (by omega) (by have h := hqt37_1; omega) hy2; rw [h]; simp only [bl_app, bl_dS, bl_strN _ (showL_lt _ (bl_lt _)), bl_strN _ (hexB_byte hB.d), List.append_assoc]; rfl), (by split at hcn <;> split at hcs <;> omega), (by split at hcn <;> split at hcs <;> omega)⟩
        · have hqt37_1b := hqt37_1
          replace hqt37_1 := Bool.eq_false_iff.1 hqt37_1
          try simp only [ne_eq, decide_eq_true_eq, Bool.and_eq_true, Bool.or_eq_true, Bool.not_eq_true', decide_eq_false_iff_not] at hqt37_1
          refine wp_seq_k (fun K14 hK14 => ?_)
          refine wp_region_lit ?_
          refine sqv hf (r_eq rfl rfl) rfl rfl rfl ?_; clear hf fa; intro fa hf
          refine sqv hf (r_assign rfl) rfl rfl rfl ?_; clear hf fa; intro fa hf
          apply wpList_nil
          (try simp only [Exit.then, Exit.inBlock, ↓reduceIte, Nat.reduceEqDiff])
          refine hK14 _ _ ?_
          refine wp_cond_split (t := (decide (((sbt (formS k) i : Nat) : Int) = (100 : Int)))) (hf.ev rfl) (fun hqt50_1 => ?_) (fun hqt50_1 => ?_)
          · have hqt50_1b := hqt50_1
            try simp only [decide_eq_true_eq, Bool.and_eq_true, Bool.or_eq_true, Bool.not_eq_true', decide_eq_false_iff_not, ne_eq, Bool.not_eq_true] at hqt50_1
            refine wp_region_lit ?_
            refine sqv hf (r_move rfl) rfl rfl rfl ?_; clear hf fa; intro fa hf
            refine sqv hf (r_sadd rfl rfl (by have : ((⟨#[32]⟩) : ByteArray).size = 1 := rfl; omega)) rfl rfl rfl ?_; clear hf fa; intro fa hf
            refine sqv hf (r_fa rfl Try.underlying49 (f := 4) (q := 4) rfl (by kernel_rfl) rfl) rfl rfl rfl ?_; clear hf fa; intro fa hf
            refine sqv hf (r_load (v := (.slice aD st.D.length cD)) rfl Try.underlying43 rfl (cell_blk hkb1 rfl)) rfl rfl rfl ?_; clear hf fa; intro fa hf
            refine sqdt hf (d_callB (vs := [(.slice aD st.D.length cD)]) rfl Try.func36 (by kernel_rfl) (by kernel_rfl) (rhex_any st.D aD cD _ hB.d (RdS.ext hF.2.2.2 hb) hB.dl)) rfl rfl rfl ?_; clear hf fa; rintro fa _ w6 ⟨rfl, he5⟩ hf
            replace hkb1 := blk_ext hkb1 he5
            replace hb := hb.trans (Below.mono he5 hb.size)
            refine sqv hf (r_sadd rfl rfl (by have : ((⟨#[32]⟩) : ByteArray).size = 1 := rfl; have := sz_app t ⟨#[32]⟩; have := hexB_len st.D; have := strN_size (hexB st.D); omega)) rfl rfl rfl ?_; clear hf fa; intro fa hf
            refine sqv hf (r_assign rfl) rfl rfl rfl ?_; clear hf fa; intro fa hf
            apply wpList_nil
            (try simp only [Exit.then, Exit.inBlock, ↓reduceIte, Nat.reduceEqDiff])
            refine hK8 _ _ ?_
            refine wp_region_lit ?_
            refine sqv hf (r_move rfl) rfl rfl rfl ?_; clear hf fa; intro fa hf
            refine sqv hf (r_add (C := (((i : Nat) : Int) + (1 : Int))) rfl rfl (by rw [IntKind.wrap_i64]; omega)) rfl rfl rfl ?_; clear hf fa; intro fa hf
            refine sqv hf (r_assign rfl) rfl rfl rfl ?_; clear hf fa; intro fa hf
            apply wpList_nil
            (try simp only [Exit.then, Exit.inBlock, ↓reduceIte, Nat.reduceEqDiff])
            have hcn := cnt_step (F := formS k) (i := i) 110 (by omega)
            have hcs := cnt_step (F := formS k) (i := i) 115 (by omega)
            refine hKL1 _ _ _ (by omega) ⟨(i + 1), n, s, ((t ++ ⟨#[32]⟩) ++ (strN (hexB st.D))), rfl, hf.sub ⟨rfl, rfl, rfl, rfl, rfl, (some_int (by first | rfl | omega)), trivial⟩, hb, hkb1, by omega, (by have h := line_d Hs (by omega) (by have h := hqt50_1; omega); rw [h]; simp only [bl_app, bl_dS, bl_strN _ (showL_lt _ (bl_lt _)), bl_strN _ (hexB_byte hB.d), List.append_assoc]; rfl), (by split at hcn <;> split at hcs <;> omega), (by split at hcn <;> split at hcs <;> omega)⟩
          · have hqt50_1b := hqt50_1
            replace hqt50_1 := Bool.eq_false_iff.1 hqt50_1
            try simp only [ne_eq, decide_eq_true_eq, Bool.and_eq_true, Bool.or_eq_true, Bool.not_eq_true', decide_eq_false_iff_not] at hqt50_1
            refine wp_seq_k (fun K15 hK15 => ?_)
            refine wp_region_lit ?_
            refine sqv hf (r_eq rfl rfl) rfl rfl rfl ?_; clear hf fa; intro fa hf
            refine sqv hf (r_assign rfl) rfl rfl rfl ?_; clear hf fa; intro fa hf
            apply wpList_nil
            (try simp only [Exit.then, Exit.inBlock, ↓reduceIte, Nat.reduceEqDiff])
            refine hK15 _ _ ?_
            refine wp_cond_split (t := (decide (((sbt (formS k) i : Nat) : Int) = (97 : Int)))) (hf.ev rfl) (fun hqt58_1 => ?_) (fun hqt58_1 => ?_)
            · have hqt58_1b := hqt58_1
              try simp only [decide_eq_true_eq, Bool.and_eq_true, Bool.or_eq_true, Bool.not_eq_true', decide_eq_false_iff_not, ne_eq, Bool.not_eq_true] at hqt58_1
              refine wp_seq_k (fun K16 hK16 => ?_)
              refine wp_region_lit ?_
              refine sqv hf (r_assign rfl) rfl rfl rfl ?_; clear hf fa; intro fa hf
              apply wpList_nil
              (try simp only [Exit.then, Exit.inBlock, ↓reduceIte, Nat.reduceEqDiff])
              refine hK16 _ _ ?_
              refine wp_block ?_
              refine wp_loop_k (fun mq fa wr => ∃ (m : Nat) (t : ByteArray), mq = st.A.length - m ∧ Fr 77 fa [(1, (.pointer (some ⟨b1, 0, none⟩))), (3, (.string t)), (4, (.string (formS k))), (5, (.int .i64 ((n : Nat) : Int))), (6, (.int .i64 ((s : Nat) : Int))), (7, (.int .i64 ((i : Nat) : Int))), (8, (.int .i64 ((m : Nat) : Int)))] ∧ Below w.heap.size w wr ∧ wr.heap[b1]? = some (.cells #[(.int .i64 k), (.slice aN st.N.length cN), (.slice aS st.S.length cS), (.slice aA st.A.length cA), (.slice aD st.D.length cD)] 49 (0, 0)) ∧ (m ≤ st.A.length) ∧ (lineL k st = bl t ++ joinB ((st.A.drop m).map (fun v => bl (valS v)) ++ argsP ((bl (formS k)).drop (i + 1)) (st.N.drop n) (st.S.drop s) st.A st.D))) ?_ ?_
              · skip
                exact ⟨_, 0, t, rfl, hf.sub ⟨rfl, rfl, rfl, rfl, rfl, rfl, (some_int (by first | rfl | omega)), trivial⟩, hb, hkb1, by omega, (line_a Hs (by omega) (by have h := hqt58_1; omega))⟩
              · skip
                clear hf fa; intro mq2 fa w7 hI KL2 hKL2
                clear hb
                clear hkb1
                obtain ⟨m, t, hmq2, hf, hb, hkb1, hm, Hv⟩ := hI
                have htl2 : t.size ≤ 50000 := by have h1 := congrArg List.length Hv; rw [List.length_append, bl_length] at h1; omega
                refine wp_seq_k (fun K17 hK17 => ?_)
                refine wp_seq_k (fun K18 hK18 => ?_)
                refine wp_region_lit ?_
                refine sqv hf (r_move rfl) rfl rfl rfl ?_; clear hf fa; intro fa hf
                refine sqv hf (r_fa rfl Try.underlying49 (f := 3) (q := 3) rfl (by kernel_rfl) rfl) rfl rfl rfl ?_; clear hf fa; intro fa hf
                refine sqv hf (r_load (v := (.slice aA st.A.length cA)) rfl Try.underlying42 rfl (cell_blk hkb1 rfl)) rfl rfl rfl ?_; clear hf fa; intro fa hf
                refine sqv hf (r_lensl rfl Try.underlying42) rfl rfl rfl ?_; clear hf fa; intro fa hf
                refine sqv hf (r_lt rfl rfl) rfl rfl rfl ?_; clear hf fa; intro fa hf
                apply wpList_nil
                (try simp only [Exit.then, Exit.inBlock, ↓reduceIte, Nat.reduceEqDiff])
                refine hK18 _ _ ?_
                refine wp_cond_split (t := (decide (((m : Nat) : Int) < ((st.A.length : Nat) : Int)))) (hf.ev rfl) (fun hqt64_1 => ?_) (fun hqt64_1 => ?_)
                · have hqt64_1b := hqt64_1
                  try simp only [decide_eq_true_eq, Bool.and_eq_true, Bool.or_eq_true, Bool.not_eq_true', decide_eq_false_iff_not, ne_eq, Bool.not_eq_true] at hqt64_1
                  refine wp_skip ?_
                  (try simp only [Exit.then, Exit.inBlock, ↓reduceIte, Nat.reduceEqDiff])
                  refine hK17 _ _ ?_
                  refine wp_seq_k (fun K19 hK19 => ?_)
                  refine wp_block ?_
                  refine wp_region_lit ?_
                  refine sqv hf (r_move rfl) rfl rfl rfl ?_; clear hf fa; intro fa hf
                  refine sqv hf (r_sadd rfl rfl (by have : ((⟨#[32]⟩) : ByteArray).size = 1 := rfl; omega)) rfl rfl rfl ?_; clear hf fa; intro fa hf
                  refine sqv hf (r_fa rfl Try.underlying49 (f := 3) (q := 3) rfl (by kernel_rfl) rfl) rfl rfl rfl ?_; clear hf fa; intro fa hf
                  refine sqv hf (r_load (v := (.slice aA st.A.length cA)) rfl Try.underlying42 rfl (cell_blk hkb1 rfl)) rfl rfl rfl ?_; clear hf fa; intro fa hf
                  refine sqv hf (r_move rfl) rfl rfl rfl ?_; clear hf fa; intro fa hf
                  obtain ⟨y3, hy3⟩ : ∃ x, (st.A)[m]? = some x := ⟨_, List.getElem?_eq_getElem (by (try simp only [Sl.list_length]); omega)⟩
                  obtain ⟨ab3, aoff3, rfl, hlb3, hel3⟩ := RdS.at hF.2.2.1 hy3
                  refine sqv hf (r_ixa (sz := 2) (j := m) rfl rfl Try.underlying42 (by kernel_rfl) rfl (by omega) rfl) rfl rfl rfl ?_; clear hf fa; intro fa hf
                  refine sqv hf (r_loadA (cs := [(.int .u8 y3.1), (.int .u64 y3.2.1)]) rfl Try.underlying65 rfl (by kernel_rfl) (cellsAt_below hel3 hb hlb3)) rfl rfl rfl ?_; clear hf fa; intro fa hf
                  refine sqdt hf (d_callB (vs := [(.agg #[(.int .u8 y3.1), (.int .u64 y3.2.1)])]) rfl Try.func35 (by kernel_rfl) (by kernel_rfl) (oprvalue_any y3 _ (hB.a _ (List.mem_of_getElem? hy3)).1 (hB.a _ (List.mem_of_getElem? hy3)).2)) rfl rfl rfl ?_; clear hf fa; rintro fa _ w8 ⟨rfl, he6⟩ hf
                  replace hkb1 := blk_ext hkb1 he6
                  replace hb := hb.trans (Below.mono he6 hb.size)
                  refine sqv hf (r_sadd rfl rfl (by have : ((⟨#[32]⟩) : ByteArray).size = 1 := rfl; have := sz_app t ⟨#[32]⟩; have := valS_len (hB.a _ (List.mem_of_getElem? hy3)).2; omega)) rfl rfl rfl ?_; clear hf fa; intro fa hf
                  refine sqv hf (r_assign rfl) rfl rfl rfl ?_; clear hf fa; intro fa hf
                  apply wpList_nil
                  (try simp only [Exit.then, Exit.inBlock, ↓reduceIte, Nat.reduceEqDiff])
                  refine hK19 _ _ ?_
                  refine wp_region_lit ?_
                  refine sqv hf (r_move rfl) rfl rfl rfl ?_; clear hf fa; intro fa hf
                  refine sqv hf (r_add (C := (((m : Nat) : Int) + (1 : Int))) rfl rfl (by rw [IntKind.wrap_i64]; omega)) rfl rfl rfl ?_; clear hf fa; intro fa hf
                  refine sqv hf (r_assign rfl) rfl rfl rfl ?_; clear hf fa; intro fa hf
                  apply wpList_nil
                  (try simp only [Exit.then, Exit.inBlock, ↓reduceIte, Nat.reduceEqDiff])
                  refine hKL2 _ _ _ (by omega) ⟨(m + 1), ((t ++ ⟨#[32]⟩) ++ (valS y3)), rfl, hf.sub ⟨rfl, rfl, rfl, rfl, rfl, rfl, (some_int (by first | rfl | omega)), trivial⟩, hb, hkb1, by omega, (by have h := line_v Hv hy3; rw [h]; simp only [bl_app, bl_dS, bl_strN _ (showL_lt _ (bl_lt _)), bl_strN _ (hexB_byte hB.d), List.append_assoc]; rfl)⟩
                · have hqt64_1b := hqt64_1
                  replace hqt64_1 := Bool.eq_false_iff.1 hqt64_1
                  try simp only [ne_eq, decide_eq_true_eq, Bool.and_eq_true, Bool.or_eq_true, Bool.not_eq_true', decide_eq_false_iff_not] at hqt64_1
                  refine wp_exit ?_
                  (try simp only [Exit.then, Exit.inBlock, ↓reduceIte, Nat.reduceEqDiff])
                  refine hK8 _ _ ?_
                  refine wp_region_lit ?_
                  refine sqv hf (r_move rfl) rfl rfl rfl ?_; clear hf fa; intro fa hf
                  refine sqv hf (r_add (C := (((i : Nat) : Int) + (1 : Int))) rfl rfl (by rw [IntKind.wrap_i64]; omega)) rfl rfl rfl ?_; clear hf fa; intro fa hf
                  refine sqv hf (r_assign rfl) rfl rfl rfl ?_; clear hf fa; intro fa hf
                  apply wpList_nil
                  (try simp only [Exit.then, Exit.inBlock, ↓reduceIte, Nat.reduceEqDiff])
                  have hcn := cnt_step (F := formS k) (i := i) 110 (by omega)
                  have hcs := cnt_step (F := formS k) (i := i) 115 (by omega)
                  refine hKL1 _ _ _ (by omega) ⟨(i + 1), n, s, t, rfl, hf.sub ⟨rfl, rfl, rfl, rfl, rfl, (some_int (by first | rfl | omega)), trivial⟩, hb, hkb1, by omega, (line_ve Hv (by omega)), (by split at hcn <;> split at hcs <;> omega), (by split at hcn <;> split at hcs <;> omega)⟩
            · have hqt58_1b := hqt58_1
              replace hqt58_1 := Bool.eq_false_iff.1 hqt58_1
              try simp only [ne_eq, decide_eq_true_eq, Bool.and_eq_true, Bool.or_eq_true, Bool.not_eq_true', decide_eq_false_iff_not] at hqt58_1
              refine wp_skip ?_
              (try simp only [Exit.then, Exit.inBlock, ↓reduceIte, Nat.reduceEqDiff])
              refine hK8 _ _ ?_
              refine wp_region_lit ?_
              refine sqv hf (r_move rfl) rfl rfl rfl ?_; clear hf fa; intro fa hf
              refine sqv hf (r_add (C := (((i : Nat) : Int) + (1 : Int))) rfl rfl (by rw [IntKind.wrap_i64]; omega)) rfl rfl rfl ?_; clear hf fa; intro fa hf
              refine sqv hf (r_assign rfl) rfl rfl rfl ?_; clear hf fa; intro fa hf
              apply wpList_nil
              (try simp only [Exit.then, Exit.inBlock, ↓reduceIte, Nat.reduceEqDiff])
              have hcn := cnt_step (F := formS k) (i := i) 110 (by omega)
              have hcs := cnt_step (F := formS k) (i := i) 115 (by omega)
              refine hKL1 _ _ _ (by omega) ⟨(i + 1), n, s, t, rfl, hf.sub ⟨rfl, rfl, rfl, rfl, rfl, (some_int (by first | rfl | omega)), trivial⟩, hb, hkb1, by omega, (line_o Hs (by omega) (by omega)), (by split at hcn <;> split at hcs <;> omega), (by split at hcn <;> split at hcs <;> omega)⟩
    · have hqt18_1b := hqt18_1
      replace hqt18_1 := Bool.eq_false_iff.1 hqt18_1
      try simp only [ne_eq, decide_eq_true_eq, Bool.and_eq_true, Bool.or_eq_true, Bool.not_eq_true', decide_eq_false_iff_not] at hqt18_1
      refine wp_exit ?_
      (try simp only [Exit.then, Exit.inBlock, ↓reduceIte, Nat.reduceEqDiff])
      refine hK4 _ _ ?_
      refine wp_seq_k (fun K20 hK20 => ?_)
      refine wp_region_lit ?_
      refine sqv hf (r_move rfl) rfl rfl rfl ?_; clear hf fa; intro fa hf
      refine sqv hf (r_assign rfl) rfl rfl rfl ?_; clear hf fa; intro fa hf
      apply wpList_nil
      (try simp only [Exit.then, Exit.inBlock, ↓reduceIte, Nat.reduceEqDiff])
      refine hK20 _ _ ?_
      refine wp_ret ?_
      (try simp only [Exit.then, Exit.inBlock])
      refine ret1 hf rfl rfl ?_
      refine ⟨?_, hb⟩; unfold lineS; rw [line_end Hs (by omega), strN_bl]
end Go.Proofs.Ytpalmpfkliepfaa

namespace Go.Proofs.Ytpalmpfkliepfaa
open Go.RowKit Ut
set_option linter.unusedVariables false
set_option linter.unusedSimpArgs false

def st0 : PSt := ⟨[], [], [], []⟩
def takeP (c : Nat) (p : ByteArray) (st : PSt) : PSt × Bool :=
  if c = 110 then (⟨st.N ++ [(numP (bl p)).1], st.S, st.A, st.D⟩, (numP (bl p)).2)
  else if c = 115 then (⟨st.N, st.S ++ [strN (readP (bl p)).1], st.A, st.D⟩, (readP (bl p)).2)
  else if c = 100 then (⟨st.N, st.S, st.A, (hexP (bl p)).1⟩, (hexP (bl p)).2)
  else (⟨st.N, st.S, st.A ++ [(rdV p).1], st.D⟩, (rdV p).2)
def parseP : Nat → List Nat → List Nat → PSt → Option PSt
  | 0, _, _, _ => none
  | _ + 1, [], _, st => some st
  | f + 1, c :: fs, r, st => match pieceP r with
    | none => if c = 97 then some st else none
    | some pm => if (takeP c (strN pm.1) st).2 = true then parseP f (if c = 97 then c :: fs else fs) pm.2 (takeP c (strN pm.1) st).1 else none
theorem parseP_nil (f : Nat) (r : List Nat) (st : PSt) : parseP (f + 1) [] r st = some st := rfl
theorem parseP_none {f c : Nat} {fs r : List Nat} {st : PSt} (h : pieceP r = none) : parseP (f + 1) (c :: fs) r st = if c = 97 then some st else none := by rw [parseP, h]
theorem parseP_some {f c : Nat} {fs r p m : List Nat} {st : PSt} (h : pieceP r = some (p, m)) : parseP (f + 1) (c :: fs) r st = if (takeP c (strN p) st).2 = true then parseP f (if c = 97 then c :: fs else fs) m (takeP c (strN p) st).1 else none := by rw [parseP, h]
def opP (l : ByteArray) : Option (Int × PSt) := match parseP (l.size + 1) (bl (formS (kindP (cA l 32)))) ((bl l).drop (posB l 32)) st0 with
  | none => none
  | some st => if rightP (kindP (cA l 32)) st = true ∧ lineS (kindP (cA l 32)) st = l then some (kindP (cA l 32), st) else none
/-- What comes back: kind and content, and whether there is one. -/
def opK (o : Option (Int × PSt)) : Int := match o with | none => 0 | some x => x.1
def opS (o : Option (Int × PSt)) : PSt := match o with | none => st0 | some x => x.2
/-- .. bounds on what is read. -/
structure OpB2 (m : Nat) (st : PSt) : Prop where
  n : ∀ x ∈ st.N, inI x
  s : ∀ x ∈ st.S, x.size ≤ 100000
  a : ∀ x ∈ st.A, RngV x
  d : ∀ x ∈ st.D, x < 256
  nl : st.N.length ≤ m
  sl : st.S.length ≤ m
  al : st.A.length ≤ m
  dl : st.D.length ≤ 100000
theorem OpB2.toB {m : Nat} {st : PSt} (h : OpB2 m st) (hm : m ≤ 100000) : OpB st := ⟨h.n, h.s, h.a, h.d, by have := h.nl; omega, by have := h.sl; omega, by have := h.al; omega, by have := h.dl; omega⟩
theorem OpB2.zero (m : Nat) : OpB2 m st0 := ⟨(by intro x h; cases h), (by intro x h; cases h), (by intro x h; cases h), (by intro x h; cases h), Nat.zero_le _, Nat.zero_le _, Nat.zero_le _, Nat.zero_le _⟩
theorem rdV_rng (s : ByteArray) : RngV (rdV s).1 := by
  unfold rdV
  cases rdB s with
  | true => exact ⟨show 0 ≤ zMVal.1 ∧ zMVal.1 < 256 by decide, show 0 ≤ zMVal.2.1 ∧ zMVal.2.1 < 18446744073709551616 by decide⟩
  | false => exact rdY_rng s
theorem takeP_inv {m c : Nat} {p : ByteArray} {st : PSt} (h : OpB2 m st) (hp : p.size ≤ 30000) (ho : (takeP c p st).2 = true) : OpB2 (m + 1) (takeP c p st).1 := by
  obtain ⟨h1, h2, h3, h4, h5, h6, h7, h8⟩ := h
  unfold takeP at ho ⊢
  have snoc : ∀ {α : Type} {P : α → Prop} {l : List α} {y : α}, (∀ x ∈ l, P x) → P y → ∀ x ∈ l ++ [y], P x := by
    intro α P l y hl hy x hx
    rcases List.mem_append.1 hx with hx | hx
    · exact hl x hx
    · simp only [List.mem_singleton] at hx; subst hx; exact hy
  by_cases c1 : c = 110
  · rw [if_pos c1] at ho ⊢
    simp only at ho
    have hn : numP (bl p) = ((numP (bl p)).1, true) := by rw [← ho]
    exact ⟨snoc h1 (numP_yes hn).1, h2, h3, h4, by simp; omega, by simp only; omega, by simp only; omega, h8⟩
  · rw [if_neg c1] at ho ⊢
    by_cases c2 : c = 115
    · rw [if_pos c2] at ho ⊢
      have hl := readP_len (bl p) (bl_lt p)
      rw [bl_length] at hl
      exact ⟨h1, snoc h2 (by rw [strN_size]; omega), h3, h4, by simp only; omega, by simp; omega, by simp only; omega, h8⟩
    · rw [if_neg c2] at ho ⊢
      by_cases c3 : c = 100
      · rw [if_pos c3] at ho ⊢
        simp only at ho
        obtain ⟨e1, e2⟩ := hexP_yes ho
        have e3 := congrArg List.length e1
        rw [bl_length] at e3
        have e4 : (hexP (bl p)).1.length ≤ (hexB (hexP (bl p)).1).length + 1 := by
          unfold hexB
          split
          · rename_i e; rw [e]; simp
          · rw [hxs_len]; omega
        exact ⟨h1, h2, h3, e2, by simp only; omega, by simp only; omega, by simp only; omega, by simp only; omega⟩
      · rw [if_neg c3] at ho ⊢
        exact ⟨h1, h2, snoc h3 (rdV_rng p), h4, by simp only; omega, by simp only; omega, by simp; omega, h8⟩
/-- The form's letters: values stand last. -/
def lok : List Nat → Bool
  | [] => true
  | c :: f => (decide (c = 110) || decide (c = 115) || decide (c = 100) || (decide (c = 97) && f.isEmpty)) && lok f
theorem lok_form (k : Int) : lok (bl (formS k)) = true := by
  rcases form_cases k with ⟨_, h1, h2⟩ | rfl | rfl | rfl | rfl | rfl | rfl | rfl | rfl | rfl
  · rw [h2]; rfl
  all_goals decide
theorem lok_cons {c : Nat} {f : List Nat} (h : lok (c :: f) = true) : (c = 110 ∨ c = 115 ∨ c = 100 ∨ (c = 97 ∧ f = [])) ∧ lok f = true := by
  unfold lok at h
  simp only [Bool.and_eq_true, Bool.or_eq_true, decide_eq_true_eq, List.isEmpty_iff] at h
  refine ⟨?_, h.2⟩
  rcases h.1 with ((h | h) | h) | h
  · exact .inl h
  · exact .inr (.inl h)
  · exact .inr (.inr (.inl h))
  · exact .inr (.inr (.inr h))
/-- Pieces that are closed. -/
theorem digB_closed (n : Int) : Closed false (digB n) := closed_plain _ (by
  intro c hc
  unfold digB at hc
  split at hc
  · rcases List.mem_cons.1 hc with rfl | hc
    · omega
    · have := natB_dig _ c hc; omega
  · have := natB_dig _ c hc; omega)
theorem showL_closed (l : List Nat) (h : ∀ x ∈ l, x < 256) : Closed false (showL l) := by
  unfold showL
  refine closed_quote _ ?_
  intro c hc
  obtain ⟨b, hb, hc⟩ := List.mem_flatMap.1 hc
  have h1 := h b hb
  unfold sh at hc
  split at hc
  · simp only [List.mem_singleton] at hc; omega
  · simp only [List.mem_cons, List.not_mem_nil, or_false] at hc
    have hd : ∀ n, digN n ≠ 34 := by intro n; unfold digN; split <;> omega
    rcases hc with rfl | rfl | rfl
    · omega
    · exact hd _
    · exact hd _
theorem hexB_closed (l : List Nat) (h : ∀ x ∈ l, x < 256) : Closed false (hexB l) := closed_plain _ (by
  intro c hc
  unfold hexB at hc
  split at hc
  · simp only [List.mem_singleton] at hc; omega
  · unfold hxs at hc
    obtain ⟨b, hb, hc⟩ := List.mem_flatMap.1 hc
    have h1 := h b hb
    have h2 := hx_lt (n := b / 16) (by omega)
    have h3 := hx_lt (n := b % 16) (by omega)
    simp only [List.mem_cons, List.not_mem_nil, or_false] at hc
    omega)
theorem valS_closed {v : MVal} (h : RightV v) : Closed false (bl (valS v)) := closed_plain _ (by
  intro c hc
  rw [valS_bl (right_T h)] at hc
  rcases List.mem_append.1 hc with hc | hc
  · unfold headV at hc
    split at hc <;> simp at hc <;> omega
  · rcases List.mem_cons.1 hc with rfl | hc
    · omega
    · unfold digB at hc
      split at hc
      · rcases List.mem_cons.1 hc with rfl | hc
        · omega
        · have := natB_dig _ c hc; omega
      · have := natB_dig _ c hc; omega)
theorem take_val {v : MVal} (h : RightV v) (st : PSt) : takeP 97 (strN (bl (valS v))) st = (⟨st.N, st.S, st.A ++ [v], st.D⟩, true) := by
  unfold takeP
  rw [if_neg (by decide), if_neg (by decide), if_neg (by decide), strN_bl, rdV_val h]
theorem parse_vals : ∀ (A : List MVal) (st : PSt) (fu : Nat), (∀ v ∈ A, RightV v) → A.length < fu → parseP fu [97] (joinB (A.map fun v => bl (valS v))) st = some ⟨st.N, st.S, st.A ++ A, st.D⟩
  | [], st, 0, _, h => by omega
  | [], st, fu + 1, _, _ => by
    rw [List.map_nil, parseP_none rfl, if_pos rfl, List.append_nil]
  | v :: A, st, 0, _, h => by omega
  | v :: A, st, fu + 1, hA, h => by
    have hv := hA v List.mem_cons_self
    rw [List.map_cons, parseP_some (pieceP_join (valS_closed hv)), take_val hv, if_pos rfl, if_pos rfl, parse_vals A _ fu (fun x hx => hA x (List.mem_cons_of_mem _ hx)) (by simp at h; omega)]
    simp
theorem parse_args (A : List MVal) (D : List Nat) (hA : ∀ v ∈ A, RightV v) (hD : ∀ x ∈ D, x < 256) : ∀ (f : List Nat) (N : List Int) (S : List ByteArray) (st : PSt) (fu : Nat), lok f = true → N.length = f.count 110 → S.length = f.count 115 → (∀ n ∈ N, inI n) → (argsP f N S A D).length < fu →
    parseP fu f (joinB (argsP f N S A D)) st = some ⟨st.N ++ N, st.S ++ S, if 97 ∈ f then st.A ++ A else st.A, if 100 ∈ f then D else st.D⟩
  | _, _, _, _, 0, _, _, _, _, h => by omega
  | [], N, S, st, fu + 1, _, hn, hs, _, _ => by
    have e1 : N = [] := List.length_eq_zero_iff.1 (by simpa using hn)
    have e2 : S = [] := List.length_eq_zero_iff.1 (by simpa using hs)
    rw [e1, e2, parseP_nil]; simp
  | c :: f, N, S, st, fu + 1, hl, hn, hs, hN, h => by
    obtain ⟨hc, hl2⟩ := lok_cons hl
    rw [List.count_cons] at hn hs
    rcases hc with rfl | rfl | rfl | ⟨rfl, rfl⟩
    · cases N with
      | nil => simp at hn
      | cons n N =>
        have e : argsP (110 :: f) (n :: N) S A D = digB n :: argsP f N S A D := by rw [argsP, if_pos rfl]; simp
        rw [e] at h ⊢
        rw [parseP_some (pieceP_join (digB_closed n))]
        have ht : takeP 110 (strN (digB n)) st = (⟨st.N ++ [n], st.S, st.A, st.D⟩, true) := by
          unfold takeP
          rw [if_pos rfl, bl_strN _ (digB_byte n), numP_dig (hN n List.mem_cons_self)]
        rw [ht, if_pos rfl, if_neg (by decide), parse_args A D hA hD f N S _ fu hl2 (by simpa using hn) (by simpa using hs) (fun x hx => hN x (List.mem_cons_of_mem _ hx)) (by simp at h; omega)]
        simp
    · cases S with
      | nil => simp at hs
      | cons s S =>
        have e : argsP (115 :: f) N (s :: S) A D = showL (bl s) :: argsP f N S A D := by rw [argsP, if_neg (by decide), if_pos rfl]; simp
        rw [e] at h ⊢
        rw [parseP_some (pieceP_join (showL_closed _ (bl_lt s)))]
        have ht : takeP 115 (strN (showL (bl s))) st = (⟨st.N, st.S ++ [s], st.A, st.D⟩, true) := by
          unfold takeP
          rw [if_neg (by decide), if_pos rfl, bl_strN _ (showL_lt _ (bl_lt s)), (read_show (bl s) (bl_lt s)).1, strN_bl]
        rw [ht, if_pos rfl, if_neg (by decide), parse_args A D hA hD f N S _ fu hl2 (by simpa using hn) (by simpa using hs) hN (by simp at h; omega)]
        simp
    · have e : argsP (100 :: f) N S A D = hexB D :: argsP f N S A D := by rw [argsP, if_neg (by decide), if_neg (by decide), if_pos rfl]
      rw [e] at h ⊢
      rw [parseP_some (pieceP_join (hexB_closed D hD))]
      have ht : takeP 100 (strN (hexB D)) st = (⟨st.N, st.S, st.A, D⟩, true) := by
        unfold takeP
        rw [if_neg (by decide), if_neg (by decide), if_pos rfl, bl_strN _ (hexB_byte hD), hexP_hexB D hD]
      rw [ht, if_pos rfl, if_neg (by decide), parse_args A D hA hD f N S _ fu hl2 (by simpa using hn) (by simpa using hs) hN (by simp at h; omega)]
      simp
    · have e1 : N = [] := List.length_eq_zero_iff.1 (by simpa using hn)
      have e2 : S = [] := List.length_eq_zero_iff.1 (by simpa using hs)
      have e : argsP [97] N S A D = A.map fun v => bl (valS v) := by
        rw [argsP, if_neg (by decide), if_neg (by decide), if_neg (by decide), if_pos rfl]
        simp [argsP]
      rw [e] at h ⊢
      rw [parse_vals A st (fu + 1) hA (by rw [List.length_map] at h; exact h), e1, e2]
      simp
theorem joinB_len (ps : List (List Nat)) : ps.length ≤ (joinB ps).length := by
  induction ps with
  | nil => simp [joinB]
  | cons p ps ih => simp only [joinB, List.length_cons, List.length_append]; omega
theorem idx_app {a b : List Nat} {x : Nat} (ha : x ∉ a) (hb : b = [] ∨ b.head? = some x) : (a ++ b).idxOf x = a.length := by
  induction a with
  | nil =>
    rcases hb with rfl | hb
    · rfl
    · cases b with
      | nil => cases hb
      | cons y b => simp only [List.head?_cons, Option.some.injEq] at hb; subst hb; simp
  | cons y a ih =>
    have h1 : y ≠ x := fun e => ha (by rw [e]; exact List.mem_cons_self)
    rw [List.cons_append, List.idxOf_cons, beq_false_of_ne h1, cond_false, ih (fun e => ha (List.mem_cons_of_mem _ e))]; rfl
theorem word_plain (k : Int) : ∀ c ∈ bl (wordS k), c ≠ 32 ∧ c ≠ 34 := by
  rcases form_cases k with ⟨_, h1, h2⟩ | rfl | rfl | rfl | rfl | rfl | rfl | rfl | rfl | rfl
  · rw [h1]; intro c hc; cases hc
  all_goals decide
theorem kind_word (k : Int) (h : 1 ≤ k ∧ k ≤ 9) : kindP (wordS k) = k := by
  rcases form_cases k with ⟨h0, _, _⟩ | rfl | rfl | rfl | rfl | rfl | rfl | rfl | rfl | rfl
  · omega
  all_goals decide
theorem kindR_some (s : ByteArray) : ∀ (f j : Nat), kindR s f j ≠ 0 → wordS (kindR s f j) = s ∧ (j : Int) ≤ kindR s f j ∧ kindR s f j < j + f
  | 0, j, h => absurd rfl h
  | f + 1, j, h => by
    rw [kindR] at h ⊢
    split
    · rename_i e; exact ⟨e, by omega, by omega⟩
    · rename_i e
      rw [if_neg e] at h
      obtain ⟨h1, h2, h3⟩ := kindR_some s f (j + 1) h
      exact ⟨h1, by omega, by omega⟩
theorem kind_some {s : ByteArray} (h : kindP s ≠ 0) : wordS (kindP s) = s ∧ 1 ≤ kindP s ∧ kindP s ≤ 9 := by
  obtain ⟨h1, h2, h3⟩ := kindR_some s 9 1 h
  exact ⟨h1, by unfold kindP; omega, by unfold kindP; omega⟩
/-- The line's word, and the rest. -/
theorem word_at {l : ByteArray} {k : Int} {r : List Nat} (h : bl l = bl (wordS k) ++ r) (hr : r = [] ∨ r.head? = some 32) : cA l 32 = wordS k ∧ (bl l).drop (posB l 32) = r ∧ posB l 32 = (wordS k).size := by
  have hp : posB l 32 = (wordS k).size := by
    unfold posB
    rw [h, idx_app (fun e => (word_plain k 32 e).1 rfl) hr, bl_length]
  refine ⟨?_, ?_, hp⟩
  · apply bl_inj
    unfold cA
    rw [bl_mid, hp, h, List.drop_zero, Nat.sub_zero, ← bl_length, List.take_left]
  · rw [hp, h, ← bl_length, List.drop_left]
theorem args_byte (A : List MVal) (D : List Nat) (hD : ∀ x ∈ D, x < 256) : ∀ (f : List Nat) (N : List Int) (S : List ByteArray), ∀ p ∈ argsP f N S A D, ∀ x ∈ p, x < 256
  | [], _, _, p, hp => by cases hp
  | c :: f, N, S, p, hp => by
    rw [argsP] at hp
    split at hp
    · rcases List.mem_append.1 hp with hp | hp
      · obtain ⟨n, _, rfl⟩ := List.mem_map.1 hp; exact digB_byte n
      · exact args_byte A D hD f _ _ p hp
    · split at hp
      · rcases List.mem_append.1 hp with hp | hp
        · obtain ⟨s, _, rfl⟩ := List.mem_map.1 hp; exact showL_lt _ (bl_lt s)
        · exact args_byte A D hD f _ _ p hp
      · split at hp
        · rcases List.mem_cons.1 hp with rfl | hp
          · exact hexB_byte hD
          · exact args_byte A D hD f _ _ p hp
        · split at hp
          · rcases List.mem_append.1 hp with hp | hp
            · obtain ⟨v, _, rfl⟩ := List.mem_map.1 hp; exact bl_lt _
            · exact args_byte A D hD f _ _ p hp
          · exact args_byte A D hD f _ _ p hp
theorem join_byte {ps : List (List Nat)} (h : ∀ p ∈ ps, ∀ x ∈ p, x < 256) : ∀ x ∈ joinB ps, x < 256 := by
  induction ps with
  | nil => intro x hx; cases hx
  | cons p ps ih =>
    intro x hx
    rw [joinB] at hx
    rcases List.mem_cons.1 hx with rfl | hx
    · decide
    · rcases List.mem_append.1 hx with hx | hx
      · exact h p List.mem_cons_self x hx
      · exact ih (fun q hq => h q (List.mem_cons_of_mem _ hq)) x hx
theorem bl_lineS {k : Int} {st : PSt} (hD : ∀ x ∈ st.D, x < 256) : bl (lineS k st) = lineL k st := by
  unfold lineS
  refine bl_strN _ ?_
  unfold lineL
  intro x hx
  rcases List.mem_append.1 hx with hx | hx
  · exact bl_lt _ x hx
  · exact join_byte (args_byte _ _ hD _ _ _) x hx
/-- The line of an operation that may be is read as it. -/
theorem opP_line {k : Int} {st : PSt} (hB : OpB st) (h : rightP k st = true) : opP (lineS k st) = some (k, st) := by
  obtain ⟨hH, hS, hA⟩ := right_split h
  have hbl := bl_lineS (k := k) hB.d
  have hk : 1 ≤ k ∧ k ≤ 9 := by
    rcases form_cases k with ⟨_, h1, _⟩ | h
    · exact absurd h1 hH.1
    · omega
  obtain ⟨w1, w2, w3⟩ := word_at (l := lineS k st) (k := k) (r := joinB (argsP (bl (formS k)) st.N st.S st.A st.D)) (by rw [hbl]; rfl) (joinB_head _)
  have hAR : ∀ v ∈ st.A, RightV v := fun v hv => ⟨hA v hv, hB.a v hv⟩
  have hpa := parse_args st.A st.D hAR hB.d (bl (formS k)) st.N st.S st0 ((lineS k st).size + 1) (lok_form k) hH.2.1 hH.2.2.1 hB.n (by
    have h1 := joinB_len (argsP (bl (formS k)) st.N st.S st.A st.D)
    have h2 := congrArg List.length hbl
    unfold lineL at h2
    rw [bl_length, List.length_append] at h2
    omega)
  have hst : (⟨st0.N ++ st.N, st0.S ++ st.S, if 97 ∈ bl (formS k) then st0.A ++ st.A else st0.A, if 100 ∈ bl (formS k) then st.D else st0.D⟩ : PSt) = st := by
    have hmem : ∀ c, posB (formS k) c < (formS k).size → c ∈ bl (formS k) := by
      intro c hc
      unfold posB at hc
      rw [← bl_length] at hc
      exact List.idxOf_lt_length_iff.1 hc
    obtain ⟨N, S, A, D⟩ := st
    simp only [st0, List.nil_append]
    congr 1
    · split
      · rfl
      · rename_i hn
        rcases Nat.eq_zero_or_pos A.length with e | e
        · exact (List.length_eq_zero_iff.1 e).symm
        · exact absurd (hmem 97 (hH.2.2.2.2.2.2 e)) hn
    · split
      · rfl
      · rename_i hn
        rcases Nat.eq_zero_or_pos D.length with e | e
        · exact (List.length_eq_zero_iff.1 e).symm
        · exact absurd (hmem 100 (hH.2.2.2.2.2.1 e)) hn
  unfold opP
  rw [w1, kind_word k hk, w2, hpa, hst]
  simp only [h, true_and, if_true]
/-- .. and what the document's reading comes to. -/
def takeR (c : Nat) (p : ByteArray) (st : PSt) : PSt × Bool :=
  if c = 110 then (⟨st.N ++ [(numP (bl p)).1], st.S, st.A, st.D⟩, (numP (bl p)).2)
  else if c = 115 then (⟨st.N, st.S ++ [strN (readP (bl p)).1], st.A, st.D⟩, (readP (bl p)).2)
  else if c = 100 then (⟨st.N, st.S, st.A, (hexR (bl p)).1⟩, (hexR (bl p)).2)
  else (st, false)
def opVals : List (List Nat) → PSt → Option PSt
  | [], st => some st
  | p :: ps, st => if (rdV (strN p)).2 = true then opVals ps ⟨st.N, st.S, st.A ++ [(rdV (strN p)).1], st.D⟩ else none
def parseR : List Nat → List (List Nat) → PSt → Option PSt
  | [], _, st => some st
  | c :: fs, ps, st => if c = 97 then (opVals ps st).bind (parseR fs (ps.drop 1))
    else if ps = [] then none
    else if (takeR c (strN (ps.headD [])) st).2 = true then parseR fs (ps.drop 1) (takeR c (strN (ps.headD [])) st).1 else none
def opR (l : ByteArray) : Option (Int × PSt) :=
  if kindP (strN ((pieces (bl l)).headD [])) = 0 then none else
  match parseR (bl (formS (kindP (strN ((pieces (bl l)).headD []))))) (pieces (bl l)).tail st0 with
  | none => none
  | some st => if rightP (kindP (strN ((pieces (bl l)).headD []))) st = true ∧ lineS (kindP (strN ((pieces (bl l)).headD []))) st = l then some (kindP (strN ((pieces (bl l)).headD [])), st) else none
theorem vals_eq : ∀ (ps : List (List Nat)) (r : List Nat) (st : PSt) (fu : Nat), CutsTo ps r → ps.length < fu → parseP fu [97] r st = opVals ps st
  | _, _, _, 0, _, h => by omega
  | [], r, st, fu + 1, hc, _ => by rw [parseP_none (cutsTo_none hc), if_pos rfl]; rfl
  | p :: ps, r, st, fu + 1, hc, h => by
    obtain ⟨m, h1, h2⟩ := cutsTo_pieceP hc
    rw [parseP_some h1, if_pos rfl, opVals]
    have ht : takeP 97 (strN p) st = (⟨st.N, st.S, st.A ++ [(rdV (strN p)).1], st.D⟩, (rdV (strN p)).2) := by
      unfold takeP; rw [if_neg (by decide), if_neg (by decide), if_neg (by decide)]
    rw [ht]
    simp only
    split
    · exact vals_eq ps m _ fu h2 (by simp at h; omega)
    · rfl
theorem take_eq {c : Nat} (p : ByteArray) (st : PSt) (h : c = 110 ∨ c = 115 ∨ c = 100) : (takeP c p st).2 = (takeR c p st).2 ∧ ((takeP c p st).2 = true → (takeP c p st).1 = (takeR c p st).1) := by
  unfold takeP takeR
  rcases h with rfl | rfl | rfl
  · simp
  · simp
  · rw [if_neg (by decide), if_neg (by decide), if_pos rfl, if_neg (by decide), if_neg (by decide), if_pos rfl]
    have h := hex_eq (bl p)
    exact ⟨h.1, fun h2 => by rw [h.2 h2]⟩
theorem parse_eq : ∀ (f : List Nat) (ps : List (List Nat)) (r : List Nat) (st : PSt) (fu : Nat), lok f = true → CutsTo ps r → ps.length < fu → parseP fu f r st = parseR f ps st
  | _, _, _, _, 0, _, _, h => by omega
  | [], ps, r, st, fu + 1, _, _, _ => rfl
  | c :: f, ps, r, st, fu + 1, hl, hc, h => by
    obtain ⟨hcc, hl2⟩ := lok_cons hl
    have hmain : c = 110 ∨ c = 115 ∨ c = 100 → parseP (fu + 1) (c :: f) r st = parseR (c :: f) ps st := by
      intro h3
      rw [parseR, if_neg (by omega)]
      cases ps with
      | nil => rw [parseP_none (cutsTo_none hc), if_neg (by omega), if_pos rfl]
      | cons p ps =>
        rw [if_neg (by simp)]
        obtain ⟨m, h1, h2⟩ := cutsTo_pieceP hc
        rw [parseP_some h1, if_neg (show ¬ c = 97 by omega)]
        obtain ⟨e1, e2⟩ := take_eq (c := c) (strN p) st h3
        show _ = if (takeR c (strN p) st).2 = true then parseR f ps (takeR c (strN p) st).1 else none
        rw [← e1]
        cases hb : (takeP c (strN p) st).2 with
        | false => rfl
        | true =>
          rw [if_pos rfl, if_pos rfl, ← e2 hb]
          exact parse_eq f ps m _ fu hl2 h2 (by simp at h; omega)
    rcases hcc with h3 | h3 | h3 | ⟨rfl, rfl⟩
    · exact hmain (.inl h3)
    · exact hmain (.inr (.inl h3))
    · exact hmain (.inr (.inr h3))
    · rw [vals_eq ps r st (fu + 1) hc h, parseR, if_pos rfl]
      cases opVals ps st <;> rfl
theorem cuts_len : ∀ (ps : List (List Nat)) (r : List Nat), CutsTo ps r → ps.length ≤ r.length
  | [], r, _ => Nat.zero_le _
  | p :: ps, r, h => by
    obtain ⟨m, rfl, _, h3⟩ := h
    have := cuts_len ps m h3
    simp only [List.length_cons, List.length_append]; omega
theorem op_eq (l : ByteArray) : opR l = opP l := by
  obtain ⟨p, ps, h1, h2, h3⟩ := pieces_cuts (bl l)
  have happ := scanF_app false (bl l)
  have hsnd := scanF_snd false (bl l)
  have hhd : (pieces (bl l)).headD [] = p := by rw [h1]; rfl
  have htl : (pieces (bl l)).tail = ps := by rw [h1]; rfl
  have hpb : ∀ x ∈ p, x < 256 := by
    intro x hx
    refine bl_lt l x ?_
    rw [← happ, ← h2]
    exact List.mem_append_left _ hx
  unfold opR
  rw [hhd, htl]
  by_cases hk : kindP (strN p) = 0
  · rw [if_pos hk]
    have hk2 : kindP (cA l 32) = 0 := by
      refine Classical.byContradiction fun hn => ?_
      obtain ⟨e1, e2, e3⟩ := kind_some hn
      have hbl : bl l = bl (wordS (kindP (cA l 32))) ++ (bl l).drop (posB l 32) := by
        rw [e1]
        unfold cA
        rw [bl_mid, List.drop_zero, Nat.sub_zero, List.take_append_drop]
      have hr : (bl l).drop (posB l 32) = [] ∨ ((bl l).drop (posB l 32)).head? = some 32 := by
        unfold posB
        rcases Nat.lt_or_ge ((bl l).idxOf 32) (bl l).length with hlt | hge
        · right
          rw [List.head?_drop, List.getElem?_eq_getElem hlt]
          congr 1
          exact List.getElem_idxOf hlt
        · left; exact List.drop_eq_nil_of_le hge
      have hcl := closed_plain (bl (wordS (kindP (cA l 32)))) (word_plain _) _ hr
      rw [← hbl] at hcl
      have : p = bl (wordS (kindP (cA l 32))) := by rw [h2, hcl]
      rw [this, strN_bl, kind_word _ ⟨e2, e3⟩] at hk
      exact hn hk
    unfold opP
    rw [hk2]
    have hf : bl (formS 0) = [] := rfl
    rw [hf, parseP_nil]
    have : rightP 0 st0 = false := right_head (fun h => h.1 rfl)
    simp only [this, Bool.false_eq_true, false_and, if_false]
  · rw [if_neg hk]
    obtain ⟨e1, e2, e3⟩ := kind_some hk
    have hp : p = bl (wordS (kindP (strN p))) := by rw [e1, bl_strN _ hpb]
    obtain ⟨w1, w2, w3⟩ := word_at (l := l) (k := kindP (strN p)) (r := (scanF false (bl l)).2) (by rw [← hp, h2]; exact happ.symm) hsnd
    unfold opP
    rw [w1, e1]
    have hle : ps.length < l.size + 1 := by
      have h4 := cuts_len ps _ h3
      have h5 := scanF_len false (bl l)
      rw [bl_length] at h5
      omega
    rw [w2, parse_eq _ ps _ st0 (l.size + 1) (lok_form _) h3 hle]
end Go.Proofs.Ytpalmpfkliepfaa
