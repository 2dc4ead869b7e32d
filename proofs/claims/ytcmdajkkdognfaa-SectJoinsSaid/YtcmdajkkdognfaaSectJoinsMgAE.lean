/- What is proved here: the law SectJoins is true. -/
import Derived.Test.YtcmdajkkdognfaaSectJoinsMgAD
import Derived.Test.YtcmdajkkdognfaaSectJoinsMgAC
namespace Go.Proofs.Ytcmdajkkdognfaa
open Go.RowKit
set_option linter.unusedVariables false
set_option linter.unusedSimpArgs false
def FoundI (id : Int) (nm : ByteArray) (l : List MSec) (k : Nat) (found : Int) : Prop :=
  (found = -1 ∧ l.find? (hitS id nm) = (l.drop k).find? (hitS id nm)) ∨ (∃ (j : Nat) (x : MSec), found = ((j : Nat) : Int) ∧ j < k ∧ l[j]? = some x ∧ l.find? (hitS id nm) = some x)
theorem found_hit {id found : Int} {nm : ByteArray} {l : List MSec} {k : Nat} {y : MSec} (h : FoundI id nm l k found) (hf : found < 0) (hy : l[k]? = some y) (hh : hitS id nm y = true) : FoundI id nm l (k + 1) ((k : Nat) : Int) := by
  rcases h with ⟨_, h⟩ | ⟨j, x, h, _⟩
  · exact .inr ⟨k, y, rfl, Nat.lt_succ_self k, hy, by rw [h]; exact find_dropT hy hh⟩
  · omega
theorem found_miss {id found : Int} {nm : ByteArray} {l : List MSec} {k : Nat} {y : MSec} (h : FoundI id nm l k found) (hy : l[k]? = some y) (hh : ¬ (found < 0 ∧ hitS id nm y = true)) : FoundI id nm l (k + 1) found := by
  rcases h with ⟨h0, h⟩ | ⟨j, x, h, h1, h2, h3⟩
  · refine .inl ⟨h0, ?_⟩
    rw [h]
    exact find_dropF hy (by cases hz : hitS id nm y with | false => rfl | true => exact absurd ⟨by omega, hz⟩ hh)
  · exact .inr ⟨j, x, h, by omega, h2, h3⟩
theorem hit_of {id : Int} {nm : ByteArray} {y : MSec} (h : y.1 = id ∧ (id ≠ 0 ∨ nm = y.2.1)) : hitS id nm y = true := by
  unfold hitS
  rw [decide_eq_true h.1]
  rcases h.2 with h2 | h2
  · rw [decide_eq_true h2]; rfl
  · rw [decide_eq_true h2.symm]; simp
theorem hit_to {id : Int} {nm : ByteArray} {y : MSec} (h : hitS id nm y = true) : y.1 = id ∧ (id ≠ 0 ∨ nm = y.2.1) := by
  unfold hitS at h
  rw [Bool.and_eq_true, Bool.or_eq_true, decide_eq_true_eq, decide_eq_true_eq, decide_eq_true_eq] at h
  exact ⟨h.1, h.2.imp (fun e => e) (fun e => e.symm)⟩
theorem map_snocS {l : List MSec} {k : Nat} {y : MSec} (hy : l[k]? = some y) : (l.take k).map secRef ++ [secRef y] = (l.take (k + 1)).map secRef := by
  rw [List.take_add_one, hy, List.map_append]; rfl
theorem rise_acc {R rise : Bool} {l : List MSec} {k : Nat} {y : MSec} {last : Int} (hy : l[k]? = some y) (hR : R = (rise && riseR last (l.drop k))) {r2 : Bool} {last2 : Int} (h2 : r2 = (rise && okS last y)) (h3 : last2 = nxS last y) : R = (r2 && riseR last2 (l.drop (k + 1))) := by
  rw [hR, drop_atS hy, riseR, h2, h3, Bool.and_assoc]
theorem prev_all {P : MSec → Prop} {l : List MSec} {k : Nat} {y : MSec} (h : ∀ x ∈ l.take k, P x) (hy : l[k]? = some y) (hp : P y) : ∀ x ∈ l.take (k + 1), P x := by
  intro x hx
  rw [List.take_add_one, hy] at hx
  rcases List.mem_append.1 hx with hx | hx
  · exact h x hx
  · have : x = y := by simpa using hx
    rw [this]; exact hp
def smS (x : MSec) : Prop := x.2.2.1.len ≤ 100 ∧ x.2.1.size ≤ 300

theorem rsjoinW (l : List MSec) (W : List MSr) (hW : l.map secRef = W) (a : Option Addr) (c : Nat) (w : World) (hl : RdS 4 vMSr w a W) (hc : W.length ≤ c) (hm : l.length ≤ 30) (hi : ∀ x ∈ l, 0 ≤ x.1 ∧ x.1 < 256) (hs1 : ∀ x ∈ l, x.2.1.size ≤ 1000) (hs2 : ∀ x ∈ l, x.2.2.1.len ≤ 1000) : Calls Try.prog 87 #[.slice a W.length c] w fun e w' => e = .returned (.string (strOfNums (joinL l))) ∧ Below w.heap.size w w' := by
  subst hW
  have h := rsjoin_any (l.map secRef) a c w hl hc (by rw [List.length_map]; exact hm) (fun x hx => by obtain ⟨y, hy, rfl⟩ := List.mem_map.1 hx; exact hi y hy) (fun x hx => by obtain ⟨y, hy, rfl⟩ := List.mem_map.1 hx; exact hs1 y hy) (fun x hx => by
    obtain ⟨y, hy, rfl⟩ := List.mem_map.1 hx
    show (strOfNums y.2.2.1.list).size ≤ 1000
    rw [strOfNums_size, Sl.list_length]
    exact hs2 y hy)
  rw [joinR_ref] at h
  exact h
theorem keyB_at {X l : List MSec} (h : X.map keyB = l.map keyB) {k : Nat} {x y : MSec} (hx : X[k]? = some x) (hy : l[k]? = some y) : x.1 = y.1 ∧ (y.1 = 0 → x.2.1 = y.2.1) ∧ x.2.2.1.list = y.2.2.1.list := by
  have h1 : (X.map keyB)[k]? = some (keyB x) := by rw [List.getElem?_map, hx]; rfl
  rw [h, List.getElem?_map, hy] at h1
  have h2 : keyB y = keyB x := Option.some.inj h1
  unfold keyB at h2
  have e1 : y.1 = x.1 := congrArg (fun p : Int × ByteArray × List Int => p.1) h2
  have e2 := congrArg (fun p : Int × ByteArray × List Int => p.2.1) h2
  have e3 : y.2.2.1.list = x.2.2.1.list := congrArg (fun p : Int × ByteArray × List Int => p.2.2) h2
  refine ⟨e1.symm, fun h0 => ?_, e3.symm⟩
  rw [if_pos h0, if_pos (by rw [← e1]; exact h0)] at e2
  exact e2.symm

set_option maxHeartbeats 1000000 in
set_option maxRecDepth 100000 in
theorem sectJoins_any (l : List MSec) (a : Option Addr) (c : Nat) (id : Int) (nm : ByteArray) (w : World) (hl : RdS 4 vMSec w a l) (hc : l.length ≤ c) (hcm : c ≤ maxLen) (hG : ∀ x ∈ l, SecG w x) (hX9 : ∀ x ∈ l, x.2.2.1.len ≤ 140737488351232 ∧ x.2.1.size ≤ maxLen) : Calls Try.prog 12 #[(.slice a l.length c), (.int .u8 id), (.string nm)] w fun e w' => e = .returned (.bool true) ∧ Below w.heap.size w w' := by
  refine sx_enter (L := [(0, (.slice a l.length c)), (1, (.int .u8 id)), (2, (.string nm))]) Try.func12 rfl rfl rfl rfl (fun fa hf => ?_)
  have hb : Below w.heap.size w w := Below.refl _ _
  refine wp_seq_k (fun K1 hK1 => ?_)
  refine wp_region_lit ?_
  refine sqv hf (r_assign rfl) rfl rfl rfl ?_; clear hf fa; intro fa hf
  apply wpList_nil
  (try simp only [Exit.then, Exit.inBlock, ↓reduceIte, Nat.reduceEqDiff])
  refine hK1 _ _ ?_
  refine wp_seq_k (fun K2 hK2 => ?_)
  refine wp_seq_k (fun K3 hK3 => ?_)
  refine wp_region_lit ?_
  refine sqdt hf (d_callB (vs := []) rfl Try.func81 (by kernel_rfl) (by kernel_rfl) (awake09_any _)) rfl rfl rfl ?_; clear hf fa; rintro fa _ w1 ⟨rfl, he1⟩ hf
  replace hb := hb.trans (Below.mono he1 hb.size)
  refine sqv hf (Runs.veq (v' := (.bool false)) (r_not rfl) rfl) rfl rfl rfl ?_; clear hf fa; intro fa hf
  apply wpList_nil
  (try simp only [Exit.then, Exit.inBlock, ↓reduceIte, Nat.reduceEqDiff])
  refine hK3 _ _ ?_
  refine wp_cond_false (hf.ev rfl) ?_
  refine wp_skip ?_
  (try simp only [Exit.then, Exit.inBlock, ↓reduceIte, Nat.reduceEqDiff])
  refine hK2 _ _ ?_
  refine wp_seq_k (fun K4 hK4 => ?_)
  refine wp_seq_k (fun K5 hK5 => ?_)
  refine wp_region_lit ?_
  refine sqv hf (r_move rfl) rfl rfl rfl ?_; clear hf fa; intro fa hf
  refine sqv hf (r_lensl rfl Try.underlying116) rfl rfl rfl ?_; clear hf fa; intro fa hf
  refine sqv hf (r_gt rfl rfl) rfl rfl rfl ?_; clear hf fa; intro fa hf
  apply wpList_nil
  (try simp only [Exit.then, Exit.inBlock, ↓reduceIte, Nat.reduceEqDiff])
  refine hK5 _ _ ?_
  refine wp_cond_split (t := (decide ((30 : Int) < ((l.length : Nat) : Int)))) (hf.ev rfl) (fun hqt23_1 => ?_) (fun hqt23_1 => ?_)
  · have hqt23_1b := hqt23_1
    try simp only [decide_eq_true_eq, Bool.and_eq_true, Bool.or_eq_true, Bool.not_eq_true', decide_eq_false_iff_not, ne_eq, Bool.not_eq_true] at hqt23_1
    refine wp_seq_k (fun K6 hK6 => ?_)
    refine wp_region_lit ?_
    refine sqv hf (r_assign rfl) rfl rfl rfl ?_; clear hf fa; intro fa hf
    apply wpList_nil
    (try simp only [Exit.then, Exit.inBlock, ↓reduceIte, Nat.reduceEqDiff])
    refine hK6 _ _ ?_
    refine wp_ret ?_
    (try simp only [Exit.then, Exit.inBlock])
    refine ret1 hf rfl rfl ?_
    exact ⟨rfl, hb⟩
  · have hqt23_1b := hqt23_1
    replace hqt23_1 := Bool.eq_false_iff.1 hqt23_1
    try simp only [ne_eq, decide_eq_true_eq, Bool.and_eq_true, Bool.or_eq_true, Bool.not_eq_true', decide_eq_false_iff_not] at hqt23_1
    refine wp_skip ?_
    (try simp only [Exit.then, Exit.inBlock, ↓reduceIte, Nat.reduceEqDiff])
    refine hK4 _ _ ?_
    refine wp_seq_k (fun K7 hK7 => ?_)
    refine wp_region_lit ?_
    refine sqv hf (r_assign rfl) rfl rfl rfl ?_; clear hf fa; intro fa hf
    apply wpList_nil
    (try simp only [Exit.then, Exit.inBlock, ↓reduceIte, Nat.reduceEqDiff])
    refine hK7 _ _ ?_
    refine wp_seq_k (fun K8 hK8 => ?_)
    refine wp_region_lit ?_
    refine sqv hf (r_assign rfl) rfl rfl rfl ?_; clear hf fa; intro fa hf
    refine sqv hf (r_assign rfl) rfl rfl rfl ?_; clear hf fa; intro fa hf
    refine sqv hf (r_assign rfl) rfl rfl rfl ?_; clear hf fa; intro fa hf
    apply wpList_nil
    (try simp only [Exit.then, Exit.inBlock, ↓reduceIte, Nat.reduceEqDiff])
    refine hK8 _ _ ?_
    refine wp_seq_k (fun K9 hK9 => ?_)
    refine wp_seq_k (fun K10 hK10 => ?_)
    refine wp_region_lit ?_
    refine sqv hf (r_assign rfl) rfl rfl rfl ?_; clear hf fa; intro fa hf
    apply wpList_nil
    (try simp only [Exit.then, Exit.inBlock, ↓reduceIte, Nat.reduceEqDiff])
    refine hK10 _ _ ?_
    refine wp_block ?_
    refine wp_loop_k (fun mq fa wr => ∃ (k : Nat) (last : Int) (rise : Bool) (found : Int) (roa : Option Addr) (roc : Nat), mq = l.length - k ∧ Fr 256 fa [(0, (.slice a l.length c)), (1, (.int .u8 id)), (2, (.string nm)), (6, (.bool false)), (8, (.int .i64 last)), (9, (.bool rise)), (10, (.int .i64 found)), (11, (.int .i64 ((k : Nat) : Int))), (7, (.slice roa ((((l.take k).map secRef)).length) roc))] ∧ Below w.heap.size w wr ∧ Row 4 vMSr 121 (w.heap.size) wr (.slice roa ((((l.take k).map secRef)).length) roc) ((l.take k).map secRef) ∧ (k ≤ l.length) ∧ (∀ x ∈ l.take k, smS x) ∧ (riseR 0 l = (rise && riseR last (l.drop k))) ∧ (FoundI id nm l k found)) ?_ ?_
    · skip
      exact ⟨_, 0, 0, true, (-1), none, 0, rfl, hf.sub ⟨rfl, rfl, rfl, rfl, (some_int (by first | rfl | omega)), rfl, (some_int (by first | rfl | omega)), (some_int (by first | rfl | omega)), (some_sl (by first | omega | rfl | (simp only [List.length_append, List.length_cons, List.length_nil]; omega) | (simp <;> omega)) rfl), trivial⟩, hb, Row.nil, by omega, (fun x hx => by cases hx), rfl, (.inl ⟨rfl, rfl⟩)⟩
    · skip
      clear hf fa; intro mq1 fa w2 hI KL1 hKL1
      clear hb
      obtain ⟨k, last, rise, found, roa, roc, hmq1, hf, hb, hro, hk, hsm, hRs, hFnd⟩ := hI
      have hcro := Row.caps hro
      have hol : ((l.take k).map secRef).length = k := by rw [List.length_map, List.length_take]; omega
      refine wp_seq_k (fun K11 hK11 => ?_)
      refine wp_seq_k (fun K12 hK12 => ?_)
      refine wp_region_lit ?_
      refine sqv hf (r_move rfl) rfl rfl rfl ?_; clear hf fa; intro fa hf
      refine sqv hf (r_move rfl) rfl rfl rfl ?_; clear hf fa; intro fa hf
      refine sqv hf (r_lensl rfl Try.underlying116) rfl rfl rfl ?_; clear hf fa; intro fa hf
      refine sqv hf (r_lt rfl rfl) rfl rfl rfl ?_; clear hf fa; intro fa hf
      apply wpList_nil
      (try simp only [Exit.then, Exit.inBlock, ↓reduceIte, Nat.reduceEqDiff])
      refine hK12 _ _ ?_
      refine wp_cond_split (t := (decide (((k : Nat) : Int) < ((l.length : Nat) : Int)))) (hf.ev rfl) (fun hqt27_1 => ?_) (fun hqt27_1 => ?_)
      · have hqt27_1b := hqt27_1
        try simp only [decide_eq_true_eq, Bool.and_eq_true, Bool.or_eq_true, Bool.not_eq_true', decide_eq_false_iff_not, ne_eq, Bool.not_eq_true] at hqt27_1
        refine wp_skip ?_
        (try simp only [Exit.then, Exit.inBlock, ↓reduceIte, Nat.reduceEqDiff])
        refine hK11 _ _ ?_
        refine wp_seq_k (fun K13 hK13 => ?_)
        refine wp_block ?_
        refine wp_seq_k (fun K14 hK14 => ?_)
        refine wp_seq_k (fun K15 hK15 => ?_)
        obtain ⟨y, hy⟩ : ∃ y, l[k]? = some y := ⟨_, List.getElem?_eq_getElem (by omega)⟩
        have hym := List.mem_of_getElem? hy
        have hyrd := (hG y hym).rd
        have hyid := (hG y hym).id
        have hyc := (hG y hym).cap
        have hyl := Sl.list_length y.2.2.1
        have hyx := hX9 y hym
        refine wp_region_lit ?_
        refine sqv hf (r_move rfl) rfl rfl rfl ?_; clear hf fa; intro fa hf
        refine sqv hf (r_move rfl) rfl rfl rfl ?_; clear hf fa; intro fa hf
        have hy1 : (l)[k]? = some y := hy
        obtain ⟨ab1, aoff1, hat1, hlb1, hel1⟩ := RdS.at hl hy1
        refine sqv hf (r_ixa (sz := 4) (j := k) (evAt rfl hat1) rfl Try.underlying116 (by kernel_rfl) rfl (by omega) rfl) rfl rfl rfl ?_; clear hf fa; intro fa hf
        refine sqv hf (r_fa rfl Try.underlying119 (f := 2) (q := ((aoff1 + k * 4) + 2)) rfl (by kernel_rfl) rfl) rfl rfl rfl ?_; clear hf fa; intro fa hf
        refine sqv hf (r_load (v := (.slice y.2.2.1.at' y.2.2.1.len y.2.2.1.cap)) rfl Try.underlying47 rfl (cellsAt_cell (cellsAt_below hel1 hb hlb1) (i := 2) rfl rfl)) rfl rfl rfl ?_; clear hf fa; intro fa hf
        refine sqv hf (r_lensl rfl Try.underlying47) rfl rfl rfl ?_; clear hf fa; intro fa hf
        refine sqv hf (r_gt rfl rfl) rfl rfl rfl ?_; clear hf fa; intro fa hf
        refine sqv hf (r_move rfl) rfl rfl rfl ?_; clear hf fa; intro fa hf
        refine sqgF (act := (!(decide ((100 : Int) < ((y.2.2.1.len : Nat) : Int))))) (ag := true) (c := (decide ((100 : Int) < ((y.2.2.1.len : Nat) : Int)))) (v := (.slice a l.length c)) hf rfl rfl rfl (fun hact => (r_move rfl)) rfl rfl ?_; clear hf fa; intro fa hf
        refine sqgF (act := (!(decide ((100 : Int) < ((y.2.2.1.len : Nat) : Int))))) (ag := true) (c := (decide ((100 : Int) < ((y.2.2.1.len : Nat) : Int)))) (v := (.int .i64 ((k : Nat) : Int))) hf rfl rfl rfl (fun hact => (r_move rfl)) rfl rfl ?_; clear hf fa; intro fa hf
        refine sqgF (act := (!(decide ((100 : Int) < ((y.2.2.1.len : Nat) : Int))))) (ag := true) (c := (decide ((100 : Int) < ((y.2.2.1.len : Nat) : Int)))) (v := (.pointer (some ⟨ab1, (aoff1 + k * 4), none⟩))) hf rfl rfl rfl (fun hact => (by have hact0 := hact; (try simp only [Bool.and_eq_true, Bool.not_eq_true', Bool.or_eq_false_iff, Bool.or_eq_true, Bool.and_eq_false_iff, ne_eq, decide_eq_true_eq, decide_eq_false_iff_not] at hact0); exact (r_ixa (sz := 4) (j := k) (evAt (gb_ev hact rfl) hat1) (gb_ev hact rfl) Try.underlying116 (by kernel_rfl) rfl (by omega) rfl))) rfl rfl ?_; clear hf fa; intro fa hf
        refine sqgF (act := (!(decide ((100 : Int) < ((y.2.2.1.len : Nat) : Int))))) (ag := true) (c := (decide ((100 : Int) < ((y.2.2.1.len : Nat) : Int)))) (v := (.pointer (some ⟨ab1, ((aoff1 + k * 4) + 1), none⟩))) hf rfl rfl rfl (fun hact => (r_fa (gb_ev hact rfl) Try.underlying119 (f := 1) (q := ((aoff1 + k * 4) + 1)) rfl (by kernel_rfl) rfl)) rfl rfl ?_; clear hf fa; intro fa hf
        refine sqgF (act := (!(decide ((100 : Int) < ((y.2.2.1.len : Nat) : Int))))) (ag := true) (c := (decide ((100 : Int) < ((y.2.2.1.len : Nat) : Int)))) (v := (.string y.2.1)) hf rfl rfl rfl (fun hact => (r_load (v := (.string y.2.1)) (gb_ev hact rfl) Try.underlying9 rfl (cellsAt_cell (cellsAt_below hel1 hb hlb1) (i := 1) rfl rfl))) rfl rfl ?_; clear hf fa; intro fa hf
        refine sqgF (act := (!(decide ((100 : Int) < ((y.2.2.1.len : Nat) : Int))))) (ag := true) (c := (decide ((100 : Int) < ((y.2.2.1.len : Nat) : Int)))) (v := (.int .i64 ((y.2.1.size : Nat) : Int))) hf rfl rfl rfl (fun hact => (r_lens (gb_ev hact rfl) Try.underlying9)) rfl rfl ?_; clear hf fa; intro fa hf
        refine sqgF (act := (!(decide ((100 : Int) < ((y.2.2.1.len : Nat) : Int))))) (ag := true) (c := (decide ((100 : Int) < ((y.2.2.1.len : Nat) : Int)))) (v := (.bool (decide ((300 : Int) < ((y.2.1.size : Nat) : Int))))) hf rfl rfl rfl (fun hact => (r_gt (gb_ev hact rfl) rfl)) rfl rfl ?_; clear hf fa; intro fa hf
        refine sqv hf (r_pickO (b := (decide ((100 : Int) < ((y.2.2.1.len : Nat) : Int)))) (e := (decide ((300 : Int) < ((y.2.1.size : Nat) : Int)))) rfl rfl rfl) rfl rfl rfl ?_; clear hf fa; intro fa hf
        apply wpList_nil
        (try simp only [Exit.then, Exit.inBlock, ↓reduceIte, Nat.reduceEqDiff])
        refine hK15 _ _ ?_
        refine wp_cond_split (t := ((decide ((100 : Int) < ((y.2.2.1.len : Nat) : Int))) || (decide ((300 : Int) < ((y.2.1.size : Nat) : Int))))) (hf.ev rfl) (fun hqt45_1 => ?_) (fun hqt45_1 => ?_)
        · have hqt45_1b := hqt45_1
          try simp only [decide_eq_true_eq, Bool.and_eq_true, Bool.or_eq_true, Bool.not_eq_true', decide_eq_false_iff_not, ne_eq, Bool.not_eq_true] at hqt45_1
          refine wp_seq_k (fun K16 hK16 => ?_)
          refine wp_region_lit ?_
          refine sqv hf (r_assign rfl) rfl rfl rfl ?_; clear hf fa; intro fa hf
          apply wpList_nil
          (try simp only [Exit.then, Exit.inBlock, ↓reduceIte, Nat.reduceEqDiff])
          refine hK16 _ _ ?_
          refine wp_ret ?_
          (try simp only [Exit.then, Exit.inBlock])
          refine ret1 hf rfl rfl ?_
          exact ⟨rfl, hb⟩
        · have hqt45_1b := hqt45_1
          replace hqt45_1 := Bool.eq_false_iff.1 hqt45_1
          try simp only [ne_eq, decide_eq_true_eq, Bool.and_eq_true, Bool.or_eq_true, Bool.not_eq_true', decide_eq_false_iff_not] at hqt45_1
          refine wp_skip ?_
          (try simp only [Exit.then, Exit.inBlock, ↓reduceIte, Nat.reduceEqDiff])
          refine hK14 _ _ ?_
          refine wp_seq_k (fun K17 hK17 => ?_)
          have hsy : smS y := by have h := hqt45_1; exact ⟨by omega, by omega⟩
          have hs1 := hsy.1
          have hs2 := hsy.2
          have hsz1 := strOfNums_size y.2.2.1.list
          have hey : 2 ≤ (encS y).length := (encX_len y.1 y.2.1 y.2.2.1.list (by omega) (by omega)).1
          have hey2 : (encS y).length ≤ 21 + y.2.1.size + y.2.2.1.list.length := (encX_len y.1 y.2.1 y.2.2.1.list (by omega) (by omega)).2
          refine wp_region_unT 19 (fun wq => Below w2.heap.size w2 wq) (fun w w' => Below w.heap.size w w')
            (fun V => [(fun x _ => x = (.slice a l.length c)), (fun x _ => x = (.int .i64 ((k : Nat) : Int))), (fun x _ => x = (.pointer (some ⟨ab1, (aoff1 + k * 4), none⟩))), (fun x _ => x = (.pointer (some ⟨ab1, (aoff1 + k * 4), none⟩))), (fun x _ => x = (.int .u8 y.1)), (fun x _ => x = (.int .i64 y.1)), (fun x _ => x = (.slice a l.length c)), (fun x _ => x = (.int .i64 ((k : Nat) : Int))), (fun x _ => x = (.pointer (some ⟨ab1, (aoff1 + k * 4), none⟩))), (fun x _ => x = (.pointer (some ⟨ab1, ((aoff1 + k * 4) + 1), none⟩))), (fun x _ => x = (.string y.2.1)), (fun x _ => x = (.slice a l.length c)), (fun x _ => x = (.int .i64 ((k : Nat) : Int))), (fun x _ => x = (.pointer (some ⟨ab1, (aoff1 + k * 4), none⟩))), (fun x _ => x = (.pointer (some ⟨ab1, ((aoff1 + k * 4) + 2), none⟩))), (fun x _ => x = (.slice y.2.2.1.at' y.2.2.1.len y.2.2.1.cap)), (fun x _ => x = (.string (strOfNums y.2.2.1.list))), (fun x _ => x = (.agg #[(.int .i64 y.1), (.string y.2.1), (.string (strOfNums y.2.2.1.list)), (.int .i64 (0 : Int))])), (fun x wq => ∃ b, x = .pointer (some ⟨b, 0, none⟩) ∧ w2.heap.size ≤ b ∧ wq.heap[b]? = some (.cells #[(.int .i64 (0 : Int)), (.string ⟨#[]⟩), (.string ⟨#[]⟩), (.int .i64 (0 : Int))] 121 (0, 0)))])
            [18]
            [[], [], [0, 1], [2], [3], [4], [], [], [6, 7], [8], [9], [], [], [11, 12], [13], [14], [15], [5, 10, 16], [], []]
            hf (by kernel_rfl) (by kernel_rfl) (by kernel_rfl) (fun _ => rfl) ((Below.refl _ _).drew) (fun a b h1 h2 => h1.trans (h2.mono h1.size)) (fun _ _ h => h.size) (fun V => ⟨kept_eq, kept_eq, kept_eq, kept_eq, kept_eq, kept_eq, kept_eq, kept_eq, kept_eq, kept_eq, kept_eq, kept_eq, kept_eq, kept_eq, kept_eq, kept_eq, kept_eq, kept_eq, keptB, trivial⟩) (fun _ _ _ _ _ => rfl) ?_ ?_
          · skip
            intro V
            refine ⟨fun wu0 hC hd => ?_, ?_⟩
            · clear hd
              replace hb := hb.trans (hC.mono hb.size)
              replace hro := Row.ext hro hC
              exact Runs.does (r_move rfl) ⟨Below.refl _ _, rfl, nofr rfl⟩
            refine ⟨fun wu1 hC hd => ?_, ?_⟩
            · clear hd
              replace hb := hb.trans (hC.mono hb.size)
              replace hro := Row.ext hro hC
              exact Runs.does (r_move rfl) ⟨Below.refl _ _, rfl, nofr rfl⟩
            refine ⟨fun wu2 hC hd => ?_, ?_⟩
            · obtain ⟨h0, h1, _⟩ := hd
              replace h0 : V 0 = (.slice a l.length c) := h0
              replace h1 : V 1 = (.int .i64 ((k : Nat) : Int)) := h1
              replace hb := hb.trans (hC.mono hb.size)
              replace hro := Row.ext hro hC
              exact Runs.does (r_ixa (sz := 4) (j := k) (evAt (congrArg some h0) hat1) (congrArg some h1) Try.underlying116 (by kernel_rfl) rfl (by omega) rfl) ⟨Below.refl _ _, rfl, nofr rfl⟩
            refine ⟨fun wu3 hC hd => ?_, ?_⟩
            · obtain ⟨h2, _⟩ := hd
              replace h2 : V 2 = (.pointer (some ⟨ab1, (aoff1 + k * 4), none⟩)) := h2
              replace hb := hb.trans (hC.mono hb.size)
              replace hro := Row.ext hro hC
              exact Runs.does (r_fa (congrArg some h2) Try.underlying119 (f := 0) (q := (aoff1 + k * 4)) rfl (by kernel_rfl) rfl) ⟨Below.refl _ _, rfl, nofr rfl⟩
            refine ⟨fun wu4 hC hd => ?_, ?_⟩
            · obtain ⟨h3, _⟩ := hd
              replace h3 : V 3 = (.pointer (some ⟨ab1, (aoff1 + k * 4), none⟩)) := h3
              replace hb := hb.trans (hC.mono hb.size)
              replace hro := Row.ext hro hC
              exact Runs.does (r_load (v := (.int .u8 y.1)) (congrArg some h3) Try.underlying5 rfl (cellsAt_cell (cellsAt_below hel1 hb hlb1) (i := 0) rfl rfl)) ⟨Below.refl _ _, rfl, nofr rfl⟩
            refine ⟨fun wu5 hC hd => ?_, ?_⟩
            · obtain ⟨h4, _⟩ := hd
              replace h4 : V 4 = (.int .u8 y.1) := h4
              replace hb := hb.trans (hC.mono hb.size)
              replace hro := Row.ext hro hC
              exact Runs.does (r_conv (C := y.1) (congrArg some h4) Try.underlying5 Try.underlying3 (by rw [IntKind.wrap_i64]; omega)) ⟨Below.refl _ _, rfl, nofr rfl⟩
            refine ⟨fun wu6 hC hd => ?_, ?_⟩
            · clear hd
              replace hb := hb.trans (hC.mono hb.size)
              replace hro := Row.ext hro hC
              exact Runs.does (r_move rfl) ⟨Below.refl _ _, rfl, nofr rfl⟩
            refine ⟨fun wu7 hC hd => ?_, ?_⟩
            · clear hd
              replace hb := hb.trans (hC.mono hb.size)
              replace hro := Row.ext hro hC
              exact Runs.does (r_move rfl) ⟨Below.refl _ _, rfl, nofr rfl⟩
            refine ⟨fun wu8 hC hd => ?_, ?_⟩
            · obtain ⟨h6, h7, _⟩ := hd
              replace h6 : V 6 = (.slice a l.length c) := h6
              replace h7 : V 7 = (.int .i64 ((k : Nat) : Int)) := h7
              replace hb := hb.trans (hC.mono hb.size)
              replace hro := Row.ext hro hC
              exact Runs.does (r_ixa (sz := 4) (j := k) (evAt (congrArg some h6) hat1) (congrArg some h7) Try.underlying116 (by kernel_rfl) rfl (by omega) rfl) ⟨Below.refl _ _, rfl, nofr rfl⟩
            refine ⟨fun wu9 hC hd => ?_, ?_⟩
            · obtain ⟨h8, _⟩ := hd
              replace h8 : V 8 = (.pointer (some ⟨ab1, (aoff1 + k * 4), none⟩)) := h8
              replace hb := hb.trans (hC.mono hb.size)
              replace hro := Row.ext hro hC
              exact Runs.does (r_fa (congrArg some h8) Try.underlying119 (f := 1) (q := ((aoff1 + k * 4) + 1)) rfl (by kernel_rfl) rfl) ⟨Below.refl _ _, rfl, nofr rfl⟩
            refine ⟨fun wu10 hC hd => ?_, ?_⟩
            · obtain ⟨h9, _⟩ := hd
              replace h9 : V 9 = (.pointer (some ⟨ab1, ((aoff1 + k * 4) + 1), none⟩)) := h9
              replace hb := hb.trans (hC.mono hb.size)
              replace hro := Row.ext hro hC
              exact Runs.does (r_load (v := (.string y.2.1)) (congrArg some h9) Try.underlying9 rfl (cellsAt_cell (cellsAt_below hel1 hb hlb1) (i := 1) rfl rfl)) ⟨Below.refl _ _, rfl, nofr rfl⟩
            refine ⟨fun wu11 hC hd => ?_, ?_⟩
            · clear hd
              replace hb := hb.trans (hC.mono hb.size)
              replace hro := Row.ext hro hC
              exact Runs.does (r_move rfl) ⟨Below.refl _ _, rfl, nofr rfl⟩
            refine ⟨fun wu12 hC hd => ?_, ?_⟩
            · clear hd
              replace hb := hb.trans (hC.mono hb.size)
              replace hro := Row.ext hro hC
              exact Runs.does (r_move rfl) ⟨Below.refl _ _, rfl, nofr rfl⟩
            refine ⟨fun wu13 hC hd => ?_, ?_⟩
            · obtain ⟨h11, h12, _⟩ := hd
              replace h11 : V 11 = (.slice a l.length c) := h11
              replace h12 : V 12 = (.int .i64 ((k : Nat) : Int)) := h12
              replace hb := hb.trans (hC.mono hb.size)
              replace hro := Row.ext hro hC
              exact Runs.does (r_ixa (sz := 4) (j := k) (evAt (congrArg some h11) hat1) (congrArg some h12) Try.underlying116 (by kernel_rfl) rfl (by omega) rfl) ⟨Below.refl _ _, rfl, nofr rfl⟩
            refine ⟨fun wu14 hC hd => ?_, ?_⟩
            · obtain ⟨h13, _⟩ := hd
              replace h13 : V 13 = (.pointer (some ⟨ab1, (aoff1 + k * 4), none⟩)) := h13
              replace hb := hb.trans (hC.mono hb.size)
              replace hro := Row.ext hro hC
              exact Runs.does (r_fa (congrArg some h13) Try.underlying119 (f := 2) (q := ((aoff1 + k * 4) + 2)) rfl (by kernel_rfl) rfl) ⟨Below.refl _ _, rfl, nofr rfl⟩
            refine ⟨fun wu15 hC hd => ?_, ?_⟩
            · obtain ⟨h14, _⟩ := hd
              replace h14 : V 14 = (.pointer (some ⟨ab1, ((aoff1 + k * 4) + 2), none⟩)) := h14
              replace hb := hb.trans (hC.mono hb.size)
              replace hro := Row.ext hro hC
              exact Runs.does (r_load (v := (.slice y.2.2.1.at' y.2.2.1.len y.2.2.1.cap)) (congrArg some h14) Try.underlying47 rfl (cellsAt_cell (cellsAt_below hel1 hb hlb1) (i := 2) rfl rfl)) ⟨Below.refl _ _, rfl, nofr rfl⟩
            refine ⟨fun wu16 hC hd => ?_, ?_⟩
            · obtain ⟨h15, _⟩ := hd
              replace h15 : V 15 = (.slice y.2.2.1.at' y.2.2.1.len y.2.2.1.cap) := h15
              replace hb := hb.trans (hC.mono hb.size)
              replace hro := Row.ext hro hC
              exact Runs.does (r_rdstr2 (congrArg some h15) (by first | rfl | exact (Sl.list_length _).symm) Try.underlying47 Try.underlying5 Try.underlying9 (RdS.ext hyrd hb)) ⟨Below.refl _ _, rfl, nofr rfl⟩
            refine ⟨fun wu17 hC hd => ?_, ?_⟩
            · obtain ⟨h5, h10, h16, _⟩ := hd
              replace h5 : V 5 = (.int .i64 y.1) := h5
              replace h10 : V 10 = (.string y.2.1) := h10
              replace h16 : V 16 = (.string (strOfNums y.2.2.1.list)) := h16
              replace hb := hb.trans (hC.mono hb.size)
              replace hro := Row.ext hro hC
              exact Runs.does (r_build (vs := [(0, (.int .i64 y.1)), (1, (.string y.2.1)), (2, (.string (strOfNums y.2.2.1.list)))]) (cs := #[(.int .i64 y.1), (.string y.2.1), (.string (strOfNums y.2.2.1.list)), (.int .i64 (0 : Int))]) (show [(0, some (V 5)), (1, some (V 10)), (2, some (V 16))] = [(0, some (.int .i64 y.1)), (1, some (.string y.2.1)), (2, some (.string (strOfNums y.2.2.1.list)))] from by rw [h5, h10, h16]) (fun _ => by kernel_rfl)) ⟨Below.refl _ _, rfl, nofr rfl⟩
            refine ⟨fun wu18 hC hd => ?_, ?_⟩
            · clear hd
              replace hb := hb.trans (hC.mono hb.size)
              replace hro := Row.ext hro hC
              refine Does.mono (d_alloc (z := (.agg #[(.int .i64 (0 : Int)), (.string ⟨#[]⟩), (.string ⟨#[]⟩), (.int .i64 (0 : Int))])) (cs := #[(.int .i64 (0 : Int)), (.string ⟨#[]⟩), (.string ⟨#[]⟩), (.int .i64 (0 : Int))]) (by kernel_rfl) rfl) ?_
              rintro _ w' ⟨b, rfl, hF⟩
              exact ⟨hF.2.2, ⟨b, rfl, Nat.le_trans hC.size hF.1, hF.2.1⟩, isfr rfl hF.1 (blk_lt hF.2.1)⟩
            trivial
          · skip
            clear hf fa; intro V w3 fa he2 hp hnb hf
            have hv0 : V 0 = (.slice a l.length c) := postsHold_at hp 0 rfl
            have hv1 : V 1 = (.int .i64 ((k : Nat) : Int)) := postsHold_at hp 1 rfl
            have hv2 : V 2 = (.pointer (some ⟨ab1, (aoff1 + k * 4), none⟩)) := postsHold_at hp 2 rfl
            have hv3 : V 3 = (.pointer (some ⟨ab1, (aoff1 + k * 4), none⟩)) := postsHold_at hp 3 rfl
            have hv4 : V 4 = (.int .u8 y.1) := postsHold_at hp 4 rfl
            have hv5 : V 5 = (.int .i64 y.1) := postsHold_at hp 5 rfl
            have hv6 : V 6 = (.slice a l.length c) := postsHold_at hp 6 rfl
            have hv7 : V 7 = (.int .i64 ((k : Nat) : Int)) := postsHold_at hp 7 rfl
            have hv8 : V 8 = (.pointer (some ⟨ab1, (aoff1 + k * 4), none⟩)) := postsHold_at hp 8 rfl
            have hv9 : V 9 = (.pointer (some ⟨ab1, ((aoff1 + k * 4) + 1), none⟩)) := postsHold_at hp 9 rfl
            have hv10 : V 10 = (.string y.2.1) := postsHold_at hp 10 rfl
            have hv11 : V 11 = (.slice a l.length c) := postsHold_at hp 11 rfl
            have hv12 : V 12 = (.int .i64 ((k : Nat) : Int)) := postsHold_at hp 12 rfl
            have hv13 : V 13 = (.pointer (some ⟨ab1, (aoff1 + k * 4), none⟩)) := postsHold_at hp 13 rfl
            have hv14 : V 14 = (.pointer (some ⟨ab1, ((aoff1 + k * 4) + 2), none⟩)) := postsHold_at hp 14 rfl
            have hv15 : V 15 = (.slice y.2.2.1.at' y.2.2.1.len y.2.2.1.cap) := postsHold_at hp 15 rfl
            have hv16 : V 16 = (.string (strOfNums y.2.2.1.list)) := postsHold_at hp 16 rfl
            have hv17 : V 17 = (.agg #[(.int .i64 y.1), (.string y.2.1), (.string (strOfNums y.2.2.1.list)), (.int .i64 (0 : Int))]) := postsHold_at hp 17 rfl
            have hv18 := postsHold_at hp 18 rfl
            obtain ⟨b1, hv18, hle1, hk1⟩ := hv18
            have hBb1 : w.heap.size ≤ b1 := Nat.le_trans hb.size hle1
            simp only [List.take_succ_cons, List.take_zero, insAll, ins, hv0, hv1, hv2, hv3, hv4, hv5, hv6, hv7, hv8, hv9, hv10, hv11, hv12, hv13, hv14, hv15, hv16, hv17, hv18] at hf
            have hnr1 : (Value.slice roa (((((l.take k).map secRef)).length)) roc).ownBlock ≠ some b1 := fun hq => by have := (Row.lt hro _ hq).2; have := hle1; omega
            clear hp hnb hv0 hv1 hv2 hv3 hv4 hv5 hv6 hv7 hv8 hv9 hv10 hv11 hv12 hv13 hv14 hv15 hv16 hv17 hv18
            replace hro := Row.ext hro he2
            replace hb := hb.trans (Below.mono he2 hb.size)
            simp only [List.drop_succ_cons, List.drop_zero]
            refine sqn hf (d_storeK (T := 121) (v := (.agg #[(.int .i64 y.1), (.string y.2.1), (.string (strOfNums y.2.2.1.list)), (.int .i64 (0 : Int))])) (cs := #[(.int .i64 (0 : Int)), (.string ⟨#[]⟩), (.string ⟨#[]⟩), (.int .i64 (0 : Int))]) (cs' := #[(.int .i64 y.1), (.string y.2.1), (.string (strOfNums y.2.2.1.list)), (.int .i64 (0 : Int))]) rfl rfl (by kernel_rfl) (by kernel_rfl) hk1 (by kernel_rfl) (by kernel_rfl)) rfl rfl ?_; clear hf fa; rintro fa _ w4 ⟨hk2, hg1⟩ hf
            replace hro := Row.grown hro hg1 hnr1
            replace hb := hb.trans (grown_below hg1 hb.size hBb1)
            apply wpList_nil
            (try simp only [Exit.then, Exit.inBlock, ↓reduceIte, Nat.reduceEqDiff])
            refine hK17 _ _ ?_
            refine wp_seq_k (fun K18 hK18 => ?_)
            refine wp_seq_k (fun K19 hK19 => ?_)
            refine wp_region_un (fun wq => Below w4.heap.size w4 wq) (fun w w' => Below w.heap.size w w')
              (fun V => [(fun x _ => x = (.slice a l.length c)), (fun x _ => x = (.int .i64 ((k : Nat) : Int))), (fun x _ => x = (.pointer (some ⟨ab1, (aoff1 + k * 4), none⟩))), (fun x _ => x = (.agg #[(.int .u8 y.1), (.string y.2.1), (.slice y.2.2.1.at' y.2.2.1.len y.2.2.1.cap), (.int .i64 y.2.2.2.1)])), (fun x wq => ∃ b, (∃ c, x = .slice (some ⟨b, 0, none⟩) (((encS y)).length) c) ∧ w4.heap.size ≤ b ∧ Row 1 (vInt .u8) 5 w4.heap.size wq x (encS y)), (fun x _ => x = (.string (strOfNums (encS y)))), (fun x _ => x = (.agg #[(.int .i64 y.1), (.string y.2.1), (.string (strOfNums y.2.2.1.list)), (.int .i64 (0 : Int))])), (fun x _ => x = (.string (encR (secRef y)))), (fun x _ => x = (.bool false))])
              [4]
              [[], [], [0, 1], [2], [3], [4], [], [4, 6], [5, 7]]
              hf (by kernel_rfl) (by kernel_rfl) (fun _ => rfl) ((Below.refl _ _).drew) (fun a b h1 h2 => h1.trans (h2.mono h1.size)) (fun _ _ h => h.size) (fun V => ⟨kept_eq, kept_eq, kept_eq, kept_eq, keptX, kept_eq, kept_eq, kept_eq, kept_eq, trivial⟩) (fun _ _ _ _ _ => rfl) ?_ ?_
            · skip
              intro V
              refine ⟨fun wu0 hC hd => ?_, ?_⟩
              · clear hd
                replace hb := hb.trans (hC.mono hb.size)
                replace hk2 := blk_ext hk2 hC
                replace hro := Row.ext hro hC
                exact Runs.does (r_move rfl) ⟨Below.refl _ _, rfl, nofr rfl⟩
              refine ⟨fun wu1 hC hd => ?_, ?_⟩
              · clear hd
                replace hb := hb.trans (hC.mono hb.size)
                replace hk2 := blk_ext hk2 hC
                replace hro := Row.ext hro hC
                exact Runs.does (r_move rfl) ⟨Below.refl _ _, rfl, nofr rfl⟩
              refine ⟨fun wu2 hC hd => ?_, ?_⟩
              · obtain ⟨h0, h1, _⟩ := hd
                replace h0 : V 0 = (.slice a l.length c) := h0
                replace h1 : V 1 = (.int .i64 ((k : Nat) : Int)) := h1
                replace hb := hb.trans (hC.mono hb.size)
                replace hk2 := blk_ext hk2 hC
                replace hro := Row.ext hro hC
                exact Runs.does (r_ixa (sz := 4) (j := k) (evAt (congrArg some h0) hat1) (congrArg some h1) Try.underlying116 (by kernel_rfl) rfl (by omega) rfl) ⟨Below.refl _ _, rfl, nofr rfl⟩
              refine ⟨fun wu3 hC hd => ?_, ?_⟩
              · obtain ⟨h2, _⟩ := hd
                replace h2 : V 2 = (.pointer (some ⟨ab1, (aoff1 + k * 4), none⟩)) := h2
                replace hb := hb.trans (hC.mono hb.size)
                replace hk2 := blk_ext hk2 hC
                replace hro := Row.ext hro hC
                exact Runs.does (r_loadA (cs := [(.int .u8 y.1), (.string y.2.1), (.slice y.2.2.1.at' y.2.2.1.len y.2.2.1.cap), (.int .i64 y.2.2.2.1)]) (congrArg some h2) Try.underlying119 rfl (by kernel_rfl) (cellsAt_below hel1 hb hlb1)) ⟨Below.refl _ _, rfl, nofr rfl⟩
              refine ⟨fun wu4 hC hd => ?_, ?_⟩
              · obtain ⟨h3, _⟩ := hd
                replace h3 : V 3 = (.agg #[(.int .u8 y.1), (.string y.2.1), (.slice y.2.2.1.at' y.2.2.1.len y.2.2.1.cap), (.int .i64 y.2.2.2.1)]) := h3
                replace hb := hb.trans (hC.mono hb.size)
                replace hk2 := blk_ext hk2 hC
                replace hro := Row.ext hro hC
                refine Does.mono (d_callX (vs := [(.agg #[(.int .u8 y.1), (.string y.2.1), (.slice y.2.2.1.at' y.2.2.1.len y.2.2.1.cap), (.int .i64 y.2.2.2.1)])]) (show [some (V 3)] = [some (.agg #[(.int .u8 y.1), (.string y.2.1), (.slice y.2.2.1.at' y.2.2.1.len y.2.2.1.cap), (.int .i64 y.2.2.2.1)])] from by rw [h3]) Try.func82 (by kernel_rfl) (by kernel_rfl) (sput_any y _ ((hG y hym).ext hb) (by omega) (by omega))) ?_
                rintro _ w' ⟨hF2, hF3⟩
                obtain ⟨ra, rc, rfl, _, _⟩ := Row.slice hF2
                obtain ⟨b, rfl, hF, hF4⟩ := Row.some hF2 (by first | omega | (simp only [Sl.list_length, List.length_set, List.length_take, List.length_append, List.length_replicate, List.length_cons, List.length_nil, List.length_map, nums_len]; omega))
                exact ⟨hF3, ⟨b, ⟨rc, rfl⟩, Nat.le_trans hC.size hF, hF2.rebase hC.size⟩, isfr rfl hF (Row.lt hF2 _ rfl).2⟩
              refine ⟨fun wu5 hC hd => ?_, ?_⟩
              · obtain ⟨h4, _⟩ := hd
                obtain ⟨mb1, ⟨mc1, h4⟩, hle2, hr1⟩ := h4
                rw [h4] at hr1
                replace hb := hb.trans (hC.mono hb.size)
                replace hk2 := blk_ext hk2 hC
                replace hro := Row.ext hro hC
                exact Runs.does (r_rowstr (congrArg some h4) Try.underlying47 Try.underlying5 Try.underlying9 hr1) ⟨Below.refl _ _, rfl, nofr rfl⟩
              refine ⟨fun wu6 hC hd => ?_, ?_⟩
              · clear hd
                replace hb := hb.trans (hC.mono hb.size)
                replace hk2 := blk_ext hk2 hC
                replace hro := Row.ext hro hC
                exact Runs.does (r_loadA (cs := [(.int .i64 y.1), (.string y.2.1), (.string (strOfNums y.2.2.1.list)), (.int .i64 (0 : Int))]) rfl Try.underlying121 rfl (by kernel_rfl) (cellsAt_blk hk2)) ⟨Below.refl _ _, rfl, nofr rfl⟩
              refine ⟨fun wu7 hC hd => ?_, ?_⟩
              · obtain ⟨h4, h6, _⟩ := hd
                obtain ⟨mb1, ⟨mc1, h4⟩, hle2, hr1⟩ := h4
                rw [h4] at hr1
                replace h6 : V 6 = (.agg #[(.int .i64 y.1), (.string y.2.1), (.string (strOfNums y.2.2.1.list)), (.int .i64 (0 : Int))]) := h6
                replace hb := hb.trans (hC.mono hb.size)
                replace hk2 := blk_ext hk2 hC
                replace hro := Row.ext hro hC
                refine Does.mono (d_callB (vs := [(.agg #[(.int .i64 y.1), (.string y.2.1), (.string (strOfNums y.2.2.1.list)), (.int .i64 (0 : Int))])]) (show [some (V 6)] = [some (.agg #[(.int .i64 y.1), (.string y.2.1), (.string (strOfNums y.2.2.1.list)), (.int .i64 (0 : Int))])] from by rw [h6]) Try.func83 (by kernel_rfl) (by kernel_rfl) (rsput_any (secRef y) _ hyid (by show y.2.1.size ≤ 1000; omega) (by show (strOfNums y.2.2.1.list).size ≤ 1000; omega))) (fun _ _ h => ⟨h.2, h.1, nofr rfl⟩)
              refine ⟨fun wu8 hC hd => ?_, ?_⟩
              · obtain ⟨h5, h7, _⟩ := hd
                replace h5 : V 5 = (.string (strOfNums (encS y))) := h5
                replace h7 : V 7 = (.string (encR (secRef y))) := h7
                replace hb := hb.trans (hC.mono hb.size)
                replace hk2 := blk_ext hk2 hC
                replace hro := Row.ext hro hC
                exact Runs.does (Runs.veq (r_sne (congrArg some h5) (congrArg some h7)) (congrArg Value.bool (show _ = false from (by rw [encR_ref]; simp)))) ⟨Below.refl _ _, rfl, nofr rfl⟩
              trivial
            · skip
              clear hf fa; intro V w5 fa he3 hp hnb hf
              have hv0 : V 0 = (.slice a l.length c) := postsHold_at hp 0 rfl
              have hv1 : V 1 = (.int .i64 ((k : Nat) : Int)) := postsHold_at hp 1 rfl
              have hv2 : V 2 = (.pointer (some ⟨ab1, (aoff1 + k * 4), none⟩)) := postsHold_at hp 2 rfl
              have hv3 : V 3 = (.agg #[(.int .u8 y.1), (.string y.2.1), (.slice y.2.2.1.at' y.2.2.1.len y.2.2.1.cap), (.int .i64 y.2.2.2.1)]) := postsHold_at hp 3 rfl
              have hv4 := postsHold_at hp 4 rfl
              obtain ⟨mb1, ⟨mc1, hv4⟩, hle2, hr1⟩ := hv4
              rw [hv4] at hr1
              replace hr1 := Row.rebase hr1 hb.size
              have hcmc1 := Row.caps hr1
              have hBmb1 : w.heap.size ≤ mb1 := Nat.le_trans hb.size hle2
              have hv5 : V 5 = (.string (strOfNums (encS y))) := postsHold_at hp 5 rfl
              have hv6 : V 6 = (.agg #[(.int .i64 y.1), (.string y.2.1), (.string (strOfNums y.2.2.1.list)), (.int .i64 (0 : Int))]) := postsHold_at hp 6 rfl
              have hv7 : V 7 = (.string (encR (secRef y))) := postsHold_at hp 7 rfl
              have hv8 : V 8 = (.bool false) := postsHold_at hp 8 rfl
              simp only [List.take_succ_cons, List.take_zero, insAll, ins, hv0, hv1, hv2, hv3, hv4, hv5, hv6, hv7, hv8] at hf
              have : b1 < mb1 := Nat.lt_of_lt_of_le (blk_lt hk2) hle2
              clear hp hnb hv0 hv1 hv2 hv3 hv4 hv5 hv6 hv7 hv8
              replace hk2 := blk_ext hk2 he3
              replace hro := Row.ext hro he3
              replace hb := hb.trans (Below.mono he3 hb.size)
              (try simp only [Exit.then, Exit.inBlock, ↓reduceIte, Nat.reduceEqDiff])
              refine hK19 _ _ ?_
              refine wp_cond_false (hf.ev rfl) ?_
              refine wp_skip ?_
              (try simp only [Exit.then, Exit.inBlock, ↓reduceIte, Nat.reduceEqDiff])
              refine hK18 _ _ ?_
              refine wp_seq_k (fun K20 hK20 => ?_)
              refine wp_seq_k (fun K21 hK21 => ?_)
              refine wp_region_lit ?_
              refine sqv hf (r_move rfl) rfl rfl rfl ?_; clear hf fa; intro fa hf
              refine sqv hf (r_lt rfl rfl) rfl rfl rfl ?_; clear hf fa; intro fa hf
              refine sqv hf (r_move rfl) rfl rfl rfl ?_; clear hf fa; intro fa hf
              refine sqgT (act := (decide (found < (0 : Int)))) (ag := true) (c := (decide (found < (0 : Int)))) (v := (.slice a l.length c)) hf rfl rfl rfl (fun hact => (r_move rfl)) rfl rfl ?_; clear hf fa; intro fa hf
              refine sqgT (act := (decide (found < (0 : Int)))) (ag := true) (c := (decide (found < (0 : Int)))) (v := (.int .i64 ((k : Nat) : Int))) hf rfl rfl rfl (fun hact => (r_move rfl)) rfl rfl ?_; clear hf fa; intro fa hf
              refine sqgT (act := (decide (found < (0 : Int)))) (ag := true) (c := (decide (found < (0 : Int)))) (v := (.pointer (some ⟨ab1, (aoff1 + k * 4), none⟩))) hf rfl rfl rfl (fun hact => (by have hact0 := hact; (try simp only [Bool.and_eq_true, Bool.not_eq_true', Bool.or_eq_false_iff, Bool.or_eq_true, Bool.and_eq_false_iff, ne_eq, decide_eq_true_eq, decide_eq_false_iff_not] at hact0); exact (r_ixa (sz := 4) (j := k) (evAt (gb_ev hact rfl) hat1) (gb_ev hact rfl) Try.underlying116 (by kernel_rfl) rfl (by omega) rfl))) rfl rfl ?_; clear hf fa; intro fa hf
              refine sqgT (act := (decide (found < (0 : Int)))) (ag := true) (c := (decide (found < (0 : Int)))) (v := (.pointer (some ⟨ab1, (aoff1 + k * 4), none⟩))) hf rfl rfl rfl (fun hact => (r_fa (gb_ev hact rfl) Try.underlying119 (f := 0) (q := (aoff1 + k * 4)) rfl (by kernel_rfl) rfl)) rfl rfl ?_; clear hf fa; intro fa hf
              refine sqgT (act := (decide (found < (0 : Int)))) (ag := true) (c := (decide (found < (0 : Int)))) (v := (.int .u8 y.1)) hf rfl rfl rfl (fun hact => (r_load (v := (.int .u8 y.1)) (gb_ev hact rfl) Try.underlying5 rfl (cellsAt_cell (cellsAt_below hel1 hb hlb1) (i := 0) rfl rfl))) rfl rfl ?_; clear hf fa; intro fa hf
              refine sqgT (act := (decide (found < (0 : Int)))) (ag := true) (c := (decide (found < (0 : Int)))) (v := (.int .u8 id)) hf rfl rfl rfl (fun hact => (r_move rfl)) rfl rfl ?_; clear hf fa; intro fa hf
              refine sqgT (act := (decide (found < (0 : Int)))) (ag := true) (c := (decide (found < (0 : Int)))) (v := (.bool (decide (y.1 = id)))) hf rfl rfl rfl (fun hact => (r_eq (gb_ev hact rfl) (gb_ev hact rfl))) rfl rfl ?_; clear hf fa; intro fa hf
              refine sqv hf (r_pickA (b := (decide (found < (0 : Int)))) (e := (decide (y.1 = id))) rfl rfl rfl) rfl rfl rfl ?_; clear hf fa; intro fa hf
              refine sqv hf (r_move rfl) rfl rfl rfl ?_; clear hf fa; intro fa hf
              refine sqgT (act := ((decide (found < (0 : Int))) && (decide (y.1 = id)))) (ag := true) (c := ((decide (found < (0 : Int))) && (decide (y.1 = id)))) (v := (.int .u8 id)) hf rfl rfl rfl (fun hact => (r_move rfl)) rfl rfl ?_; clear hf fa; intro fa hf
              refine sqgT (act := ((decide (found < (0 : Int))) && (decide (y.1 = id)))) (ag := true) (c := ((decide (found < (0 : Int))) && (decide (y.1 = id)))) (v := (.bool (decide (id ≠ (0 : Int))))) hf rfl rfl rfl (fun hact => (r_ne (gb_ev hact rfl) rfl)) rfl rfl ?_; clear hf fa; intro fa hf
              refine sqgT (act := ((decide (found < (0 : Int))) && (decide (y.1 = id)))) (ag := true) (c := ((decide (found < (0 : Int))) && (decide (y.1 = id)))) (v := (.bool (decide (id ≠ (0 : Int))))) hf rfl rfl rfl (fun hact => (r_move (gb_ev hact rfl))) rfl rfl ?_; clear hf fa; intro fa hf
              refine sqgF (act := (((decide (found < (0 : Int))) && (decide (y.1 = id))) && !(decide (id ≠ (0 : Int))))) (ag := ((decide (found < (0 : Int))) && (decide (y.1 = id)))) (c := (decide (id ≠ (0 : Int)))) (v := (.string nm)) hf rfl rfl rfl (fun hact => (r_move rfl)) rfl rfl ?_; clear hf fa; intro fa hf
              refine sqgF (act := (((decide (found < (0 : Int))) && (decide (y.1 = id))) && !(decide (id ≠ (0 : Int))))) (ag := ((decide (found < (0 : Int))) && (decide (y.1 = id)))) (c := (decide (id ≠ (0 : Int)))) (v := (.pointer (some ⟨b1, 1, none⟩))) hf rfl rfl rfl (fun hact => (r_fa rfl Try.underlying121 (f := 1) (q := 1) rfl (by kernel_rfl) rfl)) rfl rfl ?_; clear hf fa; intro fa hf
              refine sqgF (act := (((decide (found < (0 : Int))) && (decide (y.1 = id))) && !(decide (id ≠ (0 : Int))))) (ag := ((decide (found < (0 : Int))) && (decide (y.1 = id)))) (c := (decide (id ≠ (0 : Int)))) (v := (.string y.2.1)) hf rfl rfl rfl (fun hact => (r_load (v := (.string y.2.1)) (gb_ev hact rfl) Try.underlying9 rfl (cell_blk hk2 rfl))) rfl rfl ?_; clear hf fa; intro fa hf
              refine sqgF (act := (((decide (found < (0 : Int))) && (decide (y.1 = id))) && !(decide (id ≠ (0 : Int))))) (ag := ((decide (found < (0 : Int))) && (decide (y.1 = id)))) (c := (decide (id ≠ (0 : Int)))) (v := (.bool (decide (nm = y.2.1)))) hf rfl rfl rfl (fun hact => (r_seq (gb_ev hact rfl) (gb_ev hact rfl))) rfl rfl ?_; clear hf fa; intro fa hf
              refine sqgT (act := ((decide (found < (0 : Int))) && (decide (y.1 = id)))) (ag := true) (c := ((decide (found < (0 : Int))) && (decide (y.1 = id)))) (v := (.bool ((decide (id ≠ (0 : Int))) || (decide (nm = y.2.1))))) hf rfl rfl rfl (fun hact => (r_pickO2 (q := ((decide (found < (0 : Int))) && (decide (y.1 = id)))) (b := (decide (id ≠ (0 : Int)))) (e := (decide (nm = y.2.1))) hact rfl rfl rfl)) rfl rfl ?_; clear hf fa; intro fa hf
              refine sqv hf (r_pickA (b := ((decide (found < (0 : Int))) && (decide (y.1 = id)))) (e := ((decide (id ≠ (0 : Int))) || (decide (nm = y.2.1)))) rfl rfl rfl) rfl rfl rfl ?_; clear hf fa; intro fa hf
              apply wpList_nil
              (try simp only [Exit.then, Exit.inBlock, ↓reduceIte, Nat.reduceEqDiff])
              refine hK21 _ _ ?_
              refine wp_cond_split (t := (((decide (found < (0 : Int))) && (decide (y.1 = id))) && ((decide (id ≠ (0 : Int))) || (decide (nm = y.2.1))))) (hf.ev rfl) (fun hqt93_1 => ?_) (fun hqt93_1 => ?_)
              · have hqt93_1b := hqt93_1
                try simp only [decide_eq_true_eq, Bool.and_eq_true, Bool.or_eq_true, Bool.not_eq_true', decide_eq_false_iff_not, ne_eq, Bool.not_eq_true] at hqt93_1
                refine wp_region_lit ?_
                refine sqv hf (r_move rfl) rfl rfl rfl ?_; clear hf fa; intro fa hf
                refine sqv hf (r_assign rfl) rfl rfl rfl ?_; clear hf fa; intro fa hf
                apply wpList_nil
                (try simp only [Exit.then, Exit.inBlock, ↓reduceIte, Nat.reduceEqDiff])
                refine hK20 _ _ ?_
                refine wp_seq_k (fun K22 hK22 => ?_)
                refine wp_seq_k (fun K23 hK23 => ?_)
                refine wp_region_lit ?_
                refine sqv hf (r_fa rfl Try.underlying121 (f := 0) (q := 0) rfl (by kernel_rfl) rfl) rfl rfl rfl ?_; clear hf fa; intro fa hf
                refine sqv hf (r_load (v := (.int .i64 y.1)) rfl Try.underlying3 rfl (cell_blk hk2 rfl)) rfl rfl rfl ?_; clear hf fa; intro fa hf
                refine sqv hf (r_ne rfl rfl) rfl rfl rfl ?_; clear hf fa; intro fa hf
                apply wpList_nil
                (try simp only [Exit.then, Exit.inBlock, ↓reduceIte, Nat.reduceEqDiff])
                refine hK23 _ _ ?_
                refine wp_cond_split (t := (decide (y.1 ≠ (0 : Int)))) (hf.ev rfl) (fun hqt97_1 => ?_) (fun hqt97_1 => ?_)
                · have hqt97_1b := hqt97_1
                  try simp only [decide_eq_true_eq, Bool.and_eq_true, Bool.or_eq_true, Bool.not_eq_true', decide_eq_false_iff_not, ne_eq, Bool.not_eq_true] at hqt97_1
                  refine wp_seq_k (fun K24 hK24 => ?_)
                  refine wp_region_lit ?_
                  refine sqv hf (r_move rfl) rfl rfl rfl ?_; clear hf fa; intro fa hf
                  refine sqv hf (r_move rfl) rfl rfl rfl ?_; clear hf fa; intro fa hf
                  refine sqgT (act := rise) (ag := true) (c := rise) (v := (.pointer (some ⟨b1, 0, none⟩))) hf rfl rfl rfl (fun hact => (r_fa rfl Try.underlying121 (f := 0) (q := 0) rfl (by kernel_rfl) rfl)) rfl rfl ?_; clear hf fa; intro fa hf
                  refine sqgT (act := rise) (ag := true) (c := rise) (v := (.int .i64 y.1)) hf rfl rfl rfl (fun hact => (r_load (v := (.int .i64 y.1)) (gb_ev hact rfl) Try.underlying3 rfl (cell_blk hk2 rfl))) rfl rfl ?_; clear hf fa; intro fa hf
                  refine sqgT (act := rise) (ag := true) (c := rise) (v := (.int .i64 last)) hf rfl rfl rfl (fun hact => (r_move rfl)) rfl rfl ?_; clear hf fa; intro fa hf
                  refine sqgT (act := rise) (ag := true) (c := rise) (v := (.bool (decide (last < y.1)))) hf rfl rfl rfl (fun hact => (r_gt (gb_ev hact rfl) (gb_ev hact rfl))) rfl rfl ?_; clear hf fa; intro fa hf
                  refine sqv hf (r_pickA (b := rise) (e := (decide (last < y.1))) rfl rfl rfl) rfl rfl rfl ?_; clear hf fa; intro fa hf
                  refine sqv hf (r_move rfl) rfl rfl rfl ?_; clear hf fa; intro fa hf
                  refine sqgT (act := (rise && (decide (last < y.1)))) (ag := true) (c := (rise && (decide (last < y.1)))) (v := (.pointer (some ⟨b1, 0, none⟩))) hf rfl rfl rfl (fun hact => (r_fa rfl Try.underlying121 (f := 0) (q := 0) rfl (by kernel_rfl) rfl)) rfl rfl ?_; clear hf fa; intro fa hf
                  refine sqgT (act := (rise && (decide (last < y.1)))) (ag := true) (c := (rise && (decide (last < y.1)))) (v := (.int .i64 y.1)) hf rfl rfl rfl (fun hact => (r_load (v := (.int .i64 y.1)) (gb_ev hact rfl) Try.underlying3 rfl (cell_blk hk2 rfl))) rfl rfl ?_; clear hf fa; intro fa hf
                  refine sqgT (act := (rise && (decide (last < y.1)))) (ag := true) (c := (rise && (decide (last < y.1)))) (v := (.bool (decide (y.1 ≤ (11 : Int))))) hf rfl rfl rfl (fun hact => (r_le (gb_ev hact rfl) rfl)) rfl rfl ?_; clear hf fa; intro fa hf
                  refine sqv hf (r_pickA (b := (rise && (decide (last < y.1)))) (e := (decide (y.1 ≤ (11 : Int)))) rfl rfl rfl) rfl rfl rfl ?_; clear hf fa; intro fa hf
                  refine sqv hf (r_assign rfl) rfl rfl rfl ?_; clear hf fa; intro fa hf
                  apply wpList_nil
                  (try simp only [Exit.then, Exit.inBlock, ↓reduceIte, Nat.reduceEqDiff])
                  refine hK24 _ _ ?_
                  refine wp_region_lit ?_
                  refine sqv hf (r_fa rfl Try.underlying121 (f := 0) (q := 0) rfl (by kernel_rfl) rfl) rfl rfl rfl ?_; clear hf fa; intro fa hf
                  refine sqv hf (r_load (v := (.int .i64 y.1)) rfl Try.underlying3 rfl (cell_blk hk2 rfl)) rfl rfl rfl ?_; clear hf fa; intro fa hf
                  refine sqv hf (r_assign rfl) rfl rfl rfl ?_; clear hf fa; intro fa hf
                  apply wpList_nil
                  (try simp only [Exit.then, Exit.inBlock, ↓reduceIte, Nat.reduceEqDiff])
                  refine hK22 _ _ ?_
                  refine wp_region_lit ?_
                  refine sqv hf (r_move rfl) rfl rfl rfl ?_; clear hf fa; intro fa hf
                  refine sqv hf (r_loadA (cs := [(.int .i64 y.1), (.string y.2.1), (.string (strOfNums y.2.2.1.list)), (.int .i64 (0 : Int))]) rfl Try.underlying121 rfl (by kernel_rfl) (cellsAt_blk hk2)) rfl rfl rfl ?_; clear hf fa; intro fa hf
                  refine sqdt hf (d_bslice (z := (.agg #[(.int .i64 (0 : Int)), (.string ⟨#[]⟩), (.string ⟨#[]⟩), (.int .i64 (0 : Int))])) (sz := 4) (vs := [(0, (.agg #[(.int .i64 y.1), (.string y.2.1), (.string (strOfNums y.2.2.1.list)), (.int .i64 (0 : Int))]))]) (cs := #[(.int .i64 y.1), (.string y.2.1), (.string (strOfNums y.2.2.1.list)), (.int .i64 (0 : Int))]) rfl Try.underlying117 (by kernel_rfl) rfl (by kernel_rfl)) rfl rfl rfl ?_; clear hf fa; rintro fa _ w6 ⟨b2, rfl, hle3, hk3, he4⟩ hf
                  have hBb2 : w.heap.size ≤ b2 := Nat.le_trans hb.size hle3
                  have : b1 < b2 := Nat.lt_of_lt_of_le (blk_lt hk2) hle3
                  have hnr2 : (Value.slice roa (((((l.take k).map secRef)).length)) roc).ownBlock ≠ some b2 := fun hq => by have := (Row.lt hro _ hq).2; omega
                  have hnl1 : ∀ q, (Value.slice roa (((((l.take k).map secRef)).length)) roc).ownBlock = some q → q < b2 := fun q hq => Nat.lt_of_lt_of_le (Row.lt hro q hq).2 hle3
                  have : mb1 < b2 := Nat.lt_of_lt_of_le (Row.lt hr1 _ rfl).2 hle3
                  replace hk2 := blk_ext hk2 he4
                  replace hro := Row.ext hro he4
                  replace hr1 := Row.ext hr1 he4
                  replace hb := hb.trans (Below.mono he4 hb.size)
                  have hs1 := Row.rd (by intros; rfl) (Row.of_new (k := 4) (V := vMSr) (l := [(secRef y)]) hk3 (Nat.le_refl _) rfl rfl (Nat.le_of_ble_eq_true rfl))
                  refine sqdt hf (d_append (V := vMSr) (k := 4) (e := 121) (bytes := 48) (z := (.agg #[(.int .i64 (0 : Int)), (.string ⟨#[]⟩), (.string ⟨#[]⟩), (.int .i64 (0 : Int))])) (news := [(secRef y)]) (base := w.heap.size) (by intros; rfl) (by exact oneMSr) rfl rfl Try.underlying117 (by kernel_rfl) rfl rfl rfl hro hs1 rfl (fun h => by cases h) (by first | omega | (simp only [List.length_cons, List.length_nil, List.length_append, nums_len]; omega)) (by have := hb.size; omega)) rfl rfl rfl ?_; clear hf fa; rintro fa v w7 ⟨hr2, hg2⟩ hf; obtain ⟨ra1, rc1, rfl, hcrc1, hmrc1⟩ := Row.slice hr2
                  replace hk2 := blk_row' hk2 hg2 hnr1
                  replace hr1 := Row.grown' hr1 hg2 (Row.ne_row hr1 hro rfl)
                  replace hb := hb.trans (row_below hro hg2 hb.size (by have := hb.size; omega))
                  refine sqv hf (r_assign rfl) rfl rfl rfl ?_; clear hf fa; intro fa hf
                  apply wpList_nil
                  (try simp only [Exit.then, Exit.inBlock, ↓reduceIte, Nat.reduceEqDiff])
                  refine hK13 _ _ ?_
                  refine wp_region_lit ?_
                  refine sqv hf (r_move rfl) rfl rfl rfl ?_; clear hf fa; intro fa hf
                  refine sqv hf (r_add (C := (((k : Nat) : Int) + (1 : Int))) rfl rfl (by rw [IntKind.wrap_i64]; omega)) rfl rfl rfl ?_; clear hf fa; intro fa hf
                  refine sqv hf (r_assign rfl) rfl rfl rfl ?_; clear hf fa; intro fa hf
                  apply wpList_nil
                  (try simp only [Exit.then, Exit.inBlock, ↓reduceIte, Nat.reduceEqDiff])
                  have hsn := map_snocS hy
                  refine hKL1 _ _ _ (by omega) ⟨(k + 1), y.1, ((rise && (decide (last < y.1))) && (decide (y.1 ≤ (11 : Int)))), ((k : Nat) : Int), ra1, rc1, rfl, hf.sub ⟨rfl, rfl, rfl, rfl, rfl, rfl, rfl, (some_int (by first | rfl | omega)), (some_sl (by first | omega | rfl | (simp only [List.length_append, List.length_cons, List.length_nil]; omega) | (simp <;> omega)) rfl), trivial⟩, hb, (rowToT hr2 hsn), by omega, (prev_all hsm hy hsy), (rise_acc hy hRs (by unfold okS; rw [if_neg hqt97_1]; by_cases q1 : last < y.1 <;> by_cases q2 : y.1 ≤ 11 <;> simp [q1, q2]) (by unfold nxS; rw [if_neg hqt97_1])), (found_hit hFnd (by have h := hqt93_1; exact h.1.1) hy (hit_of (by have h := hqt93_1; exact ⟨h.1.2, h.2⟩)))⟩
                · have hqt97_1b := hqt97_1
                  replace hqt97_1 := Bool.eq_false_iff.1 hqt97_1
                  try simp only [ne_eq, decide_eq_true_eq, Bool.and_eq_true, Bool.or_eq_true, Bool.not_eq_true', decide_eq_false_iff_not] at hqt97_1
                  refine wp_region_lit ?_
                  refine sqv hf (r_move rfl) rfl rfl rfl ?_; clear hf fa; intro fa hf
                  refine sqv hf (r_move rfl) rfl rfl rfl ?_; clear hf fa; intro fa hf
                  refine sqgT (act := rise) (ag := true) (c := rise) (v := (.pointer (some ⟨b1, 1, none⟩))) hf rfl rfl rfl (fun hact => (r_fa rfl Try.underlying121 (f := 1) (q := 1) rfl (by kernel_rfl) rfl)) rfl rfl ?_; clear hf fa; intro fa hf
                  refine sqgT (act := rise) (ag := true) (c := rise) (v := (.string y.2.1)) hf rfl rfl rfl (fun hact => (r_load (v := (.string y.2.1)) (gb_ev hact rfl) Try.underlying9 rfl (cell_blk hk2 rfl))) rfl rfl ?_; clear hf fa; intro fa hf
                  refine sqgT (act := rise) (ag := true) (c := rise) (v := (.int .i64 ((y.2.1.size : Nat) : Int))) hf rfl rfl rfl (fun hact => (r_lens (gb_ev hact rfl) Try.underlying9)) rfl rfl ?_; clear hf fa; intro fa hf
                  refine sqgT (act := rise) (ag := true) (c := rise) (v := (.bool (decide (((y.2.1.size : Nat) : Int) ≤ (200 : Int))))) hf rfl rfl rfl (fun hact => (r_le (gb_ev hact rfl) rfl)) rfl rfl ?_; clear hf fa; intro fa hf
                  refine sqv hf (r_pickA (b := rise) (e := (decide (((y.2.1.size : Nat) : Int) ≤ (200 : Int)))) rfl rfl rfl) rfl rfl rfl ?_; clear hf fa; intro fa hf
                  refine sqv hf (r_move rfl) rfl rfl rfl ?_; clear hf fa; intro fa hf
                  refine sqgT (act := (rise && (decide (((y.2.1.size : Nat) : Int) ≤ (200 : Int))))) (ag := true) (c := (rise && (decide (((y.2.1.size : Nat) : Int) ≤ (200 : Int))))) (v := (.pointer (some ⟨b1, 1, none⟩))) hf rfl rfl rfl (fun hact => (r_fa rfl Try.underlying121 (f := 1) (q := 1) rfl (by kernel_rfl) rfl)) rfl rfl ?_; clear hf fa; intro fa hf
                  refine sqgT (act := (rise && (decide (((y.2.1.size : Nat) : Int) ≤ (200 : Int))))) (ag := true) (c := (rise && (decide (((y.2.1.size : Nat) : Int) ≤ (200 : Int))))) (v := (.string y.2.1)) hf rfl rfl rfl (fun hact => (r_load (v := (.string y.2.1)) (gb_ev hact rfl) Try.underlying9 rfl (cell_blk hk2 rfl))) rfl rfl ?_; clear hf fa; intro fa hf
                  refine sqgd (R := fun vq wq => vq = gb (rise && (decide (((y.2.1.size : Nat) : Int) ≤ (200 : Int)))) (.int .i64 ((Ut.cnt (Ut.bl y.2.1)))) ∧ Below w5.heap.size w5 wq) (act := (rise && (decide (((y.2.1.size : Nat) : Int) ≤ (200 : Int))))) (g := 7) (want := true) (ag := true) (c := (rise && (decide (((y.2.1.size : Nat) : Int) ≤ (200 : Int))))) hf (by rfl) (by rfl) (act_T _ _) (fun hact => (d_callB (vs := [(.string y.2.1)]) (cons_ev (gb_ev hact rfl) rfl) Try.func84 (by kernel_rfl) (by kernel_rfl) (Ut.refCount_any y.2.1 _ (by omega))).mono (fun _ _ h => ⟨by rw [h.1, hact]; rfl, h.2⟩)) (fun h => ⟨by rw [h]; rfl, Below.refl _ _⟩) rfl ?_; clear hf fa; rintro fa _ w8 ⟨rfl, he5⟩ hf
                  replace hk2 := blk_ext hk2 he5
                  replace hro := Row.ext hro he5
                  replace hr1 := Row.ext hr1 he5
                  replace hb := hb.trans (Below.mono he5 hb.size)
                  change Fr _ _ ((122, (gb (rise && (decide (((y.2.1.size : Nat) : Int) ≤ (200 : Int)))) (.int .i64 ((Ut.cnt (Ut.bl y.2.1)))))) :: _) at hf
                  refine sqgT (act := (rise && (decide (((y.2.1.size : Nat) : Int) ≤ (200 : Int))))) (ag := true) (c := (rise && (decide (((y.2.1.size : Nat) : Int) ≤ (200 : Int))))) (v := (.bool (decide ((0 : Int) ≤ ((Ut.cnt (Ut.bl y.2.1))))))) hf rfl rfl rfl (fun hact => (r_ge (gb_ev hact rfl) rfl)) rfl rfl ?_; clear hf fa; intro fa hf
                  refine sqv hf (r_pickA (b := (rise && (decide (((y.2.1.size : Nat) : Int) ≤ (200 : Int))))) (e := (decide ((0 : Int) ≤ ((Ut.cnt (Ut.bl y.2.1)))))) rfl rfl rfl) rfl rfl rfl ?_; clear hf fa; intro fa hf
                  refine sqv hf (r_assign rfl) rfl rfl rfl ?_; clear hf fa; intro fa hf
                  apply wpList_nil
                  (try simp only [Exit.then, Exit.inBlock, ↓reduceIte, Nat.reduceEqDiff])
                  refine hK22 _ _ ?_
                  refine wp_region_lit ?_
                  refine sqv hf (r_move rfl) rfl rfl rfl ?_; clear hf fa; intro fa hf
                  refine sqv hf (r_loadA (cs := [(.int .i64 y.1), (.string y.2.1), (.string (strOfNums y.2.2.1.list)), (.int .i64 (0 : Int))]) rfl Try.underlying121 rfl (by kernel_rfl) (cellsAt_blk hk2)) rfl rfl rfl ?_; clear hf fa; intro fa hf
                  refine sqdt hf (d_bslice (z := (.agg #[(.int .i64 (0 : Int)), (.string ⟨#[]⟩), (.string ⟨#[]⟩), (.int .i64 (0 : Int))])) (sz := 4) (vs := [(0, (.agg #[(.int .i64 y.1), (.string y.2.1), (.string (strOfNums y.2.2.1.list)), (.int .i64 (0 : Int))]))]) (cs := #[(.int .i64 y.1), (.string y.2.1), (.string (strOfNums y.2.2.1.list)), (.int .i64 (0 : Int))]) rfl Try.underlying117 (by kernel_rfl) rfl (by kernel_rfl)) rfl rfl rfl ?_; clear hf fa; rintro fa _ w9 ⟨b3, rfl, hle4, hk4, he6⟩ hf
                  have hBb3 : w.heap.size ≤ b3 := Nat.le_trans hb.size hle4
                  have : b1 < b3 := Nat.lt_of_lt_of_le (blk_lt hk2) hle4
                  have hnr3 : (Value.slice roa (((((l.take k).map secRef)).length)) roc).ownBlock ≠ some b3 := fun hq => by have := (Row.lt hro _ hq).2; omega
                  have hnl2 : ∀ q, (Value.slice roa (((((l.take k).map secRef)).length)) roc).ownBlock = some q → q < b3 := fun q hq => Nat.lt_of_lt_of_le (Row.lt hro q hq).2 hle4
                  have : mb1 < b3 := Nat.lt_of_lt_of_le (Row.lt hr1 _ rfl).2 hle4
                  replace hk2 := blk_ext hk2 he6
                  replace hro := Row.ext hro he6
                  replace hr1 := Row.ext hr1 he6
                  replace hb := hb.trans (Below.mono he6 hb.size)
                  have hs2 := Row.rd (by intros; rfl) (Row.of_new (k := 4) (V := vMSr) (l := [(secRef y)]) hk4 (Nat.le_refl _) rfl rfl (Nat.le_of_ble_eq_true rfl))
                  refine sqdt hf (d_append (V := vMSr) (k := 4) (e := 121) (bytes := 48) (z := (.agg #[(.int .i64 (0 : Int)), (.string ⟨#[]⟩), (.string ⟨#[]⟩), (.int .i64 (0 : Int))])) (news := [(secRef y)]) (base := w.heap.size) (by intros; rfl) (by exact oneMSr) rfl rfl Try.underlying117 (by kernel_rfl) rfl rfl rfl hro hs2 rfl (fun h => by cases h) (by first | omega | (simp only [List.length_cons, List.length_nil, List.length_append, nums_len]; omega)) (by have := hb.size; omega)) rfl rfl rfl ?_; clear hf fa; rintro fa v w10 ⟨hr3, hg3⟩ hf; obtain ⟨ra2, rc2, rfl, hcrc2, hmrc2⟩ := Row.slice hr3
                  replace hk2 := blk_row' hk2 hg3 hnr1
                  replace hr1 := Row.grown' hr1 hg3 (Row.ne_row hr1 hro rfl)
                  replace hb := hb.trans (row_below hro hg3 hb.size (by have := hb.size; omega))
                  refine sqv hf (r_assign rfl) rfl rfl rfl ?_; clear hf fa; intro fa hf
                  apply wpList_nil
                  (try simp only [Exit.then, Exit.inBlock, ↓reduceIte, Nat.reduceEqDiff])
                  refine hK13 _ _ ?_
                  refine wp_region_lit ?_
                  refine sqv hf (r_move rfl) rfl rfl rfl ?_; clear hf fa; intro fa hf
                  refine sqv hf (r_add (C := (((k : Nat) : Int) + (1 : Int))) rfl rfl (by rw [IntKind.wrap_i64]; omega)) rfl rfl rfl ?_; clear hf fa; intro fa hf
                  refine sqv hf (r_assign rfl) rfl rfl rfl ?_; clear hf fa; intro fa hf
                  apply wpList_nil
                  (try simp only [Exit.then, Exit.inBlock, ↓reduceIte, Nat.reduceEqDiff])
                  have hsn := map_snocS hy
                  refine hKL1 _ _ _ (by omega) ⟨(k + 1), last, ((rise && (decide (((y.2.1.size : Nat) : Int) ≤ (200 : Int)))) && (decide ((0 : Int) ≤ ((Ut.cnt (Ut.bl y.2.1)))))), ((k : Nat) : Int), ra2, rc2, rfl, hf.sub ⟨rfl, rfl, rfl, rfl, rfl, rfl, rfl, (some_int (by first | rfl | omega)), (some_sl (by first | omega | rfl | (simp only [List.length_append, List.length_cons, List.length_nil]; omega) | (simp <;> omega)) rfl), trivial⟩, hb, (rowToT hr3 hsn), by omega, (prev_all hsm hy hsy), (rise_acc hy hRs (by unfold okS; rw [if_pos (Classical.not_not.1 hqt97_1)]; by_cases q1 : y.2.1.size ≤ 200 <;> by_cases q2 : 0 ≤ Ut.cnt (Ut.bl y.2.1) <;> simp [q1, q2] <;> omega) (by unfold nxS; rw [if_pos (Classical.not_not.1 hqt97_1)])), (found_hit hFnd (by have h := hqt93_1; exact h.1.1) hy (hit_of (by have h := hqt93_1; exact ⟨h.1.2, h.2⟩)))⟩
              · have hqt93_1b := hqt93_1
                replace hqt93_1 := Bool.eq_false_iff.1 hqt93_1
                try simp only [ne_eq, decide_eq_true_eq, Bool.and_eq_true, Bool.or_eq_true, Bool.not_eq_true', decide_eq_false_iff_not] at hqt93_1
                refine wp_skip ?_
                (try simp only [Exit.then, Exit.inBlock, ↓reduceIte, Nat.reduceEqDiff])
                refine hK20 _ _ ?_
                refine wp_seq_k (fun K25 hK25 => ?_)
                refine wp_seq_k (fun K26 hK26 => ?_)
                refine wp_region_lit ?_
                refine sqv hf (r_fa rfl Try.underlying121 (f := 0) (q := 0) rfl (by kernel_rfl) rfl) rfl rfl rfl ?_; clear hf fa; intro fa hf
                refine sqv hf (r_load (v := (.int .i64 y.1)) rfl Try.underlying3 rfl (cell_blk hk2 rfl)) rfl rfl rfl ?_; clear hf fa; intro fa hf
                refine sqv hf (r_ne rfl rfl) rfl rfl rfl ?_; clear hf fa; intro fa hf
                apply wpList_nil
                (try simp only [Exit.then, Exit.inBlock, ↓reduceIte, Nat.reduceEqDiff])
                refine hK26 _ _ ?_
                refine wp_cond_split (t := (decide (y.1 ≠ (0 : Int)))) (hf.ev rfl) (fun hqt97_2 => ?_) (fun hqt97_2 => ?_)
                · have hqt97_2b := hqt97_2
                  try simp only [decide_eq_true_eq, Bool.and_eq_true, Bool.or_eq_true, Bool.not_eq_true', decide_eq_false_iff_not, ne_eq, Bool.not_eq_true] at hqt97_2
                  refine wp_seq_k (fun K27 hK27 => ?_)
                  refine wp_region_lit ?_
                  refine sqv hf (r_move rfl) rfl rfl rfl ?_; clear hf fa; intro fa hf
                  refine sqv hf (r_move rfl) rfl rfl rfl ?_; clear hf fa; intro fa hf
                  refine sqgT (act := rise) (ag := true) (c := rise) (v := (.pointer (some ⟨b1, 0, none⟩))) hf rfl rfl rfl (fun hact => (r_fa rfl Try.underlying121 (f := 0) (q := 0) rfl (by kernel_rfl) rfl)) rfl rfl ?_; clear hf fa; intro fa hf
                  refine sqgT (act := rise) (ag := true) (c := rise) (v := (.int .i64 y.1)) hf rfl rfl rfl (fun hact => (r_load (v := (.int .i64 y.1)) (gb_ev hact rfl) Try.underlying3 rfl (cell_blk hk2 rfl))) rfl rfl ?_; clear hf fa; intro fa hf
                  refine sqgT (act := rise) (ag := true) (c := rise) (v := (.int .i64 last)) hf rfl rfl rfl (fun hact => (r_move rfl)) rfl rfl ?_; clear hf fa; intro fa hf
                  refine sqgT (act := rise) (ag := true) (c := rise) (v := (.bool (decide (last < y.1)))) hf rfl rfl rfl (fun hact => (r_gt (gb_ev hact rfl) (gb_ev hact rfl))) rfl rfl ?_; clear hf fa; intro fa hf
                  refine sqv hf (r_pickA (b := rise) (e := (decide (last < y.1))) rfl rfl rfl) rfl rfl rfl ?_; clear hf fa; intro fa hf
                  refine sqv hf (r_move rfl) rfl rfl rfl ?_; clear hf fa; intro fa hf
                  refine sqgT (act := (rise && (decide (last < y.1)))) (ag := true) (c := (rise && (decide (last < y.1)))) (v := (.pointer (some ⟨b1, 0, none⟩))) hf rfl rfl rfl (fun hact => (r_fa rfl Try.underlying121 (f := 0) (q := 0) rfl (by kernel_rfl) rfl)) rfl rfl ?_; clear hf fa; intro fa hf
                  refine sqgT (act := (rise && (decide (last < y.1)))) (ag := true) (c := (rise && (decide (last < y.1)))) (v := (.int .i64 y.1)) hf rfl rfl rfl (fun hact => (r_load (v := (.int .i64 y.1)) (gb_ev hact rfl) Try.underlying3 rfl (cell_blk hk2 rfl))) rfl rfl ?_; clear hf fa; intro fa hf
                  refine sqgT (act := (rise && (decide (last < y.1)))) (ag := true) (c := (rise && (decide (last < y.1)))) (v := (.bool (decide (y.1 ≤ (11 : Int))))) hf rfl rfl rfl (fun hact => (r_le (gb_ev hact rfl) rfl)) rfl rfl ?_; clear hf fa; intro fa hf
                  refine sqv hf (r_pickA (b := (rise && (decide (last < y.1)))) (e := (decide (y.1 ≤ (11 : Int)))) rfl rfl rfl) rfl rfl rfl ?_; clear hf fa; intro fa hf
                  refine sqv hf (r_assign rfl) rfl rfl rfl ?_; clear hf fa; intro fa hf
                  apply wpList_nil
                  (try simp only [Exit.then, Exit.inBlock, ↓reduceIte, Nat.reduceEqDiff])
                  refine hK27 _ _ ?_
                  refine wp_region_lit ?_
                  refine sqv hf (r_fa rfl Try.underlying121 (f := 0) (q := 0) rfl (by kernel_rfl) rfl) rfl rfl rfl ?_; clear hf fa; intro fa hf
                  refine sqv hf (r_load (v := (.int .i64 y.1)) rfl Try.underlying3 rfl (cell_blk hk2 rfl)) rfl rfl rfl ?_; clear hf fa; intro fa hf
                  refine sqv hf (r_assign rfl) rfl rfl rfl ?_; clear hf fa; intro fa hf
                  apply wpList_nil
                  (try simp only [Exit.then, Exit.inBlock, ↓reduceIte, Nat.reduceEqDiff])
                  refine hK25 _ _ ?_
                  refine wp_region_lit ?_
                  refine sqv hf (r_move rfl) rfl rfl rfl ?_; clear hf fa; intro fa hf
                  refine sqv hf (r_loadA (cs := [(.int .i64 y.1), (.string y.2.1), (.string (strOfNums y.2.2.1.list)), (.int .i64 (0 : Int))]) rfl Try.underlying121 rfl (by kernel_rfl) (cellsAt_blk hk2)) rfl rfl rfl ?_; clear hf fa; intro fa hf
                  refine sqdt hf (d_bslice (z := (.agg #[(.int .i64 (0 : Int)), (.string ⟨#[]⟩), (.string ⟨#[]⟩), (.int .i64 (0 : Int))])) (sz := 4) (vs := [(0, (.agg #[(.int .i64 y.1), (.string y.2.1), (.string (strOfNums y.2.2.1.list)), (.int .i64 (0 : Int))]))]) (cs := #[(.int .i64 y.1), (.string y.2.1), (.string (strOfNums y.2.2.1.list)), (.int .i64 (0 : Int))]) rfl Try.underlying117 (by kernel_rfl) rfl (by kernel_rfl)) rfl rfl rfl ?_; clear hf fa; rintro fa _ w11 ⟨b4, rfl, hle5, hk5, he7⟩ hf
                  have hBb4 : w.heap.size ≤ b4 := Nat.le_trans hb.size hle5
                  have : b1 < b4 := Nat.lt_of_lt_of_le (blk_lt hk2) hle5
                  have hnr4 : (Value.slice roa (((((l.take k).map secRef)).length)) roc).ownBlock ≠ some b4 := fun hq => by have := (Row.lt hro _ hq).2; omega
                  have hnl3 : ∀ q, (Value.slice roa (((((l.take k).map secRef)).length)) roc).ownBlock = some q → q < b4 := fun q hq => Nat.lt_of_lt_of_le (Row.lt hro q hq).2 hle5
                  have : mb1 < b4 := Nat.lt_of_lt_of_le (Row.lt hr1 _ rfl).2 hle5
                  replace hk2 := blk_ext hk2 he7
                  replace hro := Row.ext hro he7
                  replace hr1 := Row.ext hr1 he7
                  replace hb := hb.trans (Below.mono he7 hb.size)
                  have hs3 := Row.rd (by intros; rfl) (Row.of_new (k := 4) (V := vMSr) (l := [(secRef y)]) hk5 (Nat.le_refl _) rfl rfl (Nat.le_of_ble_eq_true rfl))
                  refine sqdt hf (d_append (V := vMSr) (k := 4) (e := 121) (bytes := 48) (z := (.agg #[(.int .i64 (0 : Int)), (.string ⟨#[]⟩), (.string ⟨#[]⟩), (.int .i64 (0 : Int))])) (news := [(secRef y)]) (base := w.heap.size) (by intros; rfl) (by exact oneMSr) rfl rfl Try.underlying117 (by kernel_rfl) rfl rfl rfl hro hs3 rfl (fun h => by cases h) (by first | omega | (simp only [List.length_cons, List.length_nil, List.length_append, nums_len]; omega)) (by have := hb.size; omega)) rfl rfl rfl ?_; clear hf fa; rintro fa v w12 ⟨hr4, hg4⟩ hf; obtain ⟨ra3, rc3, rfl, hcrc3, hmrc3⟩ := Row.slice hr4
                  replace hk2 := blk_row' hk2 hg4 hnr1
                  replace hr1 := Row.grown' hr1 hg4 (Row.ne_row hr1 hro rfl)
                  replace hb := hb.trans (row_below hro hg4 hb.size (by have := hb.size; omega))
                  refine sqv hf (r_assign rfl) rfl rfl rfl ?_; clear hf fa; intro fa hf
                  apply wpList_nil
                  (try simp only [Exit.then, Exit.inBlock, ↓reduceIte, Nat.reduceEqDiff])
                  refine hK13 _ _ ?_
                  refine wp_region_lit ?_
                  refine sqv hf (r_move rfl) rfl rfl rfl ?_; clear hf fa; intro fa hf
                  refine sqv hf (r_add (C := (((k : Nat) : Int) + (1 : Int))) rfl rfl (by rw [IntKind.wrap_i64]; omega)) rfl rfl rfl ?_; clear hf fa; intro fa hf
                  refine sqv hf (r_assign rfl) rfl rfl rfl ?_; clear hf fa; intro fa hf
                  apply wpList_nil
                  (try simp only [Exit.then, Exit.inBlock, ↓reduceIte, Nat.reduceEqDiff])
                  have hsn := map_snocS hy
                  refine hKL1 _ _ _ (by omega) ⟨(k + 1), y.1, ((rise && (decide (last < y.1))) && (decide (y.1 ≤ (11 : Int)))), found, ra3, rc3, rfl, hf.sub ⟨rfl, rfl, rfl, rfl, rfl, rfl, rfl, (some_int (by first | rfl | omega)), (some_sl (by first | omega | rfl | (simp only [List.length_append, List.length_cons, List.length_nil]; omega) | (simp <;> omega)) rfl), trivial⟩, hb, (rowToT hr4 hsn), by omega, (prev_all hsm hy hsy), (rise_acc hy hRs (by unfold okS; rw [if_neg hqt97_2]; by_cases q1 : last < y.1 <;> by_cases q2 : y.1 ≤ 11 <;> simp [q1, q2]) (by unfold nxS; rw [if_neg hqt97_2])), (found_miss hFnd hy (fun hh => hqt93_1 (by have h2 := hit_to hh.2; exact ⟨⟨hh.1, h2.1⟩, h2.2⟩)))⟩
                · have hqt97_2b := hqt97_2
                  replace hqt97_2 := Bool.eq_false_iff.1 hqt97_2
                  try simp only [ne_eq, decide_eq_true_eq, Bool.and_eq_true, Bool.or_eq_true, Bool.not_eq_true', decide_eq_false_iff_not] at hqt97_2
                  refine wp_region_lit ?_
                  refine sqv hf (r_move rfl) rfl rfl rfl ?_; clear hf fa; intro fa hf
                  refine sqv hf (r_move rfl) rfl rfl rfl ?_; clear hf fa; intro fa hf
                  refine sqgT (act := rise) (ag := true) (c := rise) (v := (.pointer (some ⟨b1, 1, none⟩))) hf rfl rfl rfl (fun hact => (r_fa rfl Try.underlying121 (f := 1) (q := 1) rfl (by kernel_rfl) rfl)) rfl rfl ?_; clear hf fa; intro fa hf
                  refine sqgT (act := rise) (ag := true) (c := rise) (v := (.string y.2.1)) hf rfl rfl rfl (fun hact => (r_load (v := (.string y.2.1)) (gb_ev hact rfl) Try.underlying9 rfl (cell_blk hk2 rfl))) rfl rfl ?_; clear hf fa; intro fa hf
                  refine sqgT (act := rise) (ag := true) (c := rise) (v := (.int .i64 ((y.2.1.size : Nat) : Int))) hf rfl rfl rfl (fun hact => (r_lens (gb_ev hact rfl) Try.underlying9)) rfl rfl ?_; clear hf fa; intro fa hf
                  refine sqgT (act := rise) (ag := true) (c := rise) (v := (.bool (decide (((y.2.1.size : Nat) : Int) ≤ (200 : Int))))) hf rfl rfl rfl (fun hact => (r_le (gb_ev hact rfl) rfl)) rfl rfl ?_; clear hf fa; intro fa hf
                  refine sqv hf (r_pickA (b := rise) (e := (decide (((y.2.1.size : Nat) : Int) ≤ (200 : Int)))) rfl rfl rfl) rfl rfl rfl ?_; clear hf fa; intro fa hf
                  refine sqv hf (r_move rfl) rfl rfl rfl ?_; clear hf fa; intro fa hf
                  refine sqgT (act := (rise && (decide (((y.2.1.size : Nat) : Int) ≤ (200 : Int))))) (ag := true) (c := (rise && (decide (((y.2.1.size : Nat) : Int) ≤ (200 : Int))))) (v := (.pointer (some ⟨b1, 1, none⟩))) hf rfl rfl rfl (fun hact => (r_fa rfl Try.underlying121 (f := 1) (q := 1) rfl (by kernel_rfl) rfl)) rfl rfl ?_; clear hf fa; intro fa hf
                  refine sqgT (act := (rise && (decide (((y.2.1.size : Nat) : Int) ≤ (200 : Int))))) (ag := true) (c := (rise && (decide (((y.2.1.size : Nat) : Int) ≤ (200 : Int))))) (v := (.string y.2.1)) hf rfl rfl rfl (fun hact => (r_load (v := (.string y.2.1)) (gb_ev hact rfl) Try.underlying9 rfl (cell_blk hk2 rfl))) rfl rfl ?_; clear hf fa; intro fa hf
                  refine sqgd (R := fun vq wq => vq = gb (rise && (decide (((y.2.1.size : Nat) : Int) ≤ (200 : Int)))) (.int .i64 ((Ut.cnt (Ut.bl y.2.1)))) ∧ Below w5.heap.size w5 wq) (act := (rise && (decide (((y.2.1.size : Nat) : Int) ≤ (200 : Int))))) (g := 7) (want := true) (ag := true) (c := (rise && (decide (((y.2.1.size : Nat) : Int) ≤ (200 : Int))))) hf (by rfl) (by rfl) (act_T _ _) (fun hact => (d_callB (vs := [(.string y.2.1)]) (cons_ev (gb_ev hact rfl) rfl) Try.func84 (by kernel_rfl) (by kernel_rfl) (Ut.refCount_any y.2.1 _ (by omega))).mono (fun _ _ h => ⟨by rw [h.1, hact]; rfl, h.2⟩)) (fun h => ⟨by rw [h]; rfl, Below.refl _ _⟩) rfl ?_; clear hf fa; rintro fa _ w13 ⟨rfl, he8⟩ hf
                  replace hk2 := blk_ext hk2 he8
                  replace hro := Row.ext hro he8
                  replace hr1 := Row.ext hr1 he8
                  replace hb := hb.trans (Below.mono he8 hb.size)
                  change Fr _ _ ((122, (gb (rise && (decide (((y.2.1.size : Nat) : Int) ≤ (200 : Int)))) (.int .i64 ((Ut.cnt (Ut.bl y.2.1)))))) :: _) at hf
                  refine sqgT (act := (rise && (decide (((y.2.1.size : Nat) : Int) ≤ (200 : Int))))) (ag := true) (c := (rise && (decide (((y.2.1.size : Nat) : Int) ≤ (200 : Int))))) (v := (.bool (decide ((0 : Int) ≤ ((Ut.cnt (Ut.bl y.2.1))))))) hf rfl rfl rfl (fun hact => (r_ge (gb_ev hact rfl) rfl)) rfl rfl ?_; clear hf fa; intro fa hf
                  refine sqv hf (r_pickA (b := (rise && (decide (((y.2.1.size : Nat) : Int) ≤ (200 : Int))))) (e := (decide ((0 : Int) ≤ ((Ut.cnt (Ut.bl y.2.1)))))) rfl rfl rfl) rfl rfl rfl ?_; clear hf fa; intro fa hf
                  refine sqv hf (r_assign rfl) rfl rfl rfl ?_; clear hf fa; intro fa hf
                  apply wpList_nil
                  (try simp only [Exit.then, Exit.inBlock, ↓reduceIte, Nat.reduceEqDiff])
                  refine hK25 _ _ ?_
                  refine wp_region_lit ?_
                  refine sqv hf (r_move rfl) rfl rfl rfl ?_; clear hf fa; intro fa hf
                  refine sqv hf (r_loadA (cs := [(.int .i64 y.1), (.string y.2.1), (.string (strOfNums y.2.2.1.list)), (.int .i64 (0 : Int))]) rfl Try.underlying121 rfl (by kernel_rfl) (cellsAt_blk hk2)) rfl rfl rfl ?_; clear hf fa; intro fa hf
                  refine sqdt hf (d_bslice (z := (.agg #[(.int .i64 (0 : Int)), (.string ⟨#[]⟩), (.string ⟨#[]⟩), (.int .i64 (0 : Int))])) (sz := 4) (vs := [(0, (.agg #[(.int .i64 y.1), (.string y.2.1), (.string (strOfNums y.2.2.1.list)), (.int .i64 (0 : Int))]))]) (cs := #[(.int .i64 y.1), (.string y.2.1), (.string (strOfNums y.2.2.1.list)), (.int .i64 (0 : Int))]) rfl Try.underlying117 (by kernel_rfl) rfl (by kernel_rfl)) rfl rfl rfl ?_; clear hf fa; rintro fa _ w14 ⟨b5, rfl, hle6, hk6, he9⟩ hf
                  have hBb5 : w.heap.size ≤ b5 := Nat.le_trans hb.size hle6
                  have : b1 < b5 := Nat.lt_of_lt_of_le (blk_lt hk2) hle6
                  have hnr5 : (Value.slice roa (((((l.take k).map secRef)).length)) roc).ownBlock ≠ some b5 := fun hq => by have := (Row.lt hro _ hq).2; omega
                  have hnl4 : ∀ q, (Value.slice roa (((((l.take k).map secRef)).length)) roc).ownBlock = some q → q < b5 := fun q hq => Nat.lt_of_lt_of_le (Row.lt hro q hq).2 hle6
                  have : mb1 < b5 := Nat.lt_of_lt_of_le (Row.lt hr1 _ rfl).2 hle6
                  replace hk2 := blk_ext hk2 he9
                  replace hro := Row.ext hro he9
                  replace hr1 := Row.ext hr1 he9
                  replace hb := hb.trans (Below.mono he9 hb.size)
                  have hs4 := Row.rd (by intros; rfl) (Row.of_new (k := 4) (V := vMSr) (l := [(secRef y)]) hk6 (Nat.le_refl _) rfl rfl (Nat.le_of_ble_eq_true rfl))
                  refine sqdt hf (d_append (V := vMSr) (k := 4) (e := 121) (bytes := 48) (z := (.agg #[(.int .i64 (0 : Int)), (.string ⟨#[]⟩), (.string ⟨#[]⟩), (.int .i64 (0 : Int))])) (news := [(secRef y)]) (base := w.heap.size) (by intros; rfl) (by exact oneMSr) rfl rfl Try.underlying117 (by kernel_rfl) rfl rfl rfl hro hs4 rfl (fun h => by cases h) (by first | omega | (simp only [List.length_cons, List.length_nil, List.length_append, nums_len]; omega)) (by have := hb.size; omega)) rfl rfl rfl ?_; clear hf fa; rintro fa v w15 ⟨hr5, hg5⟩ hf; obtain ⟨ra4, rc4, rfl, hcrc4, hmrc4⟩ := Row.slice hr5
                  replace hk2 := blk_row' hk2 hg5 hnr1
                  replace hr1 := Row.grown' hr1 hg5 (Row.ne_row hr1 hro rfl)
                  replace hb := hb.trans (row_below hro hg5 hb.size (by have := hb.size; omega))
                  refine sqv hf (r_assign rfl) rfl rfl rfl ?_; clear hf fa; intro fa hf
                  apply wpList_nil
                  (try simp only [Exit.then, Exit.inBlock, ↓reduceIte, Nat.reduceEqDiff])
                  refine hK13 _ _ ?_
                  refine wp_region_lit ?_
                  refine sqv hf (r_move rfl) rfl rfl rfl ?_; clear hf fa; intro fa hf
                  refine sqv hf (r_add (C := (((k : Nat) : Int) + (1 : Int))) rfl rfl (by rw [IntKind.wrap_i64]; omega)) rfl rfl rfl ?_; clear hf fa; intro fa hf
                  refine sqv hf (r_assign rfl) rfl rfl rfl ?_; clear hf fa; intro fa hf
                  apply wpList_nil
                  (try simp only [Exit.then, Exit.inBlock, ↓reduceIte, Nat.reduceEqDiff])
                  have hsn := map_snocS hy
                  refine hKL1 _ _ _ (by omega) ⟨(k + 1), last, ((rise && (decide (((y.2.1.size : Nat) : Int) ≤ (200 : Int)))) && (decide ((0 : Int) ≤ ((Ut.cnt (Ut.bl y.2.1)))))), found, ra4, rc4, rfl, hf.sub ⟨rfl, rfl, rfl, rfl, rfl, rfl, rfl, (some_int (by first | rfl | omega)), (some_sl (by first | omega | rfl | (simp only [List.length_append, List.length_cons, List.length_nil]; omega) | (simp <;> omega)) rfl), trivial⟩, hb, (rowToT hr5 hsn), by omega, (prev_all hsm hy hsy), (rise_acc hy hRs (by unfold okS; rw [if_pos (Classical.not_not.1 hqt97_2)]; by_cases q1 : y.2.1.size ≤ 200 <;> by_cases q2 : 0 ≤ Ut.cnt (Ut.bl y.2.1) <;> simp [q1, q2] <;> omega) (by unfold nxS; rw [if_pos (Classical.not_not.1 hqt97_2)])), (found_miss hFnd hy (fun hh => hqt93_1 (by have h2 := hit_to hh.2; exact ⟨⟨hh.1, h2.1⟩, h2.2⟩)))⟩
      · have hqt27_1b := hqt27_1
        replace hqt27_1 := Bool.eq_false_iff.1 hqt27_1
        try simp only [ne_eq, decide_eq_true_eq, Bool.and_eq_true, Bool.or_eq_true, Bool.not_eq_true', decide_eq_false_iff_not] at hqt27_1
        refine wp_exit ?_
        (try simp only [Exit.then, Exit.inBlock, ↓reduceIte, Nat.reduceEqDiff])
        refine hK9 _ _ ?_
        refine wp_seq_k (fun K28 hK28 => ?_)
        have hkl : k = l.length := by have h := hqt27_1; omega
        have hsm2 : ∀ x ∈ l, smS x := by rw [hkl, List.take_length] at hsm; exact hsm
        have hP : ∀ x ∈ l, SecP x := fun x hx => ⟨(hG x hx).id, by have := (hsm2 x hx).2; omega, by rw [Sl.list_length]; have := (hsm2 x hx).1; omega, (hG x hx).rng⟩
        have hRs2 : riseR 0 l = rise := by rw [hRs, hkl, List.drop_length]; simp [riseR]
        have hWl : ((l.take k).map secRef) = (l.map secRef) := by rw [hkl, List.take_length]
        have hfl9 := flatS_len l hP
        have hjl : (joinL l).length = 8 + (flatS l).length := by rw [joinL_flat, List.length_append]; rfl
        have hszj := strOfNums_size (joinL l)
        refine wp_region_lit ?_
        refine sqv hf (r_move rfl) rfl rfl rfl ?_; clear hf fa; intro fa hf
        refine sqdt hf (d_callX (vs := [(.slice a l.length c)]) rfl Try.func85 (by kernel_rfl) (by kernel_rfl) (sjoin_any l a c _ (RdS.ext hl hb) hc (by omega) (fun x hx => (hG x hx).ext hb) (fun x hx => by have := (hsm2 x hx).2; omega) (fun x hx => by have := (hsm2 x hx).1; omega))) rfl rfl rfl ?_; clear hf fa; rintro fa _ w16 ⟨ja, jc, rfl, hjr, hjc, hjm, hjn, heJ⟩ hf
        replace hro := Row.ext hro heJ
        replace hb := hb.trans (Below.mono heJ hb.size)
        have hJ := Below.refl w16.heap.size w16
        refine sqv hf (r_assign rfl) rfl rfl rfl ?_; clear hf fa; intro fa hf
        apply wpList_nil
        (try simp only [Exit.then, Exit.inBlock, ↓reduceIte, Nat.reduceEqDiff])
        refine hK28 _ _ ?_
        refine wp_seq_k (fun K29 hK29 => ?_)
        refine wp_region_lit ?_
        refine sqv hf (r_move rfl) rfl rfl rfl ?_; clear hf fa; intro fa hf
        refine sqv hf (r_move rfl) rfl rfl rfl ?_; clear hf fa; intro fa hf
        refine sqv hf (r_move rfl) rfl rfl rfl ?_; clear hf fa; intro fa hf
        refine sqdt hf (d_callB (vs := [(.slice a l.length c), (.int .u8 id), (.string nm)]) rfl Try.func86 (by kernel_rfl) (by kernel_rfl) (sfind_any l a c _ (RdS.ext hl hb) hc (by omega) id nm)) rfl rfl rfl ?_; clear hf fa; rintro fa _ w17 ⟨rfl, he10⟩ hf
        replace hro := Row.ext hro he10
        replace hJ := hJ.trans (Below.mono he10 hJ.size)
        replace hb := hb.trans (Below.mono he10 hb.size)
        refine sqv hf (r_move rfl) rfl rfl rfl ?_; clear hf fa; intro fa hf
        refine sqv hf (r_extract rfl (i := 0) rfl) rfl rfl rfl ?_; clear hf fa; intro fa hf
        refine sqv hf (r_extract rfl (i := 1) rfl) rfl rfl rfl ?_; clear hf fa; intro fa hf
        refine sqdt hf (d_alloc (z := (.agg #[(.int .u8 (0 : Int)), (.string ⟨#[]⟩), (.slice none 0 0), (.int .i64 (0 : Int))])) (cs := #[(.int .u8 (0 : Int)), (.string ⟨#[]⟩), (.slice none 0 0), (.int .i64 (0 : Int))]) (by kernel_rfl) rfl) rfl rfl rfl ?_; clear hf fa; rintro fa _ w18 ⟨b6, rfl, hle7, hk7, he11⟩ hf
        have hBb6 : w.heap.size ≤ b6 := Nat.le_trans hb.size hle7
        have hUhJb6 := Nat.le_trans hJ.size hle7
        replace hro := Row.ext hro he11
        replace hJ := hJ.trans (Below.mono he11 hJ.size)
        replace hb := hb.trans (Below.mono he11 hb.size)
        refine sqn hf (d_storeK (T := 119) (v := (.agg #[(.int .u8 ((fndV id nm l).1)), (.string (fndV id nm l).2.1), (.slice (fndV id nm l).2.2.1.at' ((fndV id nm l).2.2.1.len) (fndV id nm l).2.2.1.cap), (.int .i64 ((fndV id nm l).2.2.2.1))])) (cs := #[(.int .u8 (0 : Int)), (.string ⟨#[]⟩), (.slice none 0 0), (.int .i64 (0 : Int))]) (cs' := #[(.int .u8 ((fndV id nm l).1)), (.string (fndV id nm l).2.1), (.slice (fndV id nm l).2.2.1.at' ((fndV id nm l).2.2.1.len) (fndV id nm l).2.2.1.cap), (.int .i64 ((fndV id nm l).2.2.2.1))]) rfl rfl (by kernel_rfl) (by kernel_rfl) hk7 (by kernel_rfl) (by kernel_rfl)) rfl rfl ?_; clear hf fa; rintro fa _ w19 ⟨hk8, hg6⟩ hf
        replace hro := Row.grown hro hg6 (Row.ne_type hro hk7 rfl)
        replace hJ := hJ.trans (grown_below hg6 hJ.size (by omega))
        replace hb := hb.trans (grown_below hg6 hb.size hBb6)
        refine sqv hf (r_assign rfl) rfl rfl rfl ?_; clear hf fa; intro fa hf
        apply wpList_nil
        (try simp only [Exit.then, Exit.inBlock, ↓reduceIte, Nat.reduceEqDiff])
        refine hK29 _ _ ?_
        refine wp_seq_k (fun K30 hK30 => ?_)
        refine wp_seq_k (fun K31 hK31 => ?_)
        have hFl : FoundI id nm l l.length found := by rw [hkl] at hFnd; exact hFnd
        by_cases hsp1 : fndB id nm l = true
        · have hsp1b : decide (fndB id nm l = true) = true := decide_eq_true hsp1
          obtain ⟨jf, xf, rfl, hjf, hxf, hff⟩ : ∃ (jf : Nat) (xf : MSec), found = ((jf : Nat) : Int) ∧ jf < l.length ∧ l[jf]? = some xf ∧ l.find? (hitS id nm) = some xf := by
            rcases hFl with ⟨_, h⟩ | ⟨j, x, h1, h2, h3, h4⟩
            · exfalso
              have hz : fndB id nm l = false := by unfold fndB; rw [h, List.drop_length]; rfl
              rw [hsp1] at hz
              cases hz
            · exact ⟨j, x, h1, h2, h3, h4⟩
          have hfv : fndV id nm l = xf := by unfold fndV; rw [hff]; rfl
          have hxm := List.mem_of_getElem? hxf
          have hfvr : RdS 1 (vInt .u8) w (fndV id nm l).2.2.1.at' (fndV id nm l).2.2.1.list := by rw [hfv]; exact (hG xf hxm).rd
          have hxw : ((l.take k).map secRef)[jf]? = some (secRef xf) := by rw [hWl, List.getElem?_map, hxf]; rfl
          have hy2 : (l)[jf]? = some xf := hxf
          obtain ⟨ab2, aoff2, hat2, hlb2, hel2⟩ := RdS.at hl hy2
          obtain ⟨rb1, rfl, hbbrb1, hlbrb1⟩ := Row.some hro (by first | omega | (simp only [Sl.list_length, List.length_set, List.length_take, List.length_append, List.length_replicate, List.length_cons, List.length_nil, List.length_map, nums_len]; omega))
          have hy3 : (((l.take k).map secRef))[jf]? = some (secRef xf) := hxw
          have hel3 := RdS.at (Row.rd (by intros; rfl) hro) hy3
          obtain ⟨_, _, hab, hlr1, hel3⟩ := hel3
          cases hab
          have hy4 : (((l.take k).map secRef))[jf]? = some (secRef xf) := hxw
          have hel4 := RdS.at (Row.rd (by intros; rfl) hro) hy4
          obtain ⟨_, _, hab, hlr2, hel4⟩ := hel4
          cases hab
          refine wp_region_un (fun wq => Below w19.heap.size w19 wq) (fun w w' => Below w.heap.size w w')
            (fun V => [(fun x _ => x = (.slice ja (((joinL l).length)) jc)), (fun x _ => x = (.string (strOfNums (joinL l)))), (fun x _ => x = (.slice (some ⟨rb1, 0, none⟩) ((((l.take k).map secRef)).length) roc)), (fun x _ => x = (.string (strOfNums (joinL l)))), (fun x _ => x = (.bool false)), (fun x _ => x = (.bool false)), (fun x _ => x = (.bool (fndB id nm l))), (fun x _ => x = (.int .i64 ((jf : Nat) : Int))), (fun x _ => x = (.bool (decide ((0 : Int) ≤ ((jf : Nat) : Int))))), (fun x _ => x = (.bool false)), (fun x _ => x = (.bool false)), (fun x _ => x = (.bool false)), (fun x _ => x = (.bool true)), (fun x _ => x = (.bool true)), (fun x _ => x = (.pointer (some ⟨b6, 3, none⟩))), (fun x _ => x = (.int .i64 ((fndV id nm l).2.2.2.1))), (fun x _ => x = (.slice a l.length c)), (fun x _ => x = (.int .i64 ((jf : Nat) : Int))), (fun x _ => x = (.pointer (some ⟨ab2, (aoff2 + jf * 4), none⟩))), (fun x _ => x = (.pointer (some ⟨ab2, ((aoff2 + jf * 4) + 3), none⟩))), (fun x _ => x = (.int .i64 xf.2.2.2.1)), (fun x _ => x = (.bool false)), (fun x _ => x = (.bool false)), (fun x _ => x = (.pointer (some ⟨b6, 2, none⟩))), (fun x _ => x = (.slice (fndV id nm l).2.2.1.at' ((fndV id nm l).2.2.1.len) (fndV id nm l).2.2.1.cap)), (fun x _ => x = (.string (strOfNums (fndV id nm l).2.2.1.list))), (fun x _ => x = (.slice (some ⟨rb1, 0, none⟩) ((((l.take k).map secRef)).length) roc)), (fun x _ => x = (.int .i64 ((jf : Nat) : Int))), (fun x _ => x = (.pointer (some ⟨rb1, (0 + jf * 4), none⟩))), (fun x _ => x = (.pointer (some ⟨rb1, ((0 + jf * 4) + 2), none⟩))), (fun x _ => x = (.string (secRef xf).2.2.1)), (fun x _ => x = (.bool false)), (fun x _ => x = (.bool false)), (fun x _ => x = (.bool false)), (fun x _ => x = (.pointer (some ⟨b6, 1, none⟩))), (fun x _ => x = (.string (fndV id nm l).2.1)), (fun x _ => x = (.slice (some ⟨rb1, 0, none⟩) ((((l.take k).map secRef)).length) roc)), (fun x _ => x = (.int .i64 ((jf : Nat) : Int))), (fun x _ => x = (.pointer (some ⟨rb1, (0 + jf * 4), none⟩))), (fun x _ => x = (.pointer (some ⟨rb1, ((0 + jf * 4) + 1), none⟩))), (fun x _ => x = (.string (secRef xf).2.1)), (fun x _ => x = (.bool false)), (fun x _ => x = (.bool false)), (fun x _ => x = (.bool false)), (fun x _ => x = (.bool false))])
            []
            [[], [0], [], [2], [1, 3], [3, 4], [5], [5], [5, 7], [5, 6, 8], [5, 9], [5, 10], [11], [11, 12], [13], [13, 14], [13], [13], [13, 16, 17], [13, 18], [13, 19], [13, 15, 20], [13, 21], [22], [22, 23], [22, 24], [22], [22], [22, 26, 27], [22, 28], [22, 29], [22, 25, 30], [13, 22, 31], [13, 22, 32], [33], [33, 34], [33], [33], [33, 36, 37], [33, 38], [33, 39], [33, 35, 40], [13, 33, 41], [11, 13, 42], [11, 43]]
            hf (by kernel_rfl) (by kernel_rfl) (fun _ => rfl) ((Below.refl _ _).drew) (fun a b h1 h2 => h1.trans (h2.mono h1.size)) (fun _ _ h => h.size) (fun V => ⟨kept_eq, kept_eq, kept_eq, kept_eq, kept_eq, kept_eq, kept_eq, kept_eq, kept_eq, kept_eq, kept_eq, kept_eq, kept_eq, kept_eq, kept_eq, kept_eq, kept_eq, kept_eq, kept_eq, kept_eq, kept_eq, kept_eq, kept_eq, kept_eq, kept_eq, kept_eq, kept_eq, kept_eq, kept_eq, kept_eq, kept_eq, kept_eq, kept_eq, kept_eq, kept_eq, kept_eq, kept_eq, kept_eq, kept_eq, kept_eq, kept_eq, kept_eq, kept_eq, kept_eq, kept_eq, trivial⟩) (fun _ _ _ _ _ => rfl) ?_ ?_
          · skip
            intro V
            refine ⟨fun wu0 hC hd => ?_, ?_⟩
            · clear hd
              replace hb := hb.trans (hC.mono hb.size)
              replace hk8 := blk_ext hk8 hC
              replace hro := Row.ext hro hC
              exact Runs.does (r_move rfl) ⟨Below.refl _ _, rfl, nofr rfl⟩
            refine ⟨fun wu1 hC hd => ?_, ?_⟩
            · obtain ⟨h0, _⟩ := hd
              replace h0 : V 0 = (.slice ja (((joinL l).length)) jc) := h0
              replace hb := hb.trans (hC.mono hb.size)
              replace hk8 := blk_ext hk8 hC
              replace hro := Row.ext hro hC
              exact Runs.does (r_rdstr2 (congrArg some h0) rfl Try.underlying47 Try.underlying5 Try.underlying9 (RdS.ext (RdS.ext hjr hJ) hC)) ⟨Below.refl _ _, rfl, nofr rfl⟩
            refine ⟨fun wu2 hC hd => ?_, ?_⟩
            · clear hd
              replace hb := hb.trans (hC.mono hb.size)
              replace hk8 := blk_ext hk8 hC
              replace hro := Row.ext hro hC
              exact Runs.does (r_move rfl) ⟨Below.refl _ _, rfl, nofr rfl⟩
            refine ⟨fun wu3 hC hd => ?_, ?_⟩
            · obtain ⟨h2, _⟩ := hd
              replace h2 : V 2 = (.slice (some ⟨rb1, 0, none⟩) ((((l.take k).map secRef)).length) roc) := h2
              replace hb := hb.trans (hC.mono hb.size)
              replace hk8 := blk_ext hk8 hC
              replace hro := Row.ext hro hC
              refine Does.mono (d_callB (vs := [(.slice (some ⟨rb1, 0, none⟩) ((((l.take k).map secRef)).length) roc)]) (show [some (V 2)] = [some (.slice (some ⟨rb1, 0, none⟩) ((((l.take k).map secRef)).length) roc)] from by rw [h2]) Try.func87 (by kernel_rfl) (by kernel_rfl) (rsjoinW l ((l.take k).map secRef) hWl.symm _ _ _ (Row.rd (by intros; rfl) hro) (by have := Row.caps hro; omega) (by omega) (fun x hx => (hG x hx).id) (fun x hx => by have := (hsm2 x hx).2; omega) (fun x hx => by have := (hsm2 x hx).1; omega))) (fun _ _ h => ⟨h.2, h.1, nofr rfl⟩)
            refine ⟨fun wu4 hC hd => ?_, ?_⟩
            · obtain ⟨h1, h3, _⟩ := hd
              replace h1 : V 1 = (.string (strOfNums (joinL l))) := h1
              replace h3 : V 3 = (.string (strOfNums (joinL l))) := h3
              replace hb := hb.trans (hC.mono hb.size)
              replace hk8 := blk_ext hk8 hC
              replace hro := Row.ext hro hC
              exact Runs.does (Runs.veq (r_sne (congrArg some h1) (congrArg some h3)) (congrArg Value.bool (show _ = false from (by simp)))) ⟨Below.refl _ _, rfl, nofr rfl⟩
            refine ⟨fun wu5 hC hd => ?_, ?_⟩
            · obtain ⟨h3, h4, _⟩ := hd
              replace h3 : V 3 = (.string (strOfNums (joinL l))) := h3
              replace h4 : V 4 = (.bool false) := h4
              replace hb := hb.trans (hC.mono hb.size)
              replace hk8 := blk_ext hk8 hC
              replace hro := Row.ext hro hC
              exact Runs.does (r_move (congrArg some h4)) ⟨Below.refl _ _, rfl, nofr rfl⟩
            refine ⟨fun wu6 hC hd => ?_, ?_⟩
            · obtain ⟨h5, _⟩ := hd
              replace h5 : V 5 = (.bool false) := h5
              replace hb := hb.trans (hC.mono hb.size)
              replace hk8 := blk_ext hk8 hC
              replace hro := Row.ext hro hC
              refine ⟨true, false, congrArg some h5, fun hact => ?_, fun hact => ?_⟩
              · exact Runs.does (r_move rfl) ⟨Below.refl _ _, rfl, nofr rfl⟩
              · exfalso; simp at hact
            refine ⟨fun wu7 hC hd => ?_, ?_⟩
            · obtain ⟨h5, _⟩ := hd
              replace h5 : V 5 = (.bool false) := h5
              replace hb := hb.trans (hC.mono hb.size)
              replace hk8 := blk_ext hk8 hC
              replace hro := Row.ext hro hC
              refine ⟨true, false, congrArg some h5, fun hact => ?_, fun hact => ?_⟩
              · exact Runs.does (r_move rfl) ⟨Below.refl _ _, rfl, nofr rfl⟩
              · exfalso; simp at hact
            refine ⟨fun wu8 hC hd => ?_, ?_⟩
            · obtain ⟨h5, h7, _⟩ := hd
              replace h5 : V 5 = (.bool false) := h5
              replace h7 : V 7 = (.int .i64 ((jf : Nat) : Int)) := h7
              replace hb := hb.trans (hC.mono hb.size)
              replace hk8 := blk_ext hk8 hC
              replace hro := Row.ext hro hC
              refine ⟨true, false, congrArg some h5, fun hact => ?_, fun hact => ?_⟩
              · exact Runs.does (r_ge (congrArg some h7) rfl) ⟨Below.refl _ _, rfl, nofr rfl⟩
              · exfalso; simp at hact
            refine ⟨fun wu9 hC hd => ?_, ?_⟩
            · obtain ⟨h5, h6, h8, _⟩ := hd
              replace h5 : V 5 = (.bool false) := h5
              replace h6 : V 6 = (.bool (fndB id nm l)) := h6
              replace h8 : V 8 = (.bool (decide ((0 : Int) ≤ ((jf : Nat) : Int)))) := h8
              replace hb := hb.trans (hC.mono hb.size)
              replace hk8 := blk_ext hk8 hC
              replace hro := Row.ext hro hC
              refine ⟨true, false, congrArg some h5, fun hact => ?_, fun hact => ?_⟩
              · exact Runs.does (Runs.veq (r_bne Try.underlying4 (congrArg some h6) (congrArg some h8)) (congrArg Value.bool (show _ = false from (by rw [hsp1]; simp <;> omega)))) ⟨Below.refl _ _, rfl, nofr rfl⟩
              · exfalso; simp at hact
            refine ⟨fun wu10 hC hd => ?_, ?_⟩
            · obtain ⟨h5, h9, _⟩ := hd
              replace h5 : V 5 = (.bool false) := h5
              replace h9 : V 9 = (.bool false) := h9
              replace hb := hb.trans (hC.mono hb.size)
              replace hk8 := blk_ext hk8 hC
              replace hro := Row.ext hro hC
              exact Runs.does (r_pick (b := false) (congrArg some h5) rfl (congrArg some h9) rfl) ⟨Below.refl _ _, rfl, nofr rfl⟩
            refine ⟨fun wu11 hC hd => ?_, ?_⟩
            · obtain ⟨h5, h10, _⟩ := hd
              replace h5 : V 5 = (.bool false) := h5
              replace h10 : V 10 = (.bool false) := h10
              replace hb := hb.trans (hC.mono hb.size)
              replace hk8 := blk_ext hk8 hC
              replace hro := Row.ext hro hC
              exact Runs.does (r_move (congrArg some h10)) ⟨Below.refl _ _, rfl, nofr rfl⟩
            refine ⟨fun wu12 hC hd => ?_, ?_⟩
            · obtain ⟨h11, _⟩ := hd
              replace h11 : V 11 = (.bool false) := h11
              replace hb := hb.trans (hC.mono hb.size)
              replace hk8 := blk_ext hk8 hC
              replace hro := Row.ext hro hC
              refine ⟨true, false, congrArg some h11, fun hact => ?_, fun hact => ?_⟩
              · exact Runs.does (Runs.veq (r_move rfl) (congrArg Value.bool (show _ = true from hsp1))) ⟨Below.refl _ _, rfl, nofr rfl⟩
              · exfalso; simp at hact
            refine ⟨fun wu13 hC hd => ?_, ?_⟩
            · obtain ⟨h11, h12, _⟩ := hd
              replace h11 : V 11 = (.bool false) := h11
              replace h12 : V 12 = (.bool true) := h12
              replace hb := hb.trans (hC.mono hb.size)
              replace hk8 := blk_ext hk8 hC
              replace hro := Row.ext hro hC
              refine ⟨true, false, congrArg some h11, fun hact => ?_, fun hact => ?_⟩
              · exact Runs.does (r_move (congrArg some h12)) ⟨Below.refl _ _, rfl, nofr rfl⟩
              · exfalso; simp at hact
            refine ⟨fun wu14 hC hd => ?_, ?_⟩
            · obtain ⟨h13, _⟩ := hd
              replace h13 : V 13 = (.bool true) := h13
              replace hb := hb.trans (hC.mono hb.size)
              replace hk8 := blk_ext hk8 hC
              replace hro := Row.ext hro hC
              refine ⟨true, true, congrArg some h13, fun hact => ?_, fun hact => ?_⟩
              · exact Runs.does (r_fa rfl Try.underlying119 (f := 3) (q := 3) rfl (by kernel_rfl) rfl) ⟨Below.refl _ _, rfl, nofr rfl⟩
              · exfalso; simp at hact
            refine ⟨fun wu15 hC hd => ?_, ?_⟩
            · obtain ⟨h13, h14, _⟩ := hd
              replace h13 : V 13 = (.bool true) := h13
              replace h14 : V 14 = (.pointer (some ⟨b6, 3, none⟩)) := h14
              replace hb := hb.trans (hC.mono hb.size)
              replace hk8 := blk_ext hk8 hC
              replace hro := Row.ext hro hC
              refine ⟨true, true, congrArg some h13, fun hact => ?_, fun hact => ?_⟩
              · exact Runs.does (r_load (v := (.int .i64 ((fndV id nm l).2.2.2.1))) (congrArg some h14) Try.underlying3 rfl (cell_blk hk8 rfl)) ⟨Below.refl _ _, rfl, nofr rfl⟩
              · exfalso; simp at hact
            refine ⟨fun wu16 hC hd => ?_, ?_⟩
            · obtain ⟨h13, _⟩ := hd
              replace h13 : V 13 = (.bool true) := h13
              replace hb := hb.trans (hC.mono hb.size)
              replace hk8 := blk_ext hk8 hC
              replace hro := Row.ext hro hC
              refine ⟨true, true, congrArg some h13, fun hact => ?_, fun hact => ?_⟩
              · exact Runs.does (r_move rfl) ⟨Below.refl _ _, rfl, nofr rfl⟩
              · exfalso; simp at hact
            refine ⟨fun wu17 hC hd => ?_, ?_⟩
            · obtain ⟨h13, _⟩ := hd
              replace h13 : V 13 = (.bool true) := h13
              replace hb := hb.trans (hC.mono hb.size)
              replace hk8 := blk_ext hk8 hC
              replace hro := Row.ext hro hC
              refine ⟨true, true, congrArg some h13, fun hact => ?_, fun hact => ?_⟩
              · exact Runs.does (r_move rfl) ⟨Below.refl _ _, rfl, nofr rfl⟩
              · exfalso; simp at hact
            refine ⟨fun wu18 hC hd => ?_, ?_⟩
            · obtain ⟨h13, h16, h17, _⟩ := hd
              replace h13 : V 13 = (.bool true) := h13
              replace h16 : V 16 = (.slice a l.length c) := h16
              replace h17 : V 17 = (.int .i64 ((jf : Nat) : Int)) := h17
              replace hb := hb.trans (hC.mono hb.size)
              replace hk8 := blk_ext hk8 hC
              replace hro := Row.ext hro hC
              refine ⟨true, true, congrArg some h13, fun hact => ?_, fun hact => ?_⟩
              · exact Runs.does (r_ixa (sz := 4) (j := jf) (evAt (congrArg some h16) hat2) (congrArg some h17) Try.underlying116 (by kernel_rfl) rfl (by omega) rfl) ⟨Below.refl _ _, rfl, nofr rfl⟩
              · exfalso; simp at hact
            refine ⟨fun wu19 hC hd => ?_, ?_⟩
            · obtain ⟨h13, h18, _⟩ := hd
              replace h13 : V 13 = (.bool true) := h13
              replace h18 : V 18 = (.pointer (some ⟨ab2, (aoff2 + jf * 4), none⟩)) := h18
              replace hb := hb.trans (hC.mono hb.size)
              replace hk8 := blk_ext hk8 hC
              replace hro := Row.ext hro hC
              refine ⟨true, true, congrArg some h13, fun hact => ?_, fun hact => ?_⟩
              · exact Runs.does (r_fa (congrArg some h18) Try.underlying119 (f := 3) (q := ((aoff2 + jf * 4) + 3)) rfl (by kernel_rfl) rfl) ⟨Below.refl _ _, rfl, nofr rfl⟩
              · exfalso; simp at hact
            refine ⟨fun wu20 hC hd => ?_, ?_⟩
            · obtain ⟨h13, h19, _⟩ := hd
              replace h13 : V 13 = (.bool true) := h13
              replace h19 : V 19 = (.pointer (some ⟨ab2, ((aoff2 + jf * 4) + 3), none⟩)) := h19
              replace hb := hb.trans (hC.mono hb.size)
              replace hk8 := blk_ext hk8 hC
              replace hro := Row.ext hro hC
              refine ⟨true, true, congrArg some h13, fun hact => ?_, fun hact => ?_⟩
              · exact Runs.does (r_load (v := (.int .i64 xf.2.2.2.1)) (congrArg some h19) Try.underlying3 rfl (cellsAt_cell (cellsAt_below hel2 hb hlb2) (i := 3) rfl rfl)) ⟨Below.refl _ _, rfl, nofr rfl⟩
              · exfalso; simp at hact
            refine ⟨fun wu21 hC hd => ?_, ?_⟩
            · obtain ⟨h13, h15, h20, _⟩ := hd
              replace h13 : V 13 = (.bool true) := h13
              replace h15 : V 15 = (.int .i64 ((fndV id nm l).2.2.2.1)) := h15
              replace h20 : V 20 = (.int .i64 xf.2.2.2.1) := h20
              replace hb := hb.trans (hC.mono hb.size)
              replace hk8 := blk_ext hk8 hC
              replace hro := Row.ext hro hC
              refine ⟨true, true, congrArg some h13, fun hact => ?_, fun hact => ?_⟩
              · exact Runs.does (Runs.veq (r_ne (congrArg some h15) (congrArg some h20)) (congrArg Value.bool (show _ = false from (by rw [hfv]; simp)))) ⟨Below.refl _ _, rfl, nofr rfl⟩
              · exfalso; simp at hact
            refine ⟨fun wu22 hC hd => ?_, ?_⟩
            · obtain ⟨h13, h21, _⟩ := hd
              replace h13 : V 13 = (.bool true) := h13
              replace h21 : V 21 = (.bool false) := h21
              replace hb := hb.trans (hC.mono hb.size)
              replace hk8 := blk_ext hk8 hC
              replace hro := Row.ext hro hC
              refine ⟨true, true, congrArg some h13, fun hact => ?_, fun hact => ?_⟩
              · exact Runs.does (r_move (congrArg some h21)) ⟨Below.refl _ _, rfl, nofr rfl⟩
              · exfalso; simp at hact
            refine ⟨fun wu23 hC hd => ?_, ?_⟩
            · obtain ⟨h22, _⟩ := hd
              replace h22 : V 22 = (.bool false) := h22
              replace hb := hb.trans (hC.mono hb.size)
              replace hk8 := blk_ext hk8 hC
              replace hro := Row.ext hro hC
              refine ⟨true, false, congrArg some h22, fun hact => ?_, fun hact => ?_⟩
              · exact Runs.does (r_fa rfl Try.underlying119 (f := 2) (q := 2) rfl (by kernel_rfl) rfl) ⟨Below.refl _ _, rfl, nofr rfl⟩
              · exfalso; simp at hact
            refine ⟨fun wu24 hC hd => ?_, ?_⟩
            · obtain ⟨h22, h23, _⟩ := hd
              replace h22 : V 22 = (.bool false) := h22
              replace h23 : V 23 = (.pointer (some ⟨b6, 2, none⟩)) := h23
              replace hb := hb.trans (hC.mono hb.size)
              replace hk8 := blk_ext hk8 hC
              replace hro := Row.ext hro hC
              refine ⟨true, false, congrArg some h22, fun hact => ?_, fun hact => ?_⟩
              · exact Runs.does (r_load (v := (.slice (fndV id nm l).2.2.1.at' ((fndV id nm l).2.2.1.len) (fndV id nm l).2.2.1.cap)) (congrArg some h23) Try.underlying47 rfl (cell_blk hk8 rfl)) ⟨Below.refl _ _, rfl, nofr rfl⟩
              · exfalso; simp at hact
            refine ⟨fun wu25 hC hd => ?_, ?_⟩
            · obtain ⟨h22, h24, _⟩ := hd
              replace h22 : V 22 = (.bool false) := h22
              replace h24 : V 24 = (.slice (fndV id nm l).2.2.1.at' ((fndV id nm l).2.2.1.len) (fndV id nm l).2.2.1.cap) := h24
              replace hb := hb.trans (hC.mono hb.size)
              replace hk8 := blk_ext hk8 hC
              replace hro := Row.ext hro hC
              refine ⟨true, false, congrArg some h22, fun hact => ?_, fun hact => ?_⟩
              · exact Runs.does (r_rdstr2 (congrArg some h24) (by first | rfl | exact (Sl.list_length _).symm) Try.underlying47 Try.underlying5 Try.underlying9 (RdS.ext hfvr hb)) ⟨Below.refl _ _, rfl, nofr rfl⟩
              · exfalso; simp at hact
            refine ⟨fun wu26 hC hd => ?_, ?_⟩
            · obtain ⟨h22, _⟩ := hd
              replace h22 : V 22 = (.bool false) := h22
              replace hb := hb.trans (hC.mono hb.size)
              replace hk8 := blk_ext hk8 hC
              replace hro := Row.ext hro hC
              refine ⟨true, false, congrArg some h22, fun hact => ?_, fun hact => ?_⟩
              · exact Runs.does (r_move rfl) ⟨Below.refl _ _, rfl, nofr rfl⟩
              · exfalso; simp at hact
            refine ⟨fun wu27 hC hd => ?_, ?_⟩
            · obtain ⟨h22, _⟩ := hd
              replace h22 : V 22 = (.bool false) := h22
              replace hb := hb.trans (hC.mono hb.size)
              replace hk8 := blk_ext hk8 hC
              replace hro := Row.ext hro hC
              refine ⟨true, false, congrArg some h22, fun hact => ?_, fun hact => ?_⟩
              · exact Runs.does (r_move rfl) ⟨Below.refl _ _, rfl, nofr rfl⟩
              · exfalso; simp at hact
            refine ⟨fun wu28 hC hd => ?_, ?_⟩
            · obtain ⟨h22, h26, h27, _⟩ := hd
              replace h22 : V 22 = (.bool false) := h22
              replace h26 : V 26 = (.slice (some ⟨rb1, 0, none⟩) ((((l.take k).map secRef)).length) roc) := h26
              replace h27 : V 27 = (.int .i64 ((jf : Nat) : Int)) := h27
              replace hb := hb.trans (hC.mono hb.size)
              replace hk8 := blk_ext hk8 hC
              replace hro := Row.ext hro hC
              refine ⟨true, false, congrArg some h22, fun hact => ?_, fun hact => ?_⟩
              · exact Runs.does (r_ixa (sz := 4) (j := jf) (congrArg some h26) (congrArg some h27) Try.underlying117 (by kernel_rfl) rfl (by omega) rfl) ⟨Below.refl _ _, rfl, nofr rfl⟩
              · exfalso; simp at hact
            refine ⟨fun wu29 hC hd => ?_, ?_⟩
            · obtain ⟨h22, h28, _⟩ := hd
              replace h22 : V 22 = (.bool false) := h22
              replace h28 : V 28 = (.pointer (some ⟨rb1, (0 + jf * 4), none⟩)) := h28
              replace hb := hb.trans (hC.mono hb.size)
              replace hk8 := blk_ext hk8 hC
              replace hro := Row.ext hro hC
              refine ⟨true, false, congrArg some h22, fun hact => ?_, fun hact => ?_⟩
              · exact Runs.does (r_fa (congrArg some h28) Try.underlying121 (f := 2) (q := ((0 + jf * 4) + 2)) rfl (by kernel_rfl) rfl) ⟨Below.refl _ _, rfl, nofr rfl⟩
              · exfalso; simp at hact
            refine ⟨fun wu30 hC hd => ?_, ?_⟩
            · obtain ⟨h22, h29, _⟩ := hd
              replace h22 : V 22 = (.bool false) := h22
              replace h29 : V 29 = (.pointer (some ⟨rb1, ((0 + jf * 4) + 2), none⟩)) := h29
              replace hb := hb.trans (hC.mono hb.size)
              replace hk8 := blk_ext hk8 hC
              replace hro := Row.ext hro hC
              refine ⟨true, false, congrArg some h22, fun hact => ?_, fun hact => ?_⟩
              · exact Runs.does (r_load (v := (.string (secRef xf).2.2.1)) (congrArg some h29) Try.underlying9 rfl (cellsAt_cell (cellsAt_below hel3 hC hlr1) (i := 2) rfl rfl)) ⟨Below.refl _ _, rfl, nofr rfl⟩
              · exfalso; simp at hact
            refine ⟨fun wu31 hC hd => ?_, ?_⟩
            · obtain ⟨h22, h25, h30, _⟩ := hd
              replace h22 : V 22 = (.bool false) := h22
              replace h25 : V 25 = (.string (strOfNums (fndV id nm l).2.2.1.list)) := h25
              replace h30 : V 30 = (.string (secRef xf).2.2.1) := h30
              replace hb := hb.trans (hC.mono hb.size)
              replace hk8 := blk_ext hk8 hC
              replace hro := Row.ext hro hC
              refine ⟨true, false, congrArg some h22, fun hact => ?_, fun hact => ?_⟩
              · exact Runs.does (Runs.veq (r_sne (congrArg some h25) (congrArg some h30)) (congrArg Value.bool (show _ = false from (by rw [hfv]; simp [secRef])))) ⟨Below.refl _ _, rfl, nofr rfl⟩
              · exfalso; simp at hact
            refine ⟨fun wu32 hC hd => ?_, ?_⟩
            · obtain ⟨h13, h22, h31, _⟩ := hd
              replace h13 : V 13 = (.bool true) := h13
              replace h22 : V 22 = (.bool false) := h22
              replace h31 : V 31 = (.bool false) := h31
              replace hb := hb.trans (hC.mono hb.size)
              replace hk8 := blk_ext hk8 hC
              replace hro := Row.ext hro hC
              refine ⟨true, true, congrArg some h13, fun hact => ?_, fun hact => ?_⟩
              · exact Runs.does (r_pick (b := false) (congrArg some h22) rfl (congrArg some h31) rfl) ⟨Below.refl _ _, rfl, nofr rfl⟩
              · exfalso; simp at hact
            refine ⟨fun wu33 hC hd => ?_, ?_⟩
            · obtain ⟨h13, h22, h32, _⟩ := hd
              replace h13 : V 13 = (.bool true) := h13
              replace h22 : V 22 = (.bool false) := h22
              replace h32 : V 32 = (.bool false) := h32
              replace hb := hb.trans (hC.mono hb.size)
              replace hk8 := blk_ext hk8 hC
              replace hro := Row.ext hro hC
              refine ⟨true, true, congrArg some h13, fun hact => ?_, fun hact => ?_⟩
              · exact Runs.does (r_move (congrArg some h32)) ⟨Below.refl _ _, rfl, nofr rfl⟩
              · exfalso; simp at hact
            refine ⟨fun wu34 hC hd => ?_, ?_⟩
            · obtain ⟨h33, _⟩ := hd
              replace h33 : V 33 = (.bool false) := h33
              replace hb := hb.trans (hC.mono hb.size)
              replace hk8 := blk_ext hk8 hC
              replace hro := Row.ext hro hC
              refine ⟨true, false, congrArg some h33, fun hact => ?_, fun hact => ?_⟩
              · exact Runs.does (r_fa rfl Try.underlying119 (f := 1) (q := 1) rfl (by kernel_rfl) rfl) ⟨Below.refl _ _, rfl, nofr rfl⟩
              · exfalso; simp at hact
            refine ⟨fun wu35 hC hd => ?_, ?_⟩
            · obtain ⟨h33, h34, _⟩ := hd
              replace h33 : V 33 = (.bool false) := h33
              replace h34 : V 34 = (.pointer (some ⟨b6, 1, none⟩)) := h34
              replace hb := hb.trans (hC.mono hb.size)
              replace hk8 := blk_ext hk8 hC
              replace hro := Row.ext hro hC
              refine ⟨true, false, congrArg some h33, fun hact => ?_, fun hact => ?_⟩
              · exact Runs.does (r_load (v := (.string (fndV id nm l).2.1)) (congrArg some h34) Try.underlying9 rfl (cell_blk hk8 rfl)) ⟨Below.refl _ _, rfl, nofr rfl⟩
              · exfalso; simp at hact
            refine ⟨fun wu36 hC hd => ?_, ?_⟩
            · obtain ⟨h33, _⟩ := hd
              replace h33 : V 33 = (.bool false) := h33
              replace hb := hb.trans (hC.mono hb.size)
              replace hk8 := blk_ext hk8 hC
              replace hro := Row.ext hro hC
              refine ⟨true, false, congrArg some h33, fun hact => ?_, fun hact => ?_⟩
              · exact Runs.does (r_move rfl) ⟨Below.refl _ _, rfl, nofr rfl⟩
              · exfalso; simp at hact
            refine ⟨fun wu37 hC hd => ?_, ?_⟩
            · obtain ⟨h33, _⟩ := hd
              replace h33 : V 33 = (.bool false) := h33
              replace hb := hb.trans (hC.mono hb.size)
              replace hk8 := blk_ext hk8 hC
              replace hro := Row.ext hro hC
              refine ⟨true, false, congrArg some h33, fun hact => ?_, fun hact => ?_⟩
              · exact Runs.does (r_move rfl) ⟨Below.refl _ _, rfl, nofr rfl⟩
              · exfalso; simp at hact
            refine ⟨fun wu38 hC hd => ?_, ?_⟩
            · obtain ⟨h33, h36, h37, _⟩ := hd
              replace h33 : V 33 = (.bool false) := h33
              replace h36 : V 36 = (.slice (some ⟨rb1, 0, none⟩) ((((l.take k).map secRef)).length) roc) := h36
              replace h37 : V 37 = (.int .i64 ((jf : Nat) : Int)) := h37
              replace hb := hb.trans (hC.mono hb.size)
              replace hk8 := blk_ext hk8 hC
              replace hro := Row.ext hro hC
              refine ⟨true, false, congrArg some h33, fun hact => ?_, fun hact => ?_⟩
              · exact Runs.does (r_ixa (sz := 4) (j := jf) (congrArg some h36) (congrArg some h37) Try.underlying117 (by kernel_rfl) rfl (by omega) rfl) ⟨Below.refl _ _, rfl, nofr rfl⟩
              · exfalso; simp at hact
            refine ⟨fun wu39 hC hd => ?_, ?_⟩
            · obtain ⟨h33, h38, _⟩ := hd
              replace h33 : V 33 = (.bool false) := h33
              replace h38 : V 38 = (.pointer (some ⟨rb1, (0 + jf * 4), none⟩)) := h38
              replace hb := hb.trans (hC.mono hb.size)
              replace hk8 := blk_ext hk8 hC
              replace hro := Row.ext hro hC
              refine ⟨true, false, congrArg some h33, fun hact => ?_, fun hact => ?_⟩
              · exact Runs.does (r_fa (congrArg some h38) Try.underlying121 (f := 1) (q := ((0 + jf * 4) + 1)) rfl (by kernel_rfl) rfl) ⟨Below.refl _ _, rfl, nofr rfl⟩
              · exfalso; simp at hact
            refine ⟨fun wu40 hC hd => ?_, ?_⟩
            · obtain ⟨h33, h39, _⟩ := hd
              replace h33 : V 33 = (.bool false) := h33
              replace h39 : V 39 = (.pointer (some ⟨rb1, ((0 + jf * 4) + 1), none⟩)) := h39
              replace hb := hb.trans (hC.mono hb.size)
              replace hk8 := blk_ext hk8 hC
              replace hro := Row.ext hro hC
              refine ⟨true, false, congrArg some h33, fun hact => ?_, fun hact => ?_⟩
              · exact Runs.does (r_load (v := (.string (secRef xf).2.1)) (congrArg some h39) Try.underlying9 rfl (cellsAt_cell (cellsAt_below hel4 hC hlr2) (i := 1) rfl rfl)) ⟨Below.refl _ _, rfl, nofr rfl⟩
              · exfalso; simp at hact
            refine ⟨fun wu41 hC hd => ?_, ?_⟩
            · obtain ⟨h33, h35, h40, _⟩ := hd
              replace h33 : V 33 = (.bool false) := h33
              replace h35 : V 35 = (.string (fndV id nm l).2.1) := h35
              replace h40 : V 40 = (.string (secRef xf).2.1) := h40
              replace hb := hb.trans (hC.mono hb.size)
              replace hk8 := blk_ext hk8 hC
              replace hro := Row.ext hro hC
              refine ⟨true, false, congrArg some h33, fun hact => ?_, fun hact => ?_⟩
              · exact Runs.does (Runs.veq (r_sne (congrArg some h35) (congrArg some h40)) (congrArg Value.bool (show _ = false from (by rw [hfv]; simp [secRef])))) ⟨Below.refl _ _, rfl, nofr rfl⟩
              · exfalso; simp at hact
            refine ⟨fun wu42 hC hd => ?_, ?_⟩
            · obtain ⟨h13, h33, h41, _⟩ := hd
              replace h13 : V 13 = (.bool true) := h13
              replace h33 : V 33 = (.bool false) := h33
              replace h41 : V 41 = (.bool false) := h41
              replace hb := hb.trans (hC.mono hb.size)
              replace hk8 := blk_ext hk8 hC
              replace hro := Row.ext hro hC
              refine ⟨true, true, congrArg some h13, fun hact => ?_, fun hact => ?_⟩
              · exact Runs.does (r_pick (b := false) (congrArg some h33) rfl (congrArg some h41) rfl) ⟨Below.refl _ _, rfl, nofr rfl⟩
              · exfalso; simp at hact
            refine ⟨fun wu43 hC hd => ?_, ?_⟩
            · obtain ⟨h11, h13, h42, _⟩ := hd
              replace h11 : V 11 = (.bool false) := h11
              replace h13 : V 13 = (.bool true) := h13
              replace h42 : V 42 = (.bool false) := h42
              replace hb := hb.trans (hC.mono hb.size)
              replace hk8 := blk_ext hk8 hC
              replace hro := Row.ext hro hC
              refine ⟨true, false, congrArg some h11, fun hact => ?_, fun hact => ?_⟩
              · exact Runs.does (r_pick (b := true) (congrArg some h13) (congrArg some h42) rfl rfl) ⟨Below.refl _ _, rfl, nofr rfl⟩
              · exfalso; simp at hact
            refine ⟨fun wu44 hC hd => ?_, ?_⟩
            · obtain ⟨h11, h43, _⟩ := hd
              replace h11 : V 11 = (.bool false) := h11
              replace h43 : V 43 = (.bool false) := h43
              replace hb := hb.trans (hC.mono hb.size)
              replace hk8 := blk_ext hk8 hC
              replace hro := Row.ext hro hC
              exact Runs.does (r_pick (b := false) (congrArg some h11) rfl (congrArg some h43) rfl) ⟨Below.refl _ _, rfl, nofr rfl⟩
            trivial
          · skip
            clear hf fa; intro V w20 fa he12 hp hnb hf
            have hv0 : V 0 = (.slice ja (((joinL l).length)) jc) := postsHold_at hp 0 rfl
            have hv1 : V 1 = (.string (strOfNums (joinL l))) := postsHold_at hp 1 rfl
            have hv2 : V 2 = (.slice (some ⟨rb1, 0, none⟩) ((((l.take k).map secRef)).length) roc) := postsHold_at hp 2 rfl
            have hv3 : V 3 = (.string (strOfNums (joinL l))) := postsHold_at hp 3 rfl
            have hv4 : V 4 = (.bool false) := postsHold_at hp 4 rfl
            have hv5 : V 5 = (.bool false) := postsHold_at hp 5 rfl
            have hv6 : V 6 = (.bool (fndB id nm l)) := postsHold_at hp 6 rfl
            have hv7 : V 7 = (.int .i64 ((jf : Nat) : Int)) := postsHold_at hp 7 rfl
            have hv8 : V 8 = (.bool (decide ((0 : Int) ≤ ((jf : Nat) : Int)))) := postsHold_at hp 8 rfl
            have hv9 : V 9 = (.bool false) := postsHold_at hp 9 rfl
            have hv10 : V 10 = (.bool false) := postsHold_at hp 10 rfl
            have hv11 : V 11 = (.bool false) := postsHold_at hp 11 rfl
            have hv12 : V 12 = (.bool true) := postsHold_at hp 12 rfl
            have hv13 : V 13 = (.bool true) := postsHold_at hp 13 rfl
            have hv14 : V 14 = (.pointer (some ⟨b6, 3, none⟩)) := postsHold_at hp 14 rfl
            have hv15 : V 15 = (.int .i64 ((fndV id nm l).2.2.2.1)) := postsHold_at hp 15 rfl
            have hv16 : V 16 = (.slice a l.length c) := postsHold_at hp 16 rfl
            have hv17 : V 17 = (.int .i64 ((jf : Nat) : Int)) := postsHold_at hp 17 rfl
            have hv18 : V 18 = (.pointer (some ⟨ab2, (aoff2 + jf * 4), none⟩)) := postsHold_at hp 18 rfl
            have hv19 : V 19 = (.pointer (some ⟨ab2, ((aoff2 + jf * 4) + 3), none⟩)) := postsHold_at hp 19 rfl
            have hv20 : V 20 = (.int .i64 xf.2.2.2.1) := postsHold_at hp 20 rfl
            have hv21 : V 21 = (.bool false) := postsHold_at hp 21 rfl
            have hv22 : V 22 = (.bool false) := postsHold_at hp 22 rfl
            have hv23 : V 23 = (.pointer (some ⟨b6, 2, none⟩)) := postsHold_at hp 23 rfl
            have hv24 : V 24 = (.slice (fndV id nm l).2.2.1.at' ((fndV id nm l).2.2.1.len) (fndV id nm l).2.2.1.cap) := postsHold_at hp 24 rfl
            have hv25 : V 25 = (.string (strOfNums (fndV id nm l).2.2.1.list)) := postsHold_at hp 25 rfl
            have hv26 : V 26 = (.slice (some ⟨rb1, 0, none⟩) ((((l.take k).map secRef)).length) roc) := postsHold_at hp 26 rfl
            have hv27 : V 27 = (.int .i64 ((jf : Nat) : Int)) := postsHold_at hp 27 rfl
            have hv28 : V 28 = (.pointer (some ⟨rb1, (0 + jf * 4), none⟩)) := postsHold_at hp 28 rfl
            have hv29 : V 29 = (.pointer (some ⟨rb1, ((0 + jf * 4) + 2), none⟩)) := postsHold_at hp 29 rfl
            have hv30 : V 30 = (.string (secRef xf).2.2.1) := postsHold_at hp 30 rfl
            have hv31 : V 31 = (.bool false) := postsHold_at hp 31 rfl
            have hv32 : V 32 = (.bool false) := postsHold_at hp 32 rfl
            have hv33 : V 33 = (.bool false) := postsHold_at hp 33 rfl
            have hv34 : V 34 = (.pointer (some ⟨b6, 1, none⟩)) := postsHold_at hp 34 rfl
            have hv35 : V 35 = (.string (fndV id nm l).2.1) := postsHold_at hp 35 rfl
            have hv36 : V 36 = (.slice (some ⟨rb1, 0, none⟩) ((((l.take k).map secRef)).length) roc) := postsHold_at hp 36 rfl
            have hv37 : V 37 = (.int .i64 ((jf : Nat) : Int)) := postsHold_at hp 37 rfl
            have hv38 : V 38 = (.pointer (some ⟨rb1, (0 + jf * 4), none⟩)) := postsHold_at hp 38 rfl
            have hv39 : V 39 = (.pointer (some ⟨rb1, ((0 + jf * 4) + 1), none⟩)) := postsHold_at hp 39 rfl
            have hv40 : V 40 = (.string (secRef xf).2.1) := postsHold_at hp 40 rfl
            have hv41 : V 41 = (.bool false) := postsHold_at hp 41 rfl
            have hv42 : V 42 = (.bool false) := postsHold_at hp 42 rfl
            have hv43 : V 43 = (.bool false) := postsHold_at hp 43 rfl
            have hv44 : V 44 = (.bool false) := postsHold_at hp 44 rfl
            simp only [List.take_succ_cons, List.take_zero, insAll, ins, hv0, hv1, hv2, hv3, hv4, hv5, hv6, hv7, hv8, hv9, hv10, hv11, hv12, hv13, hv14, hv15, hv16, hv17, hv18, hv19, hv20, hv21, hv22, hv23, hv24, hv25, hv26, hv27, hv28, hv29, hv30, hv31, hv32, hv33, hv34, hv35, hv36, hv37, hv38, hv39, hv40, hv41, hv42, hv43, hv44] at hf
            clear hp hnb hv0 hv1 hv2 hv3 hv4 hv5 hv6 hv7 hv8 hv9 hv10 hv11 hv12 hv13 hv14 hv15 hv16 hv17 hv18 hv19 hv20 hv21 hv22 hv23 hv24 hv25 hv26 hv27 hv28 hv29 hv30 hv31 hv32 hv33 hv34 hv35 hv36 hv37 hv38 hv39 hv40 hv41 hv42 hv43 hv44
            replace hk8 := blk_ext hk8 he12
            replace hro := Row.ext hro he12
            replace hJ := hJ.trans (Below.mono he12 hJ.size)
            replace hb := hb.trans (Below.mono he12 hb.size)
            (try simp only [Exit.then, Exit.inBlock, ↓reduceIte, Nat.reduceEqDiff])
            refine hK31 _ _ ?_
            refine wp_cond_false (hf.ev rfl) ?_
            refine wp_skip ?_
            (try simp only [Exit.then, Exit.inBlock, ↓reduceIte, Nat.reduceEqDiff])
            refine hK30 _ _ ?_
            refine wp_seq_k (fun K32 hK32 => ?_)
            by_cases hsp2 : riseR 0 l = true
            · have hsp2b : decide (riseR 0 l = true) = true := decide_eq_true hsp2
              refine wp_region_lit ?_
              refine sqv hf (r_move rfl) rfl rfl rfl ?_; clear hf fa; intro fa hf
              refine sqdt hf (d_callX (vs := [(.slice ja (((joinL l).length)) jc)]) rfl Try.func88 (by kernel_rfl) (by kernel_rfl) (split_ok l ja jc _ (RdS.ext hjr hJ) hjc hjm hjn (by omega) hP hsp2)) rfl rfl rfl ?_; clear hf fa; rintro fa _ w21 ⟨X, aX, cX, rfl, hrX, hIX, hPX, heX⟩ hf
              replace hrX := Row.rebase hrX hb.size
              replace hIX := SRel.rebase hIX hb.size
              replace hk8 := blk_ext hk8 heX
              replace hro := Row.ext hro heX
              replace hJ := hJ.trans (Below.mono heX hJ.size)
              replace hb := hb.trans (Below.mono heX hb.size)
              have hXl : X.length = l.length := by have h := congrArg List.length hPX; rw [List.length_map, List.length_map] at h; exact h
              refine sqv hf (r_move rfl) rfl rfl rfl ?_; clear hf fa; intro fa hf
              refine sqv hf (r_extract rfl (i := 0) rfl) rfl rfl rfl ?_; clear hf fa; intro fa hf
              refine sqv hf (r_extract rfl (i := 1) rfl) rfl rfl rfl ?_; clear hf fa; intro fa hf
              refine sqdt hf (d_alloc (z := (.agg #[(.int .i64 (0 : Int)), (.int .i64 (0 : Int))])) (cs := #[(.int .i64 (0 : Int)), (.int .i64 (0 : Int))]) (by kernel_rfl) rfl) rfl rfl rfl ?_; clear hf fa; rintro fa _ w22 ⟨b7, rfl, hle8, hk9, he13⟩ hf
              have hBb7 : w.heap.size ≤ b7 := Nat.le_trans hb.size hle8
              have : b6 < b7 := Nat.lt_of_lt_of_le (blk_lt hk8) hle8
              have hUhJb7 := Nat.le_trans hJ.size hle8
              have : rb1 < b7 := Nat.lt_of_lt_of_le (Row.lt hro _ rfl).2 hle8
              replace hk8 := blk_ext hk8 he13
              replace hro := Row.ext hro he13
              replace hrX := Row.ext hrX he13
              replace hJ := hJ.trans (Below.mono he13 hJ.size)
              replace hIX := SRel.map hIX (fun bf cs hbf => blk_ext hbf he13)
              replace hb := hb.trans (Below.mono he13 hb.size)
              refine sqv hf (r_assign rfl) rfl rfl rfl ?_; clear hf fa; intro fa hf
              refine sqn hf (d_storeK (T := 90) (v := (.agg #[(.int .i64 (0 : Int)), (.int .i64 (0 : Int))])) (cs := #[(.int .i64 (0 : Int)), (.int .i64 (0 : Int))]) (cs' := #[(.int .i64 (0 : Int)), (.int .i64 (0 : Int))]) rfl rfl (by kernel_rfl) (by kernel_rfl) hk9 (by kernel_rfl) (by kernel_rfl)) rfl rfl ?_; clear hf fa; rintro fa _ w23 ⟨hk10, hg7⟩ hf
              replace hk8 := blk_grown hk8 hg7 (by omega)
              replace hro := Row.grown hro hg7 (Row.ne_type hro hk9 rfl)
              replace hrX := Row.grown hrX hg7 (Row.ne_type hrX hk9 rfl)
              replace hJ := hJ.trans (grown_below hg7 hJ.size (by omega))
              replace hIX := SRel.map hIX (fun bf cs hbf => blk_grown hbf hg7 (blk_ty hbf hk9 rfl))
              replace hb := hb.trans (grown_below hg7 hb.size hBb7)
              apply wpList_nil
              (try simp only [Exit.then, Exit.inBlock, ↓reduceIte, Nat.reduceEqDiff])
              refine hK32 _ _ ?_
              refine wp_seq_k (fun K33 hK33 => ?_)
              refine wp_seq_k (fun K34 hK34 => ?_)
              refine wp_region_lit ?_
              refine sqv hf (Runs.veq (r_move rfl) (congrArg Value.bool (show _ = true from (by rw [← hRs2]; exact hsp2)))) rfl rfl rfl ?_; clear hf fa; intro fa hf
              refine sqv hf (Runs.veq (v' := (.bool false)) (r_not rfl) rfl) rfl rfl rfl ?_; clear hf fa; intro fa hf
              apply wpList_nil
              (try simp only [Exit.then, Exit.inBlock, ↓reduceIte, Nat.reduceEqDiff])
              refine hK34 _ _ ?_
              refine wp_cond_false (hf.ev rfl) ?_
              refine wp_skip ?_
              (try simp only [Exit.then, Exit.inBlock, ↓reduceIte, Nat.reduceEqDiff])
              refine hK33 _ _ ?_
              refine wp_seq_k (fun K35 hK35 => ?_)
              refine wp_seq_k (fun K36 hK36 => ?_)
              refine wp_region_lit ?_
              refine sqv hf (r_fa rfl Try.underlying90 (f := 0) (q := 0) rfl (by kernel_rfl) rfl) rfl rfl rfl ?_; clear hf fa; intro fa hf
              refine sqv hf (r_load (v := (.int .i64 (0 : Int))) rfl Try.underlying39 rfl (cell_blk hk10 rfl)) rfl rfl rfl ?_; clear hf fa; intro fa hf
              refine sqv hf (Runs.veq (r_ne rfl rfl) (congrArg Value.bool (show _ = false from (by simp)))) rfl rfl rfl ?_; clear hf fa; intro fa hf
              refine sqv hf (r_move rfl) rfl rfl rfl ?_; clear hf fa; intro fa hf
              refine sqgd (act := true) (g := 3) (want := false) (ag := true) (c := false) hf (by rfl) (by rfl) rfl (fun _ =>  Runs.does (R := fun vq wq => vq = (.slice aX X.length cX) ∧ w23 = wq) (r_move rfl) ⟨rfl, rfl⟩) (fun h => by cases h) rfl ?_; clear hf fa; rintro fa _ _ ⟨rfl, rfl⟩ hf
              change Fr _ _ ((197, (.slice aX X.length cX)) :: _) at hf
              refine sqgd (act := true) (g := 3) (want := false) (ag := true) (c := false) hf (by rfl) (by rfl) rfl (fun _ =>  Runs.does (R := fun vq wq => vq = (.int .i64 ((X.length : Nat) : Int)) ∧ w23 = wq) (r_lensl rfl Try.underlying116) ⟨rfl, rfl⟩) (fun h => by cases h) rfl ?_; clear hf fa; rintro fa _ _ ⟨rfl, rfl⟩ hf
              change Fr _ _ ((198, (.int .i64 ((X.length : Nat) : Int))) :: _) at hf
              refine sqgd (act := true) (g := 3) (want := false) (ag := true) (c := false) hf (by rfl) (by rfl) rfl (fun _ =>  Runs.does (R := fun vq wq => vq = (.slice a l.length c) ∧ w23 = wq) (r_move rfl) ⟨rfl, rfl⟩) (fun h => by cases h) rfl ?_; clear hf fa; rintro fa _ _ ⟨rfl, rfl⟩ hf
              change Fr _ _ ((199, (.slice a l.length c)) :: _) at hf
              refine sqgd (act := true) (g := 3) (want := false) (ag := true) (c := false) hf (by rfl) (by rfl) rfl (fun _ =>  Runs.does (R := fun vq wq => vq = (.int .i64 ((l.length : Nat) : Int)) ∧ w23 = wq) (r_lensl rfl Try.underlying116) ⟨rfl, rfl⟩) (fun h => by cases h) rfl ?_; clear hf fa; rintro fa _ _ ⟨rfl, rfl⟩ hf
              change Fr _ _ ((200, (.int .i64 ((l.length : Nat) : Int))) :: _) at hf
              refine sqgd (act := true) (g := 3) (want := false) (ag := true) (c := false) hf (by rfl) (by rfl) rfl (fun _ =>  Runs.does (R := fun vq wq => vq = (.bool false) ∧ w23 = wq) (Runs.veq (r_ne rfl rfl) (congrArg Value.bool (show _ = false from (by rw [hXl]; simp)))) ⟨rfl, rfl⟩) (fun h => by cases h) rfl ?_; clear hf fa; rintro fa _ _ ⟨rfl, rfl⟩ hf
              change Fr _ _ ((201, (.bool false)) :: _) at hf
              refine sqv hf (r_pick (b := false) rfl rfl rfl rfl) rfl rfl rfl ?_; clear hf fa; intro fa hf
              apply wpList_nil
              (try simp only [Exit.then, Exit.inBlock, ↓reduceIte, Nat.reduceEqDiff])
              refine hK36 _ _ ?_
              refine wp_cond_false (hf.ev rfl) ?_
              refine wp_skip ?_
              (try simp only [Exit.then, Exit.inBlock, ↓reduceIte, Nat.reduceEqDiff])
              refine hK35 _ _ ?_
              refine wp_seq_k (fun K37 hK37 => ?_)
              refine wp_seq_k (fun K38 hK38 => ?_)
              refine wp_region_lit ?_
              refine sqv hf (r_assign rfl) rfl rfl rfl ?_; clear hf fa; intro fa hf
              apply wpList_nil
              (try simp only [Exit.then, Exit.inBlock, ↓reduceIte, Nat.reduceEqDiff])
              refine hK38 _ _ ?_
              refine wp_block ?_
              refine wp_loop_k (fun mq fa wr => ∃ (kk : Nat), mq = l.length - kk ∧ Fr 256 fa [(0, (.slice a l.length c)), (1, (.int .u8 id)), (2, (.string nm)), (6, (.bool false)), (16, (.slice aX X.length cX)), (18, (.int .i64 ((kk : Nat) : Int)))] ∧ Below w.heap.size w wr ∧ Row 4 vMSec 119 (w.heap.size) wr (.slice aX (X.length) cX) X ∧ (kk ≤ l.length) ∧ (SRel w.heap.size wr X)) ?_ ?_
              · skip
                exact ⟨_, 0, rfl, hf.sub ⟨rfl, rfl, rfl, rfl, rfl, (some_int (by first | rfl | omega)), trivial⟩, hb, hrX, by omega, hIX⟩
              · skip
                clear hf fa; intro mq2 fa w24 hI KL2 hKL2
                clear hb
                clear hk8
                clear hk10
                clear hro
                clear hrX
                obtain ⟨kk, hmq2, hf, hb, hrX, hk2, hIX⟩ := hI
                have hcrX := Row.caps hrX
                refine wp_seq_k (fun K39 hK39 => ?_)
                refine wp_seq_k (fun K40 hK40 => ?_)
                refine wp_region_lit ?_
                refine sqv hf (r_move rfl) rfl rfl rfl ?_; clear hf fa; intro fa hf
                refine sqv hf (r_move rfl) rfl rfl rfl ?_; clear hf fa; intro fa hf
                refine sqv hf (r_lensl rfl Try.underlying116) rfl rfl rfl ?_; clear hf fa; intro fa hf
                refine sqv hf (r_lt rfl rfl) rfl rfl rfl ?_; clear hf fa; intro fa hf
                apply wpList_nil
                (try simp only [Exit.then, Exit.inBlock, ↓reduceIte, Nat.reduceEqDiff])
                refine hK40 _ _ ?_
                refine wp_cond_split (t := (decide (((kk : Nat) : Int) < ((l.length : Nat) : Int)))) (hf.ev rfl) (fun hqt206_1 => ?_) (fun hqt206_1 => ?_)
                · have hqt206_1b := hqt206_1
                  try simp only [decide_eq_true_eq, Bool.and_eq_true, Bool.or_eq_true, Bool.not_eq_true', decide_eq_false_iff_not, ne_eq, Bool.not_eq_true] at hqt206_1
                  refine wp_skip ?_
                  (try simp only [Exit.then, Exit.inBlock, ↓reduceIte, Nat.reduceEqDiff])
                  refine hK39 _ _ ?_
                  refine wp_seq_k (fun K41 hK41 => ?_)
                  refine wp_block ?_
                  refine wp_seq_k (fun K42 hK42 => ?_)
                  obtain ⟨y, hy⟩ : ∃ y, l[kk]? = some y := ⟨_, List.getElem?_eq_getElem (by omega)⟩
                  have hym := List.mem_of_getElem? hy
                  have hyrd := (hG y hym).rd
                  have hyl := Sl.list_length y.2.2.1
                  obtain ⟨xb, hxb⟩ : ∃ x, X[kk]? = some x := ⟨_, List.getElem?_eq_getElem (by omega)⟩
                  have hxbm := List.mem_of_getElem? hxb
                  have hrx := hIX xb hxbm
                  have hxl := Sl.list_length xb.2.2.1
                  have hkb := keyB_at hPX hxb hy
                  have hsz1 := strOfNums_size y.2.2.1.list
                  have hsz2 := strOfNums_size xb.2.2.1.list
                  obtain ⟨rb2, rfl, hbbrb2, hlbrb2⟩ := Row.some hrX (by first | omega | (simp only [Sl.list_length, List.length_set, List.length_take, List.length_append, List.length_replicate, List.length_cons, List.length_nil, List.length_map, nums_len]; omega))
                  have hy5 : (X)[kk]? = some xb := hxb
                  have hel5 := RdS.at (Row.rd (by intros; rfl) hrX) hy5
                  obtain ⟨_, _, hab, hlr3, hel5⟩ := hel5
                  cases hab
                  have hy6 : (l)[kk]? = some y := hy
                  obtain ⟨_, _, hab1, hlb3, hel6⟩ := RdS.at hl hy6
                  rw [hat2] at hab1; cases hab1
                  have hy7 : (X)[kk]? = some xb := hxb
                  have hel7 := RdS.at (Row.rd (by intros; rfl) hrX) hy7
                  obtain ⟨_, _, hab, hlr4, hel7⟩ := hel7
                  cases hab
                  have hy8 : (X)[kk]? = some xb := hxb
                  have hel8 := RdS.at (Row.rd (by intros; rfl) hrX) hy8
                  obtain ⟨_, _, hab, hlr5, hel8⟩ := hel8
                  cases hab
                  refine wp_region_un (fun wq => Below w24.heap.size w24 wq) (fun w w' => Below w.heap.size w w')
                    (fun V => [(fun x _ => x = (.slice (some ⟨rb2, 0, none⟩) X.length cX)), (fun x _ => x = (.int .i64 ((kk : Nat) : Int))), (fun x _ => x = (.pointer (some ⟨rb2, (0 + kk * 4), none⟩))), (fun x _ => x = (.pointer (some ⟨rb2, (0 + kk * 4), none⟩))), (fun x _ => x = (.int .u8 xb.1)), (fun x _ => x = (.slice a l.length c)), (fun x _ => x = (.int .i64 ((kk : Nat) : Int))), (fun x _ => x = (.pointer (some ⟨ab2, (aoff2 + kk * 4), none⟩))), (fun x _ => x = (.pointer (some ⟨ab2, (aoff2 + kk * 4), none⟩))), (fun x _ => x = (.int .u8 y.1)), (fun x _ => x = (.bool false)), (fun x _ => x = (.bool false)), (fun x _ => x = (.slice a l.length c)), (fun x _ => x = (.int .i64 ((kk : Nat) : Int))), (fun x _ => x = (.pointer (some ⟨ab2, (aoff2 + kk * 4), none⟩))), (fun x _ => x = (.pointer (some ⟨ab2, (aoff2 + kk * 4), none⟩))), (fun x _ => x = (.int .u8 y.1)), (fun x _ => x = (.bool (decide (y.1 = (0 : Int))))), (fun x _ => x = (.bool (decide (y.1 = (0 : Int))))), (fun x _ => x = (gb (decide (y.1 = (0 : Int))) (.slice (some ⟨rb2, 0, none⟩) X.length cX))), (fun x _ => x = (gb (decide (y.1 = (0 : Int))) (.int .i64 ((kk : Nat) : Int)))), (fun x _ => x = (gb (decide (y.1 = (0 : Int))) (.pointer (some ⟨rb2, (0 + kk * 4), none⟩)))), (fun x _ => x = (gb (decide (y.1 = (0 : Int))) (.pointer (some ⟨rb2, ((0 + kk * 4) + 1), none⟩)))), (fun x _ => x = (gb (decide (y.1 = (0 : Int))) (.string xb.2.1))), (fun x _ => x = (gb (decide (y.1 = (0 : Int))) (.slice a l.length c))), (fun x _ => x = (gb (decide (y.1 = (0 : Int))) (.int .i64 ((kk : Nat) : Int)))), (fun x _ => x = (gb (decide (y.1 = (0 : Int))) (.pointer (some ⟨ab2, (aoff2 + kk * 4), none⟩)))), (fun x _ => x = (gb (decide (y.1 = (0 : Int))) (.pointer (some ⟨ab2, ((aoff2 + kk * 4) + 1), none⟩)))), (fun x _ => x = (gb (decide (y.1 = (0 : Int))) (.string y.2.1))), (fun x _ => x = (gb (decide (y.1 = (0 : Int))) (.bool (decide (xb.2.1 ≠ y.2.1))))), (fun x _ => x = (.bool false)), (fun x _ => x = (.bool false)), (fun x _ => x = (.bool false)), (fun x _ => x = (.slice (some ⟨rb2, 0, none⟩) X.length cX)), (fun x _ => x = (.int .i64 ((kk : Nat) : Int))), (fun x _ => x = (.pointer (some ⟨rb2, (0 + kk * 4), none⟩))), (fun x _ => x = (.pointer (some ⟨rb2, ((0 + kk * 4) + 2), none⟩))), (fun x _ => x = (.slice xb.2.2.1.at' xb.2.2.1.len xb.2.2.1.cap)), (fun x _ => x = (.string (strOfNums xb.2.2.1.list))), (fun x _ => x = (.slice a l.length c)), (fun x _ => x = (.int .i64 ((kk : Nat) : Int))), (fun x _ => x = (.pointer (some ⟨ab2, (aoff2 + kk * 4), none⟩))), (fun x _ => x = (.pointer (some ⟨ab2, ((aoff2 + kk * 4) + 2), none⟩))), (fun x _ => x = (.slice y.2.2.1.at' y.2.2.1.len y.2.2.1.cap)), (fun x _ => x = (.string (strOfNums y.2.2.1.list))), (fun x _ => x = (.bool false)), (fun x _ => x = (.bool false))])
                    []
                    [[], [], [0, 1], [2], [3], [], [], [5, 6], [7], [8], [4, 9], [10], [11], [11], [11, 12, 13], [11, 14], [11, 15], [11, 16], [11, 17], [18], [18], [18, 19, 20], [18, 21], [18, 22], [18], [18], [18, 24, 25], [18, 26], [18, 27], [18, 23, 28], [11, 18, 29], [11, 30], [18, 31], [32], [32], [32, 33, 34], [32, 35], [32, 36], [32, 37], [32], [32], [32, 39, 40], [32, 41], [32, 42], [32, 43], [32, 38, 44], [32, 45]]
                    hf (by kernel_rfl) (by kernel_rfl) (fun _ => rfl) ((Below.refl _ _).drew) (fun a b h1 h2 => h1.trans (h2.mono h1.size)) (fun _ _ h => h.size) (fun V => ⟨kept_eq, kept_eq, kept_eq, kept_eq, kept_eq, kept_eq, kept_eq, kept_eq, kept_eq, kept_eq, kept_eq, kept_eq, kept_eq, kept_eq, kept_eq, kept_eq, kept_eq, kept_eq, kept_eq, kept_eq, kept_eq, kept_eq, kept_eq, kept_eq, kept_eq, kept_eq, kept_eq, kept_eq, kept_eq, kept_eq, kept_eq, kept_eq, kept_eq, kept_eq, kept_eq, kept_eq, kept_eq, kept_eq, kept_eq, kept_eq, kept_eq, kept_eq, kept_eq, kept_eq, kept_eq, kept_eq, kept_eq, trivial⟩) (fun _ _ _ _ _ => rfl) ?_ ?_
                  · skip
                    intro V
                    refine ⟨fun wu0 hC hd => ?_, ?_⟩
                    · clear hd
                      replace hb := hb.trans (hC.mono hb.size)
                      replace hrX := Row.ext hrX hC
                      replace hrx := Row.ext hrx hC
                      exact Runs.does (r_move rfl) ⟨Below.refl _ _, rfl, nofr rfl⟩
                    refine ⟨fun wu1 hC hd => ?_, ?_⟩
                    · clear hd
                      replace hb := hb.trans (hC.mono hb.size)
                      replace hrX := Row.ext hrX hC
                      replace hrx := Row.ext hrx hC
                      exact Runs.does (r_move rfl) ⟨Below.refl _ _, rfl, nofr rfl⟩
                    refine ⟨fun wu2 hC hd => ?_, ?_⟩
                    · obtain ⟨h0, h1, _⟩ := hd
                      replace h0 : V 0 = (.slice (some ⟨rb2, 0, none⟩) X.length cX) := h0
                      replace h1 : V 1 = (.int .i64 ((kk : Nat) : Int)) := h1
                      replace hb := hb.trans (hC.mono hb.size)
                      replace hrX := Row.ext hrX hC
                      replace hrx := Row.ext hrx hC
                      exact Runs.does (r_ixa (sz := 4) (j := kk) (congrArg some h0) (congrArg some h1) Try.underlying116 (by kernel_rfl) rfl (by omega) rfl) ⟨Below.refl _ _, rfl, nofr rfl⟩
                    refine ⟨fun wu3 hC hd => ?_, ?_⟩
                    · obtain ⟨h2, _⟩ := hd
                      replace h2 : V 2 = (.pointer (some ⟨rb2, (0 + kk * 4), none⟩)) := h2
                      replace hb := hb.trans (hC.mono hb.size)
                      replace hrX := Row.ext hrX hC
                      replace hrx := Row.ext hrx hC
                      exact Runs.does (r_fa (congrArg some h2) Try.underlying119 (f := 0) (q := (0 + kk * 4)) rfl (by kernel_rfl) rfl) ⟨Below.refl _ _, rfl, nofr rfl⟩
                    refine ⟨fun wu4 hC hd => ?_, ?_⟩
                    · obtain ⟨h3, _⟩ := hd
                      replace h3 : V 3 = (.pointer (some ⟨rb2, (0 + kk * 4), none⟩)) := h3
                      replace hb := hb.trans (hC.mono hb.size)
                      replace hrX := Row.ext hrX hC
                      replace hrx := Row.ext hrx hC
                      exact Runs.does (r_load (v := (.int .u8 xb.1)) (congrArg some h3) Try.underlying5 rfl (cellsAt_cell (cellsAt_below hel5 hC hlr3) (i := 0) rfl rfl)) ⟨Below.refl _ _, rfl, nofr rfl⟩
                    refine ⟨fun wu5 hC hd => ?_, ?_⟩
                    · clear hd
                      replace hb := hb.trans (hC.mono hb.size)
                      replace hrX := Row.ext hrX hC
                      replace hrx := Row.ext hrx hC
                      exact Runs.does (r_move rfl) ⟨Below.refl _ _, rfl, nofr rfl⟩
                    refine ⟨fun wu6 hC hd => ?_, ?_⟩
                    · clear hd
                      replace hb := hb.trans (hC.mono hb.size)
                      replace hrX := Row.ext hrX hC
                      replace hrx := Row.ext hrx hC
                      exact Runs.does (r_move rfl) ⟨Below.refl _ _, rfl, nofr rfl⟩
                    refine ⟨fun wu7 hC hd => ?_, ?_⟩
                    · obtain ⟨h5, h6, _⟩ := hd
                      replace h5 : V 5 = (.slice a l.length c) := h5
                      replace h6 : V 6 = (.int .i64 ((kk : Nat) : Int)) := h6
                      replace hb := hb.trans (hC.mono hb.size)
                      replace hrX := Row.ext hrX hC
                      replace hrx := Row.ext hrx hC
                      exact Runs.does (r_ixa (sz := 4) (j := kk) (evAt (congrArg some h5) hat2) (congrArg some h6) Try.underlying116 (by kernel_rfl) rfl (by omega) rfl) ⟨Below.refl _ _, rfl, nofr rfl⟩
                    refine ⟨fun wu8 hC hd => ?_, ?_⟩
                    · obtain ⟨h7, _⟩ := hd
                      replace h7 : V 7 = (.pointer (some ⟨ab2, (aoff2 + kk * 4), none⟩)) := h7
                      replace hb := hb.trans (hC.mono hb.size)
                      replace hrX := Row.ext hrX hC
                      replace hrx := Row.ext hrx hC
                      exact Runs.does (r_fa (congrArg some h7) Try.underlying119 (f := 0) (q := (aoff2 + kk * 4)) rfl (by kernel_rfl) rfl) ⟨Below.refl _ _, rfl, nofr rfl⟩
                    refine ⟨fun wu9 hC hd => ?_, ?_⟩
                    · obtain ⟨h8, _⟩ := hd
                      replace h8 : V 8 = (.pointer (some ⟨ab2, (aoff2 + kk * 4), none⟩)) := h8
                      replace hb := hb.trans (hC.mono hb.size)
                      replace hrX := Row.ext hrX hC
                      replace hrx := Row.ext hrx hC
                      exact Runs.does (r_load (v := (.int .u8 y.1)) (congrArg some h8) Try.underlying5 rfl (cellsAt_cell (cellsAt_below hel6 hb hlb3) (i := 0) rfl rfl)) ⟨Below.refl _ _, rfl, nofr rfl⟩
                    refine ⟨fun wu10 hC hd => ?_, ?_⟩
                    · obtain ⟨h4, h9, _⟩ := hd
                      replace h4 : V 4 = (.int .u8 xb.1) := h4
                      replace h9 : V 9 = (.int .u8 y.1) := h9
                      replace hb := hb.trans (hC.mono hb.size)
                      replace hrX := Row.ext hrX hC
                      replace hrx := Row.ext hrx hC
                      exact Runs.does (Runs.veq (r_ne (congrArg some h4) (congrArg some h9)) (congrArg Value.bool (show _ = false from (by rw [hkb.1]; simp)))) ⟨Below.refl _ _, rfl, nofr rfl⟩
                    refine ⟨fun wu11 hC hd => ?_, ?_⟩
                    · obtain ⟨h10, _⟩ := hd
                      replace h10 : V 10 = (.bool false) := h10
                      replace hb := hb.trans (hC.mono hb.size)
                      replace hrX := Row.ext hrX hC
                      replace hrx := Row.ext hrx hC
                      exact Runs.does (r_move (congrArg some h10)) ⟨Below.refl _ _, rfl, nofr rfl⟩
                    refine ⟨fun wu12 hC hd => ?_, ?_⟩
                    · obtain ⟨h11, _⟩ := hd
                      replace h11 : V 11 = (.bool false) := h11
                      replace hb := hb.trans (hC.mono hb.size)
                      replace hrX := Row.ext hrX hC
                      replace hrx := Row.ext hrx hC
                      refine ⟨true, false, congrArg some h11, fun hact => ?_, fun hact => ?_⟩
                      · exact Runs.does (r_move rfl) ⟨Below.refl _ _, rfl, nofr rfl⟩
                      · exfalso; simp at hact
                    refine ⟨fun wu13 hC hd => ?_, ?_⟩
                    · obtain ⟨h11, _⟩ := hd
                      replace h11 : V 11 = (.bool false) := h11
                      replace hb := hb.trans (hC.mono hb.size)
                      replace hrX := Row.ext hrX hC
                      replace hrx := Row.ext hrx hC
                      refine ⟨true, false, congrArg some h11, fun hact => ?_, fun hact => ?_⟩
                      · exact Runs.does (r_move rfl) ⟨Below.refl _ _, rfl, nofr rfl⟩
                      · exfalso; simp at hact
                    refine ⟨fun wu14 hC hd => ?_, ?_⟩
                    · obtain ⟨h11, h12, h13, _⟩ := hd
                      replace h11 : V 11 = (.bool false) := h11
                      replace h12 : V 12 = (.slice a l.length c) := h12
                      replace h13 : V 13 = (.int .i64 ((kk : Nat) : Int)) := h13
                      replace hb := hb.trans (hC.mono hb.size)
                      replace hrX := Row.ext hrX hC
                      replace hrx := Row.ext hrx hC
                      refine ⟨true, false, congrArg some h11, fun hact => ?_, fun hact => ?_⟩
                      · exact Runs.does (r_ixa (sz := 4) (j := kk) (evAt (congrArg some h12) hat2) (congrArg some h13) Try.underlying116 (by kernel_rfl) rfl (by omega) rfl) ⟨Below.refl _ _, rfl, nofr rfl⟩
                      · exfalso; simp at hact
                    refine ⟨fun wu15 hC hd => ?_, ?_⟩
                    · obtain ⟨h11, h14, _⟩ := hd
                      replace h11 : V 11 = (.bool false) := h11
                      replace h14 : V 14 = (.pointer (some ⟨ab2, (aoff2 + kk * 4), none⟩)) := h14
                      replace hb := hb.trans (hC.mono hb.size)
                      replace hrX := Row.ext hrX hC
                      replace hrx := Row.ext hrx hC
                      refine ⟨true, false, congrArg some h11, fun hact => ?_, fun hact => ?_⟩
                      · exact Runs.does (r_fa (congrArg some h14) Try.underlying119 (f := 0) (q := (aoff2 + kk * 4)) rfl (by kernel_rfl) rfl) ⟨Below.refl _ _, rfl, nofr rfl⟩
                      · exfalso; simp at hact
                    refine ⟨fun wu16 hC hd => ?_, ?_⟩
                    · obtain ⟨h11, h15, _⟩ := hd
                      replace h11 : V 11 = (.bool false) := h11
                      replace h15 : V 15 = (.pointer (some ⟨ab2, (aoff2 + kk * 4), none⟩)) := h15
                      replace hb := hb.trans (hC.mono hb.size)
                      replace hrX := Row.ext hrX hC
                      replace hrx := Row.ext hrx hC
                      refine ⟨true, false, congrArg some h11, fun hact => ?_, fun hact => ?_⟩
                      · exact Runs.does (r_load (v := (.int .u8 y.1)) (congrArg some h15) Try.underlying5 rfl (cellsAt_cell (cellsAt_below hel6 hb hlb3) (i := 0) rfl rfl)) ⟨Below.refl _ _, rfl, nofr rfl⟩
                      · exfalso; simp at hact
                    refine ⟨fun wu17 hC hd => ?_, ?_⟩
                    · obtain ⟨h11, h16, _⟩ := hd
                      replace h11 : V 11 = (.bool false) := h11
                      replace h16 : V 16 = (.int .u8 y.1) := h16
                      replace hb := hb.trans (hC.mono hb.size)
                      replace hrX := Row.ext hrX hC
                      replace hrx := Row.ext hrx hC
                      refine ⟨true, false, congrArg some h11, fun hact => ?_, fun hact => ?_⟩
                      · exact Runs.does (r_eq (congrArg some h16) rfl) ⟨Below.refl _ _, rfl, nofr rfl⟩
                      · exfalso; simp at hact
                    refine ⟨fun wu18 hC hd => ?_, ?_⟩
                    · obtain ⟨h11, h17, _⟩ := hd
                      replace h11 : V 11 = (.bool false) := h11
                      replace h17 : V 17 = (.bool (decide (y.1 = (0 : Int)))) := h17
                      replace hb := hb.trans (hC.mono hb.size)
                      replace hrX := Row.ext hrX hC
                      replace hrx := Row.ext hrx hC
                      refine ⟨true, false, congrArg some h11, fun hact => ?_, fun hact => ?_⟩
                      · exact Runs.does (r_move (congrArg some h17)) ⟨Below.refl _ _, rfl, nofr rfl⟩
                      · exfalso; simp at hact
                    refine ⟨fun wu19 hC hd => ?_, ?_⟩
                    · obtain ⟨h18, _⟩ := hd
                      replace h18 : V 18 = (.bool (decide (y.1 = (0 : Int)))) := h18
                      replace hb := hb.trans (hC.mono hb.size)
                      replace hrX := Row.ext hrX hC
                      replace hrx := Row.ext hrx hC
                      refine ⟨true, (decide (y.1 = (0 : Int))), congrArg some h18, fun hact => ?_, fun hact => ?_⟩
                      · replace hact : (decide (y.1 = (0 : Int))) = true := by simpa using hact
                        refine Runs.does (v := (.slice (some ⟨rb2, 0, none⟩) X.length cX)) (r_move rfl) ⟨Below.refl _ _, ?_, nofr rfl⟩
                        show _ = gb _ _; rw [hact]; rfl
                      · replace hact : (decide (y.1 = (0 : Int))) = false := by simpa using hact
                        refine ⟨Below.refl _ _, ?_, nofr rfl⟩
                        show _ = gb _ _; rw [hact]; rfl
                    refine ⟨fun wu20 hC hd => ?_, ?_⟩
                    · obtain ⟨h18, _⟩ := hd
                      replace h18 : V 18 = (.bool (decide (y.1 = (0 : Int)))) := h18
                      replace hb := hb.trans (hC.mono hb.size)
                      replace hrX := Row.ext hrX hC
                      replace hrx := Row.ext hrx hC
                      refine ⟨true, (decide (y.1 = (0 : Int))), congrArg some h18, fun hact => ?_, fun hact => ?_⟩
                      · replace hact : (decide (y.1 = (0 : Int))) = true := by simpa using hact
                        refine Runs.does (v := (.int .i64 ((kk : Nat) : Int))) (r_move rfl) ⟨Below.refl _ _, ?_, nofr rfl⟩
                        show _ = gb _ _; rw [hact]; rfl
                      · replace hact : (decide (y.1 = (0 : Int))) = false := by simpa using hact
                        refine ⟨Below.refl _ _, ?_, nofr rfl⟩
                        show _ = gb _ _; rw [hact]; rfl
                    refine ⟨fun wu21 hC hd => ?_, ?_⟩
                    · obtain ⟨h18, h19, h20, _⟩ := hd
                      replace h18 : V 18 = (.bool (decide (y.1 = (0 : Int)))) := h18
                      replace h19 : V 19 = (gb (decide (y.1 = (0 : Int))) (.slice (some ⟨rb2, 0, none⟩) X.length cX)) := h19
                      replace h20 : V 20 = (gb (decide (y.1 = (0 : Int))) (.int .i64 ((kk : Nat) : Int))) := h20
                      replace hb := hb.trans (hC.mono hb.size)
                      replace hrX := Row.ext hrX hC
                      replace hrx := Row.ext hrx hC
                      refine ⟨true, (decide (y.1 = (0 : Int))), congrArg some h18, fun hact => ?_, fun hact => ?_⟩
                      · replace hact : (decide (y.1 = (0 : Int))) = true := by simpa using hact
                        refine Runs.does (v := (.pointer (some ⟨rb2, (0 + kk * 4), none⟩))) (by have hact0 := hact; (try simp only [Bool.and_eq_true, Bool.not_eq_true', Bool.or_eq_false_iff, Bool.or_eq_true, Bool.and_eq_false_iff, ne_eq, decide_eq_true_eq, decide_eq_false_iff_not] at hact0); exact (r_ixa (sz := 4) (j := kk) (gb_ev hact (congrArg some h19)) (gb_ev hact (congrArg some h20)) Try.underlying116 (by kernel_rfl) rfl (by omega) rfl)) ⟨Below.refl _ _, ?_, nofr rfl⟩
                        show _ = gb _ _; rw [hact]; rfl
                      · replace hact : (decide (y.1 = (0 : Int))) = false := by simpa using hact
                        refine ⟨Below.refl _ _, ?_, nofr rfl⟩
                        show _ = gb _ _; rw [hact]; rfl
                    refine ⟨fun wu22 hC hd => ?_, ?_⟩
                    · obtain ⟨h18, h21, _⟩ := hd
                      replace h18 : V 18 = (.bool (decide (y.1 = (0 : Int)))) := h18
                      replace h21 : V 21 = (gb (decide (y.1 = (0 : Int))) (.pointer (some ⟨rb2, (0 + kk * 4), none⟩))) := h21
                      replace hb := hb.trans (hC.mono hb.size)
                      replace hrX := Row.ext hrX hC
                      replace hrx := Row.ext hrx hC
                      refine ⟨true, (decide (y.1 = (0 : Int))), congrArg some h18, fun hact => ?_, fun hact => ?_⟩
                      · replace hact : (decide (y.1 = (0 : Int))) = true := by simpa using hact
                        refine Runs.does (v := (.pointer (some ⟨rb2, ((0 + kk * 4) + 1), none⟩))) (r_fa (gb_ev hact (congrArg some h21)) Try.underlying119 (f := 1) (q := ((0 + kk * 4) + 1)) rfl (by kernel_rfl) rfl) ⟨Below.refl _ _, ?_, nofr rfl⟩
                        show _ = gb _ _; rw [hact]; rfl
                      · replace hact : (decide (y.1 = (0 : Int))) = false := by simpa using hact
                        refine ⟨Below.refl _ _, ?_, nofr rfl⟩
                        show _ = gb _ _; rw [hact]; rfl
                    refine ⟨fun wu23 hC hd => ?_, ?_⟩
                    · obtain ⟨h18, h22, _⟩ := hd
                      replace h18 : V 18 = (.bool (decide (y.1 = (0 : Int)))) := h18
                      replace h22 : V 22 = (gb (decide (y.1 = (0 : Int))) (.pointer (some ⟨rb2, ((0 + kk * 4) + 1), none⟩))) := h22
                      replace hb := hb.trans (hC.mono hb.size)
                      replace hrX := Row.ext hrX hC
                      replace hrx := Row.ext hrx hC
                      refine ⟨true, (decide (y.1 = (0 : Int))), congrArg some h18, fun hact => ?_, fun hact => ?_⟩
                      · replace hact : (decide (y.1 = (0 : Int))) = true := by simpa using hact
                        refine Runs.does (v := (.string xb.2.1)) (r_load (v := (.string xb.2.1)) (gb_ev hact (congrArg some h22)) Try.underlying9 rfl (cellsAt_cell (cellsAt_below hel7 hC hlr4) (i := 1) rfl rfl)) ⟨Below.refl _ _, ?_, nofr rfl⟩
                        show _ = gb _ _; rw [hact]; rfl
                      · replace hact : (decide (y.1 = (0 : Int))) = false := by simpa using hact
                        refine ⟨Below.refl _ _, ?_, nofr rfl⟩
                        show _ = gb _ _; rw [hact]; rfl
                    refine ⟨fun wu24 hC hd => ?_, ?_⟩
                    · obtain ⟨h18, _⟩ := hd
                      replace h18 : V 18 = (.bool (decide (y.1 = (0 : Int)))) := h18
                      replace hb := hb.trans (hC.mono hb.size)
                      replace hrX := Row.ext hrX hC
                      replace hrx := Row.ext hrx hC
                      refine ⟨true, (decide (y.1 = (0 : Int))), congrArg some h18, fun hact => ?_, fun hact => ?_⟩
                      · replace hact : (decide (y.1 = (0 : Int))) = true := by simpa using hact
                        refine Runs.does (v := (.slice a l.length c)) (r_move rfl) ⟨Below.refl _ _, ?_, nofr rfl⟩
                        show _ = gb _ _; rw [hact]; rfl
                      · replace hact : (decide (y.1 = (0 : Int))) = false := by simpa using hact
                        refine ⟨Below.refl _ _, ?_, nofr rfl⟩
                        show _ = gb _ _; rw [hact]; rfl
                    refine ⟨fun wu25 hC hd => ?_, ?_⟩
                    · obtain ⟨h18, _⟩ := hd
                      replace h18 : V 18 = (.bool (decide (y.1 = (0 : Int)))) := h18
                      replace hb := hb.trans (hC.mono hb.size)
                      replace hrX := Row.ext hrX hC
                      replace hrx := Row.ext hrx hC
                      refine ⟨true, (decide (y.1 = (0 : Int))), congrArg some h18, fun hact => ?_, fun hact => ?_⟩
                      · replace hact : (decide (y.1 = (0 : Int))) = true := by simpa using hact
                        refine Runs.does (v := (.int .i64 ((kk : Nat) : Int))) (r_move rfl) ⟨Below.refl _ _, ?_, nofr rfl⟩
                        show _ = gb _ _; rw [hact]; rfl
                      · replace hact : (decide (y.1 = (0 : Int))) = false := by simpa using hact
                        refine ⟨Below.refl _ _, ?_, nofr rfl⟩
                        show _ = gb _ _; rw [hact]; rfl
                    refine ⟨fun wu26 hC hd => ?_, ?_⟩
                    · obtain ⟨h18, h24, h25, _⟩ := hd
                      replace h18 : V 18 = (.bool (decide (y.1 = (0 : Int)))) := h18
                      replace h24 : V 24 = (gb (decide (y.1 = (0 : Int))) (.slice a l.length c)) := h24
                      replace h25 : V 25 = (gb (decide (y.1 = (0 : Int))) (.int .i64 ((kk : Nat) : Int))) := h25
                      replace hb := hb.trans (hC.mono hb.size)
                      replace hrX := Row.ext hrX hC
                      replace hrx := Row.ext hrx hC
                      refine ⟨true, (decide (y.1 = (0 : Int))), congrArg some h18, fun hact => ?_, fun hact => ?_⟩
                      · replace hact : (decide (y.1 = (0 : Int))) = true := by simpa using hact
                        refine Runs.does (v := (.pointer (some ⟨ab2, (aoff2 + kk * 4), none⟩))) (by have hact0 := hact; (try simp only [Bool.and_eq_true, Bool.not_eq_true', Bool.or_eq_false_iff, Bool.or_eq_true, Bool.and_eq_false_iff, ne_eq, decide_eq_true_eq, decide_eq_false_iff_not] at hact0); exact (r_ixa (sz := 4) (j := kk) (evAt (gb_ev hact (congrArg some h24)) hat2) (gb_ev hact (congrArg some h25)) Try.underlying116 (by kernel_rfl) rfl (by omega) rfl)) ⟨Below.refl _ _, ?_, nofr rfl⟩
                        show _ = gb _ _; rw [hact]; rfl
                      · replace hact : (decide (y.1 = (0 : Int))) = false := by simpa using hact
                        refine ⟨Below.refl _ _, ?_, nofr rfl⟩
                        show _ = gb _ _; rw [hact]; rfl
                    refine ⟨fun wu27 hC hd => ?_, ?_⟩
                    · obtain ⟨h18, h26, _⟩ := hd
                      replace h18 : V 18 = (.bool (decide (y.1 = (0 : Int)))) := h18
                      replace h26 : V 26 = (gb (decide (y.1 = (0 : Int))) (.pointer (some ⟨ab2, (aoff2 + kk * 4), none⟩))) := h26
                      replace hb := hb.trans (hC.mono hb.size)
                      replace hrX := Row.ext hrX hC
                      replace hrx := Row.ext hrx hC
                      refine ⟨true, (decide (y.1 = (0 : Int))), congrArg some h18, fun hact => ?_, fun hact => ?_⟩
                      · replace hact : (decide (y.1 = (0 : Int))) = true := by simpa using hact
                        refine Runs.does (v := (.pointer (some ⟨ab2, ((aoff2 + kk * 4) + 1), none⟩))) (r_fa (gb_ev hact (congrArg some h26)) Try.underlying119 (f := 1) (q := ((aoff2 + kk * 4) + 1)) rfl (by kernel_rfl) rfl) ⟨Below.refl _ _, ?_, nofr rfl⟩
                        show _ = gb _ _; rw [hact]; rfl
                      · replace hact : (decide (y.1 = (0 : Int))) = false := by simpa using hact
                        refine ⟨Below.refl _ _, ?_, nofr rfl⟩
                        show _ = gb _ _; rw [hact]; rfl
                    refine ⟨fun wu28 hC hd => ?_, ?_⟩
                    · obtain ⟨h18, h27, _⟩ := hd
                      replace h18 : V 18 = (.bool (decide (y.1 = (0 : Int)))) := h18
                      replace h27 : V 27 = (gb (decide (y.1 = (0 : Int))) (.pointer (some ⟨ab2, ((aoff2 + kk * 4) + 1), none⟩))) := h27
                      replace hb := hb.trans (hC.mono hb.size)
                      replace hrX := Row.ext hrX hC
                      replace hrx := Row.ext hrx hC
                      refine ⟨true, (decide (y.1 = (0 : Int))), congrArg some h18, fun hact => ?_, fun hact => ?_⟩
                      · replace hact : (decide (y.1 = (0 : Int))) = true := by simpa using hact
                        refine Runs.does (v := (.string y.2.1)) (r_load (v := (.string y.2.1)) (gb_ev hact (congrArg some h27)) Try.underlying9 rfl (cellsAt_cell (cellsAt_below hel6 hb hlb3) (i := 1) rfl rfl)) ⟨Below.refl _ _, ?_, nofr rfl⟩
                        show _ = gb _ _; rw [hact]; rfl
                      · replace hact : (decide (y.1 = (0 : Int))) = false := by simpa using hact
                        refine ⟨Below.refl _ _, ?_, nofr rfl⟩
                        show _ = gb _ _; rw [hact]; rfl
                    refine ⟨fun wu29 hC hd => ?_, ?_⟩
                    · obtain ⟨h18, h23, h28, _⟩ := hd
                      replace h18 : V 18 = (.bool (decide (y.1 = (0 : Int)))) := h18
                      replace h23 : V 23 = (gb (decide (y.1 = (0 : Int))) (.string xb.2.1)) := h23
                      replace h28 : V 28 = (gb (decide (y.1 = (0 : Int))) (.string y.2.1)) := h28
                      replace hb := hb.trans (hC.mono hb.size)
                      replace hrX := Row.ext hrX hC
                      replace hrx := Row.ext hrx hC
                      refine ⟨true, (decide (y.1 = (0 : Int))), congrArg some h18, fun hact => ?_, fun hact => ?_⟩
                      · replace hact : (decide (y.1 = (0 : Int))) = true := by simpa using hact
                        refine Runs.does (v := (.bool (decide (xb.2.1 ≠ y.2.1)))) (r_sne (gb_ev hact (congrArg some h23)) (gb_ev hact (congrArg some h28))) ⟨Below.refl _ _, ?_, nofr rfl⟩
                        show _ = gb _ _; rw [hact]; rfl
                      · replace hact : (decide (y.1 = (0 : Int))) = false := by simpa using hact
                        refine ⟨Below.refl _ _, ?_, nofr rfl⟩
                        show _ = gb _ _; rw [hact]; rfl
                    refine ⟨fun wu30 hC hd => ?_, ?_⟩
                    · obtain ⟨h11, h18, h29, _⟩ := hd
                      replace h11 : V 11 = (.bool false) := h11
                      replace h18 : V 18 = (.bool (decide (y.1 = (0 : Int)))) := h18
                      replace h29 : V 29 = (gb (decide (y.1 = (0 : Int))) (.bool (decide (xb.2.1 ≠ y.2.1)))) := h29
                      replace hb := hb.trans (hC.mono hb.size)
                      replace hrX := Row.ext hrX hC
                      replace hrx := Row.ext hrx hC
                      refine ⟨true, false, congrArg some h11, fun hact => ?_, fun hact => ?_⟩
                      · exact Runs.does (Runs.veq (r_pickA (b := (decide (y.1 = (0 : Int)))) (e := (decide (xb.2.1 ≠ y.2.1))) (congrArg some h18) (congrArg some h29) rfl) (congrArg Value.bool (show _ = false from (by by_cases h0 : y.1 = 0; rw [hkb.2.1 h0]; simp; simp [h0])))) ⟨Below.refl _ _, rfl, nofr rfl⟩
                      · exfalso; simp at hact
                    refine ⟨fun wu31 hC hd => ?_, ?_⟩
                    · obtain ⟨h11, h30, _⟩ := hd
                      replace h11 : V 11 = (.bool false) := h11
                      replace h30 : V 30 = (.bool false) := h30
                      replace hb := hb.trans (hC.mono hb.size)
                      replace hrX := Row.ext hrX hC
                      replace hrx := Row.ext hrx hC
                      exact Runs.does (r_pick (b := false) (congrArg some h11) rfl (congrArg some h30) rfl) ⟨Below.refl _ _, rfl, nofr rfl⟩
                    refine ⟨fun wu32 hC hd => ?_, ?_⟩
                    · obtain ⟨h18, h31, _⟩ := hd
                      replace h18 : V 18 = (.bool (decide (y.1 = (0 : Int)))) := h18
                      replace h31 : V 31 = (.bool false) := h31
                      replace hb := hb.trans (hC.mono hb.size)
                      replace hrX := Row.ext hrX hC
                      replace hrx := Row.ext hrx hC
                      exact Runs.does (r_move (congrArg some h31)) ⟨Below.refl _ _, rfl, nofr rfl⟩
                    refine ⟨fun wu33 hC hd => ?_, ?_⟩
                    · obtain ⟨h32, _⟩ := hd
                      replace h32 : V 32 = (.bool false) := h32
                      replace hb := hb.trans (hC.mono hb.size)
                      replace hrX := Row.ext hrX hC
                      replace hrx := Row.ext hrx hC
                      refine ⟨true, false, congrArg some h32, fun hact => ?_, fun hact => ?_⟩
                      · exact Runs.does (r_move rfl) ⟨Below.refl _ _, rfl, nofr rfl⟩
                      · exfalso; simp at hact
                    refine ⟨fun wu34 hC hd => ?_, ?_⟩
                    · obtain ⟨h32, _⟩ := hd
                      replace h32 : V 32 = (.bool false) := h32
                      replace hb := hb.trans (hC.mono hb.size)
                      replace hrX := Row.ext hrX hC
                      replace hrx := Row.ext hrx hC
                      refine ⟨true, false, congrArg some h32, fun hact => ?_, fun hact => ?_⟩
                      · exact Runs.does (r_move rfl) ⟨Below.refl _ _, rfl, nofr rfl⟩
                      · exfalso; simp at hact
                    refine ⟨fun wu35 hC hd => ?_, ?_⟩
                    · obtain ⟨h32, h33, h34, _⟩ := hd
                      replace h32 : V 32 = (.bool false) := h32
                      replace h33 : V 33 = (.slice (some ⟨rb2, 0, none⟩) X.length cX) := h33
                      replace h34 : V 34 = (.int .i64 ((kk : Nat) : Int)) := h34
                      replace hb := hb.trans (hC.mono hb.size)
                      replace hrX := Row.ext hrX hC
                      replace hrx := Row.ext hrx hC
                      refine ⟨true, false, congrArg some h32, fun hact => ?_, fun hact => ?_⟩
                      · exact Runs.does (r_ixa (sz := 4) (j := kk) (congrArg some h33) (congrArg some h34) Try.underlying116 (by kernel_rfl) rfl (by omega) rfl) ⟨Below.refl _ _, rfl, nofr rfl⟩
                      · exfalso; simp at hact
                    refine ⟨fun wu36 hC hd => ?_, ?_⟩
                    · obtain ⟨h32, h35, _⟩ := hd
                      replace h32 : V 32 = (.bool false) := h32
                      replace h35 : V 35 = (.pointer (some ⟨rb2, (0 + kk * 4), none⟩)) := h35
                      replace hb := hb.trans (hC.mono hb.size)
                      replace hrX := Row.ext hrX hC
                      replace hrx := Row.ext hrx hC
                      refine ⟨true, false, congrArg some h32, fun hact => ?_, fun hact => ?_⟩
                      · exact Runs.does (r_fa (congrArg some h35) Try.underlying119 (f := 2) (q := ((0 + kk * 4) + 2)) rfl (by kernel_rfl) rfl) ⟨Below.refl _ _, rfl, nofr rfl⟩
                      · exfalso; simp at hact
                    refine ⟨fun wu37 hC hd => ?_, ?_⟩
                    · obtain ⟨h32, h36, _⟩ := hd
                      replace h32 : V 32 = (.bool false) := h32
                      replace h36 : V 36 = (.pointer (some ⟨rb2, ((0 + kk * 4) + 2), none⟩)) := h36
                      replace hb := hb.trans (hC.mono hb.size)
                      replace hrX := Row.ext hrX hC
                      replace hrx := Row.ext hrx hC
                      refine ⟨true, false, congrArg some h32, fun hact => ?_, fun hact => ?_⟩
                      · exact Runs.does (r_load (v := (.slice xb.2.2.1.at' xb.2.2.1.len xb.2.2.1.cap)) (congrArg some h36) Try.underlying47 rfl (cellsAt_cell (cellsAt_below hel8 hC hlr5) (i := 2) rfl rfl)) ⟨Below.refl _ _, rfl, nofr rfl⟩
                      · exfalso; simp at hact
                    refine ⟨fun wu38 hC hd => ?_, ?_⟩
                    · obtain ⟨h32, h37, _⟩ := hd
                      replace h32 : V 32 = (.bool false) := h32
                      replace h37 : V 37 = (.slice xb.2.2.1.at' xb.2.2.1.len xb.2.2.1.cap) := h37
                      replace hb := hb.trans (hC.mono hb.size)
                      replace hrX := Row.ext hrX hC
                      replace hrx := Row.ext hrx hC
                      refine ⟨true, false, congrArg some h32, fun hact => ?_, fun hact => ?_⟩
                      · exact Runs.does (r_rowstr (congrArg some h37) Try.underlying47 Try.underlying5 Try.underlying9 hrx) ⟨Below.refl _ _, rfl, nofr rfl⟩
                      · exfalso; simp at hact
                    refine ⟨fun wu39 hC hd => ?_, ?_⟩
                    · obtain ⟨h32, _⟩ := hd
                      replace h32 : V 32 = (.bool false) := h32
                      replace hb := hb.trans (hC.mono hb.size)
                      replace hrX := Row.ext hrX hC
                      replace hrx := Row.ext hrx hC
                      refine ⟨true, false, congrArg some h32, fun hact => ?_, fun hact => ?_⟩
                      · exact Runs.does (r_move rfl) ⟨Below.refl _ _, rfl, nofr rfl⟩
                      · exfalso; simp at hact
                    refine ⟨fun wu40 hC hd => ?_, ?_⟩
                    · obtain ⟨h32, _⟩ := hd
                      replace h32 : V 32 = (.bool false) := h32
                      replace hb := hb.trans (hC.mono hb.size)
                      replace hrX := Row.ext hrX hC
                      replace hrx := Row.ext hrx hC
                      refine ⟨true, false, congrArg some h32, fun hact => ?_, fun hact => ?_⟩
                      · exact Runs.does (r_move rfl) ⟨Below.refl _ _, rfl, nofr rfl⟩
                      · exfalso; simp at hact
                    refine ⟨fun wu41 hC hd => ?_, ?_⟩
                    · obtain ⟨h32, h39, h40, _⟩ := hd
                      replace h32 : V 32 = (.bool false) := h32
                      replace h39 : V 39 = (.slice a l.length c) := h39
                      replace h40 : V 40 = (.int .i64 ((kk : Nat) : Int)) := h40
                      replace hb := hb.trans (hC.mono hb.size)
                      replace hrX := Row.ext hrX hC
                      replace hrx := Row.ext hrx hC
                      refine ⟨true, false, congrArg some h32, fun hact => ?_, fun hact => ?_⟩
                      · exact Runs.does (r_ixa (sz := 4) (j := kk) (evAt (congrArg some h39) hat2) (congrArg some h40) Try.underlying116 (by kernel_rfl) rfl (by omega) rfl) ⟨Below.refl _ _, rfl, nofr rfl⟩
                      · exfalso; simp at hact
                    refine ⟨fun wu42 hC hd => ?_, ?_⟩
                    · obtain ⟨h32, h41, _⟩ := hd
                      replace h32 : V 32 = (.bool false) := h32
                      replace h41 : V 41 = (.pointer (some ⟨ab2, (aoff2 + kk * 4), none⟩)) := h41
                      replace hb := hb.trans (hC.mono hb.size)
                      replace hrX := Row.ext hrX hC
                      replace hrx := Row.ext hrx hC
                      refine ⟨true, false, congrArg some h32, fun hact => ?_, fun hact => ?_⟩
                      · exact Runs.does (r_fa (congrArg some h41) Try.underlying119 (f := 2) (q := ((aoff2 + kk * 4) + 2)) rfl (by kernel_rfl) rfl) ⟨Below.refl _ _, rfl, nofr rfl⟩
                      · exfalso; simp at hact
                    refine ⟨fun wu43 hC hd => ?_, ?_⟩
                    · obtain ⟨h32, h42, _⟩ := hd
                      replace h32 : V 32 = (.bool false) := h32
                      replace h42 : V 42 = (.pointer (some ⟨ab2, ((aoff2 + kk * 4) + 2), none⟩)) := h42
                      replace hb := hb.trans (hC.mono hb.size)
                      replace hrX := Row.ext hrX hC
                      replace hrx := Row.ext hrx hC
                      refine ⟨true, false, congrArg some h32, fun hact => ?_, fun hact => ?_⟩
                      · exact Runs.does (r_load (v := (.slice y.2.2.1.at' y.2.2.1.len y.2.2.1.cap)) (congrArg some h42) Try.underlying47 rfl (cellsAt_cell (cellsAt_below hel6 hb hlb3) (i := 2) rfl rfl)) ⟨Below.refl _ _, rfl, nofr rfl⟩
                      · exfalso; simp at hact
                    refine ⟨fun wu44 hC hd => ?_, ?_⟩
                    · obtain ⟨h32, h43, _⟩ := hd
                      replace h32 : V 32 = (.bool false) := h32
                      replace h43 : V 43 = (.slice y.2.2.1.at' y.2.2.1.len y.2.2.1.cap) := h43
                      replace hb := hb.trans (hC.mono hb.size)
                      replace hrX := Row.ext hrX hC
                      replace hrx := Row.ext hrx hC
                      refine ⟨true, false, congrArg some h32, fun hact => ?_, fun hact => ?_⟩
                      · exact Runs.does (r_rdstr2 (congrArg some h43) (by first | rfl | exact (Sl.list_length _).symm) Try.underlying47 Try.underlying5 Try.underlying9 (RdS.ext hyrd hb)) ⟨Below.refl _ _, rfl, nofr rfl⟩
                      · exfalso; simp at hact
                    refine ⟨fun wu45 hC hd => ?_, ?_⟩
                    · obtain ⟨h32, h38, h44, _⟩ := hd
                      replace h32 : V 32 = (.bool false) := h32
                      replace h38 : V 38 = (.string (strOfNums xb.2.2.1.list)) := h38
                      replace h44 : V 44 = (.string (strOfNums y.2.2.1.list)) := h44
                      replace hb := hb.trans (hC.mono hb.size)
                      replace hrX := Row.ext hrX hC
                      replace hrx := Row.ext hrx hC
                      refine ⟨true, false, congrArg some h32, fun hact => ?_, fun hact => ?_⟩
                      · exact Runs.does (Runs.veq (r_sne (congrArg some h38) (congrArg some h44)) (congrArg Value.bool (show _ = false from (by rw [hkb.2.2]; simp)))) ⟨Below.refl _ _, rfl, nofr rfl⟩
                      · exfalso; simp at hact
                    refine ⟨fun wu46 hC hd => ?_, ?_⟩
                    · obtain ⟨h32, h45, _⟩ := hd
                      replace h32 : V 32 = (.bool false) := h32
                      replace h45 : V 45 = (.bool false) := h45
                      replace hb := hb.trans (hC.mono hb.size)
                      replace hrX := Row.ext hrX hC
                      replace hrx := Row.ext hrx hC
                      exact Runs.does (r_pick (b := false) (congrArg some h32) rfl (congrArg some h45) rfl) ⟨Below.refl _ _, rfl, nofr rfl⟩
                    trivial
                  · skip
                    clear hf fa; intro V w25 fa he14 hp hnb hf
                    have hv0 : V 0 = (.slice (some ⟨rb2, 0, none⟩) X.length cX) := postsHold_at hp 0 rfl
                    have hv1 : V 1 = (.int .i64 ((kk : Nat) : Int)) := postsHold_at hp 1 rfl
                    have hv2 : V 2 = (.pointer (some ⟨rb2, (0 + kk * 4), none⟩)) := postsHold_at hp 2 rfl
                    have hv3 : V 3 = (.pointer (some ⟨rb2, (0 + kk * 4), none⟩)) := postsHold_at hp 3 rfl
                    have hv4 : V 4 = (.int .u8 xb.1) := postsHold_at hp 4 rfl
                    have hv5 : V 5 = (.slice a l.length c) := postsHold_at hp 5 rfl
                    have hv6 : V 6 = (.int .i64 ((kk : Nat) : Int)) := postsHold_at hp 6 rfl
                    have hv7 : V 7 = (.pointer (some ⟨ab2, (aoff2 + kk * 4), none⟩)) := postsHold_at hp 7 rfl
                    have hv8 : V 8 = (.pointer (some ⟨ab2, (aoff2 + kk * 4), none⟩)) := postsHold_at hp 8 rfl
                    have hv9 : V 9 = (.int .u8 y.1) := postsHold_at hp 9 rfl
                    have hv10 : V 10 = (.bool false) := postsHold_at hp 10 rfl
                    have hv11 : V 11 = (.bool false) := postsHold_at hp 11 rfl
                    have hv12 : V 12 = (.slice a l.length c) := postsHold_at hp 12 rfl
                    have hv13 : V 13 = (.int .i64 ((kk : Nat) : Int)) := postsHold_at hp 13 rfl
                    have hv14 : V 14 = (.pointer (some ⟨ab2, (aoff2 + kk * 4), none⟩)) := postsHold_at hp 14 rfl
                    have hv15 : V 15 = (.pointer (some ⟨ab2, (aoff2 + kk * 4), none⟩)) := postsHold_at hp 15 rfl
                    have hv16 : V 16 = (.int .u8 y.1) := postsHold_at hp 16 rfl
                    have hv17 : V 17 = (.bool (decide (y.1 = (0 : Int)))) := postsHold_at hp 17 rfl
                    have hv18 : V 18 = (.bool (decide (y.1 = (0 : Int)))) := postsHold_at hp 18 rfl
                    have hv19 : V 19 = (gb (decide (y.1 = (0 : Int))) (.slice (some ⟨rb2, 0, none⟩) X.length cX)) := postsHold_at hp 19 rfl
                    have hv20 : V 20 = (gb (decide (y.1 = (0 : Int))) (.int .i64 ((kk : Nat) : Int))) := postsHold_at hp 20 rfl
                    have hv21 : V 21 = (gb (decide (y.1 = (0 : Int))) (.pointer (some ⟨rb2, (0 + kk * 4), none⟩))) := postsHold_at hp 21 rfl
                    have hv22 : V 22 = (gb (decide (y.1 = (0 : Int))) (.pointer (some ⟨rb2, ((0 + kk * 4) + 1), none⟩))) := postsHold_at hp 22 rfl
                    have hv23 : V 23 = (gb (decide (y.1 = (0 : Int))) (.string xb.2.1)) := postsHold_at hp 23 rfl
                    have hv24 : V 24 = (gb (decide (y.1 = (0 : Int))) (.slice a l.length c)) := postsHold_at hp 24 rfl
                    have hv25 : V 25 = (gb (decide (y.1 = (0 : Int))) (.int .i64 ((kk : Nat) : Int))) := postsHold_at hp 25 rfl
                    have hv26 : V 26 = (gb (decide (y.1 = (0 : Int))) (.pointer (some ⟨ab2, (aoff2 + kk * 4), none⟩))) := postsHold_at hp 26 rfl
                    have hv27 : V 27 = (gb (decide (y.1 = (0 : Int))) (.pointer (some ⟨ab2, ((aoff2 + kk * 4) + 1), none⟩))) := postsHold_at hp 27 rfl
                    have hv28 : V 28 = (gb (decide (y.1 = (0 : Int))) (.string y.2.1)) := postsHold_at hp 28 rfl
                    have hv29 : V 29 = (gb (decide (y.1 = (0 : Int))) (.bool (decide (xb.2.1 ≠ y.2.1)))) := postsHold_at hp 29 rfl
                    have hv30 : V 30 = (.bool false) := postsHold_at hp 30 rfl
                    have hv31 : V 31 = (.bool false) := postsHold_at hp 31 rfl
                    have hv32 : V 32 = (.bool false) := postsHold_at hp 32 rfl
                    have hv33 : V 33 = (.slice (some ⟨rb2, 0, none⟩) X.length cX) := postsHold_at hp 33 rfl
                    have hv34 : V 34 = (.int .i64 ((kk : Nat) : Int)) := postsHold_at hp 34 rfl
                    have hv35 : V 35 = (.pointer (some ⟨rb2, (0 + kk * 4), none⟩)) := postsHold_at hp 35 rfl
                    have hv36 : V 36 = (.pointer (some ⟨rb2, ((0 + kk * 4) + 2), none⟩)) := postsHold_at hp 36 rfl
                    have hv37 : V 37 = (.slice xb.2.2.1.at' xb.2.2.1.len xb.2.2.1.cap) := postsHold_at hp 37 rfl
                    have hv38 : V 38 = (.string (strOfNums xb.2.2.1.list)) := postsHold_at hp 38 rfl
                    have hv39 : V 39 = (.slice a l.length c) := postsHold_at hp 39 rfl
                    have hv40 : V 40 = (.int .i64 ((kk : Nat) : Int)) := postsHold_at hp 40 rfl
                    have hv41 : V 41 = (.pointer (some ⟨ab2, (aoff2 + kk * 4), none⟩)) := postsHold_at hp 41 rfl
                    have hv42 : V 42 = (.pointer (some ⟨ab2, ((aoff2 + kk * 4) + 2), none⟩)) := postsHold_at hp 42 rfl
                    have hv43 : V 43 = (.slice y.2.2.1.at' y.2.2.1.len y.2.2.1.cap) := postsHold_at hp 43 rfl
                    have hv44 : V 44 = (.string (strOfNums y.2.2.1.list)) := postsHold_at hp 44 rfl
                    have hv45 : V 45 = (.bool false) := postsHold_at hp 45 rfl
                    have hv46 : V 46 = (.bool false) := postsHold_at hp 46 rfl
                    simp only [List.take_succ_cons, List.take_zero, insAll, ins, hv0, hv1, hv2, hv3, hv4, hv5, hv6, hv7, hv8, hv9, hv10, hv11, hv12, hv13, hv14, hv15, hv16, hv17, hv18, hv19, hv20, hv21, hv22, hv23, hv24, hv25, hv26, hv27, hv28, hv29, hv30, hv31, hv32, hv33, hv34, hv35, hv36, hv37, hv38, hv39, hv40, hv41, hv42, hv43, hv44, hv45, hv46] at hf
                    clear hp hnb hv0 hv1 hv2 hv3 hv4 hv5 hv6 hv7 hv8 hv9 hv10 hv11 hv12 hv13 hv14 hv15 hv16 hv17 hv18 hv19 hv20 hv21 hv22 hv23 hv24 hv25 hv26 hv27 hv28 hv29 hv30 hv31 hv32 hv33 hv34 hv35 hv36 hv37 hv38 hv39 hv40 hv41 hv42 hv43 hv44 hv45 hv46
                    replace hrX := Row.ext hrX he14
                    replace hrx := Row.ext hrx he14
                    replace hIX := SRel.map hIX (fun bf cs hbf => blk_ext hbf he14)
                    replace hb := hb.trans (Below.mono he14 hb.size)
                    (try simp only [Exit.then, Exit.inBlock, ↓reduceIte, Nat.reduceEqDiff])
                    refine hK42 _ _ ?_
                    refine wp_cond_false (hf.ev rfl) ?_
                    refine wp_skip ?_
                    (try simp only [Exit.then, Exit.inBlock, ↓reduceIte, Nat.reduceEqDiff])
                    refine hK41 _ _ ?_
                    refine wp_region_lit ?_
                    refine sqv hf (r_move rfl) rfl rfl rfl ?_; clear hf fa; intro fa hf
                    refine sqv hf (r_add (C := (((kk : Nat) : Int) + (1 : Int))) rfl rfl (by rw [IntKind.wrap_i64]; omega)) rfl rfl rfl ?_; clear hf fa; intro fa hf
                    refine sqv hf (r_assign rfl) rfl rfl rfl ?_; clear hf fa; intro fa hf
                    apply wpList_nil
                    (try simp only [Exit.then, Exit.inBlock, ↓reduceIte, Nat.reduceEqDiff])
                    refine hKL2 _ _ _ (by omega) ⟨(kk + 1), rfl, hf.sub ⟨rfl, rfl, rfl, rfl, rfl, (some_int (by first | rfl | omega)), trivial⟩, hb, hrX, by omega, hIX⟩
                · have hqt206_1b := hqt206_1
                  replace hqt206_1 := Bool.eq_false_iff.1 hqt206_1
                  try simp only [ne_eq, decide_eq_true_eq, Bool.and_eq_true, Bool.or_eq_true, Bool.not_eq_true', decide_eq_false_iff_not] at hqt206_1
                  refine wp_exit ?_
                  (try simp only [Exit.then, Exit.inBlock, ↓reduceIte, Nat.reduceEqDiff])
                  refine hK37 _ _ ?_
                  refine wp_seq_k (fun K43 hK43 => ?_)
                  refine wp_region_lit ?_
                  refine sqv hf (r_assign rfl) rfl rfl rfl ?_; clear hf fa; intro fa hf
                  apply wpList_nil
                  (try simp only [Exit.then, Exit.inBlock, ↓reduceIte, Nat.reduceEqDiff])
                  refine hK43 _ _ ?_
                  refine wp_ret ?_
                  (try simp only [Exit.then, Exit.inBlock])
                  refine ret1 hf rfl rfl ?_
                  exact ⟨rfl, hb⟩
            · have hsp2b : decide (riseR 0 l = true) = false := decide_eq_false hsp2
              refine wp_region_lit ?_
              refine sqv hf (r_move rfl) rfl rfl rfl ?_; clear hf fa; intro fa hf
              refine sqdt hf (d_callX (vs := [(.slice ja (((joinL l).length)) jc)]) rfl Try.func88 (by kernel_rfl) (by kernel_rfl) (split_bad l ja jc _ (RdS.ext hjr hJ) hjc hjm hjn (by omega) hP (Bool.eq_false_iff.2 hsp2))) rfl rfl rfl ?_; clear hf fa; rintro fa _ w26 ⟨why, at9, rfl, hne, heX⟩ hf
              replace hk8 := blk_ext hk8 heX
              replace hro := Row.ext hro heX
              replace hJ := hJ.trans (Below.mono heX hJ.size)
              replace hb := hb.trans (Below.mono heX hb.size)
              refine sqv hf (r_move rfl) rfl rfl rfl ?_; clear hf fa; intro fa hf
              refine sqv hf (r_extract rfl (i := 0) rfl) rfl rfl rfl ?_; clear hf fa; intro fa hf
              refine sqv hf (r_extract rfl (i := 1) rfl) rfl rfl rfl ?_; clear hf fa; intro fa hf
              refine sqdt hf (d_alloc (z := (.agg #[(.int .i64 (0 : Int)), (.int .i64 (0 : Int))])) (cs := #[(.int .i64 (0 : Int)), (.int .i64 (0 : Int))]) (by kernel_rfl) rfl) rfl rfl rfl ?_; clear hf fa; rintro fa _ w27 ⟨b8, rfl, hle9, hk11, he15⟩ hf
              have hBb8 : w.heap.size ≤ b8 := Nat.le_trans hb.size hle9
              have : b6 < b8 := Nat.lt_of_lt_of_le (blk_lt hk8) hle9
              have hUhJb8 := Nat.le_trans hJ.size hle9
              have : rb1 < b8 := Nat.lt_of_lt_of_le (Row.lt hro _ rfl).2 hle9
              replace hk8 := blk_ext hk8 he15
              replace hro := Row.ext hro he15
              replace hJ := hJ.trans (Below.mono he15 hJ.size)
              replace hb := hb.trans (Below.mono he15 hb.size)
              refine sqv hf (r_assign rfl) rfl rfl rfl ?_; clear hf fa; intro fa hf
              refine sqn hf (d_storeK (T := 90) (v := (.agg #[(.int .i64 why), (.int .i64 at9)])) (cs := #[(.int .i64 (0 : Int)), (.int .i64 (0 : Int))]) (cs' := #[(.int .i64 why), (.int .i64 at9)]) rfl rfl (by kernel_rfl) (by kernel_rfl) hk11 (by kernel_rfl) (by kernel_rfl)) rfl rfl ?_; clear hf fa; rintro fa _ w28 ⟨hk12, hg8⟩ hf
              replace hk8 := blk_grown hk8 hg8 (by omega)
              replace hro := Row.grown hro hg8 (Row.ne_type hro hk11 rfl)
              replace hJ := hJ.trans (grown_below hg8 hJ.size (by omega))
              replace hb := hb.trans (grown_below hg8 hb.size hBb8)
              apply wpList_nil
              (try simp only [Exit.then, Exit.inBlock, ↓reduceIte, Nat.reduceEqDiff])
              refine hK32 _ _ ?_
              refine wp_seq_k (fun K44 hK44 => ?_)
              refine wp_seq_k (fun K45 hK45 => ?_)
              refine wp_region_lit ?_
              refine sqv hf (Runs.veq (r_move rfl) (congrArg Value.bool (show _ = false from (by rw [← hRs2]; exact Bool.eq_false_iff.2 hsp2)))) rfl rfl rfl ?_; clear hf fa; intro fa hf
              refine sqv hf (Runs.veq (v' := (.bool true)) (r_not rfl) rfl) rfl rfl rfl ?_; clear hf fa; intro fa hf
              apply wpList_nil
              (try simp only [Exit.then, Exit.inBlock, ↓reduceIte, Nat.reduceEqDiff])
              refine hK45 _ _ ?_
              refine wp_cond_true (hf.ev rfl) ?_
              refine wp_seq_k (fun K46 hK46 => ?_)
              refine wp_region_lit ?_
              refine sqv hf (r_fa rfl Try.underlying90 (f := 0) (q := 0) rfl (by kernel_rfl) rfl) rfl rfl rfl ?_; clear hf fa; intro fa hf
              refine sqv hf (r_load (v := (.int .i64 why)) rfl Try.underlying39 rfl (cell_blk hk12 rfl)) rfl rfl rfl ?_; clear hf fa; intro fa hf
              refine sqv hf (Runs.veq (r_ne rfl rfl) (congrArg Value.bool (show _ = true from (decide_eq_true hne)))) rfl rfl rfl ?_; clear hf fa; intro fa hf
              refine sqv hf (r_assign rfl) rfl rfl rfl ?_; clear hf fa; intro fa hf
              apply wpList_nil
              (try simp only [Exit.then, Exit.inBlock, ↓reduceIte, Nat.reduceEqDiff])
              refine hK46 _ _ ?_
              refine wp_ret ?_
              (try simp only [Exit.then, Exit.inBlock])
              refine ret1 hf rfl rfl ?_
              exact ⟨rfl, hb⟩
        · have hsp1b : decide (fndB id nm l = true) = false := decide_eq_false hsp1
          have hfb : fndB id nm l = false := by cases hz : fndB id nm l with | false => rfl | true => exact absurd hz hsp1
          have hfn : found < 0 := by
            rcases hFl with ⟨h, _⟩ | ⟨j, x, _, _, _, h⟩
            · omega
            · exfalso; unfold fndB at hfb; rw [h] at hfb; cases hfb
          refine wp_region_un (fun wq => Below w19.heap.size w19 wq) (fun w w' => Below w.heap.size w w')
            (fun V => [(fun x _ => x = (.slice ja (((joinL l).length)) jc)), (fun x _ => x = (.string (strOfNums (joinL l)))), (fun x _ => x = (.slice roa ((((l.take k).map secRef)).length) roc)), (fun x _ => x = (.string (strOfNums (joinL l)))), (fun x _ => x = (.bool false)), (fun x _ => x = (.bool false)), (fun x _ => x = (.bool (fndB id nm l))), (fun x _ => x = (.int .i64 found)), (fun x _ => x = (.bool (decide ((0 : Int) ≤ found)))), (fun x _ => x = (.bool false)), (fun x _ => x = (.bool false)), (fun x _ => x = (.bool false)), (fun x _ => x = (.bool false)), (fun x _ => x = (.bool false)), (fun x _ => x = gb false (.bool false)), (fun x _ => x = gb false (.bool false)), (fun x _ => x = gb false (.bool false)), (fun x _ => x = gb false (.bool false)), (fun x _ => x = gb false (.bool false)), (fun x _ => x = gb false (.bool false)), (fun x _ => x = gb false (.bool false)), (fun x _ => x = gb false (.bool false)), (fun x _ => x = gb false (.bool false)), (fun x _ => x = gb false (.bool false)), (fun x _ => x = gb false (.bool false)), (fun x _ => x = gb false (.bool false)), (fun x _ => x = gb false (.bool false)), (fun x _ => x = gb false (.bool false)), (fun x _ => x = gb false (.bool false)), (fun x _ => x = gb false (.bool false)), (fun x _ => x = gb false (.bool false)), (fun x _ => x = gb false (.bool false)), (fun x _ => x = gb false (.bool false)), (fun x _ => x = gb false (.bool false)), (fun x _ => x = gb false (.bool false)), (fun x _ => x = gb false (.bool false)), (fun x _ => x = gb false (.bool false)), (fun x _ => x = gb false (.bool false)), (fun x _ => x = gb false (.bool false)), (fun x _ => x = gb false (.bool false)), (fun x _ => x = gb false (.bool false)), (fun x _ => x = gb false (.bool false)), (fun x _ => x = gb false (.bool false)), (fun x _ => x = (.bool false)), (fun x _ => x = (.bool false))])
            []
            [[], [0], [], [2], [1, 3], [3, 4], [5], [5], [5, 7], [5, 6, 8], [5, 9], [5, 10], [11], [11, 12], [13], [13, 14], [13], [13], [13, 16, 17], [13, 18], [13, 19], [13, 15, 20], [13, 21], [22], [22, 23], [22, 24], [22], [22], [22, 26, 27], [22, 28], [22, 29], [22, 25, 30], [13, 22, 31], [13, 22, 32], [33], [33, 34], [33], [33], [33, 36, 37], [33, 38], [33, 39], [33, 35, 40], [13, 33, 41], [11, 13, 42], [11, 43]]
            hf (by kernel_rfl) (by kernel_rfl) (fun _ => rfl) ((Below.refl _ _).drew) (fun a b h1 h2 => h1.trans (h2.mono h1.size)) (fun _ _ h => h.size) (fun V => ⟨kept_eq, kept_eq, kept_eq, kept_eq, kept_eq, kept_eq, kept_eq, kept_eq, kept_eq, kept_eq, kept_eq, kept_eq, kept_eq, kept_eq, kept_eq, kept_eq, kept_eq, kept_eq, kept_eq, kept_eq, kept_eq, kept_eq, kept_eq, kept_eq, kept_eq, kept_eq, kept_eq, kept_eq, kept_eq, kept_eq, kept_eq, kept_eq, kept_eq, kept_eq, kept_eq, kept_eq, kept_eq, kept_eq, kept_eq, kept_eq, kept_eq, kept_eq, kept_eq, kept_eq, kept_eq, trivial⟩) (fun _ _ _ _ _ => rfl) ?_ ?_
          · skip
            intro V
            refine ⟨fun wu0 hC hd => ?_, ?_⟩
            · clear hd
              replace hb := hb.trans (hC.mono hb.size)
              replace hk8 := blk_ext hk8 hC
              replace hro := Row.ext hro hC
              exact Runs.does (r_move rfl) ⟨Below.refl _ _, rfl, nofr rfl⟩
            refine ⟨fun wu1 hC hd => ?_, ?_⟩
            · obtain ⟨h0, _⟩ := hd
              replace h0 : V 0 = (.slice ja (((joinL l).length)) jc) := h0
              replace hb := hb.trans (hC.mono hb.size)
              replace hk8 := blk_ext hk8 hC
              replace hro := Row.ext hro hC
              exact Runs.does (r_rdstr2 (congrArg some h0) rfl Try.underlying47 Try.underlying5 Try.underlying9 (RdS.ext (RdS.ext hjr hJ) hC)) ⟨Below.refl _ _, rfl, nofr rfl⟩
            refine ⟨fun wu2 hC hd => ?_, ?_⟩
            · clear hd
              replace hb := hb.trans (hC.mono hb.size)
              replace hk8 := blk_ext hk8 hC
              replace hro := Row.ext hro hC
              exact Runs.does (r_move rfl) ⟨Below.refl _ _, rfl, nofr rfl⟩
            refine ⟨fun wu3 hC hd => ?_, ?_⟩
            · obtain ⟨h2, _⟩ := hd
              replace h2 : V 2 = (.slice roa ((((l.take k).map secRef)).length) roc) := h2
              replace hb := hb.trans (hC.mono hb.size)
              replace hk8 := blk_ext hk8 hC
              replace hro := Row.ext hro hC
              refine Does.mono (d_callB (vs := [(.slice roa ((((l.take k).map secRef)).length) roc)]) (show [some (V 2)] = [some (.slice roa ((((l.take k).map secRef)).length) roc)] from by rw [h2]) Try.func87 (by kernel_rfl) (by kernel_rfl) (rsjoinW l ((l.take k).map secRef) hWl.symm _ _ _ (Row.rd (by intros; rfl) hro) (by have := Row.caps hro; omega) (by omega) (fun x hx => (hG x hx).id) (fun x hx => by have := (hsm2 x hx).2; omega) (fun x hx => by have := (hsm2 x hx).1; omega))) (fun _ _ h => ⟨h.2, h.1, nofr rfl⟩)
            refine ⟨fun wu4 hC hd => ?_, ?_⟩
            · obtain ⟨h1, h3, _⟩ := hd
              replace h1 : V 1 = (.string (strOfNums (joinL l))) := h1
              replace h3 : V 3 = (.string (strOfNums (joinL l))) := h3
              replace hb := hb.trans (hC.mono hb.size)
              replace hk8 := blk_ext hk8 hC
              replace hro := Row.ext hro hC
              exact Runs.does (Runs.veq (r_sne (congrArg some h1) (congrArg some h3)) (congrArg Value.bool (show _ = false from (by simp)))) ⟨Below.refl _ _, rfl, nofr rfl⟩
            refine ⟨fun wu5 hC hd => ?_, ?_⟩
            · obtain ⟨h3, h4, _⟩ := hd
              replace h3 : V 3 = (.string (strOfNums (joinL l))) := h3
              replace h4 : V 4 = (.bool false) := h4
              replace hb := hb.trans (hC.mono hb.size)
              replace hk8 := blk_ext hk8 hC
              replace hro := Row.ext hro hC
              exact Runs.does (r_move (congrArg some h4)) ⟨Below.refl _ _, rfl, nofr rfl⟩
            refine ⟨fun wu6 hC hd => ?_, ?_⟩
            · obtain ⟨h5, _⟩ := hd
              replace h5 : V 5 = (.bool false) := h5
              replace hb := hb.trans (hC.mono hb.size)
              replace hk8 := blk_ext hk8 hC
              replace hro := Row.ext hro hC
              refine ⟨true, false, congrArg some h5, fun hact => ?_, fun hact => ?_⟩
              · exact Runs.does (r_move rfl) ⟨Below.refl _ _, rfl, nofr rfl⟩
              · exfalso; simp at hact
            refine ⟨fun wu7 hC hd => ?_, ?_⟩
            · obtain ⟨h5, _⟩ := hd
              replace h5 : V 5 = (.bool false) := h5
              replace hb := hb.trans (hC.mono hb.size)
              replace hk8 := blk_ext hk8 hC
              replace hro := Row.ext hro hC
              refine ⟨true, false, congrArg some h5, fun hact => ?_, fun hact => ?_⟩
              · exact Runs.does (r_move rfl) ⟨Below.refl _ _, rfl, nofr rfl⟩
              · exfalso; simp at hact
            refine ⟨fun wu8 hC hd => ?_, ?_⟩
            · obtain ⟨h5, h7, _⟩ := hd
              replace h5 : V 5 = (.bool false) := h5
              replace h7 : V 7 = (.int .i64 found) := h7
              replace hb := hb.trans (hC.mono hb.size)
              replace hk8 := blk_ext hk8 hC
              replace hro := Row.ext hro hC
              refine ⟨true, false, congrArg some h5, fun hact => ?_, fun hact => ?_⟩
              · exact Runs.does (r_ge (congrArg some h7) rfl) ⟨Below.refl _ _, rfl, nofr rfl⟩
              · exfalso; simp at hact
            refine ⟨fun wu9 hC hd => ?_, ?_⟩
            · obtain ⟨h5, h6, h8, _⟩ := hd
              replace h5 : V 5 = (.bool false) := h5
              replace h6 : V 6 = (.bool (fndB id nm l)) := h6
              replace h8 : V 8 = (.bool (decide ((0 : Int) ≤ found))) := h8
              replace hb := hb.trans (hC.mono hb.size)
              replace hk8 := blk_ext hk8 hC
              replace hro := Row.ext hro hC
              refine ⟨true, false, congrArg some h5, fun hact => ?_, fun hact => ?_⟩
              · exact Runs.does (Runs.veq (r_bne Try.underlying4 (congrArg some h6) (congrArg some h8)) (congrArg Value.bool (show _ = false from (by rw [hfb]; simp <;> omega)))) ⟨Below.refl _ _, rfl, nofr rfl⟩
              · exfalso; simp at hact
            refine ⟨fun wu10 hC hd => ?_, ?_⟩
            · obtain ⟨h5, h9, _⟩ := hd
              replace h5 : V 5 = (.bool false) := h5
              replace h9 : V 9 = (.bool false) := h9
              replace hb := hb.trans (hC.mono hb.size)
              replace hk8 := blk_ext hk8 hC
              replace hro := Row.ext hro hC
              exact Runs.does (r_pick (b := false) (congrArg some h5) rfl (congrArg some h9) rfl) ⟨Below.refl _ _, rfl, nofr rfl⟩
            refine ⟨fun wu11 hC hd => ?_, ?_⟩
            · obtain ⟨h5, h10, _⟩ := hd
              replace h5 : V 5 = (.bool false) := h5
              replace h10 : V 10 = (.bool false) := h10
              replace hb := hb.trans (hC.mono hb.size)
              replace hk8 := blk_ext hk8 hC
              replace hro := Row.ext hro hC
              exact Runs.does (r_move (congrArg some h10)) ⟨Below.refl _ _, rfl, nofr rfl⟩
            refine ⟨fun wu12 hC hd => ?_, ?_⟩
            · obtain ⟨h11, _⟩ := hd
              replace h11 : V 11 = (.bool false) := h11
              replace hb := hb.trans (hC.mono hb.size)
              replace hk8 := blk_ext hk8 hC
              replace hro := Row.ext hro hC
              refine ⟨true, false, congrArg some h11, fun hact => ?_, fun hact => ?_⟩
              · exact Runs.does (Runs.veq (r_move rfl) (congrArg Value.bool (show _ = false from hfb))) ⟨Below.refl _ _, rfl, nofr rfl⟩
              · exfalso; simp at hact
            refine ⟨fun wu13 hC hd => ?_, ?_⟩
            · obtain ⟨h11, h12, _⟩ := hd
              replace h11 : V 11 = (.bool false) := h11
              replace h12 : V 12 = (.bool false) := h12
              replace hb := hb.trans (hC.mono hb.size)
              replace hk8 := blk_ext hk8 hC
              replace hro := Row.ext hro hC
              refine ⟨true, false, congrArg some h11, fun hact => ?_, fun hact => ?_⟩
              · exact Runs.does (r_move (congrArg some h12)) ⟨Below.refl _ _, rfl, nofr rfl⟩
              · exfalso; simp at hact
            refine ⟨fun wu14 hC hd => ?_, ?_⟩
            · obtain ⟨h13, _⟩ := hd
              replace h13 : V 13 = (.bool false) := h13
              replace hb := hb.trans (hC.mono hb.size)
              replace hk8 := blk_ext hk8 hC
              replace hro := Row.ext hro hC
              refine ⟨true, false, congrArg some h13, fun hact => ?_, fun hact => ?_⟩
              · exfalso; simp at hact
              · exact ⟨Below.refl _ _, rfl, nofr rfl⟩
            refine ⟨fun wu15 hC hd => ?_, ?_⟩
            · obtain ⟨h13, h14, _⟩ := hd
              replace h13 : V 13 = (.bool false) := h13
              replace h14 : V 14 = gb false (.bool false) := h14
              replace hb := hb.trans (hC.mono hb.size)
              replace hk8 := blk_ext hk8 hC
              replace hro := Row.ext hro hC
              refine ⟨true, false, congrArg some h13, fun hact => ?_, fun hact => ?_⟩
              · exfalso; simp at hact
              · exact ⟨Below.refl _ _, rfl, nofr rfl⟩
            refine ⟨fun wu16 hC hd => ?_, ?_⟩
            · obtain ⟨h13, _⟩ := hd
              replace h13 : V 13 = (.bool false) := h13
              replace hb := hb.trans (hC.mono hb.size)
              replace hk8 := blk_ext hk8 hC
              replace hro := Row.ext hro hC
              refine ⟨true, false, congrArg some h13, fun hact => ?_, fun hact => ?_⟩
              · exfalso; simp at hact
              · exact ⟨Below.refl _ _, rfl, nofr rfl⟩
            refine ⟨fun wu17 hC hd => ?_, ?_⟩
            · obtain ⟨h13, _⟩ := hd
              replace h13 : V 13 = (.bool false) := h13
              replace hb := hb.trans (hC.mono hb.size)
              replace hk8 := blk_ext hk8 hC
              replace hro := Row.ext hro hC
              refine ⟨true, false, congrArg some h13, fun hact => ?_, fun hact => ?_⟩
              · exfalso; simp at hact
              · exact ⟨Below.refl _ _, rfl, nofr rfl⟩
            refine ⟨fun wu18 hC hd => ?_, ?_⟩
            · obtain ⟨h13, h16, h17, _⟩ := hd
              replace h13 : V 13 = (.bool false) := h13
              replace h16 : V 16 = gb false (.bool false) := h16
              replace h17 : V 17 = gb false (.bool false) := h17
              replace hb := hb.trans (hC.mono hb.size)
              replace hk8 := blk_ext hk8 hC
              replace hro := Row.ext hro hC
              refine ⟨true, false, congrArg some h13, fun hact => ?_, fun hact => ?_⟩
              · exfalso; simp at hact
              · exact ⟨Below.refl _ _, rfl, nofr rfl⟩
            refine ⟨fun wu19 hC hd => ?_, ?_⟩
            · obtain ⟨h13, h18, _⟩ := hd
              replace h13 : V 13 = (.bool false) := h13
              replace h18 : V 18 = gb false (.bool false) := h18
              replace hb := hb.trans (hC.mono hb.size)
              replace hk8 := blk_ext hk8 hC
              replace hro := Row.ext hro hC
              refine ⟨true, false, congrArg some h13, fun hact => ?_, fun hact => ?_⟩
              · exfalso; simp at hact
              · exact ⟨Below.refl _ _, rfl, nofr rfl⟩
            refine ⟨fun wu20 hC hd => ?_, ?_⟩
            · obtain ⟨h13, h19, _⟩ := hd
              replace h13 : V 13 = (.bool false) := h13
              replace h19 : V 19 = gb false (.bool false) := h19
              replace hb := hb.trans (hC.mono hb.size)
              replace hk8 := blk_ext hk8 hC
              replace hro := Row.ext hro hC
              refine ⟨true, false, congrArg some h13, fun hact => ?_, fun hact => ?_⟩
              · exfalso; simp at hact
              · exact ⟨Below.refl _ _, rfl, nofr rfl⟩
            refine ⟨fun wu21 hC hd => ?_, ?_⟩
            · obtain ⟨h13, h15, h20, _⟩ := hd
              replace h13 : V 13 = (.bool false) := h13
              replace h15 : V 15 = gb false (.bool false) := h15
              replace h20 : V 20 = gb false (.bool false) := h20
              replace hb := hb.trans (hC.mono hb.size)
              replace hk8 := blk_ext hk8 hC
              replace hro := Row.ext hro hC
              refine ⟨true, false, congrArg some h13, fun hact => ?_, fun hact => ?_⟩
              · exfalso; simp at hact
              · exact ⟨Below.refl _ _, rfl, nofr rfl⟩
            refine ⟨fun wu22 hC hd => ?_, ?_⟩
            · obtain ⟨h13, h21, _⟩ := hd
              replace h13 : V 13 = (.bool false) := h13
              replace h21 : V 21 = gb false (.bool false) := h21
              replace hb := hb.trans (hC.mono hb.size)
              replace hk8 := blk_ext hk8 hC
              replace hro := Row.ext hro hC
              refine ⟨true, false, congrArg some h13, fun hact => ?_, fun hact => ?_⟩
              · exfalso; simp at hact
              · exact ⟨Below.refl _ _, rfl, nofr rfl⟩
            refine ⟨fun wu23 hC hd => ?_, ?_⟩
            · obtain ⟨h22, _⟩ := hd
              replace h22 : V 22 = gb false (.bool false) := h22
              replace hb := hb.trans (hC.mono hb.size)
              replace hk8 := blk_ext hk8 hC
              replace hro := Row.ext hro hC
              refine ⟨false, false, congrArg some h22, fun hact => ?_, fun hact => ?_⟩
              · exfalso; simp at hact
              · exact ⟨Below.refl _ _, rfl, nofr rfl⟩
            refine ⟨fun wu24 hC hd => ?_, ?_⟩
            · obtain ⟨h22, h23, _⟩ := hd
              replace h22 : V 22 = gb false (.bool false) := h22
              replace h23 : V 23 = gb false (.bool false) := h23
              replace hb := hb.trans (hC.mono hb.size)
              replace hk8 := blk_ext hk8 hC
              replace hro := Row.ext hro hC
              refine ⟨false, false, congrArg some h22, fun hact => ?_, fun hact => ?_⟩
              · exfalso; simp at hact
              · exact ⟨Below.refl _ _, rfl, nofr rfl⟩
            refine ⟨fun wu25 hC hd => ?_, ?_⟩
            · obtain ⟨h22, h24, _⟩ := hd
              replace h22 : V 22 = gb false (.bool false) := h22
              replace h24 : V 24 = gb false (.bool false) := h24
              replace hb := hb.trans (hC.mono hb.size)
              replace hk8 := blk_ext hk8 hC
              replace hro := Row.ext hro hC
              refine ⟨false, false, congrArg some h22, fun hact => ?_, fun hact => ?_⟩
              · exfalso; simp at hact
              · exact ⟨Below.refl _ _, rfl, nofr rfl⟩
            refine ⟨fun wu26 hC hd => ?_, ?_⟩
            · obtain ⟨h22, _⟩ := hd
              replace h22 : V 22 = gb false (.bool false) := h22
              replace hb := hb.trans (hC.mono hb.size)
              replace hk8 := blk_ext hk8 hC
              replace hro := Row.ext hro hC
              refine ⟨false, false, congrArg some h22, fun hact => ?_, fun hact => ?_⟩
              · exfalso; simp at hact
              · exact ⟨Below.refl _ _, rfl, nofr rfl⟩
            refine ⟨fun wu27 hC hd => ?_, ?_⟩
            · obtain ⟨h22, _⟩ := hd
              replace h22 : V 22 = gb false (.bool false) := h22
              replace hb := hb.trans (hC.mono hb.size)
              replace hk8 := blk_ext hk8 hC
              replace hro := Row.ext hro hC
              refine ⟨false, false, congrArg some h22, fun hact => ?_, fun hact => ?_⟩
              · exfalso; simp at hact
              · exact ⟨Below.refl _ _, rfl, nofr rfl⟩
            refine ⟨fun wu28 hC hd => ?_, ?_⟩
            · obtain ⟨h22, h26, h27, _⟩ := hd
              replace h22 : V 22 = gb false (.bool false) := h22
              replace h26 : V 26 = gb false (.bool false) := h26
              replace h27 : V 27 = gb false (.bool false) := h27
              replace hb := hb.trans (hC.mono hb.size)
              replace hk8 := blk_ext hk8 hC
              replace hro := Row.ext hro hC
              refine ⟨false, false, congrArg some h22, fun hact => ?_, fun hact => ?_⟩
              · exfalso; simp at hact
              · exact ⟨Below.refl _ _, rfl, nofr rfl⟩
            refine ⟨fun wu29 hC hd => ?_, ?_⟩
            · obtain ⟨h22, h28, _⟩ := hd
              replace h22 : V 22 = gb false (.bool false) := h22
              replace h28 : V 28 = gb false (.bool false) := h28
              replace hb := hb.trans (hC.mono hb.size)
              replace hk8 := blk_ext hk8 hC
              replace hro := Row.ext hro hC
              refine ⟨false, false, congrArg some h22, fun hact => ?_, fun hact => ?_⟩
              · exfalso; simp at hact
              · exact ⟨Below.refl _ _, rfl, nofr rfl⟩
            refine ⟨fun wu30 hC hd => ?_, ?_⟩
            · obtain ⟨h22, h29, _⟩ := hd
              replace h22 : V 22 = gb false (.bool false) := h22
              replace h29 : V 29 = gb false (.bool false) := h29
              replace hb := hb.trans (hC.mono hb.size)
              replace hk8 := blk_ext hk8 hC
              replace hro := Row.ext hro hC
              refine ⟨false, false, congrArg some h22, fun hact => ?_, fun hact => ?_⟩
              · exfalso; simp at hact
              · exact ⟨Below.refl _ _, rfl, nofr rfl⟩
            refine ⟨fun wu31 hC hd => ?_, ?_⟩
            · obtain ⟨h22, h25, h30, _⟩ := hd
              replace h22 : V 22 = gb false (.bool false) := h22
              replace h25 : V 25 = gb false (.bool false) := h25
              replace h30 : V 30 = gb false (.bool false) := h30
              replace hb := hb.trans (hC.mono hb.size)
              replace hk8 := blk_ext hk8 hC
              replace hro := Row.ext hro hC
              refine ⟨false, false, congrArg some h22, fun hact => ?_, fun hact => ?_⟩
              · exfalso; simp at hact
              · exact ⟨Below.refl _ _, rfl, nofr rfl⟩
            refine ⟨fun wu32 hC hd => ?_, ?_⟩
            · obtain ⟨h13, h22, h31, _⟩ := hd
              replace h13 : V 13 = (.bool false) := h13
              replace h22 : V 22 = gb false (.bool false) := h22
              replace h31 : V 31 = gb false (.bool false) := h31
              replace hb := hb.trans (hC.mono hb.size)
              replace hk8 := blk_ext hk8 hC
              replace hro := Row.ext hro hC
              refine ⟨true, false, congrArg some h13, fun hact => ?_, fun hact => ?_⟩
              · exfalso; simp at hact
              · exact ⟨Below.refl _ _, rfl, nofr rfl⟩
            refine ⟨fun wu33 hC hd => ?_, ?_⟩
            · obtain ⟨h13, h22, h32, _⟩ := hd
              replace h13 : V 13 = (.bool false) := h13
              replace h22 : V 22 = gb false (.bool false) := h22
              replace h32 : V 32 = gb false (.bool false) := h32
              replace hb := hb.trans (hC.mono hb.size)
              replace hk8 := blk_ext hk8 hC
              replace hro := Row.ext hro hC
              refine ⟨true, false, congrArg some h13, fun hact => ?_, fun hact => ?_⟩
              · exfalso; simp at hact
              · exact ⟨Below.refl _ _, rfl, nofr rfl⟩
            refine ⟨fun wu34 hC hd => ?_, ?_⟩
            · obtain ⟨h33, _⟩ := hd
              replace h33 : V 33 = gb false (.bool false) := h33
              replace hb := hb.trans (hC.mono hb.size)
              replace hk8 := blk_ext hk8 hC
              replace hro := Row.ext hro hC
              refine ⟨false, false, congrArg some h33, fun hact => ?_, fun hact => ?_⟩
              · exfalso; simp at hact
              · exact ⟨Below.refl _ _, rfl, nofr rfl⟩
            refine ⟨fun wu35 hC hd => ?_, ?_⟩
            · obtain ⟨h33, h34, _⟩ := hd
              replace h33 : V 33 = gb false (.bool false) := h33
              replace h34 : V 34 = gb false (.bool false) := h34
              replace hb := hb.trans (hC.mono hb.size)
              replace hk8 := blk_ext hk8 hC
              replace hro := Row.ext hro hC
              refine ⟨false, false, congrArg some h33, fun hact => ?_, fun hact => ?_⟩
              · exfalso; simp at hact
              · exact ⟨Below.refl _ _, rfl, nofr rfl⟩
            refine ⟨fun wu36 hC hd => ?_, ?_⟩
            · obtain ⟨h33, _⟩ := hd
              replace h33 : V 33 = gb false (.bool false) := h33
              replace hb := hb.trans (hC.mono hb.size)
              replace hk8 := blk_ext hk8 hC
              replace hro := Row.ext hro hC
              refine ⟨false, false, congrArg some h33, fun hact => ?_, fun hact => ?_⟩
              · exfalso; simp at hact
              · exact ⟨Below.refl _ _, rfl, nofr rfl⟩
            refine ⟨fun wu37 hC hd => ?_, ?_⟩
            · obtain ⟨h33, _⟩ := hd
              replace h33 : V 33 = gb false (.bool false) := h33
              replace hb := hb.trans (hC.mono hb.size)
              replace hk8 := blk_ext hk8 hC
              replace hro := Row.ext hro hC
              refine ⟨false, false, congrArg some h33, fun hact => ?_, fun hact => ?_⟩
              · exfalso; simp at hact
              · exact ⟨Below.refl _ _, rfl, nofr rfl⟩
            refine ⟨fun wu38 hC hd => ?_, ?_⟩
            · obtain ⟨h33, h36, h37, _⟩ := hd
              replace h33 : V 33 = gb false (.bool false) := h33
              replace h36 : V 36 = gb false (.bool false) := h36
              replace h37 : V 37 = gb false (.bool false) := h37
              replace hb := hb.trans (hC.mono hb.size)
              replace hk8 := blk_ext hk8 hC
              replace hro := Row.ext hro hC
              refine ⟨false, false, congrArg some h33, fun hact => ?_, fun hact => ?_⟩
              · exfalso; simp at hact
              · exact ⟨Below.refl _ _, rfl, nofr rfl⟩
            refine ⟨fun wu39 hC hd => ?_, ?_⟩
            · obtain ⟨h33, h38, _⟩ := hd
              replace h33 : V 33 = gb false (.bool false) := h33
              replace h38 : V 38 = gb false (.bool false) := h38
              replace hb := hb.trans (hC.mono hb.size)
              replace hk8 := blk_ext hk8 hC
              replace hro := Row.ext hro hC
              refine ⟨false, false, congrArg some h33, fun hact => ?_, fun hact => ?_⟩
              · exfalso; simp at hact
              · exact ⟨Below.refl _ _, rfl, nofr rfl⟩
            refine ⟨fun wu40 hC hd => ?_, ?_⟩
            · obtain ⟨h33, h39, _⟩ := hd
              replace h33 : V 33 = gb false (.bool false) := h33
              replace h39 : V 39 = gb false (.bool false) := h39
              replace hb := hb.trans (hC.mono hb.size)
              replace hk8 := blk_ext hk8 hC
              replace hro := Row.ext hro hC
              refine ⟨false, false, congrArg some h33, fun hact => ?_, fun hact => ?_⟩
              · exfalso; simp at hact
              · exact ⟨Below.refl _ _, rfl, nofr rfl⟩
            refine ⟨fun wu41 hC hd => ?_, ?_⟩
            · obtain ⟨h33, h35, h40, _⟩ := hd
              replace h33 : V 33 = gb false (.bool false) := h33
              replace h35 : V 35 = gb false (.bool false) := h35
              replace h40 : V 40 = gb false (.bool false) := h40
              replace hb := hb.trans (hC.mono hb.size)
              replace hk8 := blk_ext hk8 hC
              replace hro := Row.ext hro hC
              refine ⟨false, false, congrArg some h33, fun hact => ?_, fun hact => ?_⟩
              · exfalso; simp at hact
              · exact ⟨Below.refl _ _, rfl, nofr rfl⟩
            refine ⟨fun wu42 hC hd => ?_, ?_⟩
            · obtain ⟨h13, h33, h41, _⟩ := hd
              replace h13 : V 13 = (.bool false) := h13
              replace h33 : V 33 = gb false (.bool false) := h33
              replace h41 : V 41 = gb false (.bool false) := h41
              replace hb := hb.trans (hC.mono hb.size)
              replace hk8 := blk_ext hk8 hC
              replace hro := Row.ext hro hC
              refine ⟨true, false, congrArg some h13, fun hact => ?_, fun hact => ?_⟩
              · exfalso; simp at hact
              · exact ⟨Below.refl _ _, rfl, nofr rfl⟩
            refine ⟨fun wu43 hC hd => ?_, ?_⟩
            · obtain ⟨h11, h13, h42, _⟩ := hd
              replace h11 : V 11 = (.bool false) := h11
              replace h13 : V 13 = (.bool false) := h13
              replace h42 : V 42 = gb false (.bool false) := h42
              replace hb := hb.trans (hC.mono hb.size)
              replace hk8 := blk_ext hk8 hC
              replace hro := Row.ext hro hC
              refine ⟨true, false, congrArg some h11, fun hact => ?_, fun hact => ?_⟩
              · exact Runs.does (r_pick (b := false) (congrArg some h13) (congrArg some h42) rfl rfl) ⟨Below.refl _ _, rfl, nofr rfl⟩
              · exfalso; simp at hact
            refine ⟨fun wu44 hC hd => ?_, ?_⟩
            · obtain ⟨h11, h43, _⟩ := hd
              replace h11 : V 11 = (.bool false) := h11
              replace h43 : V 43 = (.bool false) := h43
              replace hb := hb.trans (hC.mono hb.size)
              replace hk8 := blk_ext hk8 hC
              replace hro := Row.ext hro hC
              exact Runs.does (r_pick (b := false) (congrArg some h11) rfl (congrArg some h43) rfl) ⟨Below.refl _ _, rfl, nofr rfl⟩
            trivial
          · skip
            clear hf fa; intro V w29 fa he16 hp hnb hf
            have hv0 : V 0 = (.slice ja (((joinL l).length)) jc) := postsHold_at hp 0 rfl
            have hv1 : V 1 = (.string (strOfNums (joinL l))) := postsHold_at hp 1 rfl
            have hv2 : V 2 = (.slice roa ((((l.take k).map secRef)).length) roc) := postsHold_at hp 2 rfl
            have hv3 : V 3 = (.string (strOfNums (joinL l))) := postsHold_at hp 3 rfl
            have hv4 : V 4 = (.bool false) := postsHold_at hp 4 rfl
            have hv5 : V 5 = (.bool false) := postsHold_at hp 5 rfl
            have hv6 : V 6 = (.bool (fndB id nm l)) := postsHold_at hp 6 rfl
            have hv7 : V 7 = (.int .i64 found) := postsHold_at hp 7 rfl
            have hv8 : V 8 = (.bool (decide ((0 : Int) ≤ found))) := postsHold_at hp 8 rfl
            have hv9 : V 9 = (.bool false) := postsHold_at hp 9 rfl
            have hv10 : V 10 = (.bool false) := postsHold_at hp 10 rfl
            have hv11 : V 11 = (.bool false) := postsHold_at hp 11 rfl
            have hv12 : V 12 = (.bool false) := postsHold_at hp 12 rfl
            have hv13 : V 13 = (.bool false) := postsHold_at hp 13 rfl
            have hv14 : V 14 = gb false (.bool false) := postsHold_at hp 14 rfl
            have hv15 : V 15 = gb false (.bool false) := postsHold_at hp 15 rfl
            have hv16 : V 16 = gb false (.bool false) := postsHold_at hp 16 rfl
            have hv17 : V 17 = gb false (.bool false) := postsHold_at hp 17 rfl
            have hv18 : V 18 = gb false (.bool false) := postsHold_at hp 18 rfl
            have hv19 : V 19 = gb false (.bool false) := postsHold_at hp 19 rfl
            have hv20 : V 20 = gb false (.bool false) := postsHold_at hp 20 rfl
            have hv21 : V 21 = gb false (.bool false) := postsHold_at hp 21 rfl
            have hv22 : V 22 = gb false (.bool false) := postsHold_at hp 22 rfl
            have hv23 : V 23 = gb false (.bool false) := postsHold_at hp 23 rfl
            have hv24 : V 24 = gb false (.bool false) := postsHold_at hp 24 rfl
            have hv25 : V 25 = gb false (.bool false) := postsHold_at hp 25 rfl
            have hv26 : V 26 = gb false (.bool false) := postsHold_at hp 26 rfl
            have hv27 : V 27 = gb false (.bool false) := postsHold_at hp 27 rfl
            have hv28 : V 28 = gb false (.bool false) := postsHold_at hp 28 rfl
            have hv29 : V 29 = gb false (.bool false) := postsHold_at hp 29 rfl
            have hv30 : V 30 = gb false (.bool false) := postsHold_at hp 30 rfl
            have hv31 : V 31 = gb false (.bool false) := postsHold_at hp 31 rfl
            have hv32 : V 32 = gb false (.bool false) := postsHold_at hp 32 rfl
            have hv33 : V 33 = gb false (.bool false) := postsHold_at hp 33 rfl
            have hv34 : V 34 = gb false (.bool false) := postsHold_at hp 34 rfl
            have hv35 : V 35 = gb false (.bool false) := postsHold_at hp 35 rfl
            have hv36 : V 36 = gb false (.bool false) := postsHold_at hp 36 rfl
            have hv37 : V 37 = gb false (.bool false) := postsHold_at hp 37 rfl
            have hv38 : V 38 = gb false (.bool false) := postsHold_at hp 38 rfl
            have hv39 : V 39 = gb false (.bool false) := postsHold_at hp 39 rfl
            have hv40 : V 40 = gb false (.bool false) := postsHold_at hp 40 rfl
            have hv41 : V 41 = gb false (.bool false) := postsHold_at hp 41 rfl
            have hv42 : V 42 = gb false (.bool false) := postsHold_at hp 42 rfl
            have hv43 : V 43 = (.bool false) := postsHold_at hp 43 rfl
            have hv44 : V 44 = (.bool false) := postsHold_at hp 44 rfl
            simp only [List.take_succ_cons, List.take_zero, insAll, ins, hv0, hv1, hv2, hv3, hv4, hv5, hv6, hv7, hv8, hv9, hv10, hv11, hv12, hv13, hv14, hv15, hv16, hv17, hv18, hv19, hv20, hv21, hv22, hv23, hv24, hv25, hv26, hv27, hv28, hv29, hv30, hv31, hv32, hv33, hv34, hv35, hv36, hv37, hv38, hv39, hv40, hv41, hv42, hv43, hv44] at hf
            clear hp hnb hv0 hv1 hv2 hv3 hv4 hv5 hv6 hv7 hv8 hv9 hv10 hv11 hv12 hv13 hv14 hv15 hv16 hv17 hv18 hv19 hv20 hv21 hv22 hv23 hv24 hv25 hv26 hv27 hv28 hv29 hv30 hv31 hv32 hv33 hv34 hv35 hv36 hv37 hv38 hv39 hv40 hv41 hv42 hv43 hv44
            replace hk8 := blk_ext hk8 he16
            replace hro := Row.ext hro he16
            replace hJ := hJ.trans (Below.mono he16 hJ.size)
            replace hb := hb.trans (Below.mono he16 hb.size)
            (try simp only [Exit.then, Exit.inBlock, ↓reduceIte, Nat.reduceEqDiff])
            refine hK31 _ _ ?_
            refine wp_cond_false (hf.ev rfl) ?_
            refine wp_skip ?_
            (try simp only [Exit.then, Exit.inBlock, ↓reduceIte, Nat.reduceEqDiff])
            refine hK30 _ _ ?_
            refine wp_seq_k (fun K47 hK47 => ?_)
            by_cases hsp3 : riseR 0 l = true
            · have hsp3b : decide (riseR 0 l = true) = true := decide_eq_true hsp3
              refine wp_region_lit ?_
              refine sqv hf (r_move rfl) rfl rfl rfl ?_; clear hf fa; intro fa hf
              refine sqdt hf (d_callX (vs := [(.slice ja (((joinL l).length)) jc)]) rfl Try.func88 (by kernel_rfl) (by kernel_rfl) (split_ok l ja jc _ (RdS.ext hjr hJ) hjc hjm hjn (by omega) hP hsp3)) rfl rfl rfl ?_; clear hf fa; rintro fa _ w30 ⟨X, aX, cX, rfl, hrX, hIX, hPX, heX⟩ hf
              replace hrX := Row.rebase hrX hb.size
              replace hIX := SRel.rebase hIX hb.size
              replace hk8 := blk_ext hk8 heX
              replace hro := Row.ext hro heX
              replace hJ := hJ.trans (Below.mono heX hJ.size)
              replace hb := hb.trans (Below.mono heX hb.size)
              have hXl : X.length = l.length := by have h := congrArg List.length hPX; rw [List.length_map, List.length_map] at h; exact h
              refine sqv hf (r_move rfl) rfl rfl rfl ?_; clear hf fa; intro fa hf
              refine sqv hf (r_extract rfl (i := 0) rfl) rfl rfl rfl ?_; clear hf fa; intro fa hf
              refine sqv hf (r_extract rfl (i := 1) rfl) rfl rfl rfl ?_; clear hf fa; intro fa hf
              refine sqdt hf (d_alloc (z := (.agg #[(.int .i64 (0 : Int)), (.int .i64 (0 : Int))])) (cs := #[(.int .i64 (0 : Int)), (.int .i64 (0 : Int))]) (by kernel_rfl) rfl) rfl rfl rfl ?_; clear hf fa; rintro fa _ w31 ⟨b9, rfl, hle10, hk13, he17⟩ hf
              have hBb9 : w.heap.size ≤ b9 := Nat.le_trans hb.size hle10
              have : b6 < b9 := Nat.lt_of_lt_of_le (blk_lt hk8) hle10
              have hUhJb9 := Nat.le_trans hJ.size hle10
              replace hk8 := blk_ext hk8 he17
              replace hro := Row.ext hro he17
              replace hrX := Row.ext hrX he17
              replace hJ := hJ.trans (Below.mono he17 hJ.size)
              replace hIX := SRel.map hIX (fun bf cs hbf => blk_ext hbf he17)
              replace hb := hb.trans (Below.mono he17 hb.size)
              refine sqv hf (r_assign rfl) rfl rfl rfl ?_; clear hf fa; intro fa hf
              refine sqn hf (d_storeK (T := 90) (v := (.agg #[(.int .i64 (0 : Int)), (.int .i64 (0 : Int))])) (cs := #[(.int .i64 (0 : Int)), (.int .i64 (0 : Int))]) (cs' := #[(.int .i64 (0 : Int)), (.int .i64 (0 : Int))]) rfl rfl (by kernel_rfl) (by kernel_rfl) hk13 (by kernel_rfl) (by kernel_rfl)) rfl rfl ?_; clear hf fa; rintro fa _ w32 ⟨hk14, hg9⟩ hf
              replace hk8 := blk_grown hk8 hg9 (by omega)
              replace hro := Row.grown hro hg9 (Row.ne_type hro hk13 rfl)
              replace hrX := Row.grown hrX hg9 (Row.ne_type hrX hk13 rfl)
              replace hJ := hJ.trans (grown_below hg9 hJ.size (by omega))
              replace hIX := SRel.map hIX (fun bf cs hbf => blk_grown hbf hg9 (blk_ty hbf hk13 rfl))
              replace hb := hb.trans (grown_below hg9 hb.size hBb9)
              apply wpList_nil
              (try simp only [Exit.then, Exit.inBlock, ↓reduceIte, Nat.reduceEqDiff])
              refine hK47 _ _ ?_
              refine wp_seq_k (fun K48 hK48 => ?_)
              refine wp_seq_k (fun K49 hK49 => ?_)
              refine wp_region_lit ?_
              refine sqv hf (Runs.veq (r_move rfl) (congrArg Value.bool (show _ = true from (by rw [← hRs2]; exact hsp3)))) rfl rfl rfl ?_; clear hf fa; intro fa hf
              refine sqv hf (Runs.veq (v' := (.bool false)) (r_not rfl) rfl) rfl rfl rfl ?_; clear hf fa; intro fa hf
              apply wpList_nil
              (try simp only [Exit.then, Exit.inBlock, ↓reduceIte, Nat.reduceEqDiff])
              refine hK49 _ _ ?_
              refine wp_cond_false (hf.ev rfl) ?_
              refine wp_skip ?_
              (try simp only [Exit.then, Exit.inBlock, ↓reduceIte, Nat.reduceEqDiff])
              refine hK48 _ _ ?_
              refine wp_seq_k (fun K50 hK50 => ?_)
              refine wp_seq_k (fun K51 hK51 => ?_)
              refine wp_region_lit ?_
              refine sqv hf (r_fa rfl Try.underlying90 (f := 0) (q := 0) rfl (by kernel_rfl) rfl) rfl rfl rfl ?_; clear hf fa; intro fa hf
              refine sqv hf (r_load (v := (.int .i64 (0 : Int))) rfl Try.underlying39 rfl (cell_blk hk14 rfl)) rfl rfl rfl ?_; clear hf fa; intro fa hf
              refine sqv hf (Runs.veq (r_ne rfl rfl) (congrArg Value.bool (show _ = false from (by simp)))) rfl rfl rfl ?_; clear hf fa; intro fa hf
              refine sqv hf (r_move rfl) rfl rfl rfl ?_; clear hf fa; intro fa hf
              refine sqgd (act := true) (g := 3) (want := false) (ag := true) (c := false) hf (by rfl) (by rfl) rfl (fun _ =>  Runs.does (R := fun vq wq => vq = (.slice aX X.length cX) ∧ w32 = wq) (r_move rfl) ⟨rfl, rfl⟩) (fun h => by cases h) rfl ?_; clear hf fa; rintro fa _ _ ⟨rfl, rfl⟩ hf
              change Fr _ _ ((197, (.slice aX X.length cX)) :: _) at hf
              refine sqgd (act := true) (g := 3) (want := false) (ag := true) (c := false) hf (by rfl) (by rfl) rfl (fun _ =>  Runs.does (R := fun vq wq => vq = (.int .i64 ((X.length : Nat) : Int)) ∧ w32 = wq) (r_lensl rfl Try.underlying116) ⟨rfl, rfl⟩) (fun h => by cases h) rfl ?_; clear hf fa; rintro fa _ _ ⟨rfl, rfl⟩ hf
              change Fr _ _ ((198, (.int .i64 ((X.length : Nat) : Int))) :: _) at hf
              refine sqgd (act := true) (g := 3) (want := false) (ag := true) (c := false) hf (by rfl) (by rfl) rfl (fun _ =>  Runs.does (R := fun vq wq => vq = (.slice a l.length c) ∧ w32 = wq) (r_move rfl) ⟨rfl, rfl⟩) (fun h => by cases h) rfl ?_; clear hf fa; rintro fa _ _ ⟨rfl, rfl⟩ hf
              change Fr _ _ ((199, (.slice a l.length c)) :: _) at hf
              refine sqgd (act := true) (g := 3) (want := false) (ag := true) (c := false) hf (by rfl) (by rfl) rfl (fun _ =>  Runs.does (R := fun vq wq => vq = (.int .i64 ((l.length : Nat) : Int)) ∧ w32 = wq) (r_lensl rfl Try.underlying116) ⟨rfl, rfl⟩) (fun h => by cases h) rfl ?_; clear hf fa; rintro fa _ _ ⟨rfl, rfl⟩ hf
              change Fr _ _ ((200, (.int .i64 ((l.length : Nat) : Int))) :: _) at hf
              refine sqgd (act := true) (g := 3) (want := false) (ag := true) (c := false) hf (by rfl) (by rfl) rfl (fun _ =>  Runs.does (R := fun vq wq => vq = (.bool false) ∧ w32 = wq) (Runs.veq (r_ne rfl rfl) (congrArg Value.bool (show _ = false from (by rw [hXl]; simp)))) ⟨rfl, rfl⟩) (fun h => by cases h) rfl ?_; clear hf fa; rintro fa _ _ ⟨rfl, rfl⟩ hf
              change Fr _ _ ((201, (.bool false)) :: _) at hf
              refine sqv hf (r_pick (b := false) rfl rfl rfl rfl) rfl rfl rfl ?_; clear hf fa; intro fa hf
              apply wpList_nil
              (try simp only [Exit.then, Exit.inBlock, ↓reduceIte, Nat.reduceEqDiff])
              refine hK51 _ _ ?_
              refine wp_cond_false (hf.ev rfl) ?_
              refine wp_skip ?_
              (try simp only [Exit.then, Exit.inBlock, ↓reduceIte, Nat.reduceEqDiff])
              refine hK50 _ _ ?_
              refine wp_seq_k (fun K52 hK52 => ?_)
              refine wp_seq_k (fun K53 hK53 => ?_)
              refine wp_region_lit ?_
              refine sqv hf (r_assign rfl) rfl rfl rfl ?_; clear hf fa; intro fa hf
              apply wpList_nil
              (try simp only [Exit.then, Exit.inBlock, ↓reduceIte, Nat.reduceEqDiff])
              refine hK53 _ _ ?_
              refine wp_block ?_
              refine wp_loop_k (fun mq fa wr => ∃ (kk : Nat), mq = l.length - kk ∧ Fr 256 fa [(0, (.slice a l.length c)), (1, (.int .u8 id)), (2, (.string nm)), (6, (.bool false)), (16, (.slice aX X.length cX)), (18, (.int .i64 ((kk : Nat) : Int)))] ∧ Below w.heap.size w wr ∧ Row 4 vMSec 119 (w.heap.size) wr (.slice aX (X.length) cX) X ∧ (kk ≤ l.length) ∧ (SRel w.heap.size wr X)) ?_ ?_
              · skip
                exact ⟨_, 0, rfl, hf.sub ⟨rfl, rfl, rfl, rfl, rfl, (some_int (by first | rfl | omega)), trivial⟩, hb, hrX, by omega, hIX⟩
              · skip
                clear hf fa; intro mq3 fa w33 hI KL3 hKL3
                clear hb
                clear hk8
                clear hk14
                clear hro
                clear hrX
                obtain ⟨kk, hmq3, hf, hb, hrX, hk2, hIX⟩ := hI
                have hcrX := Row.caps hrX
                refine wp_seq_k (fun K54 hK54 => ?_)
                refine wp_seq_k (fun K55 hK55 => ?_)
                refine wp_region_lit ?_
                refine sqv hf (r_move rfl) rfl rfl rfl ?_; clear hf fa; intro fa hf
                refine sqv hf (r_move rfl) rfl rfl rfl ?_; clear hf fa; intro fa hf
                refine sqv hf (r_lensl rfl Try.underlying116) rfl rfl rfl ?_; clear hf fa; intro fa hf
                refine sqv hf (r_lt rfl rfl) rfl rfl rfl ?_; clear hf fa; intro fa hf
                apply wpList_nil
                (try simp only [Exit.then, Exit.inBlock, ↓reduceIte, Nat.reduceEqDiff])
                refine hK55 _ _ ?_
                refine wp_cond_split (t := (decide (((kk : Nat) : Int) < ((l.length : Nat) : Int)))) (hf.ev rfl) (fun hqt206_2 => ?_) (fun hqt206_2 => ?_)
                · have hqt206_2b := hqt206_2
                  try simp only [decide_eq_true_eq, Bool.and_eq_true, Bool.or_eq_true, Bool.not_eq_true', decide_eq_false_iff_not, ne_eq, Bool.not_eq_true] at hqt206_2
                  refine wp_skip ?_
                  (try simp only [Exit.then, Exit.inBlock, ↓reduceIte, Nat.reduceEqDiff])
                  refine hK54 _ _ ?_
                  refine wp_seq_k (fun K56 hK56 => ?_)
                  refine wp_block ?_
                  refine wp_seq_k (fun K57 hK57 => ?_)
                  obtain ⟨y, hy⟩ : ∃ y, l[kk]? = some y := ⟨_, List.getElem?_eq_getElem (by omega)⟩
                  have hym := List.mem_of_getElem? hy
                  have hyrd := (hG y hym).rd
                  have hyl := Sl.list_length y.2.2.1
                  obtain ⟨xb, hxb⟩ : ∃ x, X[kk]? = some x := ⟨_, List.getElem?_eq_getElem (by omega)⟩
                  have hxbm := List.mem_of_getElem? hxb
                  have hrx := hIX xb hxbm
                  have hxl := Sl.list_length xb.2.2.1
                  have hkb := keyB_at hPX hxb hy
                  have hsz1 := strOfNums_size y.2.2.1.list
                  have hsz2 := strOfNums_size xb.2.2.1.list
                  obtain ⟨rb3, rfl, hbbrb3, hlbrb3⟩ := Row.some hrX (by first | omega | (simp only [Sl.list_length, List.length_set, List.length_take, List.length_append, List.length_replicate, List.length_cons, List.length_nil, List.length_map, nums_len]; omega))
                  have hy9 : (X)[kk]? = some xb := hxb
                  have hel9 := RdS.at (Row.rd (by intros; rfl) hrX) hy9
                  obtain ⟨_, _, hab, hlr6, hel9⟩ := hel9
                  cases hab
                  have hy10 : (l)[kk]? = some y := hy
                  obtain ⟨ab3, aoff3, hat3, hlb4, hel10⟩ := RdS.at hl hy10
                  have hy11 : (X)[kk]? = some xb := hxb
                  have hel11 := RdS.at (Row.rd (by intros; rfl) hrX) hy11
                  obtain ⟨_, _, hab, hlr7, hel11⟩ := hel11
                  cases hab
                  have hy12 : (X)[kk]? = some xb := hxb
                  have hel12 := RdS.at (Row.rd (by intros; rfl) hrX) hy12
                  obtain ⟨_, _, hab, hlr8, hel12⟩ := hel12
                  cases hab
                  refine wp_region_un (fun wq => Below w33.heap.size w33 wq) (fun w w' => Below w.heap.size w w')
                    (fun V => [(fun x _ => x = (.slice (some ⟨rb3, 0, none⟩) X.length cX)), (fun x _ => x = (.int .i64 ((kk : Nat) : Int))), (fun x _ => x = (.pointer (some ⟨rb3, (0 + kk * 4), none⟩))), (fun x _ => x = (.pointer (some ⟨rb3, (0 + kk * 4), none⟩))), (fun x _ => x = (.int .u8 xb.1)), (fun x _ => x = (.slice a l.length c)), (fun x _ => x = (.int .i64 ((kk : Nat) : Int))), (fun x _ => x = (.pointer (some ⟨ab3, (aoff3 + kk * 4), none⟩))), (fun x _ => x = (.pointer (some ⟨ab3, (aoff3 + kk * 4), none⟩))), (fun x _ => x = (.int .u8 y.1)), (fun x _ => x = (.bool false)), (fun x _ => x = (.bool false)), (fun x _ => x = (.slice a l.length c)), (fun x _ => x = (.int .i64 ((kk : Nat) : Int))), (fun x _ => x = (.pointer (some ⟨ab3, (aoff3 + kk * 4), none⟩))), (fun x _ => x = (.pointer (some ⟨ab3, (aoff3 + kk * 4), none⟩))), (fun x _ => x = (.int .u8 y.1)), (fun x _ => x = (.bool (decide (y.1 = (0 : Int))))), (fun x _ => x = (.bool (decide (y.1 = (0 : Int))))), (fun x _ => x = (gb (decide (y.1 = (0 : Int))) (.slice (some ⟨rb3, 0, none⟩) X.length cX))), (fun x _ => x = (gb (decide (y.1 = (0 : Int))) (.int .i64 ((kk : Nat) : Int)))), (fun x _ => x = (gb (decide (y.1 = (0 : Int))) (.pointer (some ⟨rb3, (0 + kk * 4), none⟩)))), (fun x _ => x = (gb (decide (y.1 = (0 : Int))) (.pointer (some ⟨rb3, ((0 + kk * 4) + 1), none⟩)))), (fun x _ => x = (gb (decide (y.1 = (0 : Int))) (.string xb.2.1))), (fun x _ => x = (gb (decide (y.1 = (0 : Int))) (.slice a l.length c))), (fun x _ => x = (gb (decide (y.1 = (0 : Int))) (.int .i64 ((kk : Nat) : Int)))), (fun x _ => x = (gb (decide (y.1 = (0 : Int))) (.pointer (some ⟨ab3, (aoff3 + kk * 4), none⟩)))), (fun x _ => x = (gb (decide (y.1 = (0 : Int))) (.pointer (some ⟨ab3, ((aoff3 + kk * 4) + 1), none⟩)))), (fun x _ => x = (gb (decide (y.1 = (0 : Int))) (.string y.2.1))), (fun x _ => x = (gb (decide (y.1 = (0 : Int))) (.bool (decide (xb.2.1 ≠ y.2.1))))), (fun x _ => x = (.bool false)), (fun x _ => x = (.bool false)), (fun x _ => x = (.bool false)), (fun x _ => x = (.slice (some ⟨rb3, 0, none⟩) X.length cX)), (fun x _ => x = (.int .i64 ((kk : Nat) : Int))), (fun x _ => x = (.pointer (some ⟨rb3, (0 + kk * 4), none⟩))), (fun x _ => x = (.pointer (some ⟨rb3, ((0 + kk * 4) + 2), none⟩))), (fun x _ => x = (.slice xb.2.2.1.at' xb.2.2.1.len xb.2.2.1.cap)), (fun x _ => x = (.string (strOfNums xb.2.2.1.list))), (fun x _ => x = (.slice a l.length c)), (fun x _ => x = (.int .i64 ((kk : Nat) : Int))), (fun x _ => x = (.pointer (some ⟨ab3, (aoff3 + kk * 4), none⟩))), (fun x _ => x = (.pointer (some ⟨ab3, ((aoff3 + kk * 4) + 2), none⟩))), (fun x _ => x = (.slice y.2.2.1.at' y.2.2.1.len y.2.2.1.cap)), (fun x _ => x = (.string (strOfNums y.2.2.1.list))), (fun x _ => x = (.bool false)), (fun x _ => x = (.bool false))])
                    []
                    [[], [], [0, 1], [2], [3], [], [], [5, 6], [7], [8], [4, 9], [10], [11], [11], [11, 12, 13], [11, 14], [11, 15], [11, 16], [11, 17], [18], [18], [18, 19, 20], [18, 21], [18, 22], [18], [18], [18, 24, 25], [18, 26], [18, 27], [18, 23, 28], [11, 18, 29], [11, 30], [18, 31], [32], [32], [32, 33, 34], [32, 35], [32, 36], [32, 37], [32], [32], [32, 39, 40], [32, 41], [32, 42], [32, 43], [32, 38, 44], [32, 45]]
                    hf (by kernel_rfl) (by kernel_rfl) (fun _ => rfl) ((Below.refl _ _).drew) (fun a b h1 h2 => h1.trans (h2.mono h1.size)) (fun _ _ h => h.size) (fun V => ⟨kept_eq, kept_eq, kept_eq, kept_eq, kept_eq, kept_eq, kept_eq, kept_eq, kept_eq, kept_eq, kept_eq, kept_eq, kept_eq, kept_eq, kept_eq, kept_eq, kept_eq, kept_eq, kept_eq, kept_eq, kept_eq, kept_eq, kept_eq, kept_eq, kept_eq, kept_eq, kept_eq, kept_eq, kept_eq, kept_eq, kept_eq, kept_eq, kept_eq, kept_eq, kept_eq, kept_eq, kept_eq, kept_eq, kept_eq, kept_eq, kept_eq, kept_eq, kept_eq, kept_eq, kept_eq, kept_eq, kept_eq, trivial⟩) (fun _ _ _ _ _ => rfl) ?_ ?_
                  · skip
                    intro V
                    refine ⟨fun wu0 hC hd => ?_, ?_⟩
                    · clear hd
                      replace hb := hb.trans (hC.mono hb.size)
                      replace hrX := Row.ext hrX hC
                      replace hrx := Row.ext hrx hC
                      exact Runs.does (r_move rfl) ⟨Below.refl _ _, rfl, nofr rfl⟩
                    refine ⟨fun wu1 hC hd => ?_, ?_⟩
                    · clear hd
                      replace hb := hb.trans (hC.mono hb.size)
                      replace hrX := Row.ext hrX hC
                      replace hrx := Row.ext hrx hC
                      exact Runs.does (r_move rfl) ⟨Below.refl _ _, rfl, nofr rfl⟩
                    refine ⟨fun wu2 hC hd => ?_, ?_⟩
                    · obtain ⟨h0, h1, _⟩ := hd
                      replace h0 : V 0 = (.slice (some ⟨rb3, 0, none⟩) X.length cX) := h0
                      replace h1 : V 1 = (.int .i64 ((kk : Nat) : Int)) := h1
                      replace hb := hb.trans (hC.mono hb.size)
                      replace hrX := Row.ext hrX hC
                      replace hrx := Row.ext hrx hC
                      exact Runs.does (r_ixa (sz := 4) (j := kk) (congrArg some h0) (congrArg some h1) Try.underlying116 (by kernel_rfl) rfl (by omega) rfl) ⟨Below.refl _ _, rfl, nofr rfl⟩
                    refine ⟨fun wu3 hC hd => ?_, ?_⟩
                    · obtain ⟨h2, _⟩ := hd
                      replace h2 : V 2 = (.pointer (some ⟨rb3, (0 + kk * 4), none⟩)) := h2
                      replace hb := hb.trans (hC.mono hb.size)
                      replace hrX := Row.ext hrX hC
                      replace hrx := Row.ext hrx hC
                      exact Runs.does (r_fa (congrArg some h2) Try.underlying119 (f := 0) (q := (0 + kk * 4)) rfl (by kernel_rfl) rfl) ⟨Below.refl _ _, rfl, nofr rfl⟩
                    refine ⟨fun wu4 hC hd => ?_, ?_⟩
                    · obtain ⟨h3, _⟩ := hd
                      replace h3 : V 3 = (.pointer (some ⟨rb3, (0 + kk * 4), none⟩)) := h3
                      replace hb := hb.trans (hC.mono hb.size)
                      replace hrX := Row.ext hrX hC
                      replace hrx := Row.ext hrx hC
                      exact Runs.does (r_load (v := (.int .u8 xb.1)) (congrArg some h3) Try.underlying5 rfl (cellsAt_cell (cellsAt_below hel9 hC hlr6) (i := 0) rfl rfl)) ⟨Below.refl _ _, rfl, nofr rfl⟩
                    refine ⟨fun wu5 hC hd => ?_, ?_⟩
                    · clear hd
                      replace hb := hb.trans (hC.mono hb.size)
                      replace hrX := Row.ext hrX hC
                      replace hrx := Row.ext hrx hC
                      exact Runs.does (r_move rfl) ⟨Below.refl _ _, rfl, nofr rfl⟩
                    refine ⟨fun wu6 hC hd => ?_, ?_⟩
                    · clear hd
                      replace hb := hb.trans (hC.mono hb.size)
                      replace hrX := Row.ext hrX hC
                      replace hrx := Row.ext hrx hC
                      exact Runs.does (r_move rfl) ⟨Below.refl _ _, rfl, nofr rfl⟩
                    refine ⟨fun wu7 hC hd => ?_, ?_⟩
                    · obtain ⟨h5, h6, _⟩ := hd
                      replace h5 : V 5 = (.slice a l.length c) := h5
                      replace h6 : V 6 = (.int .i64 ((kk : Nat) : Int)) := h6
                      replace hb := hb.trans (hC.mono hb.size)
                      replace hrX := Row.ext hrX hC
                      replace hrx := Row.ext hrx hC
                      exact Runs.does (r_ixa (sz := 4) (j := kk) (evAt (congrArg some h5) hat3) (congrArg some h6) Try.underlying116 (by kernel_rfl) rfl (by omega) rfl) ⟨Below.refl _ _, rfl, nofr rfl⟩
                    refine ⟨fun wu8 hC hd => ?_, ?_⟩
                    · obtain ⟨h7, _⟩ := hd
                      replace h7 : V 7 = (.pointer (some ⟨ab3, (aoff3 + kk * 4), none⟩)) := h7
                      replace hb := hb.trans (hC.mono hb.size)
                      replace hrX := Row.ext hrX hC
                      replace hrx := Row.ext hrx hC
                      exact Runs.does (r_fa (congrArg some h7) Try.underlying119 (f := 0) (q := (aoff3 + kk * 4)) rfl (by kernel_rfl) rfl) ⟨Below.refl _ _, rfl, nofr rfl⟩
                    refine ⟨fun wu9 hC hd => ?_, ?_⟩
                    · obtain ⟨h8, _⟩ := hd
                      replace h8 : V 8 = (.pointer (some ⟨ab3, (aoff3 + kk * 4), none⟩)) := h8
                      replace hb := hb.trans (hC.mono hb.size)
                      replace hrX := Row.ext hrX hC
                      replace hrx := Row.ext hrx hC
                      exact Runs.does (r_load (v := (.int .u8 y.1)) (congrArg some h8) Try.underlying5 rfl (cellsAt_cell (cellsAt_below hel10 hb hlb4) (i := 0) rfl rfl)) ⟨Below.refl _ _, rfl, nofr rfl⟩
                    refine ⟨fun wu10 hC hd => ?_, ?_⟩
                    · obtain ⟨h4, h9, _⟩ := hd
                      replace h4 : V 4 = (.int .u8 xb.1) := h4
                      replace h9 : V 9 = (.int .u8 y.1) := h9
                      replace hb := hb.trans (hC.mono hb.size)
                      replace hrX := Row.ext hrX hC
                      replace hrx := Row.ext hrx hC
                      exact Runs.does (Runs.veq (r_ne (congrArg some h4) (congrArg some h9)) (congrArg Value.bool (show _ = false from (by rw [hkb.1]; simp)))) ⟨Below.refl _ _, rfl, nofr rfl⟩
                    refine ⟨fun wu11 hC hd => ?_, ?_⟩
                    · obtain ⟨h10, _⟩ := hd
                      replace h10 : V 10 = (.bool false) := h10
                      replace hb := hb.trans (hC.mono hb.size)
                      replace hrX := Row.ext hrX hC
                      replace hrx := Row.ext hrx hC
                      exact Runs.does (r_move (congrArg some h10)) ⟨Below.refl _ _, rfl, nofr rfl⟩
                    refine ⟨fun wu12 hC hd => ?_, ?_⟩
                    · obtain ⟨h11, _⟩ := hd
                      replace h11 : V 11 = (.bool false) := h11
                      replace hb := hb.trans (hC.mono hb.size)
                      replace hrX := Row.ext hrX hC
                      replace hrx := Row.ext hrx hC
                      refine ⟨true, false, congrArg some h11, fun hact => ?_, fun hact => ?_⟩
                      · exact Runs.does (r_move rfl) ⟨Below.refl _ _, rfl, nofr rfl⟩
                      · exfalso; simp at hact
                    refine ⟨fun wu13 hC hd => ?_, ?_⟩
                    · obtain ⟨h11, _⟩ := hd
                      replace h11 : V 11 = (.bool false) := h11
                      replace hb := hb.trans (hC.mono hb.size)
                      replace hrX := Row.ext hrX hC
                      replace hrx := Row.ext hrx hC
                      refine ⟨true, false, congrArg some h11, fun hact => ?_, fun hact => ?_⟩
                      · exact Runs.does (r_move rfl) ⟨Below.refl _ _, rfl, nofr rfl⟩
                      · exfalso; simp at hact
                    refine ⟨fun wu14 hC hd => ?_, ?_⟩
                    · obtain ⟨h11, h12, h13, _⟩ := hd
                      replace h11 : V 11 = (.bool false) := h11
                      replace h12 : V 12 = (.slice a l.length c) := h12
                      replace h13 : V 13 = (.int .i64 ((kk : Nat) : Int)) := h13
                      replace hb := hb.trans (hC.mono hb.size)
                      replace hrX := Row.ext hrX hC
                      replace hrx := Row.ext hrx hC
                      refine ⟨true, false, congrArg some h11, fun hact => ?_, fun hact => ?_⟩
                      · exact Runs.does (r_ixa (sz := 4) (j := kk) (evAt (congrArg some h12) hat3) (congrArg some h13) Try.underlying116 (by kernel_rfl) rfl (by omega) rfl) ⟨Below.refl _ _, rfl, nofr rfl⟩
                      · exfalso; simp at hact
                    refine ⟨fun wu15 hC hd => ?_, ?_⟩
                    · obtain ⟨h11, h14, _⟩ := hd
                      replace h11 : V 11 = (.bool false) := h11
                      replace h14 : V 14 = (.pointer (some ⟨ab3, (aoff3 + kk * 4), none⟩)) := h14
                      replace hb := hb.trans (hC.mono hb.size)
                      replace hrX := Row.ext hrX hC
                      replace hrx := Row.ext hrx hC
                      refine ⟨true, false, congrArg some h11, fun hact => ?_, fun hact => ?_⟩
                      · exact Runs.does (r_fa (congrArg some h14) Try.underlying119 (f := 0) (q := (aoff3 + kk * 4)) rfl (by kernel_rfl) rfl) ⟨Below.refl _ _, rfl, nofr rfl⟩
                      · exfalso; simp at hact
                    refine ⟨fun wu16 hC hd => ?_, ?_⟩
                    · obtain ⟨h11, h15, _⟩ := hd
                      replace h11 : V 11 = (.bool false) := h11
                      replace h15 : V 15 = (.pointer (some ⟨ab3, (aoff3 + kk * 4), none⟩)) := h15
                      replace hb := hb.trans (hC.mono hb.size)
                      replace hrX := Row.ext hrX hC
                      replace hrx := Row.ext hrx hC
                      refine ⟨true, false, congrArg some h11, fun hact => ?_, fun hact => ?_⟩
                      · exact Runs.does (r_load (v := (.int .u8 y.1)) (congrArg some h15) Try.underlying5 rfl (cellsAt_cell (cellsAt_below hel10 hb hlb4) (i := 0) rfl rfl)) ⟨Below.refl _ _, rfl, nofr rfl⟩
                      · exfalso; simp at hact
                    refine ⟨fun wu17 hC hd => ?_, ?_⟩
                    · obtain ⟨h11, h16, _⟩ := hd
                      replace h11 : V 11 = (.bool false) := h11
                      replace h16 : V 16 = (.int .u8 y.1) := h16
                      replace hb := hb.trans (hC.mono hb.size)
                      replace hrX := Row.ext hrX hC
                      replace hrx := Row.ext hrx hC
                      refine ⟨true, false, congrArg some h11, fun hact => ?_, fun hact => ?_⟩
                      · exact Runs.does (r_eq (congrArg some h16) rfl) ⟨Below.refl _ _, rfl, nofr rfl⟩
                      · exfalso; simp at hact
                    refine ⟨fun wu18 hC hd => ?_, ?_⟩
                    · obtain ⟨h11, h17, _⟩ := hd
                      replace h11 : V 11 = (.bool false) := h11
                      replace h17 : V 17 = (.bool (decide (y.1 = (0 : Int)))) := h17
                      replace hb := hb.trans (hC.mono hb.size)
                      replace hrX := Row.ext hrX hC
                      replace hrx := Row.ext hrx hC
                      refine ⟨true, false, congrArg some h11, fun hact => ?_, fun hact => ?_⟩
                      · exact Runs.does (r_move (congrArg some h17)) ⟨Below.refl _ _, rfl, nofr rfl⟩
                      · exfalso; simp at hact
                    refine ⟨fun wu19 hC hd => ?_, ?_⟩
                    · obtain ⟨h18, _⟩ := hd
                      replace h18 : V 18 = (.bool (decide (y.1 = (0 : Int)))) := h18
                      replace hb := hb.trans (hC.mono hb.size)
                      replace hrX := Row.ext hrX hC
                      replace hrx := Row.ext hrx hC
                      refine ⟨true, (decide (y.1 = (0 : Int))), congrArg some h18, fun hact => ?_, fun hact => ?_⟩
                      · replace hact : (decide (y.1 = (0 : Int))) = true := by simpa using hact
                        refine Runs.does (v := (.slice (some ⟨rb3, 0, none⟩) X.length cX)) (r_move rfl) ⟨Below.refl _ _, ?_, nofr rfl⟩
                        show _ = gb _ _; rw [hact]; rfl
                      · replace hact : (decide (y.1 = (0 : Int))) = false := by simpa using hact
                        refine ⟨Below.refl _ _, ?_, nofr rfl⟩
                        show _ = gb _ _; rw [hact]; rfl
                    refine ⟨fun wu20 hC hd => ?_, ?_⟩
                    · obtain ⟨h18, _⟩ := hd
                      replace h18 : V 18 = (.bool (decide (y.1 = (0 : Int)))) := h18
                      replace hb := hb.trans (hC.mono hb.size)
                      replace hrX := Row.ext hrX hC
                      replace hrx := Row.ext hrx hC
                      refine ⟨true, (decide (y.1 = (0 : Int))), congrArg some h18, fun hact => ?_, fun hact => ?_⟩
                      · replace hact : (decide (y.1 = (0 : Int))) = true := by simpa using hact
                        refine Runs.does (v := (.int .i64 ((kk : Nat) : Int))) (r_move rfl) ⟨Below.refl _ _, ?_, nofr rfl⟩
                        show _ = gb _ _; rw [hact]; rfl
                      · replace hact : (decide (y.1 = (0 : Int))) = false := by simpa using hact
                        refine ⟨Below.refl _ _, ?_, nofr rfl⟩
                        show _ = gb _ _; rw [hact]; rfl
                    refine ⟨fun wu21 hC hd => ?_, ?_⟩
                    · obtain ⟨h18, h19, h20, _⟩ := hd
                      replace h18 : V 18 = (.bool (decide (y.1 = (0 : Int)))) := h18
                      replace h19 : V 19 = (gb (decide (y.1 = (0 : Int))) (.slice (some ⟨rb3, 0, none⟩) X.length cX)) := h19
                      replace h20 : V 20 = (gb (decide (y.1 = (0 : Int))) (.int .i64 ((kk : Nat) : Int))) := h20
                      replace hb := hb.trans (hC.mono hb.size)
                      replace hrX := Row.ext hrX hC
                      replace hrx := Row.ext hrx hC
                      refine ⟨true, (decide (y.1 = (0 : Int))), congrArg some h18, fun hact => ?_, fun hact => ?_⟩
                      · replace hact : (decide (y.1 = (0 : Int))) = true := by simpa using hact
                        refine Runs.does (v := (.pointer (some ⟨rb3, (0 + kk * 4), none⟩))) (by have hact0 := hact; (try simp only [Bool.and_eq_true, Bool.not_eq_true', Bool.or_eq_false_iff, Bool.or_eq_true, Bool.and_eq_false_iff, ne_eq, decide_eq_true_eq, decide_eq_false_iff_not] at hact0); exact (r_ixa (sz := 4) (j := kk) (gb_ev hact (congrArg some h19)) (gb_ev hact (congrArg some h20)) Try.underlying116 (by kernel_rfl) rfl (by omega) rfl)) ⟨Below.refl _ _, ?_, nofr rfl⟩
                        show _ = gb _ _; rw [hact]; rfl
                      · replace hact : (decide (y.1 = (0 : Int))) = false := by simpa using hact
                        refine ⟨Below.refl _ _, ?_, nofr rfl⟩
                        show _ = gb _ _; rw [hact]; rfl
                    refine ⟨fun wu22 hC hd => ?_, ?_⟩
                    · obtain ⟨h18, h21, _⟩ := hd
                      replace h18 : V 18 = (.bool (decide (y.1 = (0 : Int)))) := h18
                      replace h21 : V 21 = (gb (decide (y.1 = (0 : Int))) (.pointer (some ⟨rb3, (0 + kk * 4), none⟩))) := h21
                      replace hb := hb.trans (hC.mono hb.size)
                      replace hrX := Row.ext hrX hC
                      replace hrx := Row.ext hrx hC
                      refine ⟨true, (decide (y.1 = (0 : Int))), congrArg some h18, fun hact => ?_, fun hact => ?_⟩
                      · replace hact : (decide (y.1 = (0 : Int))) = true := by simpa using hact
                        refine Runs.does (v := (.pointer (some ⟨rb3, ((0 + kk * 4) + 1), none⟩))) (r_fa (gb_ev hact (congrArg some h21)) Try.underlying119 (f := 1) (q := ((0 + kk * 4) + 1)) rfl (by kernel_rfl) rfl) ⟨Below.refl _ _, ?_, nofr rfl⟩
                        show _ = gb _ _; rw [hact]; rfl
                      · replace hact : (decide (y.1 = (0 : Int))) = false := by simpa using hact
                        refine ⟨Below.refl _ _, ?_, nofr rfl⟩
                        show _ = gb _ _; rw [hact]; rfl
                    refine ⟨fun wu23 hC hd => ?_, ?_⟩
                    · obtain ⟨h18, h22, _⟩ := hd
                      replace h18 : V 18 = (.bool (decide (y.1 = (0 : Int)))) := h18
                      replace h22 : V 22 = (gb (decide (y.1 = (0 : Int))) (.pointer (some ⟨rb3, ((0 + kk * 4) + 1), none⟩))) := h22
                      replace hb := hb.trans (hC.mono hb.size)
                      replace hrX := Row.ext hrX hC
                      replace hrx := Row.ext hrx hC
                      refine ⟨true, (decide (y.1 = (0 : Int))), congrArg some h18, fun hact => ?_, fun hact => ?_⟩
                      · replace hact : (decide (y.1 = (0 : Int))) = true := by simpa using hact
                        refine Runs.does (v := (.string xb.2.1)) (r_load (v := (.string xb.2.1)) (gb_ev hact (congrArg some h22)) Try.underlying9 rfl (cellsAt_cell (cellsAt_below hel11 hC hlr7) (i := 1) rfl rfl)) ⟨Below.refl _ _, ?_, nofr rfl⟩
                        show _ = gb _ _; rw [hact]; rfl
                      · replace hact : (decide (y.1 = (0 : Int))) = false := by simpa using hact
                        refine ⟨Below.refl _ _, ?_, nofr rfl⟩
                        show _ = gb _ _; rw [hact]; rfl
                    refine ⟨fun wu24 hC hd => ?_, ?_⟩
                    · obtain ⟨h18, _⟩ := hd
                      replace h18 : V 18 = (.bool (decide (y.1 = (0 : Int)))) := h18
                      replace hb := hb.trans (hC.mono hb.size)
                      replace hrX := Row.ext hrX hC
                      replace hrx := Row.ext hrx hC
                      refine ⟨true, (decide (y.1 = (0 : Int))), congrArg some h18, fun hact => ?_, fun hact => ?_⟩
                      · replace hact : (decide (y.1 = (0 : Int))) = true := by simpa using hact
                        refine Runs.does (v := (.slice a l.length c)) (r_move rfl) ⟨Below.refl _ _, ?_, nofr rfl⟩
                        show _ = gb _ _; rw [hact]; rfl
                      · replace hact : (decide (y.1 = (0 : Int))) = false := by simpa using hact
                        refine ⟨Below.refl _ _, ?_, nofr rfl⟩
                        show _ = gb _ _; rw [hact]; rfl
                    refine ⟨fun wu25 hC hd => ?_, ?_⟩
                    · obtain ⟨h18, _⟩ := hd
                      replace h18 : V 18 = (.bool (decide (y.1 = (0 : Int)))) := h18
                      replace hb := hb.trans (hC.mono hb.size)
                      replace hrX := Row.ext hrX hC
                      replace hrx := Row.ext hrx hC
                      refine ⟨true, (decide (y.1 = (0 : Int))), congrArg some h18, fun hact => ?_, fun hact => ?_⟩
                      · replace hact : (decide (y.1 = (0 : Int))) = true := by simpa using hact
                        refine Runs.does (v := (.int .i64 ((kk : Nat) : Int))) (r_move rfl) ⟨Below.refl _ _, ?_, nofr rfl⟩
                        show _ = gb _ _; rw [hact]; rfl
                      · replace hact : (decide (y.1 = (0 : Int))) = false := by simpa using hact
                        refine ⟨Below.refl _ _, ?_, nofr rfl⟩
                        show _ = gb _ _; rw [hact]; rfl
                    refine ⟨fun wu26 hC hd => ?_, ?_⟩
                    · obtain ⟨h18, h24, h25, _⟩ := hd
                      replace h18 : V 18 = (.bool (decide (y.1 = (0 : Int)))) := h18
                      replace h24 : V 24 = (gb (decide (y.1 = (0 : Int))) (.slice a l.length c)) := h24
                      replace h25 : V 25 = (gb (decide (y.1 = (0 : Int))) (.int .i64 ((kk : Nat) : Int))) := h25
                      replace hb := hb.trans (hC.mono hb.size)
                      replace hrX := Row.ext hrX hC
                      replace hrx := Row.ext hrx hC
                      refine ⟨true, (decide (y.1 = (0 : Int))), congrArg some h18, fun hact => ?_, fun hact => ?_⟩
                      · replace hact : (decide (y.1 = (0 : Int))) = true := by simpa using hact
                        refine Runs.does (v := (.pointer (some ⟨ab3, (aoff3 + kk * 4), none⟩))) (by have hact0 := hact; (try simp only [Bool.and_eq_true, Bool.not_eq_true', Bool.or_eq_false_iff, Bool.or_eq_true, Bool.and_eq_false_iff, ne_eq, decide_eq_true_eq, decide_eq_false_iff_not] at hact0); exact (r_ixa (sz := 4) (j := kk) (evAt (gb_ev hact (congrArg some h24)) hat3) (gb_ev hact (congrArg some h25)) Try.underlying116 (by kernel_rfl) rfl (by omega) rfl)) ⟨Below.refl _ _, ?_, nofr rfl⟩
                        show _ = gb _ _; rw [hact]; rfl
                      · replace hact : (decide (y.1 = (0 : Int))) = false := by simpa using hact
                        refine ⟨Below.refl _ _, ?_, nofr rfl⟩
                        show _ = gb _ _; rw [hact]; rfl
                    refine ⟨fun wu27 hC hd => ?_, ?_⟩
                    · obtain ⟨h18, h26, _⟩ := hd
                      replace h18 : V 18 = (.bool (decide (y.1 = (0 : Int)))) := h18
                      replace h26 : V 26 = (gb (decide (y.1 = (0 : Int))) (.pointer (some ⟨ab3, (aoff3 + kk * 4), none⟩))) := h26
                      replace hb := hb.trans (hC.mono hb.size)
                      replace hrX := Row.ext hrX hC
                      replace hrx := Row.ext hrx hC
                      refine ⟨true, (decide (y.1 = (0 : Int))), congrArg some h18, fun hact => ?_, fun hact => ?_⟩
                      · replace hact : (decide (y.1 = (0 : Int))) = true := by simpa using hact
                        refine Runs.does (v := (.pointer (some ⟨ab3, ((aoff3 + kk * 4) + 1), none⟩))) (r_fa (gb_ev hact (congrArg some h26)) Try.underlying119 (f := 1) (q := ((aoff3 + kk * 4) + 1)) rfl (by kernel_rfl) rfl) ⟨Below.refl _ _, ?_, nofr rfl⟩
                        show _ = gb _ _; rw [hact]; rfl
                      · replace hact : (decide (y.1 = (0 : Int))) = false := by simpa using hact
                        refine ⟨Below.refl _ _, ?_, nofr rfl⟩
                        show _ = gb _ _; rw [hact]; rfl
                    refine ⟨fun wu28 hC hd => ?_, ?_⟩
                    · obtain ⟨h18, h27, _⟩ := hd
                      replace h18 : V 18 = (.bool (decide (y.1 = (0 : Int)))) := h18
                      replace h27 : V 27 = (gb (decide (y.1 = (0 : Int))) (.pointer (some ⟨ab3, ((aoff3 + kk * 4) + 1), none⟩))) := h27
                      replace hb := hb.trans (hC.mono hb.size)
                      replace hrX := Row.ext hrX hC
                      replace hrx := Row.ext hrx hC
                      refine ⟨true, (decide (y.1 = (0 : Int))), congrArg some h18, fun hact => ?_, fun hact => ?_⟩
                      · replace hact : (decide (y.1 = (0 : Int))) = true := by simpa using hact
                        refine Runs.does (v := (.string y.2.1)) (r_load (v := (.string y.2.1)) (gb_ev hact (congrArg some h27)) Try.underlying9 rfl (cellsAt_cell (cellsAt_below hel10 hb hlb4) (i := 1) rfl rfl)) ⟨Below.refl _ _, ?_, nofr rfl⟩
                        show _ = gb _ _; rw [hact]; rfl
                      · replace hact : (decide (y.1 = (0 : Int))) = false := by simpa using hact
                        refine ⟨Below.refl _ _, ?_, nofr rfl⟩
                        show _ = gb _ _; rw [hact]; rfl
                    refine ⟨fun wu29 hC hd => ?_, ?_⟩
                    · obtain ⟨h18, h23, h28, _⟩ := hd
                      replace h18 : V 18 = (.bool (decide (y.1 = (0 : Int)))) := h18
                      replace h23 : V 23 = (gb (decide (y.1 = (0 : Int))) (.string xb.2.1)) := h23
                      replace h28 : V 28 = (gb (decide (y.1 = (0 : Int))) (.string y.2.1)) := h28
                      replace hb := hb.trans (hC.mono hb.size)
                      replace hrX := Row.ext hrX hC
                      replace hrx := Row.ext hrx hC
                      refine ⟨true, (decide (y.1 = (0 : Int))), congrArg some h18, fun hact => ?_, fun hact => ?_⟩
                      · replace hact : (decide (y.1 = (0 : Int))) = true := by simpa using hact
                        refine Runs.does (v := (.bool (decide (xb.2.1 ≠ y.2.1)))) (r_sne (gb_ev hact (congrArg some h23)) (gb_ev hact (congrArg some h28))) ⟨Below.refl _ _, ?_, nofr rfl⟩
                        show _ = gb _ _; rw [hact]; rfl
                      · replace hact : (decide (y.1 = (0 : Int))) = false := by simpa using hact
                        refine ⟨Below.refl _ _, ?_, nofr rfl⟩
                        show _ = gb _ _; rw [hact]; rfl
                    refine ⟨fun wu30 hC hd => ?_, ?_⟩
                    · obtain ⟨h11, h18, h29, _⟩ := hd
                      replace h11 : V 11 = (.bool false) := h11
                      replace h18 : V 18 = (.bool (decide (y.1 = (0 : Int)))) := h18
                      replace h29 : V 29 = (gb (decide (y.1 = (0 : Int))) (.bool (decide (xb.2.1 ≠ y.2.1)))) := h29
                      replace hb := hb.trans (hC.mono hb.size)
                      replace hrX := Row.ext hrX hC
                      replace hrx := Row.ext hrx hC
                      refine ⟨true, false, congrArg some h11, fun hact => ?_, fun hact => ?_⟩
                      · exact Runs.does (Runs.veq (r_pickA (b := (decide (y.1 = (0 : Int)))) (e := (decide (xb.2.1 ≠ y.2.1))) (congrArg some h18) (congrArg some h29) rfl) (congrArg Value.bool (show _ = false from (by by_cases h0 : y.1 = 0; rw [hkb.2.1 h0]; simp; simp [h0])))) ⟨Below.refl _ _, rfl, nofr rfl⟩
                      · exfalso; simp at hact
                    refine ⟨fun wu31 hC hd => ?_, ?_⟩
                    · obtain ⟨h11, h30, _⟩ := hd
                      replace h11 : V 11 = (.bool false) := h11
                      replace h30 : V 30 = (.bool false) := h30
                      replace hb := hb.trans (hC.mono hb.size)
                      replace hrX := Row.ext hrX hC
                      replace hrx := Row.ext hrx hC
                      exact Runs.does (r_pick (b := false) (congrArg some h11) rfl (congrArg some h30) rfl) ⟨Below.refl _ _, rfl, nofr rfl⟩
                    refine ⟨fun wu32 hC hd => ?_, ?_⟩
                    · obtain ⟨h18, h31, _⟩ := hd
                      replace h18 : V 18 = (.bool (decide (y.1 = (0 : Int)))) := h18
                      replace h31 : V 31 = (.bool false) := h31
                      replace hb := hb.trans (hC.mono hb.size)
                      replace hrX := Row.ext hrX hC
                      replace hrx := Row.ext hrx hC
                      exact Runs.does (r_move (congrArg some h31)) ⟨Below.refl _ _, rfl, nofr rfl⟩
                    refine ⟨fun wu33 hC hd => ?_, ?_⟩
                    · obtain ⟨h32, _⟩ := hd
                      replace h32 : V 32 = (.bool false) := h32
                      replace hb := hb.trans (hC.mono hb.size)
                      replace hrX := Row.ext hrX hC
                      replace hrx := Row.ext hrx hC
                      refine ⟨true, false, congrArg some h32, fun hact => ?_, fun hact => ?_⟩
                      · exact Runs.does (r_move rfl) ⟨Below.refl _ _, rfl, nofr rfl⟩
                      · exfalso; simp at hact
                    refine ⟨fun wu34 hC hd => ?_, ?_⟩
                    · obtain ⟨h32, _⟩ := hd
                      replace h32 : V 32 = (.bool false) := h32
                      replace hb := hb.trans (hC.mono hb.size)
                      replace hrX := Row.ext hrX hC
                      replace hrx := Row.ext hrx hC
                      refine ⟨true, false, congrArg some h32, fun hact => ?_, fun hact => ?_⟩
                      · exact Runs.does (r_move rfl) ⟨Below.refl _ _, rfl, nofr rfl⟩
                      · exfalso; simp at hact
                    refine ⟨fun wu35 hC hd => ?_, ?_⟩
                    · obtain ⟨h32, h33, h34, _⟩ := hd
                      replace h32 : V 32 = (.bool false) := h32
                      replace h33 : V 33 = (.slice (some ⟨rb3, 0, none⟩) X.length cX) := h33
                      replace h34 : V 34 = (.int .i64 ((kk : Nat) : Int)) := h34
                      replace hb := hb.trans (hC.mono hb.size)
                      replace hrX := Row.ext hrX hC
                      replace hrx := Row.ext hrx hC
                      refine ⟨true, false, congrArg some h32, fun hact => ?_, fun hact => ?_⟩
                      · exact Runs.does (r_ixa (sz := 4) (j := kk) (congrArg some h33) (congrArg some h34) Try.underlying116 (by kernel_rfl) rfl (by omega) rfl) ⟨Below.refl _ _, rfl, nofr rfl⟩
                      · exfalso; simp at hact
                    refine ⟨fun wu36 hC hd => ?_, ?_⟩
                    · obtain ⟨h32, h35, _⟩ := hd
                      replace h32 : V 32 = (.bool false) := h32
                      replace h35 : V 35 = (.pointer (some ⟨rb3, (0 + kk * 4), none⟩)) := h35
                      replace hb := hb.trans (hC.mono hb.size)
                      replace hrX := Row.ext hrX hC
                      replace hrx := Row.ext hrx hC
                      refine ⟨true, false, congrArg some h32, fun hact => ?_, fun hact => ?_⟩
                      · exact Runs.does (r_fa (congrArg some h35) Try.underlying119 (f := 2) (q := ((0 + kk * 4) + 2)) rfl (by kernel_rfl) rfl) ⟨Below.refl _ _, rfl, nofr rfl⟩
                      · exfalso; simp at hact
                    refine ⟨fun wu37 hC hd => ?_, ?_⟩
                    · obtain ⟨h32, h36, _⟩ := hd
                      replace h32 : V 32 = (.bool false) := h32
                      replace h36 : V 36 = (.pointer (some ⟨rb3, ((0 + kk * 4) + 2), none⟩)) := h36
                      replace hb := hb.trans (hC.mono hb.size)
                      replace hrX := Row.ext hrX hC
                      replace hrx := Row.ext hrx hC
                      refine ⟨true, false, congrArg some h32, fun hact => ?_, fun hact => ?_⟩
                      · exact Runs.does (r_load (v := (.slice xb.2.2.1.at' xb.2.2.1.len xb.2.2.1.cap)) (congrArg some h36) Try.underlying47 rfl (cellsAt_cell (cellsAt_below hel12 hC hlr8) (i := 2) rfl rfl)) ⟨Below.refl _ _, rfl, nofr rfl⟩
                      · exfalso; simp at hact
                    refine ⟨fun wu38 hC hd => ?_, ?_⟩
                    · obtain ⟨h32, h37, _⟩ := hd
                      replace h32 : V 32 = (.bool false) := h32
                      replace h37 : V 37 = (.slice xb.2.2.1.at' xb.2.2.1.len xb.2.2.1.cap) := h37
                      replace hb := hb.trans (hC.mono hb.size)
                      replace hrX := Row.ext hrX hC
                      replace hrx := Row.ext hrx hC
                      refine ⟨true, false, congrArg some h32, fun hact => ?_, fun hact => ?_⟩
                      · exact Runs.does (r_rowstr (congrArg some h37) Try.underlying47 Try.underlying5 Try.underlying9 hrx) ⟨Below.refl _ _, rfl, nofr rfl⟩
                      · exfalso; simp at hact
                    refine ⟨fun wu39 hC hd => ?_, ?_⟩
                    · obtain ⟨h32, _⟩ := hd
                      replace h32 : V 32 = (.bool false) := h32
                      replace hb := hb.trans (hC.mono hb.size)
                      replace hrX := Row.ext hrX hC
                      replace hrx := Row.ext hrx hC
                      refine ⟨true, false, congrArg some h32, fun hact => ?_, fun hact => ?_⟩
                      · exact Runs.does (r_move rfl) ⟨Below.refl _ _, rfl, nofr rfl⟩
                      · exfalso; simp at hact
                    refine ⟨fun wu40 hC hd => ?_, ?_⟩
                    · obtain ⟨h32, _⟩ := hd
                      replace h32 : V 32 = (.bool false) := h32
                      replace hb := hb.trans (hC.mono hb.size)
                      replace hrX := Row.ext hrX hC
                      replace hrx := Row.ext hrx hC
                      refine ⟨true, false, congrArg some h32, fun hact => ?_, fun hact => ?_⟩
                      · exact Runs.does (r_move rfl) ⟨Below.refl _ _, rfl, nofr rfl⟩
                      · exfalso; simp at hact
                    refine ⟨fun wu41 hC hd => ?_, ?_⟩
                    · obtain ⟨h32, h39, h40, _⟩ := hd
                      replace h32 : V 32 = (.bool false) := h32
                      replace h39 : V 39 = (.slice a l.length c) := h39
                      replace h40 : V 40 = (.int .i64 ((kk : Nat) : Int)) := h40
                      replace hb := hb.trans (hC.mono hb.size)
                      replace hrX := Row.ext hrX hC
                      replace hrx := Row.ext hrx hC
                      refine ⟨true, false, congrArg some h32, fun hact => ?_, fun hact => ?_⟩
                      · exact Runs.does (r_ixa (sz := 4) (j := kk) (evAt (congrArg some h39) hat3) (congrArg some h40) Try.underlying116 (by kernel_rfl) rfl (by omega) rfl) ⟨Below.refl _ _, rfl, nofr rfl⟩
                      · exfalso; simp at hact
                    refine ⟨fun wu42 hC hd => ?_, ?_⟩
                    · obtain ⟨h32, h41, _⟩ := hd
                      replace h32 : V 32 = (.bool false) := h32
                      replace h41 : V 41 = (.pointer (some ⟨ab3, (aoff3 + kk * 4), none⟩)) := h41
                      replace hb := hb.trans (hC.mono hb.size)
                      replace hrX := Row.ext hrX hC
                      replace hrx := Row.ext hrx hC
                      refine ⟨true, false, congrArg some h32, fun hact => ?_, fun hact => ?_⟩
                      · exact Runs.does (r_fa (congrArg some h41) Try.underlying119 (f := 2) (q := ((aoff3 + kk * 4) + 2)) rfl (by kernel_rfl) rfl) ⟨Below.refl _ _, rfl, nofr rfl⟩
                      · exfalso; simp at hact
                    refine ⟨fun wu43 hC hd => ?_, ?_⟩
                    · obtain ⟨h32, h42, _⟩ := hd
                      replace h32 : V 32 = (.bool false) := h32
                      replace h42 : V 42 = (.pointer (some ⟨ab3, ((aoff3 + kk * 4) + 2), none⟩)) := h42
                      replace hb := hb.trans (hC.mono hb.size)
                      replace hrX := Row.ext hrX hC
                      replace hrx := Row.ext hrx hC
                      refine ⟨true, false, congrArg some h32, fun hact => ?_, fun hact => ?_⟩
                      · exact Runs.does (r_load (v := (.slice y.2.2.1.at' y.2.2.1.len y.2.2.1.cap)) (congrArg some h42) Try.underlying47 rfl (cellsAt_cell (cellsAt_below hel10 hb hlb4) (i := 2) rfl rfl)) ⟨Below.refl _ _, rfl, nofr rfl⟩
                      · exfalso; simp at hact
                    refine ⟨fun wu44 hC hd => ?_, ?_⟩
                    · obtain ⟨h32, h43, _⟩ := hd
                      replace h32 : V 32 = (.bool false) := h32
                      replace h43 : V 43 = (.slice y.2.2.1.at' y.2.2.1.len y.2.2.1.cap) := h43
                      replace hb := hb.trans (hC.mono hb.size)
                      replace hrX := Row.ext hrX hC
                      replace hrx := Row.ext hrx hC
                      refine ⟨true, false, congrArg some h32, fun hact => ?_, fun hact => ?_⟩
                      · exact Runs.does (r_rdstr2 (congrArg some h43) (by first | rfl | exact (Sl.list_length _).symm) Try.underlying47 Try.underlying5 Try.underlying9 (RdS.ext hyrd hb)) ⟨Below.refl _ _, rfl, nofr rfl⟩
                      · exfalso; simp at hact
                    refine ⟨fun wu45 hC hd => ?_, ?_⟩
                    · obtain ⟨h32, h38, h44, _⟩ := hd
                      replace h32 : V 32 = (.bool false) := h32
                      replace h38 : V 38 = (.string (strOfNums xb.2.2.1.list)) := h38
                      replace h44 : V 44 = (.string (strOfNums y.2.2.1.list)) := h44
                      replace hb := hb.trans (hC.mono hb.size)
                      replace hrX := Row.ext hrX hC
                      replace hrx := Row.ext hrx hC
                      refine ⟨true, false, congrArg some h32, fun hact => ?_, fun hact => ?_⟩
                      · exact Runs.does (Runs.veq (r_sne (congrArg some h38) (congrArg some h44)) (congrArg Value.bool (show _ = false from (by rw [hkb.2.2]; simp)))) ⟨Below.refl _ _, rfl, nofr rfl⟩
                      · exfalso; simp at hact
                    refine ⟨fun wu46 hC hd => ?_, ?_⟩
                    · obtain ⟨h32, h45, _⟩ := hd
                      replace h32 : V 32 = (.bool false) := h32
                      replace h45 : V 45 = (.bool false) := h45
                      replace hb := hb.trans (hC.mono hb.size)
                      replace hrX := Row.ext hrX hC
                      replace hrx := Row.ext hrx hC
                      exact Runs.does (r_pick (b := false) (congrArg some h32) rfl (congrArg some h45) rfl) ⟨Below.refl _ _, rfl, nofr rfl⟩
                    trivial
                  · skip
                    clear hf fa; intro V w34 fa he18 hp hnb hf
                    have hv0 : V 0 = (.slice (some ⟨rb3, 0, none⟩) X.length cX) := postsHold_at hp 0 rfl
                    have hv1 : V 1 = (.int .i64 ((kk : Nat) : Int)) := postsHold_at hp 1 rfl
                    have hv2 : V 2 = (.pointer (some ⟨rb3, (0 + kk * 4), none⟩)) := postsHold_at hp 2 rfl
                    have hv3 : V 3 = (.pointer (some ⟨rb3, (0 + kk * 4), none⟩)) := postsHold_at hp 3 rfl
                    have hv4 : V 4 = (.int .u8 xb.1) := postsHold_at hp 4 rfl
                    have hv5 : V 5 = (.slice a l.length c) := postsHold_at hp 5 rfl
                    have hv6 : V 6 = (.int .i64 ((kk : Nat) : Int)) := postsHold_at hp 6 rfl
                    have hv7 : V 7 = (.pointer (some ⟨ab3, (aoff3 + kk * 4), none⟩)) := postsHold_at hp 7 rfl
                    have hv8 : V 8 = (.pointer (some ⟨ab3, (aoff3 + kk * 4), none⟩)) := postsHold_at hp 8 rfl
                    have hv9 : V 9 = (.int .u8 y.1) := postsHold_at hp 9 rfl
                    have hv10 : V 10 = (.bool false) := postsHold_at hp 10 rfl
                    have hv11 : V 11 = (.bool false) := postsHold_at hp 11 rfl
                    have hv12 : V 12 = (.slice a l.length c) := postsHold_at hp 12 rfl
                    have hv13 : V 13 = (.int .i64 ((kk : Nat) : Int)) := postsHold_at hp 13 rfl
                    have hv14 : V 14 = (.pointer (some ⟨ab3, (aoff3 + kk * 4), none⟩)) := postsHold_at hp 14 rfl
                    have hv15 : V 15 = (.pointer (some ⟨ab3, (aoff3 + kk * 4), none⟩)) := postsHold_at hp 15 rfl
                    have hv16 : V 16 = (.int .u8 y.1) := postsHold_at hp 16 rfl
                    have hv17 : V 17 = (.bool (decide (y.1 = (0 : Int)))) := postsHold_at hp 17 rfl
                    have hv18 : V 18 = (.bool (decide (y.1 = (0 : Int)))) := postsHold_at hp 18 rfl
                    have hv19 : V 19 = (gb (decide (y.1 = (0 : Int))) (.slice (some ⟨rb3, 0, none⟩) X.length cX)) := postsHold_at hp 19 rfl
                    have hv20 : V 20 = (gb (decide (y.1 = (0 : Int))) (.int .i64 ((kk : Nat) : Int))) := postsHold_at hp 20 rfl
                    have hv21 : V 21 = (gb (decide (y.1 = (0 : Int))) (.pointer (some ⟨rb3, (0 + kk * 4), none⟩))) := postsHold_at hp 21 rfl
                    have hv22 : V 22 = (gb (decide (y.1 = (0 : Int))) (.pointer (some ⟨rb3, ((0 + kk * 4) + 1), none⟩))) := postsHold_at hp 22 rfl
                    have hv23 : V 23 = (gb (decide (y.1 = (0 : Int))) (.string xb.2.1)) := postsHold_at hp 23 rfl
                    have hv24 : V 24 = (gb (decide (y.1 = (0 : Int))) (.slice a l.length c)) := postsHold_at hp 24 rfl
                    have hv25 : V 25 = (gb (decide (y.1 = (0 : Int))) (.int .i64 ((kk : Nat) : Int))) := postsHold_at hp 25 rfl
                    have hv26 : V 26 = (gb (decide (y.1 = (0 : Int))) (.pointer (some ⟨ab3, (aoff3 + kk * 4), none⟩))) := postsHold_at hp 26 rfl
                    have hv27 : V 27 = (gb (decide (y.1 = (0 : Int))) (.pointer (some ⟨ab3, ((aoff3 + kk * 4) + 1), none⟩))) := postsHold_at hp 27 rfl
                    have hv28 : V 28 = (gb (decide (y.1 = (0 : Int))) (.string y.2.1)) := postsHold_at hp 28 rfl
                    have hv29 : V 29 = (gb (decide (y.1 = (0 : Int))) (.bool (decide (xb.2.1 ≠ y.2.1)))) := postsHold_at hp 29 rfl
                    have hv30 : V 30 = (.bool false) := postsHold_at hp 30 rfl
                    have hv31 : V 31 = (.bool false) := postsHold_at hp 31 rfl
                    have hv32 : V 32 = (.bool false) := postsHold_at hp 32 rfl
                    have hv33 : V 33 = (.slice (some ⟨rb3, 0, none⟩) X.length cX) := postsHold_at hp 33 rfl
                    have hv34 : V 34 = (.int .i64 ((kk : Nat) : Int)) := postsHold_at hp 34 rfl
                    have hv35 : V 35 = (.pointer (some ⟨rb3, (0 + kk * 4), none⟩)) := postsHold_at hp 35 rfl
                    have hv36 : V 36 = (.pointer (some ⟨rb3, ((0 + kk * 4) + 2), none⟩)) := postsHold_at hp 36 rfl
                    have hv37 : V 37 = (.slice xb.2.2.1.at' xb.2.2.1.len xb.2.2.1.cap) := postsHold_at hp 37 rfl
                    have hv38 : V 38 = (.string (strOfNums xb.2.2.1.list)) := postsHold_at hp 38 rfl
                    have hv39 : V 39 = (.slice a l.length c) := postsHold_at hp 39 rfl
                    have hv40 : V 40 = (.int .i64 ((kk : Nat) : Int)) := postsHold_at hp 40 rfl
                    have hv41 : V 41 = (.pointer (some ⟨ab3, (aoff3 + kk * 4), none⟩)) := postsHold_at hp 41 rfl
                    have hv42 : V 42 = (.pointer (some ⟨ab3, ((aoff3 + kk * 4) + 2), none⟩)) := postsHold_at hp 42 rfl
                    have hv43 : V 43 = (.slice y.2.2.1.at' y.2.2.1.len y.2.2.1.cap) := postsHold_at hp 43 rfl
                    have hv44 : V 44 = (.string (strOfNums y.2.2.1.list)) := postsHold_at hp 44 rfl
                    have hv45 : V 45 = (.bool false) := postsHold_at hp 45 rfl
                    have hv46 : V 46 = (.bool false) := postsHold_at hp 46 rfl
                    simp only [List.take_succ_cons, List.take_zero, insAll, ins, hv0, hv1, hv2, hv3, hv4, hv5, hv6, hv7, hv8, hv9, hv10, hv11, hv12, hv13, hv14, hv15, hv16, hv17, hv18, hv19, hv20, hv21, hv22, hv23, hv24, hv25, hv26, hv27, hv28, hv29, hv30, hv31, hv32, hv33, hv34, hv35, hv36, hv37, hv38, hv39, hv40, hv41, hv42, hv43, hv44, hv45, hv46] at hf
                    clear hp hnb hv0 hv1 hv2 hv3 hv4 hv5 hv6 hv7 hv8 hv9 hv10 hv11 hv12 hv13 hv14 hv15 hv16 hv17 hv18 hv19 hv20 hv21 hv22 hv23 hv24 hv25 hv26 hv27 hv28 hv29 hv30 hv31 hv32 hv33 hv34 hv35 hv36 hv37 hv38 hv39 hv40 hv41 hv42 hv43 hv44 hv45 hv46
                    replace hrX := Row.ext hrX he18
                    replace hrx := Row.ext hrx he18
                    replace hIX := SRel.map hIX (fun bf cs hbf => blk_ext hbf he18)
                    replace hb := hb.trans (Below.mono he18 hb.size)
                    (try simp only [Exit.then, Exit.inBlock, ↓reduceIte, Nat.reduceEqDiff])
                    refine hK57 _ _ ?_
                    refine wp_cond_false (hf.ev rfl) ?_
                    refine wp_skip ?_
                    (try simp only [Exit.then, Exit.inBlock, ↓reduceIte, Nat.reduceEqDiff])
                    refine hK56 _ _ ?_
                    refine wp_region_lit ?_
                    refine sqv hf (r_move rfl) rfl rfl rfl ?_; clear hf fa; intro fa hf
                    refine sqv hf (r_add (C := (((kk : Nat) : Int) + (1 : Int))) rfl rfl (by rw [IntKind.wrap_i64]; omega)) rfl rfl rfl ?_; clear hf fa; intro fa hf
                    refine sqv hf (r_assign rfl) rfl rfl rfl ?_; clear hf fa; intro fa hf
                    apply wpList_nil
                    (try simp only [Exit.then, Exit.inBlock, ↓reduceIte, Nat.reduceEqDiff])
                    refine hKL3 _ _ _ (by omega) ⟨(kk + 1), rfl, hf.sub ⟨rfl, rfl, rfl, rfl, rfl, (some_int (by first | rfl | omega)), trivial⟩, hb, hrX, by omega, hIX⟩
                · have hqt206_2b := hqt206_2
                  replace hqt206_2 := Bool.eq_false_iff.1 hqt206_2
                  try simp only [ne_eq, decide_eq_true_eq, Bool.and_eq_true, Bool.or_eq_true, Bool.not_eq_true', decide_eq_false_iff_not] at hqt206_2
                  refine wp_exit ?_
                  (try simp only [Exit.then, Exit.inBlock, ↓reduceIte, Nat.reduceEqDiff])
                  refine hK52 _ _ ?_
                  refine wp_seq_k (fun K58 hK58 => ?_)
                  refine wp_region_lit ?_
                  refine sqv hf (r_assign rfl) rfl rfl rfl ?_; clear hf fa; intro fa hf
                  apply wpList_nil
                  (try simp only [Exit.then, Exit.inBlock, ↓reduceIte, Nat.reduceEqDiff])
                  refine hK58 _ _ ?_
                  refine wp_ret ?_
                  (try simp only [Exit.then, Exit.inBlock])
                  refine ret1 hf rfl rfl ?_
                  exact ⟨rfl, hb⟩
            · have hsp3b : decide (riseR 0 l = true) = false := decide_eq_false hsp3
              refine wp_region_lit ?_
              refine sqv hf (r_move rfl) rfl rfl rfl ?_; clear hf fa; intro fa hf
              refine sqdt hf (d_callX (vs := [(.slice ja (((joinL l).length)) jc)]) rfl Try.func88 (by kernel_rfl) (by kernel_rfl) (split_bad l ja jc _ (RdS.ext hjr hJ) hjc hjm hjn (by omega) hP (Bool.eq_false_iff.2 hsp3))) rfl rfl rfl ?_; clear hf fa; rintro fa _ w35 ⟨why, at9, rfl, hne, heX⟩ hf
              replace hk8 := blk_ext hk8 heX
              replace hro := Row.ext hro heX
              replace hJ := hJ.trans (Below.mono heX hJ.size)
              replace hb := hb.trans (Below.mono heX hb.size)
              refine sqv hf (r_move rfl) rfl rfl rfl ?_; clear hf fa; intro fa hf
              refine sqv hf (r_extract rfl (i := 0) rfl) rfl rfl rfl ?_; clear hf fa; intro fa hf
              refine sqv hf (r_extract rfl (i := 1) rfl) rfl rfl rfl ?_; clear hf fa; intro fa hf
              refine sqdt hf (d_alloc (z := (.agg #[(.int .i64 (0 : Int)), (.int .i64 (0 : Int))])) (cs := #[(.int .i64 (0 : Int)), (.int .i64 (0 : Int))]) (by kernel_rfl) rfl) rfl rfl rfl ?_; clear hf fa; rintro fa _ w36 ⟨b10, rfl, hle11, hk15, he19⟩ hf
              have hBb10 : w.heap.size ≤ b10 := Nat.le_trans hb.size hle11
              have : b6 < b10 := Nat.lt_of_lt_of_le (blk_lt hk8) hle11
              have hUhJb10 := Nat.le_trans hJ.size hle11
              replace hk8 := blk_ext hk8 he19
              replace hro := Row.ext hro he19
              replace hJ := hJ.trans (Below.mono he19 hJ.size)
              replace hb := hb.trans (Below.mono he19 hb.size)
              refine sqv hf (r_assign rfl) rfl rfl rfl ?_; clear hf fa; intro fa hf
              refine sqn hf (d_storeK (T := 90) (v := (.agg #[(.int .i64 why), (.int .i64 at9)])) (cs := #[(.int .i64 (0 : Int)), (.int .i64 (0 : Int))]) (cs' := #[(.int .i64 why), (.int .i64 at9)]) rfl rfl (by kernel_rfl) (by kernel_rfl) hk15 (by kernel_rfl) (by kernel_rfl)) rfl rfl ?_; clear hf fa; rintro fa _ w37 ⟨hk16, hg10⟩ hf
              replace hk8 := blk_grown hk8 hg10 (by omega)
              replace hro := Row.grown hro hg10 (Row.ne_type hro hk15 rfl)
              replace hJ := hJ.trans (grown_below hg10 hJ.size (by omega))
              replace hb := hb.trans (grown_below hg10 hb.size hBb10)
              apply wpList_nil
              (try simp only [Exit.then, Exit.inBlock, ↓reduceIte, Nat.reduceEqDiff])
              refine hK47 _ _ ?_
              refine wp_seq_k (fun K59 hK59 => ?_)
              refine wp_seq_k (fun K60 hK60 => ?_)
              refine wp_region_lit ?_
              refine sqv hf (Runs.veq (r_move rfl) (congrArg Value.bool (show _ = false from (by rw [← hRs2]; exact Bool.eq_false_iff.2 hsp3)))) rfl rfl rfl ?_; clear hf fa; intro fa hf
              refine sqv hf (Runs.veq (v' := (.bool true)) (r_not rfl) rfl) rfl rfl rfl ?_; clear hf fa; intro fa hf
              apply wpList_nil
              (try simp only [Exit.then, Exit.inBlock, ↓reduceIte, Nat.reduceEqDiff])
              refine hK60 _ _ ?_
              refine wp_cond_true (hf.ev rfl) ?_
              refine wp_seq_k (fun K61 hK61 => ?_)
              refine wp_region_lit ?_
              refine sqv hf (r_fa rfl Try.underlying90 (f := 0) (q := 0) rfl (by kernel_rfl) rfl) rfl rfl rfl ?_; clear hf fa; intro fa hf
              refine sqv hf (r_load (v := (.int .i64 why)) rfl Try.underlying39 rfl (cell_blk hk16 rfl)) rfl rfl rfl ?_; clear hf fa; intro fa hf
              refine sqv hf (Runs.veq (r_ne rfl rfl) (congrArg Value.bool (show _ = true from (decide_eq_true hne)))) rfl rfl rfl ?_; clear hf fa; intro fa hf
              refine sqv hf (r_assign rfl) rfl rfl rfl ?_; clear hf fa; intro fa hf
              apply wpList_nil
              (try simp only [Exit.then, Exit.inBlock, ↓reduceIte, Nat.reduceEqDiff])
              refine hK61 _ _ ?_
              refine wp_ret ?_
              (try simp only [Exit.then, Exit.inBlock])
              refine ret1 hf rfl rfl ?_
              exact ⟨rfl, hb⟩
end Go.Proofs.Ytcmdajkkdognfaa
