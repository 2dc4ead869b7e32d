/- What is proved here: the reference of the journal: Note, Keep, Back. -/
import Derived.Test.YtmcmickgllffoaaJpB
namespace Go.Proofs.Ytmcmickgllffoaa
open Go.RowKit
set_option linter.unusedVariables false
set_option linter.unusedSimpArgs false
def rNote (Rr : List (List Ent)) (x : Ent) : List (List Ent) := if Rr.length = 0 then Rr else Rr.set (Rr.length - 1) (Rr.getD (Rr.length - 1) [] ++ [x])
theorem rNote_len (Rr : List (List Ent)) (x : Ent) : (rNote Rr x).length = Rr.length := by
  unfold rNote
  split
  · rfl
  · rw [List.length_set]
theorem last_flat {Rr : List (List Ent)} (h : 0 < Rr.length) : Rr.flatten = (Rr.take (Rr.length - 1)).flatten ++ Rr.getD (Rr.length - 1) [] := by
  obtain ⟨l, hl⟩ : ∃ x, Rr[Rr.length - 1]? = some x := ⟨_, List.getElem?_eq_getElem (by omega)⟩
  have h1 := flat_take hl
  rw [show Rr.length - 1 + 1 = Rr.length by omega, List.take_length] at h1
  rw [h1, List.getD_eq_getElem?_getD, hl]
  rfl
theorem rNote_flat {Rr : List (List Ent)} (x : Ent) (h : 0 < Rr.length) : (rNote Rr x).flatten = Rr.flatten ++ [x] := by
  have hn : ¬ Rr.length = 0 := by omega
  have h1 := last_flat (Rr := rNote Rr x) (by rw [rNote_len]; exact h)
  rw [rNote_len] at h1
  rw [h1, last_flat h, List.append_assoc]
  unfold rNote
  rw [if_neg hn]
  congr 1
  · rw [List.take_set, List.set_eq_of_length_le (by rw [List.length_take]; omega)]
  · rw [List.getD_eq_getElem?_getD, List.getElem?_set, if_pos rfl, if_pos (by omega)]
    rfl
theorem rNote_flen (Rr : List (List Ent)) (x : Ent) : (rNote Rr x).flatten.length ≤ Rr.flatten.length + 1 := by
  by_cases h : 0 < Rr.length
  · rw [rNote_flat x h, List.length_append]; simp
  · have e : Rr = [] := List.length_eq_zero_iff.1 (by omega)
    subst e
    simp [rNote]
theorem RI.set {B : Nat} {w : World} {Vs : List SlV} {Rr : List (List Ent)} (h : RI B w Vs Rr) (i : Nat) {s : SlV} {l : List Ent} (hr : Row 4 vE 59 B w (.slice s.1 s.2.1 s.2.2) l) : RI B w (Vs.set i s) (Rr.set i l) := by
  refine ⟨by rw [List.length_set, List.length_set]; exact h.1, fun j s' l' h1 h2 => ?_⟩
  rw [List.getElem?_set] at h1 h2
  by_cases e : i = j
  · rw [if_pos e] at h1 h2
    split at h1
    · split at h2
      · injection h1 with h1; injection h2 with h2
        subst h1; subst h2; exact hr
      · cases h2
    · cases h1
  · rw [if_neg e] at h1 h2
    exact h.2 j s' l' h1 h2
theorem RI.take {B : Nat} {w : World} {Vs : List SlV} {Rr : List (List Ent)} (h : RI B w Vs Rr) (n : Nat) : RI B w (Vs.take n) (Rr.take n) := by
  refine ⟨by rw [List.length_take, List.length_take, h.1], fun j s l h1 h2 => ?_⟩
  rw [List.getElem?_take] at h1 h2
  split at h1
  · rename_i hj
    rw [if_pos hj] at h2
    exact h.2 j s l h1 h2
  · cases h1
theorem RI.snoc {B : Nat} {w : World} {Vs : List SlV} {Rr : List (List Ent)} (h : RI B w Vs Rr) : RI B w (Vs ++ [(none, 0, 0)]) (Rr ++ [[]]) := by
  have hl := h.1
  refine ⟨by rw [List.length_append, List.length_append, hl]; rfl, fun j s l h1 h2 => ?_⟩
  by_cases hj : j < Vs.length
  · rw [List.getElem?_append_left hj] at h1
    rw [List.getElem?_append_left (by omega)] at h2
    exact h.2 j s l h1 h2
  · have hz := (List.getElem?_eq_some_iff.1 h1).1
    have e : j = Vs.length := by rw [List.length_append] at hz; simp at hz; omega
    subst e
    rw [List.getElem?_append_right (Nat.le_refl _), Nat.sub_self] at h1
    rw [hl, List.getElem?_append_right (Nat.le_refl _), Nat.sub_self] at h2
    injection h1 with h1; injection h2 with h2
    subst h1; subst h2
    exact Row.nil
theorem RI.rebase {B B2 : Nat} {w : World} {Vs : List SlV} {Rr : List (List Ent)} (h : RI B w Vs Rr) (hB : B2 ≤ B) : RI B2 w Vs Rr := ⟨h.1, fun i s l h1 h2 => (h.2 i s l h1 h2).rebase hB⟩

set_option maxHeartbeats 1000000 in
set_option maxRecDepth 100000 in
theorem note28 (B : Nat) (w : World) (a : Option Addr) (c : Nat) (Vs : List SlV) (Rr : List (List Ent)) (hBw : B ≤ w.heap.size) (hRV : Row 1 vSV 64 B w (.slice a Vs.length c) Vs) (hRI : RI B w Vs Rr) (hRs : Rr.length ≤ 1000) (hRf : Rr.flatten.length ≤ 1000000) (xe : Ent) : Calls Try.prog 21 #[(.slice a Vs.length c), (.agg #[(.int .i64 xe.1), (.int .i64 xe.2.1), (.int .u64 xe.2.2.1), (.string xe.2.2.2)])] w fun e w' => ∃ x, e = .returned x ∧ ∃ Vn va vc, x = .slice va Vn.length vc ∧ Row 1 vSV 64 B w' (.slice va Vn.length vc) Vn ∧ RI B w' Vn (rNote Rr xe) ∧ Below w.heap.size w w' := by
  have hcV := Row.caps hRV
  have hVR := hRI.1
  refine sx_enter (L := [(0, (.slice a Vs.length c)), (1, (.agg #[(.int .i64 xe.1), (.int .i64 xe.2.1), (.int .u64 xe.2.2.1), (.string xe.2.2.2)]))]) Try.func21 rfl rfl rfl rfl (fun fa hf => ?_)
  have hb : Below w.heap.size w w := Below.refl _ _
  refine wp_seq_k (fun K1 hK1 => ?_)
  refine wp_region_lit ?_
  refine sqdt hf (d_box (cs := #[(.int .i64 xe.1), (.int .i64 xe.2.1), (.int .u64 xe.2.2.1), (.string xe.2.2.2)]) rfl rfl) rfl rfl rfl ?_; clear hf fa; rintro fa _ w1 ⟨b1, rfl, hle1, hk1, he1⟩ hf
  have hBb1 : w.heap.size ≤ b1 := Nat.le_trans hb.size hle1
  replace hRV := Row.ext hRV he1
  replace hb := hb.trans (Below.mono he1 hb.size)
  refine sqv hf (r_assign rfl) rfl rfl rfl ?_; clear hf fa; intro fa hf
  apply wpList_nil
  (try simp only [Exit.then, Exit.inBlock, ↓reduceIte, Nat.reduceEqDiff])
  refine hK1 _ _ ?_
  refine wp_seq_k (fun K2 hK2 => ?_)
  refine wp_seq_k (fun K3 hK3 => ?_)
  refine wp_region_lit ?_
  refine sqv hf (r_move rfl) rfl rfl rfl ?_; clear hf fa; intro fa hf
  refine sqv hf (r_lensl rfl Try.underlying52) rfl rfl rfl ?_; clear hf fa; intro fa hf
  refine sqv hf (r_eq rfl rfl) rfl rfl rfl ?_; clear hf fa; intro fa hf
  apply wpList_nil
  (try simp only [Exit.then, Exit.inBlock, ↓reduceIte, Nat.reduceEqDiff])
  refine hK3 _ _ ?_
  refine wp_cond_split (t := (decide (((Vs.length : Nat) : Int) = (0 : Int)))) (hf.ev rfl) (fun hqt8_1 => ?_) (fun hqt8_1 => ?_)
  · have hqt8_1b := hqt8_1
    try simp only [decide_eq_true_eq, Bool.and_eq_true, Bool.or_eq_true, Bool.not_eq_true', decide_eq_false_iff_not, ne_eq, Bool.not_eq_true] at hqt8_1
    refine wp_seq_k (fun K4 hK4 => ?_)
    refine wp_region_lit ?_
    refine sqv hf (r_move rfl) rfl rfl rfl ?_; clear hf fa; intro fa hf
    refine sqv hf (r_assign rfl) rfl rfl rfl ?_; clear hf fa; intro fa hf
    apply wpList_nil
    (try simp only [Exit.then, Exit.inBlock, ↓reduceIte, Nat.reduceEqDiff])
    refine hK4 _ _ ?_
    refine wp_ret ?_
    (try simp only [Exit.then, Exit.inBlock])
    refine ret1 hf rfl rfl ?_
    have h0 : Rr.length = 0 := by have h := hqt8_1; omega
    have hD : rNote Rr xe = Rr := by unfold rNote; rw [if_pos h0]
    rw [hD]; exact ⟨_, rfl, Vs, a, c, rfl, hRV, hRI.ext hb, hb⟩
  · have hqt8_1b := hqt8_1
    replace hqt8_1 := Bool.eq_false_iff.1 hqt8_1
    try simp only [ne_eq, decide_eq_true_eq, Bool.and_eq_true, Bool.or_eq_true, Bool.not_eq_true', decide_eq_false_iff_not] at hqt8_1
    refine wp_skip ?_
    (try simp only [Exit.then, Exit.inBlock, ↓reduceIte, Nat.reduceEqDiff])
    refine hK2 _ _ ?_
    refine wp_seq_k (fun K5 hK5 => ?_)
    refine wp_region_lit ?_
    refine sqdt hf (d_bslice0 (sz := 1) Try.underlying52 (by kernel_rfl)) rfl rfl rfl ?_; clear hf fa; rintro fa _ w2 ⟨b2, rfl, hle2, hk2, he2⟩ hf
    have hBb2 : w.heap.size ≤ b2 := Nat.le_trans hb.size hle2
    have : b1 < b2 := Nat.lt_of_lt_of_le (blk_lt hk1) hle2
    have hnr1 : (Value.slice a (Vs.length) c).ownBlock ≠ some b2 := fun hq => by have := (Row.lt hRV _ hq).2; omega
    have hnl1 : ∀ q, (Value.slice a (Vs.length) c).ownBlock = some q → q < b2 := fun q hq => Nat.lt_of_lt_of_le (Row.lt hRV q hq).2 hle2
    replace hk1 := blk_ext hk1 he2
    replace hRV := Row.ext hRV he2
    replace hb := hb.trans (Below.mono he2 hb.size)
    refine sqv hf (r_move rfl) rfl rfl rfl ?_; clear hf fa; intro fa hf
    have hr1 := Row.of_new (k := 1) (V := vSV) (l := []) (base := w.heap.size) hk2 hBb2 rfl rfl (Nat.le_of_ble_eq_true rfl)
    refine sqdt hf (d_append (V := vSV) (k := 1) (e := 64) (bytes := 24) (z := (.slice none 0 0)) (news := Vs) (base := w.heap.size) (by intros; rfl) (by exact oneSV) rfl rfl Try.underlying52 (by kernel_rfl) rfl rfl rfl hr1 (Row.rd (by intros; rfl) hRV) rfl (fun h => Row.nocap hRV h) (by first | omega | (simp only [List.length_cons, List.length_nil, List.length_append, nums_len]; omega)) (by have := hb.size; omega)) rfl rfl rfl ?_; clear hf fa; rintro fa v w3 ⟨hr2, hg1⟩ hf; obtain ⟨ra1, rc1, rfl, hcrc1, hmrc1⟩ := Row.slice hr2
    replace hk1 := blk_row' hk1 hg1 (Row.ne_type hr1 hk1 rfl)
    replace hb := hb.trans (row_below hr1 hg1 hb.size (by have := hb.size; omega))
    simp only [List.nil_append] at hr2
    refine sqv hf (r_assign rfl) rfl rfl rfl ?_; clear hf fa; intro fa hf
    apply wpList_nil
    (try simp only [Exit.then, Exit.inBlock, ↓reduceIte, Nat.reduceEqDiff])
    refine hK5 _ _ ?_
    refine wp_seq_k (fun K6 hK6 => ?_)
    obtain ⟨y, l, hy, hyR, hrow, hin, hyn⟩ := hRI.get (i := Vs.length - 1) (by omega)
    have hrow2 := hrow.ext hb
    have hcy := Row.caps hrow
    have hfl0 := congrArg List.length (flat_take hyR)
    rw [List.length_append] at hfl0
    have hfl1 := flat_le Rr (Vs.length - 1 + 1)
    have hnl2 : (([] : List Ent) ++ l).length = l.length := rfl
    obtain ⟨rb1, rfl, hbbrb1, hlbrb1⟩ := Row.some hr2 (by first | omega | (simp only [Sl.list_length, List.length_set, List.length_take, List.length_append, List.length_replicate, List.length_cons, List.length_nil, List.length_map, nums_len]; omega))
    have hy1 : (Vs)[(((Vs).length) - 1)]? = some y := hy
    have hel1 := RdS.at (Row.rd (by intros; rfl) hr2) hy1
    obtain ⟨_, _, hab, hlr1, hel1⟩ := hel1
    cases hab
    refine wp_region_vnT 15 (fun _ wq => Below w3.heap.size w3 wq)
      (fun V S => [(fun x _ => x = (.slice (some ⟨rb1, 0, none⟩) ((Vs).length) rc1)), (fun x _ => x = (.slice (some ⟨rb1, 0, none⟩) ((Vs).length) rc1)), (fun x _ => x = (.int .i64 (((Vs).length : Nat) : Int))), (fun x _ => x = (.int .i64 ((((Vs).length : Nat) : Int) - (1 : Int)))), (fun x wq => ∃ b, x = .slice (some ⟨b, 0, none⟩) 0 0 ∧ w3.heap.size ≤ b ∧ (¬ S 11 → wq.heap[b]? = some (.cells #[] 59 (0, 0)))), (fun x _ => x = (.slice (some ⟨rb1, 0, none⟩) ((Vs).length) rc1)), (fun x _ => x = (.slice (some ⟨rb1, 0, none⟩) ((Vs).length) rc1)), (fun x _ => x = (.int .i64 (((Vs).length : Nat) : Int))), (fun x _ => x = (.int .i64 ((((Vs).length : Nat) : Int) - (1 : Int)))), (fun x _ => x = (.pointer (some ⟨rb1, (0 + (((Vs).length) - 1) * 1), none⟩))), (fun x _ => x = (.slice y.1 y.2.1 y.2.2)), (fun x wq => ∃ a c, x = .slice a ([] ++ l).length c ∧ (¬ S 14 → Row 4 vE 59 w3.heap.size wq x ([] ++ l))), (fun x _ => x = (.agg #[(.int .i64 xe.1), (.int .i64 xe.2.1), (.int .u64 xe.2.2.1), (.string xe.2.2.2)])), (fun x wq => ∃ b, x = .slice (some ⟨b, 0, none⟩) 1 1 ∧ w3.heap.size ≤ b ∧ (¬ S 14 → wq.heap[b]? = some (.cells #[(.int .i64 xe.1), (.int .i64 xe.2.1), (.int .u64 xe.2.2.1), (.string xe.2.2.2)] 59 (0, 0)))), (fun x wq => ∃ b, (∃ c, x = .slice (some ⟨b, 0, none⟩) (([] ++ l) ++ [xe]).length c) ∧ w3.heap.size ≤ b ∧ Row 4 vE 59 w3.heap.size wq x (([] ++ l) ++ [xe]))])
      [4, 13]
      [[], [], [1], [2], [], [], [], [6], [7], [5, 8], [9], [4, 10], [], [12], [11, 13], [], []]
      hf (by kernel_rfl) (by kernel_rfl) (by kernel_rfl) (fun _ _ => rfl) (fun _ hS_ => (Below.refl _ _).drew) (fun _ _ _ _ _ _ => rfl) ?_ ?_
    · skip
      intro V
      have hKP : ∀ (i : Nat) (S : Nat → Prop) (wk : World), (∀ q ∈ ([11, 14] : List Nat), q ≠ i) → ∀ j v w', (((fun (S : Nat → Prop) => ([(fun x _ => x = (.slice (some ⟨rb1, 0, none⟩) ((Vs).length) rc1)), (fun x _ => x = (.slice (some ⟨rb1, 0, none⟩) ((Vs).length) rc1)), (fun x _ => x = (.int .i64 (((Vs).length : Nat) : Int))), (fun x _ => x = (.int .i64 ((((Vs).length : Nat) : Int) - (1 : Int)))), (fun x wq => ∃ b, x = .slice (some ⟨b, 0, none⟩) 0 0 ∧ w3.heap.size ≤ b ∧ (¬ S 11 → wq.heap[b]? = some (.cells #[] 59 (0, 0)))), (fun x _ => x = (.slice (some ⟨rb1, 0, none⟩) ((Vs).length) rc1)), (fun x _ => x = (.slice (some ⟨rb1, 0, none⟩) ((Vs).length) rc1)), (fun x _ => x = (.int .i64 (((Vs).length : Nat) : Int))), (fun x _ => x = (.int .i64 ((((Vs).length : Nat) : Int) - (1 : Int)))), (fun x _ => x = (.pointer (some ⟨rb1, (0 + (((Vs).length) - 1) * 1), none⟩))), (fun x _ => x = (.slice y.1 y.2.1 y.2.2)), (fun x wq => ∃ a c, x = .slice a ([] ++ l).length c ∧ (¬ S 14 → Row 4 vE 59 w3.heap.size wq x ([] ++ l))), (fun x _ => x = (.agg #[(.int .i64 xe.1), (.int .i64 xe.2.1), (.int .u64 xe.2.2.1), (.string xe.2.2.2)])), (fun x wq => ∃ b, x = .slice (some ⟨b, 0, none⟩) 1 1 ∧ w3.heap.size ≤ b ∧ (¬ S 14 → wq.heap[b]? = some (.cells #[(.int .i64 xe.1), (.int .i64 xe.2.1), (.int .u64 xe.2.2.1), (.string xe.2.2.2)] 59 (0, 0)))), (fun x wq => ∃ b, (∃ c, x = .slice (some ⟨b, 0, none⟩) (([] ++ l) ++ [xe]).length c) ∧ w3.heap.size ≤ b ∧ Row 4 vE 59 w3.heap.size wq x (([] ++ l) ++ [xe]))] : List (Value → World → Prop))) S).getD j (fun _ _ => True)) v wk → Below wk.heap.size wk w' → (((fun (S : Nat → Prop) => ([(fun x _ => x = (.slice (some ⟨rb1, 0, none⟩) ((Vs).length) rc1)), (fun x _ => x = (.slice (some ⟨rb1, 0, none⟩) ((Vs).length) rc1)), (fun x _ => x = (.int .i64 (((Vs).length : Nat) : Int))), (fun x _ => x = (.int .i64 ((((Vs).length : Nat) : Int) - (1 : Int)))), (fun x wq => ∃ b, x = .slice (some ⟨b, 0, none⟩) 0 0 ∧ w3.heap.size ≤ b ∧ (¬ S 11 → wq.heap[b]? = some (.cells #[] 59 (0, 0)))), (fun x _ => x = (.slice (some ⟨rb1, 0, none⟩) ((Vs).length) rc1)), (fun x _ => x = (.slice (some ⟨rb1, 0, none⟩) ((Vs).length) rc1)), (fun x _ => x = (.int .i64 (((Vs).length : Nat) : Int))), (fun x _ => x = (.int .i64 ((((Vs).length : Nat) : Int) - (1 : Int)))), (fun x _ => x = (.pointer (some ⟨rb1, (0 + (((Vs).length) - 1) * 1), none⟩))), (fun x _ => x = (.slice y.1 y.2.1 y.2.2)), (fun x wq => ∃ a c, x = .slice a ([] ++ l).length c ∧ (¬ S 14 → Row 4 vE 59 w3.heap.size wq x ([] ++ l))), (fun x _ => x = (.agg #[(.int .i64 xe.1), (.int .i64 xe.2.1), (.int .u64 xe.2.2.1), (.string xe.2.2.2)])), (fun x wq => ∃ b, x = .slice (some ⟨b, 0, none⟩) 1 1 ∧ w3.heap.size ≤ b ∧ (¬ S 14 → wq.heap[b]? = some (.cells #[(.int .i64 xe.1), (.int .i64 xe.2.1), (.int .u64 xe.2.2.1), (.string xe.2.2.2)] 59 (0, 0)))), (fun x wq => ∃ b, (∃ c, x = .slice (some ⟨b, 0, none⟩) (([] ++ l) ++ [xe]).length c) ∧ w3.heap.size ≤ b ∧ Row 4 vE 59 w3.heap.size wq x (([] ++ l) ++ [xe]))] : List (Value → World → Prop))) (ad i S)).getD j (fun _ _ => True)) v w' := by
        intro i S wk hi j v w' h hB
        match j with
        | 0 =>
          exact h
        | 1 =>
          exact h
        | 2 =>
          exact h
        | 3 =>
          exact h
        | 4 =>
          obtain ⟨b, e1, e2, e3⟩ := h
          exact ⟨b, e1, e2, fun hn => blk_ext (e3 (fun hs => hn (.inr hs))) hB⟩
        | 5 =>
          exact h
        | 6 =>
          exact h
        | 7 =>
          exact h
        | 8 =>
          exact h
        | 9 =>
          exact h
        | 10 =>
          exact h
        | 11 =>
          obtain ⟨a, c, e1, e2⟩ := h
          exact ⟨a, c, e1, fun hn => (e2 (fun hs => hn (.inr hs))).ext hB⟩
        | 12 =>
          exact h
        | 13 =>
          obtain ⟨b, e1, e2, e3⟩ := h
          exact ⟨b, e1, e2, fun hn => blk_ext (e3 (fun hs => hn (.inr hs))) hB⟩
        | 14 =>
          obtain ⟨b, e1, e2, e3⟩ := h
          exact ⟨b, e1, e2, Row.ext e3 hB⟩
        | _ + 15 => trivial
      refine ⟨fun S wu0 hC hS hd hi => ?_, ?_⟩
      · skip
        replace hC : Below w3.heap.size w3 wu0 := hC
        refine uv_plain (C := (fun _ wq => Below w3.heap.size w3 wq)) (hKP 0 S wu0 (by decide)) (fun _ h1 h2 => Below.trans h1 (Below.mono h2 (Below.size h1))) hC hS ?_
        replace hb := hb.trans (hC.mono hb.size)
        replace hk1 := blk_ext hk1 hC
        replace hr2 := Row.ext hr2 hC
        replace hrow2 := Row.ext hrow2 hC
        exact Runs.does (r_move rfl) ⟨Below.refl _ _, rfl, nofr rfl⟩
      refine ⟨fun S wu1 hC hS hd hi => ?_, ?_⟩
      · skip
        replace hC : Below w3.heap.size w3 wu1 := hC
        refine uv_plain (C := (fun _ wq => Below w3.heap.size w3 wq)) (hKP 1 S wu1 (by decide)) (fun _ h1 h2 => Below.trans h1 (Below.mono h2 (Below.size h1))) hC hS ?_
        replace hb := hb.trans (hC.mono hb.size)
        replace hk1 := blk_ext hk1 hC
        replace hr2 := Row.ext hr2 hC
        replace hrow2 := Row.ext hrow2 hC
        exact Runs.does (r_move rfl) ⟨Below.refl _ _, rfl, nofr rfl⟩
      refine ⟨fun S wu2 hC hS hd hi => ?_, ?_⟩
      · skip
        replace hC : Below w3.heap.size w3 wu2 := hC
        refine uv_plain (C := (fun _ wq => Below w3.heap.size w3 wq)) (hKP 2 S wu2 (by decide)) (fun _ h1 h2 => Below.trans h1 (Below.mono h2 (Below.size h1))) hC hS ?_
        have h1 := hS.post 1 (hd 1 (by decide))
        replace h1 : V 1 = (.slice (some ⟨rb1, 0, none⟩) ((Vs).length) rc1) := h1
        replace hb := hb.trans (hC.mono hb.size)
        replace hk1 := blk_ext hk1 hC
        replace hr2 := Row.ext hr2 hC
        replace hrow2 := Row.ext hrow2 hC
        exact Runs.does (r_lensl (congrArg some h1) Try.underlying52) ⟨Below.refl _ _, rfl, nofr rfl⟩
      refine ⟨fun S wu3 hC hS hd hi => ?_, ?_⟩
      · skip
        replace hC : Below w3.heap.size w3 wu3 := hC
        refine uv_plain (C := (fun _ wq => Below w3.heap.size w3 wq)) (hKP 3 S wu3 (by decide)) (fun _ h1 h2 => Below.trans h1 (Below.mono h2 (Below.size h1))) hC hS ?_
        have h2 := hS.post 2 (hd 2 (by decide))
        replace h2 : V 2 = (.int .i64 (((Vs).length : Nat) : Int)) := h2
        replace hb := hb.trans (hC.mono hb.size)
        replace hk1 := blk_ext hk1 hC
        replace hr2 := Row.ext hr2 hC
        replace hrow2 := Row.ext hrow2 hC
        exact Runs.does (r_sub (C := ((((Vs).length : Nat) : Int) - (1 : Int))) (congrArg some h2) rfl (by rw [IntKind.wrap_i64]; omega)) ⟨Below.refl _ _, rfl, nofr rfl⟩
      refine ⟨fun S wu4 hC hS hd hi => ?_, ?_⟩
      · skip
        replace hC : Below w3.heap.size w3 wu4 := hC
        refine uv_plain (C := (fun _ wq => Below w3.heap.size w3 wq)) (hKP 4 S wu4 (by decide)) (fun _ h1 h2 => Below.trans h1 (Below.mono h2 (Below.size h1))) hC hS ?_
        replace hb := hb.trans (hC.mono hb.size)
        replace hk1 := blk_ext hk1 hC
        replace hr2 := Row.ext hr2 hC
        replace hrow2 := Row.ext hrow2 hC
        refine Does.mono (d_bslice0 (sz := 4) Try.underlying64 (by kernel_rfl)) ?_
        rintro _ w' ⟨b, rfl, hF⟩
        exact ⟨hF.2.2, ⟨b, rfl, Nat.le_trans hC.size hF.1, fun _ => hF.2.1⟩, isfr rfl hF.1 (blk_lt hF.2.1)⟩
      refine ⟨fun S wu5 hC hS hd hi => ?_, ?_⟩
      · skip
        replace hC : Below w3.heap.size w3 wu5 := hC
        refine uv_plain (C := (fun _ wq => Below w3.heap.size w3 wq)) (hKP 5 S wu5 (by decide)) (fun _ h1 h2 => Below.trans h1 (Below.mono h2 (Below.size h1))) hC hS ?_
        replace hb := hb.trans (hC.mono hb.size)
        replace hk1 := blk_ext hk1 hC
        replace hr2 := Row.ext hr2 hC
        replace hrow2 := Row.ext hrow2 hC
        exact Runs.does (r_move rfl) ⟨Below.refl _ _, rfl, nofr rfl⟩
      refine ⟨fun S wu6 hC hS hd hi => ?_, ?_⟩
      · skip
        replace hC : Below w3.heap.size w3 wu6 := hC
        refine uv_plain (C := (fun _ wq => Below w3.heap.size w3 wq)) (hKP 6 S wu6 (by decide)) (fun _ h1 h2 => Below.trans h1 (Below.mono h2 (Below.size h1))) hC hS ?_
        replace hb := hb.trans (hC.mono hb.size)
        replace hk1 := blk_ext hk1 hC
        replace hr2 := Row.ext hr2 hC
        replace hrow2 := Row.ext hrow2 hC
        exact Runs.does (r_move rfl) ⟨Below.refl _ _, rfl, nofr rfl⟩
      refine ⟨fun S wu7 hC hS hd hi => ?_, ?_⟩
      · skip
        replace hC : Below w3.heap.size w3 wu7 := hC
        refine uv_plain (C := (fun _ wq => Below w3.heap.size w3 wq)) (hKP 7 S wu7 (by decide)) (fun _ h1 h2 => Below.trans h1 (Below.mono h2 (Below.size h1))) hC hS ?_
        have h6 := hS.post 6 (hd 6 (by decide))
        replace h6 : V 6 = (.slice (some ⟨rb1, 0, none⟩) ((Vs).length) rc1) := h6
        replace hb := hb.trans (hC.mono hb.size)
        replace hk1 := blk_ext hk1 hC
        replace hr2 := Row.ext hr2 hC
        replace hrow2 := Row.ext hrow2 hC
        exact Runs.does (r_lensl (congrArg some h6) Try.underlying52) ⟨Below.refl _ _, rfl, nofr rfl⟩
      refine ⟨fun S wu8 hC hS hd hi => ?_, ?_⟩
      · skip
        replace hC : Below w3.heap.size w3 wu8 := hC
        refine uv_plain (C := (fun _ wq => Below w3.heap.size w3 wq)) (hKP 8 S wu8 (by decide)) (fun _ h1 h2 => Below.trans h1 (Below.mono h2 (Below.size h1))) hC hS ?_
        have h7 := hS.post 7 (hd 7 (by decide))
        replace h7 : V 7 = (.int .i64 (((Vs).length : Nat) : Int)) := h7
        replace hb := hb.trans (hC.mono hb.size)
        replace hk1 := blk_ext hk1 hC
        replace hr2 := Row.ext hr2 hC
        replace hrow2 := Row.ext hrow2 hC
        exact Runs.does (r_sub (C := ((((Vs).length : Nat) : Int) - (1 : Int))) (congrArg some h7) rfl (by rw [IntKind.wrap_i64]; omega)) ⟨Below.refl _ _, rfl, nofr rfl⟩
      refine ⟨fun S wu9 hC hS hd hi => ?_, ?_⟩
      · skip
        replace hC : Below w3.heap.size w3 wu9 := hC
        refine uv_plain (C := (fun _ wq => Below w3.heap.size w3 wq)) (hKP 9 S wu9 (by decide)) (fun _ h1 h2 => Below.trans h1 (Below.mono h2 (Below.size h1))) hC hS ?_
        have h5 := hS.post 5 (hd 5 (by decide))
        replace h5 : V 5 = (.slice (some ⟨rb1, 0, none⟩) ((Vs).length) rc1) := h5
        have h8 := hS.post 8 (hd 8 (by decide))
        replace h8 : V 8 = (.int .i64 ((((Vs).length : Nat) : Int) - (1 : Int))) := h8
        replace hb := hb.trans (hC.mono hb.size)
        replace hk1 := blk_ext hk1 hC
        replace hr2 := Row.ext hr2 hC
        replace hrow2 := Row.ext hrow2 hC
        exact Runs.does (r_ixa (sz := 1) (j := (((Vs).length) - 1)) (congrArg some h5) (congrArg some h8) Try.underlying52 (by kernel_rfl) (by omega) (by omega) rfl) ⟨Below.refl _ _, rfl, nofr rfl⟩
      refine ⟨fun S wu10 hC hS hd hi => ?_, ?_⟩
      · skip
        replace hC : Below w3.heap.size w3 wu10 := hC
        refine uv_plain (C := (fun _ wq => Below w3.heap.size w3 wq)) (hKP 10 S wu10 (by decide)) (fun _ h1 h2 => Below.trans h1 (Below.mono h2 (Below.size h1))) hC hS ?_
        have h9 := hS.post 9 (hd 9 (by decide))
        replace h9 : V 9 = (.pointer (some ⟨rb1, (0 + (((Vs).length) - 1) * 1), none⟩)) := h9
        replace hb := hb.trans (hC.mono hb.size)
        replace hk1 := blk_ext hk1 hC
        replace hr2 := Row.ext hr2 hC
        replace hrow2 := Row.ext hrow2 hC
        exact Runs.does (r_load (v := (.slice y.1 y.2.1 y.2.2)) (congrArg some h9) Try.underlying64 rfl (cellsAt_cell (cellsAt_below hel1 hC hlr1) (i := 0) rfl rfl)) ⟨Below.refl _ _, rfl, nofr rfl⟩
      refine ⟨fun S wu11 hC hS hd hi => ?_, ?_⟩
      · skip
        replace hC : Below w3.heap.size w3 wu11 := hC
        have h4 := hS.post 4 (hd 4 (by decide))
        obtain ⟨b3, h4, hle3, hk3⟩ := h4
        replace hk3 := hk3 hi
        have h10 := hS.post 10 (hd 10 (by decide))
        replace h10 : V 10 = (.slice y.1 y.2.1 y.2.2) := h10
        replace hb := hb.trans (hC.mono hb.size)
        replace hk1 := blk_ext hk1 hC
        replace hr2 := Row.ext hr2 hC
        replace hrow2 := Row.ext hrow2 hC
        have hrA := Row.of_new (k := 4) (V := vE) (l := []) (base := w3.heap.size) hk3 hle3 rfl rfl (Nat.le_of_ble_eq_true rfl)
        refine Does.mono (d_append (V := vE) (k := 4) (e := 59) (bytes := 40) (z := (.agg #[(.int .i64 (0 : Int)), (.int .i64 (0 : Int)), (.int .u64 (0 : Int)), (.string ⟨#[]⟩)])) (news := l) (base := w3.heap.size) (by intros; rfl) (by exact oneE) (congrArg some h4) (congrArg some h10) Try.underlying64 (by kernel_rfl) rfl rfl rfl hrA (Row.rd (by intros; rfl) hrow2) (by first | rfl | omega) (fun h => Row.nocap hrow2 h) (by first | omega | (simp only [List.length_cons, List.length_nil, List.length_append, nums_len]; omega)) hC.size) ?_
        rintro v' wz ⟨hY, hgY⟩
        obtain ⟨ra, rc, rfl, _, _⟩ := Row.slice hY
        refine ⟨⟨hC.trans (row_below hrA hgY hC.size (Nat.le_refl _)), fun j hj => ?_, hgY.size⟩, ⟨ra, rc, rfl, fun _ => hY⟩, nofr rfl⟩
        match j with
        | 0 =>
          exact hS.post 0 hj
        | 1 =>
          exact hS.post 1 hj
        | 2 =>
          exact hS.post 2 hj
        | 3 =>
          exact hS.post 3 hj
        | 4 =>
          exact ⟨b3, h4, hle3, fun hn => absurd (.inl rfl) hn⟩
        | 5 =>
          exact hS.post 5 hj
        | 6 =>
          exact hS.post 6 hj
        | 7 =>
          exact hS.post 7 hj
        | 8 =>
          exact hS.post 8 hj
        | 9 =>
          exact hS.post 9 hj
        | 10 =>
          exact hS.post 10 hj
        | 11 =>
          exact absurd hj hi
        | 12 =>
          exact hS.post 12 hj
        | 13 =>
          obtain ⟨c, e1, e2, e3⟩ := hS.post 13 hj
          have hne : c ≠ b3 := fun e => hS.ne 13 4 rfl rfl (by decide) hj (hd 4 (by decide)) (by rw [e1, h4, e] <;> rfl)
          exact ⟨c, e1, e2, fun hn => blk_grown (e3 (fun hs => hn (.inr hs))) hgY hne⟩
        | 14 =>
          exact absurd (hS.down 14 hj 11 (by decide)) hi
        | _ + 15 => trivial
      refine ⟨fun S wu12 hC hS hd hi => ?_, ?_⟩
      · skip
        replace hC : Below w3.heap.size w3 wu12 := hC
        refine uv_plain (C := (fun _ wq => Below w3.heap.size w3 wq)) (hKP 12 S wu12 (by decide)) (fun _ h1 h2 => Below.trans h1 (Below.mono h2 (Below.size h1))) hC hS ?_
        replace hb := hb.trans (hC.mono hb.size)
        replace hk1 := blk_ext hk1 hC
        replace hr2 := Row.ext hr2 hC
        replace hrow2 := Row.ext hrow2 hC
        exact Runs.does (r_loadA (cs := [(.int .i64 xe.1), (.int .i64 xe.2.1), (.int .u64 xe.2.2.1), (.string xe.2.2.2)]) rfl Try.underlying59 rfl (by kernel_rfl) (cellsAt_blk hk1)) ⟨Below.refl _ _, rfl, nofr rfl⟩
      refine ⟨fun S wu13 hC hS hd hi => ?_, ?_⟩
      · skip
        replace hC : Below w3.heap.size w3 wu13 := hC
        refine uv_plain (C := (fun _ wq => Below w3.heap.size w3 wq)) (hKP 13 S wu13 (by decide)) (fun _ h1 h2 => Below.trans h1 (Below.mono h2 (Below.size h1))) hC hS ?_
        have h12 := hS.post 12 (hd 12 (by decide))
        replace h12 : V 12 = (.agg #[(.int .i64 xe.1), (.int .i64 xe.2.1), (.int .u64 xe.2.2.1), (.string xe.2.2.2)]) := h12
        replace hb := hb.trans (hC.mono hb.size)
        replace hk1 := blk_ext hk1 hC
        replace hr2 := Row.ext hr2 hC
        replace hrow2 := Row.ext hrow2 hC
        refine Does.mono (d_bslice (z := (.agg #[(.int .i64 (0 : Int)), (.int .i64 (0 : Int)), (.int .u64 (0 : Int)), (.string ⟨#[]⟩)])) (sz := 4) (vs := [(0, (.agg #[(.int .i64 xe.1), (.int .i64 xe.2.1), (.int .u64 xe.2.2.1), (.string xe.2.2.2)]))]) (cs := #[(.int .i64 xe.1), (.int .i64 xe.2.1), (.int .u64 xe.2.2.1), (.string xe.2.2.2)]) (show [(0, some (V 12))] = [(0, some (.agg #[(.int .i64 xe.1), (.int .i64 xe.2.1), (.int .u64 xe.2.2.1), (.string xe.2.2.2)]))] from by rw [h12]) Try.underlying64 (by kernel_rfl) rfl (by kernel_rfl)) ?_
        rintro _ w' ⟨b, rfl, hF⟩
        exact ⟨hF.2.2, ⟨b, rfl, Nat.le_trans hC.size hF.1, fun _ => hF.2.1⟩, isfr rfl hF.1 (blk_lt hF.2.1)⟩
      refine ⟨fun S wu14 hC hS hd hi => ?_, ?_⟩
      · skip
        replace hC : Below w3.heap.size w3 wu14 := hC
        have h11 := hS.post 11 (hd 11 (by decide))
        obtain ⟨ea1, ec1, h11, hr3⟩ := h11
        replace hr3 := hr3 hi
        rw [h11] at hr3
        have h13 := hS.post 13 (hd 13 (by decide))
        obtain ⟨b4, h13, hle5, hk4⟩ := h13
        replace hk4 := hk4 hi
        replace hb := hb.trans (hC.mono hb.size)
        replace hk1 := blk_ext hk1 hC
        replace hr2 := Row.ext hr2 hC
        replace hrow2 := Row.ext hrow2 hC
        have hrB := Row.of_new (k := 4) (V := vE) (l := [xe]) (base := w3.heap.size) hk4 hle5 rfl rfl (Nat.le_of_ble_eq_true rfl)
        refine Does.mono (d_append (V := vE) (k := 4) (e := 59) (bytes := 40) (z := (.agg #[(.int .i64 (0 : Int)), (.int .i64 (0 : Int)), (.int .u64 (0 : Int)), (.string ⟨#[]⟩)])) (news := [xe]) (base := w3.heap.size) (by intros; rfl) (by exact oneE) (congrArg some h11) (congrArg some h13) Try.underlying64 (by kernel_rfl) rfl rfl rfl hr3 (Row.rd (by intros; rfl) hrB) rfl (fun h => by cases h) (by first | omega | (simp only [List.length_cons, List.length_nil, List.length_append, nums_len]; omega)) hC.size) ?_
        rintro v' wz ⟨hY, hgY⟩
        obtain ⟨ra, rc, rfl, _, _⟩ := Row.slice hY
        obtain ⟨br, rfl, hbr, _⟩ := Row.some hY (by first | omega | (simp only [Sl.list_length, List.length_set, List.length_take, List.length_append, List.length_replicate, List.length_cons, List.length_nil, List.length_map, nums_len]; omega))
        refine ⟨⟨hC.trans (row_below hr3 hgY hC.size (Nat.le_refl _)), fun j hj => ?_, hgY.size⟩, ⟨br, ⟨rc, rfl⟩, hbr, hY⟩, nofr rfl⟩
        match j with
        | 0 =>
          exact hS.post 0 hj
        | 1 =>
          exact hS.post 1 hj
        | 2 =>
          exact hS.post 2 hj
        | 3 =>
          exact hS.post 3 hj
        | 4 =>
          obtain ⟨c, e1, e2, e3⟩ := hS.post 4 hj
          exact ⟨c, e1, e2, fun hn => absurd (.inr (hd 11 (by decide))) hn⟩
        | 5 =>
          exact hS.post 5 hj
        | 6 =>
          exact hS.post 6 hj
        | 7 =>
          exact hS.post 7 hj
        | 8 =>
          exact hS.post 8 hj
        | 9 =>
          exact hS.post 9 hj
        | 10 =>
          exact hS.post 10 hj
        | 11 =>
          obtain ⟨a, c, e1, e2⟩ := hS.post 11 hj
          exact ⟨a, c, e1, fun hn => absurd (.inl rfl) hn⟩
        | 12 =>
          exact hS.post 12 hj
        | 13 =>
          exact ⟨b4, h13, hle5, fun hn => absurd (.inl rfl) hn⟩
        | 14 =>
          exact absurd hj hi
        | _ + 15 => trivial
      trivial
    · skip
      clear hf fa; intro V S w4 fa hall he3 hp hnb hf
      have hv0 := postsHold_at hp 0 rfl
      replace hv0 : V 0 = (.slice (some ⟨rb1, 0, none⟩) ((Vs).length) rc1) := hv0
      have hv1 := postsHold_at hp 1 rfl
      replace hv1 : V 1 = (.slice (some ⟨rb1, 0, none⟩) ((Vs).length) rc1) := hv1
      have hv2 := postsHold_at hp 2 rfl
      replace hv2 : V 2 = (.int .i64 (((Vs).length : Nat) : Int)) := hv2
      have hv3 := postsHold_at hp 3 rfl
      replace hv3 : V 3 = (.int .i64 ((((Vs).length : Nat) : Int) - (1 : Int))) := hv3
      have hv4 := postsHold_at hp 4 rfl
      obtain ⟨b3, hv4, hle3, hk3⟩ := hv4
      clear hk3
      have hBb3 : w.heap.size ≤ b3 := Nat.le_trans hb.size hle3
      have hv5 := postsHold_at hp 5 rfl
      replace hv5 : V 5 = (.slice (some ⟨rb1, 0, none⟩) ((Vs).length) rc1) := hv5
      have hv6 := postsHold_at hp 6 rfl
      replace hv6 : V 6 = (.slice (some ⟨rb1, 0, none⟩) ((Vs).length) rc1) := hv6
      have hv7 := postsHold_at hp 7 rfl
      replace hv7 : V 7 = (.int .i64 (((Vs).length : Nat) : Int)) := hv7
      have hv8 := postsHold_at hp 8 rfl
      replace hv8 : V 8 = (.int .i64 ((((Vs).length : Nat) : Int) - (1 : Int))) := hv8
      have hv9 := postsHold_at hp 9 rfl
      replace hv9 : V 9 = (.pointer (some ⟨rb1, (0 + (((Vs).length) - 1) * 1), none⟩)) := hv9
      have hv10 := postsHold_at hp 10 rfl
      replace hv10 : V 10 = (.slice y.1 y.2.1 y.2.2) := hv10
      have hv11 := postsHold_at hp 11 rfl
      obtain ⟨ea1, ec1, hv11, hr3⟩ := hv11
      clear hr3
      have hv12 := postsHold_at hp 12 rfl
      replace hv12 : V 12 = (.agg #[(.int .i64 xe.1), (.int .i64 xe.2.1), (.int .u64 xe.2.2.1), (.string xe.2.2.2)]) := hv12
      have hv13 := postsHold_at hp 13 rfl
      obtain ⟨b4, hv13, hle5, hk4⟩ := hv13
      clear hk4
      have hBb4 : w.heap.size ≤ b4 := Nat.le_trans hb.size hle5
      have hv14 := postsHold_at hp 14 rfl
      obtain ⟨mb2, ⟨mc2, hv14⟩, hle6, hr4⟩ := hv14
      rw [hv14] at hr4
      replace hr4 := Row.rebase hr4 hb.size
      have hcmc2 := Row.caps hr4
      have hBmb2 : w.heap.size ≤ mb2 := Nat.le_trans hb.size hle6
      simp only [List.take_succ_cons, List.take_zero, insAll, ins, hv0, hv1, hv2, hv3, hv4, hv5, hv6, hv7, hv8, hv9, hv10, hv11, hv12, hv13, hv14] at hf
      have : b3 ≠ b4 := two_blk (i := 4) (j := 13) hnb rfl rfl rfl rfl rfl (by rw [hv4]; rfl) (by rw [hv13]; rfl)
      have : b1 < b3 := Nat.lt_of_lt_of_le (blk_lt hk1) hle3
      have : b1 < b4 := Nat.lt_of_lt_of_le (blk_lt hk1) hle5
      clear hp hnb hall hv0 hv1 hv2 hv3 hv4 hv5 hv6 hv7 hv8 hv9 hv10 hv11 hv12 hv13 hv14
      replace hk1 := blk_ext hk1 he3
      replace hr2 := Row.ext hr2 he3
      replace hrow2 := Row.ext hrow2 he3
      replace hb := hb.trans (Below.mono he3 hb.size)
      simp only [List.drop_succ_cons, List.drop_zero]
      have hy2 : (Vs)[(((Vs).length) - 1)]? = some y := hy
      have hel2 := RdS.at (Row.rd (by intros; rfl) hr2) hy2
      obtain ⟨_, _, hab, hlr2, hel2⟩ := hel2
      cases hab
      refine sqv hf (r_ixa (sz := 1) (j := (((Vs).length) - 1)) rfl rfl Try.underlying52 (by kernel_rfl) (by omega) (by omega) rfl) rfl rfl rfl ?_; clear hf fa; intro fa hf
      refine sqn hf (d_rowset (u := (((some ⟨mb2, 0, none⟩), ((([] ++ l) ++ [xe]).length), mc2) : SlV)) (j := (((Vs).length) - 1)) (by intros; rfl) (by exact oneSV) rfl rfl (by first | rfl | (simp; done) | (simp; omega)) (by kernel_rfl) hr2 (by first | omega | (simp only [Sl.list_length, List.length_set, List.length_take, List.length_append, List.length_replicate, List.length_cons, List.length_nil, List.length_map, nums_len]; omega)) (by omega)) rfl rfl ?_; clear hf fa; rintro fa _ w5 ⟨hr5, hg2⟩ hf
      replace hk1 := blk_grown hk1 hg2 (fun e => Row.ne_type hr2 hk1 rfl (show some rb1 = some b1 by rw [e]))
      replace hrow2 := Row.grown hrow2 hg2 (fun e => Row.ne_row hrow2 hr2 rfl rb1 e rfl)
      replace hr4 := Row.grown hr4 hg2 (fun e => Row.ne_row hr4 hr2 rfl rb1 e rfl)
      replace hb := hb.trans (grown_below hg2 hb.size (by first | omega | (have := Row.lt hr2 _ rfl; omega)))
      apply wpList_nil
      (try simp only [Exit.then, Exit.inBlock, ↓reduceIte, Nat.reduceEqDiff])
      refine hK6 _ _ ?_
      refine wp_seq_k (fun K7 hK7 => ?_)
      refine wp_region_lit ?_
      refine sqv hf (r_move rfl) rfl rfl rfl ?_; clear hf fa; intro fa hf
      refine sqv hf (r_assign rfl) rfl rfl rfl ?_; clear hf fa; intro fa hf
      apply wpList_nil
      (try simp only [Exit.then, Exit.inBlock, ↓reduceIte, Nat.reduceEqDiff])
      refine hK7 _ _ ?_
      refine wp_ret ?_
      (try simp only [Exit.then, Exit.inBlock])
      refine ret1 hf rfl rfl ?_
      have h0 : ¬ Rr.length = 0 := by have h := hqt8_1; omega
      have hgl : Rr.getD (Rr.length - 1) [] = l := by rw [← hVR, List.getD_eq_getElem?_getD, hyR]; rfl
      have hD : rNote Rr xe = Rr.set (Vs.length - 1) (l ++ [xe]) := by unfold rNote; rw [if_neg h0, hgl, ← hVR]
      have hz := hr5
      have hzi := hr4
      have hB2 : B ≤ w.heap.size := hBw
      rw [hD]; exact ⟨_, rfl, ((Vs).set (((Vs).length) - 1) (((some ⟨mb2, 0, none⟩), ((([] ++ l) ++ [xe]).length), mc2) : SlV)), (some ⟨rb1, 0, none⟩), rc1, by rw [List.length_set]; rfl, (hz.relen).rebase (Nat.le_trans hBw (by omega)), (hRI.ext hb).set _ (hzi.rebase (Nat.le_trans hBw (by omega))), hb⟩

def rNotes (Q : List (List Ent)) (l : List Ent) : List (List Ent) := l.foldl rNote Q
theorem rNotes_snoc {Q : List (List Ent)} {l : List Ent} {k : Nat} {z : Ent} (h : l[k]? = some z) : rNote (rNotes Q (l.take k)) z = rNotes Q (l.take (k + 1)) := by
  unfold rNotes
  rw [List.take_add_one, h, List.foldl_append]
  rfl
theorem rNotes_len (Q : List (List Ent)) (l : List Ent) : (rNotes Q l).length = Q.length := by
  unfold rNotes
  induction l generalizing Q with
  | nil => rfl
  | cons x l ih => rw [List.foldl_cons, ih, rNote_len]
theorem rNotes_flen (Q : List (List Ent)) (l : List Ent) : (rNotes Q l).flatten.length ≤ Q.flatten.length + l.length := by
  unfold rNotes
  induction l generalizing Q with
  | nil => exact Nat.le_refl _
  | cons x l ih =>
    rw [List.foldl_cons]
    have h1 := ih (rNote Q x)
    have h2 := rNote_flen Q x
    rw [List.length_cons]
    omega
def rKeep (Rr : List (List Ent)) : List (List Ent) := rNotes (Rr.take (Rr.length - 1)) (Rr.getD (Rr.length - 1) [])

set_option maxHeartbeats 1000000 in
set_option maxRecDepth 100000 in
theorem keep28 (B : Nat) (w : World) (a : Option Addr) (c : Nat) (Vs : List SlV) (Rr : List (List Ent)) (hBw : B ≤ w.heap.size) (hRV : Row 1 vSV 64 B w (.slice a Vs.length c) Vs) (hRI : RI B w Vs Rr) (hRs : Rr.length ≤ 1000) (hRf : Rr.flatten.length ≤ 1000000) (h0 : 0 < Rr.length) : Calls Try.prog 27 #[(.slice a Vs.length c)] w fun e w' => ∃ x, e = .returned x ∧ ∃ Vn va vc, x = .slice va Vn.length vc ∧ Row 1 vSV 64 B w' (.slice va Vn.length vc) Vn ∧ RI B w' Vn (rKeep Rr) ∧ Below w.heap.size w w' := by
  have hcV := Row.caps hRV
  have hVR := hRI.1
  obtain ⟨y, l, hy, hyR, hrow, hin, hyn⟩ := hRI.get (i := Vs.length - 1) (by omega)
  have hcy := Row.caps hrow
  have hfl0 := congrArg List.length (flat_take hyR)
  rw [List.length_append] at hfl0
  have hfl1 := flat_le Rr (Vs.length - 1 + 1)
  refine sx_enter (L := [(0, (.slice a Vs.length c))]) Try.func27 rfl rfl rfl rfl (fun fa hf => ?_)
  have hb : Below w.heap.size w w := Below.refl _ _
  refine wp_seq_k (fun K1 hK1 => ?_)
  refine wp_region_lit ?_
  refine sqv hf (r_assign rfl) rfl rfl rfl ?_; clear hf fa; intro fa hf
  apply wpList_nil
  (try simp only [Exit.then, Exit.inBlock, ↓reduceIte, Nat.reduceEqDiff])
  refine hK1 _ _ ?_
  refine wp_seq_k (fun K2 hK2 => ?_)
  refine wp_region_lit ?_
  refine sqv hf (r_move rfl) rfl rfl rfl ?_; clear hf fa; intro fa hf
  refine sqv hf (r_move rfl) rfl rfl rfl ?_; clear hf fa; intro fa hf
  refine sqv hf (r_lensl rfl Try.underlying52) rfl rfl rfl ?_; clear hf fa; intro fa hf
  refine sqv hf (r_sub (C := (((Vs.length : Nat) : Int) - (1 : Int))) rfl rfl (by rw [IntKind.wrap_i64]; omega)) rfl rfl rfl ?_; clear hf fa; intro fa hf
  obtain ⟨rb1, rfl, hbbrb1, hlbrb1⟩ := Row.some hRV (by first | omega | (simp only [Sl.list_length, List.length_set, List.length_take, List.length_append, List.length_replicate, List.length_cons, List.length_nil, List.length_map, nums_len]; omega))
  have hy1 : (Vs)[(Vs.length - 1)]? = some y := hy
  have hel1 := RdS.at (Row.rd (by intros; rfl) hRV) hy1
  obtain ⟨_, _, hab, hlr1, hel1⟩ := hel1
  cases hab
  refine sqv hf (r_ixa (sz := 1) (j := (Vs.length - 1)) rfl rfl Try.underlying52 (by kernel_rfl) (by omega) (by omega) rfl) rfl rfl rfl ?_; clear hf fa; intro fa hf
  refine sqv hf (r_load (v := (.slice y.1 y.2.1 y.2.2)) rfl Try.underlying64 rfl (cellsAt_cell hel1 (i := 0) rfl rfl)) rfl rfl rfl ?_; clear hf fa; intro fa hf
  refine sqv hf (r_assign rfl) rfl rfl rfl ?_; clear hf fa; intro fa hf
  apply wpList_nil
  (try simp only [Exit.then, Exit.inBlock, ↓reduceIte, Nat.reduceEqDiff])
  refine hK2 _ _ ?_
  refine wp_seq_k (fun K3 hK3 => ?_)
  have htk : (Vs.take (Vs.length - 1)).length = Vs.length - 1 := by rw [List.length_take]; omega
  refine wp_region_lit ?_
  refine sqdt hf (d_bslice0 (sz := 1) Try.underlying52 (by kernel_rfl)) rfl rfl rfl ?_; clear hf fa; rintro fa _ w1 ⟨b1, rfl, hle1, hk1, he1⟩ hf
  have hBb1 : w.heap.size ≤ b1 := Nat.le_trans hb.size hle1
  have : rb1 < b1 := Nat.lt_of_lt_of_le (Row.lt hRV _ rfl).2 hle1
  replace hRV := Row.ext hRV he1
  replace hb := hb.trans (Below.mono he1 hb.size)
  refine sqv hf (r_move rfl) rfl rfl rfl ?_; clear hf fa; intro fa hf
  refine sqv hf (r_move rfl) rfl rfl rfl ?_; clear hf fa; intro fa hf
  refine sqv hf (r_lensl rfl Try.underlying52) rfl rfl rfl ?_; clear hf fa; intro fa hf
  refine sqv hf (r_sub (C := (((Vs.length : Nat) : Int) - (1 : Int))) rfl rfl (by rw [IntKind.wrap_i64]; omega)) rfl rfl rfl ?_; clear hf fa; intro fa hf
  refine sqv hf (r_slto (m := (Vs.length - 1)) rfl rfl Try.underlying52 (by kernel_rfl) (by omega) (by omega)) rfl rfl rfl ?_; clear hf fa; intro fa hf
  have hr1 := Row.cutA (m := (Vs.length - 1)) (by intros; rfl) hRV (Row.caps hRV).1 (by (try simp only [Sl.list_length]); omega)
  have hr2 := Row.of_new (k := 1) (V := vSV) (l := []) (base := w.heap.size) hk1 hBb1 rfl rfl (Nat.le_of_ble_eq_true rfl)
  refine sqdt hf (d_append (V := vSV) (k := 1) (e := 64) (bytes := 24) (z := (.slice none 0 0)) (news := ((Vs).take (Vs.length - 1))) (base := w.heap.size) (by intros; rfl) (by exact oneSV) rfl rfl Try.underlying52 (by kernel_rfl) rfl rfl rfl hr2 (Row.rd (by intros; rfl) hr1) (Row.caps hr1).1 (fun h => Row.nocap hr1 h) (by first | omega | (simp only [List.length_cons, List.length_nil, List.length_append, nums_len]; omega)) (by have := hb.size; omega)) rfl rfl rfl ?_; clear hf fa; rintro fa v w2 ⟨hr3, hg1⟩ hf; obtain ⟨ra1, rc1, rfl, hcrc1, hmrc1⟩ := Row.slice hr3
  replace hb := hb.trans (row_below hr2 hg1 hb.size (by have := hb.size; omega))
  simp only [List.nil_append] at hr3
  refine sqv hf (r_assign rfl) rfl rfl rfl ?_; clear hf fa; intro fa hf
  apply wpList_nil
  (try simp only [Exit.then, Exit.inBlock, ↓reduceIte, Nat.reduceEqDiff])
  refine hK3 _ _ ?_
  refine wp_seq_k (fun K4 hK4 => ?_)
  refine wp_seq_k (fun K5 hK5 => ?_)
  refine wp_region_lit ?_
  refine sqv hf (r_assign rfl) rfl rfl rfl ?_; clear hf fa; intro fa hf
  apply wpList_nil
  (try simp only [Exit.then, Exit.inBlock, ↓reduceIte, Nat.reduceEqDiff])
  refine hK5 _ _ ?_
  refine wp_block ?_
  refine wp_loop_k (fun mq fa wr => ∃ (k : Nat) (Vk : List SlV) (rka : Option Addr) (rkc : Nat), mq = l.length - k ∧ Fr 32 fa [(3, (.slice y.1 y.2.1 y.2.2)), (5, (.int .i64 ((k : Nat) : Int))), (4, (.slice rka Vk.length rkc))] ∧ Below w.heap.size w wr ∧ Row 1 vSV 64 (B) wr (.slice rka (Vk.length) rkc) Vk ∧ (k ≤ l.length) ∧ (RI B wr Vk (rNotes (Rr.take (Vs.length - 1)) (l.take k)))) ?_ ?_
  · skip
    exact ⟨_, 0, (Vs.take (Vs.length - 1)), ra1, rc1, rfl, hf.sub ⟨rfl, (some_int (by first | rfl | omega)), (some_sl (by first | omega | (simp only [List.length_append, List.length_cons, List.length_nil]; omega) | (simp <;> omega)) rfl), trivial⟩, hb, (relM (hr3.rebase hBw) (by first | rfl | (rw [List.length_take]; omega))), by omega, (hRI.ext hb).take _⟩
  · skip
    clear hf fa; intro mq1 fa w3 hI KL1 hKL1
    clear hb
    clear hr3
    obtain ⟨k, Vk, rka, rkc, hmq1, hf, hb, hrk, hk, hRIk⟩ := hI
    have hcrk := Row.caps hrk
    refine wp_seq_k (fun K6 hK6 => ?_)
    refine wp_seq_k (fun K7 hK7 => ?_)
    refine wp_region_lit ?_
    refine sqv hf (r_move rfl) rfl rfl rfl ?_; clear hf fa; intro fa hf
    refine sqv hf (r_move rfl) rfl rfl rfl ?_; clear hf fa; intro fa hf
    refine sqv hf (r_lensl rfl Try.underlying64) rfl rfl rfl ?_; clear hf fa; intro fa hf
    refine sqv hf (r_lt rfl rfl) rfl rfl rfl ?_; clear hf fa; intro fa hf
    apply wpList_nil
    (try simp only [Exit.then, Exit.inBlock, ↓reduceIte, Nat.reduceEqDiff])
    refine hK7 _ _ ?_
    refine wp_cond_split (t := (decide (((k : Nat) : Int) < ((y.2.1 : Nat) : Int)))) (hf.ev rfl) (fun hqt22_1 => ?_) (fun hqt22_1 => ?_)
    · have hqt22_1b := hqt22_1
      try simp only [decide_eq_true_eq, Bool.and_eq_true, Bool.or_eq_true, Bool.not_eq_true', decide_eq_false_iff_not, ne_eq, Bool.not_eq_true] at hqt22_1
      refine wp_skip ?_
      (try simp only [Exit.then, Exit.inBlock, ↓reduceIte, Nat.reduceEqDiff])
      refine hK6 _ _ ?_
      refine wp_seq_k (fun K8 hK8 => ?_)
      refine wp_block ?_
      obtain ⟨z, hz⟩ : ∃ x, l[k]? = some x := ⟨_, List.getElem?_eq_getElem (by omega)⟩
      refine wp_region_lit ?_
      refine sqv hf (r_move rfl) rfl rfl rfl ?_; clear hf fa; intro fa hf
      refine sqv hf (r_move rfl) rfl rfl rfl ?_; clear hf fa; intro fa hf
      refine sqv hf (r_move rfl) rfl rfl rfl ?_; clear hf fa; intro fa hf
      have hy2 : (l)[k]? = some z := hz
      obtain ⟨ab1, aoff1, hat1, hlb1, hel2⟩ := RdS.at hin hy2
      refine sqv hf (r_ixa (sz := 4) (j := k) (evAt rfl hat1) rfl Try.underlying64 (by kernel_rfl) rfl (by omega) rfl) rfl rfl rfl ?_; clear hf fa; intro fa hf
      refine sqv hf (r_loadA (cs := [(.int .i64 z.1), (.int .i64 z.2.1), (.int .u64 z.2.2.1), (.string z.2.2.2)]) rfl Try.underlying59 rfl (by kernel_rfl) (cellsAt_below hel2 hb hlb1)) rfl rfl rfl ?_; clear hf fa; intro fa hf
      refine sqdt hf (d_callX (vs := [(.slice rka Vk.length rkc), (.agg #[(.int .i64 z.1), (.int .i64 z.2.1), (.int .u64 z.2.2.1), (.string z.2.2.2)])]) rfl Try.func21 (by kernel_rfl) (by kernel_rfl) (note28 B _ rka rkc Vk (rNotes (Rr.take (Vs.length - 1)) (l.take k)) (Nat.le_trans hBw hb.size) hrk hRIk (by rw [rNotes_len, List.length_take]; omega) (by have := rNotes_flen (Rr.take (Vs.length - 1)) (l.take k); have := flat_le Rr (Vs.length - 1); rw [List.length_take] at *; omega) z)) rfl rfl rfl ?_; clear hf fa; rintro fa _ w4 ⟨Vn, va, vc, rfl, hrn, hRIn, he2⟩ hf
      replace hb := hb.trans (Below.mono he2 hb.size)
      refine sqv hf (r_assign rfl) rfl rfl rfl ?_; clear hf fa; intro fa hf
      apply wpList_nil
      (try simp only [Exit.then, Exit.inBlock, ↓reduceIte, Nat.reduceEqDiff])
      refine hK8 _ _ ?_
      refine wp_region_lit ?_
      refine sqv hf (r_move rfl) rfl rfl rfl ?_; clear hf fa; intro fa hf
      refine sqv hf (r_add (C := (((k : Nat) : Int) + (1 : Int))) rfl rfl (by rw [IntKind.wrap_i64]; omega)) rfl rfl rfl ?_; clear hf fa; intro fa hf
      refine sqv hf (r_assign rfl) rfl rfl rfl ?_; clear hf fa; intro fa hf
      apply wpList_nil
      (try simp only [Exit.then, Exit.inBlock, ↓reduceIte, Nat.reduceEqDiff])
      refine hKL1 _ _ _ (by omega) ⟨(k + 1), Vn, va, vc, rfl, hf.sub ⟨rfl, (some_int (by first | rfl | omega)), rfl, trivial⟩, hb, (Row.relen hrn), by omega, by rw [← rNotes_snoc hz]; exact hRIn⟩
    · have hqt22_1b := hqt22_1
      replace hqt22_1 := Bool.eq_false_iff.1 hqt22_1
      try simp only [ne_eq, decide_eq_true_eq, Bool.and_eq_true, Bool.or_eq_true, Bool.not_eq_true', decide_eq_false_iff_not] at hqt22_1
      refine wp_exit ?_
      (try simp only [Exit.then, Exit.inBlock, ↓reduceIte, Nat.reduceEqDiff])
      refine hK4 _ _ ?_
      refine wp_seq_k (fun K9 hK9 => ?_)
      refine wp_region_lit ?_
      refine sqv hf (r_move rfl) rfl rfl rfl ?_; clear hf fa; intro fa hf
      refine sqv hf (r_assign rfl) rfl rfl rfl ?_; clear hf fa; intro fa hf
      apply wpList_nil
      (try simp only [Exit.then, Exit.inBlock, ↓reduceIte, Nat.reduceEqDiff])
      refine hK9 _ _ ?_
      refine wp_ret ?_
      (try simp only [Exit.then, Exit.inBlock])
      refine ret1 hf rfl rfl ?_
      have hkk : l.take k = l := List.take_of_length_le (by omega)
      have hgl : Rr.getD (Rr.length - 1) [] = l := by rw [← hVR, List.getD_eq_getElem?_getD, hyR]; rfl
      have hD : rKeep Rr = rNotes (Rr.take (Vs.length - 1)) (l.take k) := by unfold rKeep; rw [hgl, hkk, ← hVR]
      rw [hD]; exact ⟨_, rfl, Vk, _, _, rfl, hrk, hRIk, hb⟩

set_option maxHeartbeats 1000000 in
set_option maxRecDepth 100000 in
theorem back28 (B : Nat) (w : World) (a : Option Addr) (c : Nat) (Vs : List SlV) (Rr : List (List Ent)) (hBw : B ≤ w.heap.size) (hRV : Row 1 vSV 64 B w (.slice a Vs.length c) Vs) (hRI : RI B w Vs Rr) (hRs : Rr.length ≤ 1000) (hRf : Rr.flatten.length ≤ 1000000) (h0 : 0 < Rr.length) : Calls Try.prog 24 #[(.slice a Vs.length c)] w fun e w' => ∃ x, e = .returned x ∧ ∃ oa oc, x = .tuple #[.slice a (Vs.length - 1) c, .slice oa (outE (Rr.getD (Rr.length - 1) []) (Rr.getD (Rr.length - 1) []).length).length oc] ∧ Row 4 vE 59 w.heap.size w' (.slice oa (outE (Rr.getD (Rr.length - 1) []) (Rr.getD (Rr.length - 1) []).length).length oc) (outE (Rr.getD (Rr.length - 1) []) (Rr.getD (Rr.length - 1) []).length) ∧ Below w.heap.size w w' := by
  have hcV := Row.caps hRV
  have hVR := hRI.1
  have hVd := Row.rd (by intros; rfl) hRV
  have hVn := fun h => Row.nocap hRV h
  obtain ⟨y, l, hy, hyR, hrow, hin, hyn⟩ := hRI.get (i := Vs.length - 1) (by omega)
  have hcy := Row.caps hrow
  have hfl0 := congrArg List.length (flat_take hyR)
  rw [List.length_append] at hfl0
  have hfl1 := flat_le Rr (Vs.length - 1 + 1)
  have ho0 : (outE l 0).length = 0 := by rw [outE_zero]; rfl
  refine sx_enter (L := [(0, (.slice a Vs.length c))]) Try.func24 rfl rfl rfl rfl (fun fa hf => ?_)
  have hb : Below w.heap.size w w := Below.refl _ _
  refine wp_seq_k (fun K1 hK1 => ?_)
  refine wp_region_lit ?_
  refine sqv hf (r_assign rfl) rfl rfl rfl ?_; clear hf fa; intro fa hf
  refine sqv hf (r_assign rfl) rfl rfl rfl ?_; clear hf fa; intro fa hf
  apply wpList_nil
  (try simp only [Exit.then, Exit.inBlock, ↓reduceIte, Nat.reduceEqDiff])
  refine hK1 _ _ ?_
  refine wp_seq_k (fun K2 hK2 => ?_)
  refine wp_region_lit ?_
  refine sqv hf (r_assign rfl) rfl rfl rfl ?_; clear hf fa; intro fa hf
  apply wpList_nil
  (try simp only [Exit.then, Exit.inBlock, ↓reduceIte, Nat.reduceEqDiff])
  refine hK2 _ _ ?_
  refine wp_seq_k (fun K3 hK3 => ?_)
  refine wp_region_lit ?_
  refine sqv hf (r_move rfl) rfl rfl rfl ?_; clear hf fa; intro fa hf
  refine sqv hf (r_move rfl) rfl rfl rfl ?_; clear hf fa; intro fa hf
  refine sqv hf (r_lensl rfl Try.underlying52) rfl rfl rfl ?_; clear hf fa; intro fa hf
  refine sqv hf (r_sub (C := (((Vs.length : Nat) : Int) - (1 : Int))) rfl rfl (by rw [IntKind.wrap_i64]; omega)) rfl rfl rfl ?_; clear hf fa; intro fa hf
  have hy1 : (Vs)[(Vs.length - 1)]? = some y := hy
  obtain ⟨ab1, aoff1, hat1, hlb1, hel1⟩ := RdS.at hVd hy1
  refine sqv hf (r_ixa (sz := 1) (j := (Vs.length - 1)) (evAt rfl hat1) rfl Try.underlying52 (by kernel_rfl) (by omega) (by omega) rfl) rfl rfl rfl ?_; clear hf fa; intro fa hf
  refine sqv hf (r_load (v := (.slice y.1 y.2.1 y.2.2)) rfl Try.underlying64 rfl (cellsAt_cell (cellsAt_below hel1 hb hlb1) (i := 0) rfl rfl)) rfl rfl rfl ?_; clear hf fa; intro fa hf
  refine sqv hf (r_assign rfl) rfl rfl rfl ?_; clear hf fa; intro fa hf
  apply wpList_nil
  (try simp only [Exit.then, Exit.inBlock, ↓reduceIte, Nat.reduceEqDiff])
  refine hK3 _ _ ?_
  refine wp_seq_k (fun K4 hK4 => ?_)
  refine wp_seq_k (fun K5 hK5 => ?_)
  refine wp_region_lit ?_
  refine sqv hf (r_move rfl) rfl rfl rfl ?_; clear hf fa; intro fa hf
  refine sqv hf (r_lensl rfl Try.underlying64) rfl rfl rfl ?_; clear hf fa; intro fa hf
  refine sqv hf (r_sub (C := (((y.2.1 : Nat) : Int) - (1 : Int))) rfl rfl (by rw [IntKind.wrap_i64]; omega)) rfl rfl rfl ?_; clear hf fa; intro fa hf
  refine sqv hf (r_assign rfl) rfl rfl rfl ?_; clear hf fa; intro fa hf
  apply wpList_nil
  (try simp only [Exit.then, Exit.inBlock, ↓reduceIte, Nat.reduceEqDiff])
  refine hK5 _ _ ?_
  refine wp_block ?_
  refine wp_loop_k (fun mq fa wr => ∃ (k : Nat) (roa : Option Addr) (roc : Nat), mq = l.length - k ∧ Fr 33 fa [(0, (.slice a Vs.length c)), (5, (.slice y.1 y.2.1 y.2.2)), (6, (.int .i64 ((((l.length : Nat) : Int) - (1 : Int)) - ((k : Nat) : Int)))), (4, (.slice roa (((outE l k)).length) roc))] ∧ Below w.heap.size w wr ∧ Row 4 vE 59 (w.heap.size) wr (.slice roa (((outE l k)).length) roc) (outE l k) ∧ (k ≤ l.length)) ?_ ?_
  · skip
    exact ⟨_, 0, none, 0, rfl, hf.sub ⟨rfl, rfl, (some_int (by first | rfl | omega)), (some_sl (by first | omega | (simp only [List.length_append, List.length_cons, List.length_nil]; omega) | (simp <;> omega)) rfl), trivial⟩, hb, (by rw [outE_zero]; exact Row.nil), by omega⟩
  · skip
    clear hf fa; intro mq1 fa w1 hI KL1 hKL1
    clear hb
    obtain ⟨k, roa, roc, hmq1, hf, hb, hro, hk⟩ := hI
    have hcro := Row.caps hro
    have hol := outE_length l k (by omega)
    refine wp_seq_k (fun K6 hK6 => ?_)
    refine wp_seq_k (fun K7 hK7 => ?_)
    refine wp_region_lit ?_
    refine sqv hf (r_move rfl) rfl rfl rfl ?_; clear hf fa; intro fa hf
    refine sqv hf (r_ge rfl rfl) rfl rfl rfl ?_; clear hf fa; intro fa hf
    apply wpList_nil
    (try simp only [Exit.then, Exit.inBlock, ↓reduceIte, Nat.reduceEqDiff])
    refine hK7 _ _ ?_
    refine wp_cond_split (t := (decide ((0 : Int) ≤ ((((l.length : Nat) : Int) - (1 : Int)) - ((k : Nat) : Int))))) (hf.ev rfl) (fun hqt17_1 => ?_) (fun hqt17_1 => ?_)
    · have hqt17_1b := hqt17_1
      try simp only [decide_eq_true_eq, Bool.and_eq_true, Bool.or_eq_true, Bool.not_eq_true', decide_eq_false_iff_not, ne_eq, Bool.not_eq_true] at hqt17_1
      refine wp_skip ?_
      (try simp only [Exit.then, Exit.inBlock, ↓reduceIte, Nat.reduceEqDiff])
      refine hK6 _ _ ?_
      refine wp_seq_k (fun K8 hK8 => ?_)
      refine wp_block ?_
      refine wp_region_lit ?_
      refine sqv hf (r_move rfl) rfl rfl rfl ?_; clear hf fa; intro fa hf
      refine sqv hf (r_move rfl) rfl rfl rfl ?_; clear hf fa; intro fa hf
      refine sqv hf (r_move rfl) rfl rfl rfl ?_; clear hf fa; intro fa hf
      have hy2 : (l)[((l.length - 1) - k)]? = some (eAt l (l.length - 1 - k)) := getD_at (l := l) (j := l.length - 1 - k) _ (by omega)
      obtain ⟨ab2, aoff2, hat2, hlb2, hel2⟩ := RdS.at hin hy2
      refine sqv hf (r_ixa (sz := 4) (j := ((l.length - 1) - k)) (evAt rfl hat2) rfl Try.underlying64 (by kernel_rfl) (by omega) (by omega) rfl) rfl rfl rfl ?_; clear hf fa; intro fa hf
      refine sqv hf (r_loadA (cs := [(.int .i64 ((eAt l (l.length - 1 - k)).1)), (.int .i64 ((eAt l (l.length - 1 - k)).2.1)), (.int .u64 ((eAt l (l.length - 1 - k)).2.2.1)), (.string (eAt l (l.length - 1 - k)).2.2.2)]) rfl Try.underlying59 rfl (by kernel_rfl) (cellsAt_below hel2 hb hlb2)) rfl rfl rfl ?_; clear hf fa; intro fa hf
      refine sqdt hf (d_bslice (z := (.agg #[(.int .i64 (0 : Int)), (.int .i64 (0 : Int)), (.int .u64 (0 : Int)), (.string ⟨#[]⟩)])) (sz := 4) (vs := [(0, (.agg #[(.int .i64 ((eAt l (l.length - 1 - k)).1)), (.int .i64 ((eAt l (l.length - 1 - k)).2.1)), (.int .u64 ((eAt l (l.length - 1 - k)).2.2.1)), (.string (eAt l (l.length - 1 - k)).2.2.2)]))]) (cs := #[(.int .i64 ((eAt l (l.length - 1 - k)).1)), (.int .i64 ((eAt l (l.length - 1 - k)).2.1)), (.int .u64 ((eAt l (l.length - 1 - k)).2.2.1)), (.string (eAt l (l.length - 1 - k)).2.2.2)]) rfl Try.underlying64 (by kernel_rfl) rfl (by kernel_rfl)) rfl rfl rfl ?_; clear hf fa; rintro fa _ w2 ⟨b1, rfl, hle1, hk1, he1⟩ hf
      have hBb1 : w.heap.size ≤ b1 := Nat.le_trans hb.size hle1
      have hnr1 : (Value.slice roa ((((outE l k)).length)) roc).ownBlock ≠ some b1 := fun hq => by have := (Row.lt hro _ hq).2; omega
      have hnl1 : ∀ q, (Value.slice roa ((((outE l k)).length)) roc).ownBlock = some q → q < b1 := fun q hq => Nat.lt_of_lt_of_le (Row.lt hro q hq).2 hle1
      replace hro := Row.ext hro he1
      replace hb := hb.trans (Below.mono he1 hb.size)
      have hs1 := Row.rd (by intros; rfl) (Row.of_new (k := 4) (V := vE) (l := [(eAt l (l.length - 1 - k))]) hk1 (Nat.le_refl _) rfl rfl (Nat.le_of_ble_eq_true rfl))
      refine sqdt hf (d_append (V := vE) (k := 4) (e := 59) (bytes := 40) (z := (.agg #[(.int .i64 (0 : Int)), (.int .i64 (0 : Int)), (.int .u64 (0 : Int)), (.string ⟨#[]⟩)])) (news := [(eAt l (l.length - 1 - k))]) (base := w.heap.size) (by intros; rfl) (by exact oneE) rfl rfl Try.underlying64 (by kernel_rfl) rfl rfl rfl hro hs1 rfl (fun h => by cases h) (by first | omega | (simp only [List.length_cons, List.length_nil, List.length_append, nums_len]; omega)) (by have := hb.size; omega)) rfl rfl rfl ?_; clear hf fa; rintro fa v w3 ⟨hr1, hg1⟩ hf; obtain ⟨ra1, rc1, rfl, hcrc1, hmrc1⟩ := Row.slice hr1
      replace hb := hb.trans (row_below hro hg1 hb.size (by have := hb.size; omega))
      refine sqv hf (r_assign rfl) rfl rfl rfl ?_; clear hf fa; intro fa hf
      apply wpList_nil
      (try simp only [Exit.then, Exit.inBlock, ↓reduceIte, Nat.reduceEqDiff])
      refine hK8 _ _ ?_
      refine wp_region_lit ?_
      refine sqv hf (r_move rfl) rfl rfl rfl ?_; clear hf fa; intro fa hf
      refine sqv hf (r_sub (C := (((((l.length : Nat) : Int) - (1 : Int)) - ((k : Nat) : Int)) - (1 : Int))) rfl rfl (by rw [IntKind.wrap_i64]; omega)) rfl rfl rfl ?_; clear hf fa; intro fa hf
      refine sqv hf (r_assign rfl) rfl rfl rfl ?_; clear hf fa; intro fa hf
      apply wpList_nil
      (try simp only [Exit.then, Exit.inBlock, ↓reduceIte, Nat.reduceEqDiff])
      have hol2 := outE_length l (k + 1) (by omega)
      refine hKL1 _ _ _ (by omega) ⟨(k + 1), ra1, rc1, rfl, hf.sub ⟨rfl, rfl, (some_int (by first | rfl | omega)), (some_sl (by first | omega | (simp only [List.length_append, List.length_cons, List.length_nil]; omega) | (simp <;> omega)) rfl), trivial⟩, hb, (crowE hr1 (outE_succ l k (by omega))), by omega⟩
    · have hqt17_1b := hqt17_1
      replace hqt17_1 := Bool.eq_false_iff.1 hqt17_1
      try simp only [ne_eq, decide_eq_true_eq, Bool.and_eq_true, Bool.or_eq_true, Bool.not_eq_true', decide_eq_false_iff_not] at hqt17_1
      refine wp_exit ?_
      (try simp only [Exit.then, Exit.inBlock, ↓reduceIte, Nat.reduceEqDiff])
      refine hK4 _ _ ?_
      refine wp_seq_k (fun K9 hK9 => ?_)
      refine wp_region_lit ?_
      refine sqv hf (r_move rfl) rfl rfl rfl ?_; clear hf fa; intro fa hf
      refine sqv hf (r_move rfl) rfl rfl rfl ?_; clear hf fa; intro fa hf
      refine sqv hf (r_lensl rfl Try.underlying52) rfl rfl rfl ?_; clear hf fa; intro fa hf
      refine sqv hf (r_sub (C := (((Vs.length : Nat) : Int) - (1 : Int))) rfl rfl (by rw [IntKind.wrap_i64]; omega)) rfl rfl rfl ?_; clear hf fa; intro fa hf
      refine sqv hf (r_slto (m := (Vs.length - 1)) rfl rfl Try.underlying52 (by kernel_rfl) (by omega) (by omega)) rfl rfl rfl ?_; clear hf fa; intro fa hf
      refine sqv hf (r_move rfl) rfl rfl rfl ?_; clear hf fa; intro fa hf
      refine sqv hf (r_assign rfl) rfl rfl rfl ?_; clear hf fa; intro fa hf
      refine sqv hf (r_assign rfl) rfl rfl rfl ?_; clear hf fa; intro fa hf
      apply wpList_nil
      (try simp only [Exit.then, Exit.inBlock, ↓reduceIte, Nat.reduceEqDiff])
      refine hK9 _ _ ?_
      refine wp_ret ?_
      (try simp only [Exit.then, Exit.inBlock])
      refine ret2 hf rfl rfl rfl ?_
      obtain rfl : k = l.length := by omega
      have hll : Rr.getD (Rr.length - 1) [] = l := by rw [← hVR, List.getD_eq_getElem?_getD, hyR]; rfl
      rw [hll]
      have hzo := hro
      exact ⟨_, rfl, _, _, rfl, hzo, hb⟩
end Go.Proofs.Ytmcmickgllffoaa
