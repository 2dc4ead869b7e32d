/- What is proved here: functions by numbers: Add. -/
import Derived.Test.YtmcmickgllffoaaFnC
import Derived.Test.YtmcmickgllffoaaSxV
namespace Go.Proofs.Ytmcmickgllffoaa
open Go.RowKit
set_option linter.unusedVariables false
set_option linter.unusedSimpArgs false
theorem Below_go {B : Nat} {w0 w w1 : World} {b : Nat} {v : Value} (h : Below B w0 w) (h2 : GO w b v w1) (hB : B ≤ w.heap.size) (hm : B ≤ b) (hv : ∀ q, v.ownBlock = some q → B ≤ q) : Below B w0 w1 :=
  h.trans ⟨h2.os, h2.tape, h2.output, h2.size, fun k hk => h2.block k (by omega) (by rintro rfl; omega) (fun e => by have := hv k e.symm; omega)⟩
theorem FRel.snoc {w : World} {ps : List (Option Addr)} {L : List (Option MFn)} (h : FRel w ps L) {bf : Nat} {x : MFn} (hx : w.heap[bf]? = some (.cells (fnCs x) 37 (0, 0))) : FRel w (ps ++ [some ⟨bf, 0, none⟩]) (L ++ [some x]) := by
  refine ⟨by rw [List.length_append, List.length_append, h.1]; rfl, fun j q hq => ?_⟩
  by_cases hj : j < ps.length
  · rw [List.getElem?_append_left hj] at hq
    have := h.2 j q hq
    have hjL : j < L.length := by have := h.1; omega
    cases q with
    | none => show (L ++ [some x])[j]? = some none; rw [List.getElem?_append_left hjL]; exact this
    | some q => obtain ⟨y, hy, hc⟩ := this; exact ⟨y, by rw [List.getElem?_append_left hjL]; exact hy, hc⟩
  · obtain ⟨hl, hv⟩ := List.getElem?_eq_some_iff.1 hq
    have e : j = ps.length := by rw [List.length_append] at hl; simp at hl; omega
    subst e
    rw [List.getElem?_append_right (Nat.le_refl _), Nat.sub_self] at hq
    injection hq with hq
    subst hq
    exact ⟨x, by rw [h.1, List.getElem?_append_right (Nat.le_refl _), Nat.sub_self]; rfl, bf, rfl, hx⟩
theorem len_snoc {α : Type} (l : List α) (x : α) : (((l ++ [x]).length : Nat) : Int) - 1 = ((l.length : Nat) : Int) := by rw [List.length_append]; simp

set_option maxHeartbeats 1000000 in
set_option maxRecDepth 100000 in
theorem add_raw (p : Nat) (a b : Option Addr) (c d : Nat) (ps : List (Option Addr)) (Sl_ : List Int) (w0 w : World) (hb : Below w0.heap.size w0 w) (hp : w.heap[p]? = some (.cells #[(.slice a ps.length c), (.slice b Sl_.length d)] 122 (0, 0))) (hR : Row 1 vPF 123 w0.heap.size w (.slice a ps.length c) ps) (hRS : Row 1 (vInt .i64) 3 w0.heap.size w (.slice b Sl_.length d) Sl_) (hBp : w0.heap.size ≤ p) (hps : ps.length ≤ 1000) (hln : ps.length = Sl_.length) (L : List (Option MFn)) (hF : FRel w ps L) (x : MFn) (hps2 : ps.length + 1 ≤ 1000) : Calls Try.prog 12 #[(.pointer (some ⟨p, 0, none⟩)), (.agg #[(.string x.1), (.string x.2.1), (.int .i64 x.2.2.1), (.string ⟨#[]⟩), (.slice x.2.2.2.1 x.2.2.2.2 x.2.2.2.2), (.slice none 0 0), (.slice none 0 0)])] w fun e w' => e = .returned (.int .i64 ((L.length : Nat) : Int)) ∧ FSt w0.heap.size w' p (L ++ [some x]) (Sl_ ++ [((L.length : Nat) : Int)]) ∧ Below w0.heap.size w0 w' := by
  have hcR := Row.caps hR
  have hcS := Row.caps hRS
  have hpl := (Array.getElem?_eq_some_iff.1 hp).1
  refine sx_enter (L := [(0, (.pointer (some ⟨p, 0, none⟩))), (1, (.agg #[(.string x.1), (.string x.2.1), (.int .i64 x.2.2.1), (.string ⟨#[]⟩), (.slice x.2.2.2.1 x.2.2.2.2 x.2.2.2.2), (.slice none 0 0), (.slice none 0 0)]))]) Try.func12 rfl rfl rfl rfl (fun fa hf => ?_)
  refine wp_seq_k (fun K1 hK1 => ?_)
  refine wp_region_lit ?_
  refine sqdt hf (d_box (cs := #[(.string x.1), (.string x.2.1), (.int .i64 x.2.2.1), (.string ⟨#[]⟩), (.slice x.2.2.2.1 x.2.2.2.2 x.2.2.2.2), (.slice none 0 0), (.slice none 0 0)]) rfl rfl) rfl rfl rfl ?_; clear hf fa; rintro fa _ w1 ⟨b1, rfl, hle1, hk1, he1⟩ hf
  have hBb1 : w0.heap.size ≤ b1 := Nat.le_trans hb.size hle1
  have : p < b1 := Nat.lt_of_lt_of_le (blk_lt hp) hle1
  replace hp := blk_ext hp he1
  replace hR := Row.ext hR he1
  replace hRS := Row.ext hRS he1
  replace hF := FRel.map hF (fun bf cs hbf => blk_ext hbf he1)
  replace hb := hb.trans (Below.mono he1 hb.size)
  refine sqv hf (r_assign rfl) rfl rfl rfl ?_; clear hf fa; intro fa hf
  apply wpList_nil
  (try simp only [Exit.then, Exit.inBlock, ↓reduceIte, Nat.reduceEqDiff])
  refine hK1 _ _ ?_
  refine wp_seq_k (fun K2 hK2 => ?_)
  refine wp_region_lit ?_
  refine sqv hf (r_move rfl) rfl rfl rfl ?_; clear hf fa; intro fa hf
  refine sqv hf (r_move rfl) rfl rfl rfl ?_; clear hf fa; intro fa hf
  refine sqv hf (r_nilCheck rfl) rfl rfl rfl ?_; clear hf fa; intro fa hf
  refine sqv hf (r_fa rfl Try.underlying122 (f := 0) (q := 0) rfl (by kernel_rfl) rfl) rfl rfl rfl ?_; clear hf fa; intro fa hf
  refine sqv hf (r_load (v := (.slice a ps.length c)) rfl Try.underlying120 rfl (cell_blk hp rfl)) rfl rfl rfl ?_; clear hf fa; intro fa hf
  refine sqdt hf (d_bslice (z := (.pointer none)) (sz := 1) (vs := [(0, (.pointer (some ⟨b1, 0, none⟩)))]) (cs := #[(.pointer (some ⟨b1, 0, none⟩))]) rfl Try.underlying120 (by kernel_rfl) rfl (by kernel_rfl)) rfl rfl rfl ?_; clear hf fa; rintro fa _ w2 ⟨b2, rfl, hle2, hk2, he2⟩ hf
  have hBb2 : w0.heap.size ≤ b2 := Nat.le_trans hb.size hle2
  have : p < b2 := Nat.lt_of_lt_of_le (blk_lt hp) hle2
  have : b1 < b2 := Nat.lt_of_lt_of_le (blk_lt hk1) hle2
  have hnr1 : (Value.slice a (ps.length) c).ownBlock ≠ some b2 := fun hq => by have := (Row.lt hR _ hq).2; omega
  have hnl1 : ∀ q, (Value.slice a (ps.length) c).ownBlock = some q → q < b2 := fun q hq => Nat.lt_of_lt_of_le (Row.lt hR q hq).2 hle2
  replace hp := blk_ext hp he2
  replace hk1 := blk_ext hk1 he2
  replace hR := Row.ext hR he2
  replace hRS := Row.ext hRS he2
  replace hF := FRel.map hF (fun bf cs hbf => blk_ext hbf he2)
  replace hb := hb.trans (Below.mono he2 hb.size)
  have hs1 := Row.rd (by intros; rfl) (Row.of_new (k := 1) (V := vPF) (l := [(some (⟨b1, 0, none⟩ : Addr))]) hk2 (Nat.le_refl _) rfl rfl (Nat.le_of_ble_eq_true rfl))
  refine sqdt hf (d_append (V := vPF) (k := 1) (e := 123) (bytes := 8) (z := (.pointer none)) (news := [(some (⟨b1, 0, none⟩ : Addr))]) (base := w0.heap.size) (by intros; rfl) (by exact onePF) rfl rfl Try.underlying120 (by kernel_rfl) rfl rfl rfl hR hs1 rfl (fun h => by cases h) (by first | omega | (simp only [List.length_cons, List.length_nil, List.length_append, nums_len]; omega)) (by have := hb.size; omega)) rfl rfl rfl ?_; clear hf fa; rintro fa v w3 ⟨hr1, hg1⟩ hf; obtain ⟨ra1, rc1, rfl, hcrc1, hmrc1⟩ := Row.slice hr1
  replace hp := blk_row' hp hg1 (Row.ne_type hR hp rfl)
  replace hk1 := blk_row' hk1 hg1 (Row.ne_type hR hk1 rfl)
  replace hRS := Row.grown' hRS hg1 (Row.ne_row hRS hR rfl)
  replace hF := FRel.map hF (fun bf cs hbf => blk_row' hbf hg1 (Row.ne_type hR hbf rfl))
  replace hb := hb.trans (row_below hR hg1 hb.size (by have := hb.size; omega))
  refine sqv hf (r_nilCheck rfl) rfl rfl rfl ?_; clear hf fa; intro fa hf
  refine sqv hf (r_fa rfl Try.underlying122 (f := 0) (q := 0) rfl (by kernel_rfl) rfl) rfl rfl rfl ?_; clear hf fa; intro fa hf
  refine sqn hf (d_storeK (T := 122) (v := (.slice ra1 (((ps ++ [(some (⟨b1, 0, none⟩ : Addr))])).length) rc1)) (cs := #[(.slice a ps.length c), (.slice b Sl_.length d)]) (cs' := #[(.slice ra1 (((ps ++ [(some (⟨b1, 0, none⟩ : Addr))])).length) rc1), (.slice b Sl_.length d)]) rfl rfl (by kernel_rfl) (by kernel_rfl) hp (by kernel_rfl) (by kernel_rfl)) rfl rfl ?_; clear hf fa; rintro fa _ w4 ⟨hk3, hg2⟩ hf
  replace hk1 := blk_grown hk1 hg2 (by omega)
  replace hr1 := Row.grown hr1 hg2 (Row.ne_type hr1 hp rfl)
  replace hRS := Row.grown hRS hg2 (Row.ne_type hRS hp rfl)
  replace hF := FRel.map hF (fun bf cs hbf => blk_grown hbf hg2 (blk_ty hbf hp rfl))
  replace hb := hb.trans (grown_below hg2 hb.size hBp)
  apply wpList_nil
  (try simp only [Exit.then, Exit.inBlock, ↓reduceIte, Nat.reduceEqDiff])
  refine hK2 _ _ ?_
  refine wp_seq_k (fun K3 hK3 => ?_)
  have hap : (ps ++ [(some (⟨b1, 0, none⟩ : Addr))]).length = ps.length + 1 := by rw [List.length_append]; rfl
  have hlW : p < w4.heap.size := blk_lt hk3
  have hlV := fun q (hq : ((Value.slice b Sl_.length d)).ownBlock = some q) => (Row.lt hRS q hq).2
  refine wp_region_vnT 13 (fun S wq => GO w4 p (Value.slice b Sl_.length d) wq ∧ (¬ S 12 → Row 1 (vInt .i64) 3 (w0.heap.size) wq (Value.slice b Sl_.length d) Sl_) ∧ (¬ S 4 → wq.heap[p]? = some (.cells #[(.slice ra1 (((ps ++ [(some (⟨b1, 0, none⟩ : Addr))])).length) rc1), (.slice b Sl_.length d)] 122 (0, 0))) ∧ (S 4 → wq.heap[p]? = some (.cells #[(.slice ra1 (((ps ++ [(some (⟨b1, 0, none⟩ : Addr))])).length) rc1), (.slice b Sl_.length d)] 122 (0, 0))))
    (fun V S => [(fun x _ => x = (.pointer (some ⟨p, 0, none⟩))), (fun x _ => x = (.pointer (some ⟨p, 0, none⟩))), (fun x _ => x = (.pointer (some ⟨p, 0, none⟩))), (fun x _ => x = (.pointer (some ⟨p, 1, none⟩))), (fun x _ => x = (.slice b Sl_.length d)), (fun x _ => x = (.pointer (some ⟨p, 0, none⟩))), (fun x _ => x = (.pointer (some ⟨p, 0, none⟩))), (fun x _ => x = (.pointer (some ⟨p, 0, none⟩))), (fun x _ => x = (.slice ra1 (((ps ++ [(some (⟨b1, 0, none⟩ : Addr))])).length) rc1)), (fun x _ => x = (.int .i64 ((((ps ++ [(some (⟨b1, 0, none⟩ : Addr))])).length : Nat) : Int))), (fun x _ => x = (.int .i64 ((ps.length : Nat) : Int))), (fun x wq => ∃ b, x = .slice (some ⟨b, 0, none⟩) 1 1 ∧ w4.heap.size ≤ b ∧ wq.heap[b]? = some (.cells #[(.int .i64 ((ps.length : Nat) : Int))] 3 (0, 0))), (fun x wq => ∃ a c, x = .slice a (Sl_ ++ [((ps.length : Nat) : Int)]).length c ∧ Row 1 (vInt .i64) 3 (w0.heap.size) wq x (Sl_ ++ [((ps.length : Nat) : Int)]))])
    [11]
    [[], [], [1], [2], [3], [], [5], [6], [7], [8], [9], [10], [4, 11], [], [], []]
    hf (by kernel_rfl) (by kernel_rfl) (by kernel_rfl) (fun _ _ => rfl) (fun S hS => ⟨(GO.refl _ _ _).below (Below.refl _ _).drew, fun _ => Row.ext hRS (Below.refl _ _).drew, fun _ => blk_ext hk3 (Below.refl _ _).drew, fun h => absurd h (hS _)⟩) (fun _ _ _ _ _ _ => rfl) ?_ ?_
  · skip
    intro V
    have hKP : ∀ (i : Nat) (S : Nat → Prop) (wk : World), ∀ j v w', (((fun (S : Nat → Prop) => ([(fun x _ => x = (.pointer (some ⟨p, 0, none⟩))), (fun x _ => x = (.pointer (some ⟨p, 0, none⟩))), (fun x _ => x = (.pointer (some ⟨p, 0, none⟩))), (fun x _ => x = (.pointer (some ⟨p, 1, none⟩))), (fun x _ => x = (.slice b Sl_.length d)), (fun x _ => x = (.pointer (some ⟨p, 0, none⟩))), (fun x _ => x = (.pointer (some ⟨p, 0, none⟩))), (fun x _ => x = (.pointer (some ⟨p, 0, none⟩))), (fun x _ => x = (.slice ra1 (((ps ++ [(some (⟨b1, 0, none⟩ : Addr))])).length) rc1)), (fun x _ => x = (.int .i64 ((((ps ++ [(some (⟨b1, 0, none⟩ : Addr))])).length : Nat) : Int))), (fun x _ => x = (.int .i64 ((ps.length : Nat) : Int))), (fun x wq => ∃ b, x = .slice (some ⟨b, 0, none⟩) 1 1 ∧ w4.heap.size ≤ b ∧ wq.heap[b]? = some (.cells #[(.int .i64 ((ps.length : Nat) : Int))] 3 (0, 0))), (fun x wq => ∃ a c, x = .slice a (Sl_ ++ [((ps.length : Nat) : Int)]).length c ∧ Row 1 (vInt .i64) 3 (w0.heap.size) wq x (Sl_ ++ [((ps.length : Nat) : Int)]))] : List (Value → World → Prop))) S).getD j (fun _ _ => True)) v wk → Below wk.heap.size wk w' → (((fun (S : Nat → Prop) => ([(fun x _ => x = (.pointer (some ⟨p, 0, none⟩))), (fun x _ => x = (.pointer (some ⟨p, 0, none⟩))), (fun x _ => x = (.pointer (some ⟨p, 0, none⟩))), (fun x _ => x = (.pointer (some ⟨p, 1, none⟩))), (fun x _ => x = (.slice b Sl_.length d)), (fun x _ => x = (.pointer (some ⟨p, 0, none⟩))), (fun x _ => x = (.pointer (some ⟨p, 0, none⟩))), (fun x _ => x = (.pointer (some ⟨p, 0, none⟩))), (fun x _ => x = (.slice ra1 (((ps ++ [(some (⟨b1, 0, none⟩ : Addr))])).length) rc1)), (fun x _ => x = (.int .i64 ((((ps ++ [(some (⟨b1, 0, none⟩ : Addr))])).length : Nat) : Int))), (fun x _ => x = (.int .i64 ((ps.length : Nat) : Int))), (fun x wq => ∃ b, x = .slice (some ⟨b, 0, none⟩) 1 1 ∧ w4.heap.size ≤ b ∧ wq.heap[b]? = some (.cells #[(.int .i64 ((ps.length : Nat) : Int))] 3 (0, 0))), (fun x wq => ∃ a c, x = .slice a (Sl_ ++ [((ps.length : Nat) : Int)]).length c ∧ Row 1 (vInt .i64) 3 (w0.heap.size) wq x (Sl_ ++ [((ps.length : Nat) : Int)]))] : List (Value → World → Prop))) (ad i S)).getD j (fun _ _ => True)) v w' := by
      intro i S wk j v w' h hB
      match j with
      | 0 =>
        exact h
      | 1 =>
        exact h
      | 2 =>
        exact h
      | 3 =>
        exact h
      | 4 =>
        exact h
      | 5 =>
        exact h
      | 6 =>
        exact h
      | 7 =>
        exact h
      | 8 =>
        exact h
      | 9 =>
        exact h
      | 10 =>
        exact h
      | 11 =>
        obtain ⟨b, e1, e2, e3⟩ := h
        exact ⟨b, e1, e2, blk_ext e3 hB⟩
      | 12 =>
        exact keptApp _ _ _ h hB
      | _ + 13 => trivial
    refine ⟨fun S wu0 hC hS hd hi => ?_, ?_⟩
    · skip
      replace hC : GO w4 p (Value.slice b Sl_.length d) wu0 ∧ (¬ S 12 → Row 1 (vInt .i64) 3 (w0.heap.size) wu0 (Value.slice b Sl_.length d) Sl_) ∧ (¬ S 4 → wu0.heap[p]? = some (.cells #[(.slice ra1 (((ps ++ [(some (⟨b1, 0, none⟩ : Addr))])).length) rc1), (.slice b Sl_.length d)] 122 (0, 0))) ∧ (S 4 → wu0.heap[p]? = some (.cells #[(.slice ra1 (((ps ++ [(some (⟨b1, 0, none⟩ : Addr))])).length) rc1), (.slice b Sl_.length d)] 122 (0, 0))) := hC
      refine uv_plain (C := (fun S wq => GO w4 p (Value.slice b Sl_.length d) wq ∧ (¬ S 12 → Row 1 (vInt .i64) 3 (w0.heap.size) wq (Value.slice b Sl_.length d) Sl_) ∧ (¬ S 4 → wq.heap[p]? = some (.cells #[(.slice ra1 (((ps ++ [(some (⟨b1, 0, none⟩ : Addr))])).length) rc1), (.slice b Sl_.length d)] 122 (0, 0))) ∧ (S 4 → wq.heap[p]? = some (.cells #[(.slice ra1 (((ps ++ [(some (⟨b1, 0, none⟩ : Addr))])).length) rc1), (.slice b Sl_.length d)] 122 (0, 0))))) (hKP 0 S wu0) (fun w' h1 h2 => ⟨h1.1.below h2, fun hn => Row.ext (h1.2.1 (fun hs => hn (.inr hs))) h2, fun hn => blk_ext (h1.2.2.1 (fun hs => hn (.inr hs))) h2, fun hs => blk_ext (h1.2.2.2 (by rcases hs with e | hs; exact absurd e (by decide); exact hs)) h2⟩) hC hS ?_
      obtain ⟨hC, hCr, hCo, hCn⟩ := hC
      replace hk1 := blk_go hk1 hC (by omega) (Row.ne_type hRS hk1 rfl)
      replace hr1 := Row.go hr1 hC (Row.ne_type hr1 hk3 rfl) (Row.ne_row hr1 hRS rfl)
      have hKb : wu0.heap[p]? = some (.cells #[(.slice ra1 (((ps ++ [(some (⟨b1, 0, none⟩ : Addr))])).length) rc1), (.slice b Sl_.length d)] 122 (0, 0)) := by by_cases hz : S 4; exact hCn hz; exact hCo hz
      replace hk3 := hKb
      exact Runs.does (r_move rfl) ⟨Below.refl _ _, rfl, nofr rfl⟩
    refine ⟨fun S wu1 hC hS hd hi => ?_, ?_⟩
    · skip
      replace hC : GO w4 p (Value.slice b Sl_.length d) wu1 ∧ (¬ S 12 → Row 1 (vInt .i64) 3 (w0.heap.size) wu1 (Value.slice b Sl_.length d) Sl_) ∧ (¬ S 4 → wu1.heap[p]? = some (.cells #[(.slice ra1 (((ps ++ [(some (⟨b1, 0, none⟩ : Addr))])).length) rc1), (.slice b Sl_.length d)] 122 (0, 0))) ∧ (S 4 → wu1.heap[p]? = some (.cells #[(.slice ra1 (((ps ++ [(some (⟨b1, 0, none⟩ : Addr))])).length) rc1), (.slice b Sl_.length d)] 122 (0, 0))) := hC
      refine uv_plain (C := (fun S wq => GO w4 p (Value.slice b Sl_.length d) wq ∧ (¬ S 12 → Row 1 (vInt .i64) 3 (w0.heap.size) wq (Value.slice b Sl_.length d) Sl_) ∧ (¬ S 4 → wq.heap[p]? = some (.cells #[(.slice ra1 (((ps ++ [(some (⟨b1, 0, none⟩ : Addr))])).length) rc1), (.slice b Sl_.length d)] 122 (0, 0))) ∧ (S 4 → wq.heap[p]? = some (.cells #[(.slice ra1 (((ps ++ [(some (⟨b1, 0, none⟩ : Addr))])).length) rc1), (.slice b Sl_.length d)] 122 (0, 0))))) (hKP 1 S wu1) (fun w' h1 h2 => ⟨h1.1.below h2, fun hn => Row.ext (h1.2.1 (fun hs => hn (.inr hs))) h2, fun hn => blk_ext (h1.2.2.1 (fun hs => hn (.inr hs))) h2, fun hs => blk_ext (h1.2.2.2 (by rcases hs with e | hs; exact absurd e (by decide); exact hs)) h2⟩) hC hS ?_
      obtain ⟨hC, hCr, hCo, hCn⟩ := hC
      replace hk1 := blk_go hk1 hC (by omega) (Row.ne_type hRS hk1 rfl)
      replace hr1 := Row.go hr1 hC (Row.ne_type hr1 hk3 rfl) (Row.ne_row hr1 hRS rfl)
      have hKb : wu1.heap[p]? = some (.cells #[(.slice ra1 (((ps ++ [(some (⟨b1, 0, none⟩ : Addr))])).length) rc1), (.slice b Sl_.length d)] 122 (0, 0)) := by by_cases hz : S 4; exact hCn hz; exact hCo hz
      replace hk3 := hKb
      exact Runs.does (r_move rfl) ⟨Below.refl _ _, rfl, nofr rfl⟩
    refine ⟨fun S wu2 hC hS hd hi => ?_, ?_⟩
    · skip
      replace hC : GO w4 p (Value.slice b Sl_.length d) wu2 ∧ (¬ S 12 → Row 1 (vInt .i64) 3 (w0.heap.size) wu2 (Value.slice b Sl_.length d) Sl_) ∧ (¬ S 4 → wu2.heap[p]? = some (.cells #[(.slice ra1 (((ps ++ [(some (⟨b1, 0, none⟩ : Addr))])).length) rc1), (.slice b Sl_.length d)] 122 (0, 0))) ∧ (S 4 → wu2.heap[p]? = some (.cells #[(.slice ra1 (((ps ++ [(some (⟨b1, 0, none⟩ : Addr))])).length) rc1), (.slice b Sl_.length d)] 122 (0, 0))) := hC
      refine uv_plain (C := (fun S wq => GO w4 p (Value.slice b Sl_.length d) wq ∧ (¬ S 12 → Row 1 (vInt .i64) 3 (w0.heap.size) wq (Value.slice b Sl_.length d) Sl_) ∧ (¬ S 4 → wq.heap[p]? = some (.cells #[(.slice ra1 (((ps ++ [(some (⟨b1, 0, none⟩ : Addr))])).length) rc1), (.slice b Sl_.length d)] 122 (0, 0))) ∧ (S 4 → wq.heap[p]? = some (.cells #[(.slice ra1 (((ps ++ [(some (⟨b1, 0, none⟩ : Addr))])).length) rc1), (.slice b Sl_.length d)] 122 (0, 0))))) (hKP 2 S wu2) (fun w' h1 h2 => ⟨h1.1.below h2, fun hn => Row.ext (h1.2.1 (fun hs => hn (.inr hs))) h2, fun hn => blk_ext (h1.2.2.1 (fun hs => hn (.inr hs))) h2, fun hs => blk_ext (h1.2.2.2 (by rcases hs with e | hs; exact absurd e (by decide); exact hs)) h2⟩) hC hS ?_
      obtain ⟨hC, hCr, hCo, hCn⟩ := hC
      have h1 := hS.post 1 (hd 1 (by decide))
      replace h1 : V 1 = (.pointer (some ⟨p, 0, none⟩)) := h1
      replace hk1 := blk_go hk1 hC (by omega) (Row.ne_type hRS hk1 rfl)
      replace hr1 := Row.go hr1 hC (Row.ne_type hr1 hk3 rfl) (Row.ne_row hr1 hRS rfl)
      have hKb : wu2.heap[p]? = some (.cells #[(.slice ra1 (((ps ++ [(some (⟨b1, 0, none⟩ : Addr))])).length) rc1), (.slice b Sl_.length d)] 122 (0, 0)) := by by_cases hz : S 4; exact hCn hz; exact hCo hz
      replace hk3 := hKb
      exact Runs.does (r_nilCheck (congrArg some h1)) ⟨Below.refl _ _, rfl, nofr rfl⟩
    refine ⟨fun S wu3 hC hS hd hi => ?_, ?_⟩
    · skip
      replace hC : GO w4 p (Value.slice b Sl_.length d) wu3 ∧ (¬ S 12 → Row 1 (vInt .i64) 3 (w0.heap.size) wu3 (Value.slice b Sl_.length d) Sl_) ∧ (¬ S 4 → wu3.heap[p]? = some (.cells #[(.slice ra1 (((ps ++ [(some (⟨b1, 0, none⟩ : Addr))])).length) rc1), (.slice b Sl_.length d)] 122 (0, 0))) ∧ (S 4 → wu3.heap[p]? = some (.cells #[(.slice ra1 (((ps ++ [(some (⟨b1, 0, none⟩ : Addr))])).length) rc1), (.slice b Sl_.length d)] 122 (0, 0))) := hC
      refine uv_plain (C := (fun S wq => GO w4 p (Value.slice b Sl_.length d) wq ∧ (¬ S 12 → Row 1 (vInt .i64) 3 (w0.heap.size) wq (Value.slice b Sl_.length d) Sl_) ∧ (¬ S 4 → wq.heap[p]? = some (.cells #[(.slice ra1 (((ps ++ [(some (⟨b1, 0, none⟩ : Addr))])).length) rc1), (.slice b Sl_.length d)] 122 (0, 0))) ∧ (S 4 → wq.heap[p]? = some (.cells #[(.slice ra1 (((ps ++ [(some (⟨b1, 0, none⟩ : Addr))])).length) rc1), (.slice b Sl_.length d)] 122 (0, 0))))) (hKP 3 S wu3) (fun w' h1 h2 => ⟨h1.1.below h2, fun hn => Row.ext (h1.2.1 (fun hs => hn (.inr hs))) h2, fun hn => blk_ext (h1.2.2.1 (fun hs => hn (.inr hs))) h2, fun hs => blk_ext (h1.2.2.2 (by rcases hs with e | hs; exact absurd e (by decide); exact hs)) h2⟩) hC hS ?_
      obtain ⟨hC, hCr, hCo, hCn⟩ := hC
      have h2 := hS.post 2 (hd 2 (by decide))
      replace h2 : V 2 = (.pointer (some ⟨p, 0, none⟩)) := h2
      replace hk1 := blk_go hk1 hC (by omega) (Row.ne_type hRS hk1 rfl)
      replace hr1 := Row.go hr1 hC (Row.ne_type hr1 hk3 rfl) (Row.ne_row hr1 hRS rfl)
      have hKb : wu3.heap[p]? = some (.cells #[(.slice ra1 (((ps ++ [(some (⟨b1, 0, none⟩ : Addr))])).length) rc1), (.slice b Sl_.length d)] 122 (0, 0)) := by by_cases hz : S 4; exact hCn hz; exact hCo hz
      replace hk3 := hKb
      exact Runs.does (r_fa (congrArg some h2) Try.underlying122 (f := 1) (q := 1) rfl (by kernel_rfl) rfl) ⟨Below.refl _ _, rfl, nofr rfl⟩
    refine ⟨fun S wu4 hC hS hd hi => ?_, ?_⟩
    · skip
      replace hC : GO w4 p (Value.slice b Sl_.length d) wu4 ∧ (¬ S 12 → Row 1 (vInt .i64) 3 (w0.heap.size) wu4 (Value.slice b Sl_.length d) Sl_) ∧ (¬ S 4 → wu4.heap[p]? = some (.cells #[(.slice ra1 (((ps ++ [(some (⟨b1, 0, none⟩ : Addr))])).length) rc1), (.slice b Sl_.length d)] 122 (0, 0))) ∧ (S 4 → wu4.heap[p]? = some (.cells #[(.slice ra1 (((ps ++ [(some (⟨b1, 0, none⟩ : Addr))])).length) rc1), (.slice b Sl_.length d)] 122 (0, 0))) := hC
      refine uv_plain (C := (fun S wq => GO w4 p (Value.slice b Sl_.length d) wq ∧ (¬ S 12 → Row 1 (vInt .i64) 3 (w0.heap.size) wq (Value.slice b Sl_.length d) Sl_) ∧ (¬ S 4 → wq.heap[p]? = some (.cells #[(.slice ra1 (((ps ++ [(some (⟨b1, 0, none⟩ : Addr))])).length) rc1), (.slice b Sl_.length d)] 122 (0, 0))) ∧ (S 4 → wq.heap[p]? = some (.cells #[(.slice ra1 (((ps ++ [(some (⟨b1, 0, none⟩ : Addr))])).length) rc1), (.slice b Sl_.length d)] 122 (0, 0))))) (hKP 4 S wu4) (fun w' h1 h2 => ⟨h1.1.below h2, fun hn => Row.ext (h1.2.1 (fun hs => hn (.inr hs))) h2, fun hn => absurd (.inl rfl) hn, fun _ => blk_ext (h1.2.2.1 hi) h2⟩) hC hS ?_
      obtain ⟨hC, hCr, hCo, hCn⟩ := hC
      have h3 := hS.post 3 (hd 3 (by decide))
      replace h3 : V 3 = (.pointer (some ⟨p, 1, none⟩)) := h3
      replace hk1 := blk_go hk1 hC (by omega) (Row.ne_type hRS hk1 rfl)
      replace hr1 := Row.go hr1 hC (Row.ne_type hr1 hk3 rfl) (Row.ne_row hr1 hRS rfl)
      have hKb : wu4.heap[p]? = some (.cells #[(.slice ra1 (((ps ++ [(some (⟨b1, 0, none⟩ : Addr))])).length) rc1), (.slice b Sl_.length d)] 122 (0, 0)) := by by_cases hz : S 4; exact hCn hz; exact hCo hz
      replace hk3 := hKb
      exact Runs.does (r_load (v := (.slice b Sl_.length d)) (congrArg some h3) Try.underlying33 rfl (cell_blk hk3 rfl)) ⟨Below.refl _ _, rfl, nofr rfl⟩
    refine ⟨fun S wu5 hC hS hd hi => ?_, ?_⟩
    · skip
      replace hC : GO w4 p (Value.slice b Sl_.length d) wu5 ∧ (¬ S 12 → Row 1 (vInt .i64) 3 (w0.heap.size) wu5 (Value.slice b Sl_.length d) Sl_) ∧ (¬ S 4 → wu5.heap[p]? = some (.cells #[(.slice ra1 (((ps ++ [(some (⟨b1, 0, none⟩ : Addr))])).length) rc1), (.slice b Sl_.length d)] 122 (0, 0))) ∧ (S 4 → wu5.heap[p]? = some (.cells #[(.slice ra1 (((ps ++ [(some (⟨b1, 0, none⟩ : Addr))])).length) rc1), (.slice b Sl_.length d)] 122 (0, 0))) := hC
      refine uv_plain (C := (fun S wq => GO w4 p (Value.slice b Sl_.length d) wq ∧ (¬ S 12 → Row 1 (vInt .i64) 3 (w0.heap.size) wq (Value.slice b Sl_.length d) Sl_) ∧ (¬ S 4 → wq.heap[p]? = some (.cells #[(.slice ra1 (((ps ++ [(some (⟨b1, 0, none⟩ : Addr))])).length) rc1), (.slice b Sl_.length d)] 122 (0, 0))) ∧ (S 4 → wq.heap[p]? = some (.cells #[(.slice ra1 (((ps ++ [(some (⟨b1, 0, none⟩ : Addr))])).length) rc1), (.slice b Sl_.length d)] 122 (0, 0))))) (hKP 5 S wu5) (fun w' h1 h2 => ⟨h1.1.below h2, fun hn => Row.ext (h1.2.1 (fun hs => hn (.inr hs))) h2, fun hn => blk_ext (h1.2.2.1 (fun hs => hn (.inr hs))) h2, fun hs => blk_ext (h1.2.2.2 (by rcases hs with e | hs; exact absurd e (by decide); exact hs)) h2⟩) hC hS ?_
      obtain ⟨hC, hCr, hCo, hCn⟩ := hC
      replace hk1 := blk_go hk1 hC (by omega) (Row.ne_type hRS hk1 rfl)
      replace hr1 := Row.go hr1 hC (Row.ne_type hr1 hk3 rfl) (Row.ne_row hr1 hRS rfl)
      have hKb : wu5.heap[p]? = some (.cells #[(.slice ra1 (((ps ++ [(some (⟨b1, 0, none⟩ : Addr))])).length) rc1), (.slice b Sl_.length d)] 122 (0, 0)) := by by_cases hz : S 4; exact hCn hz; exact hCo hz
      replace hk3 := hKb
      exact Runs.does (r_move rfl) ⟨Below.refl _ _, rfl, nofr rfl⟩
    refine ⟨fun S wu6 hC hS hd hi => ?_, ?_⟩
    · skip
      replace hC : GO w4 p (Value.slice b Sl_.length d) wu6 ∧ (¬ S 12 → Row 1 (vInt .i64) 3 (w0.heap.size) wu6 (Value.slice b Sl_.length d) Sl_) ∧ (¬ S 4 → wu6.heap[p]? = some (.cells #[(.slice ra1 (((ps ++ [(some (⟨b1, 0, none⟩ : Addr))])).length) rc1), (.slice b Sl_.length d)] 122 (0, 0))) ∧ (S 4 → wu6.heap[p]? = some (.cells #[(.slice ra1 (((ps ++ [(some (⟨b1, 0, none⟩ : Addr))])).length) rc1), (.slice b Sl_.length d)] 122 (0, 0))) := hC
      refine uv_plain (C := (fun S wq => GO w4 p (Value.slice b Sl_.length d) wq ∧ (¬ S 12 → Row 1 (vInt .i64) 3 (w0.heap.size) wq (Value.slice b Sl_.length d) Sl_) ∧ (¬ S 4 → wq.heap[p]? = some (.cells #[(.slice ra1 (((ps ++ [(some (⟨b1, 0, none⟩ : Addr))])).length) rc1), (.slice b Sl_.length d)] 122 (0, 0))) ∧ (S 4 → wq.heap[p]? = some (.cells #[(.slice ra1 (((ps ++ [(some (⟨b1, 0, none⟩ : Addr))])).length) rc1), (.slice b Sl_.length d)] 122 (0, 0))))) (hKP 6 S wu6) (fun w' h1 h2 => ⟨h1.1.below h2, fun hn => Row.ext (h1.2.1 (fun hs => hn (.inr hs))) h2, fun hn => blk_ext (h1.2.2.1 (fun hs => hn (.inr hs))) h2, fun hs => blk_ext (h1.2.2.2 (by rcases hs with e | hs; exact absurd e (by decide); exact hs)) h2⟩) hC hS ?_
      obtain ⟨hC, hCr, hCo, hCn⟩ := hC
      have h5 := hS.post 5 (hd 5 (by decide))
      replace h5 : V 5 = (.pointer (some ⟨p, 0, none⟩)) := h5
      replace hk1 := blk_go hk1 hC (by omega) (Row.ne_type hRS hk1 rfl)
      replace hr1 := Row.go hr1 hC (Row.ne_type hr1 hk3 rfl) (Row.ne_row hr1 hRS rfl)
      have hKb : wu6.heap[p]? = some (.cells #[(.slice ra1 (((ps ++ [(some (⟨b1, 0, none⟩ : Addr))])).length) rc1), (.slice b Sl_.length d)] 122 (0, 0)) := by by_cases hz : S 4; exact hCn hz; exact hCo hz
      replace hk3 := hKb
      exact Runs.does (r_nilCheck (congrArg some h5)) ⟨Below.refl _ _, rfl, nofr rfl⟩
    refine ⟨fun S wu7 hC hS hd hi => ?_, ?_⟩
    · skip
      replace hC : GO w4 p (Value.slice b Sl_.length d) wu7 ∧ (¬ S 12 → Row 1 (vInt .i64) 3 (w0.heap.size) wu7 (Value.slice b Sl_.length d) Sl_) ∧ (¬ S 4 → wu7.heap[p]? = some (.cells #[(.slice ra1 (((ps ++ [(some (⟨b1, 0, none⟩ : Addr))])).length) rc1), (.slice b Sl_.length d)] 122 (0, 0))) ∧ (S 4 → wu7.heap[p]? = some (.cells #[(.slice ra1 (((ps ++ [(some (⟨b1, 0, none⟩ : Addr))])).length) rc1), (.slice b Sl_.length d)] 122 (0, 0))) := hC
      refine uv_plain (C := (fun S wq => GO w4 p (Value.slice b Sl_.length d) wq ∧ (¬ S 12 → Row 1 (vInt .i64) 3 (w0.heap.size) wq (Value.slice b Sl_.length d) Sl_) ∧ (¬ S 4 → wq.heap[p]? = some (.cells #[(.slice ra1 (((ps ++ [(some (⟨b1, 0, none⟩ : Addr))])).length) rc1), (.slice b Sl_.length d)] 122 (0, 0))) ∧ (S 4 → wq.heap[p]? = some (.cells #[(.slice ra1 (((ps ++ [(some (⟨b1, 0, none⟩ : Addr))])).length) rc1), (.slice b Sl_.length d)] 122 (0, 0))))) (hKP 7 S wu7) (fun w' h1 h2 => ⟨h1.1.below h2, fun hn => Row.ext (h1.2.1 (fun hs => hn (.inr hs))) h2, fun hn => blk_ext (h1.2.2.1 (fun hs => hn (.inr hs))) h2, fun hs => blk_ext (h1.2.2.2 (by rcases hs with e | hs; exact absurd e (by decide); exact hs)) h2⟩) hC hS ?_
      obtain ⟨hC, hCr, hCo, hCn⟩ := hC
      have h6 := hS.post 6 (hd 6 (by decide))
      replace h6 : V 6 = (.pointer (some ⟨p, 0, none⟩)) := h6
      replace hk1 := blk_go hk1 hC (by omega) (Row.ne_type hRS hk1 rfl)
      replace hr1 := Row.go hr1 hC (Row.ne_type hr1 hk3 rfl) (Row.ne_row hr1 hRS rfl)
      have hKb : wu7.heap[p]? = some (.cells #[(.slice ra1 (((ps ++ [(some (⟨b1, 0, none⟩ : Addr))])).length) rc1), (.slice b Sl_.length d)] 122 (0, 0)) := by by_cases hz : S 4; exact hCn hz; exact hCo hz
      replace hk3 := hKb
      exact Runs.does (r_fa (congrArg some h6) Try.underlying122 (f := 0) (q := 0) rfl (by kernel_rfl) rfl) ⟨Below.refl _ _, rfl, nofr rfl⟩
    refine ⟨fun S wu8 hC hS hd hi => ?_, ?_⟩
    · skip
      replace hC : GO w4 p (Value.slice b Sl_.length d) wu8 ∧ (¬ S 12 → Row 1 (vInt .i64) 3 (w0.heap.size) wu8 (Value.slice b Sl_.length d) Sl_) ∧ (¬ S 4 → wu8.heap[p]? = some (.cells #[(.slice ra1 (((ps ++ [(some (⟨b1, 0, none⟩ : Addr))])).length) rc1), (.slice b Sl_.length d)] 122 (0, 0))) ∧ (S 4 → wu8.heap[p]? = some (.cells #[(.slice ra1 (((ps ++ [(some (⟨b1, 0, none⟩ : Addr))])).length) rc1), (.slice b Sl_.length d)] 122 (0, 0))) := hC
      refine uv_plain (C := (fun S wq => GO w4 p (Value.slice b Sl_.length d) wq ∧ (¬ S 12 → Row 1 (vInt .i64) 3 (w0.heap.size) wq (Value.slice b Sl_.length d) Sl_) ∧ (¬ S 4 → wq.heap[p]? = some (.cells #[(.slice ra1 (((ps ++ [(some (⟨b1, 0, none⟩ : Addr))])).length) rc1), (.slice b Sl_.length d)] 122 (0, 0))) ∧ (S 4 → wq.heap[p]? = some (.cells #[(.slice ra1 (((ps ++ [(some (⟨b1, 0, none⟩ : Addr))])).length) rc1), (.slice b Sl_.length d)] 122 (0, 0))))) (hKP 8 S wu8) (fun w' h1 h2 => ⟨h1.1.below h2, fun hn => Row.ext (h1.2.1 (fun hs => hn (.inr hs))) h2, fun hn => blk_ext (h1.2.2.1 (fun hs => hn (.inr hs))) h2, fun hs => blk_ext (h1.2.2.2 (by rcases hs with e | hs; exact absurd e (by decide); exact hs)) h2⟩) hC hS ?_
      obtain ⟨hC, hCr, hCo, hCn⟩ := hC
      have h7 := hS.post 7 (hd 7 (by decide))
      replace h7 : V 7 = (.pointer (some ⟨p, 0, none⟩)) := h7
      replace hk1 := blk_go hk1 hC (by omega) (Row.ne_type hRS hk1 rfl)
      replace hr1 := Row.go hr1 hC (Row.ne_type hr1 hk3 rfl) (Row.ne_row hr1 hRS rfl)
      have hKb : wu8.heap[p]? = some (.cells #[(.slice ra1 (((ps ++ [(some (⟨b1, 0, none⟩ : Addr))])).length) rc1), (.slice b Sl_.length d)] 122 (0, 0)) := by by_cases hz : S 4; exact hCn hz; exact hCo hz
      replace hk3 := hKb
      exact Runs.does (r_load (v := (.slice ra1 (((ps ++ [(some (⟨b1, 0, none⟩ : Addr))])).length) rc1)) (congrArg some h7) Try.underlying120 rfl (cell_blk hk3 rfl)) ⟨Below.refl _ _, rfl, nofr rfl⟩
    refine ⟨fun S wu9 hC hS hd hi => ?_, ?_⟩
    · skip
      replace hC : GO w4 p (Value.slice b Sl_.length d) wu9 ∧ (¬ S 12 → Row 1 (vInt .i64) 3 (w0.heap.size) wu9 (Value.slice b Sl_.length d) Sl_) ∧ (¬ S 4 → wu9.heap[p]? = some (.cells #[(.slice ra1 (((ps ++ [(some (⟨b1, 0, none⟩ : Addr))])).length) rc1), (.slice b Sl_.length d)] 122 (0, 0))) ∧ (S 4 → wu9.heap[p]? = some (.cells #[(.slice ra1 (((ps ++ [(some (⟨b1, 0, none⟩ : Addr))])).length) rc1), (.slice b Sl_.length d)] 122 (0, 0))) := hC
      refine uv_plain (C := (fun S wq => GO w4 p (Value.slice b Sl_.length d) wq ∧ (¬ S 12 → Row 1 (vInt .i64) 3 (w0.heap.size) wq (Value.slice b Sl_.length d) Sl_) ∧ (¬ S 4 → wq.heap[p]? = some (.cells #[(.slice ra1 (((ps ++ [(some (⟨b1, 0, none⟩ : Addr))])).length) rc1), (.slice b Sl_.length d)] 122 (0, 0))) ∧ (S 4 → wq.heap[p]? = some (.cells #[(.slice ra1 (((ps ++ [(some (⟨b1, 0, none⟩ : Addr))])).length) rc1), (.slice b Sl_.length d)] 122 (0, 0))))) (hKP 9 S wu9) (fun w' h1 h2 => ⟨h1.1.below h2, fun hn => Row.ext (h1.2.1 (fun hs => hn (.inr hs))) h2, fun hn => blk_ext (h1.2.2.1 (fun hs => hn (.inr hs))) h2, fun hs => blk_ext (h1.2.2.2 (by rcases hs with e | hs; exact absurd e (by decide); exact hs)) h2⟩) hC hS ?_
      obtain ⟨hC, hCr, hCo, hCn⟩ := hC
      have h8 := hS.post 8 (hd 8 (by decide))
      replace h8 : V 8 = (.slice ra1 (((ps ++ [(some (⟨b1, 0, none⟩ : Addr))])).length) rc1) := h8
      replace hk1 := blk_go hk1 hC (by omega) (Row.ne_type hRS hk1 rfl)
      replace hr1 := Row.go hr1 hC (Row.ne_type hr1 hk3 rfl) (Row.ne_row hr1 hRS rfl)
      have hKb : wu9.heap[p]? = some (.cells #[(.slice ra1 (((ps ++ [(some (⟨b1, 0, none⟩ : Addr))])).length) rc1), (.slice b Sl_.length d)] 122 (0, 0)) := by by_cases hz : S 4; exact hCn hz; exact hCo hz
      replace hk3 := hKb
      exact Runs.does (r_lensl (congrArg some h8) Try.underlying120) ⟨Below.refl _ _, rfl, nofr rfl⟩
    refine ⟨fun S wu10 hC hS hd hi => ?_, ?_⟩
    · skip
      replace hC : GO w4 p (Value.slice b Sl_.length d) wu10 ∧ (¬ S 12 → Row 1 (vInt .i64) 3 (w0.heap.size) wu10 (Value.slice b Sl_.length d) Sl_) ∧ (¬ S 4 → wu10.heap[p]? = some (.cells #[(.slice ra1 (((ps ++ [(some (⟨b1, 0, none⟩ : Addr))])).length) rc1), (.slice b Sl_.length d)] 122 (0, 0))) ∧ (S 4 → wu10.heap[p]? = some (.cells #[(.slice ra1 (((ps ++ [(some (⟨b1, 0, none⟩ : Addr))])).length) rc1), (.slice b Sl_.length d)] 122 (0, 0))) := hC
      refine uv_plain (C := (fun S wq => GO w4 p (Value.slice b Sl_.length d) wq ∧ (¬ S 12 → Row 1 (vInt .i64) 3 (w0.heap.size) wq (Value.slice b Sl_.length d) Sl_) ∧ (¬ S 4 → wq.heap[p]? = some (.cells #[(.slice ra1 (((ps ++ [(some (⟨b1, 0, none⟩ : Addr))])).length) rc1), (.slice b Sl_.length d)] 122 (0, 0))) ∧ (S 4 → wq.heap[p]? = some (.cells #[(.slice ra1 (((ps ++ [(some (⟨b1, 0, none⟩ : Addr))])).length) rc1), (.slice b Sl_.length d)] 122 (0, 0))))) (hKP 10 S wu10) (fun w' h1 h2 => ⟨h1.1.below h2, fun hn => Row.ext (h1.2.1 (fun hs => hn (.inr hs))) h2, fun hn => blk_ext (h1.2.2.1 (fun hs => hn (.inr hs))) h2, fun hs => blk_ext (h1.2.2.2 (by rcases hs with e | hs; exact absurd e (by decide); exact hs)) h2⟩) hC hS ?_
      obtain ⟨hC, hCr, hCo, hCn⟩ := hC
      have h9 := hS.post 9 (hd 9 (by decide))
      replace h9 : V 9 = (.int .i64 ((((ps ++ [(some (⟨b1, 0, none⟩ : Addr))])).length : Nat) : Int)) := h9
      replace hk1 := blk_go hk1 hC (by omega) (Row.ne_type hRS hk1 rfl)
      replace hr1 := Row.go hr1 hC (Row.ne_type hr1 hk3 rfl) (Row.ne_row hr1 hRS rfl)
      have hKb : wu10.heap[p]? = some (.cells #[(.slice ra1 (((ps ++ [(some (⟨b1, 0, none⟩ : Addr))])).length) rc1), (.slice b Sl_.length d)] 122 (0, 0)) := by by_cases hz : S 4; exact hCn hz; exact hCo hz
      replace hk3 := hKb
      exact Runs.does (Runs.veq (v' := (.int .i64 ((ps.length : Nat) : Int))) (r_sub (C := (((((ps ++ [(some (⟨b1, 0, none⟩ : Addr))])).length : Nat) : Int) - (1 : Int))) (congrArg some h9) rfl (by rw [IntKind.wrap_i64]; omega)) (congrArg (Value.int .i64) (len_snoc _ _))) ⟨Below.refl _ _, rfl, nofr rfl⟩
    refine ⟨fun S wu11 hC hS hd hi => ?_, ?_⟩
    · skip
      replace hC : GO w4 p (Value.slice b Sl_.length d) wu11 ∧ (¬ S 12 → Row 1 (vInt .i64) 3 (w0.heap.size) wu11 (Value.slice b Sl_.length d) Sl_) ∧ (¬ S 4 → wu11.heap[p]? = some (.cells #[(.slice ra1 (((ps ++ [(some (⟨b1, 0, none⟩ : Addr))])).length) rc1), (.slice b Sl_.length d)] 122 (0, 0))) ∧ (S 4 → wu11.heap[p]? = some (.cells #[(.slice ra1 (((ps ++ [(some (⟨b1, 0, none⟩ : Addr))])).length) rc1), (.slice b Sl_.length d)] 122 (0, 0))) := hC
      refine uv_plain (C := (fun S wq => GO w4 p (Value.slice b Sl_.length d) wq ∧ (¬ S 12 → Row 1 (vInt .i64) 3 (w0.heap.size) wq (Value.slice b Sl_.length d) Sl_) ∧ (¬ S 4 → wq.heap[p]? = some (.cells #[(.slice ra1 (((ps ++ [(some (⟨b1, 0, none⟩ : Addr))])).length) rc1), (.slice b Sl_.length d)] 122 (0, 0))) ∧ (S 4 → wq.heap[p]? = some (.cells #[(.slice ra1 (((ps ++ [(some (⟨b1, 0, none⟩ : Addr))])).length) rc1), (.slice b Sl_.length d)] 122 (0, 0))))) (hKP 11 S wu11) (fun w' h1 h2 => ⟨h1.1.below h2, fun hn => Row.ext (h1.2.1 (fun hs => hn (.inr hs))) h2, fun hn => blk_ext (h1.2.2.1 (fun hs => hn (.inr hs))) h2, fun hs => blk_ext (h1.2.2.2 (by rcases hs with e | hs; exact absurd e (by decide); exact hs)) h2⟩) hC hS ?_
      obtain ⟨hC, hCr, hCo, hCn⟩ := hC
      have h10 := hS.post 10 (hd 10 (by decide))
      replace h10 : V 10 = (.int .i64 ((ps.length : Nat) : Int)) := h10
      replace hk1 := blk_go hk1 hC (by omega) (Row.ne_type hRS hk1 rfl)
      replace hr1 := Row.go hr1 hC (Row.ne_type hr1 hk3 rfl) (Row.ne_row hr1 hRS rfl)
      have hKb : wu11.heap[p]? = some (.cells #[(.slice ra1 (((ps ++ [(some (⟨b1, 0, none⟩ : Addr))])).length) rc1), (.slice b Sl_.length d)] 122 (0, 0)) := by by_cases hz : S 4; exact hCn hz; exact hCo hz
      replace hk3 := hKb
      refine Does.mono (d_bslice (z := (.int .i64 (0 : Int))) (sz := 1) (vs := [(0, (.int .i64 ((ps.length : Nat) : Int)))]) (cs := #[(.int .i64 ((ps.length : Nat) : Int))]) (show [(0, some (V 10))] = [(0, some (.int .i64 ((ps.length : Nat) : Int)))] from by rw [h10]) Try.underlying33 (by kernel_rfl) rfl (by kernel_rfl)) ?_
      rintro _ w' ⟨b, rfl, hF⟩
      exact ⟨hF.2.2, ⟨b, rfl, Nat.le_trans hC.size hF.1, hF.2.1⟩, isfr rfl hF.1 (blk_lt hF.2.1)⟩
    refine ⟨fun S wu12 hC hS hd hi => ?_, ?_⟩
    · skip
      replace hC : GO w4 p (Value.slice b Sl_.length d) wu12 ∧ (¬ S 12 → Row 1 (vInt .i64) 3 (w0.heap.size) wu12 (Value.slice b Sl_.length d) Sl_) ∧ (¬ S 4 → wu12.heap[p]? = some (.cells #[(.slice ra1 (((ps ++ [(some (⟨b1, 0, none⟩ : Addr))])).length) rc1), (.slice b Sl_.length d)] 122 (0, 0))) ∧ (S 4 → wu12.heap[p]? = some (.cells #[(.slice ra1 (((ps ++ [(some (⟨b1, 0, none⟩ : Addr))])).length) rc1), (.slice b Sl_.length d)] 122 (0, 0))) := hC
      obtain ⟨hC, hCr, hCo, hCn⟩ := hC
      have h4 := hS.post 4 (hd 4 (by decide))
      replace h4 : V 4 = (.slice b Sl_.length d) := h4
      have h11 := hS.post 11 (hd 11 (by decide))
      obtain ⟨b3, h11, hle3, hk4⟩ := h11
      replace hk1 := blk_go hk1 hC (by omega) (Row.ne_type hRS hk1 rfl)
      replace hr1 := Row.go hr1 hC (Row.ne_type hr1 hk3 rfl) (Row.ne_row hr1 hRS rfl)
      have hKb : wu12.heap[p]? = some (.cells #[(.slice ra1 (((ps ++ [(some (⟨b1, 0, none⟩ : Addr))])).length) rc1), (.slice b Sl_.length d)] 122 (0, 0)) := by by_cases hz : S 4; exact hCn hz; exact hCo hz
      replace hk3 := hKb
      replace hRS := hCr hi
      have hrB := Row.of_new (k := 1) (V := (vInt .i64)) (l := [((ps.length : Nat) : Int)]) (base := w4.heap.size) hk4 hle3 rfl rfl (Nat.le_of_ble_eq_true rfl)
      refine Does.mono (d_append (V := (vInt .i64)) (k := 1) (e := 3) (bytes := 8) (z := (.int .i64 (0 : Int))) (news := [((ps.length : Nat) : Int)]) (base := w0.heap.size) (by intros; rfl) (by intro x u hu; simp only [vInt, List.mem_singleton] at hu; subst hu; rfl) (congrArg some h4) (congrArg some h11) Try.underlying33 (by kernel_rfl) rfl rfl rfl hRS (Row.rd (by intros; rfl) hrB) rfl (fun h => by cases h) (by first | omega | (simp only [List.length_cons, List.length_nil, List.length_append, nums_len]; omega)) (by have := hb.size; have := hC.size; omega)) ?_
      rintro v' wz ⟨hY, hgY⟩
      obtain ⟨ra, rc, rfl, _, _⟩ := Row.slice hY
      refine ⟨⟨⟨hC.app hgY, fun hn => absurd (.inl rfl) hn, fun hn => absurd (.inr (hd 4 (by decide))) hn, fun _ => (hgY.block p (blk_lt (hCn (hd 4 (by decide)))) (fun e => Row.ne_type hRS (hCn (hd 4 (by decide))) rfl e.symm)).trans (hCn (hd 4 (by decide)))⟩, fun j hj => ?_, hgY.size⟩, ⟨ra, rc, rfl, hY⟩, nofr rfl⟩
      match j with
      | 0 =>
        exact hS.post 0 hj
      | 1 =>
        exact hS.post 1 hj
      | 2 =>
        exact hS.post 2 hj
      | 3 =>
        exact hS.post 3 hj
      | 4 =>
        exact hS.post 4 hj
      | 5 =>
        exact hS.post 5 hj
      | 6 =>
        exact hS.post 6 hj
      | 7 =>
        exact hS.post 7 hj
      | 8 =>
        exact hS.post 8 hj
      | 9 =>
        exact hS.post 9 hj
      | 10 =>
        exact hS.post 10 hj
      | 11 =>
        obtain ⟨b, e1, e2, e3⟩ := hS.post 11 hj
        exact ⟨b, e1, e2, (hgY.block b (blk_lt e3) (fun e => by have := hlV b e.symm; omega)).trans e3⟩
      | 12 =>
        exact absurd hj hi
      | _ + 13 => trivial
    trivial
  · skip
    clear hf fa; intro V S w5 fa hall he3 hp hnb hf
    have hv0 := postsHold_at hp 0 rfl
    replace hv0 : V 0 = (.pointer (some ⟨p, 0, none⟩)) := hv0
    have hv1 := postsHold_at hp 1 rfl
    replace hv1 : V 1 = (.pointer (some ⟨p, 0, none⟩)) := hv1
    have hv2 := postsHold_at hp 2 rfl
    replace hv2 : V 2 = (.pointer (some ⟨p, 0, none⟩)) := hv2
    have hv3 := postsHold_at hp 3 rfl
    replace hv3 : V 3 = (.pointer (some ⟨p, 1, none⟩)) := hv3
    have hv4 := postsHold_at hp 4 rfl
    replace hv4 : V 4 = (.slice b Sl_.length d) := hv4
    have hv5 := postsHold_at hp 5 rfl
    replace hv5 : V 5 = (.pointer (some ⟨p, 0, none⟩)) := hv5
    have hv6 := postsHold_at hp 6 rfl
    replace hv6 : V 6 = (.pointer (some ⟨p, 0, none⟩)) := hv6
    have hv7 := postsHold_at hp 7 rfl
    replace hv7 : V 7 = (.pointer (some ⟨p, 0, none⟩)) := hv7
    have hv8 := postsHold_at hp 8 rfl
    replace hv8 : V 8 = (.slice ra1 (((ps ++ [(some (⟨b1, 0, none⟩ : Addr))])).length) rc1) := hv8
    have hv9 := postsHold_at hp 9 rfl
    replace hv9 : V 9 = (.int .i64 ((((ps ++ [(some (⟨b1, 0, none⟩ : Addr))])).length : Nat) : Int)) := hv9
    have hv10 := postsHold_at hp 10 rfl
    replace hv10 : V 10 = (.int .i64 ((ps.length : Nat) : Int)) := hv10
    have hv11 := postsHold_at hp 11 rfl
    obtain ⟨b3, hv11, hle3, hk4⟩ := hv11
    have hBb3 : w0.heap.size ≤ b3 := Nat.le_trans hb.size hle3
    have hv12 := postsHold_at hp 12 rfl
    obtain ⟨ra2, rc2, hv12, hr2⟩ := hv12
    rw [hv12] at hr2
    have hcrc2 := Row.caps hr2
    simp only [List.take_succ_cons, List.take_zero, insAll, ins, hv0, hv1, hv2, hv3, hv4, hv5, hv6, hv7, hv8, hv9, hv10, hv11, hv12] at hf
    obtain ⟨he3, _, _, hk5⟩ := he3
    replace hk5 := hk5 (hall 4 (show 4 < 13 by decide))
    replace hF := FRel.map hF (fun bf cs hbf => blk_go hbf he3 (blk_ty hbf hk3 rfl) (Row.ne_type hRS hbf rfl))
    replace hk1 := blk_go hk1 he3 (by omega) (Row.ne_type hRS hk1 rfl)
    replace hr1 := Row.go hr1 he3 (Row.ne_type hr1 hk3 rfl) (Row.ne_row hr1 hRS rfl)
    replace hb := Below_go hb he3 hb.size hBp (fun q hq => by have := (Row.lt hRS q hq).1; omega)
    clear hp hnb hall hlV hRS hv0 hv1 hv2 hv3 hv4 hv5 hv6 hv7 hv8 hv9 hv10 hv11 hv12
    simp only [List.drop_succ_cons, List.drop_zero]
    refine sqv hf (r_nilCheck rfl) rfl rfl rfl ?_; clear hf fa; intro fa hf
    refine sqv hf (r_fa rfl Try.underlying122 (f := 1) (q := 1) rfl (by kernel_rfl) rfl) rfl rfl rfl ?_; clear hf fa; intro fa hf
    refine sqn hf (d_storeK (T := 122) (v := (.slice ra2 ((Sl_ ++ [((ps.length : Nat) : Int)]).length) rc2)) (cs := #[(.slice ra1 (((ps ++ [(some (⟨b1, 0, none⟩ : Addr))])).length) rc1), (.slice b Sl_.length d)]) (cs' := #[(.slice ra1 (((ps ++ [(some (⟨b1, 0, none⟩ : Addr))])).length) rc1), (.slice ra2 ((Sl_ ++ [((ps.length : Nat) : Int)]).length) rc2)]) rfl rfl (by kernel_rfl) (by kernel_rfl) hk5 (by kernel_rfl) (by kernel_rfl)) rfl rfl ?_; clear hf fa; rintro fa _ w6 ⟨hk6, hg3⟩ hf
    replace hk1 := blk_grown hk1 hg3 (by omega)
    replace hr1 := Row.grown hr1 hg3 (Row.ne_type hr1 hk5 rfl)
    replace hr2 := Row.grown hr2 hg3 (Row.ne_type hr2 hk5 rfl)
    replace hF := FRel.map hF (fun bf cs hbf => blk_grown hbf hg3 (blk_ty hbf hk5 rfl))
    replace hb := hb.trans (grown_below hg3 hb.size hBp)
    apply wpList_nil
    (try simp only [Exit.then, Exit.inBlock, ↓reduceIte, Nat.reduceEqDiff])
    refine hK3 _ _ ?_
    refine wp_seq_k (fun K4 hK4 => ?_)
    refine wp_region_lit ?_
    refine sqv hf (r_move rfl) rfl rfl rfl ?_; clear hf fa; intro fa hf
    refine sqv hf (r_nilCheck rfl) rfl rfl rfl ?_; clear hf fa; intro fa hf
    refine sqv hf (r_fa rfl Try.underlying122 (f := 0) (q := 0) rfl (by kernel_rfl) rfl) rfl rfl rfl ?_; clear hf fa; intro fa hf
    refine sqv hf (r_load (v := (.slice ra1 (((ps ++ [(some (⟨b1, 0, none⟩ : Addr))])).length) rc1)) rfl Try.underlying120 rfl (cell_blk hk6 rfl)) rfl rfl rfl ?_; clear hf fa; intro fa hf
    refine sqv hf (r_lensl rfl Try.underlying120) rfl rfl rfl ?_; clear hf fa; intro fa hf
    refine sqv hf (Runs.veq (v' := (.int .i64 ((ps.length : Nat) : Int))) (r_sub (C := (((((ps ++ [(some (⟨b1, 0, none⟩ : Addr))])).length : Nat) : Int) - (1 : Int))) rfl rfl (by rw [IntKind.wrap_i64]; omega)) (congrArg (Value.int .i64) (len_snoc _ _))) rfl rfl rfl ?_; clear hf fa; intro fa hf
    refine sqv hf (r_assign rfl) rfl rfl rfl ?_; clear hf fa; intro fa hf
    apply wpList_nil
    (try simp only [Exit.then, Exit.inBlock, ↓reduceIte, Nat.reduceEqDiff])
    refine hK4 _ _ ?_
    refine wp_ret ?_
    (try simp only [Exit.then, Exit.inBlock])
    refine ret1 hf rfl rfl ?_
    have hz1 := hk6
    have hzR := hr1
    have hzS := hr2
    have hlL := hF.1
    rw [← hlL]; exact ⟨rfl, ⟨_, _, _, _, (ps ++ [(some (⟨b1, 0, none⟩ : Addr))]), hz1, hzR, hzS, hBp, by rw [List.length_append]; exact hps2, by rw [List.length_append, List.length_append, hln]; rfl, hF.snoc hk1⟩, hb⟩
end Go.Proofs.Ytmcmickgllffoaa
