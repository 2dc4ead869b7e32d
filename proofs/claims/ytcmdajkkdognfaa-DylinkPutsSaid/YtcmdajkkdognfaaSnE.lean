/- What is proved here: the scanner over the types of a module. -/
import Derived.Test.YtcmdajkkdognfaaSnC
import Derived.Test.YtcmdajkkdognfaaSnD
import Derived.Test.YtcmdajkkdognfaaTyL
import Derived.Test.YtcmdajkkdognfaaTyG
namespace Go.Proofs.Ytcmdajkkdognfaa
open Go.RowKit
set_option linter.unusedVariables false
set_option linter.unusedSimpArgs false
theorem At.mv {l : List Int} {p q : Nat} {X Y : List Int} (h : At l p X) (e : p = q) (e2 : X = Y) : At l q Y := e2 ▸ e ▸ h
theorem At.all (l : List Int) : At l 0 l := ⟨by rw [List.drop_zero, List.take_length], by omega⟩
theorem wrote_eq {w w' : World} {b T p q : Nat} {v : Value} (h : Wrote w b #[v, .int .i64 ((p : Nat) : Int)] T w') (e : p = q) : Wrote w b #[v, .int .i64 ((q : Nat) : Int)] T w' := e ▸ h
theorem encF_rng (t : MFt) : ∀ y ∈ encF t, 0 ≤ y ∧ y < 256 := by
  intro y hy
  unfold encF at hy
  simp only [List.mem_append, List.mem_singleton] at hy
  rcases hy with (((rfl | h) | h) | h) | h
  · omega
  · exact uL_rng _ y h
  · exact nums_rng _ y h
  · exact uL_rng _ y h
  · exact nums_rng _ y h
theorem encL_rng (t : MLim) : ∀ y ∈ encL t, 0 ≤ y ∧ y < 256 := by
  intro y hy
  unfold encL at hy
  cases h : t.2.2.1 with
  | true =>
    rw [h] at hy; simp only [cond_true, List.mem_append, List.mem_singleton] at hy
    rcases hy with (rfl | h) | h
    · omega
    · exact uL_rng _ y h
    · exact uL_rng _ y h
  | false =>
    rw [h] at hy; simp only [cond_false, List.mem_append, List.mem_singleton] at hy
    rcases hy with rfl | h
    · omega
    · exact uL_rng _ y h
theorem encG_rng (t : MGt) (h : 0 ≤ t.1 ∧ t.1 < 256) : ∀ y ∈ encG t, 0 ≤ y ∧ y < 256 := by
  intro y hy
  unfold encG at hy
  simp only [List.mem_cons, List.not_mem_nil, or_false] at hy
  rcases hy with rfl | rfl
  · exact h
  · cases t.2.1 <;> simp
theorem tvals_of {X : List Int} (h : valsR X = 0) : ∀ y ∈ X, tvalP y = 0 := by
  induction X with
  | nil => intro y hy; cases hy
  | cons x X ih =>
    rw [valsR] at h
    by_cases hx : tvalP x ≠ 0
    · rw [if_pos hx] at h; exact absurd h hx
    · rw [if_neg hx] at h
      intro y hy
      rcases List.mem_cons.1 hy with rfl | hy
      · exact Decidable.not_not.1 hx
      · exact ih h y hy
theorem tfunc_parts {t : MFt} (h : tfuncP t = 0) : t.1.size ≤ 1000 ∧ t.2.1.size ≤ 1 ∧ valsP t.1 = 0 ∧ valsP t.2.1 = 0 := by
  unfold tfuncP at h
  by_cases h1 : (1000 : Int) < ((t.1.size : Nat) : Int) ∨ (1 : Int) < ((t.2.1.size : Nat) : Int)
  · rw [show (decide ((1000 : Int) < ((t.1.size : Nat) : Int)) || decide ((1 : Int) < ((t.2.1.size : Nat) : Int))) = true by simpa using h1] at h
    cases h
  · rw [show (decide ((1000 : Int) < ((t.1.size : Nat) : Int)) || decide ((1 : Int) < ((t.2.1.size : Nat) : Int))) = false by simpa using h1] at h
    simp only [cond_false] at h
    by_cases h2 : valsP t.1 = 0
    · rw [show decide (valsP t.1 ≠ 0) = false by simpa using h2] at h
      exact ⟨by omega, by omega, h2, h⟩
    · rw [show decide (valsP t.1 ≠ 0) = true by simpa using h2] at h
      exact absurd h h2
theorem encF_form (t : MFt) : encF t = [(96 : Int)] ++ ((uL (nums t.1).length ++ nums t.1) ++ (uL (nums t.2.1).length ++ nums t.2.1)) := by
  unfold encF
  simp only [nums_len, List.append_assoc]

theorem sft_any (bs base p : Nat) (a : Option Addr) (c : Nat) (l : List Int) (w : World) (hks : w.heap[bs]? = some (.cells #[(.slice a l.length c), (.int .i64 ((p : Nat) : Int))] 161 (0, 0))) (hr0 : Row 1 (vInt .u8) 5 base w (.slice a l.length c) l) (hp : p ≤ l.length) (hb6 : ∀ y ∈ l, 0 ≤ y ∧ y < 256) (hlm : l.length ≤ 1000000) (t : MFt) (hA : At l p (encF t)) (ht : tfuncP t = 0) : Calls Try.prog 63 #[(.pointer (some ⟨bs, 0, none⟩))] w fun e w' => e = .returned (.agg #[(.string t.1), (.string t.2.1)]) ∧ Wrote w bs #[(.slice a l.length c), (.int .i64 (((p + (encF t).length) : Nat) : Int))] 161 w' := by
  obtain ⟨h1, h2, h3, h4⟩ := tfunc_parts ht
  have h := sfunc_any bs base p a c l w hks hr0 hp hb6 hlm (nums t.1) (nums t.2.1) (hA.mv rfl (encF_form t)) (by rw [nums_len]; omega) (by rw [nums_len]; omega) (tvals_of h3) (tvals_of h4) (by rw [strOfNums_nums, strOfNums_nums]; exact ht)
  rw [strOfNums_nums, strOfNums_nums] at h
  refine h.mono ?_
  rintro e w' ⟨rfl, hw⟩
  refine ⟨rfl, wrote_eq hw ?_⟩
  rw [encF_form]
  simp only [List.length_append, List.length_cons, List.length_nil]
  omega
theorem slim_any (bs base p : Nat) (a : Option Addr) (c : Nat) (l : List Int) (w : World) (hks : w.heap[bs]? = some (.cells #[(.slice a l.length c), (.int .i64 ((p : Nat) : Int))] 161 (0, 0))) (hr0 : Row 1 (vInt .u8) 5 base w (.slice a l.length c) l) (hp : p ≤ l.length) (hb6 : ∀ y ∈ l, 0 ≤ y ∧ y < 256) (hlm : l.length ≤ 1000000) (t : MLim) (hA : At l p (encL t)) (h1 : 0 ≤ t.1 ∧ t.1 < 4294967296) (h2 : 0 ≤ t.2.1 ∧ t.2.1 < 4294967296) (hz : t.2.2.1 = false → t.2.1 = 0) : Calls Try.prog 64 #[(.pointer (some ⟨bs, 0, none⟩))] w fun e w' => e = .returned (.agg #[(.int .u32 t.1), (.int .u32 t.2.1), (.bool t.2.2.1)]) ∧ Wrote w bs #[(.slice a l.length c), (.int .i64 (((p + (encL t).length) : Nat) : Int))] 161 w' := by
  obtain ⟨m, n, b, u⟩ := t
  dsimp only at *
  cases b with
  | true =>
    unfold encL at hA ⊢
    simp only [cond_true] at hA ⊢
    have h := limT_any bs base p a c l w hks hr0 hp hb6 hlm m.toNat n.toNat hA (by omega) (by omega)
    refine h.mono ?_
    rintro e w' ⟨rfl, hw⟩
    refine ⟨by rw [show ((m.toNat : Nat) : Int) = m by omega, show ((n.toNat : Nat) : Int) = n by omega], wrote_eq hw ?_⟩
    simp only [List.length_append, List.length_cons, List.length_nil]
    omega
  | false =>
    have hn := hz rfl
    subst hn
    unfold encL at hA ⊢
    simp only [cond_false] at hA ⊢
    have h := limF_any bs base p a c l w hks hr0 hp hb6 hlm m.toNat hA (by omega)
    refine h.mono ?_
    rintro e w' ⟨rfl, hw⟩
    refine ⟨by rw [show ((m.toNat : Nat) : Int) = m by omega], wrote_eq hw ?_⟩
    simp only [List.length_append, List.length_cons, List.length_nil]
    omega
theorem sgt_any (bs base p : Nat) (a : Option Addr) (c : Nat) (l : List Int) (w : World) (hks : w.heap[bs]? = some (.cells #[(.slice a l.length c), (.int .i64 ((p : Nat) : Int))] 161 (0, 0))) (hr0 : Row 1 (vInt .u8) 5 base w (.slice a l.length c) l) (hp : p ≤ l.length) (t : MGt) (hA : At l p (encG t)) (ht : tvalP t.1 = 0) : Calls Try.prog 65 #[(.pointer (some ⟨bs, 0, none⟩))] w fun e w' => e = .returned (.agg #[(.int .u8 t.1), (.bool t.2.1)]) ∧ Wrote w bs #[(.slice a l.length c), (.int .i64 (((p + (encG t).length) : Nat) : Int))] 161 w' := by
  obtain ⟨m, b, u⟩ := t
  dsimp only at *
  cases b with
  | true =>
    have h := global_any bs base p a c l w hks hr0 hp m 1 hA ht (by omega)
    refine h.mono ?_
    rintro e w' ⟨rfl, hw⟩
    exact ⟨rfl, wrote_eq hw rfl⟩
  | false =>
    have h := global_any bs base p a c l w hks hr0 hp m 0 hA ht (by omega)
    refine h.mono ?_
    rintro e w' ⟨rfl, hw⟩
    exact ⟨rfl, wrote_eq hw rfl⟩

set_option maxHeartbeats 1000000 in
set_option maxRecDepth 100000 in
theorem stable_any (bs base p : Nat) (a : Option Addr) (c : Nat) (l : List Int) (w : World) (hks : w.heap[bs]? = some (.cells #[(.slice a l.length c), (.int .i64 ((p : Nat) : Int))] 161 (0, 0))) (hr0 : Row 1 (vInt .u8) 5 base w (.slice a l.length c) l) (hp : p ≤ l.length) (hb6 : ∀ y ∈ l, 0 ≤ y ∧ y < 256) (hlm : l.length ≤ 1000000) (t : MLim) (hA : At l p ([(112 : Int)] ++ encL t)) (h1 : 0 ≤ t.1 ∧ t.1 < 4294967296) (h2 : 0 ≤ t.2.1 ∧ t.2.1 < 4294967296) (hz : t.2.2.1 = false → t.2.1 = 0) : Calls Try.prog 144 #[(.pointer (some ⟨bs, 0, none⟩))] w fun e w' => e = .returned (.agg #[(.int .u32 t.1), (.int .u32 t.2.1), (.bool t.2.2.1)]) ∧ Wrote w bs #[(.slice a l.length c), (.int .i64 (((p + 1 + (encL t).length) : Nat) : Int))] 161 w' := by
  have hcap := Row.caps hr0; have hR0lt := fun q hq => (Row.lt hr0 q hq).2; have hle := hA.le; simp only [List.length_append, List.length_cons, List.length_nil] at hle
  refine sx_enter (L := [(0, (.pointer (some ⟨bs, 0, none⟩)))]) Try.func144 rfl rfl rfl rfl (fun fa hf => ?_)
  have hb : KB bs w.heap.size w w := KB.refl _ _ _
  refine wp_seq_k (fun K1 hK1 => ?_)
  refine wp_region_lit ?_
  refine sqdt hf (d_alloc (z := (.agg #[(.int .u32 (0 : Int)), (.int .u32 (0 : Int)), (.bool false)])) (cs := #[(.int .u32 (0 : Int)), (.int .u32 (0 : Int)), (.bool false)]) (by kernel_rfl) rfl) rfl rfl rfl ?_; clear hf fa; rintro fa _ w1 ⟨b1, rfl, hle1, hk1, he1⟩ hf
  have hBb1 : w.heap.size ≤ b1 := Nat.le_trans hb.size hle1
  have : bs < b1 := Nat.lt_of_lt_of_le (blk_lt hks) hle1
  replace hks := blk_ext hks he1
  replace hr0 := Row.ext hr0 he1
  replace hb := hb.trans (Below.mono he1 hb.size)
  apply wpList_nil
  (try simp only [Exit.then, Exit.inBlock, ↓reduceIte, Nat.reduceEqDiff])
  refine hK1 _ _ ?_
  refine wp_seq_k (fun K2 hK2 => ?_)
  refine wp_region_lit ?_
  refine sqv hf (r_move rfl) rfl rfl rfl ?_; clear hf fa; intro fa hf
  refine sqv hf (r_nilCheck rfl) rfl rfl rfl ?_; clear hf fa; intro fa hf
  refine sqv hf (r_fa rfl Try.underlying161 (f := 1) (q := 1) rfl (by kernel_rfl) rfl) rfl rfl rfl ?_; clear hf fa; intro fa hf
  refine sqv hf (r_load (v := (.int .i64 ((p : Nat) : Int))) rfl Try.underlying3 rfl (cell_blk hks rfl)) rfl rfl rfl ?_; clear hf fa; intro fa hf
  refine sqv hf (r_assign rfl) rfl rfl rfl ?_; clear hf fa; intro fa hf
  apply wpList_nil
  (try simp only [Exit.then, Exit.inBlock, ↓reduceIte, Nat.reduceEqDiff])
  refine hK2 _ _ ?_
  refine wp_seq_k (fun K3 hK3 => ?_)
  refine wp_region_lit ?_
  refine sqv hf (r_move rfl) rfl rfl rfl ?_; clear hf fa; intro fa hf
  refine sqdt hf (d_callW (v := (.int .u8 112)) (b := bs) (T := 161) (cs := #[(.slice a l.length c), (.int .i64 (((p + 1) : Nat) : Int))]) (vs := [(.pointer (some ⟨bs, 0, none⟩))]) rfl Try.func61 (by kernel_rfl) (by kernel_rfl) (sbyte_any bs base p a c l _ hks hr0 (by omega) 112 (At.head hA))) rfl rfl rfl ?_; clear hf fa; rintro fa _ w2 ⟨rfl, hk2, hg1⟩ hf
  replace hk1 := blk_grown hk1 hg1 (by omega)
  replace hr0 := Row.grown hr0 hg1 (Row.ne_type hr0 hks rfl)
  replace hb := hb.wrote hg1 hb.size
  refine sqv hf (r_eq rfl rfl) rfl rfl rfl ?_; clear hf fa; intro fa hf
  refine sqv hf (r_move rfl) rfl rfl rfl ?_; clear hf fa; intro fa hf
  refine sqdt hf (d_callB (vs := [(.bool (decide (112 = (112 : Int)))), (.int .i64 (7 : Int)), (.int .i64 ((p : Nat) : Int))]) rfl Try.func118 (by kernel_rfl) (by kernel_rfl) (unless_any (decide (112 = (112 : Int))) (7 : Int) ((p : Nat) : Int) _ (by first | rfl | assumption | (simp; done) | (simp; omega)))) rfl rfl rfl ?_; clear hf fa; rintro fa _ w3 ⟨rfl, he2⟩ hf
  replace hk2 := blk_ext hk2 he2
  replace hk1 := blk_ext hk1 he2
  replace hr0 := Row.ext hr0 he2
  replace hb := hb.trans (Below.mono he2 hb.size)
  apply wpList_nil
  (try simp only [Exit.then, Exit.inBlock, ↓reduceIte, Nat.reduceEqDiff])
  refine hK3 _ _ ?_
  refine wp_seq_k (fun K4 hK4 => ?_)
  refine wp_region_lit ?_
  refine sqv hf (r_move rfl) rfl rfl rfl ?_; clear hf fa; intro fa hf
  refine sqdt hf (d_callW (v := (.agg #[(.int .u32 t.1), (.int .u32 t.2.1), (.bool t.2.2.1)])) (b := bs) (T := 161) (cs := #[(.slice a l.length c), (.int .i64 (((((p + 1)) + (encL t).length) : Nat) : Int))]) (vs := [(.pointer (some ⟨bs, 0, none⟩))]) rfl Try.func64 (by kernel_rfl) (by kernel_rfl) (slim_any bs base ((p + 1)) a c l _ hk2 hr0 (by omega) hb6 hlm t (At.tail hA) h1 h2 hz)) rfl rfl rfl ?_; clear hf fa; rintro fa _ w4 ⟨rfl, hk3, hg2⟩ hf
  replace hk1 := blk_grown hk1 hg2 (by omega)
  replace hr0 := Row.grown hr0 hg2 (Row.ne_type hr0 hk2 rfl)
  replace hb := hb.wrote hg2 hb.size
  refine sqn hf (d_storeK (T := 43) (v := (.agg #[(.int .u32 t.1), (.int .u32 t.2.1), (.bool t.2.2.1)])) (cs := #[(.int .u32 (0 : Int)), (.int .u32 (0 : Int)), (.bool false)]) (cs' := #[(.int .u32 t.1), (.int .u32 t.2.1), (.bool t.2.2.1)]) rfl rfl (by kernel_rfl) (by kernel_rfl) hk1 (by kernel_rfl) (by kernel_rfl)) rfl rfl ?_; clear hf fa; rintro fa _ w5 ⟨hk4, hg3⟩ hf
  replace hk3 := blk_grown hk3 hg3 (by omega)
  replace hr0 := Row.grown hr0 hg3 (Row.ne_type hr0 hk1 rfl)
  replace hb := hb.trans (grown_below hg3 hb.size hBb1)
  apply wpList_nil
  (try simp only [Exit.then, Exit.inBlock, ↓reduceIte, Nat.reduceEqDiff])
  refine hK4 _ _ ?_
  refine wp_ret ?_
  (try simp only [Exit.then, Exit.inBlock])
  refine retC hf rfl rfl hk4 Try.underlying43 rfl (by kernel_rfl) ?_
  exact ⟨rfl, hk3, hb.grown⟩
end Go.Proofs.Ytcmdajkkdognfaa
