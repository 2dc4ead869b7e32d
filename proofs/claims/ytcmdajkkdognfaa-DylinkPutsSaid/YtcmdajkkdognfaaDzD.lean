/- What is proved here: dylink.Read. -/
import Derived.Test.YtcmdajkkdognfaaDzC
import Derived.Test.YtcmdajkkdognfaaVaD
namespace Go.Proofs.Ytcmdajkkdognfaa
open Go.RowKit
set_option linter.unusedVariables false
set_option linter.unusedSimpArgs false
/-- The body of a part. -/
def bodyD (a1 a2 a3 a4 : Int) (L : List ByteArray) (r : Nat) : List Int := if r = 0 then infoL a1 a2 a3 a4 else needL L
theorem encD_one {a1 a2 a3 a4 : Int} {L : List ByteArray} (h : L.length = 0) : encD a1 a2 a3 a4 L = partL 1 (infoL a1 a2 a3 a4) := by unfold encD; rw [if_pos h, List.append_nil]
theorem encD_two {a1 a2 a3 a4 : Int} {L : List ByteArray} (h : ¬ L.length = 0) : encD a1 a2 a3 a4 L = partL 1 (infoL a1 a2 a3 a4) ++ partL 2 (needL L) := by unfold encD; rw [if_neg h]
theorem encD_lens (a1 a2 a3 a4 : Int) (L : List ByteArray) : (partL 1 (infoL a1 a2 a3 a4)).length ≤ (encD a1 a2 a3 a4 L).length ∧ (L.length ≠ 0 → (encD a1 a2 a3 a4 L).length = (partL 1 (infoL a1 a2 a3 a4)).length + (partL 2 (needL L)).length) := by
  unfold encD
  rw [List.length_append]
  refine ⟨by omega, fun h => by rw [if_neg h]⟩
theorem encD_rng {a1 a2 a3 a4 : Int} {L : List ByteArray} : ∀ y ∈ encD a1 a2 a3 a4 L, 0 ≤ y ∧ y < 256 := by
  intro y hy
  unfold encD at hy
  rcases List.mem_append.1 hy with h | h
  · exact partL_rng (by omega) infoL_rng y h
  · split at h
    · cases h
    · exact partL_rng (by omega) (needL_rng L) y h
/-- How far the reading has come. -/
def StD (a1 a2 a3 a4 : Int) (L : List ByteArray) (r d : Nat) (x1 x2 x3 x4 : Int) (ra : Option Addr) (rc : Nat) (nl : List ByteArray) : Prop :=
  (r = 0 ∧ d = 0 ∧ x1 = 0 ∧ x2 = 0 ∧ x3 = 0 ∧ x4 = 0 ∧ ra = none ∧ rc = 0 ∧ nl = []) ∨
  (r = 1 ∧ d = (partL 1 (infoL a1 a2 a3 a4)).length ∧ x1 = a1 ∧ x2 = a2 ∧ x3 = a3 ∧ x4 = a4 ∧ ra = none ∧ rc = 0 ∧ nl = []) ∨
  (r = 2 ∧ d = (partL 1 (infoL a1 a2 a3 a4)).length + (partL 2 (needL L)).length ∧ x1 = a1 ∧ x2 = a2 ∧ x3 = a3 ∧ x4 = a4 ∧ nl = L ∧ L.length ≠ 0)
theorem StD_at {a1 a2 a3 a4 x1 x2 x3 x4 : Int} {L nl : List ByteArray} {r d rc p : Nat} {ra : Option Addr} {l : List Int} (h : StD a1 a2 a3 a4 L r d x1 x2 x3 x4 ra rc nl) (hA : At l p (encD a1 a2 a3 a4 L)) (hpe : p + (encD a1 a2 a3 a4 L).length = l.length) (hm : p + d < l.length) :
    (r = 0 ∨ (r = 1 ∧ L.length ≠ 0)) ∧ ∃ X, X = bodyD a1 a2 a3 a4 L r ∧ At l (p + d) ([((r + 1 : Nat) : Int)] ++ (uL X.length ++ X)) := by
  by_cases h0 : L.length = 0
  · rw [encD_one h0] at hA hpe
    rcases h with ⟨rfl, rfl, _⟩ | ⟨rfl, rfl, _⟩ | ⟨_, _, _, _, _, _, _, h⟩
    · refine ⟨.inl rfl, _, rfl, ?_⟩
      unfold partL at hA
      exact hA.mv rfl (by simp only [List.append_assoc]; rfl)
    · omega
    · exact absurd h0 h
  · rw [encD_two h0] at hA hpe
    rcases h with ⟨rfl, rfl, _⟩ | ⟨rfl, rfl, _⟩ | ⟨rfl, rfl, _⟩
    · refine ⟨.inl rfl, _, rfl, ?_⟩
      have h := hA.fst
      unfold partL at h
      exact h.mv rfl (by simp only [List.append_assoc]; rfl)
    · refine ⟨.inr ⟨rfl, h0⟩, _, rfl, ?_⟩
      have h := hA.snd
      have e : partL 2 (needL L) = [((1 + 1 : Nat) : Int)] ++ (uL (needL L).length ++ needL L) := by unfold partL; simp only [List.append_assoc]; rfl
      exact h.mv rfl e
    · rw [List.length_append] at hpe; omega
theorem StD_end {a1 a2 a3 a4 x1 x2 x3 x4 : Int} {L nl : List ByteArray} {r d rc p : Nat} {ra : Option Addr} {l : List Int} (h : StD a1 a2 a3 a4 L r d x1 x2 x3 x4 ra rc nl) (hpe : p + (encD a1 a2 a3 a4 L).length = l.length) (hm : p + d = l.length) (hi : (infoL a1 a2 a3 a4).length ≤ 100000) (hn : (needL L).length ≤ 100000) :
    x1 = a1 ∧ x2 = a2 ∧ x3 = a3 ∧ x4 = a4 ∧ nl = L ∧ 0 < r ∧ r ≤ 2 := by
  have p1 := partL_len (t := 1) hi
  have p2 := partL_len (t := 2) hn
  by_cases h0 : L.length = 0
  · rw [encD_one h0] at hpe
    rcases h with ⟨rfl, rfl, _⟩ | ⟨rfl, rfl, e1, e2, e3, e4, _, _, e5⟩ | ⟨_, _, _, _, _, _, _, h⟩
    · omega
    · exact ⟨e1, e2, e3, e4, by rw [e5, List.length_eq_zero_iff.1 h0], by omega, by omega⟩
    · exact absurd h0 h
  · rw [encD_two h0, List.length_append] at hpe
    rcases h with ⟨rfl, rfl, _⟩ | ⟨rfl, rfl, _⟩ | ⟨rfl, rfl, e1, e2, e3, e4, e5, _⟩
    · omega
    · omega
    · exact ⟨e1, e2, e3, e4, e5, by omega, by omega⟩

set_option maxHeartbeats 1000000 in
set_option maxRecDepth 100000 in
theorem dread_any (bs base p : Nat) (a : Option Addr) (c : Nat) (l : List Int) (w : World) (hks : w.heap[bs]? = some (.cells #[(.slice a l.length c), (.int .i64 ((p : Nat) : Int))] 161 (0, 0))) (hr0 : Row 1 (vInt .u8) 5 base w (.slice a l.length c) l) (hp : p ≤ l.length) (hb6 : ∀ y ∈ l, 0 ≤ y ∧ y < 256) (hlm : l.length ≤ 1000000) (a1 a2 a3 a4 : Int) (L : List ByteArray) (h1 : 0 ≤ a1 ∧ a1 < 4294967296) (h2 : 0 ≤ a2 ∧ a2 < 4294967296) (h3 : 0 ≤ a3 ∧ a3 < 4294967296) (h4 : 0 ≤ a4 ∧ a4 < 4294967296) (hfw : L.length ≤ 30 ∧ ∀ s ∈ L, s.size ≤ 300) (hA : At l p (encD a1 a2 a3 a4 L)) (hpe : p + (encD a1 a2 a3 a4 L).length = l.length) (hdr : drightP true a1 a2 a3 a4 L = 0) (hgd : ∀ s ∈ L, Ut.checkF s = 0) : Calls Try.prog 93 #[(.pointer (some ⟨bs, 0, none⟩))] w fun e w' => ∃ u, e = .returned u ∧ ∃ (va : Option Addr) (vc : Nat), u = (.agg #[.bool true, .int .u32 a1, .int .u32 a2, .int .u32 a3, .int .u32 a4, .slice va L.length vc]) ∧ Row 1 vStr 9 w.heap.size w' (.slice va L.length vc) L ∧ Wrote w bs #[(.slice a l.length c), (.int .i64 (((p + (encD a1 a2 a3 a4 L).length) : Nat) : Int))] 161 w' := by
  have hcap := Row.caps hr0; have hR0lt := fun q hq => (Row.lt hr0 q hq).2; have hle := hA.le
  have hil := infoL_len h1 h2 h3 h4; have hnl := needL_len (L := L) (few_iff.2 hfw); obtain ⟨hel1, hel2⟩ := encD_lens a1 a2 a3 a4 L
  refine sx_enter (L := [(0, (.pointer (some ⟨bs, 0, none⟩)))]) Try.func93 rfl rfl rfl rfl (fun fa hf => ?_)
  have hb : KS [bs] w.heap.size w w := KS.refl _ _ _
  refine wp_seq_k (fun K1 hK1 => ?_)
  refine wp_region_lit ?_
  refine sqdt hf (d_alloc (z := (.agg #[(.bool false), (.int .u32 (0 : Int)), (.int .u32 (0 : Int)), (.int .u32 (0 : Int)), (.int .u32 (0 : Int)), (.slice none 0 0)])) (cs := #[(.bool false), (.int .u32 (0 : Int)), (.int .u32 (0 : Int)), (.int .u32 (0 : Int)), (.int .u32 (0 : Int)), (.slice none 0 0)]) (by kernel_rfl) rfl) rfl rfl rfl ?_; clear hf fa; rintro fa _ w1 ⟨b1, rfl, hle1, hk1, he1⟩ hf
  have hBb1 : w.heap.size ≤ b1 := Nat.le_trans hb.size hle1
  have : bs < b1 := Nat.lt_of_lt_of_le (blk_lt hks) hle1
  replace hks := blk_ext hks he1
  replace hr0 := Row.ext hr0 he1
  replace hb := hb.trans (Below.mono he1 hb.size)
  apply wpList_nil
  (try simp only [Exit.then, Exit.inBlock, ↓reduceIte, Nat.reduceEqDiff])
  refine hK1 _ _ ?_
  refine wp_seq_k (fun K2 hK2 => ?_)
  refine wp_region_lit ?_
  refine sqv hf (r_build (vs := [(0, (.bool true))]) (cs := #[(.bool true), (.int .u32 (0 : Int)), (.int .u32 (0 : Int)), (.int .u32 (0 : Int)), (.int .u32 (0 : Int)), (.slice none 0 0)]) rfl (fun _ => by kernel_rfl)) rfl rfl rfl ?_; clear hf fa; intro fa hf
  refine sqdt hf (d_alloc (z := (.agg #[(.bool false), (.int .u32 (0 : Int)), (.int .u32 (0 : Int)), (.int .u32 (0 : Int)), (.int .u32 (0 : Int)), (.slice none 0 0)])) (cs := #[(.bool false), (.int .u32 (0 : Int)), (.int .u32 (0 : Int)), (.int .u32 (0 : Int)), (.int .u32 (0 : Int)), (.slice none 0 0)]) (by kernel_rfl) rfl) rfl rfl rfl ?_; clear hf fa; rintro fa _ w2 ⟨b2, rfl, hle2, hk2, he2⟩ hf
  have hBb2 : w.heap.size ≤ b2 := Nat.le_trans hb.size hle2
  have : bs < b2 := Nat.lt_of_lt_of_le (blk_lt hks) hle2
  have : b1 < b2 := Nat.lt_of_lt_of_le (blk_lt hk1) hle2
  replace hks := blk_ext hks he2
  replace hk1 := blk_ext hk1 he2
  replace hr0 := Row.ext hr0 he2
  replace hb := hb.trans (Below.mono he2 hb.size)
  refine sqn hf (d_storeK (T := 37) (v := (.agg #[(.bool true), (.int .u32 (0 : Int)), (.int .u32 (0 : Int)), (.int .u32 (0 : Int)), (.int .u32 (0 : Int)), (.slice none 0 0)])) (cs := #[(.bool false), (.int .u32 (0 : Int)), (.int .u32 (0 : Int)), (.int .u32 (0 : Int)), (.int .u32 (0 : Int)), (.slice none 0 0)]) (cs' := #[(.bool true), (.int .u32 (0 : Int)), (.int .u32 (0 : Int)), (.int .u32 (0 : Int)), (.int .u32 (0 : Int)), (.slice none 0 0)]) rfl rfl (by kernel_rfl) (by kernel_rfl) hk2 (by kernel_rfl) (by kernel_rfl)) rfl rfl ?_; clear hf fa; rintro fa _ w3 ⟨hk3, hg1⟩ hf
  replace hks := blk_grown hks hg1 (by omega)
  replace hk1 := blk_grown hk1 hg1 (by omega)
  replace hr0 := Row.grown hr0 hg1 (Row.ne_type hr0 hk2 rfl)
  replace hb := hb.wrote hg1 hb.size (.inr hBb2)
  apply wpList_nil
  (try simp only [Exit.then, Exit.inBlock, ↓reduceIte, Nat.reduceEqDiff])
  refine hK2 _ _ ?_
  refine wp_seq_k (fun K3 hK3 => ?_)
  have hrn0 : Row 1 vStr 9 (w.heap.size) w3 (.slice none 0 0) ([] : List ByteArray) := Row.nil
  refine wp_region_lit ?_
  refine sqv hf (r_move rfl) rfl rfl rfl ?_; clear hf fa; intro fa hf
  refine sqdt hf (d_callB (vs := [(.pointer (some ⟨bs, 0, none⟩))]) rfl Try.func126 (by kernel_rfl) (by kernel_rfl) (at_any bs base p a c l _ hks hr0 (by omega))) rfl rfl rfl ?_; clear hf fa; rintro fa _ w4 ⟨rfl, he3⟩ hf
  replace hks := blk_ext hks he3
  replace hk1 := blk_ext hk1 he3
  replace hk3 := blk_ext hk3 he3
  replace hr0 := Row.ext hr0 he3
  replace hrn0 := Row.ext hrn0 he3
  replace hb := hb.trans (Below.mono he3 hb.size)
  refine sqv hf (r_assign rfl) rfl rfl rfl ?_; clear hf fa; intro fa hf
  refine sqv hf (r_assign rfl) rfl rfl rfl ?_; clear hf fa; intro fa hf
  apply wpList_nil
  (try simp only [Exit.then, Exit.inBlock, ↓reduceIte, Nat.reduceEqDiff])
  refine hK3 _ _ ?_
  refine wp_seq_k (fun K4 hK4 => ?_)
  refine wp_block ?_
  refine wp_loop_k (fun mq fa wr => ∃ (r : Nat) (d : Nat) (x1 : Int) (x2 : Int) (x3 : Int) (x4 : Int) (nl : List ByteArray) (rna : Option Addr) (rnc : Nat), mq = 2 - r ∧ Fr 64 fa [(0, (.pointer (some ⟨bs, 0, none⟩))), (2, (.pointer (some ⟨b1, 0, none⟩))), (3, (.pointer (some ⟨b2, 0, none⟩))), (4, (.int .i64 ((p : Nat) : Int))), (5, (.int .u8 ((r : Nat) : Int)))] ∧ KS [bs] w.heap.size w wr ∧ Row 1 vStr 9 (w.heap.size) wr (.slice rna (nl.length) rnc) nl ∧ Row 1 (vInt .u8) 5 (base) wr (.slice a (l.length) c) l ∧ wr.heap[bs]? = some (.cells #[(.slice a l.length c), (.int .i64 (((p + d) : Nat) : Int))] 161 (0, 0)) ∧ wr.heap[b1]? = some (.cells #[(.bool false), (.int .u32 (0 : Int)), (.int .u32 (0 : Int)), (.int .u32 (0 : Int)), (.int .u32 (0 : Int)), (.slice none 0 0)] 37 (0, 0)) ∧ wr.heap[b2]? = some (.cells #[(.bool true), (.int .u32 x1), (.int .u32 x2), (.int .u32 x3), (.int .u32 x4), (.slice rna nl.length rnc)] 37 (0, 0)) ∧ (StD a1 a2 a3 a4 L r d x1 x2 x3 x4 rna rnc nl) ∧ (p + d ≤ l.length) ∧ (r ≤ 2)) ?_ ?_
  · skip
    exact ⟨_, 0, 0, 0, 0, 0, 0, ([] : List ByteArray), none, 0, rfl, hf.sub ⟨rfl, rfl, rfl, rfl, (some_int (by first | rfl | omega)), trivial⟩, hb, Row.nil, hr0, hks, hk1, hk3, (.inl ⟨rfl, rfl, rfl, rfl, rfl, rfl, rfl, rfl, rfl⟩), by omega, by omega⟩
  · skip
    clear hf fa; intro mq1 fa w5 hI KL1 hKL1
    clear hb
    clear hks
    clear hk1
    clear hk3
    clear hr0
    clear hrn0
    obtain ⟨r, d, x1, x2, x3, x4, nl, rna, rnc, hmq1, hf, hb, hrn, hR0, hkbs, hkb1, hkb2, hst, hpd, hr2⟩ := hI
    have hcrn := Row.caps hrn
    have hcR0 := Row.caps hR0
    refine wp_seq_k (fun K5 hK5 => ?_)
    refine wp_seq_k (fun K6 hK6 => ?_)
    refine wp_region_lit ?_
    refine sqv hf (r_move rfl) rfl rfl rfl ?_; clear hf fa; intro fa hf
    refine sqdt hf (d_callB (vs := [(.pointer (some ⟨bs, 0, none⟩))]) rfl Try.func116 (by kernel_rfl) (by kernel_rfl) (done_any bs base ((p + d)) a c l _ hkbs hR0 (by omega))) rfl rfl rfl ?_; clear hf fa; rintro fa _ w6 ⟨rfl, he4⟩ hf
    replace hkbs := blk_ext hkbs he4
    replace hkb1 := blk_ext hkb1 he4
    replace hkb2 := blk_ext hkb2 he4
    replace hrn := Row.ext hrn he4
    replace hR0 := Row.ext hR0 he4
    replace hb := hb.trans (Below.mono he4 hb.size)
    refine sqv hf (r_not rfl) rfl rfl rfl ?_; clear hf fa; intro fa hf
    apply wpList_nil
    (try simp only [Exit.then, Exit.inBlock, ↓reduceIte, Nat.reduceEqDiff])
    refine hK6 _ _ ?_
    refine wp_cond_split (t := (!(decide (((l.length : Nat) : Int) - ((((p + d)) : Nat) : Int) = (0 : Int))))) (hf.ev rfl) (fun hqt16_1 => ?_) (fun hqt16_1 => ?_)
    · have hqt16_1b := hqt16_1
      try simp only [decide_eq_true_eq, Bool.and_eq_true, Bool.or_eq_true, Bool.not_eq_true', decide_eq_false_iff_not, ne_eq, Bool.not_eq_true] at hqt16_1
      refine wp_skip ?_
      (try simp only [Exit.then, Exit.inBlock, ↓reduceIte, Nat.reduceEqDiff])
      refine hK5 _ _ ?_
      refine wp_block ?_
      refine wp_seq_k (fun K7 hK7 => ?_)
      have hmore : p + d < l.length := by omega
      obtain ⟨hr01, X, hX, hAX⟩ := StD_at hst hA hpe hmore
      have hXb : X.length ≤ 10000 := by rw [hX]; unfold bodyD; split; omega; omega
      have hX6 : ∀ y ∈ X, 0 ≤ y ∧ y < 256 := by rw [hX]; unfold bodyD; split; exact infoL_rng; exact needL_rng L
      have hXm : X.length ≤ 1000000 := by omega
      have hXu := uL_len X.length (by omega)
      have hA1 := At.tail hAX
      have hA2 : At l (p + d + 1) (uL X.length) := At.fst (show At l (p + d + 1) (uL X.length ++ X) from hA1)
      have hA3 : At l (p + d + 1 + (uL X.length).length) X := At.snd (show At l (p + d + 1) (uL X.length ++ X) from hA1)
      have hle3 := hA3.le
      have hr1 : r ≤ 1 := by omega
      refine wp_region_lit ?_
      refine sqv hf (r_move rfl) rfl rfl rfl ?_; clear hf fa; intro fa hf
      refine sqdt hf (d_callB (vs := [(.pointer (some ⟨bs, 0, none⟩))]) rfl Try.func126 (by kernel_rfl) (by kernel_rfl) (at_any bs base ((p + d)) a c l _ hkbs hR0 (by omega))) rfl rfl rfl ?_; clear hf fa; rintro fa _ w7 ⟨rfl, he5⟩ hf
      replace hkbs := blk_ext hkbs he5
      replace hkb1 := blk_ext hkb1 he5
      replace hkb2 := blk_ext hkb2 he5
      replace hrn := Row.ext hrn he5
      replace hR0 := Row.ext hR0 he5
      replace hb := hb.trans (Below.mono he5 hb.size)
      refine sqv hf (r_assign rfl) rfl rfl rfl ?_; clear hf fa; intro fa hf
      apply wpList_nil
      (try simp only [Exit.then, Exit.inBlock, ↓reduceIte, Nat.reduceEqDiff])
      refine hK7 _ _ ?_
      refine wp_seq_k (fun K8 hK8 => ?_)
      refine wp_region_lit ?_
      refine sqv hf (r_move rfl) rfl rfl rfl ?_; clear hf fa; intro fa hf
      refine sqdt hf (d_callW (v := (.int .u8 (((r + 1 : Nat) : Int)))) (b := bs) (T := 161) (cs := #[(.slice a l.length c), (.int .i64 (((((p + d)) + 1) : Nat) : Int))]) (vs := [(.pointer (some ⟨bs, 0, none⟩))]) rfl Try.func61 (by kernel_rfl) (by kernel_rfl) (sbyte_any bs base ((p + d)) a c l _ hkbs hR0 (by omega) ((r + 1 : Nat) : Int) (At.head hAX))) rfl rfl rfl ?_; clear hf fa; rintro fa _ w8 ⟨rfl, hk4, hg2⟩ hf
      replace hkb1 := blk_grown hkb1 hg2 (by omega)
      replace hkb2 := blk_grown hkb2 hg2 (by omega)
      replace hrn := Row.grown hrn hg2 (Row.ne_type hrn hkbs rfl)
      replace hR0 := Row.grown hR0 hg2 (Row.ne_type hR0 hkbs rfl)
      replace hb := hb.wrote hg2 hb.size (.inl (by simp only [List.mem_cons, eq_self, true_or, or_true]))
      refine sqdt hf (d_alloc (z := (.int .u8 (0 : Int))) (cs := #[(.int .u8 (0 : Int))]) (by kernel_rfl) rfl) rfl rfl rfl ?_; clear hf fa; rintro fa _ w9 ⟨b3, rfl, hle3, hk5, he6⟩ hf
      have hBb3 : w.heap.size ≤ b3 := Nat.le_trans hb.size hle3
      have : bs < b3 := Nat.lt_of_lt_of_le (blk_lt hk4) hle3
      have : b1 < b3 := Nat.lt_of_lt_of_le (blk_lt hkb1) hle3
      have : b2 < b3 := Nat.lt_of_lt_of_le (blk_lt hkb2) hle3
      have hnr1 : (Value.slice a (l.length) c).ownBlock ≠ some b3 := fun hq => by have := (Row.lt hR0 _ hq).2; omega
      have hnl1 : ∀ q, (Value.slice a (l.length) c).ownBlock = some q → q < b3 := fun q hq => Nat.lt_of_lt_of_le (Row.lt hR0 q hq).2 hle3
      replace hk4 := blk_ext hk4 he6
      replace hkb1 := blk_ext hkb1 he6
      replace hkb2 := blk_ext hkb2 he6
      replace hrn := Row.ext hrn he6
      replace hR0 := Row.ext hR0 he6
      replace hb := hb.trans (Below.mono he6 hb.size)
      refine sqn hf (d_storeK (T := 5) (v := (.int .u8 (((r + 1 : Nat) : Int)))) (cs := #[(.int .u8 (0 : Int))]) (cs' := #[(.int .u8 (((r + 1 : Nat) : Int)))]) rfl rfl (by kernel_rfl) (by kernel_rfl) hk5 (by kernel_rfl) (by kernel_rfl)) rfl rfl ?_; clear hf fa; rintro fa _ w10 ⟨hk6, hg3⟩ hf
      replace hk4 := blk_grown hk4 hg3 (by omega)
      replace hkb1 := blk_grown hkb1 hg3 (by omega)
      replace hkb2 := blk_grown hkb2 hg3 (by omega)
      replace hrn := Row.grown hrn hg3 (Row.ne_type hrn hk5 rfl)
      replace hR0 := Row.grown hR0 hg3 hnr1
      replace hb := hb.wrote hg3 hb.size (.inr hBb3)
      apply wpList_nil
      (try simp only [Exit.then, Exit.inBlock, ↓reduceIte, Nat.reduceEqDiff])
      refine hK8 _ _ ?_
      refine wp_seq_k (fun K9 hK9 => ?_)
      refine wp_region_lit ?_
      refine sqv hf (r_load (v := (.int .u8 (((r + 1 : Nat) : Int)))) rfl Try.underlying5 rfl (cell_blk hk6 rfl)) rfl rfl rfl ?_; clear hf fa; intro fa hf
      refine sqv hf (r_move rfl) rfl rfl rfl ?_; clear hf fa; intro fa hf
      refine sqv hf (r_add (C := (((r : Nat) : Int) + (1 : Int))) rfl rfl (by rw [IntKind.wrap_u8]; omega)) rfl rfl rfl ?_; clear hf fa; intro fa hf
      refine sqv hf (r_eq rfl rfl) rfl rfl rfl ?_; clear hf fa; intro fa hf
      refine sqv hf (r_move rfl) rfl rfl rfl ?_; clear hf fa; intro fa hf
      refine sqgT (act := (decide ((((r + 1 : Nat) : Int)) = (((r : Nat) : Int) + (1 : Int))))) (ag := true) (c := (decide ((((r + 1 : Nat) : Int)) = (((r : Nat) : Int) + (1 : Int))))) (v := (.int .u8 (((r + 1 : Nat) : Int)))) hf rfl rfl rfl (fun hact => (r_load (v := (.int .u8 (((r + 1 : Nat) : Int)))) rfl Try.underlying5 rfl (cell_blk hk6 rfl))) rfl rfl ?_; clear hf fa; intro fa hf
      refine sqgT (act := (decide ((((r + 1 : Nat) : Int)) = (((r : Nat) : Int) + (1 : Int))))) (ag := true) (c := (decide ((((r + 1 : Nat) : Int)) = (((r : Nat) : Int) + (1 : Int))))) (v := (.bool (decide ((((r + 1 : Nat) : Int)) ≤ (2 : Int))))) hf rfl rfl rfl (fun hact => (r_le (gb_ev hact rfl) rfl)) rfl rfl ?_; clear hf fa; intro fa hf
      refine sqv hf (r_pickA (b := (decide ((((r + 1 : Nat) : Int)) = (((r : Nat) : Int) + (1 : Int))))) (e := (decide ((((r + 1 : Nat) : Int)) ≤ (2 : Int)))) rfl rfl rfl) rfl rfl rfl ?_; clear hf fa; intro fa hf
      refine sqv hf (r_move rfl) rfl rfl rfl ?_; clear hf fa; intro fa hf
      refine sqdt hf (d_callB (vs := [(.bool ((decide ((((r + 1 : Nat) : Int)) = (((r : Nat) : Int) + (1 : Int)))) && (decide ((((r + 1 : Nat) : Int)) ≤ (2 : Int))))), (.int .i64 (15 : Int)), (.int .i64 ((((p + d)) : Nat) : Int))]) rfl Try.func118 (by kernel_rfl) (by kernel_rfl) (unless_any ((decide ((((r + 1 : Nat) : Int)) = (((r : Nat) : Int) + (1 : Int)))) && (decide ((((r + 1 : Nat) : Int)) ≤ (2 : Int)))) (15 : Int) ((((p + d)) : Nat) : Int) _ (by first | rfl | assumption | (simp; done) | (simp; omega)))) rfl rfl rfl ?_; clear hf fa; rintro fa _ w11 ⟨rfl, he7⟩ hf
      replace hk4 := blk_ext hk4 he7
      replace hkb1 := blk_ext hkb1 he7
      replace hkb2 := blk_ext hkb2 he7
      replace hk6 := blk_ext hk6 he7
      replace hrn := Row.ext hrn he7
      replace hR0 := Row.ext hR0 he7
      replace hb := hb.trans (Below.mono he7 hb.size)
      apply wpList_nil
      (try simp only [Exit.then, Exit.inBlock, ↓reduceIte, Nat.reduceEqDiff])
      refine hK9 _ _ ?_
      refine wp_seq_k (fun K10 hK10 => ?_)
      refine wp_region_lit ?_
      refine sqv hf (r_load (v := (.int .u8 (((r + 1 : Nat) : Int)))) rfl Try.underlying5 rfl (cell_blk hk6 rfl)) rfl rfl rfl ?_; clear hf fa; intro fa hf
      refine sqv hf (r_assign rfl) rfl rfl rfl ?_; clear hf fa; intro fa hf
      apply wpList_nil
      (try simp only [Exit.then, Exit.inBlock, ↓reduceIte, Nat.reduceEqDiff])
      refine hK10 _ _ ?_
      refine wp_seq_k (fun K11 hK11 => ?_)
      refine wp_region_lit ?_
      refine sqv hf (r_move rfl) rfl rfl rfl ?_; clear hf fa; intro fa hf
      refine sqdt hf (d_callW (v := (.int .u32 ((X.length : Nat) : Int))) (b := bs) (T := 161) (cs := #[(.slice a l.length c), (.int .i64 (((((((p + d)) + 1)) + (uL X.length).length) : Nat) : Int))]) (vs := [(.pointer (some ⟨bs, 0, none⟩))]) rfl Try.func121 (by kernel_rfl) (by kernel_rfl) (index_any bs base ((((p + d)) + 1)) a c l _ hk4 hR0 (by omega) hb6 hlm X.length hA2 (by omega))) rfl rfl rfl ?_; clear hf fa; rintro fa _ w12 ⟨rfl, hk7, hg4⟩ hf
      replace hkb1 := blk_grown hkb1 hg4 (by omega)
      replace hkb2 := blk_grown hkb2 hg4 (by omega)
      replace hk6 := blk_grown hk6 hg4 (by omega)
      replace hrn := Row.grown hrn hg4 (Row.ne_type hrn hk4 rfl)
      replace hR0 := Row.grown hR0 hg4 (Row.ne_type hR0 hk4 rfl)
      replace hb := hb.wrote hg4 hb.size (.inl (by simp only [List.mem_cons, eq_self, true_or, or_true]))
      refine sqv hf (r_assign rfl) rfl rfl rfl ?_; clear hf fa; intro fa hf
      apply wpList_nil
      (try simp only [Exit.then, Exit.inBlock, ↓reduceIte, Nat.reduceEqDiff])
      refine hK11 _ _ ?_
      refine wp_seq_k (fun K12 hK12 => ?_)
      refine wp_region_lit ?_
      refine sqv hf (r_move rfl) rfl rfl rfl ?_; clear hf fa; intro fa hf
      refine sqv hf (r_conv (C := ((X.length : Nat) : Int)) rfl Try.underlying24 Try.underlying55 (by rw [IntKind.wrap_u64]; omega)) rfl rfl rfl ?_; clear hf fa; intro fa hf
      refine sqv hf (r_move rfl) rfl rfl rfl ?_; clear hf fa; intro fa hf
      refine sqdt hf (d_callB (vs := [(.pointer (some ⟨bs, 0, none⟩))]) rfl Try.func67 (by kernel_rfl) (by kernel_rfl) (left_any bs base ((((((p + d)) + 1)) + (uL X.length).length)) a c l _ hk7 hR0 (by omega))) rfl rfl rfl ?_; clear hf fa; rintro fa _ w13 ⟨rfl, he8⟩ hf
      replace hk7 := blk_ext hk7 he8
      replace hkb1 := blk_ext hkb1 he8
      replace hkb2 := blk_ext hkb2 he8
      replace hk6 := blk_ext hk6 he8
      replace hrn := Row.ext hrn he8
      replace hR0 := Row.ext hR0 he8
      replace hb := hb.trans (Below.mono he8 hb.size)
      refine sqv hf (r_conv (C := (((l.length : Nat) : Int) - ((((((((p + d)) + 1)) + (uL X.length).length)) : Nat) : Int))) rfl Try.underlying3 Try.underlying55 (by rw [IntKind.wrap_u64]; omega)) rfl rfl rfl ?_; clear hf fa; intro fa hf
      refine sqv hf (r_le rfl rfl) rfl rfl rfl ?_; clear hf fa; intro fa hf
      refine sqv hf (r_move rfl) rfl rfl rfl ?_; clear hf fa; intro fa hf
      refine sqdt hf (d_callB (vs := [(.pointer (some ⟨bs, 0, none⟩))]) rfl Try.func126 (by kernel_rfl) (by kernel_rfl) (at_any bs base ((((((p + d)) + 1)) + (uL X.length).length)) a c l _ hk7 hR0 (by omega))) rfl rfl rfl ?_; clear hf fa; rintro fa _ w14 ⟨rfl, he9⟩ hf
      replace hk7 := blk_ext hk7 he9
      replace hkb1 := blk_ext hkb1 he9
      replace hkb2 := blk_ext hkb2 he9
      replace hk6 := blk_ext hk6 he9
      replace hrn := Row.ext hrn he9
      replace hR0 := Row.ext hR0 he9
      replace hb := hb.trans (Below.mono he9 hb.size)
      refine sqdt hf (d_callB (vs := [(.bool (decide (((X.length : Nat) : Int) ≤ (((l.length : Nat) : Int) - ((((((((p + d)) + 1)) + (uL X.length).length)) : Nat) : Int))))), (.int .i64 (2 : Int)), (.int .i64 ((((((((p + d)) + 1)) + (uL X.length).length)) : Nat) : Int))]) rfl Try.func118 (by kernel_rfl) (by kernel_rfl) (unless_any (decide (((X.length : Nat) : Int) ≤ (((l.length : Nat) : Int) - ((((((((p + d)) + 1)) + (uL X.length).length)) : Nat) : Int)))) (2 : Int) ((((((((p + d)) + 1)) + (uL X.length).length)) : Nat) : Int) _ (by first | rfl | assumption | (simp; done) | (simp; omega)))) rfl rfl rfl ?_; clear hf fa; rintro fa _ w15 ⟨rfl, he10⟩ hf
      replace hk7 := blk_ext hk7 he10
      replace hkb1 := blk_ext hkb1 he10
      replace hkb2 := blk_ext hkb2 he10
      replace hk6 := blk_ext hk6 he10
      replace hrn := Row.ext hrn he10
      replace hR0 := Row.ext hR0 he10
      replace hb := hb.trans (Below.mono he10 hb.size)
      apply wpList_nil
      (try simp only [Exit.then, Exit.inBlock, ↓reduceIte, Nat.reduceEqDiff])
      refine hK12 _ _ ?_
      refine wp_seq_k (fun K13 hK13 => ?_)
      refine wp_region_lit ?_
      refine sqv hf (r_move rfl) rfl rfl rfl ?_; clear hf fa; intro fa hf
      refine sqdt hf (d_callB (vs := [(.pointer (some ⟨bs, 0, none⟩))]) rfl Try.func126 (by kernel_rfl) (by kernel_rfl) (at_any bs base ((((((p + d)) + 1)) + (uL X.length).length)) a c l _ hk7 hR0 (by omega))) rfl rfl rfl ?_; clear hf fa; rintro fa _ w16 ⟨rfl, he11⟩ hf
      replace hk7 := blk_ext hk7 he11
      replace hkb1 := blk_ext hkb1 he11
      replace hkb2 := blk_ext hkb2 he11
      replace hk6 := blk_ext hk6 he11
      replace hrn := Row.ext hrn he11
      replace hR0 := Row.ext hR0 he11
      replace hb := hb.trans (Below.mono he11 hb.size)
      refine sqv hf (r_assign rfl) rfl rfl rfl ?_; clear hf fa; intro fa hf
      apply wpList_nil
      (try simp only [Exit.then, Exit.inBlock, ↓reduceIte, Nat.reduceEqDiff])
      refine hK13 _ _ ?_
      refine wp_seq_k (fun K14 hK14 => ?_)
      refine wp_region_lit ?_
      refine sqv hf (r_move rfl) rfl rfl rfl ?_; clear hf fa; intro fa hf
      refine sqv hf (r_move rfl) rfl rfl rfl ?_; clear hf fa; intro fa hf
      refine sqv hf (r_conv (C := ((X.length : Nat) : Int)) rfl Try.underlying24 Try.underlying3 (by rw [IntKind.wrap_i64]; omega)) rfl rfl rfl ?_; clear hf fa; intro fa hf
      refine sqdt hf (d_callX (vs := [(.pointer (some ⟨bs, 0, none⟩)), (.int .i64 ((X.length : Nat) : Int))]) rfl Try.func62 (by kernel_rfl) (by kernel_rfl) (ssub_any bs base ((((((p + d)) + 1)) + (uL X.length).length)) a c l _ hk7 hR0 (by omega) X hA3 (by omega))) rfl rfl rfl ?_; clear hf fa; rintro fa _ w17 ⟨sb1, sa1, sc1, rfl, hle4, hk8, hr1, hk9, hg5⟩ hf
      have hBsb1 : w.heap.size ≤ sb1 := Nat.le_trans hb.size hle4
      have : bs < sb1 := Nat.lt_of_lt_of_le (blk_lt hk7) hle4
      have : b1 < sb1 := Nat.lt_of_lt_of_le (blk_lt hkb1) hle4
      have : b2 < sb1 := Nat.lt_of_lt_of_le (blk_lt hkb2) hle4
      have : b3 < sb1 := Nat.lt_of_lt_of_le (blk_lt hk6) hle4
      replace hr1 := Row.rebase hr1 hb.size
      replace hkb1 := blk_grown hkb1 hg5 (by omega)
      replace hkb2 := blk_grown hkb2 hg5 (by omega)
      replace hk6 := blk_grown hk6 hg5 (by omega)
      replace hrn := Row.grown hrn hg5 (Row.ne_type hrn hk7 rfl)
      replace hR0 := Row.grown hR0 hg5 (Row.ne_type hR0 hk7 rfl)
      replace hb := hb.wrote hg5 hb.size (.inl (by simp only [List.mem_cons, eq_self, true_or, or_true]))
      refine sqdt hf (d_alloc (z := (.pointer none)) (cs := #[(.pointer none)]) (by kernel_rfl) rfl) rfl rfl rfl ?_; clear hf fa; rintro fa _ w18 ⟨b4, rfl, hle5, hk10, he12⟩ hf
      have hBb4 : w.heap.size ≤ b4 := Nat.le_trans hb.size hle5
      have : bs < b4 := Nat.lt_of_lt_of_le (blk_lt hk9) hle5
      have : b1 < b4 := Nat.lt_of_lt_of_le (blk_lt hkb1) hle5
      have : b2 < b4 := Nat.lt_of_lt_of_le (blk_lt hkb2) hle5
      have : b3 < b4 := Nat.lt_of_lt_of_le (blk_lt hk6) hle5
      have : sb1 < b4 := Nat.lt_of_lt_of_le (blk_lt hk8) hle5
      replace hk9 := blk_ext hk9 he12
      replace hkb1 := blk_ext hkb1 he12
      replace hkb2 := blk_ext hkb2 he12
      replace hk6 := blk_ext hk6 he12
      replace hk8 := blk_ext hk8 he12
      replace hrn := Row.ext hrn he12
      replace hR0 := Row.ext hR0 he12
      replace hr1 := Row.ext hr1 he12
      replace hb := hb.trans (Below.mono he12 hb.size)
      refine sqn hf (d_storeK (T := 87) (v := (.pointer (some ⟨sb1, 0, none⟩))) (cs := #[(.pointer none)]) (cs' := #[(.pointer (some ⟨sb1, 0, none⟩))]) rfl rfl (by kernel_rfl) (by kernel_rfl) hk10 (by kernel_rfl) (by kernel_rfl)) rfl rfl ?_; clear hf fa; rintro fa _ w19 ⟨hk11, hg6⟩ hf
      replace hk9 := blk_grown hk9 hg6 (by omega)
      replace hkb1 := blk_grown hkb1 hg6 (by omega)
      replace hkb2 := blk_grown hkb2 hg6 (by omega)
      replace hk6 := blk_grown hk6 hg6 (by omega)
      replace hk8 := blk_grown hk8 hg6 (by omega)
      replace hrn := Row.grown hrn hg6 (Row.ne_type hrn hk10 rfl)
      replace hR0 := Row.grown hR0 hg6 (Row.ne_type hR0 hk10 rfl)
      replace hr1 := Row.grown hr1 hg6 (Row.ne_type hr1 hk10 rfl)
      replace hb := hb.wrote hg6 hb.size (.inr hBb4)
      apply wpList_nil
      (try simp only [Exit.then, Exit.inBlock, ↓reduceIte, Nat.reduceEqDiff])
      refine hK14 _ _ ?_
      skip
      by_cases hsp1 : r = 0
      · have hsp1b : decide (r = 0) = true := decide_eq_true hsp1
        have hr0 : r = 0 := hsp1
        obtain ⟨hs1, hs0⟩ : (x1 = 0 ∧ x2 = 0 ∧ x3 = 0 ∧ x4 = 0) ∧ (rna = none ∧ rnc = 0 ∧ nl = []) := by
          rcases hst with ⟨_, _, e1, e2, e3, e4, e5, e6, e7⟩ | ⟨h, _⟩ | ⟨h, _⟩
          · exact ⟨⟨e1, e2, e3, e4⟩, e5, e6, e7⟩
          · omega
          · omega
        have hd0 : d = 0 := by
          rcases hst with ⟨_, h, _⟩ | ⟨h, _⟩ | ⟨h, _⟩
          · exact h
          · omega
          · omega
        have hXi : X = infoL a1 a2 a3 a4 := by rw [hX]; unfold bodyD; rw [if_pos hr0]
        have hXl := congrArg List.length hXi
        have hXu2 : (uL X.length).length = (uL (infoL a1 a2 a3 a4).length).length := by rw [hXi]
        have hAi : At X 0 (infoL a1 a2 a3 a4) := (At.all X).mv rfl hXi
        have hpi : 0 + (infoL a1 a2 a3 a4).length = X.length := by omega
        refine wp_region_lit ?_
        refine sqv hf (r_move rfl) rfl rfl rfl ?_; clear hf fa; intro fa hf
        refine sqv hf (r_makeFunc (vs := [(.pointer (some ⟨b3, 0, none⟩)), (.pointer (some ⟨b4, 0, none⟩)), (.pointer (some ⟨b2, 0, none⟩))]) rfl) rfl rfl rfl ?_; clear hf fa; intro fa hf
        have hki : w19.heap[b3]? = some (.cells #[.int .u8 1] 5 (0, 0)) := by have h := hk6; rw [show ((r + 1 : Nat) : Int) = 1 by omega] at h; exact h
        have hkd : w19.heap[b2]? = some (.cells #[(.bool true), (.int .u32 0), (.int .u32 0), (.int .u32 0), (.int .u32 0), (.slice none 0 0)] 37 (0, 0)) := by have h := hkb2; rw [hs1.1, hs1.2.1, hs1.2.2.1, hs1.2.2.2, hs0.1, hs0.2.1, hs0.2.2] at h; exact h
        have hfin : ∀ w' : World, w'.heap[b2]? = some (.cells #[(.bool true), (.int .u32 a1), (.int .u32 a2), (.int .u32 a3), (.int .u32 a4), (.slice none 0 0)] 37 (0, 0)) → w'.heap[b2]? = some (.cells #[(.bool true), (.int .u32 a1), (.int .u32 a2), (.int .u32 a3), (.int .u32 a4), (.slice rna nl.length rnc)] 37 (0, 0)) := fun w' h => by rw [hs0.1, hs0.2.1, hs0.2.2]; exact h
        have hszC := hb.size
        refine sqdt hf (d_callR (vs := [(.int .i64 ((((((((p + d)) + 1)) + (uL X.length).length)) : Nat) : Int)), (.func (.func 137) #[] #[(.pointer (some ⟨b3, 0, none⟩)), (.pointer (some ⟨b4, 0, none⟩)), (.pointer (some ⟨b2, 0, none⟩))])]) rfl Try.func136 (by kernel_rfl) (by kernel_rfl) (within_ok ((((((((p + d)) + 1)) + (uL X.length).length)) : Nat) : Int) 137 _ _ [b2, sb1] (fun B w' => w'.heap[b2]? = some (.cells #[(.bool true), (.int .u32 a1), (.int .u32 a2), (.int .u32 a3), (.int .u32 a4), (.slice rna nl.length rnc)] 37 (0, 0))) (enters Try.func137 (by kernel_rfl) (by kernel_rfl)) (by intro q hq; have := blk_lt hk8; have := blk_lt hkb2; simp only [List.mem_cons, List.not_mem_nil, or_false] at hq; rcases hq with rfl | rfl <;> omega) (fun _ _ _ h hb => blk_ext h hb) (fun w1 hw1 hlt => (c137a_any b3 b4 b2 sb1 w.heap.size 0 sa1 sc1 X w1 (blk_ext hk8 hw1) (Row.ext hr1 hw1) (by omega) hX6 hXm a1 a2 a3 a4 h1 h2 h3 h4 hAi hpi (blk_ext hki hw1) (blk_ext hk11 hw1) (blk_ext hkd hw1) (by omega) (by omega) (by omega)).mono (fun e w' h => (by obtain ⟨h0, h1, h2⟩ := h; exact ⟨h0, h2, hfin _ h1⟩))))) rfl rfl rfl ?_; clear hf fa; rintro fa _ w20 ⟨rfl, hks1, B1, hB1, hk12⟩ hf
        replace hk9 := blk_ks hk9 hks1 (by simp only [List.mem_cons, List.not_mem_nil, or_false]; omega)
        replace hkb1 := blk_ks hkb1 hks1 (by simp only [List.mem_cons, List.not_mem_nil, or_false]; omega)
        replace hk6 := blk_ks hk6 hks1 (by simp only [List.mem_cons, List.not_mem_nil, or_false]; omega)
        replace hk11 := blk_ks hk11 hks1 (by simp only [List.mem_cons, List.not_mem_nil, or_false]; omega)
        replace hrn := Row.ks hrn hks1 (fun q hq => by simp only [List.mem_cons, List.not_mem_nil, or_false] at hq; rcases hq with rfl | rfl; exact (Row.ne_type hrn hkb2 rfl); exact (Row.ne_type hrn hk8 rfl))
        replace hR0 := Row.ks hR0 hks1 (fun q hq => by simp only [List.mem_cons, List.not_mem_nil, or_false] at hq; rcases hq with rfl | rfl; exact (Row.ne_type hR0 hkb2 rfl); exact (Row.ne_type hR0 hk8 rfl))
        replace hr1 := Row.ks hr1 hks1 (fun q hq => by simp only [List.mem_cons, List.not_mem_nil, or_false] at hq; rcases hq with rfl | rfl; exact (Row.ne_type hr1 hkb2 rfl); exact (Row.ne_type hr1 hk8 rfl))
        replace hb := hb.many hks1 (by intro q hq; simp only [List.mem_cons, List.not_mem_nil, or_false] at hq ⊢; omega) hb.size
        apply wpList_nil
        (try simp only [Exit.then, Exit.inBlock, ↓reduceIte, Nat.reduceEqDiff])
        have hP := partL_len (t := 1) (X := infoL a1 a2 a3 a4) (by omega)
        replace hk9 := pos_eq hk9 (show ((((((((p + d)) + 1)) + (uL X.length).length)) + X.length)) = p + (partL 1 (infoL a1 a2 a3 a4)).length by omega)
        refine hKL1 _ _ _ (by omega) ⟨(r + 1), (partL 1 (infoL a1 a2 a3 a4)).length, a1, a2, a3, a4, nl, rna, rnc, rfl, hf.sub ⟨rfl, rfl, rfl, rfl, (some_int (by first | rfl | omega)), trivial⟩, hb, (Row.relen hrn), hR0, hk9, hkb1, hk12, (.inr (.inl ⟨by omega, rfl, rfl, rfl, rfl, rfl, hs0.1, hs0.2.1, hs0.2.2⟩)), by omega, by omega⟩
      · have hsp1b : decide (r = 0) = false := decide_eq_false hsp1
        have hr0 : r = 1 := by omega
        obtain ⟨hs1, hs0⟩ : (x1 = a1 ∧ x2 = a2 ∧ x3 = a3 ∧ x4 = a4) ∧ (rna = none ∧ rnc = 0 ∧ nl = []) := by
          rcases hst with ⟨h, _⟩ | ⟨_, _, e1, e2, e3, e4, e5, e6, e7⟩ | ⟨h, _⟩
          · omega
          · exact ⟨⟨e1, e2, e3, e4⟩, e5, e6, e7⟩
          · omega
        have hd0 : d = (partL 1 (infoL a1 a2 a3 a4)).length := by
          rcases hst with ⟨h, _⟩ | ⟨_, h, _⟩ | ⟨h, _⟩
          · omega
          · exact h
          · omega
        have hL0 : L.length ≠ 0 := by rcases hr01 with h | h; omega; exact h.2
        have hL0' : 0 < L.length := by omega
        have hXi : X = needL L := by rw [hX]; unfold bodyD; rw [if_neg (by omega)]
        have hXl := congrArg List.length hXi
        have hXu2 : (uL X.length).length = (uL (needL L).length).length := by rw [hXi]
        have hAi : At X 0 (needL L) := (At.all X).mv rfl hXi
        have hpi : 0 + (needL L).length = X.length := by omega
        refine wp_region_lit ?_
        refine sqv hf (r_move rfl) rfl rfl rfl ?_; clear hf fa; intro fa hf
        refine sqv hf (r_makeFunc (vs := [(.pointer (some ⟨b3, 0, none⟩)), (.pointer (some ⟨b4, 0, none⟩)), (.pointer (some ⟨b2, 0, none⟩))]) rfl) rfl rfl rfl ?_; clear hf fa; intro fa hf
        have hki : w19.heap[b3]? = some (.cells #[.int .u8 2] 5 (0, 0)) := by have h := hk6; rw [show ((r + 1 : Nat) : Int) = 2 by omega] at h; exact h
        have hkd : w19.heap[b2]? = some (.cells #[(.bool true), (.int .u32 a1), (.int .u32 a2), (.int .u32 a3), (.int .u32 a4), (.slice none 0 0)] 37 (0, 0)) := by have h := hkb2; rw [hs1.1, hs1.2.1, hs1.2.2.1, hs1.2.2.2, hs0.1, hs0.2.1, hs0.2.2] at h; exact h
        have hszC := hb.size
        refine sqdt hf (d_callR (vs := [(.int .i64 ((((((((p + d)) + 1)) + (uL X.length).length)) : Nat) : Int)), (.func (.func 137) #[] #[(.pointer (some ⟨b3, 0, none⟩)), (.pointer (some ⟨b4, 0, none⟩)), (.pointer (some ⟨b2, 0, none⟩))])]) rfl Try.func136 (by kernel_rfl) (by kernel_rfl) (within_ok ((((((((p + d)) + 1)) + (uL X.length).length)) : Nat) : Int) 137 _ _ [b2, sb1] (fun B w' => ∃ (na : Option Addr) (nc : Nat), w'.heap[b2]? = some (.cells #[(.bool true), (.int .u32 a1), (.int .u32 a2), (.int .u32 a3), (.int .u32 a4), (.slice na L.length nc)] 37 (0, 0)) ∧ Row 1 vStr 9 B w' (.slice na L.length nc) L) (enters Try.func137 (by kernel_rfl) (by kernel_rfl)) (by intro q hq; have := blk_lt hk8; have := blk_lt hkb2; simp only [List.mem_cons, List.not_mem_nil, or_false] at hq; rcases hq with rfl | rfl <;> omega) (fun _ _ _ h hb => (by obtain ⟨na, nc, h1, h2⟩ := h; exact ⟨na, nc, blk_ext h1 hb, h2.ext hb⟩)) (fun w1 hw1 hlt => (c137b_any b3 b4 b2 sb1 w.heap.size 0 sa1 sc1 X w1 (blk_ext hk8 hw1) (Row.ext hr1 hw1) (by omega) hX6 hXm a1 a2 a3 a4 h1 h2 h3 h4 L hfw hL0' hgd hAi hpi (blk_ext hki hw1) (blk_ext hk11 hw1) (blk_ext hkd hw1) (by omega) (by omega) (by omega)).mono (fun e w' h => (by obtain ⟨h0, na, nc, h1, h2, h3⟩ := h; exact ⟨h0, h3, na, nc, h1, h2⟩))))) rfl rfl rfl ?_; clear hf fa; rintro fa _ w21 ⟨rfl, hks2, B1, hB1, na, nc, hk13, hr3⟩ hf
        replace hk9 := blk_ks hk9 hks2 (by simp only [List.mem_cons, List.not_mem_nil, or_false]; omega)
        replace hkb1 := blk_ks hkb1 hks2 (by simp only [List.mem_cons, List.not_mem_nil, or_false]; omega)
        replace hk6 := blk_ks hk6 hks2 (by simp only [List.mem_cons, List.not_mem_nil, or_false]; omega)
        replace hk11 := blk_ks hk11 hks2 (by simp only [List.mem_cons, List.not_mem_nil, or_false]; omega)
        replace hR0 := Row.ks hR0 hks2 (fun q hq => by simp only [List.mem_cons, List.not_mem_nil, or_false] at hq; rcases hq with rfl | rfl; exact (Row.ne_type hR0 hkb2 rfl); exact (Row.ne_type hR0 hk8 rfl))
        replace hr1 := Row.ks hr1 hks2 (fun q hq => by simp only [List.mem_cons, List.not_mem_nil, or_false] at hq; rcases hq with rfl | rfl; exact (Row.ne_type hr1 hkb2 rfl); exact (Row.ne_type hr1 hk8 rfl))
        replace hb := hb.many hks2 (by intro q hq; simp only [List.mem_cons, List.not_mem_nil, or_false] at hq ⊢; omega) hb.size
        replace hr3 := Row.rebase hr3 (show w.heap.size ≤ B1 by omega)
        apply wpList_nil
        (try simp only [Exit.then, Exit.inBlock, ↓reduceIte, Nat.reduceEqDiff])
        have hP := partL_len (t := 1) (X := infoL a1 a2 a3 a4) (by omega)
        have hP2 := partL_len (t := 2) (X := needL L) (by omega)
        have hel3 := hel2 hL0
        replace hk9 := pos_eq hk9 (show ((((((((p + d)) + 1)) + (uL X.length).length)) + X.length)) = p + ((partL 1 (infoL a1 a2 a3 a4)).length + (partL 2 (needL L)).length) by omega)
        refine hKL1 _ _ _ (by omega) ⟨(r + 1), ((partL 1 (infoL a1 a2 a3 a4)).length + (partL 2 (needL L)).length), a1, a2, a3, a4, L, na, nc, rfl, hf.sub ⟨rfl, rfl, rfl, rfl, (some_int (by first | rfl | omega)), trivial⟩, hb, (Row.relen hr3), hR0, hk9, hkb1, hk13, (.inr (.inr ⟨by omega, rfl, rfl, rfl, rfl, rfl, rfl, hL0⟩)), by omega, by omega⟩
    · have hqt16_1b := hqt16_1
      replace hqt16_1 := Bool.eq_false_iff.1 hqt16_1
      try simp only [ne_eq, decide_eq_true_eq, Bool.and_eq_true, Bool.or_eq_true, Bool.not_eq_true', decide_eq_false_iff_not] at hqt16_1
      refine wp_exit ?_
      (try simp only [Exit.then, Exit.inBlock, ↓reduceIte, Nat.reduceEqDiff])
      refine hK4 _ _ ?_
      refine wp_seq_k (fun K15 hK15 => ?_)
      obtain ⟨hf1, hf2, hf3, hf4, hf5, hf6, hf7⟩ := StD_end hst hpe (by omega) (by omega) (by omega)
      have hdr2 : (decide (drightP true x1 x2 x3 x4 nl = (0 : Int))) = true := decide_eq_true (by rw [hf1, hf2, hf3, hf4, hf5]; exact hdr)
      refine wp_region_lit ?_
      refine sqv hf (r_move rfl) rfl rfl rfl ?_; clear hf fa; intro fa hf
      refine sqv hf (r_gt rfl rfl) rfl rfl rfl ?_; clear hf fa; intro fa hf
      refine sqv hf (r_move rfl) rfl rfl rfl ?_; clear hf fa; intro fa hf
      refine sqdt hf (d_callB (vs := [(.bool (decide ((0 : Int) < ((r : Nat) : Int)))), (.int .i64 (15 : Int)), (.int .i64 ((p : Nat) : Int))]) rfl Try.func118 (by kernel_rfl) (by kernel_rfl) (unless_any (decide ((0 : Int) < ((r : Nat) : Int))) (15 : Int) ((p : Nat) : Int) _ (by first | rfl | assumption | (simp; done) | (simp; omega)))) rfl rfl rfl ?_; clear hf fa; rintro fa _ w22 ⟨rfl, he13⟩ hf
      replace hkbs := blk_ext hkbs he13
      replace hkb1 := blk_ext hkb1 he13
      replace hkb2 := blk_ext hkb2 he13
      replace hrn := Row.ext hrn he13
      replace hR0 := Row.ext hR0 he13
      replace hb := hb.trans (Below.mono he13 hb.size)
      apply wpList_nil
      (try simp only [Exit.then, Exit.inBlock, ↓reduceIte, Nat.reduceEqDiff])
      refine hK15 _ _ ?_
      refine wp_seq_k (fun K16 hK16 => ?_)
      refine wp_region_lit ?_
      refine sqv hf (r_loadA (cs := [(.bool true), (.int .u32 x1), (.int .u32 x2), (.int .u32 x3), (.int .u32 x4), (.slice rna nl.length rnc)]) rfl Try.underlying37 rfl (by kernel_rfl) (cellsAt_blk hkb2)) rfl rfl rfl ?_; clear hf fa; intro fa hf
      refine sqdt hf (d_callB (vs := [(.agg #[(.bool true), (.int .u32 x1), (.int .u32 x2), (.int .u32 x3), (.int .u32 x4), (.slice rna nl.length rnc)])]) rfl Try.func25 (by kernel_rfl) (by kernel_rfl) (dright_any true x1 x2 x3 x4 rna nl rnc _ (Row.rd (by intros; rfl) hrn) (by have := Row.caps hrn; omega) (by have := Row.caps hrn; omega) (by rw [hf5]; intro s hs; have := hfw.2 s hs; omega))) rfl rfl rfl ?_; clear hf fa; rintro fa _ w23 ⟨rfl, he14⟩ hf
      replace hkbs := blk_ext hkbs he14
      replace hkb1 := blk_ext hkb1 he14
      replace hkb2 := blk_ext hkb2 he14
      replace hrn := Row.ext hrn he14
      replace hR0 := Row.ext hR0 he14
      replace hb := hb.trans (Below.mono he14 hb.size)
      refine sqv hf (r_assign rfl) rfl rfl rfl ?_; clear hf fa; intro fa hf
      apply wpList_nil
      (try simp only [Exit.then, Exit.inBlock, ↓reduceIte, Nat.reduceEqDiff])
      refine hK16 _ _ ?_
      refine wp_seq_k (fun K17 hK17 => ?_)
      refine wp_region_lit ?_
      refine sqv hf (r_move rfl) rfl rfl rfl ?_; clear hf fa; intro fa hf
      refine sqv hf (r_eq rfl rfl) rfl rfl rfl ?_; clear hf fa; intro fa hf
      refine sqv hf (r_move rfl) rfl rfl rfl ?_; clear hf fa; intro fa hf
      refine sqv hf (r_move rfl) rfl rfl rfl ?_; clear hf fa; intro fa hf
      refine sqdt hf (d_callB (vs := [(.bool (decide (((drightP true x1 x2 x3 x4 nl)) = (0 : Int)))), (.int .i64 ((drightP true x1 x2 x3 x4 nl))), (.int .i64 ((p : Nat) : Int))]) rfl Try.func118 (by kernel_rfl) (by kernel_rfl) (unless_any (decide (((drightP true x1 x2 x3 x4 nl)) = (0 : Int))) ((drightP true x1 x2 x3 x4 nl)) ((p : Nat) : Int) _ (by first | rfl | assumption | (simp; done) | (simp; omega)))) rfl rfl rfl ?_; clear hf fa; rintro fa _ w24 ⟨rfl, he15⟩ hf
      replace hkbs := blk_ext hkbs he15
      replace hkb1 := blk_ext hkb1 he15
      replace hkb2 := blk_ext hkb2 he15
      replace hrn := Row.ext hrn he15
      replace hR0 := Row.ext hR0 he15
      replace hb := hb.trans (Below.mono he15 hb.size)
      apply wpList_nil
      (try simp only [Exit.then, Exit.inBlock, ↓reduceIte, Nat.reduceEqDiff])
      refine hK17 _ _ ?_
      refine wp_seq_k (fun K18 hK18 => ?_)
      refine wp_region_lit ?_
      refine sqv hf (r_loadA (cs := [(.bool true), (.int .u32 x1), (.int .u32 x2), (.int .u32 x3), (.int .u32 x4), (.slice rna nl.length rnc)]) rfl Try.underlying37 rfl (by kernel_rfl) (cellsAt_blk hkb2)) rfl rfl rfl ?_; clear hf fa; intro fa hf
      refine sqn hf (d_storeK (T := 37) (v := (.agg #[(.bool true), (.int .u32 x1), (.int .u32 x2), (.int .u32 x3), (.int .u32 x4), (.slice rna nl.length rnc)])) (cs := #[(.bool false), (.int .u32 (0 : Int)), (.int .u32 (0 : Int)), (.int .u32 (0 : Int)), (.int .u32 (0 : Int)), (.slice none 0 0)]) (cs' := #[(.bool true), (.int .u32 x1), (.int .u32 x2), (.int .u32 x3), (.int .u32 x4), (.slice rna nl.length rnc)]) rfl rfl (by kernel_rfl) (by kernel_rfl) hkb1 (by kernel_rfl) (by kernel_rfl)) rfl rfl ?_; clear hf fa; rintro fa _ w25 ⟨hk14, hg7⟩ hf
      replace hkbs := blk_grown hkbs hg7 (by omega)
      replace hkb2 := blk_grown hkb2 hg7 (by omega)
      replace hrn := Row.grown hrn hg7 (Row.ne_type hrn hkb1 rfl)
      replace hR0 := Row.grown hR0 hg7 (Row.ne_type hR0 hkb1 rfl)
      replace hb := hb.wrote hg7 hb.size (.inr hBb1)
      apply wpList_nil
      (try simp only [Exit.then, Exit.inBlock, ↓reduceIte, Nat.reduceEqDiff])
      refine hK18 _ _ ?_
      refine wp_ret ?_
      (try simp only [Exit.then, Exit.inBlock])
      refine retC hf rfl rfl hk14 Try.underlying37 rfl (by kernel_rfl) ?_
      subst hf1 hf2 hf3 hf4 hf5
      exact ⟨_, rfl, rna, rnc, rfl, hrn, pos_eq hkbs (by omega), hb.grown1⟩
end Go.Proofs.Ytcmdajkkdognfaa
