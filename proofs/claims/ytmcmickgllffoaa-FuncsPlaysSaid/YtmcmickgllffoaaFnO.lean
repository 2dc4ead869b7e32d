/- What is proved here: functions by numbers: a call at both. -/
import Derived.Test.YtmcmickgllffoaaFnN
import Derived.Test.YtmcmickgllffoaaKitW
namespace Go.Proofs.Ytmcmickgllffoaa
open Go.RowKit
set_option linter.unusedVariables false
set_option linter.unusedSimpArgs false
set_option maxHeartbeats 1000000 in
set_option maxRecDepth 100000 in
theorem made_B (t : Nat) (o m : Int) (w : World) (ht : t < 256) : Calls Try.prog 13 #[(.int .u8 ((t : Nat) : Int)), (.int .i64 o), (.int .u64 m)] w fun e w' => ∃ x, e = .returned x ∧ ∃ k, x = fnV (fT (kT t).1 (kT t).2 o k) ∧ w.heap.size ≤ k ∧ w'.heap[k]? = some (.cells (bodyCs m) 127 (0, 0)) ∧ Below w.heap.size w w' := by
  refine sx_enter (L := [(0, (.int .u8 ((t : Nat) : Int))), (1, (.int .i64 o)), (2, (.int .u64 m))]) Try.func13 rfl rfl rfl rfl (fun fa hf => ?_)
  have hb : Below w.heap.size w w := Below.refl _ _
  refine wp_seq_k (fun K1 hK1 => ?_)
  refine wp_region_lit ?_
  refine sqdt hf (d_alloc (z := (.agg #[(.string ⟨#[]⟩), (.string ⟨#[]⟩), (.int .i64 (0 : Int)), (.string ⟨#[]⟩), (.slice none 0 0), (.slice none 0 0), (.slice none 0 0)])) (cs := #[(.string ⟨#[]⟩), (.string ⟨#[]⟩), (.int .i64 (0 : Int)), (.string ⟨#[]⟩), (.slice none 0 0), (.slice none 0 0), (.slice none 0 0)]) (by kernel_rfl) rfl) rfl rfl rfl ?_; clear hf fa; rintro fa _ w1 ⟨b1, rfl, hle1, hk1, he1⟩ hf
  have hBb1 : w.heap.size ≤ b1 := Nat.le_trans hb.size hle1
  replace hb := hb.trans (Below.mono he1 hb.size)
  apply wpList_nil
  (try simp only [Exit.then, Exit.inBlock, ↓reduceIte, Nat.reduceEqDiff])
  refine hK1 _ _ ?_
  refine wp_seq_k (fun K2 hK2 => ?_)
  refine wp_region_lit ?_
  refine sqv hf (r_move rfl) rfl rfl rfl ?_; clear hf fa; intro fa hf
  refine sqdt hf (d_callB (vs := [(.int .u8 ((t : Nat) : Int))]) rfl Try.func65 (by kernel_rfl) (by kernel_rfl) (kind_any t _ ht)) rfl rfl rfl ?_; clear hf fa; rintro fa _ w2 ⟨rfl, he2⟩ hf
  replace hk1 := blk_ext hk1 he2
  replace hb := hb.trans (Below.mono he2 hb.size)
  refine sqv hf (r_move rfl) rfl rfl rfl ?_; clear hf fa; intro fa hf
  refine sqv hf (r_move rfl) rfl rfl rfl ?_; clear hf fa; intro fa hf
  refine sqv hf (r_build (vs := [(0, (.int .u8 (66 : Int))), (1, (.int .u64 m))]) (cs := #[(.int .u8 (66 : Int)), (.int .u64 m), (.int .u64 (0 : Int)), (.slice none 0 0)]) rfl (fun _ => by kernel_rfl)) rfl rfl rfl ?_; clear hf fa; intro fa hf
  refine sqv hf (r_build (vs := [(0, (.int .u8 (11 : Int)))]) (cs := #[(.int .u8 (11 : Int)), (.int .u64 (0 : Int)), (.int .u64 (0 : Int)), (.slice none 0 0)]) rfl (fun _ => by kernel_rfl)) rfl rfl rfl ?_; clear hf fa; intro fa hf
  refine sqdt hf (d_bslice (z := (.agg #[(.int .u8 (0 : Int)), (.int .u64 (0 : Int)), (.int .u64 (0 : Int)), (.slice none 0 0)])) (sz := 4) (vs := [(0, (.agg #[(.int .u8 (66 : Int)), (.int .u64 m), (.int .u64 (0 : Int)), (.slice none 0 0)])), (1, (.agg #[(.int .u8 (11 : Int)), (.int .u64 (0 : Int)), (.int .u64 (0 : Int)), (.slice none 0 0)]))]) (cs := #[(.int .u8 (66 : Int)), (.int .u64 m), (.int .u64 (0 : Int)), (.slice none 0 0), (.int .u8 (11 : Int)), (.int .u64 (0 : Int)), (.int .u64 (0 : Int)), (.slice none 0 0)]) rfl Try.underlying32 (by kernel_rfl) rfl (by kernel_rfl)) rfl rfl rfl ?_; clear hf fa; rintro fa _ w3 ⟨b2, rfl, hle2, hk2, he3⟩ hf
  have hBb2 : w.heap.size ≤ b2 := Nat.le_trans hb.size hle2
  have : b1 < b2 := Nat.lt_of_lt_of_le (blk_lt hk1) hle2
  replace hk1 := blk_ext hk1 he3
  replace hb := hb.trans (Below.mono he3 hb.size)
  refine sqv hf (r_build (vs := [(0, (.agg #[(.string (kT t).1), (.string (kT t).2)])), (1, (.int .i64 o)), (3, (.slice (some ⟨b2, 0, none⟩) 2 2))]) (cs := #[(.string (kT t).1), (.string (kT t).2), (.int .i64 o), (.string ⟨#[]⟩), (.slice (some ⟨b2, 0, none⟩) 2 2), (.slice none 0 0), (.slice none 0 0)]) rfl (fun _ => by kernel_rfl)) rfl rfl rfl ?_; clear hf fa; intro fa hf
  refine sqn hf (d_storeK (T := 37) (v := (.agg #[(.string (kT t).1), (.string (kT t).2), (.int .i64 o), (.string ⟨#[]⟩), (.slice (some ⟨b2, 0, none⟩) 2 2), (.slice none 0 0), (.slice none 0 0)])) (cs := #[(.string ⟨#[]⟩), (.string ⟨#[]⟩), (.int .i64 (0 : Int)), (.string ⟨#[]⟩), (.slice none 0 0), (.slice none 0 0), (.slice none 0 0)]) (cs' := #[(.string (kT t).1), (.string (kT t).2), (.int .i64 o), (.string ⟨#[]⟩), (.slice (some ⟨b2, 0, none⟩) 2 2), (.slice none 0 0), (.slice none 0 0)]) rfl rfl (by kernel_rfl) (by kernel_rfl) hk1 (by kernel_rfl) (by kernel_rfl)) rfl rfl ?_; clear hf fa; rintro fa _ w4 ⟨hk3, hg1⟩ hf
  replace hk2 := blk_grown hk2 hg1 (by omega)
  replace hb := hb.trans (grown_below hg1 hb.size hBb1)
  apply wpList_nil
  (try simp only [Exit.then, Exit.inBlock, ↓reduceIte, Nat.reduceEqDiff])
  refine hK2 _ _ ?_
  refine wp_ret ?_
  (try simp only [Exit.then, Exit.inBlock])
  refine retC hf rfl rfl hk3 Try.underlying37 rfl (by kernel_rfl) ?_
  exact ⟨_, rfl, b2, rfl, hBb2, hk2, hb⟩

/-- The state changed behind a world, once. -/
structure Af29 (w0 wR w : World) (p : Nat) (R : List MRf) : Prop where
  st : St29 w0.heap.size w p R
  hb : Below w0.heap.size w0 w
  pk : Pk wR w
theorem Af29.ext {w0 wR w w' : World} {p : Nat} {R : List MRf} (h : Af29 w0 wR w p R) (hB : Below w.heap.size w w') : Af29 w0 wR w' p R := ⟨h.st.ext hB, h.hb.trans (Below.mono hB h.hb.size), h.pk.trans (Pk.of_below hB)⟩
theorem made_S (t o m : Int) (w : World) (ht : 0 ≤ t ∧ t < 256) : Calls Try.prog 13 #[.int .u8 t, .int .i64 o, .int .u64 m] w fun e w' => ∃ x, e = .returned x ∧ ∃ k, x = fnV (fT (kT t.toNat).1 (kT t.toNat).2 o k) ∧ w.heap.size ≤ k ∧ w'.heap[k]? = some (.cells (bodyCs m) 127 (0, 0)) ∧ Below w.heap.size w w' := by
  have h := made_B t.toNat o m w (by omega)
  rw [show ((t.toNat : Nat) : Int) = t by omega] at h
  exact h
theorem kind_S (t : Int) (w : World) (ht : 0 ≤ t ∧ t < 256) : Calls Try.prog 65 #[.int .u8 t] w fun e w' => e = .returned (.agg #[.string (kT t.toNat).1, .string (kT t.toNat).2]) ∧ Below w.heap.size w w' := by
  have h := kind_any t.toNat w (by omega)
  rw [show ((t.toNat : Nat) : Int) = t by omega] at h
  exact h
theorem rset_to {ar : Option Addr} {R : List MRf} {cr : Nat} {w : World} (hl : RdS 6 vMRf w ar R) (hlc : R.length ≤ 1000) (hcc : R.length ≤ cr ∧ cr ≤ 9223372036854775807) (hcn : ar = none → cr = 0) (i : Int) (x : MRf) (hi : 0 ≤ i ∧ i < ((R.length : Nat) : Int)) : Calls Try.prog 69 (#[.slice ar R.length cr, .int .i64 i, .agg (vMRf x).toArray]) w fun e w' => ∃ v, e = .returned v ∧ Row 6 vMRf 132 w.heap.size w' v (R.set i.toNat x) ∧ Below w.heap.size w w' :=
  rset_any ar R cr w hl hlc hcc hcn i x hi
theorem rswap_to {ar : Option Addr} {R : List MRf} {cr : Nat} {w : World} {B : Nat} (hBw : B ≤ w.heap.size) (hRow : Row 6 vMRf 132 B w (.slice ar R.length cr) R) (hlc : R.length ≤ 1000) (i j : Int) : Calls Try.prog 67 #[.slice ar R.length cr, .int .i64 i, .int .i64 j] w fun e w' => ∃ x, e = .returned x ∧ ∃ va vc, x = .tuple #[.slice va (rswP R i j).1.length vc, .int .i64 (rswP R i j).2] ∧ Row 6 vMRf 132 B w' (.slice va (rswP R i j).1.length vc) (rswP R i j).1 ∧ Below w.heap.size w w' := by
  refine (rswap_any ar R cr w (Row.rd (by intros; rfl) hRow) hlc (Row.caps hRow).2 (fun h => Row.nocap hRow h) B hBw hRow i j).mono (fun e w' h => ?_)
  obtain ⟨v, h1, h2, h3⟩ := h
  obtain ⟨va, vc, rfl, _, _⟩ := Row.slice h2
  exact ⟨_, h1, va, vc, rfl, h2, h3⟩
theorem rsw_len (R : List MRf) (i j : Int) : (rswP R i j).1.length = R.length := by
  unfold rswP
  split
  · split
    · rw [List.length_set]
    · rfl
  · rfl
theorem rfr_no {R : List MRf} {i : Int} (h : rlB R i = false) : rfrP R i = R := by unfold rfrP; rw [if_neg (by rw [h]; decide)]
theorem rfr_yes {R : List MRf} {i : Int} (h : rlB R i = true) : rfrP R i = R.set i.toNat (zMFt, 0, 0, -1, false, ()) := by unfold rfrP; rw [if_pos h]

set_option maxHeartbeats 1000000 in
set_option maxRecDepth 100000 in
theorem do_any (w0 w : World) (hb : Below w0.heap.size w0 w) (p : Nat) (a : Option Addr) (R : List MRf) (c : Nat) (hSt : St29 w0.heap.size w p R) (hrr : Row 6 vMRf 132 w0.heap.size w (.slice a R.length c) R) (hlc : R.length + 1 ≤ 1000) (kd ia ib tt ow mk_ : Int) (hT : 0 ≤ tt ∧ tt < 256) : Calls Try.prog 36 #[(.pointer (some ⟨p, 0, none⟩)), (.slice a R.length c), (.agg #[(.int .i64 kd), (.int .i64 ia), (.int .i64 ib), (.int .u8 tt), (.int .i64 ow), (.int .u64 mk_)])] w fun e w' => ∃ v R', e = .returned (.tuple #[v, .bool true]) ∧ Row 6 vMRf 132 w0.heap.size w' v R' ∧ St29 w0.heap.size w' p R' ∧ R'.length ≤ R.length + 1 ∧ Below w0.heap.size w0 w' := by
  replace hlc : R.length + 1 ≤ 1000 := hlc
  have hlc0 := hlc
  replace hlc : R.length ≤ 1000 := by omega
  have hrc := Row.caps hrr
  refine sx_enter (L := [(0, (.pointer (some ⟨p, 0, none⟩))), (1, (.slice a R.length c)), (2, (.agg #[(.int .i64 kd), (.int .i64 ia), (.int .i64 ib), (.int .u8 tt), (.int .i64 ow), (.int .u64 mk_)]))]) Try.func36 rfl rfl rfl rfl (fun fa hf => ?_)
  refine wp_seq_k (fun K1 hK1 => ?_)
  refine wp_region_lit ?_
  refine sqdt hf (d_box (cs := #[(.int .i64 kd), (.int .i64 ia), (.int .i64 ib), (.int .u8 tt), (.int .i64 ow), (.int .u64 mk_)]) rfl rfl) rfl rfl rfl ?_; clear hf fa; rintro fa _ w1 ⟨b1, rfl, hle1, hk1, he1⟩ hf
  have hBb1 : w0.heap.size ≤ b1 := Nat.le_trans hb.size hle1
  replace hrr := Row.ext hrr he1
  replace hb := hb.trans (Below.mono he1 hb.size)
  replace hSt := hSt.ext he1
  refine sqv hf (r_assign rfl) rfl rfl rfl ?_; clear hf fa; intro fa hf
  refine sqv hf (r_assign rfl) rfl rfl rfl ?_; clear hf fa; intro fa hf
  apply wpList_nil
  (try simp only [Exit.then, Exit.inBlock, ↓reduceIte, Nat.reduceEqDiff])
  refine hK1 _ _ ?_
  refine wp_seq_k (fun K2 hK2 => ?_)
  refine wp_region_unT 9 (fun wq => Below w1.heap.size w1 wq) (fun w w' => Below w.heap.size w w')
    (fun V => [(fun x _ => x = (.pointer (some ⟨b1, 3, none⟩))), (fun x _ => x = (.int .u8 tt)), (fun x _ => x = (.agg #[(.string (kT tt.toNat).1), (.string (kT tt.toNat).2)])), (fun x _ => x = (.pointer (some ⟨b1, 4, none⟩))), (fun x _ => x = (.int .i64 ow)), (fun x _ => x = (.pointer (some ⟨b1, 5, none⟩))), (fun x _ => x = (.int .u64 mk_)), (fun x _ => x = (.agg #[(.string (kT tt.toNat).1), (.string (kT tt.toNat).2), (.int .i64 ow), (.int .u64 mk_), (.int .i64 (0 : Int)), (.bool true)])), (fun x wq => ∃ b, x = .pointer (some ⟨b, 0, none⟩) ∧ w1.heap.size ≤ b ∧ wq.heap[b]? = some (.cells #[(.string ⟨#[]⟩), (.string ⟨#[]⟩), (.int .i64 (0 : Int)), (.int .u64 (0 : Int)), (.int .i64 (0 : Int)), (.bool false)] 132 (0, 0)))])
    [8]
    [[], [0], [1], [], [3], [], [5], [2, 4, 6], [], []]
    hf (by kernel_rfl) (by kernel_rfl) (by kernel_rfl) (fun _ => rfl) ((Below.refl _ _).drew) (fun a b h1 h2 => h1.trans (h2.mono h1.size)) (fun _ _ h => h.size) (fun V => ⟨kept_eq, kept_eq, kept_eq, kept_eq, kept_eq, kept_eq, kept_eq, kept_eq, keptB, trivial⟩) (fun _ _ _ _ _ => rfl) ?_ ?_
  · skip
    intro V
    refine ⟨fun wu0 hC hd => ?_, ?_⟩
    · clear hd
      replace hb := hb.trans (hC.mono hb.size)
      replace hk1 := blk_ext hk1 hC
      replace hrr := Row.ext hrr hC
      exact Runs.does (r_fa rfl Try.underlying28 (f := 3) (q := 3) rfl (by kernel_rfl) rfl) ⟨Below.refl _ _, rfl, nofr rfl⟩
    refine ⟨fun wu1 hC hd => ?_, ?_⟩
    · obtain ⟨h0, _⟩ := hd
      skip
      replace h0 : V 0 = (.pointer (some ⟨b1, 3, none⟩)) := h0
      replace hb := hb.trans (hC.mono hb.size)
      replace hk1 := blk_ext hk1 hC
      replace hrr := Row.ext hrr hC
      exact Runs.does (r_load (v := (.int .u8 tt)) (congrArg some h0) Try.underlying5 rfl (cell_blk hk1 rfl)) ⟨Below.refl _ _, rfl, nofr rfl⟩
    refine ⟨fun wu2 hC hd => ?_, ?_⟩
    · obtain ⟨h1, _⟩ := hd
      skip
      replace h1 : V 1 = (.int .u8 tt) := h1
      replace hb := hb.trans (hC.mono hb.size)
      replace hk1 := blk_ext hk1 hC
      replace hrr := Row.ext hrr hC
      refine Does.mono (d_callB (vs := [(.int .u8 tt)]) (show [some (V 1)] = [some (.int .u8 tt)] from by rw [h1]) Try.func65 (by kernel_rfl) (by kernel_rfl) (kind_S tt _ hT)) (fun _ _ h => ⟨h.2, h.1, nofr rfl⟩)
    refine ⟨fun wu3 hC hd => ?_, ?_⟩
    · clear hd
      replace hb := hb.trans (hC.mono hb.size)
      replace hk1 := blk_ext hk1 hC
      replace hrr := Row.ext hrr hC
      exact Runs.does (r_fa rfl Try.underlying28 (f := 4) (q := 4) rfl (by kernel_rfl) rfl) ⟨Below.refl _ _, rfl, nofr rfl⟩
    refine ⟨fun wu4 hC hd => ?_, ?_⟩
    · obtain ⟨h3, _⟩ := hd
      skip
      replace h3 : V 3 = (.pointer (some ⟨b1, 4, none⟩)) := h3
      replace hb := hb.trans (hC.mono hb.size)
      replace hk1 := blk_ext hk1 hC
      replace hrr := Row.ext hrr hC
      exact Runs.does (r_load (v := (.int .i64 ow)) (congrArg some h3) Try.underlying3 rfl (cell_blk hk1 rfl)) ⟨Below.refl _ _, rfl, nofr rfl⟩
    refine ⟨fun wu5 hC hd => ?_, ?_⟩
    · clear hd
      replace hb := hb.trans (hC.mono hb.size)
      replace hk1 := blk_ext hk1 hC
      replace hrr := Row.ext hrr hC
      exact Runs.does (r_fa rfl Try.underlying28 (f := 5) (q := 5) rfl (by kernel_rfl) rfl) ⟨Below.refl _ _, rfl, nofr rfl⟩
    refine ⟨fun wu6 hC hd => ?_, ?_⟩
    · obtain ⟨h5, _⟩ := hd
      skip
      replace h5 : V 5 = (.pointer (some ⟨b1, 5, none⟩)) := h5
      replace hb := hb.trans (hC.mono hb.size)
      replace hk1 := blk_ext hk1 hC
      replace hrr := Row.ext hrr hC
      exact Runs.does (r_load (v := (.int .u64 mk_)) (congrArg some h5) Try.underlying26 rfl (cell_blk hk1 rfl)) ⟨Below.refl _ _, rfl, nofr rfl⟩
    refine ⟨fun wu7 hC hd => ?_, ?_⟩
    · obtain ⟨h2, h4, h6, _⟩ := hd
      skip
      skip
      skip
      replace h2 : V 2 = (.agg #[(.string (kT tt.toNat).1), (.string (kT tt.toNat).2)]) := h2
      replace h4 : V 4 = (.int .i64 ow) := h4
      replace h6 : V 6 = (.int .u64 mk_) := h6
      replace hb := hb.trans (hC.mono hb.size)
      replace hk1 := blk_ext hk1 hC
      replace hrr := Row.ext hrr hC
      exact Runs.does (r_build (vs := [(0, (.agg #[(.string (kT tt.toNat).1), (.string (kT tt.toNat).2)])), (1, (.int .i64 ow)), (2, (.int .u64 mk_)), (4, (.bool true))]) (cs := #[(.string (kT tt.toNat).1), (.string (kT tt.toNat).2), (.int .i64 ow), (.int .u64 mk_), (.int .i64 (0 : Int)), (.bool true)]) (show [(0, some (V 2)), (1, some (V 4)), (2, some (V 6)), (4, some (.bool true))] = [(0, some (.agg #[(.string (kT tt.toNat).1), (.string (kT tt.toNat).2)])), (1, some (.int .i64 ow)), (2, some (.int .u64 mk_)), (4, some (.bool true))] from by rw [h2, h4, h6]) (fun _ => by kernel_rfl)) ⟨Below.refl _ _, rfl, nofr rfl⟩
    refine ⟨fun wu8 hC hd => ?_, ?_⟩
    · clear hd
      replace hb := hb.trans (hC.mono hb.size)
      replace hk1 := blk_ext hk1 hC
      replace hrr := Row.ext hrr hC
      refine Does.mono (d_alloc (z := (.agg #[(.string ⟨#[]⟩), (.string ⟨#[]⟩), (.int .i64 (0 : Int)), (.int .u64 (0 : Int)), (.int .i64 (0 : Int)), (.bool false)])) (cs := #[(.string ⟨#[]⟩), (.string ⟨#[]⟩), (.int .i64 (0 : Int)), (.int .u64 (0 : Int)), (.int .i64 (0 : Int)), (.bool false)]) (by kernel_rfl) rfl) ?_
      rintro _ w' ⟨b, rfl, hF⟩
      exact ⟨hF.2.2, ⟨b, rfl, Nat.le_trans hC.size hF.1, hF.2.1⟩, isfr rfl hF.1 (blk_lt hF.2.1)⟩
    trivial
  · skip
    clear hf fa; intro V w2 fa he2 hp hnb hf
    have hv0 : V 0 = (.pointer (some ⟨b1, 3, none⟩)) := postsHold_at hp 0 rfl
    have hv1 : V 1 = (.int .u8 tt) := postsHold_at hp 1 rfl
    have hv2 : V 2 = (.agg #[(.string (kT tt.toNat).1), (.string (kT tt.toNat).2)]) := postsHold_at hp 2 rfl
    have hv3 : V 3 = (.pointer (some ⟨b1, 4, none⟩)) := postsHold_at hp 3 rfl
    have hv4 : V 4 = (.int .i64 ow) := postsHold_at hp 4 rfl
    have hv5 : V 5 = (.pointer (some ⟨b1, 5, none⟩)) := postsHold_at hp 5 rfl
    have hv6 : V 6 = (.int .u64 mk_) := postsHold_at hp 6 rfl
    have hv7 : V 7 = (.agg #[(.string (kT tt.toNat).1), (.string (kT tt.toNat).2), (.int .i64 ow), (.int .u64 mk_), (.int .i64 (0 : Int)), (.bool true)]) := postsHold_at hp 7 rfl
    have hv8 := postsHold_at hp 8 rfl
    obtain ⟨b2, hv8, hle2, hk2⟩ := hv8
    have hBb2 : w0.heap.size ≤ b2 := Nat.le_trans hb.size hle2
    simp only [List.take_succ_cons, List.take_zero, insAll, ins, hv0, hv1, hv2, hv3, hv4, hv5, hv6, hv7, hv8] at hf
    have : b1 < b2 := Nat.lt_of_lt_of_le (blk_lt hk1) hle2
    have hnr1 : (Value.slice a (R.length) c).ownBlock ≠ some b2 := fun hq => by have := (Row.lt hrr _ hq).2; have := hle2; omega
    clear hp hnb hv0 hv1 hv2 hv3 hv4 hv5 hv6 hv7 hv8
    replace hk1 := blk_ext hk1 he2
    replace hrr := Row.ext hrr he2
    replace hb := hb.trans (Below.mono he2 hb.size)
    replace hSt := hSt.ext he2
    simp only [List.drop_succ_cons, List.drop_zero]
    refine sqn hf (d_storeK (T := 132) (v := (.agg #[(.string (kT tt.toNat).1), (.string (kT tt.toNat).2), (.int .i64 ow), (.int .u64 mk_), (.int .i64 (0 : Int)), (.bool true)])) (cs := #[(.string ⟨#[]⟩), (.string ⟨#[]⟩), (.int .i64 (0 : Int)), (.int .u64 (0 : Int)), (.int .i64 (0 : Int)), (.bool false)]) (cs' := #[(.string (kT tt.toNat).1), (.string (kT tt.toNat).2), (.int .i64 ow), (.int .u64 mk_), (.int .i64 (0 : Int)), (.bool true)]) rfl rfl (by kernel_rfl) (by kernel_rfl) hk2 (by kernel_rfl) (by kernel_rfl)) rfl rfl ?_; clear hf fa; rintro fa _ w3 ⟨hk3, hg1⟩ hf
    replace hk1 := blk_grown hk1 hg1 (by omega)
    replace hrr := Row.grown hrr hg1 hnr1
    replace hb := hb.trans (grown_below hg1 hb.size hBb2)
    replace hSt := hSt.grown hg1 hk2
    apply wpList_nil
    (try simp only [Exit.then, Exit.inBlock, ↓reduceIte, Nat.reduceEqDiff])
    refine hK2 _ _ ?_
    refine wp_seq_k (fun K3 hK3 => ?_)
    refine wp_seq_k (fun K4 hK4 => ?_)
    refine wp_region_lit ?_
    refine sqv hf (r_fa rfl Try.underlying28 (f := 0) (q := 0) rfl (by kernel_rfl) rfl) rfl rfl rfl ?_; clear hf fa; intro fa hf
    refine sqv hf (r_load (v := (.int .i64 kd)) rfl Try.underlying3 rfl (cell_blk hk1 rfl)) rfl rfl rfl ?_; clear hf fa; intro fa hf
    apply wpList_nil
    (try simp only [Exit.then, Exit.inBlock, ↓reduceIte, Nat.reduceEqDiff])
    refine hK4 _ _ ?_
    refine wp_block ?_
    refine wp_seq_k (fun K5 hK5 => ?_)
    refine wp_region_lit ?_
    refine sqv hf (r_eq rfl rfl) rfl rfl rfl ?_; clear hf fa; intro fa hf
    refine sqv hf (r_assign rfl) rfl rfl rfl ?_; clear hf fa; intro fa hf
    apply wpList_nil
    (try simp only [Exit.then, Exit.inBlock, ↓reduceIte, Nat.reduceEqDiff])
    refine hK5 _ _ ?_
    refine wp_cond_split (t := (decide (kd = (0 : Int)))) (hf.ev rfl) (fun hqt25_1 => ?_) (fun hqt25_1 => ?_)
    · have hqt25_1b := hqt25_1
      try simp only [decide_eq_true_eq, Bool.and_eq_true, Bool.or_eq_true, Bool.not_eq_true', decide_eq_false_iff_not, ne_eq, Bool.not_eq_true] at hqt25_1
      refine wp_seq_k (fun K6 hK6 => ?_)
      refine wp_region_lit ?_
      refine sqv hf (r_move rfl) rfl rfl rfl ?_; clear hf fa; intro fa hf
      refine sqv hf (r_lensl rfl Try.underlying76) rfl rfl rfl ?_; clear hf fa; intro fa hf
      refine sqv hf (r_fa rfl Try.underlying132 (f := 3) (q := 4) rfl (by kernel_rfl) rfl) rfl rfl rfl ?_; clear hf fa; intro fa hf
      refine sqn hf (d_storeK (T := 132) (v := (.int .i64 ((R.length : Nat) : Int))) (cs := #[(.string (kT tt.toNat).1), (.string (kT tt.toNat).2), (.int .i64 ow), (.int .u64 mk_), (.int .i64 (0 : Int)), (.bool true)]) (cs' := #[(.string (kT tt.toNat).1), (.string (kT tt.toNat).2), (.int .i64 ow), (.int .u64 mk_), (.int .i64 ((R.length : Nat) : Int)), (.bool true)]) rfl rfl (by kernel_rfl) (by kernel_rfl) hk3 (by kernel_rfl) (by kernel_rfl)) rfl rfl ?_; clear hf fa; rintro fa _ w4 ⟨hk4, hg2⟩ hf
      replace hk1 := blk_grown hk1 hg2 (by omega)
      replace hrr := Row.grown hrr hg2 hnr1
      replace hb := hb.trans (grown_below hg2 hb.size hBb2)
      replace hSt := hSt.grown hg2 hk3
      apply wpList_nil
      (try simp only [Exit.then, Exit.inBlock, ↓reduceIte, Nat.reduceEqDiff])
      refine hK6 _ _ ?_
      refine wp_seq_k (fun K7 hK7 => ?_)
      have hnl0 : (([] : List MRf) ++ R).length = R.length := rfl
      refine wp_region_vnT 19 (fun S wq => (¬ S 14 → Below w4.heap.size w4 wq) ∧ (S 14 → Af29 w0 w4 wq p (R ++ [(rT (kT tt.toNat).1 (kT tt.toNat).2 ow mk_ ((R.length : Nat) : Int))])))
        (fun V S => [(fun x wq => ∃ b, x = .slice (some ⟨b, 0, none⟩) 0 0 ∧ w4.heap.size ≤ b ∧ (¬ S 2 → wq.heap[b]? = some (.cells #[] 132 (0, 0)))), (fun x _ => x = (.slice a R.length c)), (fun x wq => ∃ a c, x = .slice a ([] ++ R).length c ∧ (¬ S 5 → Row 6 vMRf 132 w4.heap.size wq x ([] ++ R))), (fun x _ => x = (.agg #[(.string (kT tt.toNat).1), (.string (kT tt.toNat).2), (.int .i64 ow), (.int .u64 mk_), (.int .i64 ((R.length : Nat) : Int)), (.bool true)])), (fun x wq => ∃ b, x = .slice (some ⟨b, 0, none⟩) 1 1 ∧ w4.heap.size ≤ b ∧ (¬ S 5 → wq.heap[b]? = some (.cells #[(.string (kT tt.toNat).1), (.string (kT tt.toNat).2), (.int .i64 ow), (.int .u64 mk_), (.int .i64 ((R.length : Nat) : Int)), (.bool true)] 132 (0, 0)))), (fun x wq => ∃ b, (∃ c, x = .slice (some ⟨b, 0, none⟩) (([] ++ R) ++ [(((kT tt.toNat).1, (kT tt.toNat).2, ()), ow, mk_, ((R.length : Nat) : Int), true, ())]).length c) ∧ w4.heap.size ≤ b ∧ Row 6 vMRf 132 w4.heap.size wq x (([] ++ R) ++ [(((kT tt.toNat).1, (kT tt.toNat).2, ()), ow, mk_, ((R.length : Nat) : Int), true, ())])), (fun x _ => x = (.pointer (some ⟨p, 0, none⟩))), (fun x _ => x = (.pointer (some ⟨b1, 3, none⟩))), (fun x _ => x = (.int .u8 tt)), (fun x _ => x = (.pointer (some ⟨b1, 4, none⟩))), (fun x _ => x = (.int .i64 ow)), (fun x _ => x = (.pointer (some ⟨b1, 5, none⟩))), (fun x _ => x = (.int .u64 mk_)), (fun x wq => ∃ mk1, x = (.agg #[(.string (kT tt.toNat).1), (.string (kT tt.toNat).2), (.int .i64 ow), (.string ⟨#[]⟩), (.slice (some ⟨mk1, 0, none⟩) 2 2), (.slice none 0 0), (.slice none 0 0)]) ∧ w4.heap.size ≤ mk1 ∧ wq.heap[mk1]? = some (.cells (bodyCs mk_) 127 (0, 0))), (fun x _ => x = (.int .i64 ((R.length : Nat) : Int))), (fun x _ => x = (.slice a R.length c)), (fun x _ => x = (.int .i64 ((R.length : Nat) : Int))), (fun x _ => x = (.bool true)), (fun x _ => x = V 5)])
        [0, 4]
        [[], [], [0, 1], [], [3], [2, 4], [], [], [7], [], [9], [], [11], [5, 8, 10, 12], [6, 13], [], [15], [14, 16], [0, 1, 2, 3, 4, 5, 14], []]
        hf (by kernel_rfl) (by kernel_rfl) (by kernel_rfl) (fun _ _ => rfl) (fun _ hS_ => ⟨fun _ => (Below.refl _ _).drew, fun h => absurd h (hS_ _)⟩) (by
           intro V S i v j h
           match j with
           | 0 => rfl
           | 1 => rfl
           | 2 => rfl
           | 3 => rfl
           | 4 => rfl
           | 5 => rfl
           | 6 => rfl
           | 7 => rfl
           | 8 => rfl
           | 9 => rfl
           | 10 => rfl
           | 11 => rfl
           | 12 => rfl
           | 13 => rfl
           | 14 => rfl
           | 15 => rfl
           | 16 => rfl
           | 17 => rfl
           | 18 => have e5 : ¬ (5 = i) := fun e => h (by rw [← e]; decide); simp only [List.getD_cons_succ, List.getD_cons_zero, e5, if_false]
           | _ + 19 => rfl) ?_ ?_
      · skip
        intro V
        have hKP : ∀ (i : Nat) (S : Nat → Prop) (wk : World), (∀ q ∈ ([2, 5, 14] : List Nat), q ≠ i) → ∀ j v w', (((fun (S : Nat → Prop) => ([(fun x wq => ∃ b, x = .slice (some ⟨b, 0, none⟩) 0 0 ∧ w4.heap.size ≤ b ∧ (¬ S 2 → wq.heap[b]? = some (.cells #[] 132 (0, 0)))), (fun x _ => x = (.slice a R.length c)), (fun x wq => ∃ a c, x = .slice a ([] ++ R).length c ∧ (¬ S 5 → Row 6 vMRf 132 w4.heap.size wq x ([] ++ R))), (fun x _ => x = (.agg #[(.string (kT tt.toNat).1), (.string (kT tt.toNat).2), (.int .i64 ow), (.int .u64 mk_), (.int .i64 ((R.length : Nat) : Int)), (.bool true)])), (fun x wq => ∃ b, x = .slice (some ⟨b, 0, none⟩) 1 1 ∧ w4.heap.size ≤ b ∧ (¬ S 5 → wq.heap[b]? = some (.cells #[(.string (kT tt.toNat).1), (.string (kT tt.toNat).2), (.int .i64 ow), (.int .u64 mk_), (.int .i64 ((R.length : Nat) : Int)), (.bool true)] 132 (0, 0)))), (fun x wq => ∃ b, (∃ c, x = .slice (some ⟨b, 0, none⟩) (([] ++ R) ++ [(((kT tt.toNat).1, (kT tt.toNat).2, ()), ow, mk_, ((R.length : Nat) : Int), true, ())]).length c) ∧ w4.heap.size ≤ b ∧ Row 6 vMRf 132 w4.heap.size wq x (([] ++ R) ++ [(((kT tt.toNat).1, (kT tt.toNat).2, ()), ow, mk_, ((R.length : Nat) : Int), true, ())])), (fun x _ => x = (.pointer (some ⟨p, 0, none⟩))), (fun x _ => x = (.pointer (some ⟨b1, 3, none⟩))), (fun x _ => x = (.int .u8 tt)), (fun x _ => x = (.pointer (some ⟨b1, 4, none⟩))), (fun x _ => x = (.int .i64 ow)), (fun x _ => x = (.pointer (some ⟨b1, 5, none⟩))), (fun x _ => x = (.int .u64 mk_)), (fun x wq => ∃ mk1, x = (.agg #[(.string (kT tt.toNat).1), (.string (kT tt.toNat).2), (.int .i64 ow), (.string ⟨#[]⟩), (.slice (some ⟨mk1, 0, none⟩) 2 2), (.slice none 0 0), (.slice none 0 0)]) ∧ w4.heap.size ≤ mk1 ∧ wq.heap[mk1]? = some (.cells (bodyCs mk_) 127 (0, 0))), (fun x _ => x = (.int .i64 ((R.length : Nat) : Int))), (fun x _ => x = (.slice a R.length c)), (fun x _ => x = (.int .i64 ((R.length : Nat) : Int))), (fun x _ => x = (.bool true)), (fun x _ => x = V 5)] : List (Value → World → Prop))) S).getD j (fun _ _ => True)) v wk → Below wk.heap.size wk w' → (((fun (S : Nat → Prop) => ([(fun x wq => ∃ b, x = .slice (some ⟨b, 0, none⟩) 0 0 ∧ w4.heap.size ≤ b ∧ (¬ S 2 → wq.heap[b]? = some (.cells #[] 132 (0, 0)))), (fun x _ => x = (.slice a R.length c)), (fun x wq => ∃ a c, x = .slice a ([] ++ R).length c ∧ (¬ S 5 → Row 6 vMRf 132 w4.heap.size wq x ([] ++ R))), (fun x _ => x = (.agg #[(.string (kT tt.toNat).1), (.string (kT tt.toNat).2), (.int .i64 ow), (.int .u64 mk_), (.int .i64 ((R.length : Nat) : Int)), (.bool true)])), (fun x wq => ∃ b, x = .slice (some ⟨b, 0, none⟩) 1 1 ∧ w4.heap.size ≤ b ∧ (¬ S 5 → wq.heap[b]? = some (.cells #[(.string (kT tt.toNat).1), (.string (kT tt.toNat).2), (.int .i64 ow), (.int .u64 mk_), (.int .i64 ((R.length : Nat) : Int)), (.bool true)] 132 (0, 0)))), (fun x wq => ∃ b, (∃ c, x = .slice (some ⟨b, 0, none⟩) (([] ++ R) ++ [(((kT tt.toNat).1, (kT tt.toNat).2, ()), ow, mk_, ((R.length : Nat) : Int), true, ())]).length c) ∧ w4.heap.size ≤ b ∧ Row 6 vMRf 132 w4.heap.size wq x (([] ++ R) ++ [(((kT tt.toNat).1, (kT tt.toNat).2, ()), ow, mk_, ((R.length : Nat) : Int), true, ())])), (fun x _ => x = (.pointer (some ⟨p, 0, none⟩))), (fun x _ => x = (.pointer (some ⟨b1, 3, none⟩))), (fun x _ => x = (.int .u8 tt)), (fun x _ => x = (.pointer (some ⟨b1, 4, none⟩))), (fun x _ => x = (.int .i64 ow)), (fun x _ => x = (.pointer (some ⟨b1, 5, none⟩))), (fun x _ => x = (.int .u64 mk_)), (fun x wq => ∃ mk1, x = (.agg #[(.string (kT tt.toNat).1), (.string (kT tt.toNat).2), (.int .i64 ow), (.string ⟨#[]⟩), (.slice (some ⟨mk1, 0, none⟩) 2 2), (.slice none 0 0), (.slice none 0 0)]) ∧ w4.heap.size ≤ mk1 ∧ wq.heap[mk1]? = some (.cells (bodyCs mk_) 127 (0, 0))), (fun x _ => x = (.int .i64 ((R.length : Nat) : Int))), (fun x _ => x = (.slice a R.length c)), (fun x _ => x = (.int .i64 ((R.length : Nat) : Int))), (fun x _ => x = (.bool true)), (fun x _ => x = V 5)] : List (Value → World → Prop))) (ad i S)).getD j (fun _ _ => True)) v w' := by
          intro i S wk hi j v w' h hB
          match j with
          | 0 =>
            obtain ⟨b, e1, e2, e3⟩ := h
            exact ⟨b, e1, e2, fun hn => blk_ext (e3 (fun hs => hn (.inr hs))) hB⟩
          | 1 =>
            exact h
          | 2 =>
            obtain ⟨a, c, e1, e2⟩ := h
            exact ⟨a, c, e1, fun hn => (e2 (fun hs => hn (.inr hs))).ext hB⟩
          | 3 =>
            exact h
          | 4 =>
            obtain ⟨b, e1, e2, e3⟩ := h
            exact ⟨b, e1, e2, fun hn => blk_ext (e3 (fun hs => hn (.inr hs))) hB⟩
          | 5 =>
            obtain ⟨b, e1, e2, e3⟩ := h
            exact ⟨b, e1, e2, Row.ext e3 hB⟩
          | 6 =>
            exact h
          | 7 =>
            exact h
          | 8 =>
            exact h
          | 9 =>
            exact h
          | 10 =>
            exact h
          | 11 =>
            exact h
          | 12 =>
            exact h
          | 13 =>
            obtain ⟨k, e1, e2, e3⟩ := h
            exact ⟨k, e1, e2, blk_ext e3 hB⟩
          | 14 =>
            exact h
          | 15 =>
            exact h
          | 16 =>
            exact h
          | 17 =>
            exact h
          | 18 =>
            exact h
          | _ + 19 => trivial
        refine ⟨fun S wu0 hC hS hd hi => ?_, ?_⟩
        · skip
          replace hC := show (¬ S 14 → Below w4.heap.size w4 wu0) ∧ (S 14 → Af29 w0 w4 wu0 p (R ++ [(rT (kT tt.toNat).1 (kT tt.toNat).2 ow mk_ ((R.length : Nat) : Int))])) from hC
          refine uv_plain (C := (fun S wq => (¬ S 14 → Below w4.heap.size w4 wq) ∧ (S 14 → Af29 w0 w4 wq p (R ++ [(rT (kT tt.toNat).1 (kT tt.toNat).2 ow mk_ ((R.length : Nat) : Int))])))) (hKP 0 S wu0 (by decide)) (fun _ h1 h2 => ⟨fun hn => Below.trans (h1.1 (fun hs => hn (.inr hs))) (Below.mono h2 (Below.size (h1.1 (fun hs => hn (.inr hs))))), fun hs => (h1.2 (by rcases hs with e | hs; exact absurd e (by decide); exact hs)).ext h2⟩) hC hS ?_
          replace hC := hC.1 (fun h => hi (hS.down 2 (hS.down 5 (hS.down 13 (hS.down 14 h 13 (by decide)) 5 (by decide)) 2 (by decide)) 0 (by decide)))
          replace hb := hb.trans (hC.mono hb.size)
          replace hk1 := blk_ext hk1 hC
          replace hk4 := blk_ext hk4 hC
          replace hrr := Row.ext hrr hC
          refine Does.mono (d_bslice0 (sz := 6) Try.underlying76 (by kernel_rfl)) ?_
          rintro _ w' ⟨b, rfl, hF⟩
          exact ⟨hF.2.2, ⟨b, rfl, Nat.le_trans hC.size hF.1, fun _ => hF.2.1⟩, isfr rfl hF.1 (blk_lt hF.2.1)⟩
        refine ⟨fun S wu1 hC hS hd hi => ?_, ?_⟩
        · skip
          replace hC := show (¬ S 14 → Below w4.heap.size w4 wu1) ∧ (S 14 → Af29 w0 w4 wu1 p (R ++ [(rT (kT tt.toNat).1 (kT tt.toNat).2 ow mk_ ((R.length : Nat) : Int))])) from hC
          refine uv_plain (C := (fun S wq => (¬ S 14 → Below w4.heap.size w4 wq) ∧ (S 14 → Af29 w0 w4 wq p (R ++ [(rT (kT tt.toNat).1 (kT tt.toNat).2 ow mk_ ((R.length : Nat) : Int))])))) (hKP 1 S wu1 (by decide)) (fun _ h1 h2 => ⟨fun hn => Below.trans (h1.1 (fun hs => hn (.inr hs))) (Below.mono h2 (Below.size (h1.1 (fun hs => hn (.inr hs))))), fun hs => (h1.2 (by rcases hs with e | hs; exact absurd e (by decide); exact hs)).ext h2⟩) hC hS ?_
          replace hC := hC.1 (fun h => hi (hS.down 2 (hS.down 5 (hS.down 13 (hS.down 14 h 13 (by decide)) 5 (by decide)) 2 (by decide)) 1 (by decide)))
          replace hb := hb.trans (hC.mono hb.size)
          replace hk1 := blk_ext hk1 hC
          replace hk4 := blk_ext hk4 hC
          replace hrr := Row.ext hrr hC
          exact Runs.does (r_move rfl) ⟨Below.refl _ _, rfl, nofr rfl⟩
        refine ⟨fun S wu2 hC hS hd hi => ?_, ?_⟩
        · skip
          replace hC := show (¬ S 14 → Below w4.heap.size w4 wu2) ∧ (S 14 → Af29 w0 w4 wu2 p (R ++ [(rT (kT tt.toNat).1 (kT tt.toNat).2 ow mk_ ((R.length : Nat) : Int))])) from hC
          replace hC := hC.1 (fun h => hi (hS.down 5 (hS.down 13 (hS.down 14 h 13 (by decide)) 5 (by decide)) 2 (by decide)))
          have h0 := hS.post 0 (hd 0 (by decide))
          obtain ⟨b3, h0, hle3, hk5⟩ := h0
          replace hk5 := hk5 hi
          have h1 := hS.post 1 (hd 1 (by decide))
          replace h1 : V 1 = (.slice a R.length c) := h1
          replace hb := hb.trans (hC.mono hb.size)
          replace hk1 := blk_ext hk1 hC
          replace hk4 := blk_ext hk4 hC
          replace hrr := Row.ext hrr hC
          have hrA := Row.of_new (k := 6) (V := vMRf) (l := []) (base := w4.heap.size) hk5 hle3 rfl rfl (Nat.le_of_ble_eq_true rfl)
          refine Does.mono (d_append (V := vMRf) (k := 6) (e := 132) (bytes := 64) (z := (.agg #[(.string ⟨#[]⟩), (.string ⟨#[]⟩), (.int .i64 (0 : Int)), (.int .u64 (0 : Int)), (.int .i64 (0 : Int)), (.bool false)])) (news := R) (base := w4.heap.size) (by intros; rfl) (by exact oneMRf) (congrArg some h0) (congrArg some h1) Try.underlying76 (by kernel_rfl) rfl rfl rfl hrA (Row.rd (by intros; rfl) hrr) rfl (fun h => Row.nocap hrr h) (by first | omega | (simp only [List.length_cons, List.length_nil, List.length_append, nums_len]; omega)) hC.size) ?_
          rintro v' wz ⟨hY, hgY⟩
          obtain ⟨ra, rc, rfl, _, _⟩ := Row.slice hY
          refine ⟨⟨⟨fun _ => hC.trans (row_below hrA hgY hC.size (Nat.le_refl _)), fun hs => by rcases hs with e | hs; exact absurd e (by decide); exact absurd (hS.down 5 (hS.down 13 (hS.down 14 hs 13 (by decide)) 5 (by decide)) 2 (by decide)) hi⟩, fun j hj => ?_, hgY.size⟩, ⟨ra, rc, rfl, fun _ => hY⟩, nofr rfl⟩
          match j with
          | 0 =>
            exact ⟨b3, h0, hle3, fun hn => absurd (.inl rfl) hn⟩
          | 1 =>
            exact hS.post 1 hj
          | 2 =>
            exact absurd hj hi
          | 3 =>
            exact hS.post 3 hj
          | 4 =>
            obtain ⟨c, e1, e2, e3⟩ := hS.post 4 hj
            have hne : c ≠ b3 := fun e => hS.ne 4 0 rfl rfl (by decide) hj (hd 0 (by decide)) (by rw [e1, h0, e] <;> rfl)
            exact ⟨c, e1, e2, fun hn => blk_grown (e3 (fun hs => hn (.inr hs))) hgY hne⟩
          | 5 =>
            exact absurd (hS.down 5 hj 2 (by decide)) hi
          | 6 =>
            exact hS.post 6 hj
          | 7 =>
            exact hS.post 7 hj
          | 8 =>
            exact hS.post 8 hj
          | 9 =>
            exact hS.post 9 hj
          | 10 =>
            exact hS.post 10 hj
          | 11 =>
            exact hS.post 11 hj
          | 12 =>
            exact hS.post 12 hj
          | 13 =>
            exact absurd (hS.down 5 (hS.down 13 hj 5 (by decide)) 2 (by decide)) hi
          | 14 =>
            exact hS.post 14 hj
          | 15 =>
            exact hS.post 15 hj
          | 16 =>
            exact hS.post 16 hj
          | 17 =>
            exact hS.post 17 hj
          | 18 =>
            exact hS.post 18 hj
          | _ + 19 => trivial
        refine ⟨fun S wu3 hC hS hd hi => ?_, ?_⟩
        · skip
          replace hC := show (¬ S 14 → Below w4.heap.size w4 wu3) ∧ (S 14 → Af29 w0 w4 wu3 p (R ++ [(rT (kT tt.toNat).1 (kT tt.toNat).2 ow mk_ ((R.length : Nat) : Int))])) from hC
          refine uv_plain (C := (fun S wq => (¬ S 14 → Below w4.heap.size w4 wq) ∧ (S 14 → Af29 w0 w4 wq p (R ++ [(rT (kT tt.toNat).1 (kT tt.toNat).2 ow mk_ ((R.length : Nat) : Int))])))) (hKP 3 S wu3 (by decide)) (fun _ h1 h2 => ⟨fun hn => Below.trans (h1.1 (fun hs => hn (.inr hs))) (Below.mono h2 (Below.size (h1.1 (fun hs => hn (.inr hs))))), fun hs => (h1.2 (by rcases hs with e | hs; exact absurd e (by decide); exact hs)).ext h2⟩) hC hS ?_
          replace hC := hC.1 (fun h => hi (hS.down 4 (hS.down 5 (hS.down 13 (hS.down 14 h 13 (by decide)) 5 (by decide)) 4 (by decide)) 3 (by decide)))
          replace hb := hb.trans (hC.mono hb.size)
          replace hk1 := blk_ext hk1 hC
          replace hk4 := blk_ext hk4 hC
          replace hrr := Row.ext hrr hC
          exact Runs.does (r_loadA (cs := [(.string (kT tt.toNat).1), (.string (kT tt.toNat).2), (.int .i64 ow), (.int .u64 mk_), (.int .i64 ((R.length : Nat) : Int)), (.bool true)]) rfl Try.underlying132 rfl (by kernel_rfl) (cellsAt_blk hk4)) ⟨Below.refl _ _, rfl, nofr rfl⟩
        refine ⟨fun S wu4 hC hS hd hi => ?_, ?_⟩
        · skip
          replace hC := show (¬ S 14 → Below w4.heap.size w4 wu4) ∧ (S 14 → Af29 w0 w4 wu4 p (R ++ [(rT (kT tt.toNat).1 (kT tt.toNat).2 ow mk_ ((R.length : Nat) : Int))])) from hC
          refine uv_plain (C := (fun S wq => (¬ S 14 → Below w4.heap.size w4 wq) ∧ (S 14 → Af29 w0 w4 wq p (R ++ [(rT (kT tt.toNat).1 (kT tt.toNat).2 ow mk_ ((R.length : Nat) : Int))])))) (hKP 4 S wu4 (by decide)) (fun _ h1 h2 => ⟨fun hn => Below.trans (h1.1 (fun hs => hn (.inr hs))) (Below.mono h2 (Below.size (h1.1 (fun hs => hn (.inr hs))))), fun hs => (h1.2 (by rcases hs with e | hs; exact absurd e (by decide); exact hs)).ext h2⟩) hC hS ?_
          replace hC := hC.1 (fun h => hi (hS.down 5 (hS.down 13 (hS.down 14 h 13 (by decide)) 5 (by decide)) 4 (by decide)))
          have h3 := hS.post 3 (hd 3 (by decide))
          replace h3 : V 3 = (.agg #[(.string (kT tt.toNat).1), (.string (kT tt.toNat).2), (.int .i64 ow), (.int .u64 mk_), (.int .i64 ((R.length : Nat) : Int)), (.bool true)]) := h3
          replace hb := hb.trans (hC.mono hb.size)
          replace hk1 := blk_ext hk1 hC
          replace hk4 := blk_ext hk4 hC
          replace hrr := Row.ext hrr hC
          refine Does.mono (d_bslice (z := (.agg #[(.string ⟨#[]⟩), (.string ⟨#[]⟩), (.int .i64 (0 : Int)), (.int .u64 (0 : Int)), (.int .i64 (0 : Int)), (.bool false)])) (sz := 6) (vs := [(0, (.agg #[(.string (kT tt.toNat).1), (.string (kT tt.toNat).2), (.int .i64 ow), (.int .u64 mk_), (.int .i64 ((R.length : Nat) : Int)), (.bool true)]))]) (cs := #[(.string (kT tt.toNat).1), (.string (kT tt.toNat).2), (.int .i64 ow), (.int .u64 mk_), (.int .i64 ((R.length : Nat) : Int)), (.bool true)]) (show [(0, some (V 3))] = [(0, some (.agg #[(.string (kT tt.toNat).1), (.string (kT tt.toNat).2), (.int .i64 ow), (.int .u64 mk_), (.int .i64 ((R.length : Nat) : Int)), (.bool true)]))] from by rw [h3]) Try.underlying76 (by kernel_rfl) rfl (by kernel_rfl)) ?_
          rintro _ w' ⟨b, rfl, hF⟩
          exact ⟨hF.2.2, ⟨b, rfl, Nat.le_trans hC.size hF.1, fun _ => hF.2.1⟩, isfr rfl hF.1 (blk_lt hF.2.1)⟩
        refine ⟨fun S wu5 hC hS hd hi => ?_, ?_⟩
        · skip
          replace hC := show (¬ S 14 → Below w4.heap.size w4 wu5) ∧ (S 14 → Af29 w0 w4 wu5 p (R ++ [(rT (kT tt.toNat).1 (kT tt.toNat).2 ow mk_ ((R.length : Nat) : Int))])) from hC
          replace hC := hC.1 (fun h => hi (hS.down 13 (hS.down 14 h 13 (by decide)) 5 (by decide)))
          have h2 := hS.post 2 (hd 2 (by decide))
          obtain ⟨ea1, ec1, h2, hr1⟩ := h2
          replace hr1 := hr1 hi
          rw [h2] at hr1
          have h4 := hS.post 4 (hd 4 (by decide))
          obtain ⟨b4, h4, hle5, hk6⟩ := h4
          replace hk6 := hk6 hi
          replace hb := hb.trans (hC.mono hb.size)
          replace hk1 := blk_ext hk1 hC
          replace hk4 := blk_ext hk4 hC
          replace hrr := Row.ext hrr hC
          have hrB := Row.of_new (k := 6) (V := vMRf) (l := [(((kT tt.toNat).1, (kT tt.toNat).2, ()), ow, mk_, ((R.length : Nat) : Int), true, ())]) (base := w4.heap.size) hk6 hle5 rfl rfl (Nat.le_of_ble_eq_true rfl)
          refine Does.mono (d_append (V := vMRf) (k := 6) (e := 132) (bytes := 64) (z := (.agg #[(.string ⟨#[]⟩), (.string ⟨#[]⟩), (.int .i64 (0 : Int)), (.int .u64 (0 : Int)), (.int .i64 (0 : Int)), (.bool false)])) (news := [(((kT tt.toNat).1, (kT tt.toNat).2, ()), ow, mk_, ((R.length : Nat) : Int), true, ())]) (base := w4.heap.size) (by intros; rfl) (by exact oneMRf) (congrArg some h2) (congrArg some h4) Try.underlying76 (by kernel_rfl) rfl rfl rfl hr1 (Row.rd (by intros; rfl) hrB) rfl (fun h => by cases h) (by first | omega | (simp only [List.length_cons, List.length_nil, List.length_append, nums_len]; omega)) hC.size) ?_
          rintro v' wz ⟨hY, hgY⟩
          obtain ⟨ra, rc, rfl, _, _⟩ := Row.slice hY
          obtain ⟨br, rfl, hbr, _⟩ := Row.some hY (by first | omega | (simp only [Sl.list_length, List.length_set, List.length_take, List.length_append, List.length_replicate, List.length_cons, List.length_nil, List.length_map, nums_len]; omega))
          refine ⟨⟨⟨fun _ => hC.trans (row_below hr1 hgY hC.size (Nat.le_refl _)), fun hs => by rcases hs with e | hs; exact absurd e (by decide); exact absurd (hS.down 13 (hS.down 14 hs 13 (by decide)) 5 (by decide)) hi⟩, fun j hj => ?_, hgY.size⟩, ⟨br, ⟨rc, rfl⟩, hbr, hY⟩, nofr rfl⟩
          match j with
          | 0 =>
            obtain ⟨c, e1, e2, e3⟩ := hS.post 0 hj
            exact ⟨c, e1, e2, fun hn => absurd (.inr (hd 2 (by decide))) hn⟩
          | 1 =>
            exact hS.post 1 hj
          | 2 =>
            obtain ⟨a, c, e1, e2⟩ := hS.post 2 hj
            exact ⟨a, c, e1, fun hn => absurd (.inl rfl) hn⟩
          | 3 =>
            exact hS.post 3 hj
          | 4 =>
            exact ⟨b4, h4, hle5, fun hn => absurd (.inl rfl) hn⟩
          | 5 =>
            exact absurd hj hi
          | 6 =>
            exact hS.post 6 hj
          | 7 =>
            exact hS.post 7 hj
          | 8 =>
            exact hS.post 8 hj
          | 9 =>
            exact hS.post 9 hj
          | 10 =>
            exact hS.post 10 hj
          | 11 =>
            exact hS.post 11 hj
          | 12 =>
            exact hS.post 12 hj
          | 13 =>
            exact absurd (hS.down 13 hj 5 (by decide)) hi
          | 14 =>
            exact hS.post 14 hj
          | 15 =>
            exact hS.post 15 hj
          | 16 =>
            exact hS.post 16 hj
          | 17 =>
            exact hS.post 17 hj
          | 18 =>
            exact hS.post 18 hj
          | _ + 19 => trivial
        refine ⟨fun S wu6 hC hS hd hi => ?_, ?_⟩
        · skip
          replace hC := show (¬ S 14 → Below w4.heap.size w4 wu6) ∧ (S 14 → Af29 w0 w4 wu6 p (R ++ [(rT (kT tt.toNat).1 (kT tt.toNat).2 ow mk_ ((R.length : Nat) : Int))])) from hC
          refine uv_plain (C := (fun S wq => (¬ S 14 → Below w4.heap.size w4 wq) ∧ (S 14 → Af29 w0 w4 wq p (R ++ [(rT (kT tt.toNat).1 (kT tt.toNat).2 ow mk_ ((R.length : Nat) : Int))])))) (hKP 6 S wu6 (by decide)) (fun _ h1 h2 => ⟨fun hn => Below.trans (h1.1 (fun hs => hn (.inr hs))) (Below.mono h2 (Below.size (h1.1 (fun hs => hn (.inr hs))))), fun hs => (h1.2 (by rcases hs with e | hs; exact absurd e (by decide); exact hs)).ext h2⟩) hC hS ?_
          replace hC := hC.1 (fun h => hi (hS.down 14 h 6 (by decide)))
          replace hb := hb.trans (hC.mono hb.size)
          replace hk1 := blk_ext hk1 hC
          replace hk4 := blk_ext hk4 hC
          replace hrr := Row.ext hrr hC
          exact Runs.does (r_move rfl) ⟨Below.refl _ _, rfl, nofr rfl⟩
        refine ⟨fun S wu7 hC hS hd hi => ?_, ?_⟩
        · skip
          replace hC := show (¬ S 14 → Below w4.heap.size w4 wu7) ∧ (S 14 → Af29 w0 w4 wu7 p (R ++ [(rT (kT tt.toNat).1 (kT tt.toNat).2 ow mk_ ((R.length : Nat) : Int))])) from hC
          refine uv_plain (C := (fun S wq => (¬ S 14 → Below w4.heap.size w4 wq) ∧ (S 14 → Af29 w0 w4 wq p (R ++ [(rT (kT tt.toNat).1 (kT tt.toNat).2 ow mk_ ((R.length : Nat) : Int))])))) (hKP 7 S wu7 (by decide)) (fun _ h1 h2 => ⟨fun hn => Below.trans (h1.1 (fun hs => hn (.inr hs))) (Below.mono h2 (Below.size (h1.1 (fun hs => hn (.inr hs))))), fun hs => (h1.2 (by rcases hs with e | hs; exact absurd e (by decide); exact hs)).ext h2⟩) hC hS ?_
          replace hC := hC.1 (fun h => hi (hS.down 8 (hS.down 13 (hS.down 14 h 13 (by decide)) 8 (by decide)) 7 (by decide)))
          replace hb := hb.trans (hC.mono hb.size)
          replace hk1 := blk_ext hk1 hC
          replace hk4 := blk_ext hk4 hC
          replace hrr := Row.ext hrr hC
          exact Runs.does (r_fa rfl Try.underlying28 (f := 3) (q := 3) rfl (by kernel_rfl) rfl) ⟨Below.refl _ _, rfl, nofr rfl⟩
        refine ⟨fun S wu8 hC hS hd hi => ?_, ?_⟩
        · skip
          replace hC := show (¬ S 14 → Below w4.heap.size w4 wu8) ∧ (S 14 → Af29 w0 w4 wu8 p (R ++ [(rT (kT tt.toNat).1 (kT tt.toNat).2 ow mk_ ((R.length : Nat) : Int))])) from hC
          refine uv_plain (C := (fun S wq => (¬ S 14 → Below w4.heap.size w4 wq) ∧ (S 14 → Af29 w0 w4 wq p (R ++ [(rT (kT tt.toNat).1 (kT tt.toNat).2 ow mk_ ((R.length : Nat) : Int))])))) (hKP 8 S wu8 (by decide)) (fun _ h1 h2 => ⟨fun hn => Below.trans (h1.1 (fun hs => hn (.inr hs))) (Below.mono h2 (Below.size (h1.1 (fun hs => hn (.inr hs))))), fun hs => (h1.2 (by rcases hs with e | hs; exact absurd e (by decide); exact hs)).ext h2⟩) hC hS ?_
          replace hC := hC.1 (fun h => hi (hS.down 13 (hS.down 14 h 13 (by decide)) 8 (by decide)))
          have h7 := hS.post 7 (hd 7 (by decide))
          replace h7 : V 7 = (.pointer (some ⟨b1, 3, none⟩)) := h7
          replace hb := hb.trans (hC.mono hb.size)
          replace hk1 := blk_ext hk1 hC
          replace hk4 := blk_ext hk4 hC
          replace hrr := Row.ext hrr hC
          exact Runs.does (r_load (v := (.int .u8 tt)) (congrArg some h7) Try.underlying5 rfl (cell_blk hk1 rfl)) ⟨Below.refl _ _, rfl, nofr rfl⟩
        refine ⟨fun S wu9 hC hS hd hi => ?_, ?_⟩
        · skip
          replace hC := show (¬ S 14 → Below w4.heap.size w4 wu9) ∧ (S 14 → Af29 w0 w4 wu9 p (R ++ [(rT (kT tt.toNat).1 (kT tt.toNat).2 ow mk_ ((R.length : Nat) : Int))])) from hC
          refine uv_plain (C := (fun S wq => (¬ S 14 → Below w4.heap.size w4 wq) ∧ (S 14 → Af29 w0 w4 wq p (R ++ [(rT (kT tt.toNat).1 (kT tt.toNat).2 ow mk_ ((R.length : Nat) : Int))])))) (hKP 9 S wu9 (by decide)) (fun _ h1 h2 => ⟨fun hn => Below.trans (h1.1 (fun hs => hn (.inr hs))) (Below.mono h2 (Below.size (h1.1 (fun hs => hn (.inr hs))))), fun hs => (h1.2 (by rcases hs with e | hs; exact absurd e (by decide); exact hs)).ext h2⟩) hC hS ?_
          replace hC := hC.1 (fun h => hi (hS.down 10 (hS.down 13 (hS.down 14 h 13 (by decide)) 10 (by decide)) 9 (by decide)))
          replace hb := hb.trans (hC.mono hb.size)
          replace hk1 := blk_ext hk1 hC
          replace hk4 := blk_ext hk4 hC
          replace hrr := Row.ext hrr hC
          exact Runs.does (r_fa rfl Try.underlying28 (f := 4) (q := 4) rfl (by kernel_rfl) rfl) ⟨Below.refl _ _, rfl, nofr rfl⟩
        refine ⟨fun S wu10 hC hS hd hi => ?_, ?_⟩
        · skip
          replace hC := show (¬ S 14 → Below w4.heap.size w4 wu10) ∧ (S 14 → Af29 w0 w4 wu10 p (R ++ [(rT (kT tt.toNat).1 (kT tt.toNat).2 ow mk_ ((R.length : Nat) : Int))])) from hC
          refine uv_plain (C := (fun S wq => (¬ S 14 → Below w4.heap.size w4 wq) ∧ (S 14 → Af29 w0 w4 wq p (R ++ [(rT (kT tt.toNat).1 (kT tt.toNat).2 ow mk_ ((R.length : Nat) : Int))])))) (hKP 10 S wu10 (by decide)) (fun _ h1 h2 => ⟨fun hn => Below.trans (h1.1 (fun hs => hn (.inr hs))) (Below.mono h2 (Below.size (h1.1 (fun hs => hn (.inr hs))))), fun hs => (h1.2 (by rcases hs with e | hs; exact absurd e (by decide); exact hs)).ext h2⟩) hC hS ?_
          replace hC := hC.1 (fun h => hi (hS.down 13 (hS.down 14 h 13 (by decide)) 10 (by decide)))
          have h9 := hS.post 9 (hd 9 (by decide))
          replace h9 : V 9 = (.pointer (some ⟨b1, 4, none⟩)) := h9
          replace hb := hb.trans (hC.mono hb.size)
          replace hk1 := blk_ext hk1 hC
          replace hk4 := blk_ext hk4 hC
          replace hrr := Row.ext hrr hC
          exact Runs.does (r_load (v := (.int .i64 ow)) (congrArg some h9) Try.underlying3 rfl (cell_blk hk1 rfl)) ⟨Below.refl _ _, rfl, nofr rfl⟩
        refine ⟨fun S wu11 hC hS hd hi => ?_, ?_⟩
        · skip
          replace hC := show (¬ S 14 → Below w4.heap.size w4 wu11) ∧ (S 14 → Af29 w0 w4 wu11 p (R ++ [(rT (kT tt.toNat).1 (kT tt.toNat).2 ow mk_ ((R.length : Nat) : Int))])) from hC
          refine uv_plain (C := (fun S wq => (¬ S 14 → Below w4.heap.size w4 wq) ∧ (S 14 → Af29 w0 w4 wq p (R ++ [(rT (kT tt.toNat).1 (kT tt.toNat).2 ow mk_ ((R.length : Nat) : Int))])))) (hKP 11 S wu11 (by decide)) (fun _ h1 h2 => ⟨fun hn => Below.trans (h1.1 (fun hs => hn (.inr hs))) (Below.mono h2 (Below.size (h1.1 (fun hs => hn (.inr hs))))), fun hs => (h1.2 (by rcases hs with e | hs; exact absurd e (by decide); exact hs)).ext h2⟩) hC hS ?_
          replace hC := hC.1 (fun h => hi (hS.down 12 (hS.down 13 (hS.down 14 h 13 (by decide)) 12 (by decide)) 11 (by decide)))
          replace hb := hb.trans (hC.mono hb.size)
          replace hk1 := blk_ext hk1 hC
          replace hk4 := blk_ext hk4 hC
          replace hrr := Row.ext hrr hC
          exact Runs.does (r_fa rfl Try.underlying28 (f := 5) (q := 5) rfl (by kernel_rfl) rfl) ⟨Below.refl _ _, rfl, nofr rfl⟩
        refine ⟨fun S wu12 hC hS hd hi => ?_, ?_⟩
        · skip
          replace hC := show (¬ S 14 → Below w4.heap.size w4 wu12) ∧ (S 14 → Af29 w0 w4 wu12 p (R ++ [(rT (kT tt.toNat).1 (kT tt.toNat).2 ow mk_ ((R.length : Nat) : Int))])) from hC
          refine uv_plain (C := (fun S wq => (¬ S 14 → Below w4.heap.size w4 wq) ∧ (S 14 → Af29 w0 w4 wq p (R ++ [(rT (kT tt.toNat).1 (kT tt.toNat).2 ow mk_ ((R.length : Nat) : Int))])))) (hKP 12 S wu12 (by decide)) (fun _ h1 h2 => ⟨fun hn => Below.trans (h1.1 (fun hs => hn (.inr hs))) (Below.mono h2 (Below.size (h1.1 (fun hs => hn (.inr hs))))), fun hs => (h1.2 (by rcases hs with e | hs; exact absurd e (by decide); exact hs)).ext h2⟩) hC hS ?_
          replace hC := hC.1 (fun h => hi (hS.down 13 (hS.down 14 h 13 (by decide)) 12 (by decide)))
          have h11 := hS.post 11 (hd 11 (by decide))
          replace h11 : V 11 = (.pointer (some ⟨b1, 5, none⟩)) := h11
          replace hb := hb.trans (hC.mono hb.size)
          replace hk1 := blk_ext hk1 hC
          replace hk4 := blk_ext hk4 hC
          replace hrr := Row.ext hrr hC
          exact Runs.does (r_load (v := (.int .u64 mk_)) (congrArg some h11) Try.underlying26 rfl (cell_blk hk1 rfl)) ⟨Below.refl _ _, rfl, nofr rfl⟩
        refine ⟨fun S wu13 hC hS hd hi => ?_, ?_⟩
        · skip
          replace hC := show (¬ S 14 → Below w4.heap.size w4 wu13) ∧ (S 14 → Af29 w0 w4 wu13 p (R ++ [(rT (kT tt.toNat).1 (kT tt.toNat).2 ow mk_ ((R.length : Nat) : Int))])) from hC
          refine uv_plain (C := (fun S wq => (¬ S 14 → Below w4.heap.size w4 wq) ∧ (S 14 → Af29 w0 w4 wq p (R ++ [(rT (kT tt.toNat).1 (kT tt.toNat).2 ow mk_ ((R.length : Nat) : Int))])))) (hKP 13 S wu13 (by decide)) (fun _ h1 h2 => ⟨fun hn => Below.trans (h1.1 (fun hs => hn (.inr hs))) (Below.mono h2 (Below.size (h1.1 (fun hs => hn (.inr hs))))), fun hs => (h1.2 (by rcases hs with e | hs; exact absurd e (by decide); exact hs)).ext h2⟩) hC hS ?_
          replace hC := hC.1 (fun h => hi (hS.down 14 h 13 (by decide)))
          have h5 := hS.post 5 (hd 5 (by decide))
          obtain ⟨mb2, ⟨mc2, h5⟩, hle6, hr2⟩ := h5
          rw [h5] at hr2
          have h8 := hS.post 8 (hd 8 (by decide))
          replace h8 : V 8 = (.int .u8 tt) := h8
          have h10 := hS.post 10 (hd 10 (by decide))
          replace h10 : V 10 = (.int .i64 ow) := h10
          have h12 := hS.post 12 (hd 12 (by decide))
          replace h12 : V 12 = (.int .u64 mk_) := h12
          replace hb := hb.trans (hC.mono hb.size)
          replace hk1 := blk_ext hk1 hC
          replace hk4 := blk_ext hk4 hC
          replace hrr := Row.ext hrr hC
          refine Does.mono (d_callX (vs := [(.int .u8 tt), (.int .i64 ow), (.int .u64 mk_)]) (show [some (V 8), some (V 10), some (V 12)] = [some (.int .u8 tt), some (.int .i64 ow), some (.int .u64 mk_)] from by rw [h8, h10, h12]) Try.func13 (by kernel_rfl) (by kernel_rfl) (made_S tt ow mk_ _ hT)) ?_
          rintro _ w' ⟨k, rfl, hF7, hF8, hF9⟩
          exact ⟨hF9, ⟨k, rfl, Nat.le_trans hC.size hF7, hF8⟩, nofr rfl⟩
        refine ⟨fun S wu14 hC hS hd hi => ?_, ?_⟩
        · skip
          replace hC := show (¬ S 14 → Below w4.heap.size w4 wu14) ∧ (S 14 → Af29 w0 w4 wu14 p (R ++ [(rT (kT tt.toNat).1 (kT tt.toNat).2 ow mk_ ((R.length : Nat) : Int))])) from hC
          replace hC := hC.1 hi
          have h6 := hS.post 6 (hd 6 (by decide))
          replace h6 : V 6 = (.pointer (some ⟨p, 0, none⟩)) := h6
          have h13 := hS.post 13 (hd 13 (by decide))
          obtain ⟨mk1, h13, hle7, hk7⟩ := h13
          skip
          replace hb := hb.trans (hC.mono hb.size)
          replace hk1 := blk_ext hk1 hC
          replace hk4 := blk_ext hk4 hC
          replace hrr := Row.ext hrr hC
          refine Does.mono (d_callX (vs := [(.pointer (some ⟨p, 0, none⟩)), (.agg #[(.string (kT tt.toNat).1), (.string (kT tt.toNat).2), (.int .i64 ow), (.string ⟨#[]⟩), (.slice (some ⟨mk1, 0, none⟩) 2 2), (.slice none 0 0), (.slice none 0 0)])]) (show [some (V 6), some (V 13)] = [some (.pointer (some ⟨p, 0, none⟩)), some (.agg #[(.string (kT tt.toNat).1), (.string (kT tt.toNat).2), (.int .i64 ow), (.string ⟨#[]⟩), (.slice (some ⟨mk1, 0, none⟩) 2 2), (.slice none 0 0), (.slice none 0 0)])] from by rw [h6, h13]) Try.func12 (by kernel_rfl) (by kernel_rfl) (add_S hb (hSt.ext hC) hk7 (by omega))) ?_
          rintro _ wz ⟨rfl, hF2, hb2, hP2⟩
          refine ⟨⟨⟨fun hn => absurd (.inl rfl) hn, fun _ => ⟨hF2, hb2, (Pk.of_below hC).trans hP2⟩⟩, fun j hj => ?_, hP2.2.2.2⟩, rfl, nofr rfl⟩
          match j with
          | 0 =>
            obtain ⟨c, e1, e2, e3⟩ := hS.post 0 hj
            exact ⟨c, e1, e2, fun hn => hP2.1 _ _ (e3 (fun hs => hn (.inr hs)))⟩
          | 1 =>
            exact hS.post 1 hj
          | 2 =>
            obtain ⟨a, c, e1, e2⟩ := hS.post 2 hj
            exact ⟨a, c, e1, fun hn => Row.kt (e2 (fun hs => hn (.inr hs))) hP2.1⟩
          | 3 =>
            exact hS.post 3 hj
          | 4 =>
            obtain ⟨c, e1, e2, e3⟩ := hS.post 4 hj
            exact ⟨c, e1, e2, fun hn => hP2.1 _ _ (e3 (fun hs => hn (.inr hs)))⟩
          | 5 =>
            obtain ⟨c, e1, e2, e3⟩ := hS.post 5 hj
            exact ⟨c, e1, e2, Row.kt e3 hP2.1⟩
          | 6 =>
            exact hS.post 6 hj
          | 7 =>
            exact hS.post 7 hj
          | 8 =>
            exact hS.post 8 hj
          | 9 =>
            exact hS.post 9 hj
          | 10 =>
            exact hS.post 10 hj
          | 11 =>
            exact hS.post 11 hj
          | 12 =>
            exact hS.post 12 hj
          | 13 =>
            obtain ⟨k, e1, e2, e3⟩ := hS.post 13 hj
            exact ⟨k, e1, e2, hP2.2.1 _ _ e3⟩
          | 14 =>
            exact absurd hj hi
          | 15 =>
            exact hS.post 15 hj
          | 16 =>
            exact hS.post 16 hj
          | 17 =>
            exact hS.post 17 hj
          | 18 =>
            exact hS.post 18 hj
          | _ + 19 => trivial
        refine ⟨fun S wu15 hC hS hd hi => ?_, ?_⟩
        · skip
          replace hC := show (¬ S 14 → Below w4.heap.size w4 wu15) ∧ (S 14 → Af29 w0 w4 wu15 p (R ++ [(rT (kT tt.toNat).1 (kT tt.toNat).2 ow mk_ ((R.length : Nat) : Int))])) from hC
          refine uv_plain (C := (fun S wq => (¬ S 14 → Below w4.heap.size w4 wq) ∧ (S 14 → Af29 w0 w4 wq p (R ++ [(rT (kT tt.toNat).1 (kT tt.toNat).2 ow mk_ ((R.length : Nat) : Int))])))) (hKP 15 S wu15 (by decide)) (fun _ h1 h2 => ⟨fun hn => Below.trans (h1.1 (fun hs => hn (.inr hs))) (Below.mono h2 (Below.size (h1.1 (fun hs => hn (.inr hs))))), fun hs => (h1.2 (by rcases hs with e | hs; exact absurd e (by decide); exact hs)).ext h2⟩) hC hS ?_
          exact Runs.does (r_move rfl) ⟨Below.refl _ _, rfl, nofr rfl⟩
        refine ⟨fun S wu16 hC hS hd hi => ?_, ?_⟩
        · skip
          replace hC := show (¬ S 14 → Below w4.heap.size w4 wu16) ∧ (S 14 → Af29 w0 w4 wu16 p (R ++ [(rT (kT tt.toNat).1 (kT tt.toNat).2 ow mk_ ((R.length : Nat) : Int))])) from hC
          refine uv_plain (C := (fun S wq => (¬ S 14 → Below w4.heap.size w4 wq) ∧ (S 14 → Af29 w0 w4 wq p (R ++ [(rT (kT tt.toNat).1 (kT tt.toNat).2 ow mk_ ((R.length : Nat) : Int))])))) (hKP 16 S wu16 (by decide)) (fun _ h1 h2 => ⟨fun hn => Below.trans (h1.1 (fun hs => hn (.inr hs))) (Below.mono h2 (Below.size (h1.1 (fun hs => hn (.inr hs))))), fun hs => (h1.2 (by rcases hs with e | hs; exact absurd e (by decide); exact hs)).ext h2⟩) hC hS ?_
          have h15 := hS.post 15 (hd 15 (by decide))
          replace h15 : V 15 = (.slice a R.length c) := h15
          exact Runs.does (r_lensl (congrArg some h15) Try.underlying76) ⟨Below.refl _ _, rfl, nofr rfl⟩
        refine ⟨fun S wu17 hC hS hd hi => ?_, ?_⟩
        · skip
          replace hC := show (¬ S 14 → Below w4.heap.size w4 wu17) ∧ (S 14 → Af29 w0 w4 wu17 p (R ++ [(rT (kT tt.toNat).1 (kT tt.toNat).2 ow mk_ ((R.length : Nat) : Int))])) from hC
          refine uv_plain (C := (fun S wq => (¬ S 14 → Below w4.heap.size w4 wq) ∧ (S 14 → Af29 w0 w4 wq p (R ++ [(rT (kT tt.toNat).1 (kT tt.toNat).2 ow mk_ ((R.length : Nat) : Int))])))) (hKP 17 S wu17 (by decide)) (fun _ h1 h2 => ⟨fun hn => Below.trans (h1.1 (fun hs => hn (.inr hs))) (Below.mono h2 (Below.size (h1.1 (fun hs => hn (.inr hs))))), fun hs => (h1.2 (by rcases hs with e | hs; exact absurd e (by decide); exact hs)).ext h2⟩) hC hS ?_
          have h14 := hS.post 14 (hd 14 (by decide))
          replace h14 : V 14 = (.int .i64 ((R.length : Nat) : Int)) := h14
          have h16 := hS.post 16 (hd 16 (by decide))
          replace h16 : V 16 = (.int .i64 ((R.length : Nat) : Int)) := h16
          exact Runs.does (Runs.veq (r_eq (congrArg some h14) (congrArg some h16)) (congrArg Value.bool (show _ = true from (by simp)))) ⟨Below.refl _ _, rfl, nofr rfl⟩
        refine ⟨fun S wu18 hC hS hd hi => ?_, ?_⟩
        · skip
          replace hC := show (¬ S 14 → Below w4.heap.size w4 wu18) ∧ (S 14 → Af29 w0 w4 wu18 p (R ++ [(rT (kT tt.toNat).1 (kT tt.toNat).2 ow mk_ ((R.length : Nat) : Int))])) from hC
          refine uv_plain (C := (fun S wq => (¬ S 14 → Below w4.heap.size w4 wq) ∧ (S 14 → Af29 w0 w4 wq p (R ++ [(rT (kT tt.toNat).1 (kT tt.toNat).2 ow mk_ ((R.length : Nat) : Int))])))) (hKP 18 S wu18 (by decide)) (fun _ h1 h2 => ⟨fun hn => Below.trans (h1.1 (fun hs => hn (.inr hs))) (Below.mono h2 (Below.size (h1.1 (fun hs => hn (.inr hs))))), fun hs => (h1.2 (by rcases hs with e | hs; exact absurd e (by decide); exact hs)).ext h2⟩) hC hS ?_
          have h0 := hS.post 0 (hd 0 (by decide))
          obtain ⟨b3, h0, hle3, hk5⟩ := h0
          clear hk5
          have h1 := hS.post 1 (hd 1 (by decide))
          replace h1 : V 1 = (.slice a R.length c) := h1
          have h2 := hS.post 2 (hd 2 (by decide))
          obtain ⟨ea1, ec1, h2, hr1⟩ := h2
          clear hr1
          have h3 := hS.post 3 (hd 3 (by decide))
          replace h3 : V 3 = (.agg #[(.string (kT tt.toNat).1), (.string (kT tt.toNat).2), (.int .i64 ow), (.int .u64 mk_), (.int .i64 ((R.length : Nat) : Int)), (.bool true)]) := h3
          have h4 := hS.post 4 (hd 4 (by decide))
          obtain ⟨b4, h4, hle5, hk6⟩ := h4
          clear hk6
          have h5 := hS.post 5 (hd 5 (by decide))
          obtain ⟨mb2, ⟨mc2, h5⟩, hle6, hr2⟩ := h5
          rw [h5] at hr2
          have h14 := hS.post 14 (hd 14 (by decide))
          replace h14 : V 14 = (.int .i64 ((R.length : Nat) : Int)) := h14
          exact Runs.does (r_assign (v := V 5) rfl) ⟨Below.refl _ _, rfl, nofr rfl⟩
        trivial
      · skip
        clear hf fa; intro V S w5 fa hall he3 hp hnb hf
        have hv0 := postsHold_at hp 0 rfl
        obtain ⟨b3, hv0, hle3, hk5⟩ := hv0
        clear hk5
        have hBb3 : w0.heap.size ≤ b3 := Nat.le_trans hb.size hle3
        have hv1 := postsHold_at hp 1 rfl
        replace hv1 : V 1 = (.slice a R.length c) := hv1
        have hv2 := postsHold_at hp 2 rfl
        obtain ⟨ea1, ec1, hv2, hr1⟩ := hv2
        clear hr1
        have hv3 := postsHold_at hp 3 rfl
        replace hv3 : V 3 = (.agg #[(.string (kT tt.toNat).1), (.string (kT tt.toNat).2), (.int .i64 ow), (.int .u64 mk_), (.int .i64 ((R.length : Nat) : Int)), (.bool true)]) := hv3
        have hv4 := postsHold_at hp 4 rfl
        obtain ⟨b4, hv4, hle5, hk6⟩ := hv4
        clear hk6
        have hBb4 : w0.heap.size ≤ b4 := Nat.le_trans hb.size hle5
        have hv5 := postsHold_at hp 5 rfl
        obtain ⟨mb2, ⟨mc2, hv5⟩, hle6, hr2⟩ := hv5
        rw [hv5] at hr2
        replace hr2 := Row.rebase hr2 hb.size
        have hcmc2 := Row.caps hr2
        have hBmb2 : w0.heap.size ≤ mb2 := Nat.le_trans hb.size hle6
        have hv6 := postsHold_at hp 6 rfl
        replace hv6 : V 6 = (.pointer (some ⟨p, 0, none⟩)) := hv6
        have hv7 := postsHold_at hp 7 rfl
        replace hv7 : V 7 = (.pointer (some ⟨b1, 3, none⟩)) := hv7
        have hv8 := postsHold_at hp 8 rfl
        replace hv8 : V 8 = (.int .u8 tt) := hv8
        have hv9 := postsHold_at hp 9 rfl
        replace hv9 : V 9 = (.pointer (some ⟨b1, 4, none⟩)) := hv9
        have hv10 := postsHold_at hp 10 rfl
        replace hv10 : V 10 = (.int .i64 ow) := hv10
        have hv11 := postsHold_at hp 11 rfl
        replace hv11 : V 11 = (.pointer (some ⟨b1, 5, none⟩)) := hv11
        have hv12 := postsHold_at hp 12 rfl
        replace hv12 : V 12 = (.int .u64 mk_) := hv12
        have hv13 := postsHold_at hp 13 rfl
        obtain ⟨mk1, hv13, hle7, hk7⟩ := hv13
        skip
        have hv14 := postsHold_at hp 14 rfl
        replace hv14 : V 14 = (.int .i64 ((R.length : Nat) : Int)) := hv14
        have hv15 := postsHold_at hp 15 rfl
        replace hv15 : V 15 = (.slice a R.length c) := hv15
        have hv16 := postsHold_at hp 16 rfl
        replace hv16 : V 16 = (.int .i64 ((R.length : Nat) : Int)) := hv16
        have hv17 := postsHold_at hp 17 rfl
        replace hv17 : V 17 = (.bool true) := hv17
        have hv18 := postsHold_at hp 18 rfl
        replace hv18 : V 18 = V 5 := hv18
        simp only [hv5, bk_slice, bk_ptr] at hv18
        simp only [List.take_succ_cons, List.take_zero, insAll, ins, hv0, hv1, hv2, hv3, hv4, hv5, hv6, hv7, hv8, hv9, hv10, hv11, hv12, hv13, hv14, hv15, hv16, hv17, hv18] at hf
        have : b3 ≠ b4 := two_blk (i := 0) (j := 4) hnb rfl rfl rfl rfl rfl (by rw [hv0]; rfl) (by rw [hv4]; rfl)
        have : b1 < b3 := Nat.lt_of_lt_of_le (blk_lt hk1) hle3
        have : b1 < b4 := Nat.lt_of_lt_of_le (blk_lt hk1) hle5
        have : b2 < b3 := Nat.lt_of_lt_of_le (blk_lt hk4) hle3
        have : b2 < b4 := Nat.lt_of_lt_of_le (blk_lt hk4) hle5
        replace he3 := he3.2 (hall 14 (show 14 < 19 by decide))
        clear hp hnb hall hv0 hv1 hv2 hv3 hv4 hv5 hv6 hv7 hv8 hv9 hv10 hv11 hv12 hv13 hv14 hv15 hv16 hv17 hv18
        skip
        obtain ⟨hF2, hb2, hP2⟩ := he3
        clear hSt
        have hSt : St29 w0.heap.size w5 p (R ++ [(rT (kT tt.toNat).1 (kT tt.toNat).2 ow mk_ ((R.length : Nat) : Int))]) := hF2
        replace hb := hb2
        replace hk1 := hP2.2.2.1 _ _ hk1
        replace hk4 := hP2.1 _ _ hk4
        replace hrr := Row.kt hrr hP2.1
        simp only [List.drop_succ_cons, List.drop_zero]
        refine sqv hf (r_assign rfl) rfl rfl rfl ?_; clear hf fa; intro fa hf
        apply wpList_nil
        (try simp only [Exit.then, Exit.inBlock, ↓reduceIte, Nat.reduceEqDiff])
        refine hK7 _ _ ?_
        refine wp_ret ?_
        (try simp only [Exit.then, Exit.inBlock])
        refine ret2 hf rfl rfl rfl ?_
        have hzz := hr2
        exact ⟨_, (R ++ [(rT (kT tt.toNat).1 (kT tt.toNat).2 ow mk_ ((R.length : Nat) : Int))]), rfl, hzz, hSt, by rw [List.length_append]; exact Nat.le_refl _, hb⟩
    · have hqt25_1b := hqt25_1
      replace hqt25_1 := Bool.eq_false_iff.1 hqt25_1
      try simp only [ne_eq, decide_eq_true_eq, Bool.and_eq_true, Bool.or_eq_true, Bool.not_eq_true', decide_eq_false_iff_not] at hqt25_1
      refine wp_seq_k (fun K8 hK8 => ?_)
      refine wp_region_lit ?_
      refine sqv hf (r_eq rfl rfl) rfl rfl rfl ?_; clear hf fa; intro fa hf
      refine sqv hf (r_assign rfl) rfl rfl rfl ?_; clear hf fa; intro fa hf
      apply wpList_nil
      (try simp only [Exit.then, Exit.inBlock, ↓reduceIte, Nat.reduceEqDiff])
      refine hK8 _ _ ?_
      refine wp_cond_split (t := (decide (kd = (1 : Int)))) (hf.ev rfl) (fun hqt48_1 => ?_) (fun hqt48_1 => ?_)
      · have hqt48_1b := hqt48_1
        try simp only [decide_eq_true_eq, Bool.and_eq_true, Bool.or_eq_true, Bool.not_eq_true', decide_eq_false_iff_not, ne_eq, Bool.not_eq_true] at hqt48_1
        refine wp_seq_k (fun K9 hK9 => ?_)
        refine wp_region_lit ?_
        refine sqv hf (r_move rfl) rfl rfl rfl ?_; clear hf fa; intro fa hf
        refine sqv hf (r_fa rfl Try.underlying28 (f := 1) (q := 1) rfl (by kernel_rfl) rfl) rfl rfl rfl ?_; clear hf fa; intro fa hf
        refine sqv hf (r_load (v := (.int .i64 ia)) rfl Try.underlying3 rfl (cell_blk hk1 rfl)) rfl rfl rfl ?_; clear hf fa; intro fa hf
        refine sqv hf (r_fa rfl Try.underlying28 (f := 2) (q := 2) rfl (by kernel_rfl) rfl) rfl rfl rfl ?_; clear hf fa; intro fa hf
        refine sqv hf (r_load (v := (.int .i64 ib)) rfl Try.underlying3 rfl (cell_blk hk1 rfl)) rfl rfl rfl ?_; clear hf fa; intro fa hf
        refine sqdt hf (d_callX (vs := [(.pointer (some ⟨p, 0, none⟩)), (.int .i64 ia), (.int .i64 ib)]) rfl Try.func14 (by kernel_rfl) (by kernel_rfl) (swap_S hb hSt ia ib)) rfl rfl rfl ?_; clear hf fa; rintro fa _ w6 ⟨qs, ⟨rfl, hq1, hq2⟩, hF2, hb2, hP2⟩ hf; clear hSt; have hSt : St29 w0.heap.size w6 p (rswP R ia ib).1 := hF2; clear hF2; replace hb := hb2; clear hb2
        replace hk1 := hP2.2.2.1 _ _ hk1
        replace hk3 := hP2.1 _ _ hk3
        replace hrr := Row.kt hrr hP2.1
        clear hP2
        refine sqv hf (r_move rfl) rfl rfl rfl ?_; clear hf fa; intro fa hf
        refine sqv hf (r_extract rfl (i := 0) rfl) rfl rfl rfl ?_; clear hf fa; intro fa hf
        refine sqv hf (r_extract rfl (i := 1) rfl) rfl rfl rfl ?_; clear hf fa; intro fa hf
        refine sqv hf (r_assign rfl) rfl rfl rfl ?_; clear hf fa; intro fa hf
        refine sqv hf (r_assign rfl) rfl rfl rfl ?_; clear hf fa; intro fa hf
        apply wpList_nil
        (try simp only [Exit.then, Exit.inBlock, ↓reduceIte, Nat.reduceEqDiff])
        refine hK9 _ _ ?_
        refine wp_seq_k (fun K10 hK10 => ?_)
        refine wp_region_lit ?_
        refine sqv hf (r_move rfl) rfl rfl rfl ?_; clear hf fa; intro fa hf
        refine sqv hf (r_fa rfl Try.underlying28 (f := 1) (q := 1) rfl (by kernel_rfl) rfl) rfl rfl rfl ?_; clear hf fa; intro fa hf
        refine sqv hf (r_load (v := (.int .i64 ia)) rfl Try.underlying3 rfl (cell_blk hk1 rfl)) rfl rfl rfl ?_; clear hf fa; intro fa hf
        refine sqv hf (r_fa rfl Try.underlying28 (f := 2) (q := 2) rfl (by kernel_rfl) rfl) rfl rfl rfl ?_; clear hf fa; intro fa hf
        refine sqv hf (r_load (v := (.int .i64 ib)) rfl Try.underlying3 rfl (cell_blk hk1 rfl)) rfl rfl rfl ?_; clear hf fa; intro fa hf
        refine sqdt hf (d_callX (vs := [(.slice a R.length c), (.int .i64 ia), (.int .i64 ib)]) rfl Try.func67 (by kernel_rfl) (by kernel_rfl) (rswap_to hb.size hrr hlc ia ib)) rfl rfl rfl ?_; clear hf fa; rintro fa _ w7 ⟨va, vc, rfl, hrn, he4⟩ hf
        replace hk1 := blk_ext hk1 he4
        replace hk3 := blk_ext hk3 he4
        replace hrr := Row.ext hrr he4
        replace hb := hb.trans (Below.mono he4 hb.size)
        replace hSt := hSt.ext he4
        refine sqv hf (r_move rfl) rfl rfl rfl ?_; clear hf fa; intro fa hf
        refine sqv hf (r_extract rfl (i := 0) rfl) rfl rfl rfl ?_; clear hf fa; intro fa hf
        refine sqv hf (r_extract rfl (i := 1) rfl) rfl rfl rfl ?_; clear hf fa; intro fa hf
        refine sqv hf (r_assign rfl) rfl rfl rfl ?_; clear hf fa; intro fa hf
        refine sqv hf (r_assign rfl) rfl rfl rfl ?_; clear hf fa; intro fa hf
        apply wpList_nil
        (try simp only [Exit.then, Exit.inBlock, ↓reduceIte, Nat.reduceEqDiff])
        refine hK10 _ _ ?_
        refine wp_seq_k (fun K11 hK11 => ?_)
        skip
        by_cases hsp1 : (rswP R ia ib).2 = 0
        · have hsp1b : decide ((rswP R ia ib).2 = 0) = true := decide_eq_true hsp1
          have hqa := hq1 hsp1
          have hir := rlB_in hqa.1
          obtain ⟨rb1, rfl, hbbrb1, hlbrb1⟩ := Row.some hrr (by first | omega | (simp only [Sl.list_length, List.length_set, List.length_take, List.length_append, List.length_replicate, List.length_cons, List.length_nil, List.length_map, nums_len]; omega))
          have hy1 : (R)[(ia).toNat]? = some (R.getD ia.toNat zMRf) := getD_at (l := R) (j := ia.toNat) _ (by omega)
          have hel1 := RdS.at (Row.rd (by intros; rfl) hrr) hy1
          obtain ⟨_, _, hab, hlr1, hel1⟩ := hel1
          cases hab
          refine wp_region_unT 27 (fun wq => Below w7.heap.size w7 wq) (fun w w' => Below w.heap.size w w')
            (fun V => [(fun x _ => x = (.slice va ((rswP R ia ib).1.length) vc)), (fun x _ => x = (.int .i64 ((rswP R ia ib).2))), (fun x _ => x = (.int .i64 ((rswP R ia ib).2))), (fun x _ => x = (.bool true)), (fun x _ => x = (.bool true)), (fun x _ => x = (.int .i64 ((rswP R ia ib).2))), (fun x _ => x = (.bool false)), (fun x _ => x = (.bool false)), (fun x _ => x = gb false (.bool false)), (fun x _ => x = gb false (.bool false)), (fun x _ => x = (.bool false)), (fun x _ => x = (.bool false)), (fun x _ => x = (.int .i64 ((rswP R ia ib).2))), (fun x _ => x = (.bool true)), (fun x _ => x = (.bool true)), (fun x _ => x = (.int .i64 qs)), (fun x _ => x = (.slice (some ⟨rb1, 0, none⟩) R.length c)), (fun x _ => x = (.pointer (some ⟨b1, 1, none⟩))), (fun x _ => x = (.int .i64 ia)), (fun x _ => x = (.pointer (some ⟨rb1, (0 + (ia).toNat * 6), none⟩))), (fun x _ => x = (.pointer (some ⟨rb1, ((0 + (ia).toNat * 6) + 4), none⟩))), (fun x _ => x = (.int .i64 ((R.getD ia.toNat zMRf).2.2.2.1))), (fun x _ => x = (.bool true)), (fun x _ => x = (.bool true)), (fun x _ => x = (.bool true)), (fun x _ => x = (.bool true)), (fun x _ => x = (.slice va ((rswP R ia ib).1.length) vc))])
            []
            [[], [], [], [1, 2], [3], [4], [4, 5], [4, 6], [7], [7, 8], [4, 7, 9], [4, 7, 10], [11], [11, 12], [11, 13], [14], [14], [14], [14, 17], [14, 16, 18], [14, 19], [14, 20], [14, 15, 21], [11, 14, 22], [4, 11, 23], [4, 24], [0, 14], []]
            hf (by kernel_rfl) (by kernel_rfl) (by kernel_rfl) (fun _ => rfl) ((Below.refl _ _).drew) (fun a b h1 h2 => h1.trans (h2.mono h1.size)) (fun _ _ h => h.size) (fun V => ⟨kept_eq, kept_eq, kept_eq, kept_eq, kept_eq, kept_eq, kept_eq, kept_eq, kept_eq, kept_eq, kept_eq, kept_eq, kept_eq, kept_eq, kept_eq, kept_eq, kept_eq, kept_eq, kept_eq, kept_eq, kept_eq, kept_eq, kept_eq, kept_eq, kept_eq, kept_eq, kept_eq, trivial⟩) (fun _ _ _ _ _ => rfl) ?_ ?_
          · skip
            intro V
            refine ⟨fun wu0 hC hd => ?_, ?_⟩
            · clear hd
              replace hb := hb.trans (hC.mono hb.size)
              replace hk1 := blk_ext hk1 hC
              replace hk3 := blk_ext hk3 hC
              replace hrr := Row.ext hrr hC
              replace hrn := Row.ext hrn hC
              exact Runs.does (r_move rfl) ⟨Below.refl _ _, rfl, nofr rfl⟩
            refine ⟨fun wu1 hC hd => ?_, ?_⟩
            · clear hd
              replace hb := hb.trans (hC.mono hb.size)
              replace hk1 := blk_ext hk1 hC
              replace hk3 := blk_ext hk3 hC
              replace hrr := Row.ext hrr hC
              replace hrn := Row.ext hrn hC
              exact Runs.does (r_move rfl) ⟨Below.refl _ _, rfl, nofr rfl⟩
            refine ⟨fun wu2 hC hd => ?_, ?_⟩
            · clear hd
              replace hb := hb.trans (hC.mono hb.size)
              replace hk1 := blk_ext hk1 hC
              replace hk3 := blk_ext hk3 hC
              replace hrr := Row.ext hrr hC
              replace hrn := Row.ext hrn hC
              exact Runs.does (r_move rfl) ⟨Below.refl _ _, rfl, nofr rfl⟩
            refine ⟨fun wu3 hC hd => ?_, ?_⟩
            · obtain ⟨h1, h2, _⟩ := hd
              skip
              skip
              replace h1 : V 1 = (.int .i64 ((rswP R ia ib).2)) := h1
              replace h2 : V 2 = (.int .i64 ((rswP R ia ib).2)) := h2
              replace hb := hb.trans (hC.mono hb.size)
              replace hk1 := blk_ext hk1 hC
              replace hk3 := blk_ext hk3 hC
              replace hrr := Row.ext hrr hC
              replace hrn := Row.ext hrn hC
              exact Runs.does (Runs.veq (r_eq (congrArg some h1) (congrArg some h2)) (congrArg Value.bool (show _ = true from (by simp)))) ⟨Below.refl _ _, rfl, nofr rfl⟩
            refine ⟨fun wu4 hC hd => ?_, ?_⟩
            · obtain ⟨h3, _⟩ := hd
              skip
              replace h3 : V 3 = (.bool true) := h3
              replace hb := hb.trans (hC.mono hb.size)
              replace hk1 := blk_ext hk1 hC
              replace hk3 := blk_ext hk3 hC
              replace hrr := Row.ext hrr hC
              replace hrn := Row.ext hrn hC
              exact Runs.does (r_move (congrArg some h3)) ⟨Below.refl _ _, rfl, nofr rfl⟩
            refine ⟨fun wu5 hC hd => ?_, ?_⟩
            · obtain ⟨h4, _⟩ := hd
              skip
              replace h4 : V 4 = (.bool true) := h4
              replace hb := hb.trans (hC.mono hb.size)
              replace hk1 := blk_ext hk1 hC
              replace hk3 := blk_ext hk3 hC
              replace hrr := Row.ext hrr hC
              replace hrn := Row.ext hrn hC
              refine ⟨true, true, congrArg some h4, fun hact => ?_, fun hact => ?_⟩
              · exact Runs.does (r_move rfl) ⟨Below.refl _ _, rfl, nofr rfl⟩
              · exfalso; simp at hact
            refine ⟨fun wu6 hC hd => ?_, ?_⟩
            · obtain ⟨h4, h5, _⟩ := hd
              skip
              skip
              replace h4 : V 4 = (.bool true) := h4
              replace h5 : V 5 = (.int .i64 ((rswP R ia ib).2)) := h5
              replace hb := hb.trans (hC.mono hb.size)
              replace hk1 := blk_ext hk1 hC
              replace hk3 := blk_ext hk3 hC
              replace hrr := Row.ext hrr hC
              replace hrn := Row.ext hrn hC
              refine ⟨true, true, congrArg some h4, fun hact => ?_, fun hact => ?_⟩
              · exact Runs.does (Runs.veq (r_ne (congrArg some h5) rfl) (congrArg Value.bool (show _ = false from (by simp [hsp1])))) ⟨Below.refl _ _, rfl, nofr rfl⟩
              · exfalso; simp at hact
            refine ⟨fun wu7 hC hd => ?_, ?_⟩
            · obtain ⟨h4, h6, _⟩ := hd
              skip
              skip
              replace h4 : V 4 = (.bool true) := h4
              replace h6 : V 6 = (.bool false) := h6
              replace hb := hb.trans (hC.mono hb.size)
              replace hk1 := blk_ext hk1 hC
              replace hk3 := blk_ext hk3 hC
              replace hrr := Row.ext hrr hC
              replace hrn := Row.ext hrn hC
              refine ⟨true, true, congrArg some h4, fun hact => ?_, fun hact => ?_⟩
              · exact Runs.does (r_move (congrArg some h6)) ⟨Below.refl _ _, rfl, nofr rfl⟩
              · exfalso; simp at hact
            refine ⟨fun wu8 hC hd => ?_, ?_⟩
            · obtain ⟨h7, _⟩ := hd
              skip
              replace h7 : V 7 = (.bool false) := h7
              replace hb := hb.trans (hC.mono hb.size)
              replace hk1 := blk_ext hk1 hC
              replace hk3 := blk_ext hk3 hC
              replace hrr := Row.ext hrr hC
              replace hrn := Row.ext hrn hC
              refine ⟨true, false, congrArg some h7, fun hact => ?_, fun hact => ?_⟩
              · exfalso; simp at hact
              · exact ⟨Below.refl _ _, rfl, nofr rfl⟩
            refine ⟨fun wu9 hC hd => ?_, ?_⟩
            · obtain ⟨h7, h8, _⟩ := hd
              skip
              skip
              replace h7 : V 7 = (.bool false) := h7
              replace h8 : V 8 = gb false (.bool false) := h8
              replace hb := hb.trans (hC.mono hb.size)
              replace hk1 := blk_ext hk1 hC
              replace hk3 := blk_ext hk3 hC
              replace hrr := Row.ext hrr hC
              replace hrn := Row.ext hrn hC
              refine ⟨true, false, congrArg some h7, fun hact => ?_, fun hact => ?_⟩
              · exfalso; simp at hact
              · exact ⟨Below.refl _ _, rfl, nofr rfl⟩
            refine ⟨fun wu10 hC hd => ?_, ?_⟩
            · obtain ⟨h4, h7, h9, _⟩ := hd
              skip
              skip
              skip
              replace h4 : V 4 = (.bool true) := h4
              replace h7 : V 7 = (.bool false) := h7
              replace h9 : V 9 = gb false (.bool false) := h9
              replace hb := hb.trans (hC.mono hb.size)
              replace hk1 := blk_ext hk1 hC
              replace hk3 := blk_ext hk3 hC
              replace hrr := Row.ext hrr hC
              replace hrn := Row.ext hrn hC
              refine ⟨true, true, congrArg some h4, fun hact => ?_, fun hact => ?_⟩
              · exact Runs.does (r_pick (b := false) (congrArg some h7) (congrArg some h9) rfl rfl) ⟨Below.refl _ _, rfl, nofr rfl⟩
              · exfalso; simp at hact
            refine ⟨fun wu11 hC hd => ?_, ?_⟩
            · obtain ⟨h4, h7, h10, _⟩ := hd
              skip
              skip
              skip
              replace h4 : V 4 = (.bool true) := h4
              replace h7 : V 7 = (.bool false) := h7
              replace h10 : V 10 = (.bool false) := h10
              replace hb := hb.trans (hC.mono hb.size)
              replace hk1 := blk_ext hk1 hC
              replace hk3 := blk_ext hk3 hC
              replace hrr := Row.ext hrr hC
              replace hrn := Row.ext hrn hC
              refine ⟨true, true, congrArg some h4, fun hact => ?_, fun hact => ?_⟩
              · exact Runs.does (r_move (congrArg some h10)) ⟨Below.refl _ _, rfl, nofr rfl⟩
              · exfalso; simp at hact
            refine ⟨fun wu12 hC hd => ?_, ?_⟩
            · obtain ⟨h11, _⟩ := hd
              skip
              replace h11 : V 11 = (.bool false) := h11
              replace hb := hb.trans (hC.mono hb.size)
              replace hk1 := blk_ext hk1 hC
              replace hk3 := blk_ext hk3 hC
              replace hrr := Row.ext hrr hC
              replace hrn := Row.ext hrn hC
              refine ⟨true, false, congrArg some h11, fun hact => ?_, fun hact => ?_⟩
              · exact Runs.does (r_move rfl) ⟨Below.refl _ _, rfl, nofr rfl⟩
              · exfalso; simp at hact
            refine ⟨fun wu13 hC hd => ?_, ?_⟩
            · obtain ⟨h11, h12, _⟩ := hd
              skip
              skip
              replace h11 : V 11 = (.bool false) := h11
              replace h12 : V 12 = (.int .i64 ((rswP R ia ib).2)) := h12
              replace hb := hb.trans (hC.mono hb.size)
              replace hk1 := blk_ext hk1 hC
              replace hk3 := blk_ext hk3 hC
              replace hrr := Row.ext hrr hC
              replace hrn := Row.ext hrn hC
              refine ⟨true, false, congrArg some h11, fun hact => ?_, fun hact => ?_⟩
              · exact Runs.does (Runs.veq (r_eq (congrArg some h12) rfl) (congrArg Value.bool (show _ = true from (by simp [hsp1])))) ⟨Below.refl _ _, rfl, nofr rfl⟩
              · exfalso; simp at hact
            refine ⟨fun wu14 hC hd => ?_, ?_⟩
            · obtain ⟨h11, h13, _⟩ := hd
              skip
              skip
              replace h11 : V 11 = (.bool false) := h11
              replace h13 : V 13 = (.bool true) := h13
              replace hb := hb.trans (hC.mono hb.size)
              replace hk1 := blk_ext hk1 hC
              replace hk3 := blk_ext hk3 hC
              replace hrr := Row.ext hrr hC
              replace hrn := Row.ext hrn hC
              refine ⟨true, false, congrArg some h11, fun hact => ?_, fun hact => ?_⟩
              · exact Runs.does (r_move (congrArg some h13)) ⟨Below.refl _ _, rfl, nofr rfl⟩
              · exfalso; simp at hact
            refine ⟨fun wu15 hC hd => ?_, ?_⟩
            · obtain ⟨h14, _⟩ := hd
              skip
              replace h14 : V 14 = (.bool true) := h14
              replace hb := hb.trans (hC.mono hb.size)
              replace hk1 := blk_ext hk1 hC
              replace hk3 := blk_ext hk3 hC
              replace hrr := Row.ext hrr hC
              replace hrn := Row.ext hrn hC
              refine ⟨true, true, congrArg some h14, fun hact => ?_, fun hact => ?_⟩
              · exact Runs.does (r_move rfl) ⟨Below.refl _ _, rfl, nofr rfl⟩
              · exfalso; simp at hact
            refine ⟨fun wu16 hC hd => ?_, ?_⟩
            · obtain ⟨h14, _⟩ := hd
              skip
              replace h14 : V 14 = (.bool true) := h14
              replace hb := hb.trans (hC.mono hb.size)
              replace hk1 := blk_ext hk1 hC
              replace hk3 := blk_ext hk3 hC
              replace hrr := Row.ext hrr hC
              replace hrn := Row.ext hrn hC
              refine ⟨true, true, congrArg some h14, fun hact => ?_, fun hact => ?_⟩
              · exact Runs.does (r_move rfl) ⟨Below.refl _ _, rfl, nofr rfl⟩
              · exfalso; simp at hact
            refine ⟨fun wu17 hC hd => ?_, ?_⟩
            · obtain ⟨h14, _⟩ := hd
              skip
              replace h14 : V 14 = (.bool true) := h14
              replace hb := hb.trans (hC.mono hb.size)
              replace hk1 := blk_ext hk1 hC
              replace hk3 := blk_ext hk3 hC
              replace hrr := Row.ext hrr hC
              replace hrn := Row.ext hrn hC
              refine ⟨true, true, congrArg some h14, fun hact => ?_, fun hact => ?_⟩
              · exact Runs.does (r_fa rfl Try.underlying28 (f := 1) (q := 1) rfl (by kernel_rfl) rfl) ⟨Below.refl _ _, rfl, nofr rfl⟩
              · exfalso; simp at hact
            refine ⟨fun wu18 hC hd => ?_, ?_⟩
            · obtain ⟨h14, h17, _⟩ := hd
              skip
              skip
              replace h14 : V 14 = (.bool true) := h14
              replace h17 : V 17 = (.pointer (some ⟨b1, 1, none⟩)) := h17
              replace hb := hb.trans (hC.mono hb.size)
              replace hk1 := blk_ext hk1 hC
              replace hk3 := blk_ext hk3 hC
              replace hrr := Row.ext hrr hC
              replace hrn := Row.ext hrn hC
              refine ⟨true, true, congrArg some h14, fun hact => ?_, fun hact => ?_⟩
              · exact Runs.does (r_load (v := (.int .i64 ia)) (congrArg some h17) Try.underlying3 rfl (cell_blk hk1 rfl)) ⟨Below.refl _ _, rfl, nofr rfl⟩
              · exfalso; simp at hact
            refine ⟨fun wu19 hC hd => ?_, ?_⟩
            · obtain ⟨h14, h16, h18, _⟩ := hd
              skip
              skip
              skip
              replace h14 : V 14 = (.bool true) := h14
              replace h16 : V 16 = (.slice (some ⟨rb1, 0, none⟩) R.length c) := h16
              replace h18 : V 18 = (.int .i64 ia) := h18
              replace hb := hb.trans (hC.mono hb.size)
              replace hk1 := blk_ext hk1 hC
              replace hk3 := blk_ext hk3 hC
              replace hrr := Row.ext hrr hC
              replace hrn := Row.ext hrn hC
              refine ⟨true, true, congrArg some h14, fun hact => ?_, fun hact => ?_⟩
              · exact Runs.does (r_ixa (sz := 6) (j := (ia).toNat) (congrArg some h16) (congrArg some h18) Try.underlying76 (by kernel_rfl) (by omega) (by omega) rfl) ⟨Below.refl _ _, rfl, nofr rfl⟩
              · exfalso; simp at hact
            refine ⟨fun wu20 hC hd => ?_, ?_⟩
            · obtain ⟨h14, h19, _⟩ := hd
              skip
              skip
              replace h14 : V 14 = (.bool true) := h14
              replace h19 : V 19 = (.pointer (some ⟨rb1, (0 + (ia).toNat * 6), none⟩)) := h19
              replace hb := hb.trans (hC.mono hb.size)
              replace hk1 := blk_ext hk1 hC
              replace hk3 := blk_ext hk3 hC
              replace hrr := Row.ext hrr hC
              replace hrn := Row.ext hrn hC
              refine ⟨true, true, congrArg some h14, fun hact => ?_, fun hact => ?_⟩
              · exact Runs.does (r_fa (congrArg some h19) Try.underlying132 (f := 3) (q := ((0 + (ia).toNat * 6) + 4)) rfl (by kernel_rfl) rfl) ⟨Below.refl _ _, rfl, nofr rfl⟩
              · exfalso; simp at hact
            refine ⟨fun wu21 hC hd => ?_, ?_⟩
            · obtain ⟨h14, h20, _⟩ := hd
              skip
              skip
              replace h14 : V 14 = (.bool true) := h14
              replace h20 : V 20 = (.pointer (some ⟨rb1, ((0 + (ia).toNat * 6) + 4), none⟩)) := h20
              replace hb := hb.trans (hC.mono hb.size)
              replace hk1 := blk_ext hk1 hC
              replace hk3 := blk_ext hk3 hC
              replace hrr := Row.ext hrr hC
              replace hrn := Row.ext hrn hC
              refine ⟨true, true, congrArg some h14, fun hact => ?_, fun hact => ?_⟩
              · exact Runs.does (r_load (v := (.int .i64 ((R.getD ia.toNat zMRf).2.2.2.1))) (congrArg some h20) Try.underlying3 rfl (cellsAt_cell (cellsAt_below hel1 hC hlr1) (i := 4) rfl rfl)) ⟨Below.refl _ _, rfl, nofr rfl⟩
              · exfalso; simp at hact
            refine ⟨fun wu22 hC hd => ?_, ?_⟩
            · obtain ⟨h14, h15, h21, _⟩ := hd
              skip
              skip
              skip
              replace h14 : V 14 = (.bool true) := h14
              replace h15 : V 15 = (.int .i64 qs) := h15
              replace h21 : V 21 = (.int .i64 ((R.getD ia.toNat zMRf).2.2.2.1)) := h21
              replace hb := hb.trans (hC.mono hb.size)
              replace hk1 := blk_ext hk1 hC
              replace hk3 := blk_ext hk3 hC
              replace hrr := Row.ext hrr hC
              replace hrn := Row.ext hrn hC
              refine ⟨true, true, congrArg some h14, fun hact => ?_, fun hact => ?_⟩
              · exact Runs.does (Runs.veq (r_eq (congrArg some h15) (congrArg some h21)) (congrArg Value.bool (show _ = true from (by simp [hqa.2])))) ⟨Below.refl _ _, rfl, nofr rfl⟩
              · exfalso; simp at hact
            refine ⟨fun wu23 hC hd => ?_, ?_⟩
            · obtain ⟨h11, h14, h22, _⟩ := hd
              skip
              skip
              skip
              replace h11 : V 11 = (.bool false) := h11
              replace h14 : V 14 = (.bool true) := h14
              replace h22 : V 22 = (.bool true) := h22
              replace hb := hb.trans (hC.mono hb.size)
              replace hk1 := blk_ext hk1 hC
              replace hk3 := blk_ext hk3 hC
              replace hrr := Row.ext hrr hC
              replace hrn := Row.ext hrn hC
              refine ⟨true, false, congrArg some h11, fun hact => ?_, fun hact => ?_⟩
              · exact Runs.does (r_pick (b := true) (congrArg some h14) (congrArg some h22) rfl rfl) ⟨Below.refl _ _, rfl, nofr rfl⟩
              · exfalso; simp at hact
            refine ⟨fun wu24 hC hd => ?_, ?_⟩
            · obtain ⟨h4, h11, h23, _⟩ := hd
              skip
              skip
              skip
              replace h4 : V 4 = (.bool true) := h4
              replace h11 : V 11 = (.bool false) := h11
              replace h23 : V 23 = (.bool true) := h23
              replace hb := hb.trans (hC.mono hb.size)
              replace hk1 := blk_ext hk1 hC
              replace hk3 := blk_ext hk3 hC
              replace hrr := Row.ext hrr hC
              replace hrn := Row.ext hrn hC
              refine ⟨true, true, congrArg some h4, fun hact => ?_, fun hact => ?_⟩
              · exact Runs.does (r_pick (b := false) (congrArg some h11) rfl (congrArg some h23) rfl) ⟨Below.refl _ _, rfl, nofr rfl⟩
              · exfalso; simp at hact
            refine ⟨fun wu25 hC hd => ?_, ?_⟩
            · obtain ⟨h4, h24, _⟩ := hd
              skip
              skip
              replace h4 : V 4 = (.bool true) := h4
              replace h24 : V 24 = (.bool true) := h24
              replace hb := hb.trans (hC.mono hb.size)
              replace hk1 := blk_ext hk1 hC
              replace hk3 := blk_ext hk3 hC
              replace hrr := Row.ext hrr hC
              replace hrn := Row.ext hrn hC
              exact Runs.does (r_pick (b := true) (congrArg some h4) (congrArg some h24) rfl rfl) ⟨Below.refl _ _, rfl, nofr rfl⟩
            refine ⟨fun wu26 hC hd => ?_, ?_⟩
            · obtain ⟨h0, h14, _⟩ := hd
              skip
              skip
              replace h0 : V 0 = (.slice va ((rswP R ia ib).1.length) vc) := h0
              replace h14 : V 14 = (.bool true) := h14
              replace hb := hb.trans (hC.mono hb.size)
              replace hk1 := blk_ext hk1 hC
              replace hk3 := blk_ext hk3 hC
              replace hrr := Row.ext hrr hC
              replace hrn := Row.ext hrn hC
              exact Runs.does (r_assign (congrArg some h0)) ⟨Below.refl _ _, rfl, nofr rfl⟩
            trivial
          · skip
            clear hf fa; intro V w8 fa he5 hp hnb hf
            have hv0 : V 0 = (.slice va ((rswP R ia ib).1.length) vc) := postsHold_at hp 0 rfl
            have hv1 : V 1 = (.int .i64 ((rswP R ia ib).2)) := postsHold_at hp 1 rfl
            have hv2 : V 2 = (.int .i64 ((rswP R ia ib).2)) := postsHold_at hp 2 rfl
            have hv3 : V 3 = (.bool true) := postsHold_at hp 3 rfl
            have hv4 : V 4 = (.bool true) := postsHold_at hp 4 rfl
            have hv5 : V 5 = (.int .i64 ((rswP R ia ib).2)) := postsHold_at hp 5 rfl
            have hv6 : V 6 = (.bool false) := postsHold_at hp 6 rfl
            have hv7 : V 7 = (.bool false) := postsHold_at hp 7 rfl
            have hv8 : V 8 = gb false (.bool false) := postsHold_at hp 8 rfl
            have hv9 : V 9 = gb false (.bool false) := postsHold_at hp 9 rfl
            have hv10 : V 10 = (.bool false) := postsHold_at hp 10 rfl
            have hv11 : V 11 = (.bool false) := postsHold_at hp 11 rfl
            have hv12 : V 12 = (.int .i64 ((rswP R ia ib).2)) := postsHold_at hp 12 rfl
            have hv13 : V 13 = (.bool true) := postsHold_at hp 13 rfl
            have hv14 : V 14 = (.bool true) := postsHold_at hp 14 rfl
            have hv15 : V 15 = (.int .i64 qs) := postsHold_at hp 15 rfl
            have hv16 : V 16 = (.slice (some ⟨rb1, 0, none⟩) R.length c) := postsHold_at hp 16 rfl
            have hv17 : V 17 = (.pointer (some ⟨b1, 1, none⟩)) := postsHold_at hp 17 rfl
            have hv18 : V 18 = (.int .i64 ia) := postsHold_at hp 18 rfl
            have hv19 : V 19 = (.pointer (some ⟨rb1, (0 + (ia).toNat * 6), none⟩)) := postsHold_at hp 19 rfl
            have hv20 : V 20 = (.pointer (some ⟨rb1, ((0 + (ia).toNat * 6) + 4), none⟩)) := postsHold_at hp 20 rfl
            have hv21 : V 21 = (.int .i64 ((R.getD ia.toNat zMRf).2.2.2.1)) := postsHold_at hp 21 rfl
            have hv22 : V 22 = (.bool true) := postsHold_at hp 22 rfl
            have hv23 : V 23 = (.bool true) := postsHold_at hp 23 rfl
            have hv24 : V 24 = (.bool true) := postsHold_at hp 24 rfl
            have hv25 : V 25 = (.bool true) := postsHold_at hp 25 rfl
            have hv26 : V 26 = (.slice va ((rswP R ia ib).1.length) vc) := postsHold_at hp 26 rfl
            simp only [List.take_succ_cons, List.take_zero, insAll, ins, hv0, hv1, hv2, hv3, hv4, hv5, hv6, hv7, hv8, hv9, hv10, hv11, hv12, hv13, hv14, hv15, hv16, hv17, hv18, hv19, hv20, hv21, hv22, hv23, hv24, hv25, hv26] at hf
            clear hp hnb hv0 hv1 hv2 hv3 hv4 hv5 hv6 hv7 hv8 hv9 hv10 hv11 hv12 hv13 hv14 hv15 hv16 hv17 hv18 hv19 hv20 hv21 hv22 hv23 hv24 hv25 hv26
            replace hk1 := blk_ext hk1 he5
            replace hk3 := blk_ext hk3 he5
            replace hrr := Row.ext hrr he5
            replace hrn := Row.ext hrn he5
            replace hb := hb.trans (Below.mono he5 hb.size)
            replace hSt := hSt.ext he5
            simp only [List.drop_succ_cons, List.drop_zero]
            refine sqv hf (r_assign rfl) rfl rfl rfl ?_; clear hf fa; intro fa hf
            apply wpList_nil
            (try simp only [Exit.then, Exit.inBlock, ↓reduceIte, Nat.reduceEqDiff])
            refine hK11 _ _ ?_
            refine wp_ret ?_
            (try simp only [Exit.then, Exit.inBlock])
            refine ret2 hf rfl rfl rfl ?_
            have hzz := hrn
            exact ⟨_, (rswP R ia ib).1, rfl, hzz, hSt, by rw [rsw_len]; omega, hb⟩
        · have hsp1b : decide ((rswP R ia ib).2 = 0) = false := decide_eq_false hsp1
          skip
          refine wp_region_unT 27 (fun wq => Below w7.heap.size w7 wq) (fun w w' => Below w.heap.size w w')
            (fun V => [(fun x _ => x = (.slice va ((rswP R ia ib).1.length) vc)), (fun x _ => x = (.int .i64 ((rswP R ia ib).2))), (fun x _ => x = (.int .i64 ((rswP R ia ib).2))), (fun x _ => x = (.bool true)), (fun x _ => x = (.bool true)), (fun x _ => x = (.int .i64 ((rswP R ia ib).2))), (fun x _ => x = (.bool true)), (fun x _ => x = (.bool true)), (fun x _ => x = (.int .i64 qs)), (fun x _ => x = (.bool true)), (fun x _ => x = (.bool true)), (fun x _ => x = (.bool true)), (fun x _ => x = gb false (.bool false)), (fun x _ => x = gb false (.bool false)), (fun x _ => x = gb false (.bool false)), (fun x _ => x = gb false (.bool false)), (fun x _ => x = gb false (.bool false)), (fun x _ => x = gb false (.bool false)), (fun x _ => x = gb false (.bool false)), (fun x _ => x = gb false (.bool false)), (fun x _ => x = gb false (.bool false)), (fun x _ => x = gb false (.bool false)), (fun x _ => x = gb false (.bool false)), (fun x _ => x = gb false (.bool false)), (fun x _ => x = (.bool true)), (fun x _ => x = (.bool true)), (fun x _ => x = (.slice va ((rswP R ia ib).1.length) vc))])
            []
            [[], [], [], [1, 2], [3], [4], [4, 5], [4, 6], [7], [7, 8], [4, 7, 9], [4, 7, 10], [11], [11, 12], [11, 13], [14], [14], [14], [14, 17], [14, 16, 18], [14, 19], [14, 20], [14, 15, 21], [11, 14, 22], [4, 11, 23], [4, 24], [0, 14], []]
            hf (by kernel_rfl) (by kernel_rfl) (by kernel_rfl) (fun _ => rfl) ((Below.refl _ _).drew) (fun a b h1 h2 => h1.trans (h2.mono h1.size)) (fun _ _ h => h.size) (fun V => ⟨kept_eq, kept_eq, kept_eq, kept_eq, kept_eq, kept_eq, kept_eq, kept_eq, kept_eq, kept_eq, kept_eq, kept_eq, kept_eq, kept_eq, kept_eq, kept_eq, kept_eq, kept_eq, kept_eq, kept_eq, kept_eq, kept_eq, kept_eq, kept_eq, kept_eq, kept_eq, kept_eq, trivial⟩) (fun _ _ _ _ _ => rfl) ?_ ?_
          · skip
            intro V
            refine ⟨fun wu0 hC hd => ?_, ?_⟩
            · clear hd
              replace hb := hb.trans (hC.mono hb.size)
              replace hk1 := blk_ext hk1 hC
              replace hk3 := blk_ext hk3 hC
              replace hrr := Row.ext hrr hC
              replace hrn := Row.ext hrn hC
              exact Runs.does (r_move rfl) ⟨Below.refl _ _, rfl, nofr rfl⟩
            refine ⟨fun wu1 hC hd => ?_, ?_⟩
            · clear hd
              replace hb := hb.trans (hC.mono hb.size)
              replace hk1 := blk_ext hk1 hC
              replace hk3 := blk_ext hk3 hC
              replace hrr := Row.ext hrr hC
              replace hrn := Row.ext hrn hC
              exact Runs.does (r_move rfl) ⟨Below.refl _ _, rfl, nofr rfl⟩
            refine ⟨fun wu2 hC hd => ?_, ?_⟩
            · clear hd
              replace hb := hb.trans (hC.mono hb.size)
              replace hk1 := blk_ext hk1 hC
              replace hk3 := blk_ext hk3 hC
              replace hrr := Row.ext hrr hC
              replace hrn := Row.ext hrn hC
              exact Runs.does (r_move rfl) ⟨Below.refl _ _, rfl, nofr rfl⟩
            refine ⟨fun wu3 hC hd => ?_, ?_⟩
            · obtain ⟨h1, h2, _⟩ := hd
              skip
              skip
              replace h1 : V 1 = (.int .i64 ((rswP R ia ib).2)) := h1
              replace h2 : V 2 = (.int .i64 ((rswP R ia ib).2)) := h2
              replace hb := hb.trans (hC.mono hb.size)
              replace hk1 := blk_ext hk1 hC
              replace hk3 := blk_ext hk3 hC
              replace hrr := Row.ext hrr hC
              replace hrn := Row.ext hrn hC
              exact Runs.does (Runs.veq (r_eq (congrArg some h1) (congrArg some h2)) (congrArg Value.bool (show _ = true from (by simp)))) ⟨Below.refl _ _, rfl, nofr rfl⟩
            refine ⟨fun wu4 hC hd => ?_, ?_⟩
            · obtain ⟨h3, _⟩ := hd
              skip
              replace h3 : V 3 = (.bool true) := h3
              replace hb := hb.trans (hC.mono hb.size)
              replace hk1 := blk_ext hk1 hC
              replace hk3 := blk_ext hk3 hC
              replace hrr := Row.ext hrr hC
              replace hrn := Row.ext hrn hC
              exact Runs.does (r_move (congrArg some h3)) ⟨Below.refl _ _, rfl, nofr rfl⟩
            refine ⟨fun wu5 hC hd => ?_, ?_⟩
            · obtain ⟨h4, _⟩ := hd
              skip
              replace h4 : V 4 = (.bool true) := h4
              replace hb := hb.trans (hC.mono hb.size)
              replace hk1 := blk_ext hk1 hC
              replace hk3 := blk_ext hk3 hC
              replace hrr := Row.ext hrr hC
              replace hrn := Row.ext hrn hC
              refine ⟨true, true, congrArg some h4, fun hact => ?_, fun hact => ?_⟩
              · exact Runs.does (r_move rfl) ⟨Below.refl _ _, rfl, nofr rfl⟩
              · exfalso; simp at hact
            refine ⟨fun wu6 hC hd => ?_, ?_⟩
            · obtain ⟨h4, h5, _⟩ := hd
              skip
              skip
              replace h4 : V 4 = (.bool true) := h4
              replace h5 : V 5 = (.int .i64 ((rswP R ia ib).2)) := h5
              replace hb := hb.trans (hC.mono hb.size)
              replace hk1 := blk_ext hk1 hC
              replace hk3 := blk_ext hk3 hC
              replace hrr := Row.ext hrr hC
              replace hrn := Row.ext hrn hC
              refine ⟨true, true, congrArg some h4, fun hact => ?_, fun hact => ?_⟩
              · exact Runs.does (Runs.veq (r_ne (congrArg some h5) rfl) (congrArg Value.bool (show _ = true from (by simp [hsp1])))) ⟨Below.refl _ _, rfl, nofr rfl⟩
              · exfalso; simp at hact
            refine ⟨fun wu7 hC hd => ?_, ?_⟩
            · obtain ⟨h4, h6, _⟩ := hd
              skip
              skip
              replace h4 : V 4 = (.bool true) := h4
              replace h6 : V 6 = (.bool true) := h6
              replace hb := hb.trans (hC.mono hb.size)
              replace hk1 := blk_ext hk1 hC
              replace hk3 := blk_ext hk3 hC
              replace hrr := Row.ext hrr hC
              replace hrn := Row.ext hrn hC
              refine ⟨true, true, congrArg some h4, fun hact => ?_, fun hact => ?_⟩
              · exact Runs.does (r_move (congrArg some h6)) ⟨Below.refl _ _, rfl, nofr rfl⟩
              · exfalso; simp at hact
            refine ⟨fun wu8 hC hd => ?_, ?_⟩
            · obtain ⟨h7, _⟩ := hd
              skip
              replace h7 : V 7 = (.bool true) := h7
              replace hb := hb.trans (hC.mono hb.size)
              replace hk1 := blk_ext hk1 hC
              replace hk3 := blk_ext hk3 hC
              replace hrr := Row.ext hrr hC
              replace hrn := Row.ext hrn hC
              refine ⟨true, true, congrArg some h7, fun hact => ?_, fun hact => ?_⟩
              · exact Runs.does (r_move rfl) ⟨Below.refl _ _, rfl, nofr rfl⟩
              · exfalso; simp at hact
            refine ⟨fun wu9 hC hd => ?_, ?_⟩
            · obtain ⟨h7, h8, _⟩ := hd
              skip
              skip
              replace h7 : V 7 = (.bool true) := h7
              replace h8 : V 8 = (.int .i64 qs) := h8
              replace hb := hb.trans (hC.mono hb.size)
              replace hk1 := blk_ext hk1 hC
              replace hk3 := blk_ext hk3 hC
              replace hrr := Row.ext hrr hC
              replace hrn := Row.ext hrn hC
              refine ⟨true, true, congrArg some h7, fun hact => ?_, fun hact => ?_⟩
              · exact Runs.does (Runs.veq (r_eq (congrArg some h8) rfl) (congrArg Value.bool (show _ = true from (by simp [hq2 hsp1])))) ⟨Below.refl _ _, rfl, nofr rfl⟩
              · exfalso; simp at hact
            refine ⟨fun wu10 hC hd => ?_, ?_⟩
            · obtain ⟨h4, h7, h9, _⟩ := hd
              skip
              skip
              skip
              replace h4 : V 4 = (.bool true) := h4
              replace h7 : V 7 = (.bool true) := h7
              replace h9 : V 9 = (.bool true) := h9
              replace hb := hb.trans (hC.mono hb.size)
              replace hk1 := blk_ext hk1 hC
              replace hk3 := blk_ext hk3 hC
              replace hrr := Row.ext hrr hC
              replace hrn := Row.ext hrn hC
              refine ⟨true, true, congrArg some h4, fun hact => ?_, fun hact => ?_⟩
              · exact Runs.does (r_pick (b := true) (congrArg some h7) (congrArg some h9) rfl rfl) ⟨Below.refl _ _, rfl, nofr rfl⟩
              · exfalso; simp at hact
            refine ⟨fun wu11 hC hd => ?_, ?_⟩
            · obtain ⟨h4, h7, h10, _⟩ := hd
              skip
              skip
              skip
              replace h4 : V 4 = (.bool true) := h4
              replace h7 : V 7 = (.bool true) := h7
              replace h10 : V 10 = (.bool true) := h10
              replace hb := hb.trans (hC.mono hb.size)
              replace hk1 := blk_ext hk1 hC
              replace hk3 := blk_ext hk3 hC
              replace hrr := Row.ext hrr hC
              replace hrn := Row.ext hrn hC
              refine ⟨true, true, congrArg some h4, fun hact => ?_, fun hact => ?_⟩
              · exact Runs.does (r_move (congrArg some h10)) ⟨Below.refl _ _, rfl, nofr rfl⟩
              · exfalso; simp at hact
            refine ⟨fun wu12 hC hd => ?_, ?_⟩
            · obtain ⟨h11, _⟩ := hd
              skip
              replace h11 : V 11 = (.bool true) := h11
              replace hb := hb.trans (hC.mono hb.size)
              replace hk1 := blk_ext hk1 hC
              replace hk3 := blk_ext hk3 hC
              replace hrr := Row.ext hrr hC
              replace hrn := Row.ext hrn hC
              refine ⟨true, true, congrArg some h11, fun hact => ?_, fun hact => ?_⟩
              · exfalso; simp at hact
              · exact ⟨Below.refl _ _, rfl, nofr rfl⟩
            refine ⟨fun wu13 hC hd => ?_, ?_⟩
            · obtain ⟨h11, h12, _⟩ := hd
              skip
              skip
              replace h11 : V 11 = (.bool true) := h11
              replace h12 : V 12 = gb false (.bool false) := h12
              replace hb := hb.trans (hC.mono hb.size)
              replace hk1 := blk_ext hk1 hC
              replace hk3 := blk_ext hk3 hC
              replace hrr := Row.ext hrr hC
              replace hrn := Row.ext hrn hC
              refine ⟨true, true, congrArg some h11, fun hact => ?_, fun hact => ?_⟩
              · exfalso; simp at hact
              · exact ⟨Below.refl _ _, rfl, nofr rfl⟩
            refine ⟨fun wu14 hC hd => ?_, ?_⟩
            · obtain ⟨h11, h13, _⟩ := hd
              skip
              skip
              replace h11 : V 11 = (.bool true) := h11
              replace h13 : V 13 = gb false (.bool false) := h13
              replace hb := hb.trans (hC.mono hb.size)
              replace hk1 := blk_ext hk1 hC
              replace hk3 := blk_ext hk3 hC
              replace hrr := Row.ext hrr hC
              replace hrn := Row.ext hrn hC
              refine ⟨true, true, congrArg some h11, fun hact => ?_, fun hact => ?_⟩
              · exfalso; simp at hact
              · exact ⟨Below.refl _ _, rfl, nofr rfl⟩
            refine ⟨fun wu15 hC hd => ?_, ?_⟩
            · obtain ⟨h14, _⟩ := hd
              skip
              replace h14 : V 14 = gb false (.bool false) := h14
              replace hb := hb.trans (hC.mono hb.size)
              replace hk1 := blk_ext hk1 hC
              replace hk3 := blk_ext hk3 hC
              replace hrr := Row.ext hrr hC
              replace hrn := Row.ext hrn hC
              refine ⟨false, false, congrArg some h14, fun hact => ?_, fun hact => ?_⟩
              · exfalso; simp at hact
              · exact ⟨Below.refl _ _, rfl, nofr rfl⟩
            refine ⟨fun wu16 hC hd => ?_, ?_⟩
            · obtain ⟨h14, _⟩ := hd
              skip
              replace h14 : V 14 = gb false (.bool false) := h14
              replace hb := hb.trans (hC.mono hb.size)
              replace hk1 := blk_ext hk1 hC
              replace hk3 := blk_ext hk3 hC
              replace hrr := Row.ext hrr hC
              replace hrn := Row.ext hrn hC
              refine ⟨false, false, congrArg some h14, fun hact => ?_, fun hact => ?_⟩
              · exfalso; simp at hact
              · exact ⟨Below.refl _ _, rfl, nofr rfl⟩
            refine ⟨fun wu17 hC hd => ?_, ?_⟩
            · obtain ⟨h14, _⟩ := hd
              skip
              replace h14 : V 14 = gb false (.bool false) := h14
              replace hb := hb.trans (hC.mono hb.size)
              replace hk1 := blk_ext hk1 hC
              replace hk3 := blk_ext hk3 hC
              replace hrr := Row.ext hrr hC
              replace hrn := Row.ext hrn hC
              refine ⟨false, false, congrArg some h14, fun hact => ?_, fun hact => ?_⟩
              · exfalso; simp at hact
              · exact ⟨Below.refl _ _, rfl, nofr rfl⟩
            refine ⟨fun wu18 hC hd => ?_, ?_⟩
            · obtain ⟨h14, h17, _⟩ := hd
              skip
              skip
              replace h14 : V 14 = gb false (.bool false) := h14
              replace h17 : V 17 = gb false (.bool false) := h17
              replace hb := hb.trans (hC.mono hb.size)
              replace hk1 := blk_ext hk1 hC
              replace hk3 := blk_ext hk3 hC
              replace hrr := Row.ext hrr hC
              replace hrn := Row.ext hrn hC
              refine ⟨false, false, congrArg some h14, fun hact => ?_, fun hact => ?_⟩
              · exfalso; simp at hact
              · exact ⟨Below.refl _ _, rfl, nofr rfl⟩
            refine ⟨fun wu19 hC hd => ?_, ?_⟩
            · obtain ⟨h14, h16, h18, _⟩ := hd
              skip
              skip
              skip
              replace h14 : V 14 = gb false (.bool false) := h14
              replace h16 : V 16 = gb false (.bool false) := h16
              replace h18 : V 18 = gb false (.bool false) := h18
              replace hb := hb.trans (hC.mono hb.size)
              replace hk1 := blk_ext hk1 hC
              replace hk3 := blk_ext hk3 hC
              replace hrr := Row.ext hrr hC
              replace hrn := Row.ext hrn hC
              refine ⟨false, false, congrArg some h14, fun hact => ?_, fun hact => ?_⟩
              · exfalso; simp at hact
              · exact ⟨Below.refl _ _, rfl, nofr rfl⟩
            refine ⟨fun wu20 hC hd => ?_, ?_⟩
            · obtain ⟨h14, h19, _⟩ := hd
              skip
              skip
              replace h14 : V 14 = gb false (.bool false) := h14
              replace h19 : V 19 = gb false (.bool false) := h19
              replace hb := hb.trans (hC.mono hb.size)
              replace hk1 := blk_ext hk1 hC
              replace hk3 := blk_ext hk3 hC
              replace hrr := Row.ext hrr hC
              replace hrn := Row.ext hrn hC
              refine ⟨false, false, congrArg some h14, fun hact => ?_, fun hact => ?_⟩
              · exfalso; simp at hact
              · exact ⟨Below.refl _ _, rfl, nofr rfl⟩
            refine ⟨fun wu21 hC hd => ?_, ?_⟩
            · obtain ⟨h14, h20, _⟩ := hd
              skip
              skip
              replace h14 : V 14 = gb false (.bool false) := h14
              replace h20 : V 20 = gb false (.bool false) := h20
              replace hb := hb.trans (hC.mono hb.size)
              replace hk1 := blk_ext hk1 hC
              replace hk3 := blk_ext hk3 hC
              replace hrr := Row.ext hrr hC
              replace hrn := Row.ext hrn hC
              refine ⟨false, false, congrArg some h14, fun hact => ?_, fun hact => ?_⟩
              · exfalso; simp at hact
              · exact ⟨Below.refl _ _, rfl, nofr rfl⟩
            refine ⟨fun wu22 hC hd => ?_, ?_⟩
            · obtain ⟨h14, h15, h21, _⟩ := hd
              skip
              skip
              skip
              replace h14 : V 14 = gb false (.bool false) := h14
              replace h15 : V 15 = gb false (.bool false) := h15
              replace h21 : V 21 = gb false (.bool false) := h21
              replace hb := hb.trans (hC.mono hb.size)
              replace hk1 := blk_ext hk1 hC
              replace hk3 := blk_ext hk3 hC
              replace hrr := Row.ext hrr hC
              replace hrn := Row.ext hrn hC
              refine ⟨false, false, congrArg some h14, fun hact => ?_, fun hact => ?_⟩
              · exfalso; simp at hact
              · exact ⟨Below.refl _ _, rfl, nofr rfl⟩
            refine ⟨fun wu23 hC hd => ?_, ?_⟩
            · obtain ⟨h11, h14, h22, _⟩ := hd
              skip
              skip
              skip
              replace h11 : V 11 = (.bool true) := h11
              replace h14 : V 14 = gb false (.bool false) := h14
              replace h22 : V 22 = gb false (.bool false) := h22
              replace hb := hb.trans (hC.mono hb.size)
              replace hk1 := blk_ext hk1 hC
              replace hk3 := blk_ext hk3 hC
              replace hrr := Row.ext hrr hC
              replace hrn := Row.ext hrn hC
              refine ⟨true, true, congrArg some h11, fun hact => ?_, fun hact => ?_⟩
              · exfalso; simp at hact
              · exact ⟨Below.refl _ _, rfl, nofr rfl⟩
            refine ⟨fun wu24 hC hd => ?_, ?_⟩
            · obtain ⟨h4, h11, h23, _⟩ := hd
              skip
              skip
              skip
              replace h4 : V 4 = (.bool true) := h4
              replace h11 : V 11 = (.bool true) := h11
              replace h23 : V 23 = gb false (.bool false) := h23
              replace hb := hb.trans (hC.mono hb.size)
              replace hk1 := blk_ext hk1 hC
              replace hk3 := blk_ext hk3 hC
              replace hrr := Row.ext hrr hC
              replace hrn := Row.ext hrn hC
              refine ⟨true, true, congrArg some h4, fun hact => ?_, fun hact => ?_⟩
              · exact Runs.does (r_pick (b := true) (congrArg some h11) rfl (congrArg some h23) rfl) ⟨Below.refl _ _, rfl, nofr rfl⟩
              · exfalso; simp at hact
            refine ⟨fun wu25 hC hd => ?_, ?_⟩
            · obtain ⟨h4, h24, _⟩ := hd
              skip
              skip
              replace h4 : V 4 = (.bool true) := h4
              replace h24 : V 24 = (.bool true) := h24
              replace hb := hb.trans (hC.mono hb.size)
              replace hk1 := blk_ext hk1 hC
              replace hk3 := blk_ext hk3 hC
              replace hrr := Row.ext hrr hC
              replace hrn := Row.ext hrn hC
              exact Runs.does (r_pick (b := true) (congrArg some h4) (congrArg some h24) rfl rfl) ⟨Below.refl _ _, rfl, nofr rfl⟩
            refine ⟨fun wu26 hC hd => ?_, ?_⟩
            · obtain ⟨h0, h14, _⟩ := hd
              skip
              skip
              replace h0 : V 0 = (.slice va ((rswP R ia ib).1.length) vc) := h0
              replace h14 : V 14 = gb false (.bool false) := h14
              replace hb := hb.trans (hC.mono hb.size)
              replace hk1 := blk_ext hk1 hC
              replace hk3 := blk_ext hk3 hC
              replace hrr := Row.ext hrr hC
              replace hrn := Row.ext hrn hC
              exact Runs.does (r_assign (congrArg some h0)) ⟨Below.refl _ _, rfl, nofr rfl⟩
            trivial
          · skip
            clear hf fa; intro V w9 fa he6 hp hnb hf
            have hv0 : V 0 = (.slice va ((rswP R ia ib).1.length) vc) := postsHold_at hp 0 rfl
            have hv1 : V 1 = (.int .i64 ((rswP R ia ib).2)) := postsHold_at hp 1 rfl
            have hv2 : V 2 = (.int .i64 ((rswP R ia ib).2)) := postsHold_at hp 2 rfl
            have hv3 : V 3 = (.bool true) := postsHold_at hp 3 rfl
            have hv4 : V 4 = (.bool true) := postsHold_at hp 4 rfl
            have hv5 : V 5 = (.int .i64 ((rswP R ia ib).2)) := postsHold_at hp 5 rfl
            have hv6 : V 6 = (.bool true) := postsHold_at hp 6 rfl
            have hv7 : V 7 = (.bool true) := postsHold_at hp 7 rfl
            have hv8 : V 8 = (.int .i64 qs) := postsHold_at hp 8 rfl
            have hv9 : V 9 = (.bool true) := postsHold_at hp 9 rfl
            have hv10 : V 10 = (.bool true) := postsHold_at hp 10 rfl
            have hv11 : V 11 = (.bool true) := postsHold_at hp 11 rfl
            have hv12 : V 12 = gb false (.bool false) := postsHold_at hp 12 rfl
            have hv13 : V 13 = gb false (.bool false) := postsHold_at hp 13 rfl
            have hv14 : V 14 = gb false (.bool false) := postsHold_at hp 14 rfl
            have hv15 : V 15 = gb false (.bool false) := postsHold_at hp 15 rfl
            have hv16 : V 16 = gb false (.bool false) := postsHold_at hp 16 rfl
            have hv17 : V 17 = gb false (.bool false) := postsHold_at hp 17 rfl
            have hv18 : V 18 = gb false (.bool false) := postsHold_at hp 18 rfl
            have hv19 : V 19 = gb false (.bool false) := postsHold_at hp 19 rfl
            have hv20 : V 20 = gb false (.bool false) := postsHold_at hp 20 rfl
            have hv21 : V 21 = gb false (.bool false) := postsHold_at hp 21 rfl
            have hv22 : V 22 = gb false (.bool false) := postsHold_at hp 22 rfl
            have hv23 : V 23 = gb false (.bool false) := postsHold_at hp 23 rfl
            have hv24 : V 24 = (.bool true) := postsHold_at hp 24 rfl
            have hv25 : V 25 = (.bool true) := postsHold_at hp 25 rfl
            have hv26 : V 26 = (.slice va ((rswP R ia ib).1.length) vc) := postsHold_at hp 26 rfl
            simp only [List.take_succ_cons, List.take_zero, insAll, ins, hv0, hv1, hv2, hv3, hv4, hv5, hv6, hv7, hv8, hv9, hv10, hv11, hv12, hv13, hv14, hv15, hv16, hv17, hv18, hv19, hv20, hv21, hv22, hv23, hv24, hv25, hv26] at hf
            clear hp hnb hv0 hv1 hv2 hv3 hv4 hv5 hv6 hv7 hv8 hv9 hv10 hv11 hv12 hv13 hv14 hv15 hv16 hv17 hv18 hv19 hv20 hv21 hv22 hv23 hv24 hv25 hv26
            replace hk1 := blk_ext hk1 he6
            replace hk3 := blk_ext hk3 he6
            replace hrr := Row.ext hrr he6
            replace hrn := Row.ext hrn he6
            replace hb := hb.trans (Below.mono he6 hb.size)
            replace hSt := hSt.ext he6
            simp only [List.drop_succ_cons, List.drop_zero]
            refine sqv hf (r_assign rfl) rfl rfl rfl ?_; clear hf fa; intro fa hf
            apply wpList_nil
            (try simp only [Exit.then, Exit.inBlock, ↓reduceIte, Nat.reduceEqDiff])
            refine hK11 _ _ ?_
            refine wp_ret ?_
            (try simp only [Exit.then, Exit.inBlock])
            refine ret2 hf rfl rfl rfl ?_
            have hzz := hrn
            exact ⟨_, (rswP R ia ib).1, rfl, hzz, hSt, by rw [rsw_len]; omega, hb⟩
      · have hqt48_1b := hqt48_1
        replace hqt48_1 := Bool.eq_false_iff.1 hqt48_1
        try simp only [ne_eq, decide_eq_true_eq, Bool.and_eq_true, Bool.or_eq_true, Bool.not_eq_true', decide_eq_false_iff_not] at hqt48_1
        refine wp_seq_k (fun K12 hK12 => ?_)
        refine wp_region_lit ?_
        refine sqv hf (r_eq rfl rfl) rfl rfl rfl ?_; clear hf fa; intro fa hf
        refine sqv hf (r_assign rfl) rfl rfl rfl ?_; clear hf fa; intro fa hf
        apply wpList_nil
        (try simp only [Exit.then, Exit.inBlock, ↓reduceIte, Nat.reduceEqDiff])
        refine hK12 _ _ ?_
        refine wp_cond_split (t := (decide (kd = (2 : Int)))) (hf.ev rfl) (fun hqt94_1 => ?_) (fun hqt94_1 => ?_)
        · have hqt94_1b := hqt94_1
          try simp only [decide_eq_true_eq, Bool.and_eq_true, Bool.or_eq_true, Bool.not_eq_true', decide_eq_false_iff_not, ne_eq, Bool.not_eq_true] at hqt94_1
          refine wp_seq_k (fun K13 hK13 => ?_)
          refine wp_region_lit ?_
          refine sqv hf (r_move rfl) rfl rfl rfl ?_; clear hf fa; intro fa hf
          refine sqv hf (r_fa rfl Try.underlying28 (f := 1) (q := 1) rfl (by kernel_rfl) rfl) rfl rfl rfl ?_; clear hf fa; intro fa hf
          refine sqv hf (r_load (v := (.int .i64 ia)) rfl Try.underlying3 rfl (cell_blk hk1 rfl)) rfl rfl rfl ?_; clear hf fa; intro fa hf
          refine sqdt hf (d_callX (vs := [(.pointer (some ⟨p, 0, none⟩)), (.int .i64 ia)]) rfl Try.func15 (by kernel_rfl) (by kernel_rfl) (free_S hb hSt ia)) rfl rfl rfl ?_; clear hf fa; rintro fa _ w10 ⟨rfl, hF2, hb2, hP2⟩ hf; clear hSt; have hSt : St29 w0.heap.size w10 p (rfrP R ia) := hF2; clear hF2; replace hb := hb2; clear hb2
          replace hk1 := hP2.2.2.1 _ _ hk1
          replace hk3 := hP2.1 _ _ hk3
          replace hrr := Row.kt hrr hP2.1
          clear hP2
          refine sqv hf (r_assign rfl) rfl rfl rfl ?_; clear hf fa; intro fa hf
          apply wpList_nil
          (try simp only [Exit.then, Exit.inBlock, ↓reduceIte, Nat.reduceEqDiff])
          refine hK13 _ _ ?_
          refine wp_seq_k (fun K14 hK14 => ?_)
          refine wp_seq_k (fun K15 hK15 => ?_)
          refine wp_region_lit ?_
          refine sqv hf (r_move rfl) rfl rfl rfl ?_; clear hf fa; intro fa hf
          refine sqv hf (r_fa rfl Try.underlying28 (f := 1) (q := 1) rfl (by kernel_rfl) rfl) rfl rfl rfl ?_; clear hf fa; intro fa hf
          refine sqv hf (r_load (v := (.int .i64 ia)) rfl Try.underlying3 rfl (cell_blk hk1 rfl)) rfl rfl rfl ?_; clear hf fa; intro fa hf
          refine sqdt hf (d_callB (vs := [(.slice a R.length c), (.int .i64 ia)]) rfl Try.func68 (by kernel_rfl) (by kernel_rfl) (rlive_to (Row.rd (by intros; rfl) hrr) hlc (Row.caps hrr).2 (fun h => Row.nocap hrr h) rfl)) rfl rfl rfl ?_; clear hf fa; rintro fa _ w11 ⟨rfl, he7⟩ hf
          replace hk1 := blk_ext hk1 he7
          replace hk3 := blk_ext hk3 he7
          replace hrr := Row.ext hrr he7
          replace hb := hb.trans (Below.mono he7 hb.size)
          replace hSt := hSt.ext he7
          refine sqv hf (r_not rfl) rfl rfl rfl ?_; clear hf fa; intro fa hf
          apply wpList_nil
          (try simp only [Exit.then, Exit.inBlock, ↓reduceIte, Nat.reduceEqDiff])
          refine hK15 _ _ ?_
          refine wp_cond_split (t := (!(rlB R ia))) (hf.ev rfl) (fun hqt104_1 => ?_) (fun hqt104_1 => ?_)
          · have hqt104_1b := hqt104_1
            try simp only [decide_eq_true_eq, Bool.and_eq_true, Bool.or_eq_true, Bool.not_eq_true', decide_eq_false_iff_not, ne_eq, Bool.not_eq_true] at hqt104_1
            refine wp_seq_k (fun K16 hK16 => ?_)
            refine wp_region_lit ?_
            refine sqv hf (r_move rfl) rfl rfl rfl ?_; clear hf fa; intro fa hf
            refine sqv hf (r_move rfl) rfl rfl rfl ?_; clear hf fa; intro fa hf
            refine sqv hf (Runs.veq (r_eq rfl rfl) (congrArg Value.bool (show _ = true from (by have h := hqt104_1; first | (rw [if_neg (by simpa using h)]; rfl) | (rw [if_neg h]; rfl) | simp [h])))) rfl rfl rfl ?_; clear hf fa; intro fa hf
            refine sqv hf (r_assign rfl) rfl rfl rfl ?_; clear hf fa; intro fa hf
            refine sqv hf (r_assign rfl) rfl rfl rfl ?_; clear hf fa; intro fa hf
            apply wpList_nil
            (try simp only [Exit.then, Exit.inBlock, ↓reduceIte, Nat.reduceEqDiff])
            refine hK16 _ _ ?_
            refine wp_ret ?_
            (try simp only [Exit.then, Exit.inBlock])
            refine ret2 hf rfl rfl rfl ?_
            have hzz := hrr
            rw [rfr_no (by have h := hqt104_1; simpa using h)] at hSt
            exact ⟨_, R, rfl, hzz, hSt, by omega, hb⟩
          · have hqt104_1b := hqt104_1
            replace hqt104_1 := Bool.eq_false_iff.1 hqt104_1
            try simp only [ne_eq, decide_eq_true_eq, Bool.and_eq_true, Bool.or_eq_true, Bool.not_eq_true', decide_eq_false_iff_not] at hqt104_1
            refine wp_skip ?_
            (try simp only [Exit.then, Exit.inBlock, ↓reduceIte, Nat.reduceEqDiff])
            refine hK14 _ _ ?_
            refine wp_seq_k (fun K17 hK17 => ?_)
            have hrl : rlB R ia = true := by have h := hqt104_1; simpa using h
            have hir := rlB_in hrl
            refine wp_region_lit ?_
            refine sqv hf (r_move rfl) rfl rfl rfl ?_; clear hf fa; intro fa hf
            refine sqv hf (r_fa rfl Try.underlying28 (f := 1) (q := 1) rfl (by kernel_rfl) rfl) rfl rfl rfl ?_; clear hf fa; intro fa hf
            refine sqv hf (r_load (v := (.int .i64 ia)) rfl Try.underlying3 rfl (cell_blk hk1 rfl)) rfl rfl rfl ?_; clear hf fa; intro fa hf
            refine sqv hf (r_build (vs := [(3, (.int .i64 (-1 : Int)))]) (cs := #[(.string ⟨#[]⟩), (.string ⟨#[]⟩), (.int .i64 (0 : Int)), (.int .u64 (0 : Int)), (.int .i64 (-1 : Int)), (.bool false)]) rfl (fun _ => by kernel_rfl)) rfl rfl rfl ?_; clear hf fa; intro fa hf
            refine sqdt hf (d_callX (vs := [(.slice a R.length c), (.int .i64 ia), (.agg #[(.string ⟨#[]⟩), (.string ⟨#[]⟩), (.int .i64 (0 : Int)), (.int .u64 (0 : Int)), (.int .i64 (-1 : Int)), (.bool false)])]) rfl Try.func69 (by kernel_rfl) (by kernel_rfl) (rset_to (Row.rd (by intros; rfl) hrr) hlc (Row.caps hrr).2 (fun h => Row.nocap hrr h) ia (((⟨#[]⟩, ⟨#[]⟩, ()), (0 : Int), (0 : Int), (-1 : Int), false, ()) : MRf) (by omega))) rfl rfl rfl ?_; clear hf fa; rintro fa v w12 ⟨hr3, he8⟩ hf; obtain ⟨ra1, rc1, rfl, hcrc1, hmrc1⟩ := Row.slice hr3
            replace hr3 := Row.rebase hr3 hb.size
            replace hk1 := blk_ext hk1 he8
            replace hk3 := blk_ext hk3 he8
            replace hrr := Row.ext hrr he8
            replace hb := hb.trans (Below.mono he8 hb.size)
            replace hSt := hSt.ext he8
            refine sqv hf (r_move rfl) rfl rfl rfl ?_; clear hf fa; intro fa hf
            refine sqv hf (Runs.veq (r_eq rfl rfl) (congrArg Value.bool (show _ = true from (by simp [hrl])))) rfl rfl rfl ?_; clear hf fa; intro fa hf
            refine sqv hf (r_assign rfl) rfl rfl rfl ?_; clear hf fa; intro fa hf
            refine sqv hf (r_assign rfl) rfl rfl rfl ?_; clear hf fa; intro fa hf
            apply wpList_nil
            (try simp only [Exit.then, Exit.inBlock, ↓reduceIte, Nat.reduceEqDiff])
            refine hK17 _ _ ?_
            refine wp_ret ?_
            (try simp only [Exit.then, Exit.inBlock])
            refine ret2 hf rfl rfl rfl ?_
            have hzz := hr3
            rw [rfr_yes (by have h := hqt104_1; simpa using h)] at hSt
            exact ⟨_, (R.set ia.toNat (((⟨#[]⟩, ⟨#[]⟩, ()), (0 : Int), (0 : Int), (-1 : Int), false, ()) : MRf)), rfl, hzz, hSt, by rw [List.length_set]; omega, hb⟩
        · have hqt94_1b := hqt94_1
          replace hqt94_1 := Bool.eq_false_iff.1 hqt94_1
          try simp only [ne_eq, decide_eq_true_eq, Bool.and_eq_true, Bool.or_eq_true, Bool.not_eq_true', decide_eq_false_iff_not] at hqt94_1
          refine wp_seq_k (fun K18 hK18 => ?_)
          refine wp_region_lit ?_
          refine sqv hf (r_eq rfl rfl) rfl rfl rfl ?_; clear hf fa; intro fa hf
          refine sqv hf (r_assign rfl) rfl rfl rfl ?_; clear hf fa; intro fa hf
          apply wpList_nil
          (try simp only [Exit.then, Exit.inBlock, ↓reduceIte, Nat.reduceEqDiff])
          refine hK18 _ _ ?_
          refine wp_cond_split (t := (decide (kd = (3 : Int)))) (hf.ev rfl) (fun hqt115_1 => ?_) (fun hqt115_1 => ?_)
          · have hqt115_1b := hqt115_1
            try simp only [decide_eq_true_eq, Bool.and_eq_true, Bool.or_eq_true, Bool.not_eq_true', decide_eq_false_iff_not, ne_eq, Bool.not_eq_true] at hqt115_1
            refine wp_seq_k (fun K19 hK19 => ?_)
            refine wp_region_lit ?_
            refine sqv hf (r_move rfl) rfl rfl rfl ?_; clear hf fa; intro fa hf
            refine sqv hf (r_fa rfl Try.underlying28 (f := 1) (q := 1) rfl (by kernel_rfl) rfl) rfl rfl rfl ?_; clear hf fa; intro fa hf
            refine sqv hf (r_load (v := (.int .i64 ia)) rfl Try.underlying3 rfl (cell_blk hk1 rfl)) rfl rfl rfl ?_; clear hf fa; intro fa hf
            refine sqdt hf (d_callX (vs := [(.pointer (some ⟨p, 0, none⟩)), (.int .i64 ia)]) rfl Try.func70 (by kernel_rfl) (by kernel_rfl) (cut_S hb hSt ia)) rfl rfl rfl ?_; clear hf fa; rintro fa _ w13 ⟨rfl, hF2, hb2, hP2⟩ hf; clear hSt; have hSt : St29 w0.heap.size w13 p (cutL R ia) := hF2; clear hF2; replace hb := hb2; clear hb2
            replace hk1 := hP2.2.2.1 _ _ hk1
            replace hk3 := hP2.1 _ _ hk3
            replace hrr := Row.kt hrr hP2.1
            clear hP2
            apply wpList_nil
            (try simp only [Exit.then, Exit.inBlock, ↓reduceIte, Nat.reduceEqDiff])
            refine hK19 _ _ ?_
            refine wp_seq_k (fun K20 hK20 => ?_)
            refine wp_region_lit ?_
            refine sqv hf (r_fa rfl Try.underlying28 (f := 1) (q := 1) rfl (by kernel_rfl) rfl) rfl rfl rfl ?_; clear hf fa; intro fa hf
            refine sqv hf (r_load (v := (.int .i64 ia)) rfl Try.underlying3 rfl (cell_blk hk1 rfl)) rfl rfl rfl ?_; clear hf fa; intro fa hf
            refine sqv hf (r_ge rfl rfl) rfl rfl rfl ?_; clear hf fa; intro fa hf
            refine sqv hf (r_move rfl) rfl rfl rfl ?_; clear hf fa; intro fa hf
            refine sqgT (act := (decide ((0 : Int) ≤ ia))) (ag := true) (c := (decide ((0 : Int) ≤ ia))) (v := (.pointer (some ⟨b1, 1, none⟩))) hf rfl rfl rfl (fun hact => (r_fa rfl Try.underlying28 (f := 1) (q := 1) rfl (by kernel_rfl) rfl)) rfl rfl ?_; clear hf fa; intro fa hf
            refine sqgT (act := (decide ((0 : Int) ≤ ia))) (ag := true) (c := (decide ((0 : Int) ≤ ia))) (v := (.int .i64 ia)) hf rfl rfl rfl (fun hact => (r_load (v := (.int .i64 ia)) (gb_ev hact rfl) Try.underlying3 rfl (cell_blk hk1 rfl))) rfl rfl ?_; clear hf fa; intro fa hf
            refine sqgT (act := (decide ((0 : Int) ≤ ia))) (ag := true) (c := (decide ((0 : Int) ≤ ia))) (v := (.slice a R.length c)) hf rfl rfl rfl (fun hact => (r_move rfl)) rfl rfl ?_; clear hf fa; intro fa hf
            refine sqgT (act := (decide ((0 : Int) ≤ ia))) (ag := true) (c := (decide ((0 : Int) ≤ ia))) (v := (.int .i64 ((R.length : Nat) : Int))) hf rfl rfl rfl (fun hact => (r_lensl (gb_ev hact rfl) Try.underlying76)) rfl rfl ?_; clear hf fa; intro fa hf
            refine sqgT (act := (decide ((0 : Int) ≤ ia))) (ag := true) (c := (decide ((0 : Int) ≤ ia))) (v := (.bool (decide (ia < ((R.length : Nat) : Int))))) hf rfl rfl rfl (fun hact => (r_lt (gb_ev hact rfl) (gb_ev hact rfl))) rfl rfl ?_; clear hf fa; intro fa hf
            refine sqv hf (r_pickA (b := (decide ((0 : Int) ≤ ia))) (e := (decide (ia < ((R.length : Nat) : Int)))) rfl rfl rfl) rfl rfl rfl ?_; clear hf fa; intro fa hf
            apply wpList_nil
            (try simp only [Exit.then, Exit.inBlock, ↓reduceIte, Nat.reduceEqDiff])
            refine hK20 _ _ ?_
            refine wp_cond_split (t := ((decide ((0 : Int) ≤ ia)) && (decide (ia < ((R.length : Nat) : Int))))) (hf.ev rfl) (fun hqt130_1 => ?_) (fun hqt130_1 => ?_)
            · have hqt130_1b := hqt130_1
              try simp only [decide_eq_true_eq, Bool.and_eq_true, Bool.or_eq_true, Bool.not_eq_true', decide_eq_false_iff_not, ne_eq, Bool.not_eq_true] at hqt130_1
              refine wp_seq_k (fun K21 hK21 => ?_)
              have hir : 0 ≤ ia ∧ ia < ((R.length : Nat) : Int) := by have h := hqt130_1; first | omega | (simp at h; omega)
              refine wp_region_lit ?_
              refine sqv hf (r_move rfl) rfl rfl rfl ?_; clear hf fa; intro fa hf
              refine sqv hf (r_fa rfl Try.underlying28 (f := 1) (q := 1) rfl (by kernel_rfl) rfl) rfl rfl rfl ?_; clear hf fa; intro fa hf
              refine sqv hf (r_load (v := (.int .i64 ia)) rfl Try.underlying3 rfl (cell_blk hk1 rfl)) rfl rfl rfl ?_; clear hf fa; intro fa hf
              refine sqv hf (r_slto (m := (ia).toNat) rfl rfl Try.underlying76 (by kernel_rfl) (by omega) (by omega)) rfl rfl rfl ?_; clear hf fa; intro fa hf
              have hr4 := Row.cut (m := (ia).toNat) (by intros; rfl) hrr (Row.caps hrr).1 (by (try simp only [Sl.list_length]); omega) (by (try simp only [Sl.list_length]); omega)
              refine sqv hf (r_assign rfl) rfl rfl rfl ?_; clear hf fa; intro fa hf
              refine sqv hf (r_assign rfl) rfl rfl rfl ?_; clear hf fa; intro fa hf
              apply wpList_nil
              (try simp only [Exit.then, Exit.inBlock, ↓reduceIte, Nat.reduceEqDiff])
              refine hK21 _ _ ?_
              refine wp_ret ?_
              (try simp only [Exit.then, Exit.inBlock])
              refine ret2 hf rfl rfl rfl ?_
              have hzz := hr4
              have hin : (0 ≤ ia ∧ ia < ((R.length : Nat) : Int)) := by have h := hqt130_1; first | omega | (simp at h; omega)
              have hcu : cutL R ia = R.take ia.toNat := by unfold cutL; rw [if_pos hin]
              rw [hcu] at hSt
              exact ⟨_, (R.take ia.toNat), rfl, hzz, hSt, by rw [List.length_take]; omega, hb⟩
            · have hqt130_1b := hqt130_1
              replace hqt130_1 := Bool.eq_false_iff.1 hqt130_1
              try simp only [ne_eq, decide_eq_true_eq, Bool.and_eq_true, Bool.or_eq_true, Bool.not_eq_true', decide_eq_false_iff_not] at hqt130_1
              refine wp_skip ?_
              (try simp only [Exit.then, Exit.inBlock, ↓reduceIte, Nat.reduceEqDiff])
              refine hK3 _ _ ?_
              refine wp_seq_k (fun K22 hK22 => ?_)
              refine wp_region_lit ?_
              refine sqv hf (r_move rfl) rfl rfl rfl ?_; clear hf fa; intro fa hf
              refine sqv hf (r_assign rfl) rfl rfl rfl ?_; clear hf fa; intro fa hf
              refine sqv hf (r_assign rfl) rfl rfl rfl ?_; clear hf fa; intro fa hf
              apply wpList_nil
              (try simp only [Exit.then, Exit.inBlock, ↓reduceIte, Nat.reduceEqDiff])
              refine hK22 _ _ ?_
              refine wp_ret ?_
              (try simp only [Exit.then, Exit.inBlock])
              refine ret2 hf rfl rfl rfl ?_
              have hzz := hrr
              have hin : ¬ (0 ≤ ia ∧ ia < ((R.length : Nat) : Int)) := by have h := hqt130_1; first | omega | (simp at h; omega)
              have hcu : cutL R ia = R := by unfold cutL; rw [if_neg hin]
              rw [hcu] at hSt
              exact ⟨_, R, rfl, hzz, hSt, by omega, hb⟩
          · have hqt115_1b := hqt115_1
            replace hqt115_1 := Bool.eq_false_iff.1 hqt115_1
            try simp only [ne_eq, decide_eq_true_eq, Bool.and_eq_true, Bool.or_eq_true, Bool.not_eq_true', decide_eq_false_iff_not] at hqt115_1
            refine wp_seq_k (fun K23 hK23 => ?_)
            refine wp_region_lit ?_
            refine sqv hf (r_eq rfl rfl) rfl rfl rfl ?_; clear hf fa; intro fa hf
            refine sqv hf (r_assign rfl) rfl rfl rfl ?_; clear hf fa; intro fa hf
            apply wpList_nil
            (try simp only [Exit.then, Exit.inBlock, ↓reduceIte, Nat.reduceEqDiff])
            refine hK23 _ _ ?_
            refine wp_cond_split (t := (decide (kd = (4 : Int)))) (hf.ev rfl) (fun hqt135_1 => ?_) (fun hqt135_1 => ?_)
            · have hqt135_1b := hqt135_1
              try simp only [decide_eq_true_eq, Bool.and_eq_true, Bool.or_eq_true, Bool.not_eq_true', decide_eq_false_iff_not, ne_eq, Bool.not_eq_true] at hqt135_1
              refine wp_seq_k (fun K24 hK24 => ?_)
              refine wp_region_unT 12 (fun wq => Below w3.heap.size w3 wq) (fun w w' => Below w.heap.size w w')
                (fun V => [(fun x _ => x = (.pointer (some ⟨p, 0, none⟩))), (fun x _ => x = (.pointer (some ⟨b1, 1, none⟩))), (fun x _ => x = (.int .i64 ia)), (fun x _ => x = (.pointer (some ⟨b1, 3, none⟩))), (fun x _ => x = (.int .u8 tt)), (fun x _ => x = (.pointer (some ⟨b1, 4, none⟩))), (fun x _ => x = (.int .i64 ow)), (fun x _ => x = (.pointer (some ⟨b1, 5, none⟩))), (fun x _ => x = (.int .u64 mk_)), (fun x wq => ∃ mk2, x = (.agg #[(.string (kT tt.toNat).1), (.string (kT tt.toNat).2), (.int .i64 ow), (.string ⟨#[]⟩), (.slice (some ⟨mk2, 0, none⟩) 2 2), (.slice none 0 0), (.slice none 0 0)]) ∧ w3.heap.size ≤ mk2 ∧ wq.heap[mk2]? = some (.cells (bodyCs mk_) 127 (0, 0))), (fun x _ => x = (.pointer (some ⟨b1, 2, none⟩))), (fun x _ => x = (.int .i64 ib))])
                []
                [[], [], [1], [], [3], [], [5], [], [7], [4, 6, 8], [], [10], [], []]
                hf (by kernel_rfl) (by kernel_rfl) (by kernel_rfl) (fun _ => rfl) ((Below.refl _ _).drew) (fun a b h1 h2 => h1.trans (h2.mono h1.size)) (fun _ _ h => h.size) (fun V => ⟨kept_eq, kept_eq, kept_eq, kept_eq, kept_eq, kept_eq, kept_eq, kept_eq, kept_eq, (fun _ _ _ h hB => by obtain ⟨k, e1, e2, e3⟩ := h; exact ⟨k, e1, e2, blk_ext e3 hB⟩), kept_eq, kept_eq, trivial⟩) (fun _ _ _ _ _ => rfl) ?_ ?_
              · skip
                intro V
                refine ⟨fun wu0 hC hd => ?_, ?_⟩
                · clear hd
                  replace hb := hb.trans (hC.mono hb.size)
                  replace hk1 := blk_ext hk1 hC
                  replace hk3 := blk_ext hk3 hC
                  replace hrr := Row.ext hrr hC
                  exact Runs.does (r_move rfl) ⟨Below.refl _ _, rfl, nofr rfl⟩
                refine ⟨fun wu1 hC hd => ?_, ?_⟩
                · clear hd
                  replace hb := hb.trans (hC.mono hb.size)
                  replace hk1 := blk_ext hk1 hC
                  replace hk3 := blk_ext hk3 hC
                  replace hrr := Row.ext hrr hC
                  exact Runs.does (r_fa rfl Try.underlying28 (f := 1) (q := 1) rfl (by kernel_rfl) rfl) ⟨Below.refl _ _, rfl, nofr rfl⟩
                refine ⟨fun wu2 hC hd => ?_, ?_⟩
                · obtain ⟨h1, _⟩ := hd
                  skip
                  replace h1 : V 1 = (.pointer (some ⟨b1, 1, none⟩)) := h1
                  replace hb := hb.trans (hC.mono hb.size)
                  replace hk1 := blk_ext hk1 hC
                  replace hk3 := blk_ext hk3 hC
                  replace hrr := Row.ext hrr hC
                  exact Runs.does (r_load (v := (.int .i64 ia)) (congrArg some h1) Try.underlying3 rfl (cell_blk hk1 rfl)) ⟨Below.refl _ _, rfl, nofr rfl⟩
                refine ⟨fun wu3 hC hd => ?_, ?_⟩
                · clear hd
                  replace hb := hb.trans (hC.mono hb.size)
                  replace hk1 := blk_ext hk1 hC
                  replace hk3 := blk_ext hk3 hC
                  replace hrr := Row.ext hrr hC
                  exact Runs.does (r_fa rfl Try.underlying28 (f := 3) (q := 3) rfl (by kernel_rfl) rfl) ⟨Below.refl _ _, rfl, nofr rfl⟩
                refine ⟨fun wu4 hC hd => ?_, ?_⟩
                · obtain ⟨h3, _⟩ := hd
                  skip
                  replace h3 : V 3 = (.pointer (some ⟨b1, 3, none⟩)) := h3
                  replace hb := hb.trans (hC.mono hb.size)
                  replace hk1 := blk_ext hk1 hC
                  replace hk3 := blk_ext hk3 hC
                  replace hrr := Row.ext hrr hC
                  exact Runs.does (r_load (v := (.int .u8 tt)) (congrArg some h3) Try.underlying5 rfl (cell_blk hk1 rfl)) ⟨Below.refl _ _, rfl, nofr rfl⟩
                refine ⟨fun wu5 hC hd => ?_, ?_⟩
                · clear hd
                  replace hb := hb.trans (hC.mono hb.size)
                  replace hk1 := blk_ext hk1 hC
                  replace hk3 := blk_ext hk3 hC
                  replace hrr := Row.ext hrr hC
                  exact Runs.does (r_fa rfl Try.underlying28 (f := 4) (q := 4) rfl (by kernel_rfl) rfl) ⟨Below.refl _ _, rfl, nofr rfl⟩
                refine ⟨fun wu6 hC hd => ?_, ?_⟩
                · obtain ⟨h5, _⟩ := hd
                  skip
                  replace h5 : V 5 = (.pointer (some ⟨b1, 4, none⟩)) := h5
                  replace hb := hb.trans (hC.mono hb.size)
                  replace hk1 := blk_ext hk1 hC
                  replace hk3 := blk_ext hk3 hC
                  replace hrr := Row.ext hrr hC
                  exact Runs.does (r_load (v := (.int .i64 ow)) (congrArg some h5) Try.underlying3 rfl (cell_blk hk1 rfl)) ⟨Below.refl _ _, rfl, nofr rfl⟩
                refine ⟨fun wu7 hC hd => ?_, ?_⟩
                · clear hd
                  replace hb := hb.trans (hC.mono hb.size)
                  replace hk1 := blk_ext hk1 hC
                  replace hk3 := blk_ext hk3 hC
                  replace hrr := Row.ext hrr hC
                  exact Runs.does (r_fa rfl Try.underlying28 (f := 5) (q := 5) rfl (by kernel_rfl) rfl) ⟨Below.refl _ _, rfl, nofr rfl⟩
                refine ⟨fun wu8 hC hd => ?_, ?_⟩
                · obtain ⟨h7, _⟩ := hd
                  skip
                  replace h7 : V 7 = (.pointer (some ⟨b1, 5, none⟩)) := h7
                  replace hb := hb.trans (hC.mono hb.size)
                  replace hk1 := blk_ext hk1 hC
                  replace hk3 := blk_ext hk3 hC
                  replace hrr := Row.ext hrr hC
                  exact Runs.does (r_load (v := (.int .u64 mk_)) (congrArg some h7) Try.underlying26 rfl (cell_blk hk1 rfl)) ⟨Below.refl _ _, rfl, nofr rfl⟩
                refine ⟨fun wu9 hC hd => ?_, ?_⟩
                · obtain ⟨h4, h6, h8, _⟩ := hd
                  skip
                  skip
                  skip
                  replace h4 : V 4 = (.int .u8 tt) := h4
                  replace h6 : V 6 = (.int .i64 ow) := h6
                  replace h8 : V 8 = (.int .u64 mk_) := h8
                  replace hb := hb.trans (hC.mono hb.size)
                  replace hk1 := blk_ext hk1 hC
                  replace hk3 := blk_ext hk3 hC
                  replace hrr := Row.ext hrr hC
                  refine Does.mono (d_callX (vs := [(.int .u8 tt), (.int .i64 ow), (.int .u64 mk_)]) (show [some (V 4), some (V 6), some (V 8)] = [some (.int .u8 tt), some (.int .i64 ow), some (.int .u64 mk_)] from by rw [h4, h6, h8]) Try.func13 (by kernel_rfl) (by kernel_rfl) (made_S tt ow mk_ _ hT)) ?_
                  rintro _ w' ⟨k, rfl, hF7, hF8, hF9⟩
                  exact ⟨hF9, ⟨k, rfl, Nat.le_trans hC.size hF7, hF8⟩, nofr rfl⟩
                refine ⟨fun wu10 hC hd => ?_, ?_⟩
                · clear hd
                  replace hb := hb.trans (hC.mono hb.size)
                  replace hk1 := blk_ext hk1 hC
                  replace hk3 := blk_ext hk3 hC
                  replace hrr := Row.ext hrr hC
                  exact Runs.does (r_fa rfl Try.underlying28 (f := 2) (q := 2) rfl (by kernel_rfl) rfl) ⟨Below.refl _ _, rfl, nofr rfl⟩
                refine ⟨fun wu11 hC hd => ?_, ?_⟩
                · obtain ⟨h10, _⟩ := hd
                  skip
                  replace h10 : V 10 = (.pointer (some ⟨b1, 2, none⟩)) := h10
                  replace hb := hb.trans (hC.mono hb.size)
                  replace hk1 := blk_ext hk1 hC
                  replace hk3 := blk_ext hk3 hC
                  replace hrr := Row.ext hrr hC
                  exact Runs.does (r_load (v := (.int .i64 ib)) (congrArg some h10) Try.underlying3 rfl (cell_blk hk1 rfl)) ⟨Below.refl _ _, rfl, nofr rfl⟩
                trivial
              · skip
                clear hf fa; intro V w14 fa he9 hp hnb hf
                have hv0 : V 0 = (.pointer (some ⟨p, 0, none⟩)) := postsHold_at hp 0 rfl
                have hv1 : V 1 = (.pointer (some ⟨b1, 1, none⟩)) := postsHold_at hp 1 rfl
                have hv2 : V 2 = (.int .i64 ia) := postsHold_at hp 2 rfl
                have hv3 : V 3 = (.pointer (some ⟨b1, 3, none⟩)) := postsHold_at hp 3 rfl
                have hv4 : V 4 = (.int .u8 tt) := postsHold_at hp 4 rfl
                have hv5 : V 5 = (.pointer (some ⟨b1, 4, none⟩)) := postsHold_at hp 5 rfl
                have hv6 : V 6 = (.int .i64 ow) := postsHold_at hp 6 rfl
                have hv7 : V 7 = (.pointer (some ⟨b1, 5, none⟩)) := postsHold_at hp 7 rfl
                have hv8 : V 8 = (.int .u64 mk_) := postsHold_at hp 8 rfl
                have hv9 := postsHold_at hp 9 rfl
                obtain ⟨mk2, hv9, hle8, hk8⟩ := hv9
                skip
                have hv10 : V 10 = (.pointer (some ⟨b1, 2, none⟩)) := postsHold_at hp 10 rfl
                have hv11 : V 11 = (.int .i64 ib) := postsHold_at hp 11 rfl
                simp only [List.take_succ_cons, List.take_zero, insAll, ins, hv0, hv1, hv2, hv3, hv4, hv5, hv6, hv7, hv8, hv9, hv10, hv11] at hf
                have : b1 < mk2 := Nat.lt_of_lt_of_le (blk_lt hk1) hle8
                have : b2 < mk2 := Nat.lt_of_lt_of_le (blk_lt hk3) hle8
                clear hp hnb hv0 hv1 hv2 hv3 hv4 hv5 hv6 hv7 hv8 hv9 hv10 hv11
                replace hk1 := blk_ext hk1 he9
                replace hk3 := blk_ext hk3 he9
                replace hrr := Row.ext hrr he9
                replace hb := hb.trans (Below.mono he9 hb.size)
                replace hSt := hSt.ext he9
                skip
                simp only [List.drop_succ_cons, List.drop_zero]
                refine sqdt hf (d_callX (vs := [(.pointer (some ⟨p, 0, none⟩)), (.int .i64 ia), (.agg #[(.string (kT tt.toNat).1), (.string (kT tt.toNat).2), (.int .i64 ow), (.string ⟨#[]⟩), (.slice (some ⟨mk2, 0, none⟩) 2 2), (.slice none 0 0), (.slice none 0 0)]), (.int .i64 ib)]) rfl Try.func71 (by kernel_rfl) (by kernel_rfl) (rest_S hb hSt hk8 ia ib)) rfl rfl rfl ?_; clear hf fa; rintro fa _ w15 ⟨rfl, hF2, hb2, hP2⟩ hf; clear hSt; have hSt : St29 w0.heap.size w15 p (rreP R ia (rT (kT tt.toNat).1 (kT tt.toNat).2 ow mk_ ib)) := hF2; clear hF2; replace hb := hb2; clear hb2
                replace hk1 := hP2.2.2.1 _ _ hk1
                replace hk3 := hP2.1 _ _ hk3
                replace hk8 := hP2.2.1 _ _ hk8
                replace hrr := Row.kt hrr hP2.1
                clear hP2
                refine sqv hf (r_assign rfl) rfl rfl rfl ?_; clear hf fa; intro fa hf
                apply wpList_nil
                (try simp only [Exit.then, Exit.inBlock, ↓reduceIte, Nat.reduceEqDiff])
                refine hK24 _ _ ?_
                refine wp_seq_k (fun K25 hK25 => ?_)
                refine wp_seq_k (fun K26 hK26 => ?_)
                refine wp_region_lit ?_
                refine sqv hf (r_fa rfl Try.underlying28 (f := 1) (q := 1) rfl (by kernel_rfl) rfl) rfl rfl rfl ?_; clear hf fa; intro fa hf
                refine sqv hf (r_load (v := (.int .i64 ia)) rfl Try.underlying3 rfl (cell_blk hk1 rfl)) rfl rfl rfl ?_; clear hf fa; intro fa hf
                refine sqv hf (r_lt rfl rfl) rfl rfl rfl ?_; clear hf fa; intro fa hf
                refine sqv hf (r_move rfl) rfl rfl rfl ?_; clear hf fa; intro fa hf
                refine sqgF (act := (!(decide (ia < (0 : Int))))) (ag := true) (c := (decide (ia < (0 : Int)))) (v := (.pointer (some ⟨b1, 1, none⟩))) hf rfl rfl rfl (fun hact => (r_fa rfl Try.underlying28 (f := 1) (q := 1) rfl (by kernel_rfl) rfl)) rfl rfl ?_; clear hf fa; intro fa hf
                refine sqgF (act := (!(decide (ia < (0 : Int))))) (ag := true) (c := (decide (ia < (0 : Int)))) (v := (.int .i64 ia)) hf rfl rfl rfl (fun hact => (r_load (v := (.int .i64 ia)) (gb_ev hact rfl) Try.underlying3 rfl (cell_blk hk1 rfl))) rfl rfl ?_; clear hf fa; intro fa hf
                refine sqgF (act := (!(decide (ia < (0 : Int))))) (ag := true) (c := (decide (ia < (0 : Int)))) (v := (.slice a R.length c)) hf rfl rfl rfl (fun hact => (r_move rfl)) rfl rfl ?_; clear hf fa; intro fa hf
                refine sqgF (act := (!(decide (ia < (0 : Int))))) (ag := true) (c := (decide (ia < (0 : Int)))) (v := (.int .i64 ((R.length : Nat) : Int))) hf rfl rfl rfl (fun hact => (r_lensl (gb_ev hact rfl) Try.underlying76)) rfl rfl ?_; clear hf fa; intro fa hf
                refine sqgF (act := (!(decide (ia < (0 : Int))))) (ag := true) (c := (decide (ia < (0 : Int)))) (v := (.bool (decide (((R.length : Nat) : Int) ≤ ia)))) hf rfl rfl rfl (fun hact => (r_ge (gb_ev hact rfl) (gb_ev hact rfl))) rfl rfl ?_; clear hf fa; intro fa hf
                refine sqv hf (r_pickO (b := (decide (ia < (0 : Int)))) (e := (decide (((R.length : Nat) : Int) ≤ ia))) rfl rfl rfl) rfl rfl rfl ?_; clear hf fa; intro fa hf
                apply wpList_nil
                (try simp only [Exit.then, Exit.inBlock, ↓reduceIte, Nat.reduceEqDiff])
                refine hK26 _ _ ?_
                refine wp_cond_split (t := ((decide (ia < (0 : Int))) || (decide (((R.length : Nat) : Int) ≤ ia)))) (hf.ev rfl) (fun hqt159_1 => ?_) (fun hqt159_1 => ?_)
                · have hqt159_1b := hqt159_1
                  try simp only [decide_eq_true_eq, Bool.and_eq_true, Bool.or_eq_true, Bool.not_eq_true', decide_eq_false_iff_not, ne_eq, Bool.not_eq_true] at hqt159_1
                  refine wp_seq_k (fun K27 hK27 => ?_)
                  have hir : ¬ (0 ≤ ia ∧ ia < ((R.length : Nat) : Int)) := by have h := hqt159_1; first | omega | (simp at h; omega)
                  refine wp_region_lit ?_
                  refine sqv hf (r_move rfl) rfl rfl rfl ?_; clear hf fa; intro fa hf
                  refine sqv hf (r_move rfl) rfl rfl rfl ?_; clear hf fa; intro fa hf
                  refine sqv hf (Runs.veq (r_eq rfl rfl) (congrArg Value.bool (show _ = true from (by rw [if_neg hir]; rfl)))) rfl rfl rfl ?_; clear hf fa; intro fa hf
                  refine sqv hf (r_assign rfl) rfl rfl rfl ?_; clear hf fa; intro fa hf
                  refine sqv hf (r_assign rfl) rfl rfl rfl ?_; clear hf fa; intro fa hf
                  apply wpList_nil
                  (try simp only [Exit.then, Exit.inBlock, ↓reduceIte, Nat.reduceEqDiff])
                  refine hK27 _ _ ?_
                  refine wp_ret ?_
                  (try simp only [Exit.then, Exit.inBlock])
                  refine ret2 hf rfl rfl rfl ?_
                  have hzz := hrr
                  have hin : ¬ (0 ≤ ia ∧ ia < ((R.length : Nat) : Int)) := by have h := hqt159_1; first | omega | (simp at h; omega)
                  have hcu : rreP R ia (rT (kT tt.toNat).1 (kT tt.toNat).2 ow mk_ ib) = R := by unfold rreP; rw [if_neg hin]
                  rw [hcu] at hSt
                  exact ⟨_, R, rfl, hzz, hSt, by omega, hb⟩
                · have hqt159_1b := hqt159_1
                  replace hqt159_1 := Bool.eq_false_iff.1 hqt159_1
                  try simp only [ne_eq, decide_eq_true_eq, Bool.and_eq_true, Bool.or_eq_true, Bool.not_eq_true', decide_eq_false_iff_not] at hqt159_1
                  refine wp_skip ?_
                  (try simp only [Exit.then, Exit.inBlock, ↓reduceIte, Nat.reduceEqDiff])
                  refine hK25 _ _ ?_
                  refine wp_seq_k (fun K28 hK28 => ?_)
                  refine wp_region_lit ?_
                  refine sqv hf (r_fa rfl Try.underlying28 (f := 2) (q := 2) rfl (by kernel_rfl) rfl) rfl rfl rfl ?_; clear hf fa; intro fa hf
                  refine sqv hf (r_load (v := (.int .i64 ib)) rfl Try.underlying3 rfl (cell_blk hk1 rfl)) rfl rfl rfl ?_; clear hf fa; intro fa hf
                  refine sqv hf (r_fa rfl Try.underlying132 (f := 3) (q := 4) rfl (by kernel_rfl) rfl) rfl rfl rfl ?_; clear hf fa; intro fa hf
                  refine sqn hf (d_storeK (T := 132) (v := (.int .i64 ib)) (cs := #[(.string (kT tt.toNat).1), (.string (kT tt.toNat).2), (.int .i64 ow), (.int .u64 mk_), (.int .i64 (0 : Int)), (.bool true)]) (cs' := #[(.string (kT tt.toNat).1), (.string (kT tt.toNat).2), (.int .i64 ow), (.int .u64 mk_), (.int .i64 ib), (.bool true)]) rfl rfl (by kernel_rfl) (by kernel_rfl) hk3 (by kernel_rfl) (by kernel_rfl)) rfl rfl ?_; clear hf fa; rintro fa _ w16 ⟨hk9, hg3⟩ hf
                  replace hk1 := blk_grown hk1 hg3 (by omega)
                  replace hk8 := blk_grown hk8 hg3 (by omega)
                  replace hrr := Row.grown hrr hg3 hnr1
                  replace hb := hb.trans (grown_below hg3 hb.size hBb2)
                  replace hSt := hSt.grown hg3 hk3
                  apply wpList_nil
                  (try simp only [Exit.then, Exit.inBlock, ↓reduceIte, Nat.reduceEqDiff])
                  refine hK28 _ _ ?_
                  refine wp_seq_k (fun K29 hK29 => ?_)
                  have hir : 0 ≤ ia ∧ ia < ((R.length : Nat) : Int) := by have h := hqt159_1; first | omega | (simp at h; omega)
                  refine wp_region_lit ?_
                  refine sqv hf (r_move rfl) rfl rfl rfl ?_; clear hf fa; intro fa hf
                  refine sqv hf (r_fa rfl Try.underlying28 (f := 1) (q := 1) rfl (by kernel_rfl) rfl) rfl rfl rfl ?_; clear hf fa; intro fa hf
                  refine sqv hf (r_load (v := (.int .i64 ia)) rfl Try.underlying3 rfl (cell_blk hk1 rfl)) rfl rfl rfl ?_; clear hf fa; intro fa hf
                  refine sqv hf (r_loadA (cs := [(.string (kT tt.toNat).1), (.string (kT tt.toNat).2), (.int .i64 ow), (.int .u64 mk_), (.int .i64 ib), (.bool true)]) rfl Try.underlying132 rfl (by kernel_rfl) (cellsAt_blk hk9)) rfl rfl rfl ?_; clear hf fa; intro fa hf
                  refine sqdt hf (d_callX (vs := [(.slice a R.length c), (.int .i64 ia), (.agg #[(.string (kT tt.toNat).1), (.string (kT tt.toNat).2), (.int .i64 ow), (.int .u64 mk_), (.int .i64 ib), (.bool true)])]) rfl Try.func69 (by kernel_rfl) (by kernel_rfl) (rset_to (Row.rd (by intros; rfl) hrr) hlc (Row.caps hrr).2 (fun h => Row.nocap hrr h) ia ((((kT tt.toNat).1, (kT tt.toNat).2, ()), ow, mk_, ib, true, ()) : MRf) (by omega))) rfl rfl rfl ?_; clear hf fa; rintro fa v w17 ⟨hr5, he10⟩ hf; obtain ⟨ra2, rc2, rfl, hcrc2, hmrc2⟩ := Row.slice hr5
                  replace hr5 := Row.rebase hr5 hb.size
                  replace hk1 := blk_ext hk1 he10
                  replace hk9 := blk_ext hk9 he10
                  replace hk8 := blk_ext hk8 he10
                  replace hrr := Row.ext hrr he10
                  replace hb := hb.trans (Below.mono he10 hb.size)
                  replace hSt := hSt.ext he10
                  refine sqv hf (r_move rfl) rfl rfl rfl ?_; clear hf fa; intro fa hf
                  refine sqv hf (Runs.veq (r_eq rfl rfl) (congrArg Value.bool (show _ = true from (by rw [if_pos hir]; rfl)))) rfl rfl rfl ?_; clear hf fa; intro fa hf
                  refine sqv hf (r_assign rfl) rfl rfl rfl ?_; clear hf fa; intro fa hf
                  refine sqv hf (r_assign rfl) rfl rfl rfl ?_; clear hf fa; intro fa hf
                  apply wpList_nil
                  (try simp only [Exit.then, Exit.inBlock, ↓reduceIte, Nat.reduceEqDiff])
                  refine hK29 _ _ ?_
                  refine wp_ret ?_
                  (try simp only [Exit.then, Exit.inBlock])
                  refine ret2 hf rfl rfl rfl ?_
                  have hzz := hr5
                  have hin : (0 ≤ ia ∧ ia < ((R.length : Nat) : Int)) := by have h := hqt159_1; first | omega | (simp at h; omega)
                  have hcu : rreP R ia (rT (kT tt.toNat).1 (kT tt.toNat).2 ow mk_ ib) = R.set ia.toNat (rT (kT tt.toNat).1 (kT tt.toNat).2 ow mk_ ib) := by unfold rreP; rw [if_pos hin]
                  rw [hcu] at hSt
                  exact ⟨_, (R.set ia.toNat (rT (kT tt.toNat).1 (kT tt.toNat).2 ow mk_ ib)), rfl, hzz, hSt, by rw [List.length_set]; omega, hb⟩
            · have hqt135_1b := hqt135_1
              replace hqt135_1 := Bool.eq_false_iff.1 hqt135_1
              try simp only [ne_eq, decide_eq_true_eq, Bool.and_eq_true, Bool.or_eq_true, Bool.not_eq_true', decide_eq_false_iff_not] at hqt135_1
              refine wp_skip ?_
              (try simp only [Exit.then, Exit.inBlock, ↓reduceIte, Nat.reduceEqDiff])
              refine hK3 _ _ ?_
              refine wp_seq_k (fun K30 hK30 => ?_)
              refine wp_region_lit ?_
              refine sqv hf (r_move rfl) rfl rfl rfl ?_; clear hf fa; intro fa hf
              refine sqv hf (r_assign rfl) rfl rfl rfl ?_; clear hf fa; intro fa hf
              refine sqv hf (r_assign rfl) rfl rfl rfl ?_; clear hf fa; intro fa hf
              apply wpList_nil
              (try simp only [Exit.then, Exit.inBlock, ↓reduceIte, Nat.reduceEqDiff])
              refine hK30 _ _ ?_
              refine wp_ret ?_
              (try simp only [Exit.then, Exit.inBlock])
              refine ret2 hf rfl rfl rfl ?_
              have hzz := hrr
              exact ⟨_, R, rfl, hzz, hSt, by omega, hb⟩
end Go.Proofs.Ytmcmickgllffoaa
