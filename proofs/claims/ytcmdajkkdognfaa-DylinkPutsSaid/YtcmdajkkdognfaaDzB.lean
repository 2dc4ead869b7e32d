/- What is proved here: dylink: Put and Same of the document; info and needed. -/
import Derived.Test.YtcmdajkkdognfaaDzA
import Derived.Test.YtcmdajkkdognfaaSxR
namespace Go.Proofs.Ytcmdajkkdognfaa
open Go.RowKit
set_option linter.unusedVariables false
set_option linter.unusedSimpArgs false
theorem partL_str {t : Int} {X : List Int} : strOfNums (partL t X) = (strOfNums [t] ++ cntS X.length) ++ strOfNums X := by
  unfold partL cntS
  rw [strOfNums_app, strOfNums_app]
theorem infoL_str (a1 a2 a3 a4 : Int) : ((cntS a1.toNat ++ cntS a2.toNat) ++ cntS a3.toNat) ++ cntS a4.toNat = strOfNums (infoL a1 a2 a3 a4) := by
  rw [infoL_form]; unfold cntS
  rw [strOfNums_app, strOfNums_app, strOfNums_app]
  simp only [ByteArray.append_assoc]
theorem nameB_str (s : ByteArray) : strOfNums (nameB s) = cntS s.size ++ s := by
  unfold nameB cntS; rw [strOfNums_app, strOfNums_nums]
theorem infoL_rng {a1 a2 a3 a4 : Int} : ∀ y ∈ infoL a1 a2 a3 a4, 0 ≤ y ∧ y < 256 := by
  intro y hy
  rw [infoL_form] at hy
  simp only [List.mem_append] at hy
  rcases hy with h | h | h | h <;> exact uL_rng _ y h
theorem nameB_rng (s : ByteArray) : ∀ y ∈ nameB s, 0 ≤ y ∧ y < 256 := by
  intro y hy
  unfold nameB at hy
  rcases List.mem_append.1 hy with h | h
  · exact uL_rng _ y h
  · exact nums_rng _ y h
theorem needL_rng (L : List ByteArray) : ∀ y ∈ needL L, 0 ≤ y ∧ y < 256 := by
  intro y hy
  unfold needL at hy
  rcases List.mem_append.1 hy with h | h
  · exact uL_rng _ y h
  · obtain ⟨z, _, hz⟩ := List.mem_flatMap.1 h
    exact nameB_rng z y hz
theorem partL_rng {t : Int} {X : List Int} (ht : 0 ≤ t ∧ t < 256) (h : ∀ y ∈ X, 0 ≤ y ∧ y < 256) : ∀ y ∈ partL t X, 0 ≤ y ∧ y < 256 := by
  intro y hy
  unfold partL at hy
  simp only [List.mem_append, List.mem_singleton] at hy
  rcases hy with (rfl | h1) | h1
  · exact ht
  · exact uL_rng _ y h1
  · exact h y h1
theorem partL_len {t : Int} {X : List Int} (h : X.length ≤ 100000) : (partL t X).length = 1 + (uL X.length).length + X.length ∧ 1 ≤ (uL X.length).length ∧ (uL X.length).length ≤ 10 := by
  have := uL_len X.length (by omega)
  unfold partL
  refine ⟨?_, this.1, this.2⟩
  simp only [List.length_append, List.length_cons, List.length_nil]

set_option maxHeartbeats 1000000 in
set_option maxRecDepth 100000 in
theorem rpart_any (t : Int) (X : List Int) (w : World) (ht : 0 ≤ t ∧ t < 256) (hX : X.length ≤ 100000) : Calls Try.prog 140 #[(.int .i64 t), (.string (strOfNums X))] w fun e w' => e = .returned (.string (strOfNums (partL t X))) ∧ Below w.heap.size w w' := by
  have hXs := strOfNums_size X; have hXu := uL_len X.length (by omega)
  refine sx_enter (L := [(0, (.int .i64 t)), (1, (.string (strOfNums X)))]) Try.func140 rfl rfl rfl rfl (fun fa hf => ?_)
  have hb : Below w.heap.size w w := Below.refl _ _
  refine wp_seq_k (fun K1 hK1 => ?_)
  refine wp_region_lit ?_
  refine sqv hf (r_assign rfl) rfl rfl rfl ?_; clear hf fa; intro fa hf
  apply wpList_nil
  (try simp only [Exit.then, Exit.inBlock, ↓reduceIte, Nat.reduceEqDiff])
  refine hK1 _ _ ?_
  refine wp_seq_k (fun K2 hK2 => ?_)
  refine wp_region_un (fun wq => Below w.heap.size w wq) (fun w w' => Below w.heap.size w w')
    (fun V => [(fun x _ => x = (.int .i64 t)), (fun x _ => x = (.int .u8 t)), (fun x wq => ∃ b, x = .slice (some ⟨b, 0, none⟩) 1 1 ∧ w.heap.size ≤ b ∧ wq.heap[b]? = some (.cells #[(.int .u8 t)] 5 (0, 0))), (fun x _ => x = (.string (strOfNums [t]))), (fun x _ => x = (.string (strOfNums X))), (fun x _ => x = (.int .i64 (((strOfNums X).size : Nat) : Int))), (fun x _ => x = (.string (cntS ((strOfNums X).size)))), (fun x _ => x = (.string ((strOfNums [t]) ++ (cntS ((strOfNums X).size))))), (fun x _ => x = (.string (strOfNums X))), (fun x _ => x = (.string (((strOfNums [t]) ++ (cntS ((strOfNums X).size))) ++ (strOfNums X)))), (fun x _ => x = (.string (((strOfNums [t]) ++ (cntS ((strOfNums X).size))) ++ (strOfNums X))))])
    [2]
    [[], [0], [1], [2], [], [4], [5], [3, 6], [], [7, 8], [0, 1, 2, 3, 4, 5, 6, 7, 8, 9]]
    hf (by kernel_rfl) (by kernel_rfl) (fun _ => rfl) ((Below.refl _ _).drew) (fun a b h1 h2 => h1.trans (h2.mono h1.size)) (fun _ _ h => h.size) (fun V => ⟨kept_eq, kept_eq, keptB, kept_eq, kept_eq, kept_eq, kept_eq, kept_eq, kept_eq, kept_eq, kept_eq, trivial⟩) (fun _ _ _ _ _ => rfl) ?_ ?_
  · skip
    intro V
    refine ⟨fun wu0 hC hd => ?_, ?_⟩
    · clear hd
      replace hb := hb.trans (hC.mono hb.size)
      exact Runs.does (r_move rfl) ⟨Below.refl _ _, rfl, nofr rfl⟩
    refine ⟨fun wu1 hC hd => ?_, ?_⟩
    · obtain ⟨h0, _⟩ := hd
      skip
      replace h0 : V 0 = (.int .i64 t) := h0
      replace hb := hb.trans (hC.mono hb.size)
      exact Runs.does (r_conv (C := t) (congrArg some h0) Try.underlying3 Try.underlying5 (by rw [IntKind.wrap_u8]; omega)) ⟨Below.refl _ _, rfl, nofr rfl⟩
    refine ⟨fun wu2 hC hd => ?_, ?_⟩
    · obtain ⟨h1, _⟩ := hd
      skip
      replace h1 : V 1 = (.int .u8 t) := h1
      replace hb := hb.trans (hC.mono hb.size)
      refine Does.mono (d_bslice (z := (.int .u8 (0 : Int))) (sz := 1) (vs := [(0, (.int .u8 t))]) (cs := #[(.int .u8 t)]) (show [(0, some (V 1))] = [(0, some (.int .u8 t))] from by rw [h1]) Try.underlying47 (by kernel_rfl) rfl (by kernel_rfl)) ?_
      rintro _ w' ⟨b, rfl, hF⟩
      exact ⟨hF.2.2, ⟨b, rfl, Nat.le_trans hC.size hF.1, hF.2.1⟩, isfr rfl hF.1 (blk_lt hF.2.1)⟩
    refine ⟨fun wu3 hC hd => ?_, ?_⟩
    · obtain ⟨h2, _⟩ := hd
      skip
      obtain ⟨b1, h2, hle1, hk1⟩ := h2
      replace hb := hb.trans (hC.mono hb.size)
      exact Runs.does (r_rowstr (congrArg some h2) Try.underlying47 Try.underlying5 Try.underlying9 (Row.of_new (k := 1) (V := vInt .u8) (l := [t]) hk1 (Nat.le_refl _) rfl rfl (Nat.le_of_ble_eq_true rfl))) ⟨Below.refl _ _, rfl, nofr rfl⟩
    refine ⟨fun wu4 hC hd => ?_, ?_⟩
    · clear hd
      replace hb := hb.trans (hC.mono hb.size)
      exact Runs.does (r_move rfl) ⟨Below.refl _ _, rfl, nofr rfl⟩
    refine ⟨fun wu5 hC hd => ?_, ?_⟩
    · obtain ⟨h4, _⟩ := hd
      skip
      replace h4 : V 4 = (.string (strOfNums X)) := h4
      replace hb := hb.trans (hC.mono hb.size)
      exact Runs.does (r_lens (congrArg some h4) Try.underlying9) ⟨Below.refl _ _, rfl, nofr rfl⟩
    refine ⟨fun wu6 hC hd => ?_, ?_⟩
    · obtain ⟨h5, _⟩ := hd
      skip
      replace h5 : V 5 = (.int .i64 (((strOfNums X).size : Nat) : Int)) := h5
      replace hb := hb.trans (hC.mono hb.size)
      refine Does.mono (d_callB (vs := [(.int .i64 (((strOfNums X).size : Nat) : Int))]) (show [some (V 5)] = [some (.int .i64 (((strOfNums X).size : Nat) : Int))] from by rw [h5]) Try.func111 (by kernel_rfl) (by kernel_rfl) (count_any ((strOfNums X).size) _ (by omega))) (fun _ _ h => ⟨h.2, h.1, nofr rfl⟩)
    refine ⟨fun wu7 hC hd => ?_, ?_⟩
    · obtain ⟨h3, h6, _⟩ := hd
      skip
      skip
      replace h3 : V 3 = (.string (strOfNums [t])) := h3
      replace h6 : V 6 = (.string (cntS ((strOfNums X).size))) := h6
      replace hb := hb.trans (hC.mono hb.size)
      exact Runs.does (r_sadd (congrArg some h3) (congrArg some h6) (by have := strOfNums_size [t]; (try simp only [List.length_cons, List.length_nil, List.length_append] at this); have := cntS_le (n := ((strOfNums X).size)) (by omega); omega)) ⟨Below.refl _ _, rfl, nofr rfl⟩
    refine ⟨fun wu8 hC hd => ?_, ?_⟩
    · clear hd
      replace hb := hb.trans (hC.mono hb.size)
      exact Runs.does (r_move rfl) ⟨Below.refl _ _, rfl, nofr rfl⟩
    refine ⟨fun wu9 hC hd => ?_, ?_⟩
    · obtain ⟨h7, h8, _⟩ := hd
      skip
      skip
      replace h7 : V 7 = (.string ((strOfNums [t]) ++ (cntS ((strOfNums X).size)))) := h7
      replace h8 : V 8 = (.string (strOfNums X)) := h8
      replace hb := hb.trans (hC.mono hb.size)
      exact Runs.does (r_sadd (congrArg some h7) (congrArg some h8) (by have := strOfNums_size [t]; (try simp only [List.length_cons, List.length_nil, List.length_append] at this); have := cntS_le (n := ((strOfNums X).size)) (by omega); have := sz_app (strOfNums [t]) (cntS ((strOfNums X).size)); have := strOfNums_size X; omega)) ⟨Below.refl _ _, rfl, nofr rfl⟩
    refine ⟨fun wu10 hC hd => ?_, ?_⟩
    · obtain ⟨h0, h1, h2, h3, h4, h5, h6, h7, h8, h9, _⟩ := hd
      skip
      skip
      skip
      skip
      skip
      skip
      skip
      skip
      skip
      skip
      replace h0 : V 0 = (.int .i64 t) := h0
      replace h1 : V 1 = (.int .u8 t) := h1
      obtain ⟨b1, h2, hle1, hk1⟩ := h2
      replace h3 : V 3 = (.string (strOfNums [t])) := h3
      replace h4 : V 4 = (.string (strOfNums X)) := h4
      replace h5 : V 5 = (.int .i64 (((strOfNums X).size : Nat) : Int)) := h5
      replace h6 : V 6 = (.string (cntS ((strOfNums X).size))) := h6
      replace h7 : V 7 = (.string ((strOfNums [t]) ++ (cntS ((strOfNums X).size)))) := h7
      replace h8 : V 8 = (.string (strOfNums X)) := h8
      replace h9 : V 9 = (.string (((strOfNums [t]) ++ (cntS ((strOfNums X).size))) ++ (strOfNums X))) := h9
      replace hb := hb.trans (hC.mono hb.size)
      exact Runs.does (r_assign (congrArg some h9)) ⟨Below.refl _ _, rfl, nofr rfl⟩
    trivial
  · skip
    clear hf fa; intro V w1 fa he1 hp hnb hf
    have hv0 : V 0 = (.int .i64 t) := postsHold_at hp 0 rfl
    have hv1 : V 1 = (.int .u8 t) := postsHold_at hp 1 rfl
    have hv2 := postsHold_at hp 2 rfl
    obtain ⟨b1, hv2, hle1, hk1⟩ := hv2
    have hBb1 : w.heap.size ≤ b1 := Nat.le_trans hb.size hle1
    have hv3 : V 3 = (.string (strOfNums [t])) := postsHold_at hp 3 rfl
    have hv4 : V 4 = (.string (strOfNums X)) := postsHold_at hp 4 rfl
    have hv5 : V 5 = (.int .i64 (((strOfNums X).size : Nat) : Int)) := postsHold_at hp 5 rfl
    have hv6 : V 6 = (.string (cntS ((strOfNums X).size))) := postsHold_at hp 6 rfl
    have hv7 : V 7 = (.string ((strOfNums [t]) ++ (cntS ((strOfNums X).size)))) := postsHold_at hp 7 rfl
    have hv8 : V 8 = (.string (strOfNums X)) := postsHold_at hp 8 rfl
    have hv9 : V 9 = (.string (((strOfNums [t]) ++ (cntS ((strOfNums X).size))) ++ (strOfNums X))) := postsHold_at hp 9 rfl
    have hv10 : V 10 = (.string (((strOfNums [t]) ++ (cntS ((strOfNums X).size))) ++ (strOfNums X))) := postsHold_at hp 10 rfl
    simp only [List.take_succ_cons, List.take_zero, insAll, ins, hv0, hv1, hv2, hv3, hv4, hv5, hv6, hv7, hv8, hv9, hv10] at hf
    clear hp hnb hv0 hv1 hv2 hv3 hv4 hv5 hv6 hv7 hv8 hv9 hv10
    replace hb := hb.trans (Below.mono he1 hb.size)
    (try simp only [Exit.then, Exit.inBlock, ↓reduceIte, Nat.reduceEqDiff])
    refine hK2 _ _ ?_
    refine wp_ret ?_
    (try simp only [Exit.then, Exit.inBlock])
    refine ret1 hf rfl rfl ?_
    refine ⟨?_, hb⟩
    rw [partL_str, hXs]

set_option maxHeartbeats 1000000 in
set_option maxRecDepth 100000 in
theorem rdput_any (has : Bool) (a1 a2 a3 a4 : Int) (a : Option Addr) (L : List ByteArray) (c : Nat) (w : World) (hl : RdS 1 vStr w a L) (hc : L.length ≤ 9223372036854775807) (hcp : L.length ≤ c) (h1 : 0 ≤ a1 ∧ a1 < 4294967296) (h2 : 0 ≤ a2 ∧ a2 < 4294967296) (h3 : 0 ≤ a3 ∧ a3 < 4294967296) (h4 : 0 ≤ a4 ∧ a4 < 4294967296) (hfw : L.length ≤ 30 ∧ ∀ s ∈ L, s.size ≤ 300) : Calls Try.prog 94 #[(.agg #[(.bool has), (.int .u32 a1), (.int .u32 a2), (.int .u32 a3), (.int .u32 a4), (.slice a L.length c)])] w fun e w' => e = .returned (.string (strOfNums (encD a1 a2 a3 a4 L))) ∧ Below w.heap.size w w' := by
  refine sx_enter (L := [(0, (.agg #[(.bool has), (.int .u32 a1), (.int .u32 a2), (.int .u32 a3), (.int .u32 a4), (.slice a L.length c)]))]) Try.func94 rfl rfl rfl rfl (fun fa hf => ?_)
  have hb : Below w.heap.size w w := Below.refl _ _
  refine wp_seq_k (fun K1 hK1 => ?_)
  refine wp_region_lit ?_
  refine sqdt hf (d_box (cs := #[(.bool has), (.int .u32 a1), (.int .u32 a2), (.int .u32 a3), (.int .u32 a4), (.slice a L.length c)]) rfl rfl) rfl rfl rfl ?_; clear hf fa; rintro fa _ w1 ⟨b1, rfl, hle1, hk1, he1⟩ hf
  have hBb1 : w.heap.size ≤ b1 := Nat.le_trans hb.size hle1
  replace hb := hb.trans (Below.mono he1 hb.size)
  refine sqv hf (r_assign rfl) rfl rfl rfl ?_; clear hf fa; intro fa hf
  apply wpList_nil
  (try simp only [Exit.then, Exit.inBlock, ↓reduceIte, Nat.reduceEqDiff])
  refine hK1 _ _ ?_
  refine wp_seq_k (fun K2 hK2 => ?_)
  have hi4b := infoL_len h1 h2 h3 h4
  have hp1 := partL_len (t := 1) (X := infoL a1 a2 a3 a4) (by omega)
  refine wp_region_un (fun wq => Below w1.heap.size w1 wq) (fun w w' => Below w.heap.size w w')
    (fun V => [(fun x _ => x = (.pointer (some ⟨b1, 1, none⟩))), (fun x _ => x = (.int .u32 a1)), (fun x _ => x = (.int .i64 a1)), (fun x _ => x = (.string (cntS a1.toNat))), (fun x _ => x = (.pointer (some ⟨b1, 2, none⟩))), (fun x _ => x = (.int .u32 a2)), (fun x _ => x = (.int .i64 a2)), (fun x _ => x = (.string (cntS a2.toNat))), (fun x _ => x = (.string ((cntS a1.toNat) ++ (cntS a2.toNat)))), (fun x _ => x = (.pointer (some ⟨b1, 3, none⟩))), (fun x _ => x = (.int .u32 a3)), (fun x _ => x = (.int .i64 a3)), (fun x _ => x = (.string (cntS a3.toNat))), (fun x _ => x = (.string (((cntS a1.toNat) ++ (cntS a2.toNat)) ++ (cntS a3.toNat)))), (fun x _ => x = (.pointer (some ⟨b1, 4, none⟩))), (fun x _ => x = (.int .u32 a4)), (fun x _ => x = (.int .i64 a4)), (fun x _ => x = (.string (cntS a4.toNat))), (fun x _ => x = (.string (strOfNums (infoL a1 a2 a3 a4)))), (fun x _ => x = (.string (strOfNums (partL 1 (infoL a1 a2 a3 a4))))), (fun x _ => x = (.string (strOfNums (partL 1 (infoL a1 a2 a3 a4)))))])
    []
    [[], [0], [1], [2], [], [4], [5], [3, 6], [3, 7], [], [9], [10], [7, 11], [8, 12], [], [14], [15], [12, 16], [13, 17], [17, 18], [0, 1, 2, 3, 4, 5, 6, 7, 8, 9, 10, 11, 12, 13, 14, 15, 16, 17, 18, 19]]
    hf (by kernel_rfl) (by kernel_rfl) (fun _ => rfl) ((Below.refl _ _).drew) (fun a b h1 h2 => h1.trans (h2.mono h1.size)) (fun _ _ h => h.size) (fun V => ⟨kept_eq, kept_eq, kept_eq, kept_eq, kept_eq, kept_eq, kept_eq, kept_eq, kept_eq, kept_eq, kept_eq, kept_eq, kept_eq, kept_eq, kept_eq, kept_eq, kept_eq, kept_eq, kept_eq, kept_eq, kept_eq, trivial⟩) (fun _ _ _ _ _ => rfl) ?_ ?_
  · skip
    intro V
    refine ⟨fun wu0 hC hd => ?_, ?_⟩
    · clear hd
      replace hb := hb.trans (hC.mono hb.size)
      replace hk1 := blk_ext hk1 hC
      exact Runs.does (r_fa rfl Try.underlying37 (f := 1) (q := 1) rfl (by kernel_rfl) rfl) ⟨Below.refl _ _, rfl, nofr rfl⟩
    refine ⟨fun wu1 hC hd => ?_, ?_⟩
    · obtain ⟨h0, _⟩ := hd
      skip
      replace h0 : V 0 = (.pointer (some ⟨b1, 1, none⟩)) := h0
      replace hb := hb.trans (hC.mono hb.size)
      replace hk1 := blk_ext hk1 hC
      exact Runs.does (r_load (v := (.int .u32 a1)) (congrArg some h0) Try.underlying24 rfl (cell_blk hk1 rfl)) ⟨Below.refl _ _, rfl, nofr rfl⟩
    refine ⟨fun wu2 hC hd => ?_, ?_⟩
    · obtain ⟨h1, _⟩ := hd
      skip
      replace h1 : V 1 = (.int .u32 a1) := h1
      replace hb := hb.trans (hC.mono hb.size)
      replace hk1 := blk_ext hk1 hC
      exact Runs.does (r_conv (C := a1) (congrArg some h1) Try.underlying24 Try.underlying3 (by rw [IntKind.wrap_i64]; omega)) ⟨Below.refl _ _, rfl, nofr rfl⟩
    refine ⟨fun wu3 hC hd => ?_, ?_⟩
    · obtain ⟨h2, _⟩ := hd
      skip
      replace h2 : V 2 = (.int .i64 a1) := h2
      replace hb := hb.trans (hC.mono hb.size)
      replace hk1 := blk_ext hk1 hC
      refine Does.mono (d_callB (vs := [(.int .i64 a1)]) (show [some (V 2)] = [some (.int .i64 a1)] from by rw [h2]) Try.func111 (by kernel_rfl) (by kernel_rfl) (count_anyI a1 (by omega) (by omega) _)) (fun _ _ h => ⟨h.2, h.1, nofr rfl⟩)
    refine ⟨fun wu4 hC hd => ?_, ?_⟩
    · clear hd
      replace hb := hb.trans (hC.mono hb.size)
      replace hk1 := blk_ext hk1 hC
      exact Runs.does (r_fa rfl Try.underlying37 (f := 2) (q := 2) rfl (by kernel_rfl) rfl) ⟨Below.refl _ _, rfl, nofr rfl⟩
    refine ⟨fun wu5 hC hd => ?_, ?_⟩
    · obtain ⟨h4, _⟩ := hd
      skip
      replace h4 : V 4 = (.pointer (some ⟨b1, 2, none⟩)) := h4
      replace hb := hb.trans (hC.mono hb.size)
      replace hk1 := blk_ext hk1 hC
      exact Runs.does (r_load (v := (.int .u32 a2)) (congrArg some h4) Try.underlying24 rfl (cell_blk hk1 rfl)) ⟨Below.refl _ _, rfl, nofr rfl⟩
    refine ⟨fun wu6 hC hd => ?_, ?_⟩
    · obtain ⟨h5, _⟩ := hd
      skip
      replace h5 : V 5 = (.int .u32 a2) := h5
      replace hb := hb.trans (hC.mono hb.size)
      replace hk1 := blk_ext hk1 hC
      exact Runs.does (r_conv (C := a2) (congrArg some h5) Try.underlying24 Try.underlying3 (by rw [IntKind.wrap_i64]; omega)) ⟨Below.refl _ _, rfl, nofr rfl⟩
    refine ⟨fun wu7 hC hd => ?_, ?_⟩
    · obtain ⟨h3, h6, _⟩ := hd
      skip
      skip
      replace h3 : V 3 = (.string (cntS a1.toNat)) := h3
      replace h6 : V 6 = (.int .i64 a2) := h6
      replace hb := hb.trans (hC.mono hb.size)
      replace hk1 := blk_ext hk1 hC
      refine Does.mono (d_callB (vs := [(.int .i64 a2)]) (show [some (V 6)] = [some (.int .i64 a2)] from by rw [h6]) Try.func111 (by kernel_rfl) (by kernel_rfl) (count_anyI a2 (by omega) (by omega) _)) (fun _ _ h => ⟨h.2, h.1, nofr rfl⟩)
    refine ⟨fun wu8 hC hd => ?_, ?_⟩
    · obtain ⟨h3, h7, _⟩ := hd
      skip
      skip
      replace h3 : V 3 = (.string (cntS a1.toNat)) := h3
      replace h7 : V 7 = (.string (cntS a2.toNat)) := h7
      replace hb := hb.trans (hC.mono hb.size)
      replace hk1 := blk_ext hk1 hC
      exact Runs.does (r_sadd (congrArg some h3) (congrArg some h7) (by have := cntS_le (n := a1.toNat) (by omega); have := cntS_le (n := a2.toNat) (by omega); omega)) ⟨Below.refl _ _, rfl, nofr rfl⟩
    refine ⟨fun wu9 hC hd => ?_, ?_⟩
    · clear hd
      replace hb := hb.trans (hC.mono hb.size)
      replace hk1 := blk_ext hk1 hC
      exact Runs.does (r_fa rfl Try.underlying37 (f := 3) (q := 3) rfl (by kernel_rfl) rfl) ⟨Below.refl _ _, rfl, nofr rfl⟩
    refine ⟨fun wu10 hC hd => ?_, ?_⟩
    · obtain ⟨h9, _⟩ := hd
      skip
      replace h9 : V 9 = (.pointer (some ⟨b1, 3, none⟩)) := h9
      replace hb := hb.trans (hC.mono hb.size)
      replace hk1 := blk_ext hk1 hC
      exact Runs.does (r_load (v := (.int .u32 a3)) (congrArg some h9) Try.underlying24 rfl (cell_blk hk1 rfl)) ⟨Below.refl _ _, rfl, nofr rfl⟩
    refine ⟨fun wu11 hC hd => ?_, ?_⟩
    · obtain ⟨h10, _⟩ := hd
      skip
      replace h10 : V 10 = (.int .u32 a3) := h10
      replace hb := hb.trans (hC.mono hb.size)
      replace hk1 := blk_ext hk1 hC
      exact Runs.does (r_conv (C := a3) (congrArg some h10) Try.underlying24 Try.underlying3 (by rw [IntKind.wrap_i64]; omega)) ⟨Below.refl _ _, rfl, nofr rfl⟩
    refine ⟨fun wu12 hC hd => ?_, ?_⟩
    · obtain ⟨h7, h11, _⟩ := hd
      skip
      skip
      replace h7 : V 7 = (.string (cntS a2.toNat)) := h7
      replace h11 : V 11 = (.int .i64 a3) := h11
      replace hb := hb.trans (hC.mono hb.size)
      replace hk1 := blk_ext hk1 hC
      refine Does.mono (d_callB (vs := [(.int .i64 a3)]) (show [some (V 11)] = [some (.int .i64 a3)] from by rw [h11]) Try.func111 (by kernel_rfl) (by kernel_rfl) (count_anyI a3 (by omega) (by omega) _)) (fun _ _ h => ⟨h.2, h.1, nofr rfl⟩)
    refine ⟨fun wu13 hC hd => ?_, ?_⟩
    · obtain ⟨h8, h12, _⟩ := hd
      skip
      skip
      replace h8 : V 8 = (.string ((cntS a1.toNat) ++ (cntS a2.toNat))) := h8
      replace h12 : V 12 = (.string (cntS a3.toNat)) := h12
      replace hb := hb.trans (hC.mono hb.size)
      replace hk1 := blk_ext hk1 hC
      exact Runs.does (r_sadd (congrArg some h8) (congrArg some h12) (by have := cntS_le (n := a1.toNat) (by omega); have := cntS_le (n := a2.toNat) (by omega); have := sz_app (cntS a1.toNat) (cntS a2.toNat); have := cntS_le (n := a3.toNat) (by omega); omega)) ⟨Below.refl _ _, rfl, nofr rfl⟩
    refine ⟨fun wu14 hC hd => ?_, ?_⟩
    · clear hd
      replace hb := hb.trans (hC.mono hb.size)
      replace hk1 := blk_ext hk1 hC
      exact Runs.does (r_fa rfl Try.underlying37 (f := 4) (q := 4) rfl (by kernel_rfl) rfl) ⟨Below.refl _ _, rfl, nofr rfl⟩
    refine ⟨fun wu15 hC hd => ?_, ?_⟩
    · obtain ⟨h14, _⟩ := hd
      skip
      replace h14 : V 14 = (.pointer (some ⟨b1, 4, none⟩)) := h14
      replace hb := hb.trans (hC.mono hb.size)
      replace hk1 := blk_ext hk1 hC
      exact Runs.does (r_load (v := (.int .u32 a4)) (congrArg some h14) Try.underlying24 rfl (cell_blk hk1 rfl)) ⟨Below.refl _ _, rfl, nofr rfl⟩
    refine ⟨fun wu16 hC hd => ?_, ?_⟩
    · obtain ⟨h15, _⟩ := hd
      skip
      replace h15 : V 15 = (.int .u32 a4) := h15
      replace hb := hb.trans (hC.mono hb.size)
      replace hk1 := blk_ext hk1 hC
      exact Runs.does (r_conv (C := a4) (congrArg some h15) Try.underlying24 Try.underlying3 (by rw [IntKind.wrap_i64]; omega)) ⟨Below.refl _ _, rfl, nofr rfl⟩
    refine ⟨fun wu17 hC hd => ?_, ?_⟩
    · obtain ⟨h12, h16, _⟩ := hd
      skip
      skip
      replace h12 : V 12 = (.string (cntS a3.toNat)) := h12
      replace h16 : V 16 = (.int .i64 a4) := h16
      replace hb := hb.trans (hC.mono hb.size)
      replace hk1 := blk_ext hk1 hC
      refine Does.mono (d_callB (vs := [(.int .i64 a4)]) (show [some (V 16)] = [some (.int .i64 a4)] from by rw [h16]) Try.func111 (by kernel_rfl) (by kernel_rfl) (count_anyI a4 (by omega) (by omega) _)) (fun _ _ h => ⟨h.2, h.1, nofr rfl⟩)
    refine ⟨fun wu18 hC hd => ?_, ?_⟩
    · obtain ⟨h13, h17, _⟩ := hd
      skip
      skip
      replace h13 : V 13 = (.string (((cntS a1.toNat) ++ (cntS a2.toNat)) ++ (cntS a3.toNat))) := h13
      replace h17 : V 17 = (.string (cntS a4.toNat)) := h17
      replace hb := hb.trans (hC.mono hb.size)
      replace hk1 := blk_ext hk1 hC
      exact Runs.does (Runs.veq (v' := (.string (strOfNums (infoL a1 a2 a3 a4)))) (r_sadd (congrArg some h13) (congrArg some h17) (by have := cntS_le (n := a1.toNat) (by omega); have := cntS_le (n := a2.toNat) (by omega); have := sz_app (cntS a1.toNat) (cntS a2.toNat); have := cntS_le (n := a3.toNat) (by omega); have := sz_app ((cntS a1.toNat) ++ (cntS a2.toNat)) (cntS a3.toNat); have := cntS_le (n := a4.toNat) (by omega); omega)) (congrArg Value.string (infoL_str a1 a2 a3 a4))) ⟨Below.refl _ _, rfl, nofr rfl⟩
    refine ⟨fun wu19 hC hd => ?_, ?_⟩
    · obtain ⟨h17, h18, _⟩ := hd
      skip
      skip
      replace h17 : V 17 = (.string (cntS a4.toNat)) := h17
      replace h18 : V 18 = (.string (strOfNums (infoL a1 a2 a3 a4))) := h18
      replace hb := hb.trans (hC.mono hb.size)
      replace hk1 := blk_ext hk1 hC
      refine Does.mono (d_callB (vs := [(.int .i64 (1 : Int)), (.string (strOfNums (infoL a1 a2 a3 a4)))]) (show [some (.int .i64 (1 : Int)), some (V 18)] = [some (.int .i64 (1 : Int)), some (.string (strOfNums (infoL a1 a2 a3 a4)))] from by rw [h18]) Try.func140 (by kernel_rfl) (by kernel_rfl) (rpart_any 1 (infoL a1 a2 a3 a4) _ (by omega) (by omega))) (fun _ _ h => ⟨h.2, h.1, nofr rfl⟩)
    refine ⟨fun wu20 hC hd => ?_, ?_⟩
    · obtain ⟨h0, h1, h2, h3, h4, h5, h6, h7, h8, h9, h10, h11, h12, h13, h14, h15, h16, h17, h18, h19, _⟩ := hd
      skip
      skip
      skip
      skip
      skip
      skip
      skip
      skip
      skip
      skip
      skip
      skip
      skip
      skip
      skip
      skip
      skip
      skip
      skip
      skip
      replace h0 : V 0 = (.pointer (some ⟨b1, 1, none⟩)) := h0
      replace h1 : V 1 = (.int .u32 a1) := h1
      replace h2 : V 2 = (.int .i64 a1) := h2
      replace h3 : V 3 = (.string (cntS a1.toNat)) := h3
      replace h4 : V 4 = (.pointer (some ⟨b1, 2, none⟩)) := h4
      replace h5 : V 5 = (.int .u32 a2) := h5
      replace h6 : V 6 = (.int .i64 a2) := h6
      replace h7 : V 7 = (.string (cntS a2.toNat)) := h7
      replace h8 : V 8 = (.string ((cntS a1.toNat) ++ (cntS a2.toNat))) := h8
      replace h9 : V 9 = (.pointer (some ⟨b1, 3, none⟩)) := h9
      replace h10 : V 10 = (.int .u32 a3) := h10
      replace h11 : V 11 = (.int .i64 a3) := h11
      replace h12 : V 12 = (.string (cntS a3.toNat)) := h12
      replace h13 : V 13 = (.string (((cntS a1.toNat) ++ (cntS a2.toNat)) ++ (cntS a3.toNat))) := h13
      replace h14 : V 14 = (.pointer (some ⟨b1, 4, none⟩)) := h14
      replace h15 : V 15 = (.int .u32 a4) := h15
      replace h16 : V 16 = (.int .i64 a4) := h16
      replace h17 : V 17 = (.string (cntS a4.toNat)) := h17
      replace h18 : V 18 = (.string (strOfNums (infoL a1 a2 a3 a4))) := h18
      replace h19 : V 19 = (.string (strOfNums (partL 1 (infoL a1 a2 a3 a4)))) := h19
      replace hb := hb.trans (hC.mono hb.size)
      replace hk1 := blk_ext hk1 hC
      exact Runs.does (r_assign (congrArg some h19)) ⟨Below.refl _ _, rfl, nofr rfl⟩
    trivial
  · skip
    clear hf fa; intro V w2 fa he2 hp hnb hf
    have hv0 : V 0 = (.pointer (some ⟨b1, 1, none⟩)) := postsHold_at hp 0 rfl
    have hv1 : V 1 = (.int .u32 a1) := postsHold_at hp 1 rfl
    have hv2 : V 2 = (.int .i64 a1) := postsHold_at hp 2 rfl
    have hv3 : V 3 = (.string (cntS a1.toNat)) := postsHold_at hp 3 rfl
    have hv4 : V 4 = (.pointer (some ⟨b1, 2, none⟩)) := postsHold_at hp 4 rfl
    have hv5 : V 5 = (.int .u32 a2) := postsHold_at hp 5 rfl
    have hv6 : V 6 = (.int .i64 a2) := postsHold_at hp 6 rfl
    have hv7 : V 7 = (.string (cntS a2.toNat)) := postsHold_at hp 7 rfl
    have hv8 : V 8 = (.string ((cntS a1.toNat) ++ (cntS a2.toNat))) := postsHold_at hp 8 rfl
    have hv9 : V 9 = (.pointer (some ⟨b1, 3, none⟩)) := postsHold_at hp 9 rfl
    have hv10 : V 10 = (.int .u32 a3) := postsHold_at hp 10 rfl
    have hv11 : V 11 = (.int .i64 a3) := postsHold_at hp 11 rfl
    have hv12 : V 12 = (.string (cntS a3.toNat)) := postsHold_at hp 12 rfl
    have hv13 : V 13 = (.string (((cntS a1.toNat) ++ (cntS a2.toNat)) ++ (cntS a3.toNat))) := postsHold_at hp 13 rfl
    have hv14 : V 14 = (.pointer (some ⟨b1, 4, none⟩)) := postsHold_at hp 14 rfl
    have hv15 : V 15 = (.int .u32 a4) := postsHold_at hp 15 rfl
    have hv16 : V 16 = (.int .i64 a4) := postsHold_at hp 16 rfl
    have hv17 : V 17 = (.string (cntS a4.toNat)) := postsHold_at hp 17 rfl
    have hv18 : V 18 = (.string (strOfNums (infoL a1 a2 a3 a4))) := postsHold_at hp 18 rfl
    have hv19 : V 19 = (.string (strOfNums (partL 1 (infoL a1 a2 a3 a4)))) := postsHold_at hp 19 rfl
    have hv20 : V 20 = (.string (strOfNums (partL 1 (infoL a1 a2 a3 a4)))) := postsHold_at hp 20 rfl
    simp only [List.take_succ_cons, List.take_zero, insAll, ins, hv0, hv1, hv2, hv3, hv4, hv5, hv6, hv7, hv8, hv9, hv10, hv11, hv12, hv13, hv14, hv15, hv16, hv17, hv18, hv19, hv20] at hf
    clear hp hnb hv0 hv1 hv2 hv3 hv4 hv5 hv6 hv7 hv8 hv9 hv10 hv11 hv12 hv13 hv14 hv15 hv16 hv17 hv18 hv19 hv20
    replace hk1 := blk_ext hk1 he2
    replace hb := hb.trans (Below.mono he2 hb.size)
    (try simp only [Exit.then, Exit.inBlock, ↓reduceIte, Nat.reduceEqDiff])
    refine hK2 _ _ ?_
    refine wp_seq_k (fun K3 hK3 => ?_)
    refine wp_seq_k (fun K4 hK4 => ?_)
    refine wp_region_lit ?_
    refine sqv hf (r_fa rfl Try.underlying37 (f := 5) (q := 5) rfl (by kernel_rfl) rfl) rfl rfl rfl ?_; clear hf fa; intro fa hf
    refine sqv hf (r_load (v := (.slice a L.length c)) rfl Try.underlying33 rfl (cell_blk hk1 rfl)) rfl rfl rfl ?_; clear hf fa; intro fa hf
    refine sqv hf (r_lensl rfl Try.underlying33) rfl rfl rfl ?_; clear hf fa; intro fa hf
    refine sqv hf (r_eq rfl rfl) rfl rfl rfl ?_; clear hf fa; intro fa hf
    apply wpList_nil
    (try simp only [Exit.then, Exit.inBlock, ↓reduceIte, Nat.reduceEqDiff])
    refine hK4 _ _ ?_
    refine wp_cond_split (t := (decide (((L.length : Nat) : Int) = (0 : Int)))) (hf.ev rfl) (fun hqt29_1 => ?_) (fun hqt29_1 => ?_)
    · have hqt29_1b := hqt29_1
      try simp only [decide_eq_true_eq, Bool.and_eq_true, Bool.or_eq_true, Bool.not_eq_true', decide_eq_false_iff_not, ne_eq, Bool.not_eq_true] at hqt29_1
      refine wp_seq_k (fun K5 hK5 => ?_)
      refine wp_region_lit ?_
      refine sqv hf (r_move rfl) rfl rfl rfl ?_; clear hf fa; intro fa hf
      refine sqv hf (r_assign rfl) rfl rfl rfl ?_; clear hf fa; intro fa hf
      apply wpList_nil
      (try simp only [Exit.then, Exit.inBlock, ↓reduceIte, Nat.reduceEqDiff])
      refine hK5 _ _ ?_
      refine wp_ret ?_
      (try simp only [Exit.then, Exit.inBlock])
      refine ret1 hf rfl rfl ?_
      refine ⟨?_, hb⟩
      unfold encD; rw [if_pos (by have h := hqt29_1; omega), List.append_nil]
    · have hqt29_1b := hqt29_1
      replace hqt29_1 := Bool.eq_false_iff.1 hqt29_1
      try simp only [ne_eq, decide_eq_true_eq, Bool.and_eq_true, Bool.or_eq_true, Bool.not_eq_true', decide_eq_false_iff_not] at hqt29_1
      refine wp_skip ?_
      (try simp only [Exit.then, Exit.inBlock, ↓reduceIte, Nat.reduceEqDiff])
      refine hK3 _ _ ?_
      refine wp_seq_k (fun K6 hK6 => ?_)
      refine wp_region_lit ?_
      refine sqv hf (r_fa rfl Try.underlying37 (f := 5) (q := 5) rfl (by kernel_rfl) rfl) rfl rfl rfl ?_; clear hf fa; intro fa hf
      refine sqv hf (r_load (v := (.slice a L.length c)) rfl Try.underlying33 rfl (cell_blk hk1 rfl)) rfl rfl rfl ?_; clear hf fa; intro fa hf
      refine sqv hf (r_lensl rfl Try.underlying33) rfl rfl rfl ?_; clear hf fa; intro fa hf
      refine sqdt hf (d_callB (vs := [(.int .i64 ((L.length : Nat) : Int))]) rfl Try.func111 (by kernel_rfl) (by kernel_rfl) (count_any L.length _ (by omega))) rfl rfl rfl ?_; clear hf fa; rintro fa _ w3 ⟨rfl, he3⟩ hf
      replace hk1 := blk_ext hk1 he3
      replace hb := hb.trans (Below.mono he3 hb.size)
      refine sqv hf (r_assign rfl) rfl rfl rfl ?_; clear hf fa; intro fa hf
      apply wpList_nil
      (try simp only [Exit.then, Exit.inBlock, ↓reduceIte, Nat.reduceEqDiff])
      refine hK6 _ _ ?_
      refine wp_seq_k (fun K7 hK7 => ?_)
      refine wp_seq_k (fun K8 hK8 => ?_)
      refine wp_region_lit ?_
      refine sqv hf (r_assign rfl) rfl rfl rfl ?_; clear hf fa; intro fa hf
      apply wpList_nil
      (try simp only [Exit.then, Exit.inBlock, ↓reduceIte, Nat.reduceEqDiff])
      refine hK8 _ _ ?_
      refine wp_block ?_
      refine wp_loop_k (fun mq fa wr => ∃ (k : Nat) (wt : ByteArray), mq = L.length - k ∧ Fr 61 fa [(1, (.pointer (some ⟨b1, 0, none⟩))), (3, (.string (strOfNums (partL 1 (infoL a1 a2 a3 a4))))), (4, (.string wt)), (5, (.int .i64 ((k : Nat) : Int)))] ∧ Below w.heap.size w wr ∧ wr.heap[b1]? = some (.cells #[(.bool has), (.int .u32 a1), (.int .u32 a2), (.int .u32 a3), (.int .u32 a4), (.slice a L.length c)] 37 (0, 0)) ∧ (k ≤ L.length) ∧ (wt = strOfNums (uL L.length ++ (L.take k).flatMap nameB)) ∧ (wt.size ≤ 10 + 310 * k)) ?_ ?_
      · skip
        exact ⟨_, 0, (cntS L.length), rfl, hf.sub ⟨rfl, rfl, rfl, (some_int (by first | rfl | omega)), trivial⟩, hb, hk1, by omega, (by rw [List.take_zero]; unfold cntS; simp), (by have := cntS_le (n := L.length) (by omega); omega)⟩
      · skip
        clear hf fa; intro mq1 fa w4 hI KL1 hKL1
        clear hb
        clear hk1
        obtain ⟨k, wt, hmq1, hf, hb, hkb1, hk, hwt, hws⟩ := hI
        refine wp_seq_k (fun K9 hK9 => ?_)
        refine wp_seq_k (fun K10 hK10 => ?_)
        refine wp_region_lit ?_
        refine sqv hf (r_move rfl) rfl rfl rfl ?_; clear hf fa; intro fa hf
        refine sqv hf (r_fa rfl Try.underlying37 (f := 5) (q := 5) rfl (by kernel_rfl) rfl) rfl rfl rfl ?_; clear hf fa; intro fa hf
        refine sqv hf (r_load (v := (.slice a L.length c)) rfl Try.underlying33 rfl (cell_blk hkb1 rfl)) rfl rfl rfl ?_; clear hf fa; intro fa hf
        refine sqv hf (r_lensl rfl Try.underlying33) rfl rfl rfl ?_; clear hf fa; intro fa hf
        refine sqv hf (r_lt rfl rfl) rfl rfl rfl ?_; clear hf fa; intro fa hf
        apply wpList_nil
        (try simp only [Exit.then, Exit.inBlock, ↓reduceIte, Nat.reduceEqDiff])
        refine hK10 _ _ ?_
        refine wp_cond_split (t := (decide (((k : Nat) : Int) < ((L.length : Nat) : Int)))) (hf.ev rfl) (fun hqt39_1 => ?_) (fun hqt39_1 => ?_)
        · have hqt39_1b := hqt39_1
          try simp only [decide_eq_true_eq, Bool.and_eq_true, Bool.or_eq_true, Bool.not_eq_true', decide_eq_false_iff_not, ne_eq, Bool.not_eq_true] at hqt39_1
          refine wp_skip ?_
          (try simp only [Exit.then, Exit.inBlock, ↓reduceIte, Nat.reduceEqDiff])
          refine hK9 _ _ ?_
          refine wp_seq_k (fun K11 hK11 => ?_)
          refine wp_block ?_
          obtain ⟨y, hy⟩ : ∃ x, L[k]? = some x := ⟨_, List.getElem?_eq_getElem (by omega)⟩
          have hys := hfw.2 y (List.mem_of_getElem? hy)
          have hy1 : (L)[k]? = some y := hy
          obtain ⟨ab1, aoff1, hat1, hlb1, hel1⟩ := RdS.at hl hy1
          refine wp_region_un (fun wq => Below w4.heap.size w4 wq) (fun w w' => Below w.heap.size w w')
            (fun V => [(fun x _ => x = (.string wt)), (fun x _ => x = (.pointer (some ⟨b1, 5, none⟩))), (fun x _ => x = (.slice a L.length c)), (fun x _ => x = (.int .i64 ((k : Nat) : Int))), (fun x _ => x = (.pointer (some ⟨ab1, (aoff1 + k * 1), none⟩))), (fun x _ => x = (.string y)), (fun x _ => x = (.int .i64 ((y.size : Nat) : Int))), (fun x _ => x = (.string (cntS y.size))), (fun x _ => x = (.string (wt ++ (cntS y.size)))), (fun x _ => x = (.pointer (some ⟨b1, 5, none⟩))), (fun x _ => x = (.slice a L.length c)), (fun x _ => x = (.int .i64 ((k : Nat) : Int))), (fun x _ => x = (.pointer (some ⟨ab1, (aoff1 + k * 1), none⟩))), (fun x _ => x = (.string y)), (fun x _ => x = (.string ((wt ++ (cntS y.size)) ++ y))), (fun x _ => x = (.string ((wt ++ (cntS y.size)) ++ y)))])
            []
            [[], [], [1], [], [2, 3], [4], [5], [6], [0, 7], [], [9], [], [10, 11], [12], [8, 13], [0, 1, 2, 3, 4, 5, 6, 7, 8, 9, 10, 11, 12, 13, 14]]
            hf (by kernel_rfl) (by kernel_rfl) (fun _ => rfl) ((Below.refl _ _).drew) (fun a b h1 h2 => h1.trans (h2.mono h1.size)) (fun _ _ h => h.size) (fun V => ⟨kept_eq, kept_eq, kept_eq, kept_eq, kept_eq, kept_eq, kept_eq, kept_eq, kept_eq, kept_eq, kept_eq, kept_eq, kept_eq, kept_eq, kept_eq, kept_eq, trivial⟩) (fun _ _ _ _ _ => rfl) ?_ ?_
          · skip
            intro V
            refine ⟨fun wu0 hC hd => ?_, ?_⟩
            · clear hd
              replace hb := hb.trans (hC.mono hb.size)
              replace hkb1 := blk_ext hkb1 hC
              exact Runs.does (r_move rfl) ⟨Below.refl _ _, rfl, nofr rfl⟩
            refine ⟨fun wu1 hC hd => ?_, ?_⟩
            · clear hd
              replace hb := hb.trans (hC.mono hb.size)
              replace hkb1 := blk_ext hkb1 hC
              exact Runs.does (r_fa rfl Try.underlying37 (f := 5) (q := 5) rfl (by kernel_rfl) rfl) ⟨Below.refl _ _, rfl, nofr rfl⟩
            refine ⟨fun wu2 hC hd => ?_, ?_⟩
            · obtain ⟨h1, _⟩ := hd
              skip
              replace h1 : V 1 = (.pointer (some ⟨b1, 5, none⟩)) := h1
              replace hb := hb.trans (hC.mono hb.size)
              replace hkb1 := blk_ext hkb1 hC
              exact Runs.does (r_load (v := (.slice a L.length c)) (congrArg some h1) Try.underlying33 rfl (cell_blk hkb1 rfl)) ⟨Below.refl _ _, rfl, nofr rfl⟩
            refine ⟨fun wu3 hC hd => ?_, ?_⟩
            · clear hd
              replace hb := hb.trans (hC.mono hb.size)
              replace hkb1 := blk_ext hkb1 hC
              exact Runs.does (r_move rfl) ⟨Below.refl _ _, rfl, nofr rfl⟩
            refine ⟨fun wu4 hC hd => ?_, ?_⟩
            · obtain ⟨h2, h3, _⟩ := hd
              skip
              skip
              replace h2 : V 2 = (.slice a L.length c) := h2
              replace h3 : V 3 = (.int .i64 ((k : Nat) : Int)) := h3
              replace hb := hb.trans (hC.mono hb.size)
              replace hkb1 := blk_ext hkb1 hC
              exact Runs.does (r_ixa (sz := 1) (j := k) (evAt (congrArg some h2) hat1) (congrArg some h3) Try.underlying33 (by kernel_rfl) rfl (by omega) rfl) ⟨Below.refl _ _, rfl, nofr rfl⟩
            refine ⟨fun wu5 hC hd => ?_, ?_⟩
            · obtain ⟨h4, _⟩ := hd
              skip
              replace h4 : V 4 = (.pointer (some ⟨ab1, (aoff1 + k * 1), none⟩)) := h4
              replace hb := hb.trans (hC.mono hb.size)
              replace hkb1 := blk_ext hkb1 hC
              exact Runs.does (r_load (v := (.string y)) (congrArg some h4) Try.underlying9 rfl (cellsAt_cell (cellsAt_below hel1 hb hlb1) (i := 0) rfl rfl)) ⟨Below.refl _ _, rfl, nofr rfl⟩
            refine ⟨fun wu6 hC hd => ?_, ?_⟩
            · obtain ⟨h5, _⟩ := hd
              skip
              replace h5 : V 5 = (.string y) := h5
              replace hb := hb.trans (hC.mono hb.size)
              replace hkb1 := blk_ext hkb1 hC
              exact Runs.does (r_lens (congrArg some h5) Try.underlying9) ⟨Below.refl _ _, rfl, nofr rfl⟩
            refine ⟨fun wu7 hC hd => ?_, ?_⟩
            · obtain ⟨h6, _⟩ := hd
              skip
              replace h6 : V 6 = (.int .i64 ((y.size : Nat) : Int)) := h6
              replace hb := hb.trans (hC.mono hb.size)
              replace hkb1 := blk_ext hkb1 hC
              refine Does.mono (d_callB (vs := [(.int .i64 ((y.size : Nat) : Int))]) (show [some (V 6)] = [some (.int .i64 ((y.size : Nat) : Int))] from by rw [h6]) Try.func111 (by kernel_rfl) (by kernel_rfl) (count_any y.size _ (by omega))) (fun _ _ h => ⟨h.2, h.1, nofr rfl⟩)
            refine ⟨fun wu8 hC hd => ?_, ?_⟩
            · obtain ⟨h0, h7, _⟩ := hd
              skip
              skip
              replace h0 : V 0 = (.string wt) := h0
              replace h7 : V 7 = (.string (cntS y.size)) := h7
              replace hb := hb.trans (hC.mono hb.size)
              replace hkb1 := blk_ext hkb1 hC
              exact Runs.does (r_sadd (congrArg some h0) (congrArg some h7) (by have := cntS_le (n := y.size) (by omega); omega)) ⟨Below.refl _ _, rfl, nofr rfl⟩
            refine ⟨fun wu9 hC hd => ?_, ?_⟩
            · clear hd
              replace hb := hb.trans (hC.mono hb.size)
              replace hkb1 := blk_ext hkb1 hC
              exact Runs.does (r_fa rfl Try.underlying37 (f := 5) (q := 5) rfl (by kernel_rfl) rfl) ⟨Below.refl _ _, rfl, nofr rfl⟩
            refine ⟨fun wu10 hC hd => ?_, ?_⟩
            · obtain ⟨h9, _⟩ := hd
              skip
              replace h9 : V 9 = (.pointer (some ⟨b1, 5, none⟩)) := h9
              replace hb := hb.trans (hC.mono hb.size)
              replace hkb1 := blk_ext hkb1 hC
              exact Runs.does (r_load (v := (.slice a L.length c)) (congrArg some h9) Try.underlying33 rfl (cell_blk hkb1 rfl)) ⟨Below.refl _ _, rfl, nofr rfl⟩
            refine ⟨fun wu11 hC hd => ?_, ?_⟩
            · clear hd
              replace hb := hb.trans (hC.mono hb.size)
              replace hkb1 := blk_ext hkb1 hC
              exact Runs.does (r_move rfl) ⟨Below.refl _ _, rfl, nofr rfl⟩
            refine ⟨fun wu12 hC hd => ?_, ?_⟩
            · obtain ⟨h10, h11, _⟩ := hd
              skip
              skip
              replace h10 : V 10 = (.slice a L.length c) := h10
              replace h11 : V 11 = (.int .i64 ((k : Nat) : Int)) := h11
              replace hb := hb.trans (hC.mono hb.size)
              replace hkb1 := blk_ext hkb1 hC
              exact Runs.does (r_ixa (sz := 1) (j := k) (evAt (congrArg some h10) hat1) (congrArg some h11) Try.underlying33 (by kernel_rfl) rfl (by omega) rfl) ⟨Below.refl _ _, rfl, nofr rfl⟩
            refine ⟨fun wu13 hC hd => ?_, ?_⟩
            · obtain ⟨h12, _⟩ := hd
              skip
              replace h12 : V 12 = (.pointer (some ⟨ab1, (aoff1 + k * 1), none⟩)) := h12
              replace hb := hb.trans (hC.mono hb.size)
              replace hkb1 := blk_ext hkb1 hC
              exact Runs.does (r_load (v := (.string y)) (congrArg some h12) Try.underlying9 rfl (cellsAt_cell (cellsAt_below hel1 hb hlb1) (i := 0) rfl rfl)) ⟨Below.refl _ _, rfl, nofr rfl⟩
            refine ⟨fun wu14 hC hd => ?_, ?_⟩
            · obtain ⟨h8, h13, _⟩ := hd
              skip
              skip
              replace h8 : V 8 = (.string (wt ++ (cntS y.size))) := h8
              replace h13 : V 13 = (.string y) := h13
              replace hb := hb.trans (hC.mono hb.size)
              replace hkb1 := blk_ext hkb1 hC
              exact Runs.does (r_sadd (congrArg some h8) (congrArg some h13) (by have := cntS_le (n := y.size) (by omega); have := sz_app wt (cntS y.size); omega)) ⟨Below.refl _ _, rfl, nofr rfl⟩
            refine ⟨fun wu15 hC hd => ?_, ?_⟩
            · obtain ⟨h0, h1, h2, h3, h4, h5, h6, h7, h8, h9, h10, h11, h12, h13, h14, _⟩ := hd
              skip
              skip
              skip
              skip
              skip
              skip
              skip
              skip
              skip
              skip
              skip
              skip
              skip
              skip
              skip
              replace h0 : V 0 = (.string wt) := h0
              replace h1 : V 1 = (.pointer (some ⟨b1, 5, none⟩)) := h1
              replace h2 : V 2 = (.slice a L.length c) := h2
              replace h3 : V 3 = (.int .i64 ((k : Nat) : Int)) := h3
              replace h4 : V 4 = (.pointer (some ⟨ab1, (aoff1 + k * 1), none⟩)) := h4
              replace h5 : V 5 = (.string y) := h5
              replace h6 : V 6 = (.int .i64 ((y.size : Nat) : Int)) := h6
              replace h7 : V 7 = (.string (cntS y.size)) := h7
              replace h8 : V 8 = (.string (wt ++ (cntS y.size))) := h8
              replace h9 : V 9 = (.pointer (some ⟨b1, 5, none⟩)) := h9
              replace h10 : V 10 = (.slice a L.length c) := h10
              replace h11 : V 11 = (.int .i64 ((k : Nat) : Int)) := h11
              replace h12 : V 12 = (.pointer (some ⟨ab1, (aoff1 + k * 1), none⟩)) := h12
              replace h13 : V 13 = (.string y) := h13
              replace h14 : V 14 = (.string ((wt ++ (cntS y.size)) ++ y)) := h14
              replace hb := hb.trans (hC.mono hb.size)
              replace hkb1 := blk_ext hkb1 hC
              exact Runs.does (r_assign (congrArg some h14)) ⟨Below.refl _ _, rfl, nofr rfl⟩
            trivial
          · skip
            clear hf fa; intro V w5 fa he4 hp hnb hf
            have hv0 : V 0 = (.string wt) := postsHold_at hp 0 rfl
            have hv1 : V 1 = (.pointer (some ⟨b1, 5, none⟩)) := postsHold_at hp 1 rfl
            have hv2 : V 2 = (.slice a L.length c) := postsHold_at hp 2 rfl
            have hv3 : V 3 = (.int .i64 ((k : Nat) : Int)) := postsHold_at hp 3 rfl
            have hv4 : V 4 = (.pointer (some ⟨ab1, (aoff1 + k * 1), none⟩)) := postsHold_at hp 4 rfl
            have hv5 : V 5 = (.string y) := postsHold_at hp 5 rfl
            have hv6 : V 6 = (.int .i64 ((y.size : Nat) : Int)) := postsHold_at hp 6 rfl
            have hv7 : V 7 = (.string (cntS y.size)) := postsHold_at hp 7 rfl
            have hv8 : V 8 = (.string (wt ++ (cntS y.size))) := postsHold_at hp 8 rfl
            have hv9 : V 9 = (.pointer (some ⟨b1, 5, none⟩)) := postsHold_at hp 9 rfl
            have hv10 : V 10 = (.slice a L.length c) := postsHold_at hp 10 rfl
            have hv11 : V 11 = (.int .i64 ((k : Nat) : Int)) := postsHold_at hp 11 rfl
            have hv12 : V 12 = (.pointer (some ⟨ab1, (aoff1 + k * 1), none⟩)) := postsHold_at hp 12 rfl
            have hv13 : V 13 = (.string y) := postsHold_at hp 13 rfl
            have hv14 : V 14 = (.string ((wt ++ (cntS y.size)) ++ y)) := postsHold_at hp 14 rfl
            have hv15 : V 15 = (.string ((wt ++ (cntS y.size)) ++ y)) := postsHold_at hp 15 rfl
            simp only [List.take_succ_cons, List.take_zero, insAll, ins, hv0, hv1, hv2, hv3, hv4, hv5, hv6, hv7, hv8, hv9, hv10, hv11, hv12, hv13, hv14, hv15] at hf
            clear hp hnb hv0 hv1 hv2 hv3 hv4 hv5 hv6 hv7 hv8 hv9 hv10 hv11 hv12 hv13 hv14 hv15
            replace hkb1 := blk_ext hkb1 he4
            replace hb := hb.trans (Below.mono he4 hb.size)
            (try simp only [Exit.then, Exit.inBlock, ↓reduceIte, Nat.reduceEqDiff])
            refine hK11 _ _ ?_
            refine wp_region_lit ?_
            refine sqv hf (r_move rfl) rfl rfl rfl ?_; clear hf fa; intro fa hf
            refine sqv hf (r_add (C := (((k : Nat) : Int) + (1 : Int))) rfl rfl (by rw [IntKind.wrap_i64]; omega)) rfl rfl rfl ?_; clear hf fa; intro fa hf
            refine sqv hf (r_assign rfl) rfl rfl rfl ?_; clear hf fa; intro fa hf
            apply wpList_nil
            (try simp only [Exit.then, Exit.inBlock, ↓reduceIte, Nat.reduceEqDiff])
            have hwn : (wt ++ cntS y.size) ++ y = strOfNums (uL L.length ++ (L.take (k + 1)).flatMap nameB) := by rw [fm_take hy, hwt, ← List.append_assoc, strOfNums_app (uL L.length ++ _), nameB_str, ByteArray.append_assoc]
            refine hKL1 _ _ _ (by omega) ⟨(k + 1), ((wt ++ (cntS y.size)) ++ y), rfl, hf.sub ⟨rfl, rfl, rfl, (some_int (by first | rfl | omega)), trivial⟩, hb, hkb1, by omega, hwn, (by have := cntS_le (n := y.size) (by omega); have := sz_app (wt ++ cntS y.size) y; have := sz_app wt (cntS y.size); omega)⟩
        · have hqt39_1b := hqt39_1
          replace hqt39_1 := Bool.eq_false_iff.1 hqt39_1
          try simp only [ne_eq, decide_eq_true_eq, Bool.and_eq_true, Bool.or_eq_true, Bool.not_eq_true', decide_eq_false_iff_not] at hqt39_1
          refine wp_exit ?_
          (try simp only [Exit.then, Exit.inBlock, ↓reduceIte, Nat.reduceEqDiff])
          refine hK7 _ _ ?_
          refine wp_seq_k (fun K12 hK12 => ?_)
          have hnL : wt = strOfNums (needL L) := by rw [hwt, List.take_of_length_le (by omega)]; rfl
          subst hnL
          have hnLb := needL_len (L := L) (few_iff.2 hfw)
          have hp2 := partL_len (t := 2) (X := needL L) (by omega)
          have hnLs := strOfNums_size (needL L)
          refine wp_region_lit ?_
          refine sqv hf (r_move rfl) rfl rfl rfl ?_; clear hf fa; intro fa hf
          refine sqv hf (Runs.veq (v' := (.string (strOfNums (needL L)))) (r_move rfl) rfl) rfl rfl rfl ?_; clear hf fa; intro fa hf
          refine sqdt hf (d_callB (vs := [(.int .i64 (2 : Int)), (.string (strOfNums (needL L)))]) rfl Try.func140 (by kernel_rfl) (by kernel_rfl) (rpart_any 2 (needL L) _ (by omega) (by omega))) rfl rfl rfl ?_; clear hf fa; rintro fa _ w6 ⟨rfl, he5⟩ hf
          replace hkb1 := blk_ext hkb1 he5
          replace hb := hb.trans (Below.mono he5 hb.size)
          refine sqv hf (r_sadd rfl rfl (by have := strOfNums_size (partL 1 (infoL a1 a2 a3 a4)); have := strOfNums_size (partL 2 (needL L)); omega)) rfl rfl rfl ?_; clear hf fa; intro fa hf
          refine sqv hf (r_assign rfl) rfl rfl rfl ?_; clear hf fa; intro fa hf
          apply wpList_nil
          (try simp only [Exit.then, Exit.inBlock, ↓reduceIte, Nat.reduceEqDiff])
          refine hK12 _ _ ?_
          refine wp_ret ?_
          (try simp only [Exit.then, Exit.inBlock])
          refine ret1 hf rfl rfl ?_
          refine ⟨?_, hb⟩
          unfold encD; rw [if_neg (by have h := hqt29_1; omega), strOfNums_app]

set_option maxHeartbeats 1000000 in
set_option maxRecDepth 100000 in
theorem dsame_any (has : Bool) (a1 a2 a3 a4 : Int) (a b : Option Addr) (L : List ByteArray) (c d : Nat) (w : World) (hl : RdS 1 vStr w a L) (hm : RdS 1 vStr w b L) (hc : L.length ≤ 9223372036854775807) (hcp : L.length ≤ c) (hdp : L.length ≤ d) : Calls Try.prog 95 #[(.agg #[(.bool has), (.int .u32 a1), (.int .u32 a2), (.int .u32 a3), (.int .u32 a4), (.slice b L.length d)]), (.agg #[(.bool has), (.int .u32 a1), (.int .u32 a2), (.int .u32 a3), (.int .u32 a4), (.slice a L.length c)])] w fun e w' => e = .returned (.bool true) ∧ Below w.heap.size w w' := by
  refine sx_enter (L := [(0, (.agg #[(.bool has), (.int .u32 a1), (.int .u32 a2), (.int .u32 a3), (.int .u32 a4), (.slice b L.length d)])), (1, (.agg #[(.bool has), (.int .u32 a1), (.int .u32 a2), (.int .u32 a3), (.int .u32 a4), (.slice a L.length c)]))]) Try.func95 rfl rfl rfl rfl (fun fa hf => ?_)
  have hb : Below w.heap.size w w := Below.refl _ _
  refine wp_seq_k (fun K1 hK1 => ?_)
  refine wp_region_lit ?_
  refine sqdt hf (d_box (cs := #[(.bool has), (.int .u32 a1), (.int .u32 a2), (.int .u32 a3), (.int .u32 a4), (.slice b L.length d)]) rfl rfl) rfl rfl rfl ?_; clear hf fa; rintro fa _ w1 ⟨b1, rfl, hle1, hk1, he1⟩ hf
  have hBb1 : w.heap.size ≤ b1 := Nat.le_trans hb.size hle1
  replace hb := hb.trans (Below.mono he1 hb.size)
  refine sqdt hf (d_box (cs := #[(.bool has), (.int .u32 a1), (.int .u32 a2), (.int .u32 a3), (.int .u32 a4), (.slice a L.length c)]) rfl rfl) rfl rfl rfl ?_; clear hf fa; rintro fa _ w2 ⟨b2, rfl, hle2, hk2, he2⟩ hf
  have hBb2 : w.heap.size ≤ b2 := Nat.le_trans hb.size hle2
  have : b1 < b2 := Nat.lt_of_lt_of_le (blk_lt hk1) hle2
  replace hk1 := blk_ext hk1 he2
  replace hb := hb.trans (Below.mono he2 hb.size)
  refine sqv hf (r_assign rfl) rfl rfl rfl ?_; clear hf fa; intro fa hf
  apply wpList_nil
  (try simp only [Exit.then, Exit.inBlock, ↓reduceIte, Nat.reduceEqDiff])
  refine hK1 _ _ ?_
  refine wp_seq_k (fun K2 hK2 => ?_)
  refine wp_seq_k (fun K3 hK3 => ?_)
  refine wp_region_lit ?_
  refine sqv hf (r_fa rfl Try.underlying37 (f := 0) (q := 0) rfl (by kernel_rfl) rfl) rfl rfl rfl ?_; clear hf fa; intro fa hf
  refine sqv hf (r_load (v := (.bool has)) rfl Try.underlying4 rfl (cell_blk hk1 rfl)) rfl rfl rfl ?_; clear hf fa; intro fa hf
  refine sqv hf (r_fa rfl Try.underlying37 (f := 0) (q := 0) rfl (by kernel_rfl) rfl) rfl rfl rfl ?_; clear hf fa; intro fa hf
  refine sqv hf (r_load (v := (.bool has)) rfl Try.underlying4 rfl (cell_blk hk2 rfl)) rfl rfl rfl ?_; clear hf fa; intro fa hf
  refine sqv hf (r_bne Try.underlying4 rfl rfl) rfl rfl rfl ?_; clear hf fa; intro fa hf
  refine sqv hf (r_move rfl) rfl rfl rfl ?_; clear hf fa; intro fa hf
  refine sqgF (act := (!(!(has == has)))) (ag := true) (c := (!(has == has))) (v := (.pointer (some ⟨b1, 1, none⟩))) hf rfl rfl rfl (fun hact => (r_fa rfl Try.underlying37 (f := 1) (q := 1) rfl (by kernel_rfl) rfl)) rfl rfl ?_; clear hf fa; intro fa hf
  refine sqgF (act := (!(!(has == has)))) (ag := true) (c := (!(has == has))) (v := (.int .u32 a1)) hf rfl rfl rfl (fun hact => (r_load (v := (.int .u32 a1)) (gb_ev hact rfl) Try.underlying24 rfl (cell_blk hk1 rfl))) rfl rfl ?_; clear hf fa; intro fa hf
  refine sqgF (act := (!(!(has == has)))) (ag := true) (c := (!(has == has))) (v := (.pointer (some ⟨b2, 1, none⟩))) hf rfl rfl rfl (fun hact => (r_fa rfl Try.underlying37 (f := 1) (q := 1) rfl (by kernel_rfl) rfl)) rfl rfl ?_; clear hf fa; intro fa hf
  refine sqgF (act := (!(!(has == has)))) (ag := true) (c := (!(has == has))) (v := (.int .u32 a1)) hf rfl rfl rfl (fun hact => (r_load (v := (.int .u32 a1)) (gb_ev hact rfl) Try.underlying24 rfl (cell_blk hk2 rfl))) rfl rfl ?_; clear hf fa; intro fa hf
  refine sqgF (act := (!(!(has == has)))) (ag := true) (c := (!(has == has))) (v := (.bool (decide (a1 ≠ a1)))) hf rfl rfl rfl (fun hact => (r_ne (gb_ev hact rfl) (gb_ev hact rfl))) rfl rfl ?_; clear hf fa; intro fa hf
  refine sqv hf (r_pickO (b := (!(has == has))) (e := (decide (a1 ≠ a1))) rfl rfl rfl) rfl rfl rfl ?_; clear hf fa; intro fa hf
  refine sqv hf (r_move rfl) rfl rfl rfl ?_; clear hf fa; intro fa hf
  refine sqgF (act := (!((!(has == has)) || (decide (a1 ≠ a1))))) (ag := true) (c := ((!(has == has)) || (decide (a1 ≠ a1)))) (v := (.pointer (some ⟨b1, 2, none⟩))) hf rfl rfl rfl (fun hact => (r_fa rfl Try.underlying37 (f := 2) (q := 2) rfl (by kernel_rfl) rfl)) rfl rfl ?_; clear hf fa; intro fa hf
  refine sqgF (act := (!((!(has == has)) || (decide (a1 ≠ a1))))) (ag := true) (c := ((!(has == has)) || (decide (a1 ≠ a1)))) (v := (.int .u32 a2)) hf rfl rfl rfl (fun hact => (r_load (v := (.int .u32 a2)) (gb_ev hact rfl) Try.underlying24 rfl (cell_blk hk1 rfl))) rfl rfl ?_; clear hf fa; intro fa hf
  refine sqgF (act := (!((!(has == has)) || (decide (a1 ≠ a1))))) (ag := true) (c := ((!(has == has)) || (decide (a1 ≠ a1)))) (v := (.pointer (some ⟨b2, 2, none⟩))) hf rfl rfl rfl (fun hact => (r_fa rfl Try.underlying37 (f := 2) (q := 2) rfl (by kernel_rfl) rfl)) rfl rfl ?_; clear hf fa; intro fa hf
  refine sqgF (act := (!((!(has == has)) || (decide (a1 ≠ a1))))) (ag := true) (c := ((!(has == has)) || (decide (a1 ≠ a1)))) (v := (.int .u32 a2)) hf rfl rfl rfl (fun hact => (r_load (v := (.int .u32 a2)) (gb_ev hact rfl) Try.underlying24 rfl (cell_blk hk2 rfl))) rfl rfl ?_; clear hf fa; intro fa hf
  refine sqgF (act := (!((!(has == has)) || (decide (a1 ≠ a1))))) (ag := true) (c := ((!(has == has)) || (decide (a1 ≠ a1)))) (v := (.bool (decide (a2 ≠ a2)))) hf rfl rfl rfl (fun hact => (r_ne (gb_ev hact rfl) (gb_ev hact rfl))) rfl rfl ?_; clear hf fa; intro fa hf
  refine sqv hf (r_pickO (b := ((!(has == has)) || (decide (a1 ≠ a1)))) (e := (decide (a2 ≠ a2))) rfl rfl rfl) rfl rfl rfl ?_; clear hf fa; intro fa hf
  refine sqv hf (r_move rfl) rfl rfl rfl ?_; clear hf fa; intro fa hf
  refine sqgF (act := (!(((!(has == has)) || (decide (a1 ≠ a1))) || (decide (a2 ≠ a2))))) (ag := true) (c := (((!(has == has)) || (decide (a1 ≠ a1))) || (decide (a2 ≠ a2)))) (v := (.pointer (some ⟨b1, 3, none⟩))) hf rfl rfl rfl (fun hact => (r_fa rfl Try.underlying37 (f := 3) (q := 3) rfl (by kernel_rfl) rfl)) rfl rfl ?_; clear hf fa; intro fa hf
  refine sqgF (act := (!(((!(has == has)) || (decide (a1 ≠ a1))) || (decide (a2 ≠ a2))))) (ag := true) (c := (((!(has == has)) || (decide (a1 ≠ a1))) || (decide (a2 ≠ a2)))) (v := (.int .u32 a3)) hf rfl rfl rfl (fun hact => (r_load (v := (.int .u32 a3)) (gb_ev hact rfl) Try.underlying24 rfl (cell_blk hk1 rfl))) rfl rfl ?_; clear hf fa; intro fa hf
  refine sqgF (act := (!(((!(has == has)) || (decide (a1 ≠ a1))) || (decide (a2 ≠ a2))))) (ag := true) (c := (((!(has == has)) || (decide (a1 ≠ a1))) || (decide (a2 ≠ a2)))) (v := (.pointer (some ⟨b2, 3, none⟩))) hf rfl rfl rfl (fun hact => (r_fa rfl Try.underlying37 (f := 3) (q := 3) rfl (by kernel_rfl) rfl)) rfl rfl ?_; clear hf fa; intro fa hf
  refine sqgF (act := (!(((!(has == has)) || (decide (a1 ≠ a1))) || (decide (a2 ≠ a2))))) (ag := true) (c := (((!(has == has)) || (decide (a1 ≠ a1))) || (decide (a2 ≠ a2)))) (v := (.int .u32 a3)) hf rfl rfl rfl (fun hact => (r_load (v := (.int .u32 a3)) (gb_ev hact rfl) Try.underlying24 rfl (cell_blk hk2 rfl))) rfl rfl ?_; clear hf fa; intro fa hf
  refine sqgF (act := (!(((!(has == has)) || (decide (a1 ≠ a1))) || (decide (a2 ≠ a2))))) (ag := true) (c := (((!(has == has)) || (decide (a1 ≠ a1))) || (decide (a2 ≠ a2)))) (v := (.bool (decide (a3 ≠ a3)))) hf rfl rfl rfl (fun hact => (r_ne (gb_ev hact rfl) (gb_ev hact rfl))) rfl rfl ?_; clear hf fa; intro fa hf
  refine sqv hf (r_pickO (b := (((!(has == has)) || (decide (a1 ≠ a1))) || (decide (a2 ≠ a2)))) (e := (decide (a3 ≠ a3))) rfl rfl rfl) rfl rfl rfl ?_; clear hf fa; intro fa hf
  refine sqv hf (r_move rfl) rfl rfl rfl ?_; clear hf fa; intro fa hf
  refine sqgF (act := (!((((!(has == has)) || (decide (a1 ≠ a1))) || (decide (a2 ≠ a2))) || (decide (a3 ≠ a3))))) (ag := true) (c := ((((!(has == has)) || (decide (a1 ≠ a1))) || (decide (a2 ≠ a2))) || (decide (a3 ≠ a3)))) (v := (.pointer (some ⟨b1, 4, none⟩))) hf rfl rfl rfl (fun hact => (r_fa rfl Try.underlying37 (f := 4) (q := 4) rfl (by kernel_rfl) rfl)) rfl rfl ?_; clear hf fa; intro fa hf
  refine sqgF (act := (!((((!(has == has)) || (decide (a1 ≠ a1))) || (decide (a2 ≠ a2))) || (decide (a3 ≠ a3))))) (ag := true) (c := ((((!(has == has)) || (decide (a1 ≠ a1))) || (decide (a2 ≠ a2))) || (decide (a3 ≠ a3)))) (v := (.int .u32 a4)) hf rfl rfl rfl (fun hact => (r_load (v := (.int .u32 a4)) (gb_ev hact rfl) Try.underlying24 rfl (cell_blk hk1 rfl))) rfl rfl ?_; clear hf fa; intro fa hf
  refine sqgF (act := (!((((!(has == has)) || (decide (a1 ≠ a1))) || (decide (a2 ≠ a2))) || (decide (a3 ≠ a3))))) (ag := true) (c := ((((!(has == has)) || (decide (a1 ≠ a1))) || (decide (a2 ≠ a2))) || (decide (a3 ≠ a3)))) (v := (.pointer (some ⟨b2, 4, none⟩))) hf rfl rfl rfl (fun hact => (r_fa rfl Try.underlying37 (f := 4) (q := 4) rfl (by kernel_rfl) rfl)) rfl rfl ?_; clear hf fa; intro fa hf
  refine sqgF (act := (!((((!(has == has)) || (decide (a1 ≠ a1))) || (decide (a2 ≠ a2))) || (decide (a3 ≠ a3))))) (ag := true) (c := ((((!(has == has)) || (decide (a1 ≠ a1))) || (decide (a2 ≠ a2))) || (decide (a3 ≠ a3)))) (v := (.int .u32 a4)) hf rfl rfl rfl (fun hact => (r_load (v := (.int .u32 a4)) (gb_ev hact rfl) Try.underlying24 rfl (cell_blk hk2 rfl))) rfl rfl ?_; clear hf fa; intro fa hf
  refine sqgF (act := (!((((!(has == has)) || (decide (a1 ≠ a1))) || (decide (a2 ≠ a2))) || (decide (a3 ≠ a3))))) (ag := true) (c := ((((!(has == has)) || (decide (a1 ≠ a1))) || (decide (a2 ≠ a2))) || (decide (a3 ≠ a3)))) (v := (.bool (decide (a4 ≠ a4)))) hf rfl rfl rfl (fun hact => (r_ne (gb_ev hact rfl) (gb_ev hact rfl))) rfl rfl ?_; clear hf fa; intro fa hf
  refine sqv hf (r_pickO (b := ((((!(has == has)) || (decide (a1 ≠ a1))) || (decide (a2 ≠ a2))) || (decide (a3 ≠ a3)))) (e := (decide (a4 ≠ a4))) rfl rfl rfl) rfl rfl rfl ?_; clear hf fa; intro fa hf
  refine sqv hf (r_move rfl) rfl rfl rfl ?_; clear hf fa; intro fa hf
  refine sqgF (act := (!(((((!(has == has)) || (decide (a1 ≠ a1))) || (decide (a2 ≠ a2))) || (decide (a3 ≠ a3))) || (decide (a4 ≠ a4))))) (ag := true) (c := (((((!(has == has)) || (decide (a1 ≠ a1))) || (decide (a2 ≠ a2))) || (decide (a3 ≠ a3))) || (decide (a4 ≠ a4)))) (v := (.pointer (some ⟨b1, 5, none⟩))) hf rfl rfl rfl (fun hact => (r_fa rfl Try.underlying37 (f := 5) (q := 5) rfl (by kernel_rfl) rfl)) rfl rfl ?_; clear hf fa; intro fa hf
  refine sqgF (act := (!(((((!(has == has)) || (decide (a1 ≠ a1))) || (decide (a2 ≠ a2))) || (decide (a3 ≠ a3))) || (decide (a4 ≠ a4))))) (ag := true) (c := (((((!(has == has)) || (decide (a1 ≠ a1))) || (decide (a2 ≠ a2))) || (decide (a3 ≠ a3))) || (decide (a4 ≠ a4)))) (v := (.slice b L.length d)) hf rfl rfl rfl (fun hact => (r_load (v := (.slice b L.length d)) (gb_ev hact rfl) Try.underlying33 rfl (cell_blk hk1 rfl))) rfl rfl ?_; clear hf fa; intro fa hf
  refine sqgF (act := (!(((((!(has == has)) || (decide (a1 ≠ a1))) || (decide (a2 ≠ a2))) || (decide (a3 ≠ a3))) || (decide (a4 ≠ a4))))) (ag := true) (c := (((((!(has == has)) || (decide (a1 ≠ a1))) || (decide (a2 ≠ a2))) || (decide (a3 ≠ a3))) || (decide (a4 ≠ a4)))) (v := (.int .i64 ((L.length : Nat) : Int))) hf rfl rfl rfl (fun hact => (r_lensl (gb_ev hact rfl) Try.underlying33)) rfl rfl ?_; clear hf fa; intro fa hf
  refine sqgF (act := (!(((((!(has == has)) || (decide (a1 ≠ a1))) || (decide (a2 ≠ a2))) || (decide (a3 ≠ a3))) || (decide (a4 ≠ a4))))) (ag := true) (c := (((((!(has == has)) || (decide (a1 ≠ a1))) || (decide (a2 ≠ a2))) || (decide (a3 ≠ a3))) || (decide (a4 ≠ a4)))) (v := (.pointer (some ⟨b2, 5, none⟩))) hf rfl rfl rfl (fun hact => (r_fa rfl Try.underlying37 (f := 5) (q := 5) rfl (by kernel_rfl) rfl)) rfl rfl ?_; clear hf fa; intro fa hf
  refine sqgF (act := (!(((((!(has == has)) || (decide (a1 ≠ a1))) || (decide (a2 ≠ a2))) || (decide (a3 ≠ a3))) || (decide (a4 ≠ a4))))) (ag := true) (c := (((((!(has == has)) || (decide (a1 ≠ a1))) || (decide (a2 ≠ a2))) || (decide (a3 ≠ a3))) || (decide (a4 ≠ a4)))) (v := (.slice a L.length c)) hf rfl rfl rfl (fun hact => (r_load (v := (.slice a L.length c)) (gb_ev hact rfl) Try.underlying33 rfl (cell_blk hk2 rfl))) rfl rfl ?_; clear hf fa; intro fa hf
  refine sqgF (act := (!(((((!(has == has)) || (decide (a1 ≠ a1))) || (decide (a2 ≠ a2))) || (decide (a3 ≠ a3))) || (decide (a4 ≠ a4))))) (ag := true) (c := (((((!(has == has)) || (decide (a1 ≠ a1))) || (decide (a2 ≠ a2))) || (decide (a3 ≠ a3))) || (decide (a4 ≠ a4)))) (v := (.int .i64 ((L.length : Nat) : Int))) hf rfl rfl rfl (fun hact => (r_lensl (gb_ev hact rfl) Try.underlying33)) rfl rfl ?_; clear hf fa; intro fa hf
  refine sqgF (act := (!(((((!(has == has)) || (decide (a1 ≠ a1))) || (decide (a2 ≠ a2))) || (decide (a3 ≠ a3))) || (decide (a4 ≠ a4))))) (ag := true) (c := (((((!(has == has)) || (decide (a1 ≠ a1))) || (decide (a2 ≠ a2))) || (decide (a3 ≠ a3))) || (decide (a4 ≠ a4)))) (v := (.bool (decide (((L.length : Nat) : Int) ≠ ((L.length : Nat) : Int))))) hf rfl rfl rfl (fun hact => (r_ne (gb_ev hact rfl) (gb_ev hact rfl))) rfl rfl ?_; clear hf fa; intro fa hf
  refine sqv hf (Runs.veq (r_pickO (b := (((((!(has == has)) || (decide (a1 ≠ a1))) || (decide (a2 ≠ a2))) || (decide (a3 ≠ a3))) || (decide (a4 ≠ a4)))) (e := (decide (((L.length : Nat) : Int) ≠ ((L.length : Nat) : Int)))) rfl rfl rfl) (congrArg Value.bool (show _ = false from (by simp)))) rfl rfl rfl ?_; clear hf fa; intro fa hf
  apply wpList_nil
  (try simp only [Exit.then, Exit.inBlock, ↓reduceIte, Nat.reduceEqDiff])
  refine hK3 _ _ ?_
  refine wp_cond_false (hf.ev rfl) ?_
  refine wp_skip ?_
  (try simp only [Exit.then, Exit.inBlock, ↓reduceIte, Nat.reduceEqDiff])
  refine hK2 _ _ ?_
  refine wp_seq_k (fun K4 hK4 => ?_)
  refine wp_seq_k (fun K5 hK5 => ?_)
  refine wp_region_lit ?_
  refine sqv hf (r_assign rfl) rfl rfl rfl ?_; clear hf fa; intro fa hf
  apply wpList_nil
  (try simp only [Exit.then, Exit.inBlock, ↓reduceIte, Nat.reduceEqDiff])
  refine hK5 _ _ ?_
  refine wp_block ?_
  refine wp_loop_k (fun mq fa wr => ∃ (k : Nat), mq = L.length - k ∧ Fr 66 fa [(2, (.pointer (some ⟨b1, 0, none⟩))), (3, (.pointer (some ⟨b2, 0, none⟩))), (5, (.int .i64 ((k : Nat) : Int)))] ∧ Below w.heap.size w wr ∧ wr.heap[b1]? = some (.cells #[(.bool has), (.int .u32 a1), (.int .u32 a2), (.int .u32 a3), (.int .u32 a4), (.slice b L.length d)] 37 (0, 0)) ∧ wr.heap[b2]? = some (.cells #[(.bool has), (.int .u32 a1), (.int .u32 a2), (.int .u32 a3), (.int .u32 a4), (.slice a L.length c)] 37 (0, 0)) ∧ (k ≤ L.length)) ?_ ?_
  · skip
    exact ⟨_, 0, rfl, hf.sub ⟨rfl, rfl, (some_int (by first | rfl | omega)), trivial⟩, hb, hk1, hk2, by omega⟩
  · skip
    clear hf fa; intro mq1 fa w3 hI KL1 hKL1
    clear hb
    clear hk1
    clear hk2
    obtain ⟨k, hmq1, hf, hb, hkb1, hkb2, hk⟩ := hI
    refine wp_seq_k (fun K6 hK6 => ?_)
    refine wp_seq_k (fun K7 hK7 => ?_)
    refine wp_region_lit ?_
    refine sqv hf (r_move rfl) rfl rfl rfl ?_; clear hf fa; intro fa hf
    refine sqv hf (r_fa rfl Try.underlying37 (f := 5) (q := 5) rfl (by kernel_rfl) rfl) rfl rfl rfl ?_; clear hf fa; intro fa hf
    refine sqv hf (r_load (v := (.slice b L.length d)) rfl Try.underlying33 rfl (cell_blk hkb1 rfl)) rfl rfl rfl ?_; clear hf fa; intro fa hf
    refine sqv hf (r_lensl rfl Try.underlying33) rfl rfl rfl ?_; clear hf fa; intro fa hf
    refine sqv hf (r_lt rfl rfl) rfl rfl rfl ?_; clear hf fa; intro fa hf
    apply wpList_nil
    (try simp only [Exit.then, Exit.inBlock, ↓reduceIte, Nat.reduceEqDiff])
    refine hK7 _ _ ?_
    refine wp_cond_split (t := (decide (((k : Nat) : Int) < ((L.length : Nat) : Int)))) (hf.ev rfl) (fun hqt52_1 => ?_) (fun hqt52_1 => ?_)
    · have hqt52_1b := hqt52_1
      try simp only [decide_eq_true_eq, Bool.and_eq_true, Bool.or_eq_true, Bool.not_eq_true', decide_eq_false_iff_not, ne_eq, Bool.not_eq_true] at hqt52_1
      refine wp_skip ?_
      (try simp only [Exit.then, Exit.inBlock, ↓reduceIte, Nat.reduceEqDiff])
      refine hK6 _ _ ?_
      refine wp_seq_k (fun K8 hK8 => ?_)
      refine wp_block ?_
      refine wp_seq_k (fun K9 hK9 => ?_)
      obtain ⟨y, hy⟩ : ∃ x, L[k]? = some x := ⟨_, List.getElem?_eq_getElem (by omega)⟩
      have hy1 : (L)[k]? = some y := hy
      obtain ⟨ab1, aoff1, hat1, hlb1, hel1⟩ := RdS.at hm hy1
      have hy2 : (L)[k]? = some y := hy
      obtain ⟨ab2, aoff2, hat2, hlb2, hel2⟩ := RdS.at hl hy2
      refine wp_region_un (fun wq => Below w3.heap.size w3 wq) (fun w w' => Below w.heap.size w w')
        (fun V => [(fun x _ => x = (.pointer (some ⟨b1, 5, none⟩))), (fun x _ => x = (.slice b L.length d)), (fun x _ => x = (.int .i64 ((k : Nat) : Int))), (fun x _ => x = (.pointer (some ⟨ab1, (aoff1 + k * 1), none⟩))), (fun x _ => x = (.string y)), (fun x _ => x = (.pointer (some ⟨b2, 5, none⟩))), (fun x _ => x = (.slice a L.length c)), (fun x _ => x = (.int .i64 ((k : Nat) : Int))), (fun x _ => x = (.pointer (some ⟨ab2, (aoff2 + k * 1), none⟩))), (fun x _ => x = (.string y)), (fun x _ => x = (.bool false))])
        []
        [[], [0], [], [1, 2], [3], [], [5], [], [6, 7], [8], [4, 9]]
        hf (by kernel_rfl) (by kernel_rfl) (fun _ => rfl) ((Below.refl _ _).drew) (fun a b h1 h2 => h1.trans (h2.mono h1.size)) (fun _ _ h => h.size) (fun V => ⟨kept_eq, kept_eq, kept_eq, kept_eq, kept_eq, kept_eq, kept_eq, kept_eq, kept_eq, kept_eq, kept_eq, trivial⟩) (fun _ _ _ _ _ => rfl) ?_ ?_
      · skip
        intro V
        refine ⟨fun wu0 hC hd => ?_, ?_⟩
        · clear hd
          replace hb := hb.trans (hC.mono hb.size)
          replace hkb1 := blk_ext hkb1 hC
          replace hkb2 := blk_ext hkb2 hC
          exact Runs.does (r_fa rfl Try.underlying37 (f := 5) (q := 5) rfl (by kernel_rfl) rfl) ⟨Below.refl _ _, rfl, nofr rfl⟩
        refine ⟨fun wu1 hC hd => ?_, ?_⟩
        · obtain ⟨h0, _⟩ := hd
          skip
          replace h0 : V 0 = (.pointer (some ⟨b1, 5, none⟩)) := h0
          replace hb := hb.trans (hC.mono hb.size)
          replace hkb1 := blk_ext hkb1 hC
          replace hkb2 := blk_ext hkb2 hC
          exact Runs.does (r_load (v := (.slice b L.length d)) (congrArg some h0) Try.underlying33 rfl (cell_blk hkb1 rfl)) ⟨Below.refl _ _, rfl, nofr rfl⟩
        refine ⟨fun wu2 hC hd => ?_, ?_⟩
        · clear hd
          replace hb := hb.trans (hC.mono hb.size)
          replace hkb1 := blk_ext hkb1 hC
          replace hkb2 := blk_ext hkb2 hC
          exact Runs.does (r_move rfl) ⟨Below.refl _ _, rfl, nofr rfl⟩
        refine ⟨fun wu3 hC hd => ?_, ?_⟩
        · obtain ⟨h1, h2, _⟩ := hd
          skip
          skip
          replace h1 : V 1 = (.slice b L.length d) := h1
          replace h2 : V 2 = (.int .i64 ((k : Nat) : Int)) := h2
          replace hb := hb.trans (hC.mono hb.size)
          replace hkb1 := blk_ext hkb1 hC
          replace hkb2 := blk_ext hkb2 hC
          exact Runs.does (r_ixa (sz := 1) (j := k) (evAt (congrArg some h1) hat1) (congrArg some h2) Try.underlying33 (by kernel_rfl) rfl (by omega) rfl) ⟨Below.refl _ _, rfl, nofr rfl⟩
        refine ⟨fun wu4 hC hd => ?_, ?_⟩
        · obtain ⟨h3, _⟩ := hd
          skip
          replace h3 : V 3 = (.pointer (some ⟨ab1, (aoff1 + k * 1), none⟩)) := h3
          replace hb := hb.trans (hC.mono hb.size)
          replace hkb1 := blk_ext hkb1 hC
          replace hkb2 := blk_ext hkb2 hC
          exact Runs.does (r_load (v := (.string y)) (congrArg some h3) Try.underlying9 rfl (cellsAt_cell (cellsAt_below hel1 hb hlb1) (i := 0) rfl rfl)) ⟨Below.refl _ _, rfl, nofr rfl⟩
        refine ⟨fun wu5 hC hd => ?_, ?_⟩
        · clear hd
          replace hb := hb.trans (hC.mono hb.size)
          replace hkb1 := blk_ext hkb1 hC
          replace hkb2 := blk_ext hkb2 hC
          exact Runs.does (r_fa rfl Try.underlying37 (f := 5) (q := 5) rfl (by kernel_rfl) rfl) ⟨Below.refl _ _, rfl, nofr rfl⟩
        refine ⟨fun wu6 hC hd => ?_, ?_⟩
        · obtain ⟨h5, _⟩ := hd
          skip
          replace h5 : V 5 = (.pointer (some ⟨b2, 5, none⟩)) := h5
          replace hb := hb.trans (hC.mono hb.size)
          replace hkb1 := blk_ext hkb1 hC
          replace hkb2 := blk_ext hkb2 hC
          exact Runs.does (r_load (v := (.slice a L.length c)) (congrArg some h5) Try.underlying33 rfl (cell_blk hkb2 rfl)) ⟨Below.refl _ _, rfl, nofr rfl⟩
        refine ⟨fun wu7 hC hd => ?_, ?_⟩
        · clear hd
          replace hb := hb.trans (hC.mono hb.size)
          replace hkb1 := blk_ext hkb1 hC
          replace hkb2 := blk_ext hkb2 hC
          exact Runs.does (r_move rfl) ⟨Below.refl _ _, rfl, nofr rfl⟩
        refine ⟨fun wu8 hC hd => ?_, ?_⟩
        · obtain ⟨h6, h7, _⟩ := hd
          skip
          skip
          replace h6 : V 6 = (.slice a L.length c) := h6
          replace h7 : V 7 = (.int .i64 ((k : Nat) : Int)) := h7
          replace hb := hb.trans (hC.mono hb.size)
          replace hkb1 := blk_ext hkb1 hC
          replace hkb2 := blk_ext hkb2 hC
          exact Runs.does (r_ixa (sz := 1) (j := k) (evAt (congrArg some h6) hat2) (congrArg some h7) Try.underlying33 (by kernel_rfl) rfl (by omega) rfl) ⟨Below.refl _ _, rfl, nofr rfl⟩
        refine ⟨fun wu9 hC hd => ?_, ?_⟩
        · obtain ⟨h8, _⟩ := hd
          skip
          replace h8 : V 8 = (.pointer (some ⟨ab2, (aoff2 + k * 1), none⟩)) := h8
          replace hb := hb.trans (hC.mono hb.size)
          replace hkb1 := blk_ext hkb1 hC
          replace hkb2 := blk_ext hkb2 hC
          exact Runs.does (r_load (v := (.string y)) (congrArg some h8) Try.underlying9 rfl (cellsAt_cell (cellsAt_below hel2 hb hlb2) (i := 0) rfl rfl)) ⟨Below.refl _ _, rfl, nofr rfl⟩
        refine ⟨fun wu10 hC hd => ?_, ?_⟩
        · obtain ⟨h4, h9, _⟩ := hd
          skip
          skip
          replace h4 : V 4 = (.string y) := h4
          replace h9 : V 9 = (.string y) := h9
          replace hb := hb.trans (hC.mono hb.size)
          replace hkb1 := blk_ext hkb1 hC
          replace hkb2 := blk_ext hkb2 hC
          exact Runs.does (Runs.veq (r_sne (congrArg some h4) (congrArg some h9)) (congrArg Value.bool (show _ = false from (by simp)))) ⟨Below.refl _ _, rfl, nofr rfl⟩
        trivial
      · skip
        clear hf fa; intro V w4 fa he3 hp hnb hf
        have hv0 : V 0 = (.pointer (some ⟨b1, 5, none⟩)) := postsHold_at hp 0 rfl
        have hv1 : V 1 = (.slice b L.length d) := postsHold_at hp 1 rfl
        have hv2 : V 2 = (.int .i64 ((k : Nat) : Int)) := postsHold_at hp 2 rfl
        have hv3 : V 3 = (.pointer (some ⟨ab1, (aoff1 + k * 1), none⟩)) := postsHold_at hp 3 rfl
        have hv4 : V 4 = (.string y) := postsHold_at hp 4 rfl
        have hv5 : V 5 = (.pointer (some ⟨b2, 5, none⟩)) := postsHold_at hp 5 rfl
        have hv6 : V 6 = (.slice a L.length c) := postsHold_at hp 6 rfl
        have hv7 : V 7 = (.int .i64 ((k : Nat) : Int)) := postsHold_at hp 7 rfl
        have hv8 : V 8 = (.pointer (some ⟨ab2, (aoff2 + k * 1), none⟩)) := postsHold_at hp 8 rfl
        have hv9 : V 9 = (.string y) := postsHold_at hp 9 rfl
        have hv10 : V 10 = (.bool false) := postsHold_at hp 10 rfl
        simp only [List.take_succ_cons, List.take_zero, insAll, ins, hv0, hv1, hv2, hv3, hv4, hv5, hv6, hv7, hv8, hv9, hv10] at hf
        clear hp hnb hv0 hv1 hv2 hv3 hv4 hv5 hv6 hv7 hv8 hv9 hv10
        replace hkb1 := blk_ext hkb1 he3
        replace hkb2 := blk_ext hkb2 he3
        replace hb := hb.trans (Below.mono he3 hb.size)
        (try simp only [Exit.then, Exit.inBlock, ↓reduceIte, Nat.reduceEqDiff])
        refine hK9 _ _ ?_
        refine wp_cond_false (hf.ev rfl) ?_
        refine wp_skip ?_
        (try simp only [Exit.then, Exit.inBlock, ↓reduceIte, Nat.reduceEqDiff])
        refine hK8 _ _ ?_
        refine wp_region_lit ?_
        refine sqv hf (r_move rfl) rfl rfl rfl ?_; clear hf fa; intro fa hf
        refine sqv hf (r_add (C := (((k : Nat) : Int) + (1 : Int))) rfl rfl (by rw [IntKind.wrap_i64]; omega)) rfl rfl rfl ?_; clear hf fa; intro fa hf
        refine sqv hf (r_assign rfl) rfl rfl rfl ?_; clear hf fa; intro fa hf
        apply wpList_nil
        (try simp only [Exit.then, Exit.inBlock, ↓reduceIte, Nat.reduceEqDiff])
        refine hKL1 _ _ _ (by omega) ⟨(k + 1), rfl, hf.sub ⟨rfl, rfl, (some_int (by first | rfl | omega)), trivial⟩, hb, hkb1, hkb2, by omega⟩
    · have hqt52_1b := hqt52_1
      replace hqt52_1 := Bool.eq_false_iff.1 hqt52_1
      try simp only [ne_eq, decide_eq_true_eq, Bool.and_eq_true, Bool.or_eq_true, Bool.not_eq_true', decide_eq_false_iff_not] at hqt52_1
      refine wp_exit ?_
      (try simp only [Exit.then, Exit.inBlock, ↓reduceIte, Nat.reduceEqDiff])
      refine hK4 _ _ ?_
      refine wp_seq_k (fun K10 hK10 => ?_)
      refine wp_region_lit ?_
      refine sqv hf (r_assign rfl) rfl rfl rfl ?_; clear hf fa; intro fa hf
      apply wpList_nil
      (try simp only [Exit.then, Exit.inBlock, ↓reduceIte, Nat.reduceEqDiff])
      refine hK10 _ _ ?_
      refine wp_ret ?_
      (try simp only [Exit.then, Exit.inBlock])
      refine ret1 hf rfl rfl ?_
      exact ⟨rfl, hb⟩

set_option maxHeartbeats 1000000 in
set_option maxRecDepth 100000 in
theorem info_any (bd : Nat) (bs base p : Nat) (a : Option Addr) (c : Nat) (l : List Int) (w : World) (hks : w.heap[bs]? = some (.cells #[(.slice a l.length c), (.int .i64 ((p : Nat) : Int))] 161 (0, 0))) (hr0 : Row 1 (vInt .u8) 5 base w (.slice a l.length c) l) (hp : p ≤ l.length) (hb6 : ∀ y ∈ l, 0 ≤ y ∧ y < 256) (hlm : l.length ≤ 1000000) (a1 a2 a3 a4 : Int) (h1 : 0 ≤ a1 ∧ a1 < 4294967296) (h2 : 0 ≤ a2 ∧ a2 < 4294967296) (h3 : 0 ≤ a3 ∧ a3 < 4294967296) (h4 : 0 ≤ a4 ∧ a4 < 4294967296) (hA : At l p (infoL a1 a2 a3 a4)) (hpe : p + (infoL a1 a2 a3 a4).length = l.length) (hd : w.heap[bd]? = some (.cells #[(.bool true), (.int .u32 0), (.int .u32 0), (.int .u32 0), (.int .u32 0), (.slice none 0 0)] 37 (0, 0))) (hdb : bd < bs) : Calls Try.prog 138 #[(.pointer (some ⟨bs, 0, none⟩)), (.pointer (some ⟨bd, 0, none⟩))] w fun e w' => e = .returned (.tuple #[]) ∧ w'.heap[bd]? = some (.cells #[(.bool true), (.int .u32 a1), (.int .u32 a2), (.int .u32 a3), (.int .u32 a4), (.slice none 0 0)] 37 (0, 0)) ∧ w'.heap[bs]? = some (.cells #[(.slice a l.length c), (.int .i64 (((p + (infoL a1 a2 a3 a4).length) : Nat) : Int))] 161 (0, 0)) ∧ KS [bd, bs] w.heap.size w w' := by
  have hcap := Row.caps hr0; have hR0lt := fun q hq => (Row.lt hr0 q hq).2; have hle := hA.le; have hAf := hA.mv rfl (infoL_form a1 a2 a3 a4); have hA1 := hAf.fst; have hA2 := hAf.snd.fst; have hA3 := hAf.snd.snd.fst; have hA4 := hAf.snd.snd.snd
  have hll : (infoL a1 a2 a3 a4).length = (uL a1.toNat).length + ((uL a2.toNat).length + ((uL a3.toNat).length + (uL a4.toNat).length)) := by rw [infoL_form]; simp only [List.length_append]
  refine sx_enter (L := [(0, (.pointer (some ⟨bs, 0, none⟩))), (1, (.pointer (some ⟨bd, 0, none⟩)))]) Try.func138 rfl rfl rfl rfl (fun fa hf => ?_)
  have hb : KS [bd, bs] w.heap.size w w := KS.refl _ _ _
  refine wp_seq_k (fun K1 hK1 => ?_)
  refine wp_region_lit ?_
  refine sqv hf (r_move rfl) rfl rfl rfl ?_; clear hf fa; intro fa hf
  refine sqv hf (r_move rfl) rfl rfl rfl ?_; clear hf fa; intro fa hf
  refine sqv hf (r_move rfl) rfl rfl rfl ?_; clear hf fa; intro fa hf
  refine sqdt hf (d_callW (v := (.int .u32 ((a1.toNat : Nat) : Int))) (b := bs) (T := 161) (cs := #[(.slice a l.length c), (.int .i64 (((p + (uL a1.toNat).length) : Nat) : Int))]) (vs := [(.pointer (some ⟨bs, 0, none⟩))]) rfl Try.func121 (by kernel_rfl) (by kernel_rfl) (index_any bs base p a c l _ hks hr0 (by omega) hb6 hlm a1.toNat hA1 (by omega))) rfl rfl rfl ?_; clear hf fa; rintro fa _ w1 ⟨rfl, hk1, hg1⟩ hf
  replace hd := blk_grown hd hg1 (by omega)
  replace hr0 := Row.grown hr0 hg1 (Row.ne_type hr0 hks rfl)
  replace hb := hb.wrote hg1 hb.size (.inl (by simp only [List.mem_cons, eq_self, true_or, or_true]))
  refine sqv hf (r_move rfl) rfl rfl rfl ?_; clear hf fa; intro fa hf
  refine sqdt hf (d_callW (v := (.int .u32 ((a2.toNat : Nat) : Int))) (b := bs) (T := 161) (cs := #[(.slice a l.length c), (.int .i64 (((((p + (uL a1.toNat).length)) + (uL a2.toNat).length) : Nat) : Int))]) (vs := [(.pointer (some ⟨bs, 0, none⟩))]) rfl Try.func121 (by kernel_rfl) (by kernel_rfl) (index_any bs base ((p + (uL a1.toNat).length)) a c l _ hk1 hr0 (by omega) hb6 hlm a2.toNat hA2 (by omega))) rfl rfl rfl ?_; clear hf fa; rintro fa _ w2 ⟨rfl, hk2, hg2⟩ hf
  replace hd := blk_grown hd hg2 (by omega)
  replace hr0 := Row.grown hr0 hg2 (Row.ne_type hr0 hk1 rfl)
  replace hb := hb.wrote hg2 hb.size (.inl (by simp only [List.mem_cons, eq_self, true_or, or_true]))
  refine sqv hf (r_nilCheck rfl) rfl rfl rfl ?_; clear hf fa; intro fa hf
  refine sqv hf (r_fa rfl Try.underlying37 (f := 1) (q := 1) rfl (by kernel_rfl) rfl) rfl rfl rfl ?_; clear hf fa; intro fa hf
  refine sqn hf (d_storeK (T := 37) (v := (.int .u32 ((a1.toNat : Nat) : Int))) (cs := #[(.bool true), (.int .u32 0), (.int .u32 0), (.int .u32 0), (.int .u32 0), (.slice none 0 0)]) (cs' := #[(.bool true), (.int .u32 ((a1.toNat : Nat) : Int)), (.int .u32 0), (.int .u32 0), (.int .u32 0), (.slice none 0 0)]) rfl rfl (by kernel_rfl) (by kernel_rfl) hd (by kernel_rfl) (by kernel_rfl)) rfl rfl ?_; clear hf fa; rintro fa _ w3 ⟨hk3, hg3⟩ hf
  replace hk2 := blk_grown hk2 hg3 (by omega)
  replace hr0 := Row.grown hr0 hg3 (Row.ne_type hr0 hd rfl)
  replace hb := hb.wrote hg3 hb.size (.inl (by simp only [List.mem_cons, eq_self, true_or, or_true]))
  refine sqv hf (r_nilCheck rfl) rfl rfl rfl ?_; clear hf fa; intro fa hf
  refine sqv hf (r_fa rfl Try.underlying37 (f := 2) (q := 2) rfl (by kernel_rfl) rfl) rfl rfl rfl ?_; clear hf fa; intro fa hf
  refine sqn hf (d_storeK (T := 37) (v := (.int .u32 ((a2.toNat : Nat) : Int))) (cs := #[(.bool true), (.int .u32 ((a1.toNat : Nat) : Int)), (.int .u32 0), (.int .u32 0), (.int .u32 0), (.slice none 0 0)]) (cs' := #[(.bool true), (.int .u32 ((a1.toNat : Nat) : Int)), (.int .u32 ((a2.toNat : Nat) : Int)), (.int .u32 0), (.int .u32 0), (.slice none 0 0)]) rfl rfl (by kernel_rfl) (by kernel_rfl) hk3 (by kernel_rfl) (by kernel_rfl)) rfl rfl ?_; clear hf fa; rintro fa _ w4 ⟨hk4, hg4⟩ hf
  replace hk2 := blk_grown hk2 hg4 (by omega)
  replace hr0 := Row.grown hr0 hg4 (Row.ne_type hr0 hk3 rfl)
  replace hb := hb.wrote hg4 hb.size (.inl (by simp only [List.mem_cons, eq_self, true_or, or_true]))
  apply wpList_nil
  (try simp only [Exit.then, Exit.inBlock, ↓reduceIte, Nat.reduceEqDiff])
  refine hK1 _ _ ?_
  refine wp_seq_k (fun K2 hK2 => ?_)
  refine wp_region_lit ?_
  refine sqv hf (r_move rfl) rfl rfl rfl ?_; clear hf fa; intro fa hf
  refine sqv hf (r_move rfl) rfl rfl rfl ?_; clear hf fa; intro fa hf
  refine sqv hf (r_move rfl) rfl rfl rfl ?_; clear hf fa; intro fa hf
  refine sqdt hf (d_callW (v := (.int .u32 ((a3.toNat : Nat) : Int))) (b := bs) (T := 161) (cs := #[(.slice a l.length c), (.int .i64 (((((((p + (uL a1.toNat).length)) + (uL a2.toNat).length)) + (uL a3.toNat).length) : Nat) : Int))]) (vs := [(.pointer (some ⟨bs, 0, none⟩))]) rfl Try.func121 (by kernel_rfl) (by kernel_rfl) (index_any bs base ((((p + (uL a1.toNat).length)) + (uL a2.toNat).length)) a c l _ hk2 hr0 (by omega) hb6 hlm a3.toNat hA3 (by omega))) rfl rfl rfl ?_; clear hf fa; rintro fa _ w5 ⟨rfl, hk5, hg5⟩ hf
  replace hk4 := blk_grown hk4 hg5 (by omega)
  replace hr0 := Row.grown hr0 hg5 (Row.ne_type hr0 hk2 rfl)
  replace hb := hb.wrote hg5 hb.size (.inl (by simp only [List.mem_cons, eq_self, true_or, or_true]))
  refine sqv hf (r_move rfl) rfl rfl rfl ?_; clear hf fa; intro fa hf
  refine sqdt hf (d_callW (v := (.int .u32 ((a4.toNat : Nat) : Int))) (b := bs) (T := 161) (cs := #[(.slice a l.length c), (.int .i64 (((((((((p + (uL a1.toNat).length)) + (uL a2.toNat).length)) + (uL a3.toNat).length)) + (uL a4.toNat).length) : Nat) : Int))]) (vs := [(.pointer (some ⟨bs, 0, none⟩))]) rfl Try.func121 (by kernel_rfl) (by kernel_rfl) (index_any bs base ((((((p + (uL a1.toNat).length)) + (uL a2.toNat).length)) + (uL a3.toNat).length)) a c l _ hk5 hr0 (by omega) hb6 hlm a4.toNat hA4 (by omega))) rfl rfl rfl ?_; clear hf fa; rintro fa _ w6 ⟨rfl, hk6, hg6⟩ hf
  replace hk4 := blk_grown hk4 hg6 (by omega)
  replace hr0 := Row.grown hr0 hg6 (Row.ne_type hr0 hk5 rfl)
  replace hb := hb.wrote hg6 hb.size (.inl (by simp only [List.mem_cons, eq_self, true_or, or_true]))
  refine sqv hf (r_nilCheck rfl) rfl rfl rfl ?_; clear hf fa; intro fa hf
  refine sqv hf (r_fa rfl Try.underlying37 (f := 3) (q := 3) rfl (by kernel_rfl) rfl) rfl rfl rfl ?_; clear hf fa; intro fa hf
  refine sqn hf (d_storeK (T := 37) (v := (.int .u32 ((a3.toNat : Nat) : Int))) (cs := #[(.bool true), (.int .u32 ((a1.toNat : Nat) : Int)), (.int .u32 ((a2.toNat : Nat) : Int)), (.int .u32 0), (.int .u32 0), (.slice none 0 0)]) (cs' := #[(.bool true), (.int .u32 ((a1.toNat : Nat) : Int)), (.int .u32 ((a2.toNat : Nat) : Int)), (.int .u32 ((a3.toNat : Nat) : Int)), (.int .u32 0), (.slice none 0 0)]) rfl rfl (by kernel_rfl) (by kernel_rfl) hk4 (by kernel_rfl) (by kernel_rfl)) rfl rfl ?_; clear hf fa; rintro fa _ w7 ⟨hk7, hg7⟩ hf
  replace hk6 := blk_grown hk6 hg7 (by omega)
  replace hr0 := Row.grown hr0 hg7 (Row.ne_type hr0 hk4 rfl)
  replace hb := hb.wrote hg7 hb.size (.inl (by simp only [List.mem_cons, eq_self, true_or, or_true]))
  refine sqv hf (r_nilCheck rfl) rfl rfl rfl ?_; clear hf fa; intro fa hf
  refine sqv hf (r_fa rfl Try.underlying37 (f := 4) (q := 4) rfl (by kernel_rfl) rfl) rfl rfl rfl ?_; clear hf fa; intro fa hf
  refine sqn hf (d_storeK (T := 37) (v := (.int .u32 ((a4.toNat : Nat) : Int))) (cs := #[(.bool true), (.int .u32 ((a1.toNat : Nat) : Int)), (.int .u32 ((a2.toNat : Nat) : Int)), (.int .u32 ((a3.toNat : Nat) : Int)), (.int .u32 0), (.slice none 0 0)]) (cs' := #[(.bool true), (.int .u32 ((a1.toNat : Nat) : Int)), (.int .u32 ((a2.toNat : Nat) : Int)), (.int .u32 ((a3.toNat : Nat) : Int)), (.int .u32 ((a4.toNat : Nat) : Int)), (.slice none 0 0)]) rfl rfl (by kernel_rfl) (by kernel_rfl) hk7 (by kernel_rfl) (by kernel_rfl)) rfl rfl ?_; clear hf fa; rintro fa _ w8 ⟨hk8, hg8⟩ hf
  replace hk6 := blk_grown hk6 hg8 (by omega)
  replace hr0 := Row.grown hr0 hg8 (Row.ne_type hr0 hk7 rfl)
  replace hb := hb.wrote hg8 hb.size (.inl (by simp only [List.mem_cons, eq_self, true_or, or_true]))
  apply wpList_nil
  (try simp only [Exit.then, Exit.inBlock, ↓reduceIte, Nat.reduceEqDiff])
  refine hK2 _ _ ?_
  refine wp_region_lit ?_
  refine sqv hf (r_move rfl) rfl rfl rfl ?_; clear hf fa; intro fa hf
  refine sqdt hf (d_callB (vs := [(.pointer (some ⟨bs, 0, none⟩))]) rfl Try.func66 (by kernel_rfl) (by kernel_rfl) (end_any bs base ((((((((p + (uL a1.toNat).length)) + (uL a2.toNat).length)) + (uL a3.toNat).length)) + (uL a4.toNat).length)) a c l _ hk6 hr0 (by omega) (by omega))) rfl rfl rfl ?_; clear hf fa; rintro fa _ w9 ⟨rfl, he1⟩ hf
  replace hk8 := blk_ext hk8 he1
  replace hk6 := blk_ext hk6 he1
  replace hr0 := Row.ext hr0 he1
  replace hb := hb.trans (Below.mono he1 hb.size)
  apply wpList_nil
  (try simp only [Exit.then, Exit.inBlock])
  refine end0 hf rfl ?_
  exact ⟨rfl, (by have h := hk8; rw [show ((a1.toNat : Nat) : Int) = a1 by omega, show ((a2.toNat : Nat) : Int) = a2 by omega, show ((a3.toNat : Nat) : Int) = a3 by omega, show ((a4.toNat : Nat) : Int) = a4 by omega] at h; exact h), pos_eq hk6 (by rw [infoL_form] at hpe ⊢; simp only [List.length_append] at hpe ⊢; omega), hb⟩

set_option maxHeartbeats 1000000 in
set_option maxRecDepth 100000 in
theorem needed_any (bd : Nat) (bs base p : Nat) (a : Option Addr) (c : Nat) (l : List Int) (w : World) (hks : w.heap[bs]? = some (.cells #[(.slice a l.length c), (.int .i64 ((p : Nat) : Int))] 161 (0, 0))) (hr0 : Row 1 (vInt .u8) 5 base w (.slice a l.length c) l) (hp : p ≤ l.length) (hb6 : ∀ y ∈ l, 0 ≤ y ∧ y < 256) (hlm : l.length ≤ 1000000) (a1 a2 a3 a4 : Int) (L : List ByteArray) (hfw : L.length ≤ 30 ∧ ∀ s ∈ L, s.size ≤ 300) (h0L : 0 < L.length) (hgd : ∀ s ∈ L, Ut.checkF s = 0) (hA : At l p (needL L)) (hpe : p + (needL L).length = l.length) (hd : w.heap[bd]? = some (.cells #[(.bool true), (.int .u32 a1), (.int .u32 a2), (.int .u32 a3), (.int .u32 a4), (.slice none 0 0)] 37 (0, 0))) (hdb : bd < bs) : Calls Try.prog 139 #[(.pointer (some ⟨bs, 0, none⟩)), (.pointer (some ⟨bd, 0, none⟩))] w fun e w' => e = .returned (.tuple #[]) ∧ ∃ (na : Option Addr) (nc : Nat), w'.heap[bd]? = some (.cells #[(.bool true), (.int .u32 a1), (.int .u32 a2), (.int .u32 a3), (.int .u32 a4), (.slice na L.length nc)] 37 (0, 0)) ∧ Row 1 vStr 9 w.heap.size w' (.slice na L.length nc) L ∧ w'.heap[bs]? = some (.cells #[(.slice a l.length c), (.int .i64 (((p + (needL L).length) : Nat) : Int))] 161 (0, 0)) ∧ KS [bd, bs] w.heap.size w w' := by
  have hcap := Row.caps hr0; have hR0lt := fun q hq => (Row.lt hr0 q hq).2; have hle := hA.le; have hpe2 := hpe; unfold needL at hpe2; rw [List.length_append] at hpe2
  refine sx_enter (L := [(0, (.pointer (some ⟨bs, 0, none⟩))), (1, (.pointer (some ⟨bd, 0, none⟩)))]) Try.func139 rfl rfl rfl rfl (fun fa hf => ?_)
  have hb : KS [bd, bs] w.heap.size w w := KS.refl _ _ _
  refine wp_seq_k (fun K1 hK1 => ?_)
  refine wp_region_lit ?_
  refine sqv hf (r_move rfl) rfl rfl rfl ?_; clear hf fa; intro fa hf
  refine sqdt hf (d_callB (vs := [(.pointer (some ⟨bs, 0, none⟩))]) rfl Try.func126 (by kernel_rfl) (by kernel_rfl) (at_any bs base p a c l _ hks hr0 (by omega))) rfl rfl rfl ?_; clear hf fa; rintro fa _ w1 ⟨rfl, he1⟩ hf
  replace hd := blk_ext hd he1
  replace hks := blk_ext hks he1
  replace hr0 := Row.ext hr0 he1
  replace hb := hb.trans (Below.mono he1 hb.size)
  refine sqv hf (r_assign rfl) rfl rfl rfl ?_; clear hf fa; intro fa hf
  apply wpList_nil
  (try simp only [Exit.then, Exit.inBlock, ↓reduceIte, Nat.reduceEqDiff])
  refine hK1 _ _ ?_
  refine wp_seq_k (fun K2 hK2 => ?_)
  refine wp_region_lit ?_
  refine sqv hf (r_move rfl) rfl rfl rfl ?_; clear hf fa; intro fa hf
  refine sqdt hf (d_callW (v := (.int .i64 ((L.length : Nat) : Int))) (b := bs) (T := 161) (cs := #[(.slice a l.length c), (.int .i64 (((p + (uL L.length).length) : Nat) : Int))]) (vs := [(.pointer (some ⟨bs, 0, none⟩))]) rfl Try.func128 (by kernel_rfl) (by kernel_rfl) (scount_any bs base p a c l _ hks hr0 (by omega) hb6 hlm L.length (At.fst hA) (by omega))) rfl rfl rfl ?_; clear hf fa; rintro fa _ w2 ⟨rfl, hk1, hg1⟩ hf
  replace hd := blk_grown hd hg1 (by omega)
  replace hr0 := Row.grown hr0 hg1 (Row.ne_type hr0 hks rfl)
  replace hb := hb.wrote hg1 hb.size (.inl (by simp only [List.mem_cons, eq_self, true_or, or_true]))
  refine sqv hf (r_assign rfl) rfl rfl rfl ?_; clear hf fa; intro fa hf
  apply wpList_nil
  (try simp only [Exit.then, Exit.inBlock, ↓reduceIte, Nat.reduceEqDiff])
  refine hK2 _ _ ?_
  refine wp_seq_k (fun K3 hK3 => ?_)
  refine wp_region_lit ?_
  refine sqv hf (r_move rfl) rfl rfl rfl ?_; clear hf fa; intro fa hf
  refine sqv hf (r_gt rfl rfl) rfl rfl rfl ?_; clear hf fa; intro fa hf
  refine sqv hf (r_move rfl) rfl rfl rfl ?_; clear hf fa; intro fa hf
  refine sqdt hf (d_callB (vs := [(.bool (decide ((0 : Int) < ((L.length : Nat) : Int)))), (.int .i64 (15 : Int)), (.int .i64 ((p : Nat) : Int))]) rfl Try.func118 (by kernel_rfl) (by kernel_rfl) (unless_any (decide ((0 : Int) < ((L.length : Nat) : Int))) (15 : Int) ((p : Nat) : Int) _ (by first | rfl | assumption | (simp; done) | (simp; omega)))) rfl rfl rfl ?_; clear hf fa; rintro fa _ w3 ⟨rfl, he2⟩ hf
  replace hd := blk_ext hd he2
  replace hk1 := blk_ext hk1 he2
  replace hr0 := Row.ext hr0 he2
  replace hb := hb.trans (Below.mono he2 hb.size)
  apply wpList_nil
  (try simp only [Exit.then, Exit.inBlock, ↓reduceIte, Nat.reduceEqDiff])
  refine hK3 _ _ ?_
  refine wp_seq_k (fun K4 hK4 => ?_)
  refine wp_seq_k (fun K5 hK5 => ?_)
  have hro0 : Row 1 vStr 9 (w.heap.size) w3 (.slice none 0 0) ([] : List ByteArray) := Row.nil
  refine wp_region_lit ?_
  refine sqv hf (r_move rfl) rfl rfl rfl ?_; clear hf fa; intro fa hf
  refine sqv hf (r_move rfl) rfl rfl rfl ?_; clear hf fa; intro fa hf
  apply wpList_nil
  (try simp only [Exit.then, Exit.inBlock, ↓reduceIte, Nat.reduceEqDiff])
  refine hK5 _ _ ?_
  refine wp_block ?_
  refine wp_loop_k (fun mq fa wr => ∃ (k : Nat) (roa : Option Addr) (roc : Nat), mq = L.length - k ∧ Fr 31 fa [(0, (.pointer (some ⟨bs, 0, none⟩))), (1, (.pointer (some ⟨bd, 0, none⟩))), (14, (.int .i64 ((L.length : Nat) : Int))), (15, (.int .i64 ((k : Nat) : Int)))] ∧ KS [bd, bs] w.heap.size w wr ∧ Row 1 vStr 9 (w.heap.size) wr (.slice roa (((L.take k)).length) roc) (L.take k) ∧ Row 1 (vInt .u8) 5 (base) wr (.slice a (l.length) c) l ∧ wr.heap[bs]? = some (.cells #[(.slice a l.length c), (.int .i64 (((p + (uL L.length).length + ((L.take k).flatMap nameB).length) : Nat) : Int))] 161 (0, 0)) ∧ wr.heap[bd]? = some (.cells #[(.bool true), (.int .u32 a1), (.int .u32 a2), (.int .u32 a3), (.int .u32 a4), (.slice roa (((L.take k)).length) roc)] 37 (0, 0)) ∧ (k ≤ L.length)) ?_ ?_
  · skip
    exact ⟨_, 0, none, 0, rfl, hf.sub ⟨rfl, rfl, rfl, (some_int (by first | rfl | omega)), trivial⟩, hb, Row.nil, hr0, hk1, hd, by omega⟩
  · skip
    clear hf fa; intro mq1 fa w4 hI KL1 hKL1
    clear hb
    clear hd
    clear hk1
    clear hr0
    clear hro0
    obtain ⟨k, roa, roc, hmq1, hf, hb, hro, hR0, hkbs, hkbd, hk⟩ := hI
    have hcro := Row.caps hro
    have hcR0 := Row.caps hR0
    have hlk : (L.take k).length ≤ k := by rw [List.length_take]; omega
    have hkle := congrArg List.length (congrArg (List.flatMap nameB) (List.take_append_drop k L))
    rw [List.flatMap_append, List.length_append] at hkle
    refine wp_seq_k (fun K6 hK6 => ?_)
    refine wp_region_lit ?_
    refine sqv hf (r_lt rfl rfl) rfl rfl rfl ?_; clear hf fa; intro fa hf
    apply wpList_nil
    (try simp only [Exit.then, Exit.inBlock, ↓reduceIte, Nat.reduceEqDiff])
    refine hK6 _ _ ?_
    refine wp_seq_k (fun K7 hK7 => ?_)
    refine wp_cond_split (t := (decide (((k : Nat) : Int) < ((L.length : Nat) : Int)))) (hf.ev rfl) (fun hqt16_1 => ?_) (fun hqt16_1 => ?_)
    · have hqt16_1b := hqt16_1
      try simp only [decide_eq_true_eq, Bool.and_eq_true, Bool.or_eq_true, Bool.not_eq_true', decide_eq_false_iff_not, ne_eq, Bool.not_eq_true] at hqt16_1
      refine wp_skip ?_
      (try simp only [Exit.then, Exit.inBlock, ↓reduceIte, Nat.reduceEqDiff])
      refine hK7 _ _ ?_
      refine wp_seq_k (fun K8 hK8 => ?_)
      refine wp_block ?_
      obtain ⟨y, hyk⟩ : ∃ x, L[k]? = some x := ⟨_, List.getElem?_eq_getElem (by omega)⟩
      have hym := List.mem_of_getElem? hyk
      have hgn := goodN_of (hgd y hym)
      have hAy : At l (p + (uL L.length).length + ((L.take k).flatMap nameB).length) (nameB y) := ((hA.snd.mv rfl (fm_split hyk)).snd).fst
      have hyl := hAy.le
      have hyn : nameB y = uL (nums y).length ++ nums y := by unfold nameB; rw [nums_len]
      have hAn := hAy.mv rfl hyn
      have hynl := congrArg List.length hyn; rw [List.length_append] at hynl
      have hlW : bs < w4.heap.size := blk_lt hkbs
      have hlV := fun q (hq : ((Value.slice roa (((L.take k)).length) roc)).ownBlock = some q) => (Row.lt hro q hq).2
      refine wp_region_vnT 9 (fun S wq => GO w4 bs (Value.slice roa (((L.take k)).length) roc) wq ∧ (¬ S 8 → Row 1 vStr 9 (w.heap.size) wq (Value.slice roa (((L.take k)).length) roc) (L.take k)) ∧ (¬ S 6 → wq.heap[bs]? = some (.cells #[(.slice a l.length c), (.int .i64 (((p + (uL L.length).length + ((L.take k).flatMap nameB).length) : Nat) : Int))] 161 (0, 0))) ∧ (S 6 → wq.heap[bs]? = some (.cells #[(.slice a l.length c), (.int .i64 (((((p + (uL L.length).length + ((L.take k).flatMap nameB).length)) + (uL (nums y).length).length + (nums y).length) : Nat) : Int))] 161 (0, 0))))
        (fun V S => [(fun x _ => x = (.pointer (some ⟨bd, 0, none⟩))), (fun x _ => x = (.pointer (some ⟨bd, 0, none⟩))), (fun x _ => x = (.pointer (some ⟨bd, 0, none⟩))), (fun x _ => x = (.pointer (some ⟨bd, 5, none⟩))), (fun x _ => x = (.slice roa (((L.take k)).length) roc)), (fun x _ => x = (.pointer (some ⟨bs, 0, none⟩))), (fun x _ => x = (.string (strOfNums (nums y)))), (fun x wq => ∃ b, x = .slice (some ⟨b, 0, none⟩) 1 1 ∧ w4.heap.size ≤ b ∧ wq.heap[b]? = some (.cells #[(.string (strOfNums (nums y)))] 9 (0, 0))), (fun x wq => ∃ a c, x = .slice a ((L.take k) ++ [(strOfNums (nums y))]).length c ∧ Row 1 vStr 9 (w.heap.size) wq x ((L.take k) ++ [(strOfNums (nums y))]))])
        [7]
        [[], [], [1], [2], [3], [], [5], [6], [4, 6, 7], [], [], []]
        hf (by kernel_rfl) (by kernel_rfl) (by kernel_rfl) (fun _ _ => rfl) (fun S hS => ⟨(GO.refl _ _ _).below (Below.refl _ _).drew, fun _ => Row.ext hro (Below.refl _ _).drew, fun _ => blk_ext hkbs (Below.refl _ _).drew, fun h => absurd h (hS _)⟩) (fun _ _ _ _ _ _ => rfl) ?_ ?_
      · skip
        intro V
        have hKP : ∀ (i : Nat) (S : Nat → Prop) (wk : World), ∀ j v w', (((fun (S : Nat → Prop) => ([(fun x _ => x = (.pointer (some ⟨bd, 0, none⟩))), (fun x _ => x = (.pointer (some ⟨bd, 0, none⟩))), (fun x _ => x = (.pointer (some ⟨bd, 0, none⟩))), (fun x _ => x = (.pointer (some ⟨bd, 5, none⟩))), (fun x _ => x = (.slice roa (((L.take k)).length) roc)), (fun x _ => x = (.pointer (some ⟨bs, 0, none⟩))), (fun x _ => x = (.string (strOfNums (nums y)))), (fun x wq => ∃ b, x = .slice (some ⟨b, 0, none⟩) 1 1 ∧ w4.heap.size ≤ b ∧ wq.heap[b]? = some (.cells #[(.string (strOfNums (nums y)))] 9 (0, 0))), (fun x wq => ∃ a c, x = .slice a ((L.take k) ++ [(strOfNums (nums y))]).length c ∧ Row 1 vStr 9 (w.heap.size) wq x ((L.take k) ++ [(strOfNums (nums y))]))] : List (Value → World → Prop))) S).getD j (fun _ _ => True)) v wk → Below wk.heap.size wk w' → (((fun (S : Nat → Prop) => ([(fun x _ => x = (.pointer (some ⟨bd, 0, none⟩))), (fun x _ => x = (.pointer (some ⟨bd, 0, none⟩))), (fun x _ => x = (.pointer (some ⟨bd, 0, none⟩))), (fun x _ => x = (.pointer (some ⟨bd, 5, none⟩))), (fun x _ => x = (.slice roa (((L.take k)).length) roc)), (fun x _ => x = (.pointer (some ⟨bs, 0, none⟩))), (fun x _ => x = (.string (strOfNums (nums y)))), (fun x wq => ∃ b, x = .slice (some ⟨b, 0, none⟩) 1 1 ∧ w4.heap.size ≤ b ∧ wq.heap[b]? = some (.cells #[(.string (strOfNums (nums y)))] 9 (0, 0))), (fun x wq => ∃ a c, x = .slice a ((L.take k) ++ [(strOfNums (nums y))]).length c ∧ Row 1 vStr 9 (w.heap.size) wq x ((L.take k) ++ [(strOfNums (nums y))]))] : List (Value → World → Prop))) (ad i S)).getD j (fun _ _ => True)) v w' := by
          intro i S wk j v w' h hB
          match j with
          | 0 =>
            exact h
          | 1 =>
            exact h
          | 2 =>
            exact h
          | 3 =>
            exact h
          | 4 =>
            exact h
          | 5 =>
            exact h
          | 6 =>
            exact h
          | 7 =>
            obtain ⟨b, e1, e2, e3⟩ := h
            exact ⟨b, e1, e2, blk_ext e3 hB⟩
          | 8 =>
            exact keptApp _ _ _ h hB
          | _ + 9 => trivial
        refine ⟨fun S wu0 hC hS hd hi => ?_, ?_⟩
        · skip
          replace hC : GO w4 bs (Value.slice roa (((L.take k)).length) roc) wu0 ∧ (¬ S 8 → Row 1 vStr 9 (w.heap.size) wu0 (Value.slice roa (((L.take k)).length) roc) (L.take k)) ∧ (¬ S 6 → wu0.heap[bs]? = some (.cells #[(.slice a l.length c), (.int .i64 (((p + (uL L.length).length + ((L.take k).flatMap nameB).length) : Nat) : Int))] 161 (0, 0))) ∧ (S 6 → wu0.heap[bs]? = some (.cells #[(.slice a l.length c), (.int .i64 (((((p + (uL L.length).length + ((L.take k).flatMap nameB).length)) + (uL (nums y).length).length + (nums y).length) : Nat) : Int))] 161 (0, 0))) := hC
          refine uv_plain (C := (fun S wq => GO w4 bs (Value.slice roa (((L.take k)).length) roc) wq ∧ (¬ S 8 → Row 1 vStr 9 (w.heap.size) wq (Value.slice roa (((L.take k)).length) roc) (L.take k)) ∧ (¬ S 6 → wq.heap[bs]? = some (.cells #[(.slice a l.length c), (.int .i64 (((p + (uL L.length).length + ((L.take k).flatMap nameB).length) : Nat) : Int))] 161 (0, 0))) ∧ (S 6 → wq.heap[bs]? = some (.cells #[(.slice a l.length c), (.int .i64 (((((p + (uL L.length).length + ((L.take k).flatMap nameB).length)) + (uL (nums y).length).length + (nums y).length) : Nat) : Int))] 161 (0, 0))))) (hKP 0 S wu0) (fun w' h1 h2 => ⟨h1.1.below h2, fun hn => Row.ext (h1.2.1 (fun hs => hn (.inr hs))) h2, fun hn => blk_ext (h1.2.2.1 (fun hs => hn (.inr hs))) h2, fun hs => blk_ext (h1.2.2.2 (by rcases hs with e | hs; exact absurd e (by decide); exact hs)) h2⟩) hC hS ?_
          obtain ⟨hC, hCr, hCo, hCn⟩ := hC
          replace hkbd := blk_go hkbd hC (by omega) (Row.ne_type hro hkbd rfl)
          replace hR0 := Row.go hR0 hC (Row.ne_type hR0 hkbs rfl) (Row.ne_row hR0 hro rfl)
          exact Runs.does (r_move rfl) ⟨Below.refl _ _, rfl, nofr rfl⟩
        refine ⟨fun S wu1 hC hS hd hi => ?_, ?_⟩
        · skip
          replace hC : GO w4 bs (Value.slice roa (((L.take k)).length) roc) wu1 ∧ (¬ S 8 → Row 1 vStr 9 (w.heap.size) wu1 (Value.slice roa (((L.take k)).length) roc) (L.take k)) ∧ (¬ S 6 → wu1.heap[bs]? = some (.cells #[(.slice a l.length c), (.int .i64 (((p + (uL L.length).length + ((L.take k).flatMap nameB).length) : Nat) : Int))] 161 (0, 0))) ∧ (S 6 → wu1.heap[bs]? = some (.cells #[(.slice a l.length c), (.int .i64 (((((p + (uL L.length).length + ((L.take k).flatMap nameB).length)) + (uL (nums y).length).length + (nums y).length) : Nat) : Int))] 161 (0, 0))) := hC
          refine uv_plain (C := (fun S wq => GO w4 bs (Value.slice roa (((L.take k)).length) roc) wq ∧ (¬ S 8 → Row 1 vStr 9 (w.heap.size) wq (Value.slice roa (((L.take k)).length) roc) (L.take k)) ∧ (¬ S 6 → wq.heap[bs]? = some (.cells #[(.slice a l.length c), (.int .i64 (((p + (uL L.length).length + ((L.take k).flatMap nameB).length) : Nat) : Int))] 161 (0, 0))) ∧ (S 6 → wq.heap[bs]? = some (.cells #[(.slice a l.length c), (.int .i64 (((((p + (uL L.length).length + ((L.take k).flatMap nameB).length)) + (uL (nums y).length).length + (nums y).length) : Nat) : Int))] 161 (0, 0))))) (hKP 1 S wu1) (fun w' h1 h2 => ⟨h1.1.below h2, fun hn => Row.ext (h1.2.1 (fun hs => hn (.inr hs))) h2, fun hn => blk_ext (h1.2.2.1 (fun hs => hn (.inr hs))) h2, fun hs => blk_ext (h1.2.2.2 (by rcases hs with e | hs; exact absurd e (by decide); exact hs)) h2⟩) hC hS ?_
          obtain ⟨hC, hCr, hCo, hCn⟩ := hC
          replace hkbd := blk_go hkbd hC (by omega) (Row.ne_type hro hkbd rfl)
          replace hR0 := Row.go hR0 hC (Row.ne_type hR0 hkbs rfl) (Row.ne_row hR0 hro rfl)
          exact Runs.does (r_move rfl) ⟨Below.refl _ _, rfl, nofr rfl⟩
        refine ⟨fun S wu2 hC hS hd hi => ?_, ?_⟩
        · skip
          replace hC : GO w4 bs (Value.slice roa (((L.take k)).length) roc) wu2 ∧ (¬ S 8 → Row 1 vStr 9 (w.heap.size) wu2 (Value.slice roa (((L.take k)).length) roc) (L.take k)) ∧ (¬ S 6 → wu2.heap[bs]? = some (.cells #[(.slice a l.length c), (.int .i64 (((p + (uL L.length).length + ((L.take k).flatMap nameB).length) : Nat) : Int))] 161 (0, 0))) ∧ (S 6 → wu2.heap[bs]? = some (.cells #[(.slice a l.length c), (.int .i64 (((((p + (uL L.length).length + ((L.take k).flatMap nameB).length)) + (uL (nums y).length).length + (nums y).length) : Nat) : Int))] 161 (0, 0))) := hC
          refine uv_plain (C := (fun S wq => GO w4 bs (Value.slice roa (((L.take k)).length) roc) wq ∧ (¬ S 8 → Row 1 vStr 9 (w.heap.size) wq (Value.slice roa (((L.take k)).length) roc) (L.take k)) ∧ (¬ S 6 → wq.heap[bs]? = some (.cells #[(.slice a l.length c), (.int .i64 (((p + (uL L.length).length + ((L.take k).flatMap nameB).length) : Nat) : Int))] 161 (0, 0))) ∧ (S 6 → wq.heap[bs]? = some (.cells #[(.slice a l.length c), (.int .i64 (((((p + (uL L.length).length + ((L.take k).flatMap nameB).length)) + (uL (nums y).length).length + (nums y).length) : Nat) : Int))] 161 (0, 0))))) (hKP 2 S wu2) (fun w' h1 h2 => ⟨h1.1.below h2, fun hn => Row.ext (h1.2.1 (fun hs => hn (.inr hs))) h2, fun hn => blk_ext (h1.2.2.1 (fun hs => hn (.inr hs))) h2, fun hs => blk_ext (h1.2.2.2 (by rcases hs with e | hs; exact absurd e (by decide); exact hs)) h2⟩) hC hS ?_
          obtain ⟨hC, hCr, hCo, hCn⟩ := hC
          have h1 := hS.post 1 (hd 1 (by decide))
          replace h1 : V 1 = (.pointer (some ⟨bd, 0, none⟩)) := h1
          replace hkbd := blk_go hkbd hC (by omega) (Row.ne_type hro hkbd rfl)
          replace hR0 := Row.go hR0 hC (Row.ne_type hR0 hkbs rfl) (Row.ne_row hR0 hro rfl)
          exact Runs.does (r_nilCheck (congrArg some h1)) ⟨Below.refl _ _, rfl, nofr rfl⟩
        refine ⟨fun S wu3 hC hS hd hi => ?_, ?_⟩
        · skip
          replace hC : GO w4 bs (Value.slice roa (((L.take k)).length) roc) wu3 ∧ (¬ S 8 → Row 1 vStr 9 (w.heap.size) wu3 (Value.slice roa (((L.take k)).length) roc) (L.take k)) ∧ (¬ S 6 → wu3.heap[bs]? = some (.cells #[(.slice a l.length c), (.int .i64 (((p + (uL L.length).length + ((L.take k).flatMap nameB).length) : Nat) : Int))] 161 (0, 0))) ∧ (S 6 → wu3.heap[bs]? = some (.cells #[(.slice a l.length c), (.int .i64 (((((p + (uL L.length).length + ((L.take k).flatMap nameB).length)) + (uL (nums y).length).length + (nums y).length) : Nat) : Int))] 161 (0, 0))) := hC
          refine uv_plain (C := (fun S wq => GO w4 bs (Value.slice roa (((L.take k)).length) roc) wq ∧ (¬ S 8 → Row 1 vStr 9 (w.heap.size) wq (Value.slice roa (((L.take k)).length) roc) (L.take k)) ∧ (¬ S 6 → wq.heap[bs]? = some (.cells #[(.slice a l.length c), (.int .i64 (((p + (uL L.length).length + ((L.take k).flatMap nameB).length) : Nat) : Int))] 161 (0, 0))) ∧ (S 6 → wq.heap[bs]? = some (.cells #[(.slice a l.length c), (.int .i64 (((((p + (uL L.length).length + ((L.take k).flatMap nameB).length)) + (uL (nums y).length).length + (nums y).length) : Nat) : Int))] 161 (0, 0))))) (hKP 3 S wu3) (fun w' h1 h2 => ⟨h1.1.below h2, fun hn => Row.ext (h1.2.1 (fun hs => hn (.inr hs))) h2, fun hn => blk_ext (h1.2.2.1 (fun hs => hn (.inr hs))) h2, fun hs => blk_ext (h1.2.2.2 (by rcases hs with e | hs; exact absurd e (by decide); exact hs)) h2⟩) hC hS ?_
          obtain ⟨hC, hCr, hCo, hCn⟩ := hC
          have h2 := hS.post 2 (hd 2 (by decide))
          replace h2 : V 2 = (.pointer (some ⟨bd, 0, none⟩)) := h2
          replace hkbd := blk_go hkbd hC (by omega) (Row.ne_type hro hkbd rfl)
          replace hR0 := Row.go hR0 hC (Row.ne_type hR0 hkbs rfl) (Row.ne_row hR0 hro rfl)
          exact Runs.does (r_fa (congrArg some h2) Try.underlying37 (f := 5) (q := 5) rfl (by kernel_rfl) rfl) ⟨Below.refl _ _, rfl, nofr rfl⟩
        refine ⟨fun S wu4 hC hS hd hi => ?_, ?_⟩
        · skip
          replace hC : GO w4 bs (Value.slice roa (((L.take k)).length) roc) wu4 ∧ (¬ S 8 → Row 1 vStr 9 (w.heap.size) wu4 (Value.slice roa (((L.take k)).length) roc) (L.take k)) ∧ (¬ S 6 → wu4.heap[bs]? = some (.cells #[(.slice a l.length c), (.int .i64 (((p + (uL L.length).length + ((L.take k).flatMap nameB).length) : Nat) : Int))] 161 (0, 0))) ∧ (S 6 → wu4.heap[bs]? = some (.cells #[(.slice a l.length c), (.int .i64 (((((p + (uL L.length).length + ((L.take k).flatMap nameB).length)) + (uL (nums y).length).length + (nums y).length) : Nat) : Int))] 161 (0, 0))) := hC
          refine uv_plain (C := (fun S wq => GO w4 bs (Value.slice roa (((L.take k)).length) roc) wq ∧ (¬ S 8 → Row 1 vStr 9 (w.heap.size) wq (Value.slice roa (((L.take k)).length) roc) (L.take k)) ∧ (¬ S 6 → wq.heap[bs]? = some (.cells #[(.slice a l.length c), (.int .i64 (((p + (uL L.length).length + ((L.take k).flatMap nameB).length) : Nat) : Int))] 161 (0, 0))) ∧ (S 6 → wq.heap[bs]? = some (.cells #[(.slice a l.length c), (.int .i64 (((((p + (uL L.length).length + ((L.take k).flatMap nameB).length)) + (uL (nums y).length).length + (nums y).length) : Nat) : Int))] 161 (0, 0))))) (hKP 4 S wu4) (fun w' h1 h2 => ⟨h1.1.below h2, fun hn => Row.ext (h1.2.1 (fun hs => hn (.inr hs))) h2, fun hn => blk_ext (h1.2.2.1 (fun hs => hn (.inr hs))) h2, fun hs => blk_ext (h1.2.2.2 (by rcases hs with e | hs; exact absurd e (by decide); exact hs)) h2⟩) hC hS ?_
          obtain ⟨hC, hCr, hCo, hCn⟩ := hC
          have h3 := hS.post 3 (hd 3 (by decide))
          replace h3 : V 3 = (.pointer (some ⟨bd, 5, none⟩)) := h3
          replace hkbd := blk_go hkbd hC (by omega) (Row.ne_type hro hkbd rfl)
          replace hR0 := Row.go hR0 hC (Row.ne_type hR0 hkbs rfl) (Row.ne_row hR0 hro rfl)
          exact Runs.does (r_load (v := (.slice roa (((L.take k)).length) roc)) (congrArg some h3) Try.underlying33 rfl (cell_blk hkbd rfl)) ⟨Below.refl _ _, rfl, nofr rfl⟩
        refine ⟨fun S wu5 hC hS hd hi => ?_, ?_⟩
        · skip
          replace hC : GO w4 bs (Value.slice roa (((L.take k)).length) roc) wu5 ∧ (¬ S 8 → Row 1 vStr 9 (w.heap.size) wu5 (Value.slice roa (((L.take k)).length) roc) (L.take k)) ∧ (¬ S 6 → wu5.heap[bs]? = some (.cells #[(.slice a l.length c), (.int .i64 (((p + (uL L.length).length + ((L.take k).flatMap nameB).length) : Nat) : Int))] 161 (0, 0))) ∧ (S 6 → wu5.heap[bs]? = some (.cells #[(.slice a l.length c), (.int .i64 (((((p + (uL L.length).length + ((L.take k).flatMap nameB).length)) + (uL (nums y).length).length + (nums y).length) : Nat) : Int))] 161 (0, 0))) := hC
          refine uv_plain (C := (fun S wq => GO w4 bs (Value.slice roa (((L.take k)).length) roc) wq ∧ (¬ S 8 → Row 1 vStr 9 (w.heap.size) wq (Value.slice roa (((L.take k)).length) roc) (L.take k)) ∧ (¬ S 6 → wq.heap[bs]? = some (.cells #[(.slice a l.length c), (.int .i64 (((p + (uL L.length).length + ((L.take k).flatMap nameB).length) : Nat) : Int))] 161 (0, 0))) ∧ (S 6 → wq.heap[bs]? = some (.cells #[(.slice a l.length c), (.int .i64 (((((p + (uL L.length).length + ((L.take k).flatMap nameB).length)) + (uL (nums y).length).length + (nums y).length) : Nat) : Int))] 161 (0, 0))))) (hKP 5 S wu5) (fun w' h1 h2 => ⟨h1.1.below h2, fun hn => Row.ext (h1.2.1 (fun hs => hn (.inr hs))) h2, fun hn => blk_ext (h1.2.2.1 (fun hs => hn (.inr hs))) h2, fun hs => blk_ext (h1.2.2.2 (by rcases hs with e | hs; exact absurd e (by decide); exact hs)) h2⟩) hC hS ?_
          obtain ⟨hC, hCr, hCo, hCn⟩ := hC
          replace hkbd := blk_go hkbd hC (by omega) (Row.ne_type hro hkbd rfl)
          replace hR0 := Row.go hR0 hC (Row.ne_type hR0 hkbs rfl) (Row.ne_row hR0 hro rfl)
          exact Runs.does (r_move rfl) ⟨Below.refl _ _, rfl, nofr rfl⟩
        refine ⟨fun S wu6 hC hS hd hi => ?_, ?_⟩
        · skip
          replace hC : GO w4 bs (Value.slice roa (((L.take k)).length) roc) wu6 ∧ (¬ S 8 → Row 1 vStr 9 (w.heap.size) wu6 (Value.slice roa (((L.take k)).length) roc) (L.take k)) ∧ (¬ S 6 → wu6.heap[bs]? = some (.cells #[(.slice a l.length c), (.int .i64 (((p + (uL L.length).length + ((L.take k).flatMap nameB).length) : Nat) : Int))] 161 (0, 0))) ∧ (S 6 → wu6.heap[bs]? = some (.cells #[(.slice a l.length c), (.int .i64 (((((p + (uL L.length).length + ((L.take k).flatMap nameB).length)) + (uL (nums y).length).length + (nums y).length) : Nat) : Int))] 161 (0, 0))) := hC
          obtain ⟨hC, hCr, hCo, hCn⟩ := hC
          have h5 := hS.post 5 (hd 5 (by decide))
          replace h5 : V 5 = (.pointer (some ⟨bs, 0, none⟩)) := h5
          replace hkbd := blk_go hkbd hC (by omega) (Row.ne_type hro hkbd rfl)
          replace hR0 := Row.go hR0 hC (Row.ne_type hR0 hkbs rfl) (Row.ne_row hR0 hro rfl)
          replace hro := hCr (fun h => hi (hS.down 8 h 6 (by decide)))
          replace hkbs := hCo hi
          refine Does.mono (d_callW (v := (.string (strOfNums (nums y)))) (b := bs) (T := 161) (cs := #[(.slice a l.length c), (.int .i64 (((((p + (uL L.length).length + ((L.take k).flatMap nameB).length)) + (uL (nums y).length).length + (nums y).length) : Nat) : Int))]) (vs := [(.pointer (some ⟨bs, 0, none⟩))]) (show [some (V 5)] = [some (.pointer (some ⟨bs, 0, none⟩))] from by rw [h5]) Try.func125 (by kernel_rfl) (by kernel_rfl) (sname_any bs base ((p + (uL L.length).length + ((L.take k).flatMap nameB).length)) a c l _ hkbs hR0 (by omega) hb6 hlm (nums y) hAn hgn.2 hgn.1)) ?_
          rintro _ wz ⟨rfl, hY, hgY⟩
          refine ⟨⟨⟨hC.call hgY, fun hn => Row.grown hro hgY (Row.ne_type hro hkbs rfl), fun hn => absurd (.inl rfl) hn, fun _ => hY⟩, fun j hj => ?_, hgY.size⟩, rfl, nofr rfl⟩
          match j with
          | 0 =>
            exact hS.post 0 hj
          | 1 =>
            exact hS.post 1 hj
          | 2 =>
            exact hS.post 2 hj
          | 3 =>
            exact hS.post 3 hj
          | 4 =>
            exact hS.post 4 hj
          | 5 =>
            exact hS.post 5 hj
          | 6 =>
            exact absurd hj hi
          | 7 =>
            obtain ⟨b, e1, e2, e3⟩ := hS.post 7 hj
            exact ⟨b, e1, e2, blk_grown e3 hgY (by omega)⟩
          | 8 =>
            exact absurd (hS.down 8 hj 6 (by decide)) hi
          | _ + 9 => trivial
        refine ⟨fun S wu7 hC hS hd hi => ?_, ?_⟩
        · skip
          replace hC : GO w4 bs (Value.slice roa (((L.take k)).length) roc) wu7 ∧ (¬ S 8 → Row 1 vStr 9 (w.heap.size) wu7 (Value.slice roa (((L.take k)).length) roc) (L.take k)) ∧ (¬ S 6 → wu7.heap[bs]? = some (.cells #[(.slice a l.length c), (.int .i64 (((p + (uL L.length).length + ((L.take k).flatMap nameB).length) : Nat) : Int))] 161 (0, 0))) ∧ (S 6 → wu7.heap[bs]? = some (.cells #[(.slice a l.length c), (.int .i64 (((((p + (uL L.length).length + ((L.take k).flatMap nameB).length)) + (uL (nums y).length).length + (nums y).length) : Nat) : Int))] 161 (0, 0))) := hC
          refine uv_plain (C := (fun S wq => GO w4 bs (Value.slice roa (((L.take k)).length) roc) wq ∧ (¬ S 8 → Row 1 vStr 9 (w.heap.size) wq (Value.slice roa (((L.take k)).length) roc) (L.take k)) ∧ (¬ S 6 → wq.heap[bs]? = some (.cells #[(.slice a l.length c), (.int .i64 (((p + (uL L.length).length + ((L.take k).flatMap nameB).length) : Nat) : Int))] 161 (0, 0))) ∧ (S 6 → wq.heap[bs]? = some (.cells #[(.slice a l.length c), (.int .i64 (((((p + (uL L.length).length + ((L.take k).flatMap nameB).length)) + (uL (nums y).length).length + (nums y).length) : Nat) : Int))] 161 (0, 0))))) (hKP 7 S wu7) (fun w' h1 h2 => ⟨h1.1.below h2, fun hn => Row.ext (h1.2.1 (fun hs => hn (.inr hs))) h2, fun hn => blk_ext (h1.2.2.1 (fun hs => hn (.inr hs))) h2, fun hs => blk_ext (h1.2.2.2 (by rcases hs with e | hs; exact absurd e (by decide); exact hs)) h2⟩) hC hS ?_
          obtain ⟨hC, hCr, hCo, hCn⟩ := hC
          have h6 := hS.post 6 (hd 6 (by decide))
          replace h6 : V 6 = (.string (strOfNums (nums y))) := h6
          replace hkbd := blk_go hkbd hC (by omega) (Row.ne_type hro hkbd rfl)
          replace hR0 := Row.go hR0 hC (Row.ne_type hR0 hkbs rfl) (Row.ne_row hR0 hro rfl)
          refine Does.mono (d_bslice (z := (.string ⟨#[]⟩)) (sz := 1) (vs := [(0, (.string (strOfNums (nums y))))]) (cs := #[(.string (strOfNums (nums y)))]) (show [(0, some (V 6))] = [(0, some (.string (strOfNums (nums y))))] from by rw [h6]) Try.underlying33 (by kernel_rfl) rfl (by kernel_rfl)) ?_
          rintro _ w' ⟨b, rfl, hF⟩
          exact ⟨hF.2.2, ⟨b, rfl, Nat.le_trans hC.size hF.1, hF.2.1⟩, isfr rfl hF.1 (blk_lt hF.2.1)⟩
        refine ⟨fun S wu8 hC hS hd hi => ?_, ?_⟩
        · skip
          replace hC : GO w4 bs (Value.slice roa (((L.take k)).length) roc) wu8 ∧ (¬ S 8 → Row 1 vStr 9 (w.heap.size) wu8 (Value.slice roa (((L.take k)).length) roc) (L.take k)) ∧ (¬ S 6 → wu8.heap[bs]? = some (.cells #[(.slice a l.length c), (.int .i64 (((p + (uL L.length).length + ((L.take k).flatMap nameB).length) : Nat) : Int))] 161 (0, 0))) ∧ (S 6 → wu8.heap[bs]? = some (.cells #[(.slice a l.length c), (.int .i64 (((((p + (uL L.length).length + ((L.take k).flatMap nameB).length)) + (uL (nums y).length).length + (nums y).length) : Nat) : Int))] 161 (0, 0))) := hC
          obtain ⟨hC, hCr, hCo, hCn⟩ := hC
          have h4 := hS.post 4 (hd 4 (by decide))
          replace h4 : V 4 = (.slice roa (((L.take k)).length) roc) := h4
          have h6 := hS.post 6 (hd 6 (by decide))
          replace h6 : V 6 = (.string (strOfNums (nums y))) := h6
          have h7 := hS.post 7 (hd 7 (by decide))
          obtain ⟨b1, h7, hle1, hk2⟩ := h7
          replace hkbd := blk_go hkbd hC (by omega) (Row.ne_type hro hkbd rfl)
          replace hR0 := Row.go hR0 hC (Row.ne_type hR0 hkbs rfl) (Row.ne_row hR0 hro rfl)
          replace hro := hCr hi
          have hrB := Row.of_new (k := 1) (V := vStr) (l := [(strOfNums (nums y))]) (base := w4.heap.size) hk2 hle1 rfl rfl (Nat.le_of_ble_eq_true rfl)
          refine Does.mono (d_append (V := vStr) (k := 1) (e := 9) (bytes := 16) (z := (.string ⟨#[]⟩)) (news := [(strOfNums (nums y))]) (base := w.heap.size) (by intros; rfl) (by intro x u hu; simp only [vStr, List.mem_singleton] at hu; subst hu; rfl) (congrArg some h4) (congrArg some h7) Try.underlying33 (by kernel_rfl) rfl rfl rfl hro (Row.rd (by intros; rfl) hrB) rfl (fun h => by cases h) (by first | omega | (simp only [List.length_cons, List.length_nil, List.length_append, nums_len]; omega)) (by have := hb.size; have := hC.size; omega)) ?_
          rintro v' wz ⟨hY, hgY⟩
          obtain ⟨ra, rc, rfl, _, _⟩ := Row.slice hY
          refine ⟨⟨⟨hC.app hgY, fun hn => absurd (.inl rfl) hn, fun hn => absurd (.inr (hd 6 (by decide))) hn, fun _ => (hgY.block bs (blk_lt (hCn (hd 6 (by decide)))) (fun e => Row.ne_type hro (hCn (hd 6 (by decide))) rfl e.symm)).trans (hCn (hd 6 (by decide)))⟩, fun j hj => ?_, hgY.size⟩, ⟨ra, rc, rfl, hY⟩, nofr rfl⟩
          match j with
          | 0 =>
            exact hS.post 0 hj
          | 1 =>
            exact hS.post 1 hj
          | 2 =>
            exact hS.post 2 hj
          | 3 =>
            exact hS.post 3 hj
          | 4 =>
            exact hS.post 4 hj
          | 5 =>
            exact hS.post 5 hj
          | 6 =>
            exact hS.post 6 hj
          | 7 =>
            obtain ⟨b, e1, e2, e3⟩ := hS.post 7 hj
            exact ⟨b, e1, e2, (hgY.block b (blk_lt e3) (fun e => by have := hlV b e.symm; omega)).trans e3⟩
          | 8 =>
            exact absurd hj hi
          | _ + 9 => trivial
        trivial
      · skip
        clear hf fa; intro V S w5 fa hall he3 hp hnb hf
        have hv0 := postsHold_at hp 0 rfl
        replace hv0 : V 0 = (.pointer (some ⟨bd, 0, none⟩)) := hv0
        have hv1 := postsHold_at hp 1 rfl
        replace hv1 : V 1 = (.pointer (some ⟨bd, 0, none⟩)) := hv1
        have hv2 := postsHold_at hp 2 rfl
        replace hv2 : V 2 = (.pointer (some ⟨bd, 0, none⟩)) := hv2
        have hv3 := postsHold_at hp 3 rfl
        replace hv3 : V 3 = (.pointer (some ⟨bd, 5, none⟩)) := hv3
        have hv4 := postsHold_at hp 4 rfl
        replace hv4 : V 4 = (.slice roa (((L.take k)).length) roc) := hv4
        have hv5 := postsHold_at hp 5 rfl
        replace hv5 : V 5 = (.pointer (some ⟨bs, 0, none⟩)) := hv5
        have hv6 := postsHold_at hp 6 rfl
        replace hv6 : V 6 = (.string (strOfNums (nums y))) := hv6
        have hv7 := postsHold_at hp 7 rfl
        obtain ⟨b1, hv7, hle1, hk2⟩ := hv7
        have hBb1 : w.heap.size ≤ b1 := Nat.le_trans hb.size hle1
        have hv8 := postsHold_at hp 8 rfl
        obtain ⟨ra1, rc1, hv8, hr1⟩ := hv8
        rw [hv8] at hr1
        have hcrc1 := Row.caps hr1
        simp only [List.take_succ_cons, List.take_zero, insAll, ins, hv0, hv1, hv2, hv3, hv4, hv5, hv6, hv7, hv8] at hf
        obtain ⟨he3, _, _, hk3⟩ := he3
        replace hk3 := hk3 (hall 6 (show 6 < 9 by decide))
        replace hkbd := blk_go hkbd he3 (by omega) (Row.ne_type hro hkbd rfl)
        replace hR0 := Row.go hR0 he3 (Row.ne_type hR0 hkbs rfl) (Row.ne_row hR0 hro rfl)
        replace hb := hb.go he3 hb.size (.inl (by simp only [List.mem_cons, eq_self, true_or, or_true])) (fun q hq => (Row.lt hro q hq).1)
        clear hp hnb hall hlV hro hv0 hv1 hv2 hv3 hv4 hv5 hv6 hv7 hv8
        simp only [List.drop_succ_cons, List.drop_zero]
        refine sqv hf (r_nilCheck rfl) rfl rfl rfl ?_; clear hf fa; intro fa hf
        refine sqv hf (r_fa rfl Try.underlying37 (f := 5) (q := 5) rfl (by kernel_rfl) rfl) rfl rfl rfl ?_; clear hf fa; intro fa hf
        refine sqn hf (d_storeK (T := 37) (v := (.slice ra1 (((L.take k) ++ [(strOfNums (nums y))]).length) rc1)) (cs := #[(.bool true), (.int .u32 a1), (.int .u32 a2), (.int .u32 a3), (.int .u32 a4), (.slice roa (((L.take k)).length) roc)]) (cs' := #[(.bool true), (.int .u32 a1), (.int .u32 a2), (.int .u32 a3), (.int .u32 a4), (.slice ra1 (((L.take k) ++ [(strOfNums (nums y))]).length) rc1)]) rfl rfl (by kernel_rfl) (by kernel_rfl) hkbd (by kernel_rfl) (by kernel_rfl)) rfl rfl ?_; clear hf fa; rintro fa _ w6 ⟨hk4, hg2⟩ hf
        replace hk3 := blk_grown hk3 hg2 (by omega)
        replace hR0 := Row.grown hR0 hg2 (Row.ne_type hR0 hkbd rfl)
        replace hr1 := Row.grown hr1 hg2 (Row.ne_type hr1 hkbd rfl)
        replace hb := hb.wrote hg2 hb.size (.inl (by simp only [List.mem_cons, eq_self, true_or, or_true]))
        apply wpList_nil
        (try simp only [Exit.then, Exit.inBlock, ↓reduceIte, Nat.reduceEqDiff])
        refine hK8 _ _ ?_
        refine wp_region_lit ?_
        refine sqv hf (r_add (C := (((k : Nat) : Int) + (1 : Int))) rfl rfl (by rw [IntKind.wrap_i64]; omega)) rfl rfl rfl ?_; clear hf fa; intro fa hf
        refine sqv hf (r_move rfl) rfl rfl rfl ?_; clear hf fa; intro fa hf
        apply wpList_nil
        (try simp only [Exit.then, Exit.inBlock, ↓reduceIte, Nat.reduceEqDiff])
        have hfl := congrArg List.length (fm_take (f := nameB) hyk); rw [List.length_append] at hfl
        replace hk3 := pos_eq hk3 (show ((((p + (uL L.length).length + ((L.take k).flatMap nameB).length)) + (uL (nums y).length).length + (nums y).length)) = (p + (uL L.length).length + ((L.take (k + 1)).flatMap nameB).length) by omega)
        have hrl : ((L.take k) ++ [(strOfNums (nums y))]) = L.take (k + 1) := by rw [strOfNums_nums]; exact (ltake_at hyk).symm
        have hrll := congrArg List.length hrl
        rw [hrll] at hk4
        refine hKL1 _ _ _ (by omega) ⟨(k + 1), ra1, rc1, rfl, hf.sub ⟨rfl, rfl, rfl, (some_int (by first | rfl | omega)), trivial⟩, hb, (lrowTo hr1 hrl), hR0, hk3, hk4, by omega⟩
    · have hqt16_1b := hqt16_1
      replace hqt16_1 := Bool.eq_false_iff.1 hqt16_1
      try simp only [ne_eq, decide_eq_true_eq, Bool.and_eq_true, Bool.or_eq_true, Bool.not_eq_true', decide_eq_false_iff_not] at hqt16_1
      refine wp_exit ?_
      (try simp only [Exit.then, Exit.inBlock, ↓reduceIte, Nat.reduceEqDiff])
      refine hK4 _ _ ?_
      have hkk0 : L.take k = L := List.take_of_length_le (by omega)
      have hkf : ((L.take k).flatMap nameB).length = (L.flatMap nameB).length := by rw [hkk0]
      refine wp_region_lit ?_
      refine sqv hf (r_move rfl) rfl rfl rfl ?_; clear hf fa; intro fa hf
      refine sqdt hf (d_callB (vs := [(.pointer (some ⟨bs, 0, none⟩))]) rfl Try.func66 (by kernel_rfl) (by kernel_rfl) (end_any bs base ((p + (uL L.length).length + ((L.take k).flatMap nameB).length)) a c l _ hkbs hR0 (by omega) (by omega))) rfl rfl rfl ?_; clear hf fa; rintro fa _ w7 ⟨rfl, he4⟩ hf
      replace hkbs := blk_ext hkbs he4
      replace hkbd := blk_ext hkbd he4
      replace hro := Row.ext hro he4
      replace hR0 := Row.ext hR0 he4
      replace hb := hb.trans (Below.mono he4 hb.size)
      apply wpList_nil
      (try simp only [Exit.then, Exit.inBlock])
      refine end0 hf rfl ?_
      have hkk : L.take k = L := List.take_of_length_le (by omega)
      exact ⟨rfl, _, _, (by have h := hkbd; rw [hkk] at h; exact h), (by have h := hro; rw [hkk] at h; exact h), pos_eq hkbs (by rw [hkk]; unfold needL; rw [List.length_append]; omega), hb⟩
end Go.Proofs.Ytcmdajkkdognfaa
