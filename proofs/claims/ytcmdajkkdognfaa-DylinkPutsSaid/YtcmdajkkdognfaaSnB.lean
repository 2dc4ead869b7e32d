/- What is proved here: the scanner: numbers, limits, types. -/
import Derived.Test.YtcmdajkkdognfaaSnA
import Derived.Test.YtcmdajkkdognfaaLuH
import Derived.Test.YtcmdajkkdognfaaTyA
namespace Go.Proofs.Ytcmdajkkdognfaa
open Go.RowKit
set_option linter.unusedVariables false
set_option linter.unusedSimpArgs false
set_option maxHeartbeats 1000000 in
set_option maxRecDepth 100000 in
theorem suint_any (bs base p : Nat) (a : Option Addr) (c : Nat) (l : List Int) (w : World) (hks : w.heap[bs]? = some (.cells #[(.slice a l.length c), (.int .i64 ((p : Nat) : Int))] 161 (0, 0))) (hr0 : Row 1 (vInt .u8) 5 base w (.slice a l.length c) l) (hp : p ≤ l.length) (hb6 : ∀ y ∈ l, 0 ≤ y ∧ y < 256) (hlm : l.length ≤ 1000000) (ux n : Nat) (hA : At l p (uL ux)) (hn1 : 1 ≤ n) (hn2 : n ≤ 64) (hx : ux < 2 ^ n) : Calls Try.prog 151 #[(.pointer (some ⟨bs, 0, none⟩)), (.int .i64 ((n : Nat) : Int))] w fun e w' => e = .returned (.int .u64 ((ux : Nat) : Int)) ∧ Wrote w bs #[(.slice a l.length c), (.int .i64 (((p + (uL ux).length) : Nat) : Int))] 161 w' := by
  have hcap := Row.caps hr0; have hR0lt := fun q hq => (Row.lt hr0 q hq).2
  refine sx_enter (L := [(0, (.pointer (some ⟨bs, 0, none⟩))), (1, (.int .i64 ((n : Nat) : Int)))]) Try.func151 rfl rfl rfl rfl (fun fa hf => ?_)
  have hb : KB bs w.heap.size w w := KB.refl _ _ _
  refine wp_seq_k (fun K1 hK1 => ?_)
  refine wp_region_lit ?_
  refine sqv hf (r_assign rfl) rfl rfl rfl ?_; clear hf fa; intro fa hf
  apply wpList_nil
  (try simp only [Exit.then, Exit.inBlock, ↓reduceIte, Nat.reduceEqDiff])
  refine hK1 _ _ ?_
  refine wp_seq_k (fun K2 hK2 => ?_)
  refine wp_region_un (fun wq => Below w.heap.size w wq) (fun w w' => Below w.heap.size w w')
    (fun V => [(fun x _ => x = (.pointer (some ⟨bs, 0, none⟩))), (fun x _ => x = (.pointer (some ⟨bs, 0, none⟩))), (fun x _ => x = (.pointer (some ⟨bs, 0, none⟩))), (fun x _ => x = (.slice a l.length c)), (fun x _ => x = (.pointer (some ⟨bs, 0, none⟩))), (fun x _ => x = (.pointer (some ⟨bs, 0, none⟩))), (fun x _ => x = (.pointer (some ⟨bs, 1, none⟩))), (fun x _ => x = (.int .i64 ((p : Nat) : Int))), (fun x _ => x = (.int .i64 ((n : Nat) : Int))), (fun x _ => x = (.tuple #[(.int .u64 ((ux : Nat) : Int)), (.int .i64 (((p + (uL ux).length) : Nat) : Int)), (.int .i64 (0 : Int))])), (fun x _ => x = (.tuple #[(.int .u64 ((ux : Nat) : Int)), (.int .i64 (((p + (uL ux).length) : Nat) : Int)), (.int .i64 (0 : Int))])), (fun x _ => x = (.int .u64 ((ux : Nat) : Int))), (fun x _ => x = (.int .i64 (((p + (uL ux).length) : Nat) : Int))), (fun x _ => x = (.int .i64 (0 : Int))), (fun x _ => x = (.int .u64 ((ux : Nat) : Int))), (fun x _ => x = (.int .i64 (((p + (uL ux).length) : Nat) : Int))), (fun x _ => x = (.int .i64 (0 : Int)))])
    []
    [[], [0], [1], [2], [], [4], [5], [6], [], [3, 7, 8], [9], [10], [10], [10], [0, 1, 2, 3, 4, 5, 6, 7, 8, 9, 10, 11], [0, 1, 2, 3, 4, 5, 6, 7, 8, 9, 10, 11, 12, 14], [0, 1, 2, 3, 4, 5, 6, 7, 8, 9, 10, 11, 12, 13, 14, 15]]
    hf (by kernel_rfl) (by kernel_rfl) (fun _ => rfl) ((Below.refl _ _).drew) (fun a b h1 h2 => h1.trans (h2.mono h1.size)) (fun _ _ h => h.size) (fun V => ⟨kept_eq, kept_eq, kept_eq, kept_eq, kept_eq, kept_eq, kept_eq, kept_eq, kept_eq, kept_eq, kept_eq, kept_eq, kept_eq, kept_eq, kept_eq, kept_eq, kept_eq, trivial⟩) (fun _ _ _ _ _ => rfl) ?_ ?_
  · skip
    intro V
    refine ⟨fun wu0 hC hd => ?_, ?_⟩
    · clear hd
      replace hb := hb.trans (hC.mono hb.size)
      replace hks := blk_ext hks hC
      replace hr0 := Row.ext hr0 hC
      exact Runs.does (r_move rfl) ⟨Below.refl _ _, rfl, nofr rfl⟩
    refine ⟨fun wu1 hC hd => ?_, ?_⟩
    · obtain ⟨h0, _⟩ := hd
      skip
      replace h0 : V 0 = (.pointer (some ⟨bs, 0, none⟩)) := h0
      replace hb := hb.trans (hC.mono hb.size)
      replace hks := blk_ext hks hC
      replace hr0 := Row.ext hr0 hC
      exact Runs.does (r_nilCheck (congrArg some h0)) ⟨Below.refl _ _, rfl, nofr rfl⟩
    refine ⟨fun wu2 hC hd => ?_, ?_⟩
    · obtain ⟨h1, _⟩ := hd
      skip
      replace h1 : V 1 = (.pointer (some ⟨bs, 0, none⟩)) := h1
      replace hb := hb.trans (hC.mono hb.size)
      replace hks := blk_ext hks hC
      replace hr0 := Row.ext hr0 hC
      exact Runs.does (r_fa (congrArg some h1) Try.underlying161 (f := 0) (q := 0) rfl (by kernel_rfl) rfl) ⟨Below.refl _ _, rfl, nofr rfl⟩
    refine ⟨fun wu3 hC hd => ?_, ?_⟩
    · obtain ⟨h2, _⟩ := hd
      skip
      replace h2 : V 2 = (.pointer (some ⟨bs, 0, none⟩)) := h2
      replace hb := hb.trans (hC.mono hb.size)
      replace hks := blk_ext hks hC
      replace hr0 := Row.ext hr0 hC
      exact Runs.does (r_load (v := (.slice a l.length c)) (congrArg some h2) Try.underlying47 rfl (cell_blk hks rfl)) ⟨Below.refl _ _, rfl, nofr rfl⟩
    refine ⟨fun wu4 hC hd => ?_, ?_⟩
    · clear hd
      replace hb := hb.trans (hC.mono hb.size)
      replace hks := blk_ext hks hC
      replace hr0 := Row.ext hr0 hC
      exact Runs.does (r_move rfl) ⟨Below.refl _ _, rfl, nofr rfl⟩
    refine ⟨fun wu5 hC hd => ?_, ?_⟩
    · obtain ⟨h4, _⟩ := hd
      skip
      replace h4 : V 4 = (.pointer (some ⟨bs, 0, none⟩)) := h4
      replace hb := hb.trans (hC.mono hb.size)
      replace hks := blk_ext hks hC
      replace hr0 := Row.ext hr0 hC
      exact Runs.does (r_nilCheck (congrArg some h4)) ⟨Below.refl _ _, rfl, nofr rfl⟩
    refine ⟨fun wu6 hC hd => ?_, ?_⟩
    · obtain ⟨h5, _⟩ := hd
      skip
      replace h5 : V 5 = (.pointer (some ⟨bs, 0, none⟩)) := h5
      replace hb := hb.trans (hC.mono hb.size)
      replace hks := blk_ext hks hC
      replace hr0 := Row.ext hr0 hC
      exact Runs.does (r_fa (congrArg some h5) Try.underlying161 (f := 1) (q := 1) rfl (by kernel_rfl) rfl) ⟨Below.refl _ _, rfl, nofr rfl⟩
    refine ⟨fun wu7 hC hd => ?_, ?_⟩
    · obtain ⟨h6, _⟩ := hd
      skip
      replace h6 : V 6 = (.pointer (some ⟨bs, 1, none⟩)) := h6
      replace hb := hb.trans (hC.mono hb.size)
      replace hks := blk_ext hks hC
      replace hr0 := Row.ext hr0 hC
      exact Runs.does (r_load (v := (.int .i64 ((p : Nat) : Int))) (congrArg some h6) Try.underlying3 rfl (cell_blk hks rfl)) ⟨Below.refl _ _, rfl, nofr rfl⟩
    refine ⟨fun wu8 hC hd => ?_, ?_⟩
    · clear hd
      replace hb := hb.trans (hC.mono hb.size)
      replace hks := blk_ext hks hC
      replace hr0 := Row.ext hr0 hC
      exact Runs.does (r_move rfl) ⟨Below.refl _ _, rfl, nofr rfl⟩
    refine ⟨fun wu9 hC hd => ?_, ?_⟩
    · obtain ⟨h3, h7, h8, _⟩ := hd
      skip
      skip
      skip
      replace h3 : V 3 = (.slice a l.length c) := h3
      replace h7 : V 7 = (.int .i64 ((p : Nat) : Int)) := h7
      replace h8 : V 8 = (.int .i64 ((n : Nat) : Int)) := h8
      replace hb := hb.trans (hC.mono hb.size)
      replace hks := blk_ext hks hC
      replace hr0 := Row.ext hr0 hC
      refine Does.mono (d_callS (vs := [(.slice a l.length c), (.int .i64 ((p : Nat) : Int)), (.int .i64 ((n : Nat) : Int))]) (show [some (V 3), some (V 7), some (V 8)] = [some (.slice a l.length c), some (.int .i64 ((p : Nat) : Int)), some (.int .i64 ((n : Nat) : Int))] from by rw [h3, h7, h8]) Try.func161 (by kernel_rfl) (by kernel_rfl) (readUint_at hr0 hb6 hlm hA hn1 hn2 hx)) (fun _ _ h => ⟨h.2 ▸ Below.refl _ _, h.1, nofr rfl⟩)
    refine ⟨fun wu10 hC hd => ?_, ?_⟩
    · obtain ⟨h9, _⟩ := hd
      skip
      replace h9 : V 9 = (.tuple #[(.int .u64 ((ux : Nat) : Int)), (.int .i64 (((p + (uL ux).length) : Nat) : Int)), (.int .i64 (0 : Int))]) := h9
      replace hb := hb.trans (hC.mono hb.size)
      replace hks := blk_ext hks hC
      replace hr0 := Row.ext hr0 hC
      exact Runs.does (r_move (congrArg some h9)) ⟨Below.refl _ _, rfl, nofr rfl⟩
    refine ⟨fun wu11 hC hd => ?_, ?_⟩
    · obtain ⟨h10, _⟩ := hd
      skip
      replace h10 : V 10 = (.tuple #[(.int .u64 ((ux : Nat) : Int)), (.int .i64 (((p + (uL ux).length) : Nat) : Int)), (.int .i64 (0 : Int))]) := h10
      replace hb := hb.trans (hC.mono hb.size)
      replace hks := blk_ext hks hC
      replace hr0 := Row.ext hr0 hC
      exact Runs.does (r_extract (congrArg some h10) (i := 0) rfl) ⟨Below.refl _ _, rfl, nofr rfl⟩
    refine ⟨fun wu12 hC hd => ?_, ?_⟩
    · obtain ⟨h10, _⟩ := hd
      skip
      replace h10 : V 10 = (.tuple #[(.int .u64 ((ux : Nat) : Int)), (.int .i64 (((p + (uL ux).length) : Nat) : Int)), (.int .i64 (0 : Int))]) := h10
      replace hb := hb.trans (hC.mono hb.size)
      replace hks := blk_ext hks hC
      replace hr0 := Row.ext hr0 hC
      exact Runs.does (r_extract (congrArg some h10) (i := 1) rfl) ⟨Below.refl _ _, rfl, nofr rfl⟩
    refine ⟨fun wu13 hC hd => ?_, ?_⟩
    · obtain ⟨h10, _⟩ := hd
      skip
      replace h10 : V 10 = (.tuple #[(.int .u64 ((ux : Nat) : Int)), (.int .i64 (((p + (uL ux).length) : Nat) : Int)), (.int .i64 (0 : Int))]) := h10
      replace hb := hb.trans (hC.mono hb.size)
      replace hks := blk_ext hks hC
      replace hr0 := Row.ext hr0 hC
      exact Runs.does (r_extract (congrArg some h10) (i := 2) rfl) ⟨Below.refl _ _, rfl, nofr rfl⟩
    refine ⟨fun wu14 hC hd => ?_, ?_⟩
    · obtain ⟨h0, h1, h2, h3, h4, h5, h6, h7, h8, h9, h10, h11, _⟩ := hd
      skip
      skip
      skip
      skip
      skip
      skip
      skip
      skip
      skip
      skip
      skip
      skip
      replace h0 : V 0 = (.pointer (some ⟨bs, 0, none⟩)) := h0
      replace h1 : V 1 = (.pointer (some ⟨bs, 0, none⟩)) := h1
      replace h2 : V 2 = (.pointer (some ⟨bs, 0, none⟩)) := h2
      replace h3 : V 3 = (.slice a l.length c) := h3
      replace h4 : V 4 = (.pointer (some ⟨bs, 0, none⟩)) := h4
      replace h5 : V 5 = (.pointer (some ⟨bs, 0, none⟩)) := h5
      replace h6 : V 6 = (.pointer (some ⟨bs, 1, none⟩)) := h6
      replace h7 : V 7 = (.int .i64 ((p : Nat) : Int)) := h7
      replace h8 : V 8 = (.int .i64 ((n : Nat) : Int)) := h8
      replace h9 : V 9 = (.tuple #[(.int .u64 ((ux : Nat) : Int)), (.int .i64 (((p + (uL ux).length) : Nat) : Int)), (.int .i64 (0 : Int))]) := h9
      replace h10 : V 10 = (.tuple #[(.int .u64 ((ux : Nat) : Int)), (.int .i64 (((p + (uL ux).length) : Nat) : Int)), (.int .i64 (0 : Int))]) := h10
      replace h11 : V 11 = (.int .u64 ((ux : Nat) : Int)) := h11
      replace hb := hb.trans (hC.mono hb.size)
      replace hks := blk_ext hks hC
      replace hr0 := Row.ext hr0 hC
      exact Runs.does (r_assign (congrArg some h11)) ⟨Below.refl _ _, rfl, nofr rfl⟩
    refine ⟨fun wu15 hC hd => ?_, ?_⟩
    · obtain ⟨h0, h1, h2, h3, h4, h5, h6, h7, h8, h9, h10, h11, h12, h14, _⟩ := hd
      skip
      skip
      skip
      skip
      skip
      skip
      skip
      skip
      skip
      skip
      skip
      skip
      skip
      skip
      replace h0 : V 0 = (.pointer (some ⟨bs, 0, none⟩)) := h0
      replace h1 : V 1 = (.pointer (some ⟨bs, 0, none⟩)) := h1
      replace h2 : V 2 = (.pointer (some ⟨bs, 0, none⟩)) := h2
      replace h3 : V 3 = (.slice a l.length c) := h3
      replace h4 : V 4 = (.pointer (some ⟨bs, 0, none⟩)) := h4
      replace h5 : V 5 = (.pointer (some ⟨bs, 0, none⟩)) := h5
      replace h6 : V 6 = (.pointer (some ⟨bs, 1, none⟩)) := h6
      replace h7 : V 7 = (.int .i64 ((p : Nat) : Int)) := h7
      replace h8 : V 8 = (.int .i64 ((n : Nat) : Int)) := h8
      replace h9 : V 9 = (.tuple #[(.int .u64 ((ux : Nat) : Int)), (.int .i64 (((p + (uL ux).length) : Nat) : Int)), (.int .i64 (0 : Int))]) := h9
      replace h10 : V 10 = (.tuple #[(.int .u64 ((ux : Nat) : Int)), (.int .i64 (((p + (uL ux).length) : Nat) : Int)), (.int .i64 (0 : Int))]) := h10
      replace h11 : V 11 = (.int .u64 ((ux : Nat) : Int)) := h11
      replace h12 : V 12 = (.int .i64 (((p + (uL ux).length) : Nat) : Int)) := h12
      replace h14 : V 14 = (.int .u64 ((ux : Nat) : Int)) := h14
      replace hb := hb.trans (hC.mono hb.size)
      replace hks := blk_ext hks hC
      replace hr0 := Row.ext hr0 hC
      exact Runs.does (r_assign (congrArg some h12)) ⟨Below.refl _ _, rfl, nofr rfl⟩
    refine ⟨fun wu16 hC hd => ?_, ?_⟩
    · obtain ⟨h0, h1, h2, h3, h4, h5, h6, h7, h8, h9, h10, h11, h12, h13, h14, h15, _⟩ := hd
      skip
      skip
      skip
      skip
      skip
      skip
      skip
      skip
      skip
      skip
      skip
      skip
      skip
      skip
      skip
      skip
      replace h0 : V 0 = (.pointer (some ⟨bs, 0, none⟩)) := h0
      replace h1 : V 1 = (.pointer (some ⟨bs, 0, none⟩)) := h1
      replace h2 : V 2 = (.pointer (some ⟨bs, 0, none⟩)) := h2
      replace h3 : V 3 = (.slice a l.length c) := h3
      replace h4 : V 4 = (.pointer (some ⟨bs, 0, none⟩)) := h4
      replace h5 : V 5 = (.pointer (some ⟨bs, 0, none⟩)) := h5
      replace h6 : V 6 = (.pointer (some ⟨bs, 1, none⟩)) := h6
      replace h7 : V 7 = (.int .i64 ((p : Nat) : Int)) := h7
      replace h8 : V 8 = (.int .i64 ((n : Nat) : Int)) := h8
      replace h9 : V 9 = (.tuple #[(.int .u64 ((ux : Nat) : Int)), (.int .i64 (((p + (uL ux).length) : Nat) : Int)), (.int .i64 (0 : Int))]) := h9
      replace h10 : V 10 = (.tuple #[(.int .u64 ((ux : Nat) : Int)), (.int .i64 (((p + (uL ux).length) : Nat) : Int)), (.int .i64 (0 : Int))]) := h10
      replace h11 : V 11 = (.int .u64 ((ux : Nat) : Int)) := h11
      replace h12 : V 12 = (.int .i64 (((p + (uL ux).length) : Nat) : Int)) := h12
      replace h13 : V 13 = (.int .i64 (0 : Int)) := h13
      replace h14 : V 14 = (.int .u64 ((ux : Nat) : Int)) := h14
      replace h15 : V 15 = (.int .i64 (((p + (uL ux).length) : Nat) : Int)) := h15
      replace hb := hb.trans (hC.mono hb.size)
      replace hks := blk_ext hks hC
      replace hr0 := Row.ext hr0 hC
      exact Runs.does (r_assign (congrArg some h13)) ⟨Below.refl _ _, rfl, nofr rfl⟩
    trivial
  · skip
    clear hf fa; intro V w1 fa he1 hp hnb hf
    have hv0 : V 0 = (.pointer (some ⟨bs, 0, none⟩)) := postsHold_at hp 0 rfl
    have hv1 : V 1 = (.pointer (some ⟨bs, 0, none⟩)) := postsHold_at hp 1 rfl
    have hv2 : V 2 = (.pointer (some ⟨bs, 0, none⟩)) := postsHold_at hp 2 rfl
    have hv3 : V 3 = (.slice a l.length c) := postsHold_at hp 3 rfl
    have hv4 : V 4 = (.pointer (some ⟨bs, 0, none⟩)) := postsHold_at hp 4 rfl
    have hv5 : V 5 = (.pointer (some ⟨bs, 0, none⟩)) := postsHold_at hp 5 rfl
    have hv6 : V 6 = (.pointer (some ⟨bs, 1, none⟩)) := postsHold_at hp 6 rfl
    have hv7 : V 7 = (.int .i64 ((p : Nat) : Int)) := postsHold_at hp 7 rfl
    have hv8 : V 8 = (.int .i64 ((n : Nat) : Int)) := postsHold_at hp 8 rfl
    have hv9 : V 9 = (.tuple #[(.int .u64 ((ux : Nat) : Int)), (.int .i64 (((p + (uL ux).length) : Nat) : Int)), (.int .i64 (0 : Int))]) := postsHold_at hp 9 rfl
    have hv10 : V 10 = (.tuple #[(.int .u64 ((ux : Nat) : Int)), (.int .i64 (((p + (uL ux).length) : Nat) : Int)), (.int .i64 (0 : Int))]) := postsHold_at hp 10 rfl
    have hv11 : V 11 = (.int .u64 ((ux : Nat) : Int)) := postsHold_at hp 11 rfl
    have hv12 : V 12 = (.int .i64 (((p + (uL ux).length) : Nat) : Int)) := postsHold_at hp 12 rfl
    have hv13 : V 13 = (.int .i64 (0 : Int)) := postsHold_at hp 13 rfl
    have hv14 : V 14 = (.int .u64 ((ux : Nat) : Int)) := postsHold_at hp 14 rfl
    have hv15 : V 15 = (.int .i64 (((p + (uL ux).length) : Nat) : Int)) := postsHold_at hp 15 rfl
    have hv16 : V 16 = (.int .i64 (0 : Int)) := postsHold_at hp 16 rfl
    simp only [List.take_succ_cons, List.take_zero, insAll, ins, hv0, hv1, hv2, hv3, hv4, hv5, hv6, hv7, hv8, hv9, hv10, hv11, hv12, hv13, hv14, hv15, hv16] at hf
    clear hp hnb hv0 hv1 hv2 hv3 hv4 hv5 hv6 hv7 hv8 hv9 hv10 hv11 hv12 hv13 hv14 hv15 hv16
    replace hks := blk_ext hks he1
    replace hr0 := Row.ext hr0 he1
    replace hb := hb.trans (Below.mono he1 hb.size)
    (try simp only [Exit.then, Exit.inBlock, ↓reduceIte, Nat.reduceEqDiff])
    refine hK2 _ _ ?_
    refine wp_seq_k (fun K3 hK3 => ?_)
    refine wp_region_lit ?_
    refine sqv hf (r_move rfl) rfl rfl rfl ?_; clear hf fa; intro fa hf
    refine sqv hf (r_eq rfl rfl) rfl rfl rfl ?_; clear hf fa; intro fa hf
    refine sqv hf (r_move rfl) rfl rfl rfl ?_; clear hf fa; intro fa hf
    refine sqv hf (r_move rfl) rfl rfl rfl ?_; clear hf fa; intro fa hf
    refine sqv hf (r_nilCheck rfl) rfl rfl rfl ?_; clear hf fa; intro fa hf
    refine sqv hf (r_fa rfl Try.underlying161 (f := 1) (q := 1) rfl (by kernel_rfl) rfl) rfl rfl rfl ?_; clear hf fa; intro fa hf
    refine sqv hf (r_load (v := (.int .i64 ((p : Nat) : Int))) rfl Try.underlying3 rfl (cell_blk hks rfl)) rfl rfl rfl ?_; clear hf fa; intro fa hf
    refine sqdt hf (d_callB (vs := [(.bool (decide ((0 : Int) = (0 : Int)))), (.int .i64 (0 : Int)), (.int .i64 ((p : Nat) : Int))]) rfl Try.func118 (by kernel_rfl) (by kernel_rfl) (unless_any (decide ((0 : Int) = (0 : Int))) (0 : Int) ((p : Nat) : Int) _ (by first | rfl | assumption | (simp; done) | (simp; omega)))) rfl rfl rfl ?_; clear hf fa; rintro fa _ w2 ⟨rfl, he2⟩ hf
    replace hks := blk_ext hks he2
    replace hr0 := Row.ext hr0 he2
    replace hb := hb.trans (Below.mono he2 hb.size)
    apply wpList_nil
    (try simp only [Exit.then, Exit.inBlock, ↓reduceIte, Nat.reduceEqDiff])
    refine hK3 _ _ ?_
    refine wp_seq_k (fun K4 hK4 => ?_)
    refine wp_region_lit ?_
    refine sqv hf (r_move rfl) rfl rfl rfl ?_; clear hf fa; intro fa hf
    refine sqv hf (r_move rfl) rfl rfl rfl ?_; clear hf fa; intro fa hf
    refine sqv hf (r_nilCheck rfl) rfl rfl rfl ?_; clear hf fa; intro fa hf
    refine sqv hf (r_fa rfl Try.underlying161 (f := 1) (q := 1) rfl (by kernel_rfl) rfl) rfl rfl rfl ?_; clear hf fa; intro fa hf
    refine sqn hf (d_storeK (T := 161) (v := (.int .i64 (((p + (uL ux).length) : Nat) : Int))) (cs := #[(.slice a l.length c), (.int .i64 ((p : Nat) : Int))]) (cs' := #[(.slice a l.length c), (.int .i64 (((p + (uL ux).length) : Nat) : Int))]) rfl rfl (by kernel_rfl) (by kernel_rfl) hks (by kernel_rfl) (by kernel_rfl)) rfl rfl ?_; clear hf fa; rintro fa _ w3 ⟨hk1, hg1⟩ hf
    replace hr0 := Row.grown hr0 hg1 (Row.ne_type hr0 hks rfl)
    replace hb := hb.wrote hg1 hb.size
    apply wpList_nil
    (try simp only [Exit.then, Exit.inBlock, ↓reduceIte, Nat.reduceEqDiff])
    refine hK4 _ _ ?_
    refine wp_seq_k (fun K5 hK5 => ?_)
    refine wp_region_lit ?_
    refine sqv hf (r_move rfl) rfl rfl rfl ?_; clear hf fa; intro fa hf
    refine sqv hf (r_assign rfl) rfl rfl rfl ?_; clear hf fa; intro fa hf
    apply wpList_nil
    (try simp only [Exit.then, Exit.inBlock, ↓reduceIte, Nat.reduceEqDiff])
    refine hK5 _ _ ?_
    refine wp_ret ?_
    (try simp only [Exit.then, Exit.inBlock])
    refine ret1 hf rfl rfl ?_
    exact ⟨rfl, hk1, hb.grown⟩

set_option maxHeartbeats 1000000 in
set_option maxRecDepth 100000 in
theorem index_any (bs base p : Nat) (a : Option Addr) (c : Nat) (l : List Int) (w : World) (hks : w.heap[bs]? = some (.cells #[(.slice a l.length c), (.int .i64 ((p : Nat) : Int))] 161 (0, 0))) (hr0 : Row 1 (vInt .u8) 5 base w (.slice a l.length c) l) (hp : p ≤ l.length) (hb6 : ∀ y ∈ l, 0 ≤ y ∧ y < 256) (hlm : l.length ≤ 1000000) (ux : Nat) (hA : At l p (uL ux)) (hx : ux < 4294967296) : Calls Try.prog 121 #[(.pointer (some ⟨bs, 0, none⟩))] w fun e w' => e = .returned (.int .u32 ((ux : Nat) : Int)) ∧ Wrote w bs #[(.slice a l.length c), (.int .i64 (((p + (uL ux).length) : Nat) : Int))] 161 w' := by
  have hcap := Row.caps hr0; have hR0lt := fun q hq => (Row.lt hr0 q hq).2
  refine sx_enter (L := [(0, (.pointer (some ⟨bs, 0, none⟩)))]) Try.func121 rfl rfl rfl rfl (fun fa hf => ?_)
  have hb : KB bs w.heap.size w w := KB.refl _ _ _
  refine wp_seq_k (fun K1 hK1 => ?_)
  refine wp_region_lit ?_
  refine sqv hf (r_assign rfl) rfl rfl rfl ?_; clear hf fa; intro fa hf
  apply wpList_nil
  (try simp only [Exit.then, Exit.inBlock, ↓reduceIte, Nat.reduceEqDiff])
  refine hK1 _ _ ?_
  refine wp_seq_k (fun K2 hK2 => ?_)
  refine wp_region_lit ?_
  refine sqv hf (r_move rfl) rfl rfl rfl ?_; clear hf fa; intro fa hf
  refine sqdt hf (d_callW (v := (.int .u64 ((ux : Nat) : Int))) (b := bs) (T := 161) (cs := #[(.slice a l.length c), (.int .i64 (((p + (uL ux).length) : Nat) : Int))]) (vs := [(.pointer (some ⟨bs, 0, none⟩)), (.int .i64 (32 : Int))]) rfl Try.func151 (by kernel_rfl) (by kernel_rfl) (suint_any bs base p a c l _ hks hr0 (by omega) hb6 hlm ux 32 hA (by omega) (by omega) (by omega))) rfl rfl rfl ?_; clear hf fa; rintro fa _ w1 ⟨rfl, hk1, hg1⟩ hf
  replace hr0 := Row.grown hr0 hg1 (Row.ne_type hr0 hks rfl)
  replace hb := hb.wrote hg1 hb.size
  refine sqv hf (r_conv (C := ((ux : Nat) : Int)) rfl Try.underlying55 Try.underlying24 (by rw [IntKind.wrap_u32]; omega)) rfl rfl rfl ?_; clear hf fa; intro fa hf
  refine sqv hf (r_assign rfl) rfl rfl rfl ?_; clear hf fa; intro fa hf
  apply wpList_nil
  (try simp only [Exit.then, Exit.inBlock, ↓reduceIte, Nat.reduceEqDiff])
  refine hK2 _ _ ?_
  refine wp_ret ?_
  (try simp only [Exit.then, Exit.inBlock])
  refine ret1 hf rfl rfl ?_
  exact ⟨rfl, hk1, hb.grown⟩

set_option maxHeartbeats 1000000 in
set_option maxRecDepth 100000 in
theorem scount_any (bs base p : Nat) (a : Option Addr) (c : Nat) (l : List Int) (w : World) (hks : w.heap[bs]? = some (.cells #[(.slice a l.length c), (.int .i64 ((p : Nat) : Int))] 161 (0, 0))) (hr0 : Row 1 (vInt .u8) 5 base w (.slice a l.length c) l) (hp : p ≤ l.length) (hb6 : ∀ y ∈ l, 0 ≤ y ∧ y < 256) (hlm : l.length ≤ 1000000) (ux : Nat) (hA : At l p (uL ux)) (hx : ux ≤ 10000) : Calls Try.prog 128 #[(.pointer (some ⟨bs, 0, none⟩))] w fun e w' => e = .returned (.int .i64 ((ux : Nat) : Int)) ∧ Wrote w bs #[(.slice a l.length c), (.int .i64 (((p + (uL ux).length) : Nat) : Int))] 161 w' := by
  have hcap := Row.caps hr0; have hR0lt := fun q hq => (Row.lt hr0 q hq).2
  refine sx_enter (L := [(0, (.pointer (some ⟨bs, 0, none⟩)))]) Try.func128 rfl rfl rfl rfl (fun fa hf => ?_)
  have hb : KB bs w.heap.size w w := KB.refl _ _ _
  refine wp_seq_k (fun K1 hK1 => ?_)
  refine wp_region_lit ?_
  refine sqv hf (r_assign rfl) rfl rfl rfl ?_; clear hf fa; intro fa hf
  apply wpList_nil
  (try simp only [Exit.then, Exit.inBlock, ↓reduceIte, Nat.reduceEqDiff])
  refine hK1 _ _ ?_
  refine wp_seq_k (fun K2 hK2 => ?_)
  refine wp_region_lit ?_
  refine sqv hf (r_move rfl) rfl rfl rfl ?_; clear hf fa; intro fa hf
  refine sqv hf (r_nilCheck rfl) rfl rfl rfl ?_; clear hf fa; intro fa hf
  refine sqv hf (r_fa rfl Try.underlying161 (f := 1) (q := 1) rfl (by kernel_rfl) rfl) rfl rfl rfl ?_; clear hf fa; intro fa hf
  refine sqv hf (r_load (v := (.int .i64 ((p : Nat) : Int))) rfl Try.underlying3 rfl (cell_blk hks rfl)) rfl rfl rfl ?_; clear hf fa; intro fa hf
  refine sqv hf (r_assign rfl) rfl rfl rfl ?_; clear hf fa; intro fa hf
  apply wpList_nil
  (try simp only [Exit.then, Exit.inBlock, ↓reduceIte, Nat.reduceEqDiff])
  refine hK2 _ _ ?_
  refine wp_seq_k (fun K3 hK3 => ?_)
  refine wp_region_lit ?_
  refine sqv hf (r_move rfl) rfl rfl rfl ?_; clear hf fa; intro fa hf
  refine sqdt hf (d_callW (v := (.int .u32 ((ux : Nat) : Int))) (b := bs) (T := 161) (cs := #[(.slice a l.length c), (.int .i64 (((p + (uL ux).length) : Nat) : Int))]) (vs := [(.pointer (some ⟨bs, 0, none⟩))]) rfl Try.func121 (by kernel_rfl) (by kernel_rfl) (index_any bs base p a c l _ hks hr0 (by omega) hb6 hlm ux hA (by omega))) rfl rfl rfl ?_; clear hf fa; rintro fa _ w1 ⟨rfl, hk1, hg1⟩ hf
  replace hr0 := Row.grown hr0 hg1 (Row.ne_type hr0 hks rfl)
  replace hb := hb.wrote hg1 hb.size
  refine sqv hf (r_assign rfl) rfl rfl rfl ?_; clear hf fa; intro fa hf
  apply wpList_nil
  (try simp only [Exit.then, Exit.inBlock, ↓reduceIte, Nat.reduceEqDiff])
  refine hK3 _ _ ?_
  refine wp_seq_k (fun K4 hK4 => ?_)
  refine wp_region_lit ?_
  refine sqv hf (r_move rfl) rfl rfl rfl ?_; clear hf fa; intro fa hf
  refine sqv hf (r_le rfl rfl) rfl rfl rfl ?_; clear hf fa; intro fa hf
  refine sqv hf (r_move rfl) rfl rfl rfl ?_; clear hf fa; intro fa hf
  refine sqdt hf (d_callB (vs := [(.bool (decide (((ux : Nat) : Int) ≤ (10000 : Int)))), (.int .i64 (29 : Int)), (.int .i64 ((p : Nat) : Int))]) rfl Try.func118 (by kernel_rfl) (by kernel_rfl) (unless_any (decide (((ux : Nat) : Int) ≤ (10000 : Int))) (29 : Int) ((p : Nat) : Int) _ (by first | rfl | assumption | (simp; done) | (simp; omega)))) rfl rfl rfl ?_; clear hf fa; rintro fa _ w2 ⟨rfl, he1⟩ hf
  replace hk1 := blk_ext hk1 he1
  replace hr0 := Row.ext hr0 he1
  replace hb := hb.trans (Below.mono he1 hb.size)
  apply wpList_nil
  (try simp only [Exit.then, Exit.inBlock, ↓reduceIte, Nat.reduceEqDiff])
  refine hK4 _ _ ?_
  refine wp_seq_k (fun K5 hK5 => ?_)
  refine wp_region_lit ?_
  refine sqv hf (r_move rfl) rfl rfl rfl ?_; clear hf fa; intro fa hf
  refine sqv hf (r_conv (C := ((ux : Nat) : Int)) rfl Try.underlying24 Try.underlying3 (by rw [IntKind.wrap_i64]; omega)) rfl rfl rfl ?_; clear hf fa; intro fa hf
  refine sqv hf (r_assign rfl) rfl rfl rfl ?_; clear hf fa; intro fa hf
  apply wpList_nil
  (try simp only [Exit.then, Exit.inBlock, ↓reduceIte, Nat.reduceEqDiff])
  refine hK5 _ _ ?_
  refine wp_ret ?_
  (try simp only [Exit.then, Exit.inBlock])
  refine ret1 hf rfl rfl ?_
  exact ⟨rfl, hk1, hb.grown⟩

set_option maxHeartbeats 1000000 in
set_option maxRecDepth 100000 in
theorem valtype_any (bs base p : Nat) (a : Option Addr) (c : Nat) (l : List Int) (w : World) (hks : w.heap[bs]? = some (.cells #[(.slice a l.length c), (.int .i64 ((p : Nat) : Int))] 161 (0, 0))) (hr0 : Row 1 (vInt .u8) 5 base w (.slice a l.length c) l) (hp : p ≤ l.length) (bx : Int) (hx : l[p]? = some bx) (hv : tvalP bx = 0) : Calls Try.prog 123 #[(.pointer (some ⟨bs, 0, none⟩))] w fun e w' => e = .returned (.int .u8 bx) ∧ Wrote w bs #[(.slice a l.length c), (.int .i64 (((p + 1) : Nat) : Int))] 161 w' := by
  have hcap := Row.caps hr0; have hR0lt := fun q hq => (Row.lt hr0 q hq).2; have hpl := (List.getElem?_eq_some_iff.1 hx).1
  refine sx_enter (L := [(0, (.pointer (some ⟨bs, 0, none⟩)))]) Try.func123 rfl rfl rfl rfl (fun fa hf => ?_)
  have hb : KB bs w.heap.size w w := KB.refl _ _ _
  refine wp_seq_k (fun K1 hK1 => ?_)
  refine wp_region_lit ?_
  refine sqv hf (r_assign rfl) rfl rfl rfl ?_; clear hf fa; intro fa hf
  apply wpList_nil
  (try simp only [Exit.then, Exit.inBlock, ↓reduceIte, Nat.reduceEqDiff])
  refine hK1 _ _ ?_
  refine wp_seq_k (fun K2 hK2 => ?_)
  refine wp_region_lit ?_
  refine sqv hf (r_move rfl) rfl rfl rfl ?_; clear hf fa; intro fa hf
  refine sqv hf (r_nilCheck rfl) rfl rfl rfl ?_; clear hf fa; intro fa hf
  refine sqv hf (r_fa rfl Try.underlying161 (f := 1) (q := 1) rfl (by kernel_rfl) rfl) rfl rfl rfl ?_; clear hf fa; intro fa hf
  refine sqv hf (r_load (v := (.int .i64 ((p : Nat) : Int))) rfl Try.underlying3 rfl (cell_blk hks rfl)) rfl rfl rfl ?_; clear hf fa; intro fa hf
  refine sqv hf (r_assign rfl) rfl rfl rfl ?_; clear hf fa; intro fa hf
  apply wpList_nil
  (try simp only [Exit.then, Exit.inBlock, ↓reduceIte, Nat.reduceEqDiff])
  refine hK2 _ _ ?_
  refine wp_seq_k (fun K3 hK3 => ?_)
  refine wp_region_lit ?_
  refine sqv hf (r_move rfl) rfl rfl rfl ?_; clear hf fa; intro fa hf
  refine sqdt hf (d_callW (v := (.int .u8 bx)) (b := bs) (T := 161) (cs := #[(.slice a l.length c), (.int .i64 (((p + 1) : Nat) : Int))]) (vs := [(.pointer (some ⟨bs, 0, none⟩))]) rfl Try.func61 (by kernel_rfl) (by kernel_rfl) (sbyte_any bs base p a c l _ hks hr0 (by omega) bx hx)) rfl rfl rfl ?_; clear hf fa; rintro fa _ w1 ⟨rfl, hk1, hg1⟩ hf
  replace hr0 := Row.grown hr0 hg1 (Row.ne_type hr0 hks rfl)
  replace hb := hb.wrote hg1 hb.size
  refine sqv hf (r_assign rfl) rfl rfl rfl ?_; clear hf fa; intro fa hf
  apply wpList_nil
  (try simp only [Exit.then, Exit.inBlock, ↓reduceIte, Nat.reduceEqDiff])
  refine hK3 _ _ ?_
  refine wp_seq_k (fun K4 hK4 => ?_)
  refine wp_region_lit ?_
  refine sqv hf (r_move rfl) rfl rfl rfl ?_; clear hf fa; intro fa hf
  refine sqdt hf (d_callS (vs := [(.int .u8 bx)]) rfl Try.func46 (by kernel_rfl) (by kernel_rfl) (tval_any bx _)) rfl rfl rfl ?_; clear hf fa; rintro fa _ _ ⟨rfl, rfl⟩ hf
  refine sqv hf (r_assign rfl) rfl rfl rfl ?_; clear hf fa; intro fa hf
  apply wpList_nil
  (try simp only [Exit.then, Exit.inBlock, ↓reduceIte, Nat.reduceEqDiff])
  refine hK4 _ _ ?_
  refine wp_seq_k (fun K5 hK5 => ?_)
  refine wp_region_lit ?_
  refine sqv hf (r_move rfl) rfl rfl rfl ?_; clear hf fa; intro fa hf
  refine sqv hf (r_eq rfl rfl) rfl rfl rfl ?_; clear hf fa; intro fa hf
  refine sqv hf (r_move rfl) rfl rfl rfl ?_; clear hf fa; intro fa hf
  refine sqv hf (r_move rfl) rfl rfl rfl ?_; clear hf fa; intro fa hf
  refine sqdt hf (d_callB (vs := [(.bool (decide (((tvalP bx)) = (0 : Int)))), (.int .i64 ((tvalP bx))), (.int .i64 ((p : Nat) : Int))]) rfl Try.func118 (by kernel_rfl) (by kernel_rfl) (unless_any (decide (((tvalP bx)) = (0 : Int))) ((tvalP bx)) ((p : Nat) : Int) _ (by first | rfl | assumption | (simp; done) | (simp; omega)))) rfl rfl rfl ?_; clear hf fa; rintro fa _ w2 ⟨rfl, he1⟩ hf
  replace hk1 := blk_ext hk1 he1
  replace hr0 := Row.ext hr0 he1
  replace hb := hb.trans (Below.mono he1 hb.size)
  apply wpList_nil
  (try simp only [Exit.then, Exit.inBlock, ↓reduceIte, Nat.reduceEqDiff])
  refine hK5 _ _ ?_
  refine wp_seq_k (fun K6 hK6 => ?_)
  refine wp_region_lit ?_
  refine sqv hf (r_move rfl) rfl rfl rfl ?_; clear hf fa; intro fa hf
  refine sqv hf (r_assign rfl) rfl rfl rfl ?_; clear hf fa; intro fa hf
  apply wpList_nil
  (try simp only [Exit.then, Exit.inBlock, ↓reduceIte, Nat.reduceEqDiff])
  refine hK6 _ _ ?_
  refine wp_ret ?_
  (try simp only [Exit.then, Exit.inBlock])
  refine ret1 hf rfl rfl ?_
  exact ⟨rfl, hk1, hb.grown⟩

set_option maxHeartbeats 1000000 in
set_option maxRecDepth 100000 in
theorem limF_any (bs base p : Nat) (a : Option Addr) (c : Nat) (l : List Int) (w : World) (hks : w.heap[bs]? = some (.cells #[(.slice a l.length c), (.int .i64 ((p : Nat) : Int))] 161 (0, 0))) (hr0 : Row 1 (vInt .u8) 5 base w (.slice a l.length c) l) (hp : p ≤ l.length) (hb6 : ∀ y ∈ l, 0 ≤ y ∧ y < 256) (hlm : l.length ≤ 1000000) (ux : Nat) (hA : At l p ([(0 : Int)] ++ uL ux)) (hx : ux < 4294967296) : Calls Try.prog 64 #[(.pointer (some ⟨bs, 0, none⟩))] w fun e w' => e = .returned (.agg #[.int .u32 ((ux : Nat) : Int), .int .u32 0, .bool false]) ∧ Wrote w bs #[(.slice a l.length c), (.int .i64 (((p + 1 + (uL ux).length) : Nat) : Int))] 161 w' := by
  have hcap := Row.caps hr0; have hR0lt := fun q hq => (Row.lt hr0 q hq).2; have hle := hA.le; simp only [List.length_append, List.length_cons, List.length_nil] at hle
  refine sx_enter (L := [(0, (.pointer (some ⟨bs, 0, none⟩)))]) Try.func64 rfl rfl rfl rfl (fun fa hf => ?_)
  have hb : KB bs w.heap.size w w := KB.refl _ _ _
  refine wp_seq_k (fun K1 hK1 => ?_)
  refine wp_region_lit ?_
  refine sqdt hf (d_alloc (z := (.agg #[(.int .u32 (0 : Int)), (.int .u32 (0 : Int)), (.bool false)])) (cs := #[(.int .u32 (0 : Int)), (.int .u32 (0 : Int)), (.bool false)]) (by kernel_rfl) rfl) rfl rfl rfl ?_; clear hf fa; rintro fa _ w1 ⟨b1, rfl, hle1, hk1, he1⟩ hf
  have hBb1 : w.heap.size ≤ b1 := Nat.le_trans hb.size hle1
  have : bs < b1 := Nat.lt_of_lt_of_le (blk_lt hks) hle1
  replace hks := blk_ext hks he1
  replace hr0 := Row.ext hr0 he1
  replace hb := hb.trans (Below.mono he1 hb.size)
  apply wpList_nil
  (try simp only [Exit.then, Exit.inBlock, ↓reduceIte, Nat.reduceEqDiff])
  refine hK1 _ _ ?_
  refine wp_seq_k (fun K2 hK2 => ?_)
  refine wp_region_lit ?_
  refine sqv hf (r_move rfl) rfl rfl rfl ?_; clear hf fa; intro fa hf
  refine sqv hf (r_nilCheck rfl) rfl rfl rfl ?_; clear hf fa; intro fa hf
  refine sqv hf (r_fa rfl Try.underlying161 (f := 1) (q := 1) rfl (by kernel_rfl) rfl) rfl rfl rfl ?_; clear hf fa; intro fa hf
  refine sqv hf (r_load (v := (.int .i64 ((p : Nat) : Int))) rfl Try.underlying3 rfl (cell_blk hks rfl)) rfl rfl rfl ?_; clear hf fa; intro fa hf
  refine sqv hf (r_assign rfl) rfl rfl rfl ?_; clear hf fa; intro fa hf
  apply wpList_nil
  (try simp only [Exit.then, Exit.inBlock, ↓reduceIte, Nat.reduceEqDiff])
  refine hK2 _ _ ?_
  refine wp_seq_k (fun K3 hK3 => ?_)
  refine wp_seq_k (fun K4 hK4 => ?_)
  refine wp_region_lit ?_
  refine sqv hf (r_move rfl) rfl rfl rfl ?_; clear hf fa; intro fa hf
  refine sqdt hf (d_callW (v := (.int .u8 0)) (b := bs) (T := 161) (cs := #[(.slice a l.length c), (.int .i64 (((p + 1) : Nat) : Int))]) (vs := [(.pointer (some ⟨bs, 0, none⟩))]) rfl Try.func61 (by kernel_rfl) (by kernel_rfl) (sbyte_any bs base p a c l _ hks hr0 (by omega) 0 (At.head hA))) rfl rfl rfl ?_; clear hf fa; rintro fa _ w2 ⟨rfl, hk2, hg1⟩ hf
  replace hk1 := blk_grown hk1 hg1 (by omega)
  replace hr0 := Row.grown hr0 hg1 (Row.ne_type hr0 hks rfl)
  replace hb := hb.wrote hg1 hb.size
  apply wpList_nil
  (try simp only [Exit.then, Exit.inBlock, ↓reduceIte, Nat.reduceEqDiff])
  refine hK4 _ _ ?_
  refine wp_block ?_
  refine wp_seq_k (fun K5 hK5 => ?_)
  refine wp_region_lit ?_
  refine sqv hf (r_eq rfl rfl) rfl rfl rfl ?_; clear hf fa; intro fa hf
  refine sqv hf (r_assign rfl) rfl rfl rfl ?_; clear hf fa; intro fa hf
  apply wpList_nil
  (try simp only [Exit.then, Exit.inBlock, ↓reduceIte, Nat.reduceEqDiff])
  refine hK5 _ _ ?_
  refine wp_cond_true ((hf.ev rfl).trans (congrArg Value.bool (show (decide (0 = (0 : Int))) = true from rfl))) ?_
  refine wp_seq_k (fun K6 hK6 => ?_)
  refine wp_region_lit ?_
  refine sqv hf (r_move rfl) rfl rfl rfl ?_; clear hf fa; intro fa hf
  refine sqdt hf (d_callW (v := (.int .u32 ((ux : Nat) : Int))) (b := bs) (T := 161) (cs := #[(.slice a l.length c), (.int .i64 (((((p + 1)) + (uL ux).length) : Nat) : Int))]) (vs := [(.pointer (some ⟨bs, 0, none⟩))]) rfl Try.func121 (by kernel_rfl) (by kernel_rfl) (index_any bs base ((p + 1)) a c l _ hk2 hr0 (by omega) hb6 hlm ux (At.tail hA) (by omega))) rfl rfl rfl ?_; clear hf fa; rintro fa _ w3 ⟨rfl, hk3, hg2⟩ hf
  replace hk1 := blk_grown hk1 hg2 (by omega)
  replace hr0 := Row.grown hr0 hg2 (Row.ne_type hr0 hk2 rfl)
  replace hb := hb.wrote hg2 hb.size
  refine sqv hf (r_build (vs := [(0, (.int .u32 ((ux : Nat) : Int)))]) (cs := #[(.int .u32 ((ux : Nat) : Int)), (.int .u32 (0 : Int)), (.bool false)]) rfl (fun _ => by kernel_rfl)) rfl rfl rfl ?_; clear hf fa; intro fa hf
  refine sqn hf (d_storeK (T := 43) (v := (.agg #[(.int .u32 ((ux : Nat) : Int)), (.int .u32 (0 : Int)), (.bool false)])) (cs := #[(.int .u32 (0 : Int)), (.int .u32 (0 : Int)), (.bool false)]) (cs' := #[(.int .u32 ((ux : Nat) : Int)), (.int .u32 (0 : Int)), (.bool false)]) rfl rfl (by kernel_rfl) (by kernel_rfl) hk1 (by kernel_rfl) (by kernel_rfl)) rfl rfl ?_; clear hf fa; rintro fa _ w4 ⟨hk4, hg3⟩ hf
  replace hk3 := blk_grown hk3 hg3 (by omega)
  replace hr0 := Row.grown hr0 hg3 (Row.ne_type hr0 hk1 rfl)
  replace hb := hb.trans (grown_below hg3 hb.size hBb1)
  apply wpList_nil
  (try simp only [Exit.then, Exit.inBlock, ↓reduceIte, Nat.reduceEqDiff])
  refine hK6 _ _ ?_
  refine wp_ret ?_
  (try simp only [Exit.then, Exit.inBlock])
  refine retC hf rfl rfl hk4 Try.underlying43 rfl (by kernel_rfl) ?_
  exact ⟨rfl, hk3, hb.grown⟩

set_option maxHeartbeats 1000000 in
set_option maxRecDepth 100000 in
theorem limT_any (bs base p : Nat) (a : Option Addr) (c : Nat) (l : List Int) (w : World) (hks : w.heap[bs]? = some (.cells #[(.slice a l.length c), (.int .i64 ((p : Nat) : Int))] 161 (0, 0))) (hr0 : Row 1 (vInt .u8) 5 base w (.slice a l.length c) l) (hp : p ≤ l.length) (hb6 : ∀ y ∈ l, 0 ≤ y ∧ y < 256) (hlm : l.length ≤ 1000000) (ux uy : Nat) (hA : At l p ([(1 : Int)] ++ uL ux ++ uL uy)) (hx : ux < 4294967296) (hy : uy < 4294967296) : Calls Try.prog 64 #[(.pointer (some ⟨bs, 0, none⟩))] w fun e w' => e = .returned (.agg #[.int .u32 ((ux : Nat) : Int), .int .u32 ((uy : Nat) : Int), .bool true]) ∧ Wrote w bs #[(.slice a l.length c), (.int .i64 (((p + 1 + (uL ux).length + (uL uy).length) : Nat) : Int))] 161 w' := by
  have hcap := Row.caps hr0; have hR0lt := fun q hq => (Row.lt hr0 q hq).2; have hle := hA.le; simp only [List.length_append, List.length_cons, List.length_nil] at hle
  refine sx_enter (L := [(0, (.pointer (some ⟨bs, 0, none⟩)))]) Try.func64 rfl rfl rfl rfl (fun fa hf => ?_)
  have hb : KB bs w.heap.size w w := KB.refl _ _ _
  refine wp_seq_k (fun K1 hK1 => ?_)
  refine wp_region_lit ?_
  refine sqdt hf (d_alloc (z := (.agg #[(.int .u32 (0 : Int)), (.int .u32 (0 : Int)), (.bool false)])) (cs := #[(.int .u32 (0 : Int)), (.int .u32 (0 : Int)), (.bool false)]) (by kernel_rfl) rfl) rfl rfl rfl ?_; clear hf fa; rintro fa _ w1 ⟨b1, rfl, hle1, hk1, he1⟩ hf
  have hBb1 : w.heap.size ≤ b1 := Nat.le_trans hb.size hle1
  have : bs < b1 := Nat.lt_of_lt_of_le (blk_lt hks) hle1
  replace hks := blk_ext hks he1
  replace hr0 := Row.ext hr0 he1
  replace hb := hb.trans (Below.mono he1 hb.size)
  apply wpList_nil
  (try simp only [Exit.then, Exit.inBlock, ↓reduceIte, Nat.reduceEqDiff])
  refine hK1 _ _ ?_
  refine wp_seq_k (fun K2 hK2 => ?_)
  refine wp_region_lit ?_
  refine sqv hf (r_move rfl) rfl rfl rfl ?_; clear hf fa; intro fa hf
  refine sqv hf (r_nilCheck rfl) rfl rfl rfl ?_; clear hf fa; intro fa hf
  refine sqv hf (r_fa rfl Try.underlying161 (f := 1) (q := 1) rfl (by kernel_rfl) rfl) rfl rfl rfl ?_; clear hf fa; intro fa hf
  refine sqv hf (r_load (v := (.int .i64 ((p : Nat) : Int))) rfl Try.underlying3 rfl (cell_blk hks rfl)) rfl rfl rfl ?_; clear hf fa; intro fa hf
  refine sqv hf (r_assign rfl) rfl rfl rfl ?_; clear hf fa; intro fa hf
  apply wpList_nil
  (try simp only [Exit.then, Exit.inBlock, ↓reduceIte, Nat.reduceEqDiff])
  refine hK2 _ _ ?_
  refine wp_seq_k (fun K3 hK3 => ?_)
  refine wp_seq_k (fun K4 hK4 => ?_)
  refine wp_region_lit ?_
  refine sqv hf (r_move rfl) rfl rfl rfl ?_; clear hf fa; intro fa hf
  refine sqdt hf (d_callW (v := (.int .u8 1)) (b := bs) (T := 161) (cs := #[(.slice a l.length c), (.int .i64 (((p + 1) : Nat) : Int))]) (vs := [(.pointer (some ⟨bs, 0, none⟩))]) rfl Try.func61 (by kernel_rfl) (by kernel_rfl) (sbyte_any bs base p a c l _ hks hr0 (by omega) 1 (At.head hA))) rfl rfl rfl ?_; clear hf fa; rintro fa _ w2 ⟨rfl, hk2, hg1⟩ hf
  replace hk1 := blk_grown hk1 hg1 (by omega)
  replace hr0 := Row.grown hr0 hg1 (Row.ne_type hr0 hks rfl)
  replace hb := hb.wrote hg1 hb.size
  apply wpList_nil
  (try simp only [Exit.then, Exit.inBlock, ↓reduceIte, Nat.reduceEqDiff])
  refine hK4 _ _ ?_
  refine wp_block ?_
  refine wp_seq_k (fun K5 hK5 => ?_)
  refine wp_region_lit ?_
  refine sqv hf (r_eq rfl rfl) rfl rfl rfl ?_; clear hf fa; intro fa hf
  refine sqv hf (r_assign rfl) rfl rfl rfl ?_; clear hf fa; intro fa hf
  apply wpList_nil
  (try simp only [Exit.then, Exit.inBlock, ↓reduceIte, Nat.reduceEqDiff])
  refine hK5 _ _ ?_
  refine wp_cond_false ((hf.ev rfl).trans (congrArg Value.bool (show (decide (1 = (0 : Int))) = false from rfl))) ?_
  refine wp_seq_k (fun K6 hK6 => ?_)
  refine wp_region_lit ?_
  refine sqv hf (r_eq rfl rfl) rfl rfl rfl ?_; clear hf fa; intro fa hf
  refine sqv hf (r_assign rfl) rfl rfl rfl ?_; clear hf fa; intro fa hf
  apply wpList_nil
  (try simp only [Exit.then, Exit.inBlock, ↓reduceIte, Nat.reduceEqDiff])
  refine hK6 _ _ ?_
  refine wp_cond_true ((hf.ev rfl).trans (congrArg Value.bool (show (decide (1 = (1 : Int))) = true from rfl))) ?_
  refine wp_seq_k (fun K7 hK7 => ?_)
  refine wp_region_lit ?_
  refine sqv hf (r_move rfl) rfl rfl rfl ?_; clear hf fa; intro fa hf
  refine sqdt hf (d_callW (v := (.int .u32 ((ux : Nat) : Int))) (b := bs) (T := 161) (cs := #[(.slice a l.length c), (.int .i64 (((((p + 1)) + (uL ux).length) : Nat) : Int))]) (vs := [(.pointer (some ⟨bs, 0, none⟩))]) rfl Try.func121 (by kernel_rfl) (by kernel_rfl) (index_any bs base ((p + 1)) a c l _ hk2 hr0 (by omega) hb6 hlm ux (At.fst (At.tail hA)) (by omega))) rfl rfl rfl ?_; clear hf fa; rintro fa _ w3 ⟨rfl, hk3, hg2⟩ hf
  replace hk1 := blk_grown hk1 hg2 (by omega)
  replace hr0 := Row.grown hr0 hg2 (Row.ne_type hr0 hk2 rfl)
  replace hb := hb.wrote hg2 hb.size
  refine sqv hf (r_move rfl) rfl rfl rfl ?_; clear hf fa; intro fa hf
  refine sqdt hf (d_callW (v := (.int .u32 ((uy : Nat) : Int))) (b := bs) (T := 161) (cs := #[(.slice a l.length c), (.int .i64 (((((((p + 1)) + (uL ux).length)) + (uL uy).length) : Nat) : Int))]) (vs := [(.pointer (some ⟨bs, 0, none⟩))]) rfl Try.func121 (by kernel_rfl) (by kernel_rfl) (index_any bs base ((((p + 1)) + (uL ux).length)) a c l _ hk3 hr0 (by omega) hb6 hlm uy (At.snd (At.tail hA)) (by omega))) rfl rfl rfl ?_; clear hf fa; rintro fa _ w4 ⟨rfl, hk4, hg3⟩ hf
  replace hk1 := blk_grown hk1 hg3 (by omega)
  replace hr0 := Row.grown hr0 hg3 (Row.ne_type hr0 hk3 rfl)
  replace hb := hb.wrote hg3 hb.size
  refine sqv hf (r_build (vs := [(0, (.int .u32 ((ux : Nat) : Int))), (1, (.int .u32 ((uy : Nat) : Int))), (2, (.bool true))]) (cs := #[(.int .u32 ((ux : Nat) : Int)), (.int .u32 ((uy : Nat) : Int)), (.bool true)]) rfl (fun _ => by kernel_rfl)) rfl rfl rfl ?_; clear hf fa; intro fa hf
  refine sqn hf (d_storeK (T := 43) (v := (.agg #[(.int .u32 ((ux : Nat) : Int)), (.int .u32 ((uy : Nat) : Int)), (.bool true)])) (cs := #[(.int .u32 (0 : Int)), (.int .u32 (0 : Int)), (.bool false)]) (cs' := #[(.int .u32 ((ux : Nat) : Int)), (.int .u32 ((uy : Nat) : Int)), (.bool true)]) rfl rfl (by kernel_rfl) (by kernel_rfl) hk1 (by kernel_rfl) (by kernel_rfl)) rfl rfl ?_; clear hf fa; rintro fa _ w5 ⟨hk5, hg4⟩ hf
  replace hk4 := blk_grown hk4 hg4 (by omega)
  replace hr0 := Row.grown hr0 hg4 (Row.ne_type hr0 hk1 rfl)
  replace hb := hb.trans (grown_below hg4 hb.size hBb1)
  apply wpList_nil
  (try simp only [Exit.then, Exit.inBlock, ↓reduceIte, Nat.reduceEqDiff])
  refine hK7 _ _ ?_
  refine wp_ret ?_
  (try simp only [Exit.then, Exit.inBlock])
  refine retC hf rfl rfl hk5 Try.underlying43 rfl (by kernel_rfl) ?_
  exact ⟨rfl, hk4, hb.grown⟩

set_option maxHeartbeats 1000000 in
set_option maxRecDepth 100000 in
theorem global_any (bs base p : Nat) (a : Option Addr) (c : Nat) (l : List Int) (w : World) (hks : w.heap[bs]? = some (.cells #[(.slice a l.length c), (.int .i64 ((p : Nat) : Int))] 161 (0, 0))) (hr0 : Row 1 (vInt .u8) 5 base w (.slice a l.length c) l) (hp : p ≤ l.length) (bx bz : Int) (hA : At l p [bx, bz]) (hv : tvalP bx = 0) (hz : bz ≤ 1) : Calls Try.prog 65 #[(.pointer (some ⟨bs, 0, none⟩))] w fun e w' => e = .returned (.agg #[.int .u8 bx, .bool (decide (bz = 1))]) ∧ Wrote w bs #[(.slice a l.length c), (.int .i64 (((p + 1 + 1) : Nat) : Int))] 161 w' := by
  have hcap := Row.caps hr0; have hR0lt := fun q hq => (Row.lt hr0 q hq).2; have hle := hA.le; simp only [List.length_cons, List.length_nil] at hle
  refine sx_enter (L := [(0, (.pointer (some ⟨bs, 0, none⟩)))]) Try.func65 rfl rfl rfl rfl (fun fa hf => ?_)
  have hb : KB bs w.heap.size w w := KB.refl _ _ _
  refine wp_seq_k (fun K1 hK1 => ?_)
  refine wp_region_lit ?_
  refine sqdt hf (d_alloc (z := (.agg #[(.int .u8 (0 : Int)), (.bool false)])) (cs := #[(.int .u8 (0 : Int)), (.bool false)]) (by kernel_rfl) rfl) rfl rfl rfl ?_; clear hf fa; rintro fa _ w1 ⟨b1, rfl, hle1, hk1, he1⟩ hf
  have hBb1 : w.heap.size ≤ b1 := Nat.le_trans hb.size hle1
  have : bs < b1 := Nat.lt_of_lt_of_le (blk_lt hks) hle1
  replace hks := blk_ext hks he1
  replace hr0 := Row.ext hr0 he1
  replace hb := hb.trans (Below.mono he1 hb.size)
  apply wpList_nil
  (try simp only [Exit.then, Exit.inBlock, ↓reduceIte, Nat.reduceEqDiff])
  refine hK1 _ _ ?_
  refine wp_seq_k (fun K2 hK2 => ?_)
  refine wp_region_lit ?_
  refine sqv hf (r_move rfl) rfl rfl rfl ?_; clear hf fa; intro fa hf
  refine sqdt hf (d_callW (v := (.int .u8 bx)) (b := bs) (T := 161) (cs := #[(.slice a l.length c), (.int .i64 (((p + 1) : Nat) : Int))]) (vs := [(.pointer (some ⟨bs, 0, none⟩))]) rfl Try.func123 (by kernel_rfl) (by kernel_rfl) (valtype_any bs base p a c l _ hks hr0 (by omega) bx (At.head hA) hv)) rfl rfl rfl ?_; clear hf fa; rintro fa _ w2 ⟨rfl, hk2, hg1⟩ hf
  replace hk1 := blk_grown hk1 hg1 (by omega)
  replace hr0 := Row.grown hr0 hg1 (Row.ne_type hr0 hks rfl)
  replace hb := hb.wrote hg1 hb.size
  refine sqv hf (r_assign rfl) rfl rfl rfl ?_; clear hf fa; intro fa hf
  apply wpList_nil
  (try simp only [Exit.then, Exit.inBlock, ↓reduceIte, Nat.reduceEqDiff])
  refine hK2 _ _ ?_
  refine wp_seq_k (fun K3 hK3 => ?_)
  refine wp_region_lit ?_
  refine sqv hf (r_move rfl) rfl rfl rfl ?_; clear hf fa; intro fa hf
  refine sqv hf (r_nilCheck rfl) rfl rfl rfl ?_; clear hf fa; intro fa hf
  refine sqv hf (r_fa rfl Try.underlying161 (f := 1) (q := 1) rfl (by kernel_rfl) rfl) rfl rfl rfl ?_; clear hf fa; intro fa hf
  refine sqv hf (r_load (v := (.int .i64 (((p + 1) : Nat) : Int))) rfl Try.underlying3 rfl (cell_blk hk2 rfl)) rfl rfl rfl ?_; clear hf fa; intro fa hf
  refine sqv hf (r_assign rfl) rfl rfl rfl ?_; clear hf fa; intro fa hf
  apply wpList_nil
  (try simp only [Exit.then, Exit.inBlock, ↓reduceIte, Nat.reduceEqDiff])
  refine hK3 _ _ ?_
  refine wp_seq_k (fun K4 hK4 => ?_)
  refine wp_region_lit ?_
  refine sqv hf (r_move rfl) rfl rfl rfl ?_; clear hf fa; intro fa hf
  refine sqdt hf (d_callW (v := (.int .u8 bz)) (b := bs) (T := 161) (cs := #[(.slice a l.length c), (.int .i64 (((((p + 1)) + 1) : Nat) : Int))]) (vs := [(.pointer (some ⟨bs, 0, none⟩))]) rfl Try.func61 (by kernel_rfl) (by kernel_rfl) (sbyte_any bs base ((p + 1)) a c l _ hk2 hr0 (by omega) bz (At.head (At.tail hA)))) rfl rfl rfl ?_; clear hf fa; rintro fa _ w3 ⟨rfl, hk3, hg2⟩ hf
  replace hk1 := blk_grown hk1 hg2 (by omega)
  replace hr0 := Row.grown hr0 hg2 (Row.ne_type hr0 hk2 rfl)
  replace hb := hb.wrote hg2 hb.size
  refine sqv hf (r_assign rfl) rfl rfl rfl ?_; clear hf fa; intro fa hf
  apply wpList_nil
  (try simp only [Exit.then, Exit.inBlock, ↓reduceIte, Nat.reduceEqDiff])
  refine hK4 _ _ ?_
  refine wp_seq_k (fun K5 hK5 => ?_)
  refine wp_region_lit ?_
  refine sqv hf (r_move rfl) rfl rfl rfl ?_; clear hf fa; intro fa hf
  refine sqv hf (r_le rfl rfl) rfl rfl rfl ?_; clear hf fa; intro fa hf
  refine sqv hf (r_move rfl) rfl rfl rfl ?_; clear hf fa; intro fa hf
  refine sqdt hf (d_callB (vs := [(.bool (decide (bz ≤ (1 : Int)))), (.int .i64 (10 : Int)), (.int .i64 (((p + 1) : Nat) : Int))]) rfl Try.func118 (by kernel_rfl) (by kernel_rfl) (unless_any (decide (bz ≤ (1 : Int))) (10 : Int) (((p + 1) : Nat) : Int) _ (by first | rfl | assumption | (simp; done) | (simp; omega)))) rfl rfl rfl ?_; clear hf fa; rintro fa _ w4 ⟨rfl, he2⟩ hf
  replace hk3 := blk_ext hk3 he2
  replace hk1 := blk_ext hk1 he2
  replace hr0 := Row.ext hr0 he2
  replace hb := hb.trans (Below.mono he2 hb.size)
  apply wpList_nil
  (try simp only [Exit.then, Exit.inBlock, ↓reduceIte, Nat.reduceEqDiff])
  refine hK5 _ _ ?_
  refine wp_seq_k (fun K6 hK6 => ?_)
  refine wp_region_lit ?_
  refine sqv hf (r_move rfl) rfl rfl rfl ?_; clear hf fa; intro fa hf
  refine sqv hf (r_move rfl) rfl rfl rfl ?_; clear hf fa; intro fa hf
  refine sqv hf (r_eq rfl rfl) rfl rfl rfl ?_; clear hf fa; intro fa hf
  refine sqv hf (r_build (vs := [(0, (.int .u8 bx)), (1, (.bool (decide (bz = (1 : Int)))))]) (cs := #[(.int .u8 bx), (.bool (decide (bz = (1 : Int))))]) rfl (fun _ => by kernel_rfl)) rfl rfl rfl ?_; clear hf fa; intro fa hf
  refine sqn hf (d_storeK (T := 54) (v := (.agg #[(.int .u8 bx), (.bool (decide (bz = (1 : Int))))])) (cs := #[(.int .u8 (0 : Int)), (.bool false)]) (cs' := #[(.int .u8 bx), (.bool (decide (bz = (1 : Int))))]) rfl rfl (by kernel_rfl) (by kernel_rfl) hk1 (by kernel_rfl) (by kernel_rfl)) rfl rfl ?_; clear hf fa; rintro fa _ w5 ⟨hk4, hg3⟩ hf
  replace hk3 := blk_grown hk3 hg3 (by omega)
  replace hr0 := Row.grown hr0 hg3 (Row.ne_type hr0 hk1 rfl)
  replace hb := hb.trans (grown_below hg3 hb.size hBb1)
  apply wpList_nil
  (try simp only [Exit.then, Exit.inBlock, ↓reduceIte, Nat.reduceEqDiff])
  refine hK6 _ _ ?_
  refine wp_ret ?_
  (try simp only [Exit.then, Exit.inBlock])
  refine retC hf rfl rfl hk4 Try.underlying54 rfl (by kernel_rfl) ?_
  exact ⟨rfl, hk3, hb.grown⟩
end Go.Proofs.Ytcmdajkkdognfaa
