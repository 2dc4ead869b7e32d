/- What is proved here: the scanner: bytes. -/
import Derived.Test.YtcmdajkkdognfaaTyL
import Derived.Test.YtcmdajkkdognfaaSxQ
namespace Go.Proofs.Ytcmdajkkdognfaa
open Go.RowKit
set_option linter.unusedVariables false
set_option linter.unusedSimpArgs false

set_option maxHeartbeats 1000000 in
set_option maxRecDepth 100000 in
theorem unless_any (b : Bool) (y t : Int) (w : World) (hbt : b = true) : Calls Try.prog 118 #[(.bool b), (.int .i64 y), (.int .i64 t)] w fun e w' => e = .returned (.tuple #[]) ∧ Below w.heap.size w w' := by
  subst hbt
  refine sx_enter (L := [(0, (.bool true)), (1, (.int .i64 y)), (2, (.int .i64 t))]) Try.func118 rfl rfl rfl rfl (fun fa hf => ?_)
  have hb : Below w.heap.size w w := Below.refl _ _
  refine wp_seq_k (fun K1 hK1 => ?_)
  refine wp_region_lit ?_
  refine sqv hf (r_move rfl) rfl rfl rfl ?_; clear hf fa; intro fa hf
  refine sqv hf (Runs.veq (v' := (.bool false)) (r_not rfl) rfl) rfl rfl rfl ?_; clear hf fa; intro fa hf
  apply wpList_nil
  (try simp only [Exit.then, Exit.inBlock, ↓reduceIte, Nat.reduceEqDiff])
  refine hK1 _ _ ?_
  refine wp_cond_false (hf.ev rfl) ?_
  refine wp_skip ?_
  (try simp only [Exit.then, Exit.inBlock])
  refine end0 hf rfl ?_
  exact ⟨rfl, hb⟩

set_option maxHeartbeats 1000000 in
set_option maxRecDepth 100000 in
theorem left_any (bs base p : Nat) (a : Option Addr) (c : Nat) (l : List Int) (w : World) (hks : w.heap[bs]? = some (.cells #[(.slice a l.length c), (.int .i64 ((p : Nat) : Int))] 161 (0, 0))) (hr0 : Row 1 (vInt .u8) 5 base w (.slice a l.length c) l) (hp : p ≤ l.length)  : Calls Try.prog 67 #[(.pointer (some ⟨bs, 0, none⟩))] w fun e w' => e = .returned (.int .i64 (((l.length : Nat) : Int) - ((p : Nat) : Int))) ∧ Below w.heap.size w w' := by
  have hcap := Row.caps hr0; have hR0lt := fun q hq => (Row.lt hr0 q hq).2
  refine sx_enter (L := [(0, (.pointer (some ⟨bs, 0, none⟩)))]) Try.func67 rfl rfl rfl rfl (fun fa hf => ?_)
  have hb : Below w.heap.size w w := Below.refl _ _
  refine wp_seq_k (fun K1 hK1 => ?_)
  refine wp_region_lit ?_
  refine sqv hf (r_assign rfl) rfl rfl rfl ?_; clear hf fa; intro fa hf
  apply wpList_nil
  (try simp only [Exit.then, Exit.inBlock, ↓reduceIte, Nat.reduceEqDiff])
  refine hK1 _ _ ?_
  refine wp_seq_k (fun K2 hK2 => ?_)
  refine wp_region_un (fun wq => Below w.heap.size w wq) (fun w w' => Below w.heap.size w w')
    (fun V => [(fun x _ => x = (.pointer (some ⟨bs, 0, none⟩))), (fun x _ => x = (.pointer (some ⟨bs, 0, none⟩))), (fun x _ => x = (.pointer (some ⟨bs, 0, none⟩))), (fun x _ => x = (.slice a l.length c)), (fun x _ => x = (.int .i64 ((l.length : Nat) : Int))), (fun x _ => x = (.pointer (some ⟨bs, 0, none⟩))), (fun x _ => x = (.pointer (some ⟨bs, 0, none⟩))), (fun x _ => x = (.pointer (some ⟨bs, 1, none⟩))), (fun x _ => x = (.int .i64 ((p : Nat) : Int))), (fun x _ => x = (.int .i64 (((l.length : Nat) : Int) - ((p : Nat) : Int)))), (fun x _ => x = (.int .i64 (((l.length : Nat) : Int) - ((p : Nat) : Int))))])
    []
    [[], [0], [1], [2], [3], [], [5], [6], [7], [4, 8], [0, 1, 2, 3, 4, 5, 6, 7, 8, 9]]
    hf (by kernel_rfl) (by kernel_rfl) (fun _ => rfl) ((Below.refl _ _).drew) (fun a b h1 h2 => h1.trans (h2.mono h1.size)) (fun _ _ h => h.size) (fun V => ⟨kept_eq, kept_eq, kept_eq, kept_eq, kept_eq, kept_eq, kept_eq, kept_eq, kept_eq, kept_eq, kept_eq, trivial⟩) (fun _ _ _ _ _ => rfl) ?_ ?_
  · skip
    intro V
    refine ⟨fun wu0 hC hd => ?_, ?_⟩
    · clear hd
      replace hb := hb.trans (hC.mono hb.size)
      replace hks := blk_ext hks hC
      replace hr0 := Row.ext hr0 hC
      exact Runs.does (r_move rfl) ⟨Below.refl _ _, rfl, nofr rfl⟩
    refine ⟨fun wu1 hC hd => ?_, ?_⟩
    · obtain ⟨h0, _⟩ := hd
      skip
      replace h0 : V 0 = (.pointer (some ⟨bs, 0, none⟩)) := h0
      replace hb := hb.trans (hC.mono hb.size)
      replace hks := blk_ext hks hC
      replace hr0 := Row.ext hr0 hC
      exact Runs.does (r_nilCheck (congrArg some h0)) ⟨Below.refl _ _, rfl, nofr rfl⟩
    refine ⟨fun wu2 hC hd => ?_, ?_⟩
    · obtain ⟨h1, _⟩ := hd
      skip
      replace h1 : V 1 = (.pointer (some ⟨bs, 0, none⟩)) := h1
      replace hb := hb.trans (hC.mono hb.size)
      replace hks := blk_ext hks hC
      replace hr0 := Row.ext hr0 hC
      exact Runs.does (r_fa (congrArg some h1) Try.underlying161 (f := 0) (q := 0) rfl (by kernel_rfl) rfl) ⟨Below.refl _ _, rfl, nofr rfl⟩
    refine ⟨fun wu3 hC hd => ?_, ?_⟩
    · obtain ⟨h2, _⟩ := hd
      skip
      replace h2 : V 2 = (.pointer (some ⟨bs, 0, none⟩)) := h2
      replace hb := hb.trans (hC.mono hb.size)
      replace hks := blk_ext hks hC
      replace hr0 := Row.ext hr0 hC
      exact Runs.does (r_load (v := (.slice a l.length c)) (congrArg some h2) Try.underlying47 rfl (cell_blk hks rfl)) ⟨Below.refl _ _, rfl, nofr rfl⟩
    refine ⟨fun wu4 hC hd => ?_, ?_⟩
    · obtain ⟨h3, _⟩ := hd
      skip
      replace h3 : V 3 = (.slice a l.length c) := h3
      replace hb := hb.trans (hC.mono hb.size)
      replace hks := blk_ext hks hC
      replace hr0 := Row.ext hr0 hC
      exact Runs.does (r_lensl (congrArg some h3) Try.underlying47) ⟨Below.refl _ _, rfl, nofr rfl⟩
    refine ⟨fun wu5 hC hd => ?_, ?_⟩
    · clear hd
      replace hb := hb.trans (hC.mono hb.size)
      replace hks := blk_ext hks hC
      replace hr0 := Row.ext hr0 hC
      exact Runs.does (r_move rfl) ⟨Below.refl _ _, rfl, nofr rfl⟩
    refine ⟨fun wu6 hC hd => ?_, ?_⟩
    · obtain ⟨h5, _⟩ := hd
      skip
      replace h5 : V 5 = (.pointer (some ⟨bs, 0, none⟩)) := h5
      replace hb := hb.trans (hC.mono hb.size)
      replace hks := blk_ext hks hC
      replace hr0 := Row.ext hr0 hC
      exact Runs.does (r_nilCheck (congrArg some h5)) ⟨Below.refl _ _, rfl, nofr rfl⟩
    refine ⟨fun wu7 hC hd => ?_, ?_⟩
    · obtain ⟨h6, _⟩ := hd
      skip
      replace h6 : V 6 = (.pointer (some ⟨bs, 0, none⟩)) := h6
      replace hb := hb.trans (hC.mono hb.size)
      replace hks := blk_ext hks hC
      replace hr0 := Row.ext hr0 hC
      exact Runs.does (r_fa (congrArg some h6) Try.underlying161 (f := 1) (q := 1) rfl (by kernel_rfl) rfl) ⟨Below.refl _ _, rfl, nofr rfl⟩
    refine ⟨fun wu8 hC hd => ?_, ?_⟩
    · obtain ⟨h7, _⟩ := hd
      skip
      replace h7 : V 7 = (.pointer (some ⟨bs, 1, none⟩)) := h7
      replace hb := hb.trans (hC.mono hb.size)
      replace hks := blk_ext hks hC
      replace hr0 := Row.ext hr0 hC
      exact Runs.does (r_load (v := (.int .i64 ((p : Nat) : Int))) (congrArg some h7) Try.underlying3 rfl (cell_blk hks rfl)) ⟨Below.refl _ _, rfl, nofr rfl⟩
    refine ⟨fun wu9 hC hd => ?_, ?_⟩
    · obtain ⟨h4, h8, _⟩ := hd
      skip
      skip
      replace h4 : V 4 = (.int .i64 ((l.length : Nat) : Int)) := h4
      replace h8 : V 8 = (.int .i64 ((p : Nat) : Int)) := h8
      replace hb := hb.trans (hC.mono hb.size)
      replace hks := blk_ext hks hC
      replace hr0 := Row.ext hr0 hC
      exact Runs.does (r_sub (C := (((l.length : Nat) : Int) - ((p : Nat) : Int))) (congrArg some h4) (congrArg some h8) (by rw [IntKind.wrap_i64]; omega)) ⟨Below.refl _ _, rfl, nofr rfl⟩
    refine ⟨fun wu10 hC hd => ?_, ?_⟩
    · obtain ⟨h0, h1, h2, h3, h4, h5, h6, h7, h8, h9, _⟩ := hd
      skip
      skip
      skip
      skip
      skip
      skip
      skip
      skip
      skip
      skip
      replace h0 : V 0 = (.pointer (some ⟨bs, 0, none⟩)) := h0
      replace h1 : V 1 = (.pointer (some ⟨bs, 0, none⟩)) := h1
      replace h2 : V 2 = (.pointer (some ⟨bs, 0, none⟩)) := h2
      replace h3 : V 3 = (.slice a l.length c) := h3
      replace h4 : V 4 = (.int .i64 ((l.length : Nat) : Int)) := h4
      replace h5 : V 5 = (.pointer (some ⟨bs, 0, none⟩)) := h5
      replace h6 : V 6 = (.pointer (some ⟨bs, 0, none⟩)) := h6
      replace h7 : V 7 = (.pointer (some ⟨bs, 1, none⟩)) := h7
      replace h8 : V 8 = (.int .i64 ((p : Nat) : Int)) := h8
      replace h9 : V 9 = (.int .i64 (((l.length : Nat) : Int) - ((p : Nat) : Int))) := h9
      replace hb := hb.trans (hC.mono hb.size)
      replace hks := blk_ext hks hC
      replace hr0 := Row.ext hr0 hC
      exact Runs.does (r_assign (congrArg some h9)) ⟨Below.refl _ _, rfl, nofr rfl⟩
    trivial
  · skip
    clear hf fa; intro V w1 fa he1 hp hnb hf
    have hv0 : V 0 = (.pointer (some ⟨bs, 0, none⟩)) := postsHold_at hp 0 rfl
    have hv1 : V 1 = (.pointer (some ⟨bs, 0, none⟩)) := postsHold_at hp 1 rfl
    have hv2 : V 2 = (.pointer (some ⟨bs, 0, none⟩)) := postsHold_at hp 2 rfl
    have hv3 : V 3 = (.slice a l.length c) := postsHold_at hp 3 rfl
    have hv4 : V 4 = (.int .i64 ((l.length : Nat) : Int)) := postsHold_at hp 4 rfl
    have hv5 : V 5 = (.pointer (some ⟨bs, 0, none⟩)) := postsHold_at hp 5 rfl
    have hv6 : V 6 = (.pointer (some ⟨bs, 0, none⟩)) := postsHold_at hp 6 rfl
    have hv7 : V 7 = (.pointer (some ⟨bs, 1, none⟩)) := postsHold_at hp 7 rfl
    have hv8 : V 8 = (.int .i64 ((p : Nat) : Int)) := postsHold_at hp 8 rfl
    have hv9 : V 9 = (.int .i64 (((l.length : Nat) : Int) - ((p : Nat) : Int))) := postsHold_at hp 9 rfl
    have hv10 : V 10 = (.int .i64 (((l.length : Nat) : Int) - ((p : Nat) : Int))) := postsHold_at hp 10 rfl
    simp only [List.take_succ_cons, List.take_zero, insAll, ins, hv0, hv1, hv2, hv3, hv4, hv5, hv6, hv7, hv8, hv9, hv10] at hf
    clear hp hnb hv0 hv1 hv2 hv3 hv4 hv5 hv6 hv7 hv8 hv9 hv10
    replace hks := blk_ext hks he1
    replace hr0 := Row.ext hr0 he1
    replace hb := hb.trans (Below.mono he1 hb.size)
    (try simp only [Exit.then, Exit.inBlock, ↓reduceIte, Nat.reduceEqDiff])
    refine hK2 _ _ ?_
    refine wp_ret ?_
    (try simp only [Exit.then, Exit.inBlock])
    refine ret1 hf rfl rfl ?_
    exact ⟨rfl, hb⟩

set_option maxHeartbeats 1000000 in
set_option maxRecDepth 100000 in
theorem done_any (bs base p : Nat) (a : Option Addr) (c : Nat) (l : List Int) (w : World) (hks : w.heap[bs]? = some (.cells #[(.slice a l.length c), (.int .i64 ((p : Nat) : Int))] 161 (0, 0))) (hr0 : Row 1 (vInt .u8) 5 base w (.slice a l.length c) l) (hp : p ≤ l.length)  : Calls Try.prog 116 #[(.pointer (some ⟨bs, 0, none⟩))] w fun e w' => e = .returned (.bool (decide (((l.length : Nat) : Int) - ((p : Nat) : Int) = (0 : Int)))) ∧ Below w.heap.size w w' := by
  have hcap := Row.caps hr0; have hR0lt := fun q hq => (Row.lt hr0 q hq).2
  refine sx_enter (L := [(0, (.pointer (some ⟨bs, 0, none⟩)))]) Try.func116 rfl rfl rfl rfl (fun fa hf => ?_)
  have hb : Below w.heap.size w w := Below.refl _ _
  refine wp_seq_k (fun K1 hK1 => ?_)
  refine wp_region_lit ?_
  refine sqv hf (r_assign rfl) rfl rfl rfl ?_; clear hf fa; intro fa hf
  apply wpList_nil
  (try simp only [Exit.then, Exit.inBlock, ↓reduceIte, Nat.reduceEqDiff])
  refine hK1 _ _ ?_
  refine wp_seq_k (fun K2 hK2 => ?_)
  refine wp_region_lit ?_
  refine sqv hf (r_move rfl) rfl rfl rfl ?_; clear hf fa; intro fa hf
  refine sqdt hf (d_callB (vs := [(.pointer (some ⟨bs, 0, none⟩))]) rfl Try.func67 (by kernel_rfl) (by kernel_rfl) (left_any bs base p a c l _ hks hr0 (by omega))) rfl rfl rfl ?_; clear hf fa; rintro fa _ w1 ⟨rfl, he1⟩ hf
  replace hks := blk_ext hks he1
  replace hr0 := Row.ext hr0 he1
  replace hb := hb.trans (Below.mono he1 hb.size)
  refine sqv hf (r_eq rfl rfl) rfl rfl rfl ?_; clear hf fa; intro fa hf
  refine sqv hf (r_assign rfl) rfl rfl rfl ?_; clear hf fa; intro fa hf
  apply wpList_nil
  (try simp only [Exit.then, Exit.inBlock, ↓reduceIte, Nat.reduceEqDiff])
  refine hK2 _ _ ?_
  refine wp_ret ?_
  (try simp only [Exit.then, Exit.inBlock])
  refine ret1 hf rfl rfl ?_
  exact ⟨rfl, hb⟩

set_option maxHeartbeats 1000000 in
set_option maxRecDepth 100000 in
theorem at_any (bs base p : Nat) (a : Option Addr) (c : Nat) (l : List Int) (w : World) (hks : w.heap[bs]? = some (.cells #[(.slice a l.length c), (.int .i64 ((p : Nat) : Int))] 161 (0, 0))) (hr0 : Row 1 (vInt .u8) 5 base w (.slice a l.length c) l) (hp : p ≤ l.length)  : Calls Try.prog 126 #[(.pointer (some ⟨bs, 0, none⟩))] w fun e w' => e = .returned (.int .i64 ((p : Nat) : Int)) ∧ Below w.heap.size w w' := by
  have hcap := Row.caps hr0; have hR0lt := fun q hq => (Row.lt hr0 q hq).2
  refine sx_enter (L := [(0, (.pointer (some ⟨bs, 0, none⟩)))]) Try.func126 rfl rfl rfl rfl (fun fa hf => ?_)
  have hb : Below w.heap.size w w := Below.refl _ _
  refine wp_seq_k (fun K1 hK1 => ?_)
  refine wp_region_lit ?_
  refine sqv hf (r_assign rfl) rfl rfl rfl ?_; clear hf fa; intro fa hf
  apply wpList_nil
  (try simp only [Exit.then, Exit.inBlock, ↓reduceIte, Nat.reduceEqDiff])
  refine hK1 _ _ ?_
  refine wp_seq_k (fun K2 hK2 => ?_)
  refine wp_region_lit ?_
  refine sqv hf (r_move rfl) rfl rfl rfl ?_; clear hf fa; intro fa hf
  refine sqv hf (r_nilCheck rfl) rfl rfl rfl ?_; clear hf fa; intro fa hf
  refine sqv hf (r_fa rfl Try.underlying161 (f := 1) (q := 1) rfl (by kernel_rfl) rfl) rfl rfl rfl ?_; clear hf fa; intro fa hf
  refine sqv hf (r_load (v := (.int .i64 ((p : Nat) : Int))) rfl Try.underlying3 rfl (cell_blk hks rfl)) rfl rfl rfl ?_; clear hf fa; intro fa hf
  refine sqv hf (r_assign rfl) rfl rfl rfl ?_; clear hf fa; intro fa hf
  apply wpList_nil
  (try simp only [Exit.then, Exit.inBlock, ↓reduceIte, Nat.reduceEqDiff])
  refine hK2 _ _ ?_
  refine wp_ret ?_
  (try simp only [Exit.then, Exit.inBlock])
  refine ret1 hf rfl rfl ?_
  exact ⟨rfl, hb⟩

set_option maxHeartbeats 1000000 in
set_option maxRecDepth 100000 in
theorem end_any (bs base p : Nat) (a : Option Addr) (c : Nat) (l : List Int) (w : World) (hks : w.heap[bs]? = some (.cells #[(.slice a l.length c), (.int .i64 ((p : Nat) : Int))] 161 (0, 0))) (hr0 : Row 1 (vInt .u8) 5 base w (.slice a l.length c) l) (hp : p ≤ l.length) (hpe : p = l.length) : Calls Try.prog 66 #[(.pointer (some ⟨bs, 0, none⟩))] w fun e w' => e = .returned (.tuple #[]) ∧ Below w.heap.size w w' := by
  have hcap := Row.caps hr0; have hR0lt := fun q hq => (Row.lt hr0 q hq).2
  refine sx_enter (L := [(0, (.pointer (some ⟨bs, 0, none⟩)))]) Try.func66 rfl rfl rfl rfl (fun fa hf => ?_)
  have hb : Below w.heap.size w w := Below.refl _ _
  refine wp_region_un (fun wq => Below w.heap.size w wq) (fun w w' => Below w.heap.size w w')
    (fun V => [(fun x _ => x = (.pointer (some ⟨bs, 0, none⟩))), (fun x _ => x = (.bool (decide (((l.length : Nat) : Int) - ((p : Nat) : Int) = (0 : Int))))), (fun x _ => x = (.pointer (some ⟨bs, 0, none⟩))), (fun x _ => x = (.pointer (some ⟨bs, 0, none⟩))), (fun x _ => x = (.pointer (some ⟨bs, 1, none⟩))), (fun x _ => x = (.int .i64 ((p : Nat) : Int))), (fun x _ => x = (.tuple #[]))])
    []
    [[], [0], [], [2], [3], [4], [1, 5]]
    hf (by kernel_rfl) (by kernel_rfl) (fun _ => rfl) ((Below.refl _ _).drew) (fun a b h1 h2 => h1.trans (h2.mono h1.size)) (fun _ _ h => h.size) (fun V => ⟨kept_eq, kept_eq, kept_eq, kept_eq, kept_eq, kept_eq, kept_eq, trivial⟩) (fun _ _ _ _ _ => rfl) ?_ ?_
  · skip
    intro V
    refine ⟨fun wu0 hC hd => ?_, ?_⟩
    · clear hd
      replace hb := hb.trans (hC.mono hb.size)
      replace hks := blk_ext hks hC
      replace hr0 := Row.ext hr0 hC
      exact Runs.does (r_move rfl) ⟨Below.refl _ _, rfl, nofr rfl⟩
    refine ⟨fun wu1 hC hd => ?_, ?_⟩
    · obtain ⟨h0, _⟩ := hd
      skip
      replace h0 : V 0 = (.pointer (some ⟨bs, 0, none⟩)) := h0
      replace hb := hb.trans (hC.mono hb.size)
      replace hks := blk_ext hks hC
      replace hr0 := Row.ext hr0 hC
      refine Does.mono (d_callB (vs := [(.pointer (some ⟨bs, 0, none⟩))]) (show [some (V 0)] = [some (.pointer (some ⟨bs, 0, none⟩))] from by rw [h0]) Try.func116 (by kernel_rfl) (by kernel_rfl) (done_any bs base p a c l _ hks hr0 (by omega))) (fun _ _ h => ⟨h.2, h.1, nofr rfl⟩)
    refine ⟨fun wu2 hC hd => ?_, ?_⟩
    · clear hd
      replace hb := hb.trans (hC.mono hb.size)
      replace hks := blk_ext hks hC
      replace hr0 := Row.ext hr0 hC
      exact Runs.does (r_move rfl) ⟨Below.refl _ _, rfl, nofr rfl⟩
    refine ⟨fun wu3 hC hd => ?_, ?_⟩
    · obtain ⟨h2, _⟩ := hd
      skip
      replace h2 : V 2 = (.pointer (some ⟨bs, 0, none⟩)) := h2
      replace hb := hb.trans (hC.mono hb.size)
      replace hks := blk_ext hks hC
      replace hr0 := Row.ext hr0 hC
      exact Runs.does (r_nilCheck (congrArg some h2)) ⟨Below.refl _ _, rfl, nofr rfl⟩
    refine ⟨fun wu4 hC hd => ?_, ?_⟩
    · obtain ⟨h3, _⟩ := hd
      skip
      replace h3 : V 3 = (.pointer (some ⟨bs, 0, none⟩)) := h3
      replace hb := hb.trans (hC.mono hb.size)
      replace hks := blk_ext hks hC
      replace hr0 := Row.ext hr0 hC
      exact Runs.does (r_fa (congrArg some h3) Try.underlying161 (f := 1) (q := 1) rfl (by kernel_rfl) rfl) ⟨Below.refl _ _, rfl, nofr rfl⟩
    refine ⟨fun wu5 hC hd => ?_, ?_⟩
    · obtain ⟨h4, _⟩ := hd
      skip
      replace h4 : V 4 = (.pointer (some ⟨bs, 1, none⟩)) := h4
      replace hb := hb.trans (hC.mono hb.size)
      replace hks := blk_ext hks hC
      replace hr0 := Row.ext hr0 hC
      exact Runs.does (r_load (v := (.int .i64 ((p : Nat) : Int))) (congrArg some h4) Try.underlying3 rfl (cell_blk hks rfl)) ⟨Below.refl _ _, rfl, nofr rfl⟩
    refine ⟨fun wu6 hC hd => ?_, ?_⟩
    · obtain ⟨h1, h5, _⟩ := hd
      skip
      skip
      replace h1 : V 1 = (.bool (decide (((l.length : Nat) : Int) - ((p : Nat) : Int) = (0 : Int)))) := h1
      replace h5 : V 5 = (.int .i64 ((p : Nat) : Int)) := h5
      replace hb := hb.trans (hC.mono hb.size)
      replace hks := blk_ext hks hC
      replace hr0 := Row.ext hr0 hC
      refine Does.mono (d_callB (vs := [(.bool (decide (((l.length : Nat) : Int) - ((p : Nat) : Int) = (0 : Int)))), (.int .i64 (14 : Int)), (.int .i64 ((p : Nat) : Int))]) (show [some (V 1), some (.int .i64 (14 : Int)), some (V 5)] = [some (.bool (decide (((l.length : Nat) : Int) - ((p : Nat) : Int) = (0 : Int)))), some (.int .i64 (14 : Int)), some (.int .i64 ((p : Nat) : Int))] from by rw [h1, h5]) Try.func118 (by kernel_rfl) (by kernel_rfl) (unless_any (decide (((l.length : Nat) : Int) - ((p : Nat) : Int) = (0 : Int))) (14 : Int) ((p : Nat) : Int) _ (by first | rfl | assumption | (simp; done) | (simp; omega)))) (fun _ _ h => ⟨h.2, h.1, nofr rfl⟩)
    trivial
  · skip
    clear hf fa; intro V w1 fa he1 hp hnb hf
    have hv0 : V 0 = (.pointer (some ⟨bs, 0, none⟩)) := postsHold_at hp 0 rfl
    have hv1 : V 1 = (.bool (decide (((l.length : Nat) : Int) - ((p : Nat) : Int) = (0 : Int)))) := postsHold_at hp 1 rfl
    have hv2 : V 2 = (.pointer (some ⟨bs, 0, none⟩)) := postsHold_at hp 2 rfl
    have hv3 : V 3 = (.pointer (some ⟨bs, 0, none⟩)) := postsHold_at hp 3 rfl
    have hv4 : V 4 = (.pointer (some ⟨bs, 1, none⟩)) := postsHold_at hp 4 rfl
    have hv5 : V 5 = (.int .i64 ((p : Nat) : Int)) := postsHold_at hp 5 rfl
    have hv6 : V 6 = (.tuple #[]) := postsHold_at hp 6 rfl
    simp only [List.take_succ_cons, List.take_zero, insAll, ins, hv0, hv1, hv2, hv3, hv4, hv5, hv6] at hf
    clear hp hnb hv0 hv1 hv2 hv3 hv4 hv5 hv6
    replace hks := blk_ext hks he1
    replace hr0 := Row.ext hr0 he1
    replace hb := hb.trans (Below.mono he1 hb.size)
    (try simp only [Exit.then, Exit.inBlock])
    refine end0 hf rfl ?_
    exact ⟨rfl, hb⟩

set_option maxHeartbeats 1000000 in
set_option maxRecDepth 100000 in
theorem sbyte_any (bs base p : Nat) (a : Option Addr) (c : Nat) (l : List Int) (w : World) (hks : w.heap[bs]? = some (.cells #[(.slice a l.length c), (.int .i64 ((p : Nat) : Int))] 161 (0, 0))) (hr0 : Row 1 (vInt .u8) 5 base w (.slice a l.length c) l) (hp : p ≤ l.length) (bx : Int) (hx : l[p]? = some bx) : Calls Try.prog 61 #[(.pointer (some ⟨bs, 0, none⟩))] w fun e w' => e = .returned (.int .u8 bx) ∧ Wrote w bs #[(.slice a l.length c), (.int .i64 (((p + 1) : Nat) : Int))] 161 w' := by
  have hcap := Row.caps hr0; have hR0lt := fun q hq => (Row.lt hr0 q hq).2; have hpl := (List.getElem?_eq_some_iff.1 hx).1
  refine sx_enter (L := [(0, (.pointer (some ⟨bs, 0, none⟩)))]) Try.func61 rfl rfl rfl rfl (fun fa hf => ?_)
  have hb : KB bs w.heap.size w w := KB.refl _ _ _
  refine wp_seq_k (fun K1 hK1 => ?_)
  refine wp_region_lit ?_
  refine sqv hf (r_assign rfl) rfl rfl rfl ?_; clear hf fa; intro fa hf
  apply wpList_nil
  (try simp only [Exit.then, Exit.inBlock, ↓reduceIte, Nat.reduceEqDiff])
  refine hK1 _ _ ?_
  refine wp_seq_k (fun K2 hK2 => ?_)
  refine wp_region_un (fun wq => Below w.heap.size w wq) (fun w w' => Below w.heap.size w w')
    (fun V => [(fun x _ => x = (.pointer (some ⟨bs, 0, none⟩))), (fun x _ => x = (.int .i64 (((l.length : Nat) : Int) - ((p : Nat) : Int)))), (fun x _ => x = (.bool (decide ((0 : Int) < (((l.length : Nat) : Int) - ((p : Nat) : Int)))))), (fun x _ => x = (.pointer (some ⟨bs, 0, none⟩))), (fun x _ => x = (.pointer (some ⟨bs, 0, none⟩))), (fun x _ => x = (.pointer (some ⟨bs, 1, none⟩))), (fun x _ => x = (.int .i64 ((p : Nat) : Int))), (fun x _ => x = (.tuple #[]))])
    []
    [[], [0], [1], [], [3], [4], [5], [1, 2, 6]]
    hf (by kernel_rfl) (by kernel_rfl) (fun _ => rfl) ((Below.refl _ _).drew) (fun a b h1 h2 => h1.trans (h2.mono h1.size)) (fun _ _ h => h.size) (fun V => ⟨kept_eq, kept_eq, kept_eq, kept_eq, kept_eq, kept_eq, kept_eq, kept_eq, trivial⟩) (fun _ _ _ _ _ => rfl) ?_ ?_
  · skip
    intro V
    refine ⟨fun wu0 hC hd => ?_, ?_⟩
    · clear hd
      replace hb := hb.trans (hC.mono hb.size)
      replace hks := blk_ext hks hC
      replace hr0 := Row.ext hr0 hC
      exact Runs.does (r_move rfl) ⟨Below.refl _ _, rfl, nofr rfl⟩
    refine ⟨fun wu1 hC hd => ?_, ?_⟩
    · obtain ⟨h0, _⟩ := hd
      skip
      replace h0 : V 0 = (.pointer (some ⟨bs, 0, none⟩)) := h0
      replace hb := hb.trans (hC.mono hb.size)
      replace hks := blk_ext hks hC
      replace hr0 := Row.ext hr0 hC
      refine Does.mono (d_callB (vs := [(.pointer (some ⟨bs, 0, none⟩))]) (show [some (V 0)] = [some (.pointer (some ⟨bs, 0, none⟩))] from by rw [h0]) Try.func67 (by kernel_rfl) (by kernel_rfl) (left_any bs base p a c l _ hks hr0 (by omega))) (fun _ _ h => ⟨h.2, h.1, nofr rfl⟩)
    refine ⟨fun wu2 hC hd => ?_, ?_⟩
    · obtain ⟨h1, _⟩ := hd
      skip
      replace h1 : V 1 = (.int .i64 (((l.length : Nat) : Int) - ((p : Nat) : Int))) := h1
      replace hb := hb.trans (hC.mono hb.size)
      replace hks := blk_ext hks hC
      replace hr0 := Row.ext hr0 hC
      exact Runs.does (r_gt (congrArg some h1) rfl) ⟨Below.refl _ _, rfl, nofr rfl⟩
    refine ⟨fun wu3 hC hd => ?_, ?_⟩
    · clear hd
      replace hb := hb.trans (hC.mono hb.size)
      replace hks := blk_ext hks hC
      replace hr0 := Row.ext hr0 hC
      exact Runs.does (r_move rfl) ⟨Below.refl _ _, rfl, nofr rfl⟩
    refine ⟨fun wu4 hC hd => ?_, ?_⟩
    · obtain ⟨h3, _⟩ := hd
      skip
      replace h3 : V 3 = (.pointer (some ⟨bs, 0, none⟩)) := h3
      replace hb := hb.trans (hC.mono hb.size)
      replace hks := blk_ext hks hC
      replace hr0 := Row.ext hr0 hC
      exact Runs.does (r_nilCheck (congrArg some h3)) ⟨Below.refl _ _, rfl, nofr rfl⟩
    refine ⟨fun wu5 hC hd => ?_, ?_⟩
    · obtain ⟨h4, _⟩ := hd
      skip
      replace h4 : V 4 = (.pointer (some ⟨bs, 0, none⟩)) := h4
      replace hb := hb.trans (hC.mono hb.size)
      replace hks := blk_ext hks hC
      replace hr0 := Row.ext hr0 hC
      exact Runs.does (r_fa (congrArg some h4) Try.underlying161 (f := 1) (q := 1) rfl (by kernel_rfl) rfl) ⟨Below.refl _ _, rfl, nofr rfl⟩
    refine ⟨fun wu6 hC hd => ?_, ?_⟩
    · obtain ⟨h5, _⟩ := hd
      skip
      replace h5 : V 5 = (.pointer (some ⟨bs, 1, none⟩)) := h5
      replace hb := hb.trans (hC.mono hb.size)
      replace hks := blk_ext hks hC
      replace hr0 := Row.ext hr0 hC
      exact Runs.does (r_load (v := (.int .i64 ((p : Nat) : Int))) (congrArg some h5) Try.underlying3 rfl (cell_blk hks rfl)) ⟨Below.refl _ _, rfl, nofr rfl⟩
    refine ⟨fun wu7 hC hd => ?_, ?_⟩
    · obtain ⟨h1, h2, h6, _⟩ := hd
      skip
      skip
      skip
      replace h1 : V 1 = (.int .i64 (((l.length : Nat) : Int) - ((p : Nat) : Int))) := h1
      replace h2 : V 2 = (.bool (decide ((0 : Int) < (((l.length : Nat) : Int) - ((p : Nat) : Int))))) := h2
      replace h6 : V 6 = (.int .i64 ((p : Nat) : Int)) := h6
      replace hb := hb.trans (hC.mono hb.size)
      replace hks := blk_ext hks hC
      replace hr0 := Row.ext hr0 hC
      refine Does.mono (d_callB (vs := [(.bool (decide ((0 : Int) < (((l.length : Nat) : Int) - ((p : Nat) : Int))))), (.int .i64 (2 : Int)), (.int .i64 ((p : Nat) : Int))]) (show [some (V 2), some (.int .i64 (2 : Int)), some (V 6)] = [some (.bool (decide ((0 : Int) < (((l.length : Nat) : Int) - ((p : Nat) : Int))))), some (.int .i64 (2 : Int)), some (.int .i64 ((p : Nat) : Int))] from by rw [h2, h6]) Try.func118 (by kernel_rfl) (by kernel_rfl) (unless_any (decide ((0 : Int) < (((l.length : Nat) : Int) - ((p : Nat) : Int)))) (2 : Int) ((p : Nat) : Int) _ (by first | rfl | assumption | (simp; done) | (simp; omega)))) (fun _ _ h => ⟨h.2, h.1, nofr rfl⟩)
    trivial
  · skip
    clear hf fa; intro V w1 fa he1 hp hnb hf
    have hv0 : V 0 = (.pointer (some ⟨bs, 0, none⟩)) := postsHold_at hp 0 rfl
    have hv1 : V 1 = (.int .i64 (((l.length : Nat) : Int) - ((p : Nat) : Int))) := postsHold_at hp 1 rfl
    have hv2 : V 2 = (.bool (decide ((0 : Int) < (((l.length : Nat) : Int) - ((p : Nat) : Int))))) := postsHold_at hp 2 rfl
    have hv3 : V 3 = (.pointer (some ⟨bs, 0, none⟩)) := postsHold_at hp 3 rfl
    have hv4 : V 4 = (.pointer (some ⟨bs, 0, none⟩)) := postsHold_at hp 4 rfl
    have hv5 : V 5 = (.pointer (some ⟨bs, 1, none⟩)) := postsHold_at hp 5 rfl
    have hv6 : V 6 = (.int .i64 ((p : Nat) : Int)) := postsHold_at hp 6 rfl
    have hv7 : V 7 = (.tuple #[]) := postsHold_at hp 7 rfl
    simp only [List.take_succ_cons, List.take_zero, insAll, ins, hv0, hv1, hv2, hv3, hv4, hv5, hv6, hv7] at hf
    clear hp hnb hv0 hv1 hv2 hv3 hv4 hv5 hv6 hv7
    replace hks := blk_ext hks he1
    replace hr0 := Row.ext hr0 he1
    replace hb := hb.trans (Below.mono he1 hb.size)
    (try simp only [Exit.then, Exit.inBlock, ↓reduceIte, Nat.reduceEqDiff])
    refine hK2 _ _ ?_
    refine wp_seq_k (fun K3 hK3 => ?_)
    refine wp_region_lit ?_
    refine sqv hf (r_move rfl) rfl rfl rfl ?_; clear hf fa; intro fa hf
    refine sqv hf (r_nilCheck rfl) rfl rfl rfl ?_; clear hf fa; intro fa hf
    refine sqv hf (r_fa rfl Try.underlying161 (f := 1) (q := 1) rfl (by kernel_rfl) rfl) rfl rfl rfl ?_; clear hf fa; intro fa hf
    refine sqv hf (r_load (v := (.int .i64 ((p : Nat) : Int))) rfl Try.underlying3 rfl (cell_blk hks rfl)) rfl rfl rfl ?_; clear hf fa; intro fa hf
    refine sqv hf (r_add (C := (((p + 1) : Nat) : Int)) rfl rfl (by rw [IntKind.wrap_i64]; omega)) rfl rfl rfl ?_; clear hf fa; intro fa hf
    refine sqv hf (r_nilCheck rfl) rfl rfl rfl ?_; clear hf fa; intro fa hf
    refine sqv hf (r_fa rfl Try.underlying161 (f := 1) (q := 1) rfl (by kernel_rfl) rfl) rfl rfl rfl ?_; clear hf fa; intro fa hf
    refine sqn hf (d_storeK (T := 161) (v := (.int .i64 (((p + 1) : Nat) : Int))) (cs := #[(.slice a l.length c), (.int .i64 ((p : Nat) : Int))]) (cs' := #[(.slice a l.length c), (.int .i64 (((p + 1) : Nat) : Int))]) rfl rfl (by kernel_rfl) (by kernel_rfl) hks (by kernel_rfl) (by kernel_rfl)) rfl rfl ?_; clear hf fa; rintro fa _ w2 ⟨hk1, hg1⟩ hf
    replace hr0 := Row.grown hr0 hg1 (Row.ne_type hr0 hks rfl)
    replace hb := hb.wrote hg1 hb.size
    apply wpList_nil
    (try simp only [Exit.then, Exit.inBlock, ↓reduceIte, Nat.reduceEqDiff])
    refine hK3 _ _ ?_
    refine wp_seq_k (fun K4 hK4 => ?_)
    obtain ⟨rb1, rfl, hbbrb1, hlbrb1⟩ := Row.some hr0 (by first | omega | (simp only [Sl.list_length, List.length_set, List.length_take, List.length_append, List.length_replicate, List.length_cons, List.length_nil, List.length_map, nums_len]; omega))
    have hy1 : (l)[(((p + 1)) - 1)]? = some bx := (by rw [Nat.add_sub_cancel]; exact hx)
    have hel1 := RdS.at (Row.rd (by intros; rfl) hr0) hy1
    obtain ⟨_, _, hab, hlr1, hel1⟩ := hel1
    cases hab
    refine wp_region_un (fun wq => Below w2.heap.size w2 wq) (fun w w' => Below w.heap.size w w')
      (fun V => [(fun x _ => x = (.pointer (some ⟨bs, 0, none⟩))), (fun x _ => x = (.pointer (some ⟨bs, 0, none⟩))), (fun x _ => x = (.pointer (some ⟨bs, 0, none⟩))), (fun x _ => x = (.slice (some ⟨rb1, 0, none⟩) l.length c)), (fun x _ => x = (.pointer (some ⟨bs, 0, none⟩))), (fun x _ => x = (.pointer (some ⟨bs, 0, none⟩))), (fun x _ => x = (.pointer (some ⟨bs, 1, none⟩))), (fun x _ => x = (.int .i64 (((p + 1) : Nat) : Int))), (fun x _ => x = (.int .i64 ((((p + 1) : Nat) : Int) - (1 : Int)))), (fun x _ => x = (.pointer (some ⟨rb1, (0 + (((p + 1)) - 1) * 1), none⟩))), (fun x _ => x = (.int .u8 bx)), (fun x _ => x = (.int .u8 bx))])
      []
      [[], [0], [1], [2], [], [4], [5], [6], [7], [3, 8], [9], [0, 1, 2, 3, 4, 5, 6, 7, 8, 9, 10]]
      hf (by kernel_rfl) (by kernel_rfl) (fun _ => rfl) ((Below.refl _ _).drew) (fun a b h1 h2 => h1.trans (h2.mono h1.size)) (fun _ _ h => h.size) (fun V => ⟨kept_eq, kept_eq, kept_eq, kept_eq, kept_eq, kept_eq, kept_eq, kept_eq, kept_eq, kept_eq, kept_eq, kept_eq, trivial⟩) (fun _ _ _ _ _ => rfl) ?_ ?_
    · skip
      intro V
      refine ⟨fun wu0 hC hd => ?_, ?_⟩
      · clear hd
        replace hb := hb.trans (hC.mono hb.size)
        replace hk1 := blk_ext hk1 hC
        replace hr0 := Row.ext hr0 hC
        exact Runs.does (r_move rfl) ⟨Below.refl _ _, rfl, nofr rfl⟩
      refine ⟨fun wu1 hC hd => ?_, ?_⟩
      · obtain ⟨h0, _⟩ := hd
        skip
        replace h0 : V 0 = (.pointer (some ⟨bs, 0, none⟩)) := h0
        replace hb := hb.trans (hC.mono hb.size)
        replace hk1 := blk_ext hk1 hC
        replace hr0 := Row.ext hr0 hC
        exact Runs.does (r_nilCheck (congrArg some h0)) ⟨Below.refl _ _, rfl, nofr rfl⟩
      refine ⟨fun wu2 hC hd => ?_, ?_⟩
      · obtain ⟨h1, _⟩ := hd
        skip
        replace h1 : V 1 = (.pointer (some ⟨bs, 0, none⟩)) := h1
        replace hb := hb.trans (hC.mono hb.size)
        replace hk1 := blk_ext hk1 hC
        replace hr0 := Row.ext hr0 hC
        exact Runs.does (r_fa (congrArg some h1) Try.underlying161 (f := 0) (q := 0) rfl (by kernel_rfl) rfl) ⟨Below.refl _ _, rfl, nofr rfl⟩
      refine ⟨fun wu3 hC hd => ?_, ?_⟩
      · obtain ⟨h2, _⟩ := hd
        skip
        replace h2 : V 2 = (.pointer (some ⟨bs, 0, none⟩)) := h2
        replace hb := hb.trans (hC.mono hb.size)
        replace hk1 := blk_ext hk1 hC
        replace hr0 := Row.ext hr0 hC
        exact Runs.does (r_load (v := (.slice (some ⟨rb1, 0, none⟩) l.length c)) (congrArg some h2) Try.underlying47 rfl (cell_blk hk1 rfl)) ⟨Below.refl _ _, rfl, nofr rfl⟩
      refine ⟨fun wu4 hC hd => ?_, ?_⟩
      · clear hd
        replace hb := hb.trans (hC.mono hb.size)
        replace hk1 := blk_ext hk1 hC
        replace hr0 := Row.ext hr0 hC
        exact Runs.does (r_move rfl) ⟨Below.refl _ _, rfl, nofr rfl⟩
      refine ⟨fun wu5 hC hd => ?_, ?_⟩
      · obtain ⟨h4, _⟩ := hd
        skip
        replace h4 : V 4 = (.pointer (some ⟨bs, 0, none⟩)) := h4
        replace hb := hb.trans (hC.mono hb.size)
        replace hk1 := blk_ext hk1 hC
        replace hr0 := Row.ext hr0 hC
        exact Runs.does (r_nilCheck (congrArg some h4)) ⟨Below.refl _ _, rfl, nofr rfl⟩
      refine ⟨fun wu6 hC hd => ?_, ?_⟩
      · obtain ⟨h5, _⟩ := hd
        skip
        replace h5 : V 5 = (.pointer (some ⟨bs, 0, none⟩)) := h5
        replace hb := hb.trans (hC.mono hb.size)
        replace hk1 := blk_ext hk1 hC
        replace hr0 := Row.ext hr0 hC
        exact Runs.does (r_fa (congrArg some h5) Try.underlying161 (f := 1) (q := 1) rfl (by kernel_rfl) rfl) ⟨Below.refl _ _, rfl, nofr rfl⟩
      refine ⟨fun wu7 hC hd => ?_, ?_⟩
      · obtain ⟨h6, _⟩ := hd
        skip
        replace h6 : V 6 = (.pointer (some ⟨bs, 1, none⟩)) := h6
        replace hb := hb.trans (hC.mono hb.size)
        replace hk1 := blk_ext hk1 hC
        replace hr0 := Row.ext hr0 hC
        exact Runs.does (r_load (v := (.int .i64 (((p + 1) : Nat) : Int))) (congrArg some h6) Try.underlying3 rfl (cell_blk hk1 rfl)) ⟨Below.refl _ _, rfl, nofr rfl⟩
      refine ⟨fun wu8 hC hd => ?_, ?_⟩
      · obtain ⟨h7, _⟩ := hd
        skip
        replace h7 : V 7 = (.int .i64 (((p + 1) : Nat) : Int)) := h7
        replace hb := hb.trans (hC.mono hb.size)
        replace hk1 := blk_ext hk1 hC
        replace hr0 := Row.ext hr0 hC
        exact Runs.does (r_sub (C := ((((p + 1) : Nat) : Int) - (1 : Int))) (congrArg some h7) rfl (by rw [IntKind.wrap_i64]; omega)) ⟨Below.refl _ _, rfl, nofr rfl⟩
      refine ⟨fun wu9 hC hd => ?_, ?_⟩
      · obtain ⟨h3, h8, _⟩ := hd
        skip
        skip
        replace h3 : V 3 = (.slice (some ⟨rb1, 0, none⟩) l.length c) := h3
        replace h8 : V 8 = (.int .i64 ((((p + 1) : Nat) : Int) - (1 : Int))) := h8
        replace hb := hb.trans (hC.mono hb.size)
        replace hk1 := blk_ext hk1 hC
        replace hr0 := Row.ext hr0 hC
        exact Runs.does (r_ixa (sz := 1) (j := (((p + 1)) - 1)) (congrArg some h3) (congrArg some h8) Try.underlying47 (by kernel_rfl) (by omega) (by omega) rfl) ⟨Below.refl _ _, rfl, nofr rfl⟩
      refine ⟨fun wu10 hC hd => ?_, ?_⟩
      · obtain ⟨h9, _⟩ := hd
        skip
        replace h9 : V 9 = (.pointer (some ⟨rb1, (0 + (((p + 1)) - 1) * 1), none⟩)) := h9
        replace hb := hb.trans (hC.mono hb.size)
        replace hk1 := blk_ext hk1 hC
        replace hr0 := Row.ext hr0 hC
        exact Runs.does (r_load (v := (.int .u8 bx)) (congrArg some h9) Try.underlying5 rfl (cellsAt_cell (cellsAt_below hel1 hC hlr1) (i := 0) rfl rfl)) ⟨Below.refl _ _, rfl, nofr rfl⟩
      refine ⟨fun wu11 hC hd => ?_, ?_⟩
      · obtain ⟨h0, h1, h2, h3, h4, h5, h6, h7, h8, h9, h10, _⟩ := hd
        skip
        skip
        skip
        skip
        skip
        skip
        skip
        skip
        skip
        skip
        skip
        replace h0 : V 0 = (.pointer (some ⟨bs, 0, none⟩)) := h0
        replace h1 : V 1 = (.pointer (some ⟨bs, 0, none⟩)) := h1
        replace h2 : V 2 = (.pointer (some ⟨bs, 0, none⟩)) := h2
        replace h3 : V 3 = (.slice (some ⟨rb1, 0, none⟩) l.length c) := h3
        replace h4 : V 4 = (.pointer (some ⟨bs, 0, none⟩)) := h4
        replace h5 : V 5 = (.pointer (some ⟨bs, 0, none⟩)) := h5
        replace h6 : V 6 = (.pointer (some ⟨bs, 1, none⟩)) := h6
        replace h7 : V 7 = (.int .i64 (((p + 1) : Nat) : Int)) := h7
        replace h8 : V 8 = (.int .i64 ((((p + 1) : Nat) : Int) - (1 : Int))) := h8
        replace h9 : V 9 = (.pointer (some ⟨rb1, (0 + (((p + 1)) - 1) * 1), none⟩)) := h9
        replace h10 : V 10 = (.int .u8 bx) := h10
        replace hb := hb.trans (hC.mono hb.size)
        replace hk1 := blk_ext hk1 hC
        replace hr0 := Row.ext hr0 hC
        exact Runs.does (r_assign (congrArg some h10)) ⟨Below.refl _ _, rfl, nofr rfl⟩
      trivial
    · skip
      clear hf fa; intro V w3 fa he2 hp hnb hf
      have hv0 : V 0 = (.pointer (some ⟨bs, 0, none⟩)) := postsHold_at hp 0 rfl
      have hv1 : V 1 = (.pointer (some ⟨bs, 0, none⟩)) := postsHold_at hp 1 rfl
      have hv2 : V 2 = (.pointer (some ⟨bs, 0, none⟩)) := postsHold_at hp 2 rfl
      have hv3 : V 3 = (.slice (some ⟨rb1, 0, none⟩) l.length c) := postsHold_at hp 3 rfl
      have hv4 : V 4 = (.pointer (some ⟨bs, 0, none⟩)) := postsHold_at hp 4 rfl
      have hv5 : V 5 = (.pointer (some ⟨bs, 0, none⟩)) := postsHold_at hp 5 rfl
      have hv6 : V 6 = (.pointer (some ⟨bs, 1, none⟩)) := postsHold_at hp 6 rfl
      have hv7 : V 7 = (.int .i64 (((p + 1) : Nat) : Int)) := postsHold_at hp 7 rfl
      have hv8 : V 8 = (.int .i64 ((((p + 1) : Nat) : Int) - (1 : Int))) := postsHold_at hp 8 rfl
      have hv9 : V 9 = (.pointer (some ⟨rb1, (0 + (((p + 1)) - 1) * 1), none⟩)) := postsHold_at hp 9 rfl
      have hv10 : V 10 = (.int .u8 bx) := postsHold_at hp 10 rfl
      have hv11 : V 11 = (.int .u8 bx) := postsHold_at hp 11 rfl
      simp only [List.take_succ_cons, List.take_zero, insAll, ins, hv0, hv1, hv2, hv3, hv4, hv5, hv6, hv7, hv8, hv9, hv10, hv11] at hf
      clear hp hnb hv0 hv1 hv2 hv3 hv4 hv5 hv6 hv7 hv8 hv9 hv10 hv11
      replace hk1 := blk_ext hk1 he2
      replace hr0 := Row.ext hr0 he2
      replace hb := hb.trans (Below.mono he2 hb.size)
      (try simp only [Exit.then, Exit.inBlock, ↓reduceIte, Nat.reduceEqDiff])
      refine hK4 _ _ ?_
      refine wp_ret ?_
      (try simp only [Exit.then, Exit.inBlock])
      refine ret1 hf rfl rfl ?_
      exact ⟨rfl, hk1, hb.grown⟩
end Go.Proofs.Ytcmdajkkdognfaa
