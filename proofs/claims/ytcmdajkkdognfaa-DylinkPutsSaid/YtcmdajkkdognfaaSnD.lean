/- What is proved here: the scanner: parts and names. -/
import Derived.Test.YtcmdajkkdognfaaSnB
import Derived.Test.YtcmdajkkdognfaaSxR
import Derived.Test.YtcmdajkkdognfaaUwC
namespace Go.Proofs.Ytcmdajkkdognfaa
open Go.RowKit
set_option linter.unusedVariables false
set_option linter.unusedSimpArgs false
set_option maxHeartbeats 1000000 in
set_option maxRecDepth 100000 in
theorem over_any (a : Option Addr) (c : Nat) (l : List Int) (w : World) (hl : RdS 1 (vInt .u8) w a l) (hll : l.length ≤ 1000000) (hn : a = none → c = 0) : Calls Try.prog 58 #[(.slice a l.length c)] w fun e w' => ∃ v, e = .returned v ∧ ∃ b a2 c2, v = .pointer (some ⟨b, 0, none⟩) ∧ w.heap.size ≤ b ∧ w'.heap[b]? = some (.cells #[.slice a2 l.length c2, .int .i64 ((0 : Nat) : Int)] 161 (0, 0)) ∧ Row 1 (vInt .u8) 5 w.heap.size w' (.slice a2 l.length c2) l ∧ Below w.heap.size w w' := by
  refine sx_enter (L := [(0, (.slice a l.length c))]) Try.func58 rfl rfl rfl rfl (fun fa hf => ?_)
  have hb : Below w.heap.size w w := Below.refl _ _
  refine wp_seq_k (fun K1 hK1 => ?_)
  refine wp_region_lit ?_
  refine sqv hf (r_assign rfl) rfl rfl rfl ?_; clear hf fa; intro fa hf
  apply wpList_nil
  (try simp only [Exit.then, Exit.inBlock, ↓reduceIte, Nat.reduceEqDiff])
  refine hK1 _ _ ?_
  refine wp_seq_k (fun K2 hK2 => ?_)
  refine wp_region_lit ?_
  refine sqdt hf (d_bslice0 (sz := 1) Try.underlying47 (by kernel_rfl)) rfl rfl rfl ?_; clear hf fa; rintro fa _ w1 ⟨b1, rfl, hle1, hk1, he1⟩ hf
  have hBb1 : w.heap.size ≤ b1 := Nat.le_trans hb.size hle1
  replace hb := hb.trans (Below.mono he1 hb.size)
  refine sqv hf (r_move rfl) rfl rfl rfl ?_; clear hf fa; intro fa hf
  have hr1 := Row.of_new (k := 1) (V := (vInt .u8)) (l := []) (base := w.heap.size) hk1 hBb1 rfl rfl (Nat.le_of_ble_eq_true rfl)
  refine sqdt hf (d_append (V := (vInt .u8)) (k := 1) (e := 5) (bytes := 1) (z := (.int .u8 (0 : Int))) (news := l) (base := w.heap.size) (by intros; rfl) (by intro x u hu; simp only [vInt, List.mem_singleton] at hu; subst hu; rfl) rfl rfl Try.underlying47 (by kernel_rfl) rfl rfl rfl hr1 (RdS.ext hl hb) (by omega) hn (by first | omega | (simp only [List.length_cons, List.length_nil, List.length_append, nums_len]; omega)) (by have := hb.size; omega)) rfl rfl rfl ?_; clear hf fa; rintro fa v w2 ⟨hr2, hg1⟩ hf; obtain ⟨ra1, rc1, rfl, hcrc1, hmrc1⟩ := Row.slice hr2
  replace hb := hb.trans (row_below hr1 hg1 hb.size (by have := hb.size; omega))
  simp only [List.nil_append] at hr2
  refine sqv hf (r_build (vs := [(0, (.slice ra1 ((l).length) rc1))]) (cs := #[(.slice ra1 ((l).length) rc1), (.int .i64 (0 : Int))]) rfl (fun _ => by kernel_rfl)) rfl rfl rfl ?_; clear hf fa; intro fa hf
  refine sqdt hf (d_box (cs := #[(.slice ra1 ((l).length) rc1), (.int .i64 (0 : Int))]) rfl rfl) rfl rfl rfl ?_; clear hf fa; rintro fa _ w3 ⟨b2, rfl, hle2, hk2, he2⟩ hf
  have hBb2 : w.heap.size ≤ b2 := Nat.le_trans hb.size hle2
  replace hr2 := Row.ext hr2 he2
  replace hb := hb.trans (Below.mono he2 hb.size)
  refine sqv hf (r_assign rfl) rfl rfl rfl ?_; clear hf fa; intro fa hf
  apply wpList_nil
  (try simp only [Exit.then, Exit.inBlock, ↓reduceIte, Nat.reduceEqDiff])
  refine hK2 _ _ ?_
  refine wp_ret ?_
  (try simp only [Exit.then, Exit.inBlock])
  refine ret1 hf rfl rfl ?_
  exact ⟨_, rfl, _, _, _, rfl, hBb2, hk2, Row.rebase hr2 (by omega), hb⟩

set_option maxHeartbeats 1000000 in
set_option maxRecDepth 100000 in
theorem sbytes_any (bs base p : Nat) (a : Option Addr) (c : Nat) (l : List Int) (w : World) (hks : w.heap[bs]? = some (.cells #[(.slice a l.length c), (.int .i64 ((p : Nat) : Int))] 161 (0, 0))) (hr0 : Row 1 (vInt .u8) 5 base w (.slice a l.length c) l) (hp : p ≤ l.length) (X : List Int) (hA : At l p X) (hX : X.length ≤ 1000000) : Calls Try.prog 119 #[(.pointer (some ⟨bs, 0, none⟩)), (.int .i64 ((X.length : Nat) : Int))] w fun e w' => ∃ v, e = .returned v ∧ Row 1 (vInt .u8) 5 w.heap.size w' v X ∧ Wrote w bs #[(.slice a l.length c), (.int .i64 (((p + X.length) : Nat) : Int))] 161 w' := by
  have hcap := Row.caps hr0; have hR0lt := fun q hq => (Row.lt hr0 q hq).2; have hle := hA.le
  refine sx_enter (L := [(0, (.pointer (some ⟨bs, 0, none⟩))), (1, (.int .i64 ((X.length : Nat) : Int)))]) Try.func119 rfl rfl rfl rfl (fun fa hf => ?_)
  have hb : KB bs w.heap.size w w := KB.refl _ _ _
  refine wp_seq_k (fun K1 hK1 => ?_)
  refine wp_region_lit ?_
  refine sqv hf (r_assign rfl) rfl rfl rfl ?_; clear hf fa; intro fa hf
  apply wpList_nil
  (try simp only [Exit.then, Exit.inBlock, ↓reduceIte, Nat.reduceEqDiff])
  refine hK1 _ _ ?_
  refine wp_seq_k (fun K2 hK2 => ?_)
  refine wp_region_lit ?_
  refine sqv hf (r_move rfl) rfl rfl rfl ?_; clear hf fa; intro fa hf
  refine sqv hf (r_ge rfl rfl) rfl rfl rfl ?_; clear hf fa; intro fa hf
  refine sqv hf (r_move rfl) rfl rfl rfl ?_; clear hf fa; intro fa hf
  refine sqv hf (r_nilCheck rfl) rfl rfl rfl ?_; clear hf fa; intro fa hf
  refine sqv hf (r_fa rfl Try.underlying161 (f := 1) (q := 1) rfl (by kernel_rfl) rfl) rfl rfl rfl ?_; clear hf fa; intro fa hf
  refine sqv hf (r_load (v := (.int .i64 ((p : Nat) : Int))) rfl Try.underlying3 rfl (cell_blk hks rfl)) rfl rfl rfl ?_; clear hf fa; intro fa hf
  refine sqdt hf (d_callB (vs := [(.bool (decide ((0 : Int) ≤ ((X.length : Nat) : Int)))), (.int .i64 (1 : Int)), (.int .i64 ((p : Nat) : Int))]) rfl Try.func118 (by kernel_rfl) (by kernel_rfl) (unless_any (decide ((0 : Int) ≤ ((X.length : Nat) : Int))) (1 : Int) ((p : Nat) : Int) _ (by first | rfl | assumption | (simp; done) | (simp; omega)))) rfl rfl rfl ?_; clear hf fa; rintro fa _ w1 ⟨rfl, he1⟩ hf
  replace hks := blk_ext hks he1
  replace hr0 := Row.ext hr0 he1
  replace hb := hb.trans (Below.mono he1 hb.size)
  apply wpList_nil
  (try simp only [Exit.then, Exit.inBlock, ↓reduceIte, Nat.reduceEqDiff])
  refine hK2 _ _ ?_
  refine wp_seq_k (fun K3 hK3 => ?_)
  refine wp_region_un (fun wq => Below w1.heap.size w1 wq) (fun w w' => Below w.heap.size w w')
    (fun V => [(fun x _ => x = (.int .i64 ((X.length : Nat) : Int))), (fun x _ => x = (.pointer (some ⟨bs, 0, none⟩))), (fun x _ => x = (.int .i64 (((l.length : Nat) : Int) - ((p : Nat) : Int)))), (fun x _ => x = (.bool (decide (((X.length : Nat) : Int) ≤ (((l.length : Nat) : Int) - ((p : Nat) : Int)))))), (fun x _ => x = (.pointer (some ⟨bs, 0, none⟩))), (fun x _ => x = (.pointer (some ⟨bs, 0, none⟩))), (fun x _ => x = (.pointer (some ⟨bs, 1, none⟩))), (fun x _ => x = (.int .i64 ((p : Nat) : Int))), (fun x _ => x = (.tuple #[]))])
    []
    [[], [], [1], [0, 2], [], [4], [5], [6], [2, 3, 7]]
    hf (by kernel_rfl) (by kernel_rfl) (fun _ => rfl) ((Below.refl _ _).drew) (fun a b h1 h2 => h1.trans (h2.mono h1.size)) (fun _ _ h => h.size) (fun V => ⟨kept_eq, kept_eq, kept_eq, kept_eq, kept_eq, kept_eq, kept_eq, kept_eq, kept_eq, trivial⟩) (fun _ _ _ _ _ => rfl) ?_ ?_
  · skip
    intro V
    refine ⟨fun wu0 hC hd => ?_, ?_⟩
    · clear hd
      replace hb := hb.trans (hC.mono hb.size)
      replace hks := blk_ext hks hC
      replace hr0 := Row.ext hr0 hC
      exact Runs.does (r_move rfl) ⟨Below.refl _ _, rfl, nofr rfl⟩
    refine ⟨fun wu1 hC hd => ?_, ?_⟩
    · clear hd
      replace hb := hb.trans (hC.mono hb.size)
      replace hks := blk_ext hks hC
      replace hr0 := Row.ext hr0 hC
      exact Runs.does (r_move rfl) ⟨Below.refl _ _, rfl, nofr rfl⟩
    refine ⟨fun wu2 hC hd => ?_, ?_⟩
    · obtain ⟨h1, _⟩ := hd
      skip
      replace h1 : V 1 = (.pointer (some ⟨bs, 0, none⟩)) := h1
      replace hb := hb.trans (hC.mono hb.size)
      replace hks := blk_ext hks hC
      replace hr0 := Row.ext hr0 hC
      refine Does.mono (d_callB (vs := [(.pointer (some ⟨bs, 0, none⟩))]) (show [some (V 1)] = [some (.pointer (some ⟨bs, 0, none⟩))] from by rw [h1]) Try.func67 (by kernel_rfl) (by kernel_rfl) (left_any bs base p a c l _ hks hr0 (by omega))) (fun _ _ h => ⟨h.2, h.1, nofr rfl⟩)
    refine ⟨fun wu3 hC hd => ?_, ?_⟩
    · obtain ⟨h0, h2, _⟩ := hd
      skip
      skip
      replace h0 : V 0 = (.int .i64 ((X.length : Nat) : Int)) := h0
      replace h2 : V 2 = (.int .i64 (((l.length : Nat) : Int) - ((p : Nat) : Int))) := h2
      replace hb := hb.trans (hC.mono hb.size)
      replace hks := blk_ext hks hC
      replace hr0 := Row.ext hr0 hC
      exact Runs.does (r_le (congrArg some h0) (congrArg some h2)) ⟨Below.refl _ _, rfl, nofr rfl⟩
    refine ⟨fun wu4 hC hd => ?_, ?_⟩
    · clear hd
      replace hb := hb.trans (hC.mono hb.size)
      replace hks := blk_ext hks hC
      replace hr0 := Row.ext hr0 hC
      exact Runs.does (r_move rfl) ⟨Below.refl _ _, rfl, nofr rfl⟩
    refine ⟨fun wu5 hC hd => ?_, ?_⟩
    · obtain ⟨h4, _⟩ := hd
      skip
      replace h4 : V 4 = (.pointer (some ⟨bs, 0, none⟩)) := h4
      replace hb := hb.trans (hC.mono hb.size)
      replace hks := blk_ext hks hC
      replace hr0 := Row.ext hr0 hC
      exact Runs.does (r_nilCheck (congrArg some h4)) ⟨Below.refl _ _, rfl, nofr rfl⟩
    refine ⟨fun wu6 hC hd => ?_, ?_⟩
    · obtain ⟨h5, _⟩ := hd
      skip
      replace h5 : V 5 = (.pointer (some ⟨bs, 0, none⟩)) := h5
      replace hb := hb.trans (hC.mono hb.size)
      replace hks := blk_ext hks hC
      replace hr0 := Row.ext hr0 hC
      exact Runs.does (r_fa (congrArg some h5) Try.underlying161 (f := 1) (q := 1) rfl (by kernel_rfl) rfl) ⟨Below.refl _ _, rfl, nofr rfl⟩
    refine ⟨fun wu7 hC hd => ?_, ?_⟩
    · obtain ⟨h6, _⟩ := hd
      skip
      replace h6 : V 6 = (.pointer (some ⟨bs, 1, none⟩)) := h6
      replace hb := hb.trans (hC.mono hb.size)
      replace hks := blk_ext hks hC
      replace hr0 := Row.ext hr0 hC
      exact Runs.does (r_load (v := (.int .i64 ((p : Nat) : Int))) (congrArg some h6) Try.underlying3 rfl (cell_blk hks rfl)) ⟨Below.refl _ _, rfl, nofr rfl⟩
    refine ⟨fun wu8 hC hd => ?_, ?_⟩
    · obtain ⟨h2, h3, h7, _⟩ := hd
      skip
      skip
      skip
      replace h2 : V 2 = (.int .i64 (((l.length : Nat) : Int) - ((p : Nat) : Int))) := h2
      replace h3 : V 3 = (.bool (decide (((X.length : Nat) : Int) ≤ (((l.length : Nat) : Int) - ((p : Nat) : Int))))) := h3
      replace h7 : V 7 = (.int .i64 ((p : Nat) : Int)) := h7
      replace hb := hb.trans (hC.mono hb.size)
      replace hks := blk_ext hks hC
      replace hr0 := Row.ext hr0 hC
      refine Does.mono (d_callB (vs := [(.bool (decide (((X.length : Nat) : Int) ≤ (((l.length : Nat) : Int) - ((p : Nat) : Int))))), (.int .i64 (2 : Int)), (.int .i64 ((p : Nat) : Int))]) (show [some (V 3), some (.int .i64 (2 : Int)), some (V 7)] = [some (.bool (decide (((X.length : Nat) : Int) ≤ (((l.length : Nat) : Int) - ((p : Nat) : Int))))), some (.int .i64 (2 : Int)), some (.int .i64 ((p : Nat) : Int))] from by rw [h3, h7]) Try.func118 (by kernel_rfl) (by kernel_rfl) (unless_any (decide (((X.length : Nat) : Int) ≤ (((l.length : Nat) : Int) - ((p : Nat) : Int)))) (2 : Int) ((p : Nat) : Int) _ (by first | rfl | assumption | (simp; done) | (simp; omega)))) (fun _ _ h => ⟨h.2, h.1, nofr rfl⟩)
    trivial
  · skip
    clear hf fa; intro V w2 fa he2 hp hnb hf
    have hv0 : V 0 = (.int .i64 ((X.length : Nat) : Int)) := postsHold_at hp 0 rfl
    have hv1 : V 1 = (.pointer (some ⟨bs, 0, none⟩)) := postsHold_at hp 1 rfl
    have hv2 : V 2 = (.int .i64 (((l.length : Nat) : Int) - ((p : Nat) : Int))) := postsHold_at hp 2 rfl
    have hv3 : V 3 = (.bool (decide (((X.length : Nat) : Int) ≤ (((l.length : Nat) : Int) - ((p : Nat) : Int))))) := postsHold_at hp 3 rfl
    have hv4 : V 4 = (.pointer (some ⟨bs, 0, none⟩)) := postsHold_at hp 4 rfl
    have hv5 : V 5 = (.pointer (some ⟨bs, 0, none⟩)) := postsHold_at hp 5 rfl
    have hv6 : V 6 = (.pointer (some ⟨bs, 1, none⟩)) := postsHold_at hp 6 rfl
    have hv7 : V 7 = (.int .i64 ((p : Nat) : Int)) := postsHold_at hp 7 rfl
    have hv8 : V 8 = (.tuple #[]) := postsHold_at hp 8 rfl
    simp only [List.take_succ_cons, List.take_zero, insAll, ins, hv0, hv1, hv2, hv3, hv4, hv5, hv6, hv7, hv8] at hf
    clear hp hnb hv0 hv1 hv2 hv3 hv4 hv5 hv6 hv7 hv8
    replace hks := blk_ext hks he2
    replace hr0 := Row.ext hr0 he2
    replace hb := hb.trans (Below.mono he2 hb.size)
    (try simp only [Exit.then, Exit.inBlock, ↓reduceIte, Nat.reduceEqDiff])
    refine hK3 _ _ ?_
    refine wp_seq_k (fun K4 hK4 => ?_)
    refine wp_region_lit ?_
    refine sqv hf (r_move rfl) rfl rfl rfl ?_; clear hf fa; intro fa hf
    refine sqv hf (r_nilCheck rfl) rfl rfl rfl ?_; clear hf fa; intro fa hf
    refine sqv hf (r_fa rfl Try.underlying161 (f := 1) (q := 1) rfl (by kernel_rfl) rfl) rfl rfl rfl ?_; clear hf fa; intro fa hf
    refine sqv hf (r_load (v := (.int .i64 ((p : Nat) : Int))) rfl Try.underlying3 rfl (cell_blk hks rfl)) rfl rfl rfl ?_; clear hf fa; intro fa hf
    refine sqv hf (r_move rfl) rfl rfl rfl ?_; clear hf fa; intro fa hf
    refine sqv hf (r_add (C := (((p + X.length) : Nat) : Int)) rfl rfl (by rw [IntKind.wrap_i64]; omega)) rfl rfl rfl ?_; clear hf fa; intro fa hf
    refine sqv hf (r_nilCheck rfl) rfl rfl rfl ?_; clear hf fa; intro fa hf
    refine sqv hf (r_fa rfl Try.underlying161 (f := 1) (q := 1) rfl (by kernel_rfl) rfl) rfl rfl rfl ?_; clear hf fa; intro fa hf
    refine sqn hf (d_storeK (T := 161) (v := (.int .i64 (((p + X.length) : Nat) : Int))) (cs := #[(.slice a l.length c), (.int .i64 ((p : Nat) : Int))]) (cs' := #[(.slice a l.length c), (.int .i64 (((p + X.length) : Nat) : Int))]) rfl rfl (by kernel_rfl) (by kernel_rfl) hks (by kernel_rfl) (by kernel_rfl)) rfl rfl ?_; clear hf fa; rintro fa _ w3 ⟨hk1, hg1⟩ hf
    replace hr0 := Row.grown hr0 hg1 (Row.ne_type hr0 hks rfl)
    replace hb := hb.wrote hg1 hb.size
    apply wpList_nil
    (try simp only [Exit.then, Exit.inBlock, ↓reduceIte, Nat.reduceEqDiff])
    refine hK4 _ _ ?_
    refine wp_seq_k (fun K5 hK5 => ?_)
    refine wp_region_unT 16 (fun wq => Below w3.heap.size w3 wq) (fun w w' => Below w.heap.size w w')
      (fun V => [(fun x wq => ∃ b, x = .slice (some ⟨b, 0, none⟩) 0 0 ∧ w3.heap.size ≤ b ∧ wq.heap[b]? = some (.cells #[] 5 (0, 0))), (fun x _ => x = (.pointer (some ⟨bs, 0, none⟩))), (fun x _ => x = (.pointer (some ⟨bs, 0, none⟩))), (fun x _ => x = (.pointer (some ⟨bs, 0, none⟩))), (fun x _ => x = (.slice a l.length c)), (fun x _ => x = (.pointer (some ⟨bs, 0, none⟩))), (fun x _ => x = (.pointer (some ⟨bs, 0, none⟩))), (fun x _ => x = (.pointer (some ⟨bs, 1, none⟩))), (fun x _ => x = (.int .i64 (((p + X.length) : Nat) : Int))), (fun x _ => x = (.int .i64 ((X.length : Nat) : Int))), (fun x _ => x = (.int .i64 ((p : Nat) : Int))), (fun x _ => x = (.pointer (some ⟨bs, 0, none⟩))), (fun x _ => x = (.pointer (some ⟨bs, 0, none⟩))), (fun x _ => x = (.pointer (some ⟨bs, 1, none⟩))), (fun x _ => x = (.int .i64 (((p + X.length) : Nat) : Int))), (fun x _ => x = (.slice (slAt a c p 1) ((((p + X.length)) - p)) (c - p)))])
      [0]
      [[], [], [1], [2], [3], [], [5], [6], [7], [], [8, 9], [], [11], [12], [13], [4, 10, 14], [], []]
      hf (by kernel_rfl) (by kernel_rfl) (by kernel_rfl) (fun _ => rfl) ((Below.refl _ _).drew) (fun a b h1 h2 => h1.trans (h2.mono h1.size)) (fun _ _ h => h.size) (fun V => ⟨keptB, kept_eq, kept_eq, kept_eq, kept_eq, kept_eq, kept_eq, kept_eq, kept_eq, kept_eq, kept_eq, kept_eq, kept_eq, kept_eq, kept_eq, kept_eq, trivial⟩) (fun _ _ _ _ _ => rfl) ?_ ?_
    · skip
      intro V
      refine ⟨fun wu0 hC hd => ?_, ?_⟩
      · clear hd
        replace hb := hb.trans (hC.mono hb.size)
        replace hk1 := blk_ext hk1 hC
        replace hr0 := Row.ext hr0 hC
        refine Does.mono (d_bslice0 (sz := 1) Try.underlying47 (by kernel_rfl)) ?_
        rintro _ w' ⟨b, rfl, hF⟩
        exact ⟨hF.2.2, ⟨b, rfl, Nat.le_trans hC.size hF.1, hF.2.1⟩, isfr rfl hF.1 (blk_lt hF.2.1)⟩
      refine ⟨fun wu1 hC hd => ?_, ?_⟩
      · clear hd
        replace hb := hb.trans (hC.mono hb.size)
        replace hk1 := blk_ext hk1 hC
        replace hr0 := Row.ext hr0 hC
        exact Runs.does (r_move rfl) ⟨Below.refl _ _, rfl, nofr rfl⟩
      refine ⟨fun wu2 hC hd => ?_, ?_⟩
      · obtain ⟨h1, _⟩ := hd
        skip
        replace h1 : V 1 = (.pointer (some ⟨bs, 0, none⟩)) := h1
        replace hb := hb.trans (hC.mono hb.size)
        replace hk1 := blk_ext hk1 hC
        replace hr0 := Row.ext hr0 hC
        exact Runs.does (r_nilCheck (congrArg some h1)) ⟨Below.refl _ _, rfl, nofr rfl⟩
      refine ⟨fun wu3 hC hd => ?_, ?_⟩
      · obtain ⟨h2, _⟩ := hd
        skip
        replace h2 : V 2 = (.pointer (some ⟨bs, 0, none⟩)) := h2
        replace hb := hb.trans (hC.mono hb.size)
        replace hk1 := blk_ext hk1 hC
        replace hr0 := Row.ext hr0 hC
        exact Runs.does (r_fa (congrArg some h2) Try.underlying161 (f := 0) (q := 0) rfl (by kernel_rfl) rfl) ⟨Below.refl _ _, rfl, nofr rfl⟩
      refine ⟨fun wu4 hC hd => ?_, ?_⟩
      · obtain ⟨h3, _⟩ := hd
        skip
        replace h3 : V 3 = (.pointer (some ⟨bs, 0, none⟩)) := h3
        replace hb := hb.trans (hC.mono hb.size)
        replace hk1 := blk_ext hk1 hC
        replace hr0 := Row.ext hr0 hC
        exact Runs.does (r_load (v := (.slice a l.length c)) (congrArg some h3) Try.underlying47 rfl (cell_blk hk1 rfl)) ⟨Below.refl _ _, rfl, nofr rfl⟩
      refine ⟨fun wu5 hC hd => ?_, ?_⟩
      · clear hd
        replace hb := hb.trans (hC.mono hb.size)
        replace hk1 := blk_ext hk1 hC
        replace hr0 := Row.ext hr0 hC
        exact Runs.does (r_move rfl) ⟨Below.refl _ _, rfl, nofr rfl⟩
      refine ⟨fun wu6 hC hd => ?_, ?_⟩
      · obtain ⟨h5, _⟩ := hd
        skip
        replace h5 : V 5 = (.pointer (some ⟨bs, 0, none⟩)) := h5
        replace hb := hb.trans (hC.mono hb.size)
        replace hk1 := blk_ext hk1 hC
        replace hr0 := Row.ext hr0 hC
        exact Runs.does (r_nilCheck (congrArg some h5)) ⟨Below.refl _ _, rfl, nofr rfl⟩
      refine ⟨fun wu7 hC hd => ?_, ?_⟩
      · obtain ⟨h6, _⟩ := hd
        skip
        replace h6 : V 6 = (.pointer (some ⟨bs, 0, none⟩)) := h6
        replace hb := hb.trans (hC.mono hb.size)
        replace hk1 := blk_ext hk1 hC
        replace hr0 := Row.ext hr0 hC
        exact Runs.does (r_fa (congrArg some h6) Try.underlying161 (f := 1) (q := 1) rfl (by kernel_rfl) rfl) ⟨Below.refl _ _, rfl, nofr rfl⟩
      refine ⟨fun wu8 hC hd => ?_, ?_⟩
      · obtain ⟨h7, _⟩ := hd
        skip
        replace h7 : V 7 = (.pointer (some ⟨bs, 1, none⟩)) := h7
        replace hb := hb.trans (hC.mono hb.size)
        replace hk1 := blk_ext hk1 hC
        replace hr0 := Row.ext hr0 hC
        exact Runs.does (r_load (v := (.int .i64 (((p + X.length) : Nat) : Int))) (congrArg some h7) Try.underlying3 rfl (cell_blk hk1 rfl)) ⟨Below.refl _ _, rfl, nofr rfl⟩
      refine ⟨fun wu9 hC hd => ?_, ?_⟩
      · clear hd
        replace hb := hb.trans (hC.mono hb.size)
        replace hk1 := blk_ext hk1 hC
        replace hr0 := Row.ext hr0 hC
        exact Runs.does (r_move rfl) ⟨Below.refl _ _, rfl, nofr rfl⟩
      refine ⟨fun wu10 hC hd => ?_, ?_⟩
      · obtain ⟨h8, h9, _⟩ := hd
        skip
        skip
        replace h8 : V 8 = (.int .i64 (((p + X.length) : Nat) : Int)) := h8
        replace h9 : V 9 = (.int .i64 ((X.length : Nat) : Int)) := h9
        replace hb := hb.trans (hC.mono hb.size)
        replace hk1 := blk_ext hk1 hC
        replace hr0 := Row.ext hr0 hC
        exact Runs.does (r_sub (C := ((p : Nat) : Int)) (congrArg some h8) (congrArg some h9) (by rw [IntKind.wrap_i64]; omega)) ⟨Below.refl _ _, rfl, nofr rfl⟩
      refine ⟨fun wu11 hC hd => ?_, ?_⟩
      · clear hd
        replace hb := hb.trans (hC.mono hb.size)
        replace hk1 := blk_ext hk1 hC
        replace hr0 := Row.ext hr0 hC
        exact Runs.does (r_move rfl) ⟨Below.refl _ _, rfl, nofr rfl⟩
      refine ⟨fun wu12 hC hd => ?_, ?_⟩
      · obtain ⟨h11, _⟩ := hd
        skip
        replace h11 : V 11 = (.pointer (some ⟨bs, 0, none⟩)) := h11
        replace hb := hb.trans (hC.mono hb.size)
        replace hk1 := blk_ext hk1 hC
        replace hr0 := Row.ext hr0 hC
        exact Runs.does (r_nilCheck (congrArg some h11)) ⟨Below.refl _ _, rfl, nofr rfl⟩
      refine ⟨fun wu13 hC hd => ?_, ?_⟩
      · obtain ⟨h12, _⟩ := hd
        skip
        replace h12 : V 12 = (.pointer (some ⟨bs, 0, none⟩)) := h12
        replace hb := hb.trans (hC.mono hb.size)
        replace hk1 := blk_ext hk1 hC
        replace hr0 := Row.ext hr0 hC
        exact Runs.does (r_fa (congrArg some h12) Try.underlying161 (f := 1) (q := 1) rfl (by kernel_rfl) rfl) ⟨Below.refl _ _, rfl, nofr rfl⟩
      refine ⟨fun wu14 hC hd => ?_, ?_⟩
      · obtain ⟨h13, _⟩ := hd
        skip
        replace h13 : V 13 = (.pointer (some ⟨bs, 1, none⟩)) := h13
        replace hb := hb.trans (hC.mono hb.size)
        replace hk1 := blk_ext hk1 hC
        replace hr0 := Row.ext hr0 hC
        exact Runs.does (r_load (v := (.int .i64 (((p + X.length) : Nat) : Int))) (congrArg some h13) Try.underlying3 rfl (cell_blk hk1 rfl)) ⟨Below.refl _ _, rfl, nofr rfl⟩
      refine ⟨fun wu15 hC hd => ?_, ?_⟩
      · obtain ⟨h4, h10, h14, _⟩ := hd
        skip
        skip
        skip
        replace h4 : V 4 = (.slice a l.length c) := h4
        replace h10 : V 10 = (.int .i64 ((p : Nat) : Int)) := h10
        replace h14 : V 14 = (.int .i64 (((p + X.length) : Nat) : Int)) := h14
        replace hb := hb.trans (hC.mono hb.size)
        replace hk1 := blk_ext hk1 hC
        replace hr0 := Row.ext hr0 hC
        exact Runs.does (r_slab (l := p) (h := ((p + X.length))) (sz := 1) (congrArg some h4) (congrArg some h10) (congrArg some h14) Try.underlying47 (by kernel_rfl) rfl rfl (by omega) (by omega)) ⟨Below.refl _ _, rfl, nofr rfl⟩
      trivial
    · skip
      clear hf fa; intro V w4 fa he3 hp hnb hf
      have hv0 := postsHold_at hp 0 rfl
      obtain ⟨b1, hv0, hle1, hk2⟩ := hv0
      have hBb1 : w.heap.size ≤ b1 := Nat.le_trans hb.size hle1
      have hv1 : V 1 = (.pointer (some ⟨bs, 0, none⟩)) := postsHold_at hp 1 rfl
      have hv2 : V 2 = (.pointer (some ⟨bs, 0, none⟩)) := postsHold_at hp 2 rfl
      have hv3 : V 3 = (.pointer (some ⟨bs, 0, none⟩)) := postsHold_at hp 3 rfl
      have hv4 : V 4 = (.slice a l.length c) := postsHold_at hp 4 rfl
      have hv5 : V 5 = (.pointer (some ⟨bs, 0, none⟩)) := postsHold_at hp 5 rfl
      have hv6 : V 6 = (.pointer (some ⟨bs, 0, none⟩)) := postsHold_at hp 6 rfl
      have hv7 : V 7 = (.pointer (some ⟨bs, 1, none⟩)) := postsHold_at hp 7 rfl
      have hv8 : V 8 = (.int .i64 (((p + X.length) : Nat) : Int)) := postsHold_at hp 8 rfl
      have hv9 : V 9 = (.int .i64 ((X.length : Nat) : Int)) := postsHold_at hp 9 rfl
      have hv10 : V 10 = (.int .i64 ((p : Nat) : Int)) := postsHold_at hp 10 rfl
      have hv11 : V 11 = (.pointer (some ⟨bs, 0, none⟩)) := postsHold_at hp 11 rfl
      have hv12 : V 12 = (.pointer (some ⟨bs, 0, none⟩)) := postsHold_at hp 12 rfl
      have hv13 : V 13 = (.pointer (some ⟨bs, 1, none⟩)) := postsHold_at hp 13 rfl
      have hv14 : V 14 = (.int .i64 (((p + X.length) : Nat) : Int)) := postsHold_at hp 14 rfl
      have hv15 : V 15 = (.slice (slAt a c p 1) ((((p + X.length)) - p)) (c - p)) := postsHold_at hp 15 rfl
      simp only [List.take_succ_cons, List.take_zero, insAll, ins, hv0, hv1, hv2, hv3, hv4, hv5, hv6, hv7, hv8, hv9, hv10, hv11, hv12, hv13, hv14, hv15] at hf
      have : bs < b1 := Nat.lt_of_lt_of_le (blk_lt hk1) hle1
      clear hp hnb hv0 hv1 hv2 hv3 hv4 hv5 hv6 hv7 hv8 hv9 hv10 hv11 hv12 hv13 hv14 hv15
      replace hk1 := blk_ext hk1 he3
      replace hr0 := Row.ext hr0 he3
      replace hb := hb.trans (Below.mono he3 hb.size)
      simp only [List.drop_succ_cons, List.drop_zero]
      have hr1 := Row.of_new (k := 1) (V := (vInt .u8)) (l := []) hk2 (Nat.le_refl _) rfl rfl (Nat.le_of_ble_eq_true rfl)
      refine sqdt hf (d_append (V := (vInt .u8)) (k := 1) (e := 5) (bytes := 1) (z := (.int .u8 (0 : Int))) (news := X) (base := b1) (by intros; rfl) (by intro x u hu; simp only [vInt, List.mem_singleton] at hu; subst hu; rfl) rfl rfl Try.underlying47 (by kernel_rfl) rfl rfl rfl hr1 (slAt_rd (by intros; rfl) hr0 hA.1 hA.2) (by omega) (slAt_nocap (fun h => Row.nocap hr0 h)) (by first | omega | (simp only [List.length_cons, List.length_nil, List.length_append, nums_len]; omega)) (by first | (have := hb.size; have : b1 < w4.heap.size := (Row.lt hr1 _ rfl).2; omega) | (have := Row.base_le hr1 (by first | omega | (simp only [Sl.list_length, List.length_set, List.length_take, List.length_append, List.length_replicate, List.length_cons, List.length_nil, List.length_map, nums_len]; omega)); omega))) rfl rfl rfl ?_; clear hf fa; rintro fa v w5 ⟨hr2, hg2⟩ hf; obtain ⟨ra1, rc1, rfl, hcrc1, hmrc1⟩ := Row.slice hr2
      replace hk1 := blk_row' hk1 hg2 (Row.ne_type hr1 hk1 rfl)
      replace hr0 := Row.grown' hr0 hg2 (fun q h1 h2 => Row.ne_base hr1 (show q < b1 by have := hR0lt q h1; omega) h2)
      replace hb := hb.trans (row_below hr1 hg2 hb.size (by have := hb.size; omega))
      simp only [List.nil_append] at hr2
      refine sqv hf (r_assign rfl) rfl rfl rfl ?_; clear hf fa; intro fa hf
      apply wpList_nil
      (try simp only [Exit.then, Exit.inBlock, ↓reduceIte, Nat.reduceEqDiff])
      refine hK5 _ _ ?_
      refine wp_ret ?_
      (try simp only [Exit.then, Exit.inBlock])
      refine ret1 hf rfl rfl ?_
      exact ⟨_, rfl, Row.rebase hr2 (by omega), hk1, hb.grown⟩

set_option maxHeartbeats 1000000 in
set_option maxRecDepth 100000 in
theorem ssub_any (bs base p : Nat) (a : Option Addr) (c : Nat) (l : List Int) (w : World) (hks : w.heap[bs]? = some (.cells #[(.slice a l.length c), (.int .i64 ((p : Nat) : Int))] 161 (0, 0))) (hr0 : Row 1 (vInt .u8) 5 base w (.slice a l.length c) l) (hp : p ≤ l.length) (X : List Int) (hA : At l p X) (hX : X.length ≤ 1000000) : Calls Try.prog 62 #[(.pointer (some ⟨bs, 0, none⟩)), (.int .i64 ((X.length : Nat) : Int))] w fun e w' => ∃ v, e = .returned v ∧ ∃ b a2 c2, v = .pointer (some ⟨b, 0, none⟩) ∧ w.heap.size ≤ b ∧ w'.heap[b]? = some (.cells #[.slice a2 X.length c2, .int .i64 ((0 : Nat) : Int)] 161 (0, 0)) ∧ Row 1 (vInt .u8) 5 w.heap.size w' (.slice a2 X.length c2) X ∧ Wrote w bs #[(.slice a l.length c), (.int .i64 (((p + X.length) : Nat) : Int))] 161 w' := by
  have hcap := Row.caps hr0; have hR0lt := fun q hq => (Row.lt hr0 q hq).2; have hle := hA.le
  refine sx_enter (L := [(0, (.pointer (some ⟨bs, 0, none⟩))), (1, (.int .i64 ((X.length : Nat) : Int)))]) Try.func62 rfl rfl rfl rfl (fun fa hf => ?_)
  have hb : KB bs w.heap.size w w := KB.refl _ _ _
  refine wp_seq_k (fun K1 hK1 => ?_)
  refine wp_region_lit ?_
  refine sqv hf (r_assign rfl) rfl rfl rfl ?_; clear hf fa; intro fa hf
  apply wpList_nil
  (try simp only [Exit.then, Exit.inBlock, ↓reduceIte, Nat.reduceEqDiff])
  refine hK1 _ _ ?_
  refine wp_seq_k (fun K2 hK2 => ?_)
  refine wp_region_lit ?_
  refine sqv hf (r_move rfl) rfl rfl rfl ?_; clear hf fa; intro fa hf
  refine sqv hf (r_move rfl) rfl rfl rfl ?_; clear hf fa; intro fa hf
  refine sqdt hf (d_callX (vs := [(.pointer (some ⟨bs, 0, none⟩)), (.int .i64 ((X.length : Nat) : Int))]) rfl Try.func119 (by kernel_rfl) (by kernel_rfl) (sbytes_any bs base p a c l _ hks hr0 (by omega) X hA (by omega))) rfl rfl rfl ?_; clear hf fa; rintro fa v w1 ⟨hr1, hk1, hg1⟩ hf
  obtain ⟨ra1, rc1, rfl, hcrc1, hmrc1⟩ := Row.slice hr1
  replace hr1 := Row.rebase hr1 hb.size
  replace hr0 := Row.grown hr0 hg1 (Row.ne_type hr0 hks rfl)
  replace hb := hb.wrote hg1 hb.size
  refine sqdt hf (d_callX (vs := [(.slice ra1 X.length rc1)]) rfl Try.func58 (by kernel_rfl) (by kernel_rfl) (over_any ra1 rc1 X _ (Row.rd (by intros; rfl) hr1) (by first | omega | (simp only [Sl.list_length, List.length_set, List.length_take, List.length_append, List.length_replicate, List.length_cons, List.length_nil, List.length_map, nums_len]; omega)) (fun h => Row.nocap hr1 h))) rfl rfl rfl ?_; clear hf fa; rintro fa _ w2 ⟨sb1, sa1, sc1, rfl, hle1, hk2, hr2, he1⟩ hf
  have hBsb1 : w.heap.size ≤ sb1 := Nat.le_trans hb.size hle1
  have : bs < sb1 := Nat.lt_of_lt_of_le (blk_lt hk1) hle1
  replace hr2 := Row.rebase hr2 hb.size
  replace hk1 := blk_ext hk1 he1
  replace hr0 := Row.ext hr0 he1
  replace hr1 := Row.ext hr1 he1
  replace hb := hb.trans (Below.mono he1 hb.size)
  refine sqv hf (r_assign rfl) rfl rfl rfl ?_; clear hf fa; intro fa hf
  apply wpList_nil
  (try simp only [Exit.then, Exit.inBlock, ↓reduceIte, Nat.reduceEqDiff])
  refine hK2 _ _ ?_
  refine wp_ret ?_
  (try simp only [Exit.then, Exit.inBlock])
  refine ret1 hf rfl rfl ?_
  exact ⟨_, rfl, _, _, _, rfl, hBsb1, hk2, hr2, hk1, hb.grown⟩

theorem left_of_row {k e base n c : Nat} {w : World} {a : Option Addr} {X : List Int} (h : Row 1 (vInt .u8) e base w (.slice a n c) X) (hX : ∀ x ∈ X, 0 ≤ x ∧ x < 256) : Ut.LeftN w (.slice a n c) (X.map Int.toNat) := by
  have hc := h.caps
  refine ⟨a, c, by rw [List.length_map, hc.1], fun j hj => ?_, by rw [List.length_map]; omega, fun x hx => ?_⟩
  · rw [List.length_map] at hj
    have hg := List.getElem?_eq_getElem hj
    obtain ⟨b, off, ha, hlt, hcell⟩ := RdS.at (Row.rd (by intros; rfl) h) hg
    refine ⟨b, off, ha, ?_, hlt⟩
    have h0 := hX _ (List.getElem_mem hj)
    have := cellsAt_cell hcell (i := 0) (q := off + j) (v := .int .u8 X[j]) rfl (by omega)
    rw [this]
    have : (X.map Int.toNat).getD j 0 = X[j].toNat := by rw [List.getD_eq_getElem?_getD, List.getElem?_map, hg]; rfl
    rw [this, Int.toNat_of_nonneg h0.1]
  · obtain ⟨y, hy, rfl⟩ := List.mem_map.1 hx
    have := hX y hy
    omega
def goodN (X : List Int) : Prop := (∀ x ∈ X, 0 ≤ x ∧ x < 256) ∧ 0 ≤ Ut.cnt (X.map Int.toNat)
theorem bl_nums (s : ByteArray) : Ut.bl s = (nums s).map Int.toNat := by
  unfold Ut.bl nums
  rw [List.map_map]
  rfl
theorem goodN_of {s : ByteArray} (h : Ut.checkF s = 0) : goodN (nums s) ∧ (nums s).length ≤ 200 := by
  unfold Ut.checkF at h
  split at h
  · cases h
  · split at h
    · rename_i h1 h2
      exact ⟨⟨nums_rng s, by rw [← bl_nums]; exact h2⟩, by rw [nums_len]; omega⟩
    · cases h

set_option maxHeartbeats 1000000 in
set_option maxRecDepth 100000 in
theorem sname_any (bs base p : Nat) (a : Option Addr) (c : Nat) (l : List Int) (w : World) (hks : w.heap[bs]? = some (.cells #[(.slice a l.length c), (.int .i64 ((p : Nat) : Int))] 161 (0, 0))) (hr0 : Row 1 (vInt .u8) 5 base w (.slice a l.length c) l) (hp : p ≤ l.length) (hb6 : ∀ y ∈ l, 0 ≤ y ∧ y < 256) (hlm : l.length ≤ 1000000) (X : List Int) (hA : At l p (uL X.length ++ X)) (hX : X.length ≤ 200) (hU : goodN X) : Calls Try.prog 125 #[(.pointer (some ⟨bs, 0, none⟩))] w fun e w' => e = .returned (.string (strOfNums X)) ∧ Wrote w bs #[(.slice a l.length c), (.int .i64 (((p + (uL X.length).length + X.length) : Nat) : Int))] 161 w' := by
  have hcap := Row.caps hr0; have hR0lt := fun q hq => (Row.lt hr0 q hq).2; have hle := hA.le; simp only [List.length_append] at hle; have hU2 := decide_eq_true hU.2
  refine sx_enter (L := [(0, (.pointer (some ⟨bs, 0, none⟩)))]) Try.func125 rfl rfl rfl rfl (fun fa hf => ?_)
  have hb : KB bs w.heap.size w w := KB.refl _ _ _
  refine wp_seq_k (fun K1 hK1 => ?_)
  refine wp_region_lit ?_
  refine sqv hf (r_assign rfl) rfl rfl rfl ?_; clear hf fa; intro fa hf
  apply wpList_nil
  (try simp only [Exit.then, Exit.inBlock, ↓reduceIte, Nat.reduceEqDiff])
  refine hK1 _ _ ?_
  refine wp_seq_k (fun K2 hK2 => ?_)
  refine wp_region_lit ?_
  refine sqv hf (r_move rfl) rfl rfl rfl ?_; clear hf fa; intro fa hf
  refine sqv hf (r_nilCheck rfl) rfl rfl rfl ?_; clear hf fa; intro fa hf
  refine sqv hf (r_fa rfl Try.underlying161 (f := 1) (q := 1) rfl (by kernel_rfl) rfl) rfl rfl rfl ?_; clear hf fa; intro fa hf
  refine sqv hf (r_load (v := (.int .i64 ((p : Nat) : Int))) rfl Try.underlying3 rfl (cell_blk hks rfl)) rfl rfl rfl ?_; clear hf fa; intro fa hf
  refine sqv hf (r_assign rfl) rfl rfl rfl ?_; clear hf fa; intro fa hf
  apply wpList_nil
  (try simp only [Exit.then, Exit.inBlock, ↓reduceIte, Nat.reduceEqDiff])
  refine hK2 _ _ ?_
  refine wp_seq_k (fun K3 hK3 => ?_)
  refine wp_region_lit ?_
  refine sqv hf (r_move rfl) rfl rfl rfl ?_; clear hf fa; intro fa hf
  refine sqdt hf (d_callW (v := (.int .u32 ((X.length : Nat) : Int))) (b := bs) (T := 161) (cs := #[(.slice a l.length c), (.int .i64 (((p + (uL X.length).length) : Nat) : Int))]) (vs := [(.pointer (some ⟨bs, 0, none⟩))]) rfl Try.func121 (by kernel_rfl) (by kernel_rfl) (index_any bs base p a c l _ hks hr0 (by omega) hb6 hlm X.length (At.fst hA) (by omega))) rfl rfl rfl ?_; clear hf fa; rintro fa _ w1 ⟨rfl, hk1, hg1⟩ hf
  replace hr0 := Row.grown hr0 hg1 (Row.ne_type hr0 hks rfl)
  replace hb := hb.wrote hg1 hb.size
  refine sqv hf (r_assign rfl) rfl rfl rfl ?_; clear hf fa; intro fa hf
  apply wpList_nil
  (try simp only [Exit.then, Exit.inBlock, ↓reduceIte, Nat.reduceEqDiff])
  refine hK3 _ _ ?_
  refine wp_seq_k (fun K4 hK4 => ?_)
  refine wp_region_lit ?_
  refine sqv hf (r_move rfl) rfl rfl rfl ?_; clear hf fa; intro fa hf
  refine sqv hf (r_le rfl rfl) rfl rfl rfl ?_; clear hf fa; intro fa hf
  refine sqv hf (r_move rfl) rfl rfl rfl ?_; clear hf fa; intro fa hf
  refine sqdt hf (d_callB (vs := [(.bool (decide (((X.length : Nat) : Int) ≤ (200 : Int)))), (.int .i64 (13 : Int)), (.int .i64 ((p : Nat) : Int))]) rfl Try.func118 (by kernel_rfl) (by kernel_rfl) (unless_any (decide (((X.length : Nat) : Int) ≤ (200 : Int))) (13 : Int) ((p : Nat) : Int) _ (by first | rfl | assumption | (simp; done) | (simp; omega)))) rfl rfl rfl ?_; clear hf fa; rintro fa _ w2 ⟨rfl, he1⟩ hf
  replace hk1 := blk_ext hk1 he1
  replace hr0 := Row.ext hr0 he1
  replace hb := hb.trans (Below.mono he1 hb.size)
  apply wpList_nil
  (try simp only [Exit.then, Exit.inBlock, ↓reduceIte, Nat.reduceEqDiff])
  refine hK4 _ _ ?_
  refine wp_seq_k (fun K5 hK5 => ?_)
  refine wp_region_lit ?_
  refine sqv hf (r_move rfl) rfl rfl rfl ?_; clear hf fa; intro fa hf
  refine sqv hf (r_move rfl) rfl rfl rfl ?_; clear hf fa; intro fa hf
  refine sqv hf (r_conv (C := ((X.length : Nat) : Int)) rfl Try.underlying24 Try.underlying3 (by rw [IntKind.wrap_i64]; omega)) rfl rfl rfl ?_; clear hf fa; intro fa hf
  refine sqdt hf (d_callX (vs := [(.pointer (some ⟨bs, 0, none⟩)), (.int .i64 ((X.length : Nat) : Int))]) rfl Try.func119 (by kernel_rfl) (by kernel_rfl) (sbytes_any bs base ((p + (uL X.length).length)) a c l _ hk1 hr0 (by omega) X (At.snd hA) (by omega))) rfl rfl rfl ?_; clear hf fa; rintro fa v w3 ⟨hr1, hk2, hg2⟩ hf
  obtain ⟨ra1, rc1, rfl, hcrc1, hmrc1⟩ := Row.slice hr1
  replace hr1 := Row.rebase hr1 hb.size
  replace hr0 := Row.grown hr0 hg2 (Row.ne_type hr0 hk1 rfl)
  replace hb := hb.wrote hg2 hb.size
  refine sqv hf (r_assign rfl) rfl rfl rfl ?_; clear hf fa; intro fa hf
  apply wpList_nil
  (try simp only [Exit.then, Exit.inBlock, ↓reduceIte, Nat.reduceEqDiff])
  refine hK5 _ _ ?_
  refine wp_seq_k (fun K6 hK6 => ?_)
  refine wp_region_lit ?_
  refine sqv hf (r_move rfl) rfl rfl rfl ?_; clear hf fa; intro fa hf
  refine sqdt hf (d_callS (vs := [(.slice ra1 X.length rc1)]) rfl Try.func147 (by kernel_rfl) (by kernel_rfl) (Ut.right_any (X.map Int.toNat) _ _ (left_of_row (k := 0) hr1 hU.1) (by rw [List.length_map]; omega))) rfl rfl rfl ?_; clear hf fa; rintro fa _ _ ⟨rfl, rfl⟩ hf
  refine sqv hf (r_move rfl) rfl rfl rfl ?_; clear hf fa; intro fa hf
  refine sqdt hf (d_callB (vs := [(.bool (decide (0 ≤ Ut.cnt (X.map Int.toNat)))), (.int .i64 (4 : Int)), (.int .i64 ((p : Nat) : Int))]) rfl Try.func118 (by kernel_rfl) (by kernel_rfl) (unless_any (decide (0 ≤ Ut.cnt (X.map Int.toNat))) (4 : Int) ((p : Nat) : Int) _ (by first | rfl | assumption | (simp; done) | (simp; omega)))) rfl rfl rfl ?_; clear hf fa; rintro fa _ w4 ⟨rfl, he2⟩ hf
  replace hk2 := blk_ext hk2 he2
  replace hr0 := Row.ext hr0 he2
  replace hr1 := Row.ext hr1 he2
  replace hb := hb.trans (Below.mono he2 hb.size)
  apply wpList_nil
  (try simp only [Exit.then, Exit.inBlock, ↓reduceIte, Nat.reduceEqDiff])
  refine hK6 _ _ ?_
  refine wp_seq_k (fun K7 hK7 => ?_)
  refine wp_region_lit ?_
  refine sqv hf (r_move rfl) rfl rfl rfl ?_; clear hf fa; intro fa hf
  refine sqv hf (r_rowstr rfl Try.underlying47 Try.underlying5 Try.underlying9 hr1) rfl rfl rfl ?_; clear hf fa; intro fa hf
  refine sqv hf (r_assign rfl) rfl rfl rfl ?_; clear hf fa; intro fa hf
  apply wpList_nil
  (try simp only [Exit.then, Exit.inBlock, ↓reduceIte, Nat.reduceEqDiff])
  refine hK7 _ _ ?_
  refine wp_ret ?_
  (try simp only [Exit.then, Exit.inBlock])
  refine ret1 hf rfl rfl ?_
  exact ⟨rfl, hk2, hb.grown⟩
end Go.Proofs.Ytcmdajkkdognfaa
