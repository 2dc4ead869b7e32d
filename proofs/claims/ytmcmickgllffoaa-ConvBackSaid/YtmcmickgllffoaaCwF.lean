/- What is proved here: ConvBack, walked. -/
import Derived.Test.YtmcmickgllffoaaCwD
namespace Go.Proofs.Ytmcmickgllffoaa
open Go.RowKit
set_option linter.unusedVariables false
set_option linter.unusedSimpArgs false
def wOp (j : Nat) : Nat := [54, 55, 58, 59, 60, 61, 62].getD j 0
def rOp (j : Nat) : Nat := [40, 41, 45, 47, 49, 51, 53].getD j 0
def sOp (j : Nat) : Nat := [40, 41, 44, 46, 48, 50, 52].getD j 0
def widO (j : Nat) : Nat := [4, 8, 1, 2, 1, 2, 4].getD j 0
def tyO (j : Nat) : Int := [127, 126, 127, 127, 126, 126, 126].getD j 0
def sgO (j : Nat) : Bool := decide (2 ≤ j)
theorem at7 {j : Nat} (h : j < 7) : ([(54 : Int), 55, 58, 59, 60, 61, 62] : List Int)[j]? = some ((wOp j : Nat) : Int) ∧ ([(40 : Int), 41, 45, 47, 49, 51, 53] : List Int)[j]? = some ((rOp j : Nat) : Int) ∧ ([(40 : Int), 41, 44, 46, 48, 50, 52] : List Int)[j]? = some ((sOp j : Nat) : Int) := by
  have : ∀ j : Fin 7, ([(54 : Int), 55, 58, 59, 60, 61, 62] : List Int)[j.val]? = some ((wOp j.val : Nat) : Int) ∧ ([(40 : Int), 41, 45, 47, 49, 51, 53] : List Int)[j.val]? = some ((rOp j.val : Nat) : Int) ∧ ([(40 : Int), 41, 44, 46, 48, 50, 52] : List Int)[j.val]? = some ((sOp j.val : Nat) : Int) := by decide
  exact this ⟨j, h⟩
theorem tab7 {j : Nat} (h : j < 7) : accT (wOp j) = (((widO j : Nat) : Int), tyO j, true, false, true) ∧ accT (rOp j) = (((widO j : Nat) : Int), tyO j, false, false, true) ∧ accT (sOp j) = (((widO j : Nat) : Int), tyO j, false, sgO j, true) ∧ 1 ≤ widO j ∧ widO j ≤ 8 ∧ (tyO j = 127 → widO j ≤ 4) ∧ (sgO j = false → (widO j = 4 ∧ tyO j = 127) ∨ (widO j = 8 ∧ tyO j = 126)) ∧ wOp j < 256 ∧ rOp j < 256 ∧ sOp j < 256 ∧ 0 ≤ tyO j ∧ tyO j < 256 := by
  have : ∀ j : Fin 7, accT (wOp j.val) = (((widO j.val : Nat) : Int), tyO j.val, true, false, true) ∧ accT (rOp j.val) = (((widO j.val : Nat) : Int), tyO j.val, false, false, true) ∧ accT (sOp j.val) = (((widO j.val : Nat) : Int), tyO j.val, false, sgO j.val, true) ∧ 1 ≤ widO j.val ∧ widO j.val ≤ 8 ∧ (tyO j.val = 127 → widO j.val ≤ 4) ∧ (sgO j.val = false → (widO j.val = 4 ∧ tyO j.val = 127) ∨ (widO j.val = 8 ∧ tyO j.val = 126)) ∧ wOp j.val < 256 ∧ rOp j.val < 256 ∧ sOp j.val < 256 ∧ 0 ≤ tyO j.val ∧ tyO j.val < 256 := by decide +kernel
  exact this ⟨j, h⟩
theorem readT_of {op : Nat} {n ty : Int} {s : Bool} {l : List Int} (h : accT op = (n, ty, false, s, true)) (hl : ((l.length : Nat) : Int) = n) :
    readT op l = (ty, (if ty = 127 then (if s = true then extP (numL (l.take 8)) n else numL (l.take 8)) % 4294967296 else if s = true then extP (numL (l.take 8)) n else numL (l.take 8)), true) := by
  unfold readT
  rw [h, if_pos ⟨rfl, rfl, hl⟩]
theorem num_by {k v : Nat} (h : k ≤ 8) : numL ((bytesN k v).take 8) = v % 256 ^ k := by
  rw [List.take_of_length_le (by rw [bytesN_len]; exact h), numL_bytes]
def sgnV (j v : Nat) : Nat := if tyO j = 127 then extN v (widO j) % 4294967296 else extN v (widO j)
theorem read_r {j v : Nat} (hj : j < 7) : readT (rOp j) (bytesN (widO j) v) = (tyO j, v % 256 ^ widO j, true) := by
  obtain ⟨_, h2, _, h4, h5, h6, _⟩ := tab7 hj
  rw [readT_of h2 (by rw [bytesN_len]), num_by h5]
  simp only [Bool.false_eq_true, if_false]
  split
  · rename_i h
    have h8 := h6 h
    have hp := Nat.pow_le_pow_right (n := 256) (by omega) h8
    have hm := Nat.mod_lt v (Nat.pow_pos (n := widO j) (show 0 < 256 by omega))
    rw [Nat.mod_eq_of_lt (a := v % 256 ^ widO j) (by omega)]
  · rfl
theorem extN_48 {v : Nat} (hv : v < 18446744073709551616) : extN v 4 % 4294967296 = v % 4294967296 ∧ extN v 8 = v := by
  unfold extN
  simp only [Nat.reduceMul, Nat.reduceSub, Nat.reducePow]
  constructor <;> split <;> omega
theorem read_s {j v : Nat} (hj : j < 7) (hv : v < 18446744073709551616) : readT (sOp j) (bytesN (widO j) v) = (tyO j, sgnV j v, true) := by
  obtain ⟨_, _, h3, h4, h5, _, h7, _⟩ := tab7 hj
  rw [readT_of h3 (by rw [bytesN_len]), num_by h5]
  have he : extP (v % 256 ^ widO j) ((widO j : Nat) : Int) = extN v (widO j) := by
    unfold extP
    rw [if_neg (by omega), Int.toNat_natCast, ext_low]
  rw [he]
  unfold sgnV
  cases hs : sgO j with
  | true => simp only [if_true]
  | false =>
    simp only [Bool.false_eq_true, if_false]
    obtain ⟨e4, e8⟩ := extN_48 hv
    rcases h7 hs with ⟨hw, ht⟩ | ⟨hw, ht⟩
    · rw [hw, ht, if_pos rfl, if_pos rfl, e4, show (256 : Nat) ^ 4 = 4294967296 from rfl, Nat.mod_mod]
    · rw [hw, ht, if_neg (by decide), if_neg (by decide), e8, show (256 : Nat) ^ 8 = 18446744073709551616 from rfl, Nat.mod_eq_of_lt hv]
theorem sgnV_lt {j v : Nat} (hj : j < 7) : sgnV j v < 18446744073709551616 := by
  obtain ⟨_, _, _, h4, h5, _⟩ := tab7 hj
  have := extN_lt (v := v) (n := widO j) ⟨h4, h5⟩
  unfold sgnV
  split <;> omega
theorem rem7 (x : Nat) : ((x : Nat) : Int).tmod 7 = ((x % 7 : Nat) : Int) := by rw [Int.tmod_eq_emod_of_nonneg (by omega)]; omega
theorem shr_fin {v n : Nat} (hn : 1 ≤ n ∧ n ≤ 8) : (((v * 2 ^ (64 - 8 * n) % 18446744073709551616 : Nat) : Int)).fdiv (2 ^ (min (64 - 8 * n) IntKind.u64.bits)) = ((v % 256 ^ n : Nat) : Int) := by
  rw [show min (64 - 8 * n) IntKind.u64.bits = 64 - 8 * n from by simp [IntKind.bits]]
  have h : n = 1 ∨ n = 2 ∨ n = 3 ∨ n = 4 ∨ n = 5 ∨ n = 6 ∨ n = 7 ∨ n = 8 := by omega
  rcases h with rfl | rfl | rfl | rfl | rfl | rfl | rfl | rfl <;>
    (simp only [Nat.reduceMul, Nat.reduceSub, Nat.reducePow, Int.reducePow]
     rw [Int.fdiv_eq_ediv_of_nonneg _ (by decide)]
     omega)
theorem and32 {x : Nat} (h : x < 18446744073709551616) : bits .and .u64 ((x : Nat) : Int) 4294967295 = ((x % 4294967296 : Nat) : Int) := by
  have := u64_and_nat x 4294967295 h (by decide)
  rw [show ((4294967295 : Nat) : Int) = 4294967295 from rfl] at this
  rw [this, show 4294967295 = 2 ^ 32 - 1 from rfl, Nat.and_two_pow_sub_one_eq_mod]
theorem write_w (j v : Nat) (w : World) (hj : j < 7) (hv : v < 18446744073709551616) : Calls Try.prog 46 #[.int .u8 ((wOp j : Nat) : Int), .int .u64 ((v : Nat) : Int)] w fun e w' => ∃ x, e = .returned x ∧ ∃ a c, x = .tuple #[.slice a (widO j) c, .bool true] ∧ Row 1 (vInt .u8) 5 w.heap.size w' (.slice a (widO j) c) (bytesN (widO j) v) ∧ Below w.heap.size w w' := by
  obtain ⟨h1, _, _, h4, h5, _, _, h8, _⟩ := tab7 hj
  have h := write_any (wOp j) v w hv h8
  have e : writeT (wOp j) v = (bytesN (widO j) v, true) := by unfold writeT; rw [h1, if_pos ⟨rfl, rfl⟩, capN_nat h5]
  rw [e] at h
  rw [show (bytesN (widO j) v, true).1.length = widO j from bytesN_len _ _] at h
  exact h
theorem read_w (op j v x : Nat) (a : Option Addr) (c : Nat) (w : World) (hj : j < 7) (hop : op < 256) (h : readT op (bytesN (widO j) v) = (tyO j, x, true)) (hl : RdS 1 (vInt .u8) w a (bytesN (widO j) v)) : Calls Try.prog 44 #[.int .u8 ((op : Nat) : Int), .slice a (widO j) c] w fun e w' => e = .returned (.tuple #[.agg #[.int .u8 (tyO j), .int .u64 ((x : Nat) : Int)], .bool true]) ∧ Below w.heap.size w w' := by
  have hk := read_any op a (bytesN (widO j) v) c w hl (bytesN_rng _ _) (by rw [bytesN_len]; obtain ⟨_, _, _, _, h5, _⟩ := tab7 hj; omega) hop
  rw [h, bytesN_len] at hk
  exact hk

set_option maxHeartbeats 1000000 in
set_option maxRecDepth 100000 in
theorem back_any (a b : Nat) (w : World) (hv : a < 18446744073709551616) (hb8 : b < 256) : Calls Try.prog 7 #[(.int .u64 ((a : Nat) : Int)), (.int .u8 ((b : Nat) : Int))] w fun e w' => e = .returned (.bool true) ∧ Below w.heap.size w w' := by
  have hj : b % 7 < 7 := Nat.mod_lt _ (by omega)
  obtain ⟨_, _, _, hw1, hw8, hw4, _, hopw, hopr, hops, hty0, hty1⟩ := tab7 hj
  have hext := extN_lt (v := a) (n := (widO (b % 7))) ⟨hw1, hw8⟩
  have hsgl := sgnV_lt (v := a) hj
  refine sx_enter (L := [(0, (.int .u64 ((a : Nat) : Int))), (1, (.int .u8 ((b : Nat) : Int)))]) Try.func7 rfl rfl rfl rfl (fun fa hf => ?_)
  have hb : Below w.heap.size w w := Below.refl _ _
  refine wp_seq_k (fun K1 hK1 => ?_)
  refine wp_region_lit ?_
  refine sqv hf (r_assign rfl) rfl rfl rfl ?_; clear hf fa; intro fa hf
  apply wpList_nil
  (try simp only [Exit.then, Exit.inBlock, ↓reduceIte, Nat.reduceEqDiff])
  refine hK1 _ _ ?_
  refine wp_seq_k (fun K2 hK2 => ?_)
  refine wp_seq_k (fun K3 hK3 => ?_)
  refine wp_region_lit ?_
  refine sqdt hf (d_callB (vs := []) rfl Try.func43 (by kernel_rfl) (by kernel_rfl) (awake_any _)) rfl rfl rfl ?_; clear hf fa; rintro fa _ w1 ⟨rfl, he1⟩ hf
  replace hb := hb.trans (Below.mono he1 hb.size)
  refine sqv hf (Runs.veq (v' := (.bool false)) (r_not rfl) rfl) rfl rfl rfl ?_; clear hf fa; intro fa hf
  apply wpList_nil
  (try simp only [Exit.then, Exit.inBlock, ↓reduceIte, Nat.reduceEqDiff])
  refine hK3 _ _ ?_
  refine wp_cond_false (hf.ev rfl) ?_
  refine wp_skip ?_
  (try simp only [Exit.then, Exit.inBlock, ↓reduceIte, Nat.reduceEqDiff])
  refine hK2 _ _ ?_
  refine wp_seq_k (fun K4 hK4 => ?_)
  refine wp_region_lit ?_
  refine sqdt hf (d_bslice (z := (.int .u8 (0 : Int))) (sz := 1) (vs := [(0, (.int .u8 (54 : Int))), (1, (.int .u8 (55 : Int))), (2, (.int .u8 (58 : Int))), (3, (.int .u8 (59 : Int))), (4, (.int .u8 (60 : Int))), (5, (.int .u8 (61 : Int))), (6, (.int .u8 (62 : Int)))]) (cs := #[(.int .u8 (54 : Int)), (.int .u8 (55 : Int)), (.int .u8 (58 : Int)), (.int .u8 (59 : Int)), (.int .u8 (60 : Int)), (.int .u8 (61 : Int)), (.int .u8 (62 : Int))]) rfl Try.underlying84 (by kernel_rfl) rfl (by kernel_rfl)) rfl rfl rfl ?_; clear hf fa; rintro fa _ w2 ⟨b1, rfl, hle1, hk1, he2⟩ hf
  have hBb1 : w.heap.size ≤ b1 := Nat.le_trans hb.size hle1
  replace hb := hb.trans (Below.mono he2 hb.size)
  refine sqv hf (r_assign rfl) rfl rfl rfl ?_; clear hf fa; intro fa hf
  apply wpList_nil
  (try simp only [Exit.then, Exit.inBlock, ↓reduceIte, Nat.reduceEqDiff])
  refine hK4 _ _ ?_
  refine wp_seq_k (fun K5 hK5 => ?_)
  refine wp_region_lit ?_
  refine sqdt hf (d_bslice (z := (.int .u8 (0 : Int))) (sz := 1) (vs := [(0, (.int .u8 (40 : Int))), (1, (.int .u8 (41 : Int))), (2, (.int .u8 (45 : Int))), (3, (.int .u8 (47 : Int))), (4, (.int .u8 (49 : Int))), (5, (.int .u8 (51 : Int))), (6, (.int .u8 (53 : Int)))]) (cs := #[(.int .u8 (40 : Int)), (.int .u8 (41 : Int)), (.int .u8 (45 : Int)), (.int .u8 (47 : Int)), (.int .u8 (49 : Int)), (.int .u8 (51 : Int)), (.int .u8 (53 : Int))]) rfl Try.underlying84 (by kernel_rfl) rfl (by kernel_rfl)) rfl rfl rfl ?_; clear hf fa; rintro fa _ w3 ⟨b2, rfl, hle2, hk2, he3⟩ hf
  have hBb2 : w.heap.size ≤ b2 := Nat.le_trans hb.size hle2
  have : b1 < b2 := Nat.lt_of_lt_of_le (blk_lt hk1) hle2
  replace hk1 := blk_ext hk1 he3
  replace hb := hb.trans (Below.mono he3 hb.size)
  refine sqv hf (r_assign rfl) rfl rfl rfl ?_; clear hf fa; intro fa hf
  apply wpList_nil
  (try simp only [Exit.then, Exit.inBlock, ↓reduceIte, Nat.reduceEqDiff])
  refine hK5 _ _ ?_
  refine wp_seq_k (fun K6 hK6 => ?_)
  refine wp_region_lit ?_
  refine sqdt hf (d_bslice (z := (.int .u8 (0 : Int))) (sz := 1) (vs := [(0, (.int .u8 (40 : Int))), (1, (.int .u8 (41 : Int))), (2, (.int .u8 (44 : Int))), (3, (.int .u8 (46 : Int))), (4, (.int .u8 (48 : Int))), (5, (.int .u8 (50 : Int))), (6, (.int .u8 (52 : Int)))]) (cs := #[(.int .u8 (40 : Int)), (.int .u8 (41 : Int)), (.int .u8 (44 : Int)), (.int .u8 (46 : Int)), (.int .u8 (48 : Int)), (.int .u8 (50 : Int)), (.int .u8 (52 : Int))]) rfl Try.underlying84 (by kernel_rfl) rfl (by kernel_rfl)) rfl rfl rfl ?_; clear hf fa; rintro fa _ w4 ⟨b3, rfl, hle3, hk3, he4⟩ hf
  have hBb3 : w.heap.size ≤ b3 := Nat.le_trans hb.size hle3
  have : b1 < b3 := Nat.lt_of_lt_of_le (blk_lt hk1) hle3
  have : b2 < b3 := Nat.lt_of_lt_of_le (blk_lt hk2) hle3
  replace hk1 := blk_ext hk1 he4
  replace hk2 := blk_ext hk2 he4
  replace hb := hb.trans (Below.mono he4 hb.size)
  refine sqv hf (r_assign rfl) rfl rfl rfl ?_; clear hf fa; intro fa hf
  apply wpList_nil
  (try simp only [Exit.then, Exit.inBlock, ↓reduceIte, Nat.reduceEqDiff])
  refine hK6 _ _ ?_
  refine wp_seq_k (fun K7 hK7 => ?_)
  refine wp_region_lit ?_
  refine sqv hf (r_move rfl) rfl rfl rfl ?_; clear hf fa; intro fa hf
  refine sqv hf (r_conv (C := ((b : Nat) : Int)) rfl Try.underlying5 Try.underlying3 (by rw [IntKind.wrap_i64]; omega)) rfl rfl rfl ?_; clear hf fa; intro fa hf
  refine sqv hf (r_rem (C := (((b % 7) : Nat) : Int)) rfl rfl (by omega) (rem7 b)) rfl rfl rfl ?_; clear hf fa; intro fa hf
  refine sqv hf (r_assign rfl) rfl rfl rfl ?_; clear hf fa; intro fa hf
  apply wpList_nil
  (try simp only [Exit.then, Exit.inBlock, ↓reduceIte, Nat.reduceEqDiff])
  refine hK7 _ _ ?_
  refine wp_seq_k (fun K8 hK8 => ?_)
  have hr1 := Row.of_new (k := 1) (V := (vInt .u8)) (l := [(54 : Int), (55 : Int), (58 : Int), (59 : Int), (60 : Int), (61 : Int), (62 : Int)]) (base := w.heap.size) hk1 (by omega) rfl rfl (Nat.le_of_ble_eq_true rfl)
  have hr2 := Row.of_new (k := 1) (V := (vInt .u8)) (l := [(40 : Int), (41 : Int), (45 : Int), (47 : Int), (49 : Int), (51 : Int), (53 : Int)]) (base := w.heap.size) hk2 (by omega) rfl rfl (Nat.le_of_ble_eq_true rfl)
  have hr3 := Row.of_new (k := 1) (V := (vInt .u8)) (l := [(40 : Int), (41 : Int), (44 : Int), (46 : Int), (48 : Int), (50 : Int), (52 : Int)]) (base := w.heap.size) hk3 (by omega) rfl rfl (Nat.le_of_ble_eq_true rfl)
  skip
  refine wp_region_lit ?_
  refine sqv hf (r_move rfl) rfl rfl rfl ?_; clear hf fa; intro fa hf
  refine sqv hf (r_move rfl) rfl rfl rfl ?_; clear hf fa; intro fa hf
  have hy1 : ([(54 : Int), (55 : Int), (58 : Int), (59 : Int), (60 : Int), (61 : Int), (62 : Int)])[((b % 7))]? = some ((wOp (b % 7) : Nat) : Int) := (at7 hj).1
  have hel1 := RdS.at (Row.rd (by intros; rfl) hr1) hy1
  obtain ⟨_, _, hab, hlr1, hel1⟩ := hel1
  cases hab
  refine sqv hf (r_ixa (sz := 1) (j := ((b % 7))) rfl rfl Try.underlying84 (by kernel_rfl) rfl (by omega) rfl) rfl rfl rfl ?_; clear hf fa; intro fa hf
  refine sqv hf (r_load (v := (.int .u8 (((wOp (b % 7) : Nat) : Int)))) rfl Try.underlying5 rfl (cellsAt_cell hel1 (i := 0) rfl rfl)) rfl rfl rfl ?_; clear hf fa; intro fa hf
  refine sqv hf (r_move rfl) rfl rfl rfl ?_; clear hf fa; intro fa hf
  refine sqdt hf (d_callX (vs := [(.int .u8 (((wOp (b % 7) : Nat) : Int))), (.int .u64 ((a : Nat) : Int))]) rfl Try.func46 (by kernel_rfl) (by kernel_rfl) (write_w (b % 7) a _ hj hv)) rfl rfl rfl ?_; clear hf fa; rintro fa _ w5 ⟨qa1, qc1, rfl, hr4, he5⟩ hf
  replace hr4 := Row.rebase hr4 hb.size
  replace hr1 := Row.ext hr1 he5
  replace hr2 := Row.ext hr2 he5
  replace hr3 := Row.ext hr3 he5
  replace hb := hb.trans (Below.mono he5 hb.size)
  have hchr4 := Row.caps hr4
  refine sqv hf (r_move rfl) rfl rfl rfl ?_; clear hf fa; intro fa hf
  refine sqv hf (r_extract rfl (i := 0) rfl) rfl rfl rfl ?_; clear hf fa; intro fa hf
  refine sqv hf (r_extract rfl (i := 1) rfl) rfl rfl rfl ?_; clear hf fa; intro fa hf
  refine sqv hf (r_assign rfl) rfl rfl rfl ?_; clear hf fa; intro fa hf
  refine sqv hf (r_assign rfl) rfl rfl rfl ?_; clear hf fa; intro fa hf
  apply wpList_nil
  (try simp only [Exit.then, Exit.inBlock, ↓reduceIte, Nat.reduceEqDiff])
  refine hK8 _ _ ?_
  refine wp_seq_k (fun K9 hK9 => ?_)
  refine wp_region_lit ?_
  refine sqv hf (r_move rfl) rfl rfl rfl ?_; clear hf fa; intro fa hf
  refine sqv hf (r_move rfl) rfl rfl rfl ?_; clear hf fa; intro fa hf
  have hy2 : ([(40 : Int), (41 : Int), (45 : Int), (47 : Int), (49 : Int), (51 : Int), (53 : Int)])[((b % 7))]? = some ((rOp (b % 7) : Nat) : Int) := (at7 hj).2.1
  have hel2 := RdS.at (Row.rd (by intros; rfl) hr2) hy2
  obtain ⟨_, _, hab, hlr2, hel2⟩ := hel2
  cases hab
  refine sqv hf (r_ixa (sz := 1) (j := ((b % 7))) rfl rfl Try.underlying84 (by kernel_rfl) rfl (by omega) rfl) rfl rfl rfl ?_; clear hf fa; intro fa hf
  refine sqv hf (r_load (v := (.int .u8 (((rOp (b % 7) : Nat) : Int)))) rfl Try.underlying5 rfl (cellsAt_cell hel2 (i := 0) rfl rfl)) rfl rfl rfl ?_; clear hf fa; intro fa hf
  refine sqv hf (r_move rfl) rfl rfl rfl ?_; clear hf fa; intro fa hf
  refine sqdt hf (d_callB (vs := [(.int .u8 (((rOp (b % 7) : Nat) : Int))), (.slice qa1 ((widO (b % 7))) qc1)]) rfl Try.func44 (by kernel_rfl) (by kernel_rfl) (read_w (rOp (b % 7)) (b % 7) a (a % 256 ^ (widO (b % 7))) _ _ _ hj hopr (read_r hj) (Row.rd (by intros; rfl) hr4))) rfl rfl rfl ?_; clear hf fa; rintro fa _ w6 ⟨rfl, he6⟩ hf
  replace hr1 := Row.ext hr1 he6
  replace hr2 := Row.ext hr2 he6
  replace hr3 := Row.ext hr3 he6
  replace hr4 := Row.ext hr4 he6
  replace hb := hb.trans (Below.mono he6 hb.size)
  refine sqv hf (r_move rfl) rfl rfl rfl ?_; clear hf fa; intro fa hf
  refine sqv hf (r_extract rfl (i := 0) rfl) rfl rfl rfl ?_; clear hf fa; intro fa hf
  refine sqv hf (r_extract rfl (i := 1) rfl) rfl rfl rfl ?_; clear hf fa; intro fa hf
  refine sqdt hf (d_alloc (z := (.agg #[(.int .u8 (0 : Int)), (.int .u64 (0 : Int))])) (cs := #[(.int .u8 (0 : Int)), (.int .u64 (0 : Int))]) (by kernel_rfl) rfl) rfl rfl rfl ?_; clear hf fa; rintro fa _ w7 ⟨b4, rfl, hle4, hk4, he7⟩ hf
  have hBb4 : w.heap.size ≤ b4 := Nat.le_trans hb.size hle4
  have : b1 < b4 := Nat.lt_of_lt_of_le (Row.lt hr1 _ rfl).2 hle4
  have : b2 < b4 := Nat.lt_of_lt_of_le (Row.lt hr2 _ rfl).2 hle4
  have : b3 < b4 := Nat.lt_of_lt_of_le (Row.lt hr3 _ rfl).2 hle4
  replace hr1 := Row.ext hr1 he7
  replace hr2 := Row.ext hr2 he7
  replace hr3 := Row.ext hr3 he7
  replace hr4 := Row.ext hr4 he7
  replace hb := hb.trans (Below.mono he7 hb.size)
  refine sqn hf (d_storeK (T := 86) (v := (.agg #[(.int .u8 ((tyO (b % 7)))), (.int .u64 (((a % 256 ^ (widO (b % 7))) : Nat) : Int))])) (cs := #[(.int .u8 (0 : Int)), (.int .u64 (0 : Int))]) (cs' := #[(.int .u8 ((tyO (b % 7)))), (.int .u64 (((a % 256 ^ (widO (b % 7))) : Nat) : Int))]) rfl rfl (by kernel_rfl) (by kernel_rfl) hk4 (by kernel_rfl) (by kernel_rfl)) rfl rfl ?_; clear hf fa; rintro fa _ w8 ⟨hk5, hg1⟩ hf
  replace hr1 := Row.grown hr1 hg1 (Row.ne_type hr1 hk4 rfl)
  replace hr2 := Row.grown hr2 hg1 (Row.ne_type hr2 hk4 rfl)
  replace hr3 := Row.grown hr3 hg1 (Row.ne_type hr3 hk4 rfl)
  replace hr4 := Row.grown hr4 hg1 (Row.ne_type hr4 hk4 rfl)
  replace hb := hb.trans (grown_below hg1 hb.size hBb4)
  refine sqv hf (r_assign rfl) rfl rfl rfl ?_; clear hf fa; intro fa hf
  apply wpList_nil
  (try simp only [Exit.then, Exit.inBlock, ↓reduceIte, Nat.reduceEqDiff])
  refine hK9 _ _ ?_
  refine wp_seq_k (fun K10 hK10 => ?_)
  refine wp_region_lit ?_
  refine sqv hf (r_move rfl) rfl rfl rfl ?_; clear hf fa; intro fa hf
  refine sqv hf (r_move rfl) rfl rfl rfl ?_; clear hf fa; intro fa hf
  have hy3 : ([(40 : Int), (41 : Int), (44 : Int), (46 : Int), (48 : Int), (50 : Int), (52 : Int)])[((b % 7))]? = some ((sOp (b % 7) : Nat) : Int) := (at7 hj).2.2
  have hel3 := RdS.at (Row.rd (by intros; rfl) hr3) hy3
  obtain ⟨_, _, hab, hlr3, hel3⟩ := hel3
  cases hab
  refine sqv hf (r_ixa (sz := 1) (j := ((b % 7))) rfl rfl Try.underlying84 (by kernel_rfl) rfl (by omega) rfl) rfl rfl rfl ?_; clear hf fa; intro fa hf
  refine sqv hf (r_load (v := (.int .u8 (((sOp (b % 7) : Nat) : Int)))) rfl Try.underlying5 rfl (cellsAt_cell hel3 (i := 0) rfl rfl)) rfl rfl rfl ?_; clear hf fa; intro fa hf
  refine sqv hf (r_move rfl) rfl rfl rfl ?_; clear hf fa; intro fa hf
  refine sqdt hf (d_callB (vs := [(.int .u8 (((sOp (b % 7) : Nat) : Int))), (.slice qa1 ((widO (b % 7))) qc1)]) rfl Try.func44 (by kernel_rfl) (by kernel_rfl) (read_w (sOp (b % 7)) (b % 7) a (sgnV (b % 7) a) _ _ _ hj hops (read_s hj hv) (Row.rd (by intros; rfl) hr4))) rfl rfl rfl ?_; clear hf fa; rintro fa _ w9 ⟨rfl, he8⟩ hf
  replace hk5 := blk_ext hk5 he8
  replace hr1 := Row.ext hr1 he8
  replace hr2 := Row.ext hr2 he8
  replace hr3 := Row.ext hr3 he8
  replace hr4 := Row.ext hr4 he8
  replace hb := hb.trans (Below.mono he8 hb.size)
  refine sqv hf (r_move rfl) rfl rfl rfl ?_; clear hf fa; intro fa hf
  refine sqv hf (r_extract rfl (i := 0) rfl) rfl rfl rfl ?_; clear hf fa; intro fa hf
  refine sqv hf (r_extract rfl (i := 1) rfl) rfl rfl rfl ?_; clear hf fa; intro fa hf
  refine sqdt hf (d_alloc (z := (.agg #[(.int .u8 (0 : Int)), (.int .u64 (0 : Int))])) (cs := #[(.int .u8 (0 : Int)), (.int .u64 (0 : Int))]) (by kernel_rfl) rfl) rfl rfl rfl ?_; clear hf fa; rintro fa _ w10 ⟨b5, rfl, hle5, hk6, he9⟩ hf
  have hBb5 : w.heap.size ≤ b5 := Nat.le_trans hb.size hle5
  have : b4 < b5 := Nat.lt_of_lt_of_le (blk_lt hk5) hle5
  have : b1 < b5 := Nat.lt_of_lt_of_le (Row.lt hr1 _ rfl).2 hle5
  have : b2 < b5 := Nat.lt_of_lt_of_le (Row.lt hr2 _ rfl).2 hle5
  have : b3 < b5 := Nat.lt_of_lt_of_le (Row.lt hr3 _ rfl).2 hle5
  replace hk5 := blk_ext hk5 he9
  replace hr1 := Row.ext hr1 he9
  replace hr2 := Row.ext hr2 he9
  replace hr3 := Row.ext hr3 he9
  replace hr4 := Row.ext hr4 he9
  replace hb := hb.trans (Below.mono he9 hb.size)
  refine sqn hf (d_storeK (T := 86) (v := (.agg #[(.int .u8 ((tyO (b % 7)))), (.int .u64 (((sgnV (b % 7) a) : Nat) : Int))])) (cs := #[(.int .u8 (0 : Int)), (.int .u64 (0 : Int))]) (cs' := #[(.int .u8 ((tyO (b % 7)))), (.int .u64 (((sgnV (b % 7) a) : Nat) : Int))]) rfl rfl (by kernel_rfl) (by kernel_rfl) hk6 (by kernel_rfl) (by kernel_rfl)) rfl rfl ?_; clear hf fa; rintro fa _ w11 ⟨hk7, hg2⟩ hf
  replace hk5 := blk_grown hk5 hg2 (by omega)
  replace hr1 := Row.grown hr1 hg2 (Row.ne_type hr1 hk6 rfl)
  replace hr2 := Row.grown hr2 hg2 (Row.ne_type hr2 hk6 rfl)
  replace hr3 := Row.grown hr3 hg2 (Row.ne_type hr3 hk6 rfl)
  replace hr4 := Row.grown hr4 hg2 (Row.ne_type hr4 hk6 rfl)
  replace hb := hb.trans (grown_below hg2 hb.size hBb5)
  refine sqv hf (r_assign rfl) rfl rfl rfl ?_; clear hf fa; intro fa hf
  apply wpList_nil
  (try simp only [Exit.then, Exit.inBlock, ↓reduceIte, Nat.reduceEqDiff])
  refine hK10 _ _ ?_
  refine wp_seq_k (fun K11 hK11 => ?_)
  refine wp_region_lit ?_
  refine sqv hf (r_move rfl) rfl rfl rfl ?_; clear hf fa; intro fa hf
  refine sqv hf (r_lensl rfl Try.underlying84) rfl rfl rfl ?_; clear hf fa; intro fa hf
  refine sqv hf (r_assign rfl) rfl rfl rfl ?_; clear hf fa; intro fa hf
  apply wpList_nil
  (try simp only [Exit.then, Exit.inBlock, ↓reduceIte, Nat.reduceEqDiff])
  refine hK11 _ _ ?_
  refine wp_seq_k (fun K12 hK12 => ?_)
  refine wp_seq_k (fun K13 hK13 => ?_)
  refine wp_region_lit ?_
  refine sqv hf (r_move rfl) rfl rfl rfl ?_; clear hf fa; intro fa hf
  refine sqv hf (Runs.veq (r_not rfl) (congrArg Value.bool (show _ = false from rfl))) rfl rfl rfl ?_; clear hf fa; intro fa hf
  refine sqv hf (r_move rfl) rfl rfl rfl ?_; clear hf fa; intro fa hf
  refine sqgd (act := true) (g := 2) (want := false) (ag := true) (c := false) hf (by rfl) (by rfl) rfl (fun _ =>  Runs.does (R := fun vq wq => vq = (.bool true) ∧ w11 = wq) (r_move rfl) ⟨rfl, rfl⟩) (fun h => by cases h) rfl ?_; clear hf fa; rintro fa _ _ ⟨rfl, rfl⟩ hf
  change Fr _ _ ((58, (.bool true)) :: _) at hf
  refine sqgd (act := true) (g := 2) (want := false) (ag := true) (c := false) hf (by rfl) (by rfl) rfl (fun _ =>  Runs.does (R := fun vq wq => vq = (.bool false) ∧ w11 = wq) (Runs.veq (r_not rfl) (congrArg Value.bool (show _ = false from rfl))) ⟨rfl, rfl⟩) (fun h => by cases h) rfl ?_; clear hf fa; rintro fa _ _ ⟨rfl, rfl⟩ hf
  change Fr _ _ ((59, (.bool false)) :: _) at hf
  refine sqv hf (r_pick (b := false) rfl rfl rfl rfl) rfl rfl rfl ?_; clear hf fa; intro fa hf
  refine sqv hf (r_move rfl) rfl rfl rfl ?_; clear hf fa; intro fa hf
  refine sqgd (act := true) (g := 6) (want := false) (ag := true) (c := false) hf (by rfl) (by rfl) rfl (fun _ =>  Runs.does (R := fun vq wq => vq = (.bool true) ∧ w11 = wq) (r_move rfl) ⟨rfl, rfl⟩) (fun h => by cases h) rfl ?_; clear hf fa; rintro fa _ _ ⟨rfl, rfl⟩ hf
  change Fr _ _ ((62, (.bool true)) :: _) at hf
  refine sqgd (act := true) (g := 6) (want := false) (ag := true) (c := false) hf (by rfl) (by rfl) rfl (fun _ =>  Runs.does (R := fun vq wq => vq = (.bool false) ∧ w11 = wq) (Runs.veq (r_not rfl) (congrArg Value.bool (show _ = false from rfl))) ⟨rfl, rfl⟩) (fun h => by cases h) rfl ?_; clear hf fa; rintro fa _ _ ⟨rfl, rfl⟩ hf
  change Fr _ _ ((63, (.bool false)) :: _) at hf
  refine sqv hf (r_pick (b := false) rfl rfl rfl rfl) rfl rfl rfl ?_; clear hf fa; intro fa hf
  refine sqv hf (r_move rfl) rfl rfl rfl ?_; clear hf fa; intro fa hf
  refine sqgd (act := true) (g := 10) (want := false) (ag := true) (c := false) hf (by rfl) (by rfl) rfl (fun _ =>  Runs.does (R := fun vq wq => vq = (.int .i64 (((widO (b % 7)) : Nat) : Int)) ∧ w11 = wq) (r_move rfl) ⟨rfl, rfl⟩) (fun h => by cases h) rfl ?_; clear hf fa; rintro fa _ _ ⟨rfl, rfl⟩ hf
  change Fr _ _ ((66, (.int .i64 (((widO (b % 7)) : Nat) : Int))) :: _) at hf
  refine sqgd (act := true) (g := 10) (want := false) (ag := true) (c := false) hf (by rfl) (by rfl) rfl (fun _ =>  Runs.does (R := fun vq wq => vq = (.bool false) ∧ w11 = wq) (Runs.veq (r_lt rfl rfl) (congrArg Value.bool (show _ = false from (by simp; omega)))) ⟨rfl, rfl⟩) (fun h => by cases h) rfl ?_; clear hf fa; rintro fa _ _ ⟨rfl, rfl⟩ hf
  change Fr _ _ ((67, (.bool false)) :: _) at hf
  refine sqv hf (r_pick (b := false) rfl rfl rfl rfl) rfl rfl rfl ?_; clear hf fa; intro fa hf
  refine sqv hf (r_move rfl) rfl rfl rfl ?_; clear hf fa; intro fa hf
  refine sqgd (act := true) (g := 14) (want := false) (ag := true) (c := false) hf (by rfl) (by rfl) rfl (fun _ =>  Runs.does (R := fun vq wq => vq = (.int .i64 (((widO (b % 7)) : Nat) : Int)) ∧ w11 = wq) (r_move rfl) ⟨rfl, rfl⟩) (fun h => by cases h) rfl ?_; clear hf fa; rintro fa _ _ ⟨rfl, rfl⟩ hf
  change Fr _ _ ((70, (.int .i64 (((widO (b % 7)) : Nat) : Int))) :: _) at hf
  refine sqgd (act := true) (g := 14) (want := false) (ag := true) (c := false) hf (by rfl) (by rfl) rfl (fun _ =>  Runs.does (R := fun vq wq => vq = (.bool false) ∧ w11 = wq) (Runs.veq (r_gt rfl rfl) (congrArg Value.bool (show _ = false from (by simp; omega)))) ⟨rfl, rfl⟩) (fun h => by cases h) rfl ?_; clear hf fa; rintro fa _ _ ⟨rfl, rfl⟩ hf
  change Fr _ _ ((71, (.bool false)) :: _) at hf
  refine sqv hf (r_pick (b := false) rfl rfl rfl rfl) rfl rfl rfl ?_; clear hf fa; intro fa hf
  apply wpList_nil
  (try simp only [Exit.then, Exit.inBlock, ↓reduceIte, Nat.reduceEqDiff])
  refine hK13 _ _ ?_
  refine wp_cond_false (hf.ev rfl) ?_
  refine wp_skip ?_
  (try simp only [Exit.then, Exit.inBlock, ↓reduceIte, Nat.reduceEqDiff])
  refine hK12 _ _ ?_
  refine wp_seq_k (fun K14 hK14 => ?_)
  refine wp_region_lit ?_
  refine sqv hf (r_move rfl) rfl rfl rfl ?_; clear hf fa; intro fa hf
  refine sqv hf (r_move rfl) rfl rfl rfl ?_; clear hf fa; intro fa hf
  refine sqv hf (r_mul (C := ((8 : Int) * (((widO (b % 7)) : Nat) : Int))) rfl rfl (by rw [IntKind.wrap_i64]; omega)) rfl rfl rfl ?_; clear hf fa; intro fa hf
  refine sqv hf (r_sub (C := ((64 : Int) - ((8 : Int) * (((widO (b % 7)) : Nat) : Int)))) rfl rfl (by rw [IntKind.wrap_i64]; omega)) rfl rfl rfl ?_; clear hf fa; intro fa hf
  refine sqv hf (r_conv (C := ((64 : Int) - ((8 : Int) * (((widO (b % 7)) : Nat) : Int)))) rfl Try.underlying3 Try.underlying98 (by rw [IntKind.wrap_u64]; omega)) rfl rfl rfl ?_; clear hf fa; intro fa hf
  refine sqv hf (r_shl (n := (64 - (8 * ((widO (b % 7)))))) (C := (((a * 2 ^ (64 - 8 * (widO (b % 7))) % 18446744073709551616) : Nat) : Int)) rfl rfl (by omega) (wrap_shl (by omega))) rfl rfl rfl ?_; clear hf fa; intro fa hf
  refine sqv hf (r_move rfl) rfl rfl rfl ?_; clear hf fa; intro fa hf
  refine sqv hf (r_mul (C := ((8 : Int) * (((widO (b % 7)) : Nat) : Int))) rfl rfl (by rw [IntKind.wrap_i64]; omega)) rfl rfl rfl ?_; clear hf fa; intro fa hf
  refine sqv hf (r_sub (C := ((64 : Int) - ((8 : Int) * (((widO (b % 7)) : Nat) : Int)))) rfl rfl (by rw [IntKind.wrap_i64]; omega)) rfl rfl rfl ?_; clear hf fa; intro fa hf
  refine sqv hf (r_conv (C := ((64 : Int) - ((8 : Int) * (((widO (b % 7)) : Nat) : Int)))) rfl Try.underlying3 Try.underlying98 (by rw [IntKind.wrap_u64]; omega)) rfl rfl rfl ?_; clear hf fa; intro fa hf
  refine sqv hf (r_shr (n := (64 - (8 * ((widO (b % 7)))))) (C := (((a % 256 ^ (widO (b % 7))) : Nat) : Int)) rfl rfl (by omega) (shr_fin (by omega))) rfl rfl rfl ?_; clear hf fa; intro fa hf
  refine sqv hf (r_assign rfl) rfl rfl rfl ?_; clear hf fa; intro fa hf
  apply wpList_nil
  (try simp only [Exit.then, Exit.inBlock, ↓reduceIte, Nat.reduceEqDiff])
  refine hK14 _ _ ?_
  refine wp_seq_k (fun K15 hK15 => ?_)
  refine wp_region_lit ?_
  refine sqv hf (r_move rfl) rfl rfl rfl ?_; clear hf fa; intro fa hf
  refine sqv hf (r_move rfl) rfl rfl rfl ?_; clear hf fa; intro fa hf
  refine sqv hf (r_mul (C := ((8 : Int) * (((widO (b % 7)) : Nat) : Int))) rfl rfl (by rw [IntKind.wrap_i64]; omega)) rfl rfl rfl ?_; clear hf fa; intro fa hf
  refine sqv hf (r_sub (C := ((64 : Int) - ((8 : Int) * (((widO (b % 7)) : Nat) : Int)))) rfl rfl (by rw [IntKind.wrap_i64]; omega)) rfl rfl rfl ?_; clear hf fa; intro fa hf
  refine sqv hf (r_conv (C := ((64 : Int) - ((8 : Int) * (((widO (b % 7)) : Nat) : Int)))) rfl Try.underlying3 Try.underlying98 (by rw [IntKind.wrap_u64]; omega)) rfl rfl rfl ?_; clear hf fa; intro fa hf
  refine sqv hf (r_shl (n := (64 - (8 * ((widO (b % 7)))))) (C := (((a * 2 ^ (64 - 8 * (widO (b % 7))) % 18446744073709551616) : Nat) : Int)) rfl rfl (by omega) (wrap_shl (by omega))) rfl rfl rfl ?_; clear hf fa; intro fa hf
  refine sqv hf (r_conv (C := ((IntKind.i64.wrap (((a * 2 ^ (64 - 8 * (widO (b % 7))) % 18446744073709551616) : Nat) : Int)))) rfl Try.underlying26 Try.underlying2 rfl) rfl rfl rfl ?_; clear hf fa; intro fa hf
  refine sqv hf (r_move rfl) rfl rfl rfl ?_; clear hf fa; intro fa hf
  refine sqv hf (r_mul (C := ((8 : Int) * (((widO (b % 7)) : Nat) : Int))) rfl rfl (by rw [IntKind.wrap_i64]; omega)) rfl rfl rfl ?_; clear hf fa; intro fa hf
  refine sqv hf (r_sub (C := ((64 : Int) - ((8 : Int) * (((widO (b % 7)) : Nat) : Int)))) rfl rfl (by rw [IntKind.wrap_i64]; omega)) rfl rfl rfl ?_; clear hf fa; intro fa hf
  refine sqv hf (r_conv (C := ((64 : Int) - ((8 : Int) * (((widO (b % 7)) : Nat) : Int)))) rfl Try.underlying3 Try.underlying98 (by rw [IntKind.wrap_u64]; omega)) rfl rfl rfl ?_; clear hf fa; intro fa hf
  refine sqv hf (r_shr (n := (64 - (8 * ((widO (b % 7)))))) (C := (((IntKind.i64.wrap (((a * 2 ^ (64 - 8 * (widO (b % 7))) % 18446744073709551616) : Nat) : Int)).fdiv (2 ^ (min (64 - 8 * (widO (b % 7))) IntKind.i64.bits))))) rfl rfl (by omega) rfl) rfl rfl rfl ?_; clear hf fa; intro fa hf
  refine sqv hf (r_conv (C := (((extN a (widO (b % 7))) : Nat) : Int)) rfl Try.underlying2 Try.underlying26 (ext_fin (by omega) hv)) rfl rfl rfl ?_; clear hf fa; intro fa hf
  refine sqv hf (r_assign rfl) rfl rfl rfl ?_; clear hf fa; intro fa hf
  apply wpList_nil
  (try simp only [Exit.then, Exit.inBlock, ↓reduceIte, Nat.reduceEqDiff])
  refine hK15 _ _ ?_
  refine wp_seq_k (fun K16 hK16 => ?_)
  refine wp_seq_k (fun K17 hK17 => ?_)
  refine wp_region_lit ?_
  refine sqv hf (r_fa rfl Try.underlying86 (f := 0) (q := 0) rfl (by kernel_rfl) rfl) rfl rfl rfl ?_; clear hf fa; intro fa hf
  refine sqv hf (r_load (v := (.int .u8 ((tyO (b % 7))))) rfl Try.underlying5 rfl (cell_blk hk5 rfl)) rfl rfl rfl ?_; clear hf fa; intro fa hf
  refine sqv hf (r_eq rfl rfl) rfl rfl rfl ?_; clear hf fa; intro fa hf
  apply wpList_nil
  (try simp only [Exit.then, Exit.inBlock, ↓reduceIte, Nat.reduceEqDiff])
  refine hK17 _ _ ?_
  refine wp_cond_split (t := (decide (((tyO (b % 7))) = (127 : Int)))) (hf.ev rfl) (fun hqt99_1 => ?_) (fun hqt99_1 => ?_)
  · have hqt99_1b := hqt99_1
    try simp only [decide_eq_true_eq, Bool.and_eq_true, Bool.or_eq_true, Bool.not_eq_true', decide_eq_false_iff_not, ne_eq, Bool.not_eq_true] at hqt99_1
    refine wp_region_lit ?_
    refine sqv hf (r_move rfl) rfl rfl rfl ?_; clear hf fa; intro fa hf
    refine sqv hf (r_and (C := ((((extN a (widO (b % 7))) % 4294967296) : Nat) : Int)) rfl rfl (and32 hext)) rfl rfl rfl ?_; clear hf fa; intro fa hf
    refine sqv hf (r_assign rfl) rfl rfl rfl ?_; clear hf fa; intro fa hf
    apply wpList_nil
    (try simp only [Exit.then, Exit.inBlock, ↓reduceIte, Nat.reduceEqDiff])
    refine hK16 _ _ ?_
    refine wp_seq_k (fun K18 hK18 => ?_)
    refine wp_region_lit ?_
    refine sqv hf (r_fa rfl Try.underlying86 (f := 1) (q := 1) rfl (by kernel_rfl) rfl) rfl rfl rfl ?_; clear hf fa; intro fa hf
    refine sqv hf (r_load (v := (.int .u64 (((a % 256 ^ (widO (b % 7))) : Nat) : Int))) rfl Try.underlying26 rfl (cell_blk hk5 rfl)) rfl rfl rfl ?_; clear hf fa; intro fa hf
    refine sqv hf (r_move rfl) rfl rfl rfl ?_; clear hf fa; intro fa hf
    refine sqv hf (Runs.veq (r_eq rfl rfl) (congrArg Value.bool (show _ = true from (by simp)))) rfl rfl rfl ?_; clear hf fa; intro fa hf
    refine sqv hf (r_move rfl) rfl rfl rfl ?_; clear hf fa; intro fa hf
    refine sqgd (act := true) (g := 4) (want := true) (ag := true) (c := true) hf (by rfl) (by rfl) rfl (fun _ =>  Runs.does (R := fun vq wq => vq = (.pointer (some ⟨b5, 1, none⟩)) ∧ w11 = wq) (r_fa rfl Try.underlying86 (f := 1) (q := 1) rfl (by kernel_rfl) rfl) ⟨rfl, rfl⟩) (fun h => by cases h) rfl ?_; clear hf fa; rintro fa _ _ ⟨rfl, rfl⟩ hf
    change Fr _ _ ((107, (.pointer (some ⟨b5, 1, none⟩))) :: _) at hf
    refine sqgd (act := true) (g := 4) (want := true) (ag := true) (c := true) hf (by rfl) (by rfl) rfl (fun _ =>  Runs.does (R := fun vq wq => vq = (.int .u64 (((sgnV (b % 7) a) : Nat) : Int)) ∧ w11 = wq) (r_load (v := (.int .u64 (((sgnV (b % 7) a) : Nat) : Int))) rfl Try.underlying26 rfl (cell_blk hk7 rfl)) ⟨rfl, rfl⟩) (fun h => by cases h) rfl ?_; clear hf fa; rintro fa _ _ ⟨rfl, rfl⟩ hf
    change Fr _ _ ((108, (.int .u64 (((sgnV (b % 7) a) : Nat) : Int))) :: _) at hf
    refine sqgd (act := true) (g := 4) (want := true) (ag := true) (c := true) hf (by rfl) (by rfl) rfl (fun _ =>  Runs.does (R := fun vq wq => vq = (.int .u64 ((((extN a (widO (b % 7))) % 4294967296) : Nat) : Int)) ∧ w11 = wq) (r_move rfl) ⟨rfl, rfl⟩) (fun h => by cases h) rfl ?_; clear hf fa; rintro fa _ _ ⟨rfl, rfl⟩ hf
    change Fr _ _ ((109, (.int .u64 ((((extN a (widO (b % 7))) % 4294967296) : Nat) : Int))) :: _) at hf
    refine sqgd (act := true) (g := 4) (want := true) (ag := true) (c := true) hf (by rfl) (by rfl) rfl (fun _ =>  Runs.does (R := fun vq wq => vq = (.bool true) ∧ w11 = wq) (Runs.veq (r_eq rfl rfl) (congrArg Value.bool (show _ = true from (by unfold sgnV; rw [if_pos hqt99_1]; simp)))) ⟨rfl, rfl⟩) (fun h => by cases h) rfl ?_; clear hf fa; rintro fa _ _ ⟨rfl, rfl⟩ hf
    change Fr _ _ ((110, (.bool true)) :: _) at hf
    refine sqv hf (r_pick (b := true) rfl rfl rfl rfl) rfl rfl rfl ?_; clear hf fa; intro fa hf
    refine sqv hf (r_move rfl) rfl rfl rfl ?_; clear hf fa; intro fa hf
    refine sqgd (act := true) (g := 10) (want := true) (ag := true) (c := true) hf (by rfl) (by rfl) rfl (fun _ =>  Runs.does (R := fun vq wq => vq = (.pointer (some ⟨b4, 0, none⟩)) ∧ w11 = wq) (r_fa rfl Try.underlying86 (f := 0) (q := 0) rfl (by kernel_rfl) rfl) ⟨rfl, rfl⟩) (fun h => by cases h) rfl ?_; clear hf fa; rintro fa _ _ ⟨rfl, rfl⟩ hf
    change Fr _ _ ((113, (.pointer (some ⟨b4, 0, none⟩))) :: _) at hf
    refine sqgd (act := true) (g := 10) (want := true) (ag := true) (c := true) hf (by rfl) (by rfl) rfl (fun _ =>  Runs.does (R := fun vq wq => vq = (.int .u8 ((tyO (b % 7)))) ∧ w11 = wq) (r_load (v := (.int .u8 ((tyO (b % 7))))) rfl Try.underlying5 rfl (cell_blk hk5 rfl)) ⟨rfl, rfl⟩) (fun h => by cases h) rfl ?_; clear hf fa; rintro fa _ _ ⟨rfl, rfl⟩ hf
    change Fr _ _ ((114, (.int .u8 ((tyO (b % 7))))) :: _) at hf
    refine sqgd (act := true) (g := 10) (want := true) (ag := true) (c := true) hf (by rfl) (by rfl) rfl (fun _ =>  Runs.does (R := fun vq wq => vq = (.pointer (some ⟨b5, 0, none⟩)) ∧ w11 = wq) (r_fa rfl Try.underlying86 (f := 0) (q := 0) rfl (by kernel_rfl) rfl) ⟨rfl, rfl⟩) (fun h => by cases h) rfl ?_; clear hf fa; rintro fa _ _ ⟨rfl, rfl⟩ hf
    change Fr _ _ ((115, (.pointer (some ⟨b5, 0, none⟩))) :: _) at hf
    refine sqgd (act := true) (g := 10) (want := true) (ag := true) (c := true) hf (by rfl) (by rfl) rfl (fun _ =>  Runs.does (R := fun vq wq => vq = (.int .u8 ((tyO (b % 7)))) ∧ w11 = wq) (r_load (v := (.int .u8 ((tyO (b % 7))))) rfl Try.underlying5 rfl (cell_blk hk7 rfl)) ⟨rfl, rfl⟩) (fun h => by cases h) rfl ?_; clear hf fa; rintro fa _ _ ⟨rfl, rfl⟩ hf
    change Fr _ _ ((116, (.int .u8 ((tyO (b % 7))))) :: _) at hf
    refine sqgd (act := true) (g := 10) (want := true) (ag := true) (c := true) hf (by rfl) (by rfl) rfl (fun _ =>  Runs.does (R := fun vq wq => vq = (.bool true) ∧ w11 = wq) (Runs.veq (r_eq rfl rfl) (congrArg Value.bool (show _ = true from (by simp)))) ⟨rfl, rfl⟩) (fun h => by cases h) rfl ?_; clear hf fa; rintro fa _ _ ⟨rfl, rfl⟩ hf
    change Fr _ _ ((117, (.bool true)) :: _) at hf
    refine sqv hf (r_pick (b := true) rfl rfl rfl rfl) rfl rfl rfl ?_; clear hf fa; intro fa hf
    refine sqv hf (r_assign rfl) rfl rfl rfl ?_; clear hf fa; intro fa hf
    apply wpList_nil
    (try simp only [Exit.then, Exit.inBlock, ↓reduceIte, Nat.reduceEqDiff])
    refine hK18 _ _ ?_
    refine wp_ret ?_
    (try simp only [Exit.then, Exit.inBlock])
    refine ret1 hf rfl rfl ?_
    exact ⟨rfl, hb⟩
  · have hqt99_1b := hqt99_1
    replace hqt99_1 := Bool.eq_false_iff.1 hqt99_1
    try simp only [ne_eq, decide_eq_true_eq, Bool.and_eq_true, Bool.or_eq_true, Bool.not_eq_true', decide_eq_false_iff_not] at hqt99_1
    refine wp_skip ?_
    (try simp only [Exit.then, Exit.inBlock, ↓reduceIte, Nat.reduceEqDiff])
    refine hK16 _ _ ?_
    refine wp_seq_k (fun K19 hK19 => ?_)
    refine wp_region_lit ?_
    refine sqv hf (r_fa rfl Try.underlying86 (f := 1) (q := 1) rfl (by kernel_rfl) rfl) rfl rfl rfl ?_; clear hf fa; intro fa hf
    refine sqv hf (r_load (v := (.int .u64 (((a % 256 ^ (widO (b % 7))) : Nat) : Int))) rfl Try.underlying26 rfl (cell_blk hk5 rfl)) rfl rfl rfl ?_; clear hf fa; intro fa hf
    refine sqv hf (r_move rfl) rfl rfl rfl ?_; clear hf fa; intro fa hf
    refine sqv hf (Runs.veq (r_eq rfl rfl) (congrArg Value.bool (show _ = true from (by simp)))) rfl rfl rfl ?_; clear hf fa; intro fa hf
    refine sqv hf (r_move rfl) rfl rfl rfl ?_; clear hf fa; intro fa hf
    refine sqgd (act := true) (g := 4) (want := true) (ag := true) (c := true) hf (by rfl) (by rfl) rfl (fun _ =>  Runs.does (R := fun vq wq => vq = (.pointer (some ⟨b5, 1, none⟩)) ∧ w11 = wq) (r_fa rfl Try.underlying86 (f := 1) (q := 1) rfl (by kernel_rfl) rfl) ⟨rfl, rfl⟩) (fun h => by cases h) rfl ?_; clear hf fa; rintro fa _ _ ⟨rfl, rfl⟩ hf
    change Fr _ _ ((107, (.pointer (some ⟨b5, 1, none⟩))) :: _) at hf
    refine sqgd (act := true) (g := 4) (want := true) (ag := true) (c := true) hf (by rfl) (by rfl) rfl (fun _ =>  Runs.does (R := fun vq wq => vq = (.int .u64 (((sgnV (b % 7) a) : Nat) : Int)) ∧ w11 = wq) (r_load (v := (.int .u64 (((sgnV (b % 7) a) : Nat) : Int))) rfl Try.underlying26 rfl (cell_blk hk7 rfl)) ⟨rfl, rfl⟩) (fun h => by cases h) rfl ?_; clear hf fa; rintro fa _ _ ⟨rfl, rfl⟩ hf
    change Fr _ _ ((108, (.int .u64 (((sgnV (b % 7) a) : Nat) : Int))) :: _) at hf
    refine sqgd (act := true) (g := 4) (want := true) (ag := true) (c := true) hf (by rfl) (by rfl) rfl (fun _ =>  Runs.does (R := fun vq wq => vq = (.int .u64 (((extN a (widO (b % 7))) : Nat) : Int)) ∧ w11 = wq) (r_move rfl) ⟨rfl, rfl⟩) (fun h => by cases h) rfl ?_; clear hf fa; rintro fa _ _ ⟨rfl, rfl⟩ hf
    change Fr _ _ ((109, (.int .u64 (((extN a (widO (b % 7))) : Nat) : Int))) :: _) at hf
    refine sqgd (act := true) (g := 4) (want := true) (ag := true) (c := true) hf (by rfl) (by rfl) rfl (fun _ =>  Runs.does (R := fun vq wq => vq = (.bool true) ∧ w11 = wq) (Runs.veq (r_eq rfl rfl) (congrArg Value.bool (show _ = true from (by unfold sgnV; rw [if_neg hqt99_1]; simp)))) ⟨rfl, rfl⟩) (fun h => by cases h) rfl ?_; clear hf fa; rintro fa _ _ ⟨rfl, rfl⟩ hf
    change Fr _ _ ((110, (.bool true)) :: _) at hf
    refine sqv hf (r_pick (b := true) rfl rfl rfl rfl) rfl rfl rfl ?_; clear hf fa; intro fa hf
    refine sqv hf (r_move rfl) rfl rfl rfl ?_; clear hf fa; intro fa hf
    refine sqgd (act := true) (g := 10) (want := true) (ag := true) (c := true) hf (by rfl) (by rfl) rfl (fun _ =>  Runs.does (R := fun vq wq => vq = (.pointer (some ⟨b4, 0, none⟩)) ∧ w11 = wq) (r_fa rfl Try.underlying86 (f := 0) (q := 0) rfl (by kernel_rfl) rfl) ⟨rfl, rfl⟩) (fun h => by cases h) rfl ?_; clear hf fa; rintro fa _ _ ⟨rfl, rfl⟩ hf
    change Fr _ _ ((113, (.pointer (some ⟨b4, 0, none⟩))) :: _) at hf
    refine sqgd (act := true) (g := 10) (want := true) (ag := true) (c := true) hf (by rfl) (by rfl) rfl (fun _ =>  Runs.does (R := fun vq wq => vq = (.int .u8 ((tyO (b % 7)))) ∧ w11 = wq) (r_load (v := (.int .u8 ((tyO (b % 7))))) rfl Try.underlying5 rfl (cell_blk hk5 rfl)) ⟨rfl, rfl⟩) (fun h => by cases h) rfl ?_; clear hf fa; rintro fa _ _ ⟨rfl, rfl⟩ hf
    change Fr _ _ ((114, (.int .u8 ((tyO (b % 7))))) :: _) at hf
    refine sqgd (act := true) (g := 10) (want := true) (ag := true) (c := true) hf (by rfl) (by rfl) rfl (fun _ =>  Runs.does (R := fun vq wq => vq = (.pointer (some ⟨b5, 0, none⟩)) ∧ w11 = wq) (r_fa rfl Try.underlying86 (f := 0) (q := 0) rfl (by kernel_rfl) rfl) ⟨rfl, rfl⟩) (fun h => by cases h) rfl ?_; clear hf fa; rintro fa _ _ ⟨rfl, rfl⟩ hf
    change Fr _ _ ((115, (.pointer (some ⟨b5, 0, none⟩))) :: _) at hf
    refine sqgd (act := true) (g := 10) (want := true) (ag := true) (c := true) hf (by rfl) (by rfl) rfl (fun _ =>  Runs.does (R := fun vq wq => vq = (.int .u8 ((tyO (b % 7)))) ∧ w11 = wq) (r_load (v := (.int .u8 ((tyO (b % 7))))) rfl Try.underlying5 rfl (cell_blk hk7 rfl)) ⟨rfl, rfl⟩) (fun h => by cases h) rfl ?_; clear hf fa; rintro fa _ _ ⟨rfl, rfl⟩ hf
    change Fr _ _ ((116, (.int .u8 ((tyO (b % 7))))) :: _) at hf
    refine sqgd (act := true) (g := 10) (want := true) (ag := true) (c := true) hf (by rfl) (by rfl) rfl (fun _ =>  Runs.does (R := fun vq wq => vq = (.bool true) ∧ w11 = wq) (Runs.veq (r_eq rfl rfl) (congrArg Value.bool (show _ = true from (by simp)))) ⟨rfl, rfl⟩) (fun h => by cases h) rfl ?_; clear hf fa; rintro fa _ _ ⟨rfl, rfl⟩ hf
    change Fr _ _ ((117, (.bool true)) :: _) at hf
    refine sqv hf (r_pick (b := true) rfl rfl rfl rfl) rfl rfl rfl ?_; clear hf fa; intro fa hf
    refine sqv hf (r_assign rfl) rfl rfl rfl ?_; clear hf fa; intro fa hf
    apply wpList_nil
    (try simp only [Exit.then, Exit.inBlock, ↓reduceIte, Nat.reduceEqDiff])
    refine hK19 _ _ ?_
    refine wp_ret ?_
    (try simp only [Exit.then, Exit.inBlock])
    refine ret1 hf rfl rfl ?_
    exact ⟨rfl, hb⟩
end Go.Proofs.Ytmcmickgllffoaa
