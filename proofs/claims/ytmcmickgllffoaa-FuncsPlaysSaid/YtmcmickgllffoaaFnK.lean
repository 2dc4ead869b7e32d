/- What is proved here: functions by numbers: what is shown of them. -/
import Derived.Test.YtmcmickgllffoaaFnJ
namespace Go.Proofs.Ytmcmickgllffoaa
open Go.RowKit
set_option linter.unusedVariables false
set_option linter.unusedSimpArgs false
abbrev rT (T1 T2 : ByteArray) (o m c : Int) : MRf := ((T1, T2, ()), o, m, c, true, ())
abbrev fT (T1 T2 : ByteArray) (o : Int) (kb : Nat) : MFn := (T1, T2, o, some ⟨kb, 0, none⟩, 2)
def bodyCs (m : Int) : Array Value := #[.int .u8 66, .int .u64 m, .int .u64 0, .slice none 0 0, .int .u8 11, .int .u64 0, .int .u64 0, .slice none 0 0]
def bdL (m : Int) : List MIn := [(66, m, 0, ⟨none, 0, 0, fun _ => default⟩, ()), (11, 0, 0, ⟨none, 0, 0, fun _ => default⟩, ())]
theorem bd_rd {w : World} {kb : Nat} {m : Int} (h : w.heap[kb]? = some (.cells (bodyCs m) 127 (0, 0))) : RdS 4 vMIn w (some ⟨kb, 0, none⟩) (bdL m) :=
  Row.rd vMIn_len (Row.of_new (k := 4) (V := vMIn) (l := bdL m) (base := 0) h (Nat.zero_le _) rfl rfl (Nat.le_of_ble_eq_true rfl))

set_option maxHeartbeats 1000000 in
set_option maxRecDepth 100000 in
theorem is_any (T1 T2 : ByteArray) (o m c : Int) (kb : Nat) (w : World) (hk : w.heap[kb]? = some (.cells (bodyCs m) 127 (0, 0))) : Calls Try.prog 72 #[(.agg #[(.string T1), (.string T2), (.int .i64 o), (.string ⟨#[]⟩), (.slice (some ⟨kb, 0, none⟩) 2 2), (.slice none 0 0), (.slice none 0 0)]), (.agg #[(.string T1), (.string T2), (.int .i64 o), (.int .u64 m), (.int .i64 c), (.bool true)])] w fun e w' => e = .returned (.bool true) ∧ Below w.heap.size w w' := by
  have hbd := bd_rd hk
  refine sx_enter (L := [(0, (.agg #[(.string T1), (.string T2), (.int .i64 o), (.string ⟨#[]⟩), (.slice (some ⟨kb, 0, none⟩) 2 2), (.slice none 0 0), (.slice none 0 0)])), (1, (.agg #[(.string T1), (.string T2), (.int .i64 o), (.int .u64 m), (.int .i64 c), (.bool true)]))]) Try.func72 rfl rfl rfl rfl (fun fa hf => ?_)
  have hb : Below w.heap.size w w := Below.refl _ _
  refine wp_seq_k (fun K1 hK1 => ?_)
  refine wp_region_lit ?_
  refine sqdt hf (d_box (cs := #[(.string T1), (.string T2), (.int .i64 o), (.string ⟨#[]⟩), (.slice (some ⟨kb, 0, none⟩) 2 2), (.slice none 0 0), (.slice none 0 0)]) rfl rfl) rfl rfl rfl ?_; clear hf fa; rintro fa _ w1 ⟨b1, rfl, hle1, hk1, he1⟩ hf
  have hBb1 : w.heap.size ≤ b1 := Nat.le_trans hb.size hle1
  replace hb := hb.trans (Below.mono he1 hb.size)
  refine sqdt hf (d_box (cs := #[(.string T1), (.string T2), (.int .i64 o), (.int .u64 m), (.int .i64 c), (.bool true)]) rfl rfl) rfl rfl rfl ?_; clear hf fa; rintro fa _ w2 ⟨b2, rfl, hle2, hk2, he2⟩ hf
  have hBb2 : w.heap.size ≤ b2 := Nat.le_trans hb.size hle2
  have : b1 < b2 := Nat.lt_of_lt_of_le (blk_lt hk1) hle2
  replace hk1 := blk_ext hk1 he2
  replace hb := hb.trans (Below.mono he2 hb.size)
  refine sqv hf (r_assign rfl) rfl rfl rfl ?_; clear hf fa; intro fa hf
  apply wpList_nil
  (try simp only [Exit.then, Exit.inBlock, ↓reduceIte, Nat.reduceEqDiff])
  refine hK1 _ _ ?_
  refine wp_seq_k (fun K2 hK2 => ?_)
  have hy1 : ((bdL m))[0]? = some ((66, m, 0, ⟨none, 0, 0, fun _ => default⟩, ()) : MIn) := rfl
  obtain ⟨ab1, aoff1, hat1, hlb1, hel1⟩ := RdS.at hbd hy1
  refine wp_region_un (fun wq => Below w2.heap.size w2 wq) (fun w w' => Below w.heap.size w w')
    (fun V => [(fun x _ => x = (.pointer (some ⟨b1, 0, none⟩))), (fun x _ => x = (.agg #[(.string T1), (.string T2)])), (fun x _ => x = (.pointer (some ⟨b2, 0, none⟩))), (fun x _ => x = (.agg #[(.string T1), (.string T2)])), (fun x _ => x = (.bool true)), (fun x _ => x = (.bool true)), (fun x _ => x = (.pointer (some ⟨b1, 2, none⟩))), (fun x _ => x = (.int .i64 o)), (fun x _ => x = (.pointer (some ⟨b2, 2, none⟩))), (fun x _ => x = (.int .i64 o)), (fun x _ => x = (.bool true)), (fun x _ => x = (.bool true)), (fun x _ => x = (.bool true)), (fun x _ => x = (.pointer (some ⟨b1, 4, none⟩))), (fun x _ => x = (.slice (some ⟨kb, 0, none⟩) 2 2)), (fun x _ => x = (.int .i64 (2 : Int))), (fun x _ => x = (.bool true)), (fun x _ => x = (.bool true)), (fun x _ => x = (.bool true)), (fun x _ => x = (.pointer (some ⟨b1, 4, none⟩))), (fun x _ => x = (.slice (some ⟨kb, 0, none⟩) 2 2)), (fun x _ => x = (.pointer (some ⟨ab1, (aoff1 + 0 * 4), none⟩))), (fun x _ => x = (.pointer (some ⟨ab1, ((aoff1 + 0 * 4) + 1), none⟩))), (fun x _ => x = (.int .u64 m)), (fun x _ => x = (.pointer (some ⟨b2, 3, none⟩))), (fun x _ => x = (.int .u64 m)), (fun x _ => x = (.bool true)), (fun x _ => x = (.bool true)), (fun x _ => x = (.bool true))])
    []
    [[], [0], [], [2], [1, 3], [4], [5], [5, 6], [5], [5, 8], [5, 7, 9], [5, 10], [5, 11], [12], [12, 13], [12, 14], [12, 15], [12, 16], [12, 17], [18], [18, 19], [18, 20], [18, 21], [18, 22], [18], [18, 24], [18, 23, 25], [18, 26], [0, 1, 2, 3, 4, 5, 6, 7, 8, 9, 10, 11, 12, 13, 14, 15, 16, 17, 18, 19, 20, 21, 22, 23, 24, 25, 26, 27]]
    hf (by kernel_rfl) (by kernel_rfl) (fun _ => rfl) ((Below.refl _ _).drew) (fun a b h1 h2 => h1.trans (h2.mono h1.size)) (fun _ _ h => h.size) (fun V => ⟨kept_eq, kept_eq, kept_eq, kept_eq, kept_eq, kept_eq, kept_eq, kept_eq, kept_eq, kept_eq, kept_eq, kept_eq, kept_eq, kept_eq, kept_eq, kept_eq, kept_eq, kept_eq, kept_eq, kept_eq, kept_eq, kept_eq, kept_eq, kept_eq, kept_eq, kept_eq, kept_eq, kept_eq, kept_eq, trivial⟩) (fun _ _ _ _ _ => rfl) ?_ ?_
  · skip
    intro V
    refine ⟨fun wu0 hC hd => ?_, ?_⟩
    · clear hd
      replace hb := hb.trans (hC.mono hb.size)
      replace hk1 := blk_ext hk1 hC
      replace hk2 := blk_ext hk2 hC
      exact Runs.does (r_fa rfl Try.underlying37 (f := 0) (q := 0) rfl (by kernel_rfl) rfl) ⟨Below.refl _ _, rfl, nofr rfl⟩
    refine ⟨fun wu1 hC hd => ?_, ?_⟩
    · obtain ⟨h0, _⟩ := hd
      skip
      replace h0 : V 0 = (.pointer (some ⟨b1, 0, none⟩)) := h0
      replace hb := hb.trans (hC.mono hb.size)
      replace hk1 := blk_ext hk1 hC
      replace hk2 := blk_ext hk2 hC
      exact Runs.does (r_loadA (cs := [(.string T1), (.string T2)]) (congrArg some h0) Try.underlying31 rfl (by kernel_rfl) (cellsAt_part (d := 0) (n := 2) (cellsAt_blk hk1) rfl rfl)) ⟨Below.refl _ _, rfl, nofr rfl⟩
    refine ⟨fun wu2 hC hd => ?_, ?_⟩
    · clear hd
      replace hb := hb.trans (hC.mono hb.size)
      replace hk1 := blk_ext hk1 hC
      replace hk2 := blk_ext hk2 hC
      exact Runs.does (r_fa rfl Try.underlying132 (f := 0) (q := 0) rfl (by kernel_rfl) rfl) ⟨Below.refl _ _, rfl, nofr rfl⟩
    refine ⟨fun wu3 hC hd => ?_, ?_⟩
    · obtain ⟨h2, _⟩ := hd
      skip
      replace h2 : V 2 = (.pointer (some ⟨b2, 0, none⟩)) := h2
      replace hb := hb.trans (hC.mono hb.size)
      replace hk1 := blk_ext hk1 hC
      replace hk2 := blk_ext hk2 hC
      exact Runs.does (r_loadA (cs := [(.string T1), (.string T2)]) (congrArg some h2) Try.underlying31 rfl (by kernel_rfl) (cellsAt_part (d := 0) (n := 2) (cellsAt_blk hk2) rfl rfl)) ⟨Below.refl _ _, rfl, nofr rfl⟩
    refine ⟨fun wu4 hC hd => ?_, ?_⟩
    · obtain ⟨h1, h3, _⟩ := hd
      skip
      skip
      replace h1 : V 1 = (.agg #[(.string T1), (.string T2)]) := h1
      replace h3 : V 3 = (.agg #[(.string T1), (.string T2)]) := h3
      replace hb := hb.trans (hC.mono hb.size)
      replace hk1 := blk_ext hk1 hC
      replace hk2 := blk_ext hk2 hC
      exact Runs.does (Runs.veq (r_aeq (k := 5) (congrArg some h1) (congrArg some h3) (by kernel_rfl) (eqt_struct (xs := #[(.string T1), (.string T2)]) (ys := #[(.string T1), (.string T2)]) Try.underlying31 (by kernel_rfl) (eqf_cons (by kernel_rfl) (fun _ => by kernel_rfl) (fun _ => by kernel_rfl) (eqt_str (a := T1) (b := T1) Try.underlying9) (eqf_one (by kernel_rfl) (fun _ => by kernel_rfl) (fun _ => by kernel_rfl) (eqt_str (a := T2) (b := T2) Try.underlying9)))) rfl) (congrArg Value.bool (show _ = true from (by simp)))) ⟨Below.refl _ _, rfl, nofr rfl⟩
    refine ⟨fun wu5 hC hd => ?_, ?_⟩
    · obtain ⟨h4, _⟩ := hd
      skip
      replace h4 : V 4 = (.bool true) := h4
      replace hb := hb.trans (hC.mono hb.size)
      replace hk1 := blk_ext hk1 hC
      replace hk2 := blk_ext hk2 hC
      exact Runs.does (r_move (congrArg some h4)) ⟨Below.refl _ _, rfl, nofr rfl⟩
    refine ⟨fun wu6 hC hd => ?_, ?_⟩
    · obtain ⟨h5, _⟩ := hd
      skip
      replace h5 : V 5 = (.bool true) := h5
      replace hb := hb.trans (hC.mono hb.size)
      replace hk1 := blk_ext hk1 hC
      replace hk2 := blk_ext hk2 hC
      refine ⟨true, true, congrArg some h5, fun hact => ?_, fun hact => ?_⟩
      · exact Runs.does (r_fa rfl Try.underlying37 (f := 1) (q := 2) rfl (by kernel_rfl) rfl) ⟨Below.refl _ _, rfl, nofr rfl⟩
      · exfalso; simp at hact
    refine ⟨fun wu7 hC hd => ?_, ?_⟩
    · obtain ⟨h5, h6, _⟩ := hd
      skip
      skip
      replace h5 : V 5 = (.bool true) := h5
      replace h6 : V 6 = (.pointer (some ⟨b1, 2, none⟩)) := h6
      replace hb := hb.trans (hC.mono hb.size)
      replace hk1 := blk_ext hk1 hC
      replace hk2 := blk_ext hk2 hC
      refine ⟨true, true, congrArg some h5, fun hact => ?_, fun hact => ?_⟩
      · exact Runs.does (r_load (v := (.int .i64 o)) (congrArg some h6) Try.underlying3 rfl (cell_blk hk1 rfl)) ⟨Below.refl _ _, rfl, nofr rfl⟩
      · exfalso; simp at hact
    refine ⟨fun wu8 hC hd => ?_, ?_⟩
    · obtain ⟨h5, _⟩ := hd
      skip
      replace h5 : V 5 = (.bool true) := h5
      replace hb := hb.trans (hC.mono hb.size)
      replace hk1 := blk_ext hk1 hC
      replace hk2 := blk_ext hk2 hC
      refine ⟨true, true, congrArg some h5, fun hact => ?_, fun hact => ?_⟩
      · exact Runs.does (r_fa rfl Try.underlying132 (f := 1) (q := 2) rfl (by kernel_rfl) rfl) ⟨Below.refl _ _, rfl, nofr rfl⟩
      · exfalso; simp at hact
    refine ⟨fun wu9 hC hd => ?_, ?_⟩
    · obtain ⟨h5, h8, _⟩ := hd
      skip
      skip
      replace h5 : V 5 = (.bool true) := h5
      replace h8 : V 8 = (.pointer (some ⟨b2, 2, none⟩)) := h8
      replace hb := hb.trans (hC.mono hb.size)
      replace hk1 := blk_ext hk1 hC
      replace hk2 := blk_ext hk2 hC
      refine ⟨true, true, congrArg some h5, fun hact => ?_, fun hact => ?_⟩
      · exact Runs.does (r_load (v := (.int .i64 o)) (congrArg some h8) Try.underlying3 rfl (cell_blk hk2 rfl)) ⟨Below.refl _ _, rfl, nofr rfl⟩
      · exfalso; simp at hact
    refine ⟨fun wu10 hC hd => ?_, ?_⟩
    · obtain ⟨h5, h7, h9, _⟩ := hd
      skip
      skip
      skip
      replace h5 : V 5 = (.bool true) := h5
      replace h7 : V 7 = (.int .i64 o) := h7
      replace h9 : V 9 = (.int .i64 o) := h9
      replace hb := hb.trans (hC.mono hb.size)
      replace hk1 := blk_ext hk1 hC
      replace hk2 := blk_ext hk2 hC
      refine ⟨true, true, congrArg some h5, fun hact => ?_, fun hact => ?_⟩
      · exact Runs.does (Runs.veq (r_eq (congrArg some h7) (congrArg some h9)) (congrArg Value.bool (show _ = true from (by simp)))) ⟨Below.refl _ _, rfl, nofr rfl⟩
      · exfalso; simp at hact
    refine ⟨fun wu11 hC hd => ?_, ?_⟩
    · obtain ⟨h5, h10, _⟩ := hd
      skip
      skip
      replace h5 : V 5 = (.bool true) := h5
      replace h10 : V 10 = (.bool true) := h10
      replace hb := hb.trans (hC.mono hb.size)
      replace hk1 := blk_ext hk1 hC
      replace hk2 := blk_ext hk2 hC
      exact Runs.does (r_pick (b := true) (congrArg some h5) (congrArg some h10) rfl rfl) ⟨Below.refl _ _, rfl, nofr rfl⟩
    refine ⟨fun wu12 hC hd => ?_, ?_⟩
    · obtain ⟨h5, h11, _⟩ := hd
      skip
      skip
      replace h5 : V 5 = (.bool true) := h5
      replace h11 : V 11 = (.bool true) := h11
      replace hb := hb.trans (hC.mono hb.size)
      replace hk1 := blk_ext hk1 hC
      replace hk2 := blk_ext hk2 hC
      exact Runs.does (r_move (congrArg some h11)) ⟨Below.refl _ _, rfl, nofr rfl⟩
    refine ⟨fun wu13 hC hd => ?_, ?_⟩
    · obtain ⟨h12, _⟩ := hd
      skip
      replace h12 : V 12 = (.bool true) := h12
      replace hb := hb.trans (hC.mono hb.size)
      replace hk1 := blk_ext hk1 hC
      replace hk2 := blk_ext hk2 hC
      refine ⟨true, true, congrArg some h12, fun hact => ?_, fun hact => ?_⟩
      · exact Runs.does (r_fa rfl Try.underlying37 (f := 3) (q := 4) rfl (by kernel_rfl) rfl) ⟨Below.refl _ _, rfl, nofr rfl⟩
      · exfalso; simp at hact
    refine ⟨fun wu14 hC hd => ?_, ?_⟩
    · obtain ⟨h12, h13, _⟩ := hd
      skip
      skip
      replace h12 : V 12 = (.bool true) := h12
      replace h13 : V 13 = (.pointer (some ⟨b1, 4, none⟩)) := h13
      replace hb := hb.trans (hC.mono hb.size)
      replace hk1 := blk_ext hk1 hC
      replace hk2 := blk_ext hk2 hC
      refine ⟨true, true, congrArg some h12, fun hact => ?_, fun hact => ?_⟩
      · exact Runs.does (r_load (v := (.slice (some ⟨kb, 0, none⟩) 2 2)) (congrArg some h13) Try.underlying32 rfl (cell_blk hk1 rfl)) ⟨Below.refl _ _, rfl, nofr rfl⟩
      · exfalso; simp at hact
    refine ⟨fun wu15 hC hd => ?_, ?_⟩
    · obtain ⟨h12, h14, _⟩ := hd
      skip
      skip
      replace h12 : V 12 = (.bool true) := h12
      replace h14 : V 14 = (.slice (some ⟨kb, 0, none⟩) 2 2) := h14
      replace hb := hb.trans (hC.mono hb.size)
      replace hk1 := blk_ext hk1 hC
      replace hk2 := blk_ext hk2 hC
      refine ⟨true, true, congrArg some h12, fun hact => ?_, fun hact => ?_⟩
      · exact Runs.does (r_lensl (congrArg some h14) Try.underlying32) ⟨Below.refl _ _, rfl, nofr rfl⟩
      · exfalso; simp at hact
    refine ⟨fun wu16 hC hd => ?_, ?_⟩
    · obtain ⟨h12, h15, _⟩ := hd
      skip
      skip
      replace h12 : V 12 = (.bool true) := h12
      replace h15 : V 15 = (.int .i64 (2 : Int)) := h15
      replace hb := hb.trans (hC.mono hb.size)
      replace hk1 := blk_ext hk1 hC
      replace hk2 := blk_ext hk2 hC
      refine ⟨true, true, congrArg some h12, fun hact => ?_, fun hact => ?_⟩
      · exact Runs.does (Runs.veq (r_eq (congrArg some h15) rfl) (congrArg Value.bool (show _ = true from by decide))) ⟨Below.refl _ _, rfl, nofr rfl⟩
      · exfalso; simp at hact
    refine ⟨fun wu17 hC hd => ?_, ?_⟩
    · obtain ⟨h12, h16, _⟩ := hd
      skip
      skip
      replace h12 : V 12 = (.bool true) := h12
      replace h16 : V 16 = (.bool true) := h16
      replace hb := hb.trans (hC.mono hb.size)
      replace hk1 := blk_ext hk1 hC
      replace hk2 := blk_ext hk2 hC
      exact Runs.does (r_pick (b := true) (congrArg some h12) (congrArg some h16) rfl rfl) ⟨Below.refl _ _, rfl, nofr rfl⟩
    refine ⟨fun wu18 hC hd => ?_, ?_⟩
    · obtain ⟨h12, h17, _⟩ := hd
      skip
      skip
      replace h12 : V 12 = (.bool true) := h12
      replace h17 : V 17 = (.bool true) := h17
      replace hb := hb.trans (hC.mono hb.size)
      replace hk1 := blk_ext hk1 hC
      replace hk2 := blk_ext hk2 hC
      exact Runs.does (r_move (congrArg some h17)) ⟨Below.refl _ _, rfl, nofr rfl⟩
    refine ⟨fun wu19 hC hd => ?_, ?_⟩
    · obtain ⟨h18, _⟩ := hd
      skip
      replace h18 : V 18 = (.bool true) := h18
      replace hb := hb.trans (hC.mono hb.size)
      replace hk1 := blk_ext hk1 hC
      replace hk2 := blk_ext hk2 hC
      refine ⟨true, true, congrArg some h18, fun hact => ?_, fun hact => ?_⟩
      · exact Runs.does (r_fa rfl Try.underlying37 (f := 3) (q := 4) rfl (by kernel_rfl) rfl) ⟨Below.refl _ _, rfl, nofr rfl⟩
      · exfalso; simp at hact
    refine ⟨fun wu20 hC hd => ?_, ?_⟩
    · obtain ⟨h18, h19, _⟩ := hd
      skip
      skip
      replace h18 : V 18 = (.bool true) := h18
      replace h19 : V 19 = (.pointer (some ⟨b1, 4, none⟩)) := h19
      replace hb := hb.trans (hC.mono hb.size)
      replace hk1 := blk_ext hk1 hC
      replace hk2 := blk_ext hk2 hC
      refine ⟨true, true, congrArg some h18, fun hact => ?_, fun hact => ?_⟩
      · exact Runs.does (r_load (v := (.slice (some ⟨kb, 0, none⟩) 2 2)) (congrArg some h19) Try.underlying32 rfl (cell_blk hk1 rfl)) ⟨Below.refl _ _, rfl, nofr rfl⟩
      · exfalso; simp at hact
    refine ⟨fun wu21 hC hd => ?_, ?_⟩
    · obtain ⟨h18, h20, _⟩ := hd
      skip
      skip
      replace h18 : V 18 = (.bool true) := h18
      replace h20 : V 20 = (.slice (some ⟨kb, 0, none⟩) 2 2) := h20
      replace hb := hb.trans (hC.mono hb.size)
      replace hk1 := blk_ext hk1 hC
      replace hk2 := blk_ext hk2 hC
      refine ⟨true, true, congrArg some h18, fun hact => ?_, fun hact => ?_⟩
      · exact Runs.does (r_ixa (sz := 4) (j := 0) (evAt (congrArg some h20) hat1) rfl Try.underlying32 (by kernel_rfl) rfl (by omega) rfl) ⟨Below.refl _ _, rfl, nofr rfl⟩
      · exfalso; simp at hact
    refine ⟨fun wu22 hC hd => ?_, ?_⟩
    · obtain ⟨h18, h21, _⟩ := hd
      skip
      skip
      replace h18 : V 18 = (.bool true) := h18
      replace h21 : V 21 = (.pointer (some ⟨ab1, (aoff1 + 0 * 4), none⟩)) := h21
      replace hb := hb.trans (hC.mono hb.size)
      replace hk1 := blk_ext hk1 hC
      replace hk2 := blk_ext hk2 hC
      refine ⟨true, true, congrArg some h18, fun hact => ?_, fun hact => ?_⟩
      · exact Runs.does (r_fa (congrArg some h21) Try.underlying127 (f := 1) (q := ((aoff1 + 0 * 4) + 1)) rfl (by kernel_rfl) rfl) ⟨Below.refl _ _, rfl, nofr rfl⟩
      · exfalso; simp at hact
    refine ⟨fun wu23 hC hd => ?_, ?_⟩
    · obtain ⟨h18, h22, _⟩ := hd
      skip
      skip
      replace h18 : V 18 = (.bool true) := h18
      replace h22 : V 22 = (.pointer (some ⟨ab1, ((aoff1 + 0 * 4) + 1), none⟩)) := h22
      replace hb := hb.trans (hC.mono hb.size)
      replace hk1 := blk_ext hk1 hC
      replace hk2 := blk_ext hk2 hC
      refine ⟨true, true, congrArg some h18, fun hact => ?_, fun hact => ?_⟩
      · exact Runs.does (r_load (v := (.int .u64 m)) (congrArg some h22) Try.underlying26 rfl (cellsAt_cell (cellsAt_below hel1 hb hlb1) (i := 1) rfl rfl)) ⟨Below.refl _ _, rfl, nofr rfl⟩
      · exfalso; simp at hact
    refine ⟨fun wu24 hC hd => ?_, ?_⟩
    · obtain ⟨h18, _⟩ := hd
      skip
      replace h18 : V 18 = (.bool true) := h18
      replace hb := hb.trans (hC.mono hb.size)
      replace hk1 := blk_ext hk1 hC
      replace hk2 := blk_ext hk2 hC
      refine ⟨true, true, congrArg some h18, fun hact => ?_, fun hact => ?_⟩
      · exact Runs.does (r_fa rfl Try.underlying132 (f := 2) (q := 3) rfl (by kernel_rfl) rfl) ⟨Below.refl _ _, rfl, nofr rfl⟩
      · exfalso; simp at hact
    refine ⟨fun wu25 hC hd => ?_, ?_⟩
    · obtain ⟨h18, h24, _⟩ := hd
      skip
      skip
      replace h18 : V 18 = (.bool true) := h18
      replace h24 : V 24 = (.pointer (some ⟨b2, 3, none⟩)) := h24
      replace hb := hb.trans (hC.mono hb.size)
      replace hk1 := blk_ext hk1 hC
      replace hk2 := blk_ext hk2 hC
      refine ⟨true, true, congrArg some h18, fun hact => ?_, fun hact => ?_⟩
      · exact Runs.does (r_load (v := (.int .u64 m)) (congrArg some h24) Try.underlying26 rfl (cell_blk hk2 rfl)) ⟨Below.refl _ _, rfl, nofr rfl⟩
      · exfalso; simp at hact
    refine ⟨fun wu26 hC hd => ?_, ?_⟩
    · obtain ⟨h18, h23, h25, _⟩ := hd
      skip
      skip
      skip
      replace h18 : V 18 = (.bool true) := h18
      replace h23 : V 23 = (.int .u64 m) := h23
      replace h25 : V 25 = (.int .u64 m) := h25
      replace hb := hb.trans (hC.mono hb.size)
      replace hk1 := blk_ext hk1 hC
      replace hk2 := blk_ext hk2 hC
      refine ⟨true, true, congrArg some h18, fun hact => ?_, fun hact => ?_⟩
      · exact Runs.does (Runs.veq (r_eq (congrArg some h23) (congrArg some h25)) (congrArg Value.bool (show _ = true from (by simp)))) ⟨Below.refl _ _, rfl, nofr rfl⟩
      · exfalso; simp at hact
    refine ⟨fun wu27 hC hd => ?_, ?_⟩
    · obtain ⟨h18, h26, _⟩ := hd
      skip
      skip
      replace h18 : V 18 = (.bool true) := h18
      replace h26 : V 26 = (.bool true) := h26
      replace hb := hb.trans (hC.mono hb.size)
      replace hk1 := blk_ext hk1 hC
      replace hk2 := blk_ext hk2 hC
      exact Runs.does (r_pick (b := true) (congrArg some h18) (congrArg some h26) rfl rfl) ⟨Below.refl _ _, rfl, nofr rfl⟩
    refine ⟨fun wu28 hC hd => ?_, ?_⟩
    · obtain ⟨h0, h1, h2, h3, h4, h5, h6, h7, h8, h9, h10, h11, h12, h13, h14, h15, h16, h17, h18, h19, h20, h21, h22, h23, h24, h25, h26, h27, _⟩ := hd
      skip
      skip
      skip
      skip
      skip
      skip
      skip
      skip
      skip
      skip
      skip
      skip
      skip
      skip
      skip
      skip
      skip
      skip
      skip
      skip
      skip
      skip
      skip
      skip
      skip
      skip
      skip
      skip
      replace h0 : V 0 = (.pointer (some ⟨b1, 0, none⟩)) := h0
      replace h1 : V 1 = (.agg #[(.string T1), (.string T2)]) := h1
      replace h2 : V 2 = (.pointer (some ⟨b2, 0, none⟩)) := h2
      replace h3 : V 3 = (.agg #[(.string T1), (.string T2)]) := h3
      replace h4 : V 4 = (.bool true) := h4
      replace h5 : V 5 = (.bool true) := h5
      replace h6 : V 6 = (.pointer (some ⟨b1, 2, none⟩)) := h6
      replace h7 : V 7 = (.int .i64 o) := h7
      replace h8 : V 8 = (.pointer (some ⟨b2, 2, none⟩)) := h8
      replace h9 : V 9 = (.int .i64 o) := h9
      replace h10 : V 10 = (.bool true) := h10
      replace h11 : V 11 = (.bool true) := h11
      replace h12 : V 12 = (.bool true) := h12
      replace h13 : V 13 = (.pointer (some ⟨b1, 4, none⟩)) := h13
      replace h14 : V 14 = (.slice (some ⟨kb, 0, none⟩) 2 2) := h14
      replace h15 : V 15 = (.int .i64 (2 : Int)) := h15
      replace h16 : V 16 = (.bool true) := h16
      replace h17 : V 17 = (.bool true) := h17
      replace h18 : V 18 = (.bool true) := h18
      replace h19 : V 19 = (.pointer (some ⟨b1, 4, none⟩)) := h19
      replace h20 : V 20 = (.slice (some ⟨kb, 0, none⟩) 2 2) := h20
      replace h21 : V 21 = (.pointer (some ⟨ab1, (aoff1 + 0 * 4), none⟩)) := h21
      replace h22 : V 22 = (.pointer (some ⟨ab1, ((aoff1 + 0 * 4) + 1), none⟩)) := h22
      replace h23 : V 23 = (.int .u64 m) := h23
      replace h24 : V 24 = (.pointer (some ⟨b2, 3, none⟩)) := h24
      replace h25 : V 25 = (.int .u64 m) := h25
      replace h26 : V 26 = (.bool true) := h26
      replace h27 : V 27 = (.bool true) := h27
      replace hb := hb.trans (hC.mono hb.size)
      replace hk1 := blk_ext hk1 hC
      replace hk2 := blk_ext hk2 hC
      exact Runs.does (r_assign (congrArg some h27)) ⟨Below.refl _ _, rfl, nofr rfl⟩
    trivial
  · skip
    clear hf fa; intro V w3 fa he3 hp hnb hf
    have hv0 : V 0 = (.pointer (some ⟨b1, 0, none⟩)) := postsHold_at hp 0 rfl
    have hv1 : V 1 = (.agg #[(.string T1), (.string T2)]) := postsHold_at hp 1 rfl
    have hv2 : V 2 = (.pointer (some ⟨b2, 0, none⟩)) := postsHold_at hp 2 rfl
    have hv3 : V 3 = (.agg #[(.string T1), (.string T2)]) := postsHold_at hp 3 rfl
    have hv4 : V 4 = (.bool true) := postsHold_at hp 4 rfl
    have hv5 : V 5 = (.bool true) := postsHold_at hp 5 rfl
    have hv6 : V 6 = (.pointer (some ⟨b1, 2, none⟩)) := postsHold_at hp 6 rfl
    have hv7 : V 7 = (.int .i64 o) := postsHold_at hp 7 rfl
    have hv8 : V 8 = (.pointer (some ⟨b2, 2, none⟩)) := postsHold_at hp 8 rfl
    have hv9 : V 9 = (.int .i64 o) := postsHold_at hp 9 rfl
    have hv10 : V 10 = (.bool true) := postsHold_at hp 10 rfl
    have hv11 : V 11 = (.bool true) := postsHold_at hp 11 rfl
    have hv12 : V 12 = (.bool true) := postsHold_at hp 12 rfl
    have hv13 : V 13 = (.pointer (some ⟨b1, 4, none⟩)) := postsHold_at hp 13 rfl
    have hv14 : V 14 = (.slice (some ⟨kb, 0, none⟩) 2 2) := postsHold_at hp 14 rfl
    have hv15 : V 15 = (.int .i64 (2 : Int)) := postsHold_at hp 15 rfl
    have hv16 : V 16 = (.bool true) := postsHold_at hp 16 rfl
    have hv17 : V 17 = (.bool true) := postsHold_at hp 17 rfl
    have hv18 : V 18 = (.bool true) := postsHold_at hp 18 rfl
    have hv19 : V 19 = (.pointer (some ⟨b1, 4, none⟩)) := postsHold_at hp 19 rfl
    have hv20 : V 20 = (.slice (some ⟨kb, 0, none⟩) 2 2) := postsHold_at hp 20 rfl
    have hv21 : V 21 = (.pointer (some ⟨ab1, (aoff1 + 0 * 4), none⟩)) := postsHold_at hp 21 rfl
    have hv22 : V 22 = (.pointer (some ⟨ab1, ((aoff1 + 0 * 4) + 1), none⟩)) := postsHold_at hp 22 rfl
    have hv23 : V 23 = (.int .u64 m) := postsHold_at hp 23 rfl
    have hv24 : V 24 = (.pointer (some ⟨b2, 3, none⟩)) := postsHold_at hp 24 rfl
    have hv25 : V 25 = (.int .u64 m) := postsHold_at hp 25 rfl
    have hv26 : V 26 = (.bool true) := postsHold_at hp 26 rfl
    have hv27 : V 27 = (.bool true) := postsHold_at hp 27 rfl
    have hv28 : V 28 = (.bool true) := postsHold_at hp 28 rfl
    simp only [List.take_succ_cons, List.take_zero, insAll, ins, hv0, hv1, hv2, hv3, hv4, hv5, hv6, hv7, hv8, hv9, hv10, hv11, hv12, hv13, hv14, hv15, hv16, hv17, hv18, hv19, hv20, hv21, hv22, hv23, hv24, hv25, hv26, hv27, hv28] at hf
    clear hp hnb hv0 hv1 hv2 hv3 hv4 hv5 hv6 hv7 hv8 hv9 hv10 hv11 hv12 hv13 hv14 hv15 hv16 hv17 hv18 hv19 hv20 hv21 hv22 hv23 hv24 hv25 hv26 hv27 hv28
    replace hk1 := blk_ext hk1 he3
    replace hk2 := blk_ext hk2 he3
    replace hb := hb.trans (Below.mono he3 hb.size)
    (try simp only [Exit.then, Exit.inBlock, ↓reduceIte, Nat.reduceEqDiff])
    refine hK2 _ _ ?_
    refine wp_ret ?_
    (try simp only [Exit.then, Exit.inBlock])
    refine ret1 hf rfl rfl ?_
    exact ⟨rfl, hb⟩

theorem live_F {B p : Nat} {L : List (Option MFn)} {Sl_ : List Int} {w : World} (hF : FSt B w p L Sl_) (i : Int) : Calls Try.prog 66 #[.pointer (some ⟨p, 0, none⟩), .int .i64 i] w fun e w' => e = .returned (.bool (liveL L i)) ∧ Below w.heap.size w w' := by
  obtain ⟨a, b, c, d, ps, h1, h2, h3, h4, h5, h6, h7⟩ := hF
  have h := live_any B p a b c d ps Sl_ w h1 h2 h3 h4 h5 h6 i
  rw [h7.live] at h
  exact h
theorem len_F {B p : Nat} {L : List (Option MFn)} {Sl_ : List Int} {w : World} (hF : FSt B w p L Sl_) : Calls Try.prog 37 #[.pointer (some ⟨p, 0, none⟩)] w fun e w' => e = .returned (.int .i64 ((L.length : Nat) : Int)) ∧ Below w.heap.size w w' := by
  obtain ⟨a, b, c, d, ps, h1, h2, h3, h4, h5, h6, h7⟩ := hF
  have h := len_any B p a b c d ps Sl_ w h1 h2 h3 h4 h5 h6
  rw [h7.1] at h
  exact h
theorem swapped_F {B p : Nat} {L : List (Option MFn)} {Sl_ : List Int} {w : World} (hF : FSt B w p L Sl_) : Calls Try.prog 40 #[.pointer (some ⟨p, 0, none⟩)] w fun e w' => ∃ v, e = .returned v ∧ Row 1 (vInt .i64) 3 w.heap.size w' v (filF (swC L Sl_) L.length) ∧ Below w.heap.size w w' := by
  obtain ⟨a, b, c, d, ps, h1, h2, h3, h4, h5, h6, h7⟩ := hF
  have h := swapped_any B p a b c d ps Sl_ w h1 h2 h3 h4 h5 h6 L h7
  rw [h7.1] at h
  exact h
theorem owned_F {B p : Nat} {L : List (Option MFn)} {Sl_ : List Int} {w : World} (hF : FSt B w p L Sl_) (o : Int) : Calls Try.prog 42 #[.pointer (some ⟨p, 0, none⟩), .int .i64 o] w fun e w' => ∃ v, e = .returned v ∧ Row 1 (vInt .i64) 3 w.heap.size w' v (filF (owC L o) L.length) ∧ Below w.heap.size w w' := by
  obtain ⟨a, b, c, d, ps, h1, h2, h3, h4, h5, h6, h7⟩ := hF
  have h := owned_any B p a b c d ps Sl_ w h1 h2 h3 h4 h5 h6 L h7 o
  rw [h7.1] at h
  exact h
theorem stL_dead {L : List (Option MFn)} {Sl_ : List Int} {i : Int} (h : liveL L i = false) : stL L Sl_ i = (0, 47) := by unfold stL; rw [if_neg (by rw [h]; decide)]
theorem stL_live {L : List (Option MFn)} {Sl_ : List Int} {i c : Int} (h : liveL L i = true) (hs : Sl_.getD i.toNat 0 = c) : stL L Sl_ i = (c, 0) := by unfold stL; rw [if_pos h, hs]
theorem callL_dead {L : List (Option MFn)} {Sl_ : List Int} {i : Int} (h : liveL L i = false) : callL L Sl_ i = (zFn, 47) := by unfold callL; rw [stL_dead h]; rfl
theorem callL_A {L : List (Option MFn)} {Sl_ : List Int} {i c : Int} (h : liveL L i = true) (hs : Sl_.getD i.toNat 0 = c) (hc : liveL L c = false) : callL L Sl_ i = (zFn, 47) := by
  unfold callL; rw [stL_live h hs, if_pos rfl, if_neg (by rw [hc]; decide)]
theorem callL_B {L : List (Option MFn)} {Sl_ : List Int} {i c : Int} (h : liveL L i = true) (hs : Sl_.getD i.toNat 0 = c) (hc : liveL L c = true) : callL L Sl_ i = (gotL L c, 0) := by
  unfold callL; rw [stL_live h hs, if_pos rfl, if_pos hc]
theorem gotL_dead {L : List (Option MFn)} {i : Int} (h : liveL L i = false) : gotL L i = zFn := by unfold gotL; rw [if_neg (by rw [h]; decide)]
section
variable {B p : Nat} {L : List (Option MFn)} {Sl_ : List Int} {w : World} {i c : Int}
theorem get_dead (hF : FSt B w p L Sl_) (h : liveL L i = false) : Calls Try.prog 16 #[.pointer (some ⟨p, 0, none⟩), .int .i64 i] w fun e w' => e = .returned (.tuple #[fnV zFn, .bool false]) ∧ Below w.heap.size w w' := by
  have h2 := get_F hF i
  rw [h, gotL_dead h] at h2
  exact h2
theorem get_live {x : MFn} (hF : FSt B w p L Sl_) (h : liveL L i = true) (hg : gotL L i = x) : Calls Try.prog 16 #[.pointer (some ⟨p, 0, none⟩), .int .i64 i] w fun e w' => e = .returned (.tuple #[fnV x, .bool true]) ∧ Below w.heap.size w w' := by
  have h2 := get_F hF i
  rw [h, hg] at h2
  exact h2
theorem live_to {b : Bool} (hF : FSt B w p L Sl_) (h : liveL L i = b) : Calls Try.prog 66 #[.pointer (some ⟨p, 0, none⟩), .int .i64 i] w fun e w' => e = .returned (.bool b) ∧ Below w.heap.size w w' := by
  have h2 := live_F hF i
  rw [h] at h2
  exact h2
theorem stands_to {x y : Int} (hF : FSt B w p L Sl_) (h : stL L Sl_ i = (x, y)) : Calls Try.prog 64 #[.pointer (some ⟨p, 0, none⟩), .int .i64 i] w fun e w' => e = .returned (.tuple #[.int .i64 x, .int .i64 y]) ∧ Below w.heap.size w w' := by
  have h2 := stands_F hF i
  rw [h] at h2
  exact h2
theorem called_to {x : MFn} {y : Int} (hF : FSt B w p L Sl_) (h : callL L Sl_ i = (x, y)) : Calls Try.prog 17 #[.pointer (some ⟨p, 0, none⟩), .int .i64 i] w fun e w' => e = .returned (.tuple #[fnV x, .int .i64 y]) ∧ Below w.heap.size w w' := by
  have h2 := called_any B p L Sl_ w hF i
  rw [h] at h2
  exact h2
theorem rlive_to {ar : Option Addr} {R : List MRf} {cr : Nat} {b : Bool} (hl : RdS 6 vMRf w ar R) (hlc : R.length ≤ 1000) (hcc : R.length ≤ cr ∧ cr ≤ 9223372036854775807) (hcn : ar = none → cr = 0) (h : rlB R i = b) : Calls Try.prog 68 #[.slice ar R.length cr, .int .i64 i] w fun e w' => e = .returned (.bool b) ∧ Below w.heap.size w w' := by
  have h2 := rlive_any ar R cr w hl hlc hcc hcn i
  rw [h] at h2
  exact h2
end

set_option maxHeartbeats 1000000 in
set_option maxRecDepth 100000 in
theorem shows_dead (B p : Nat) (L : List (Option MFn)) (Sl_ : List Int) (w : World) (hF : FSt B w p L Sl_) (ar : Option Addr) (R : List MRf) (cr : Nat) (hl : RdS 6 vMRf w ar R) (hlc : R.length ≤ 1000) (hcc : R.length ≤ cr ∧ cr ≤ 9223372036854775807) (hcn : ar = none → cr = 0) (i : Int) (hd : liveL L i = false) (hdR : rlB R i = false) : Calls Try.prog 38 #[(.pointer (some ⟨p, 0, none⟩)), (.slice ar R.length cr), (.int .i64 i)] w fun e w' => e = .returned (.bool true) ∧ Below w.heap.size w w' := by
  refine sx_enter (L := [(0, (.pointer (some ⟨p, 0, none⟩))), (1, (.slice ar R.length cr)), (2, (.int .i64 i))]) Try.func38 rfl rfl rfl rfl (fun fa hf => ?_)
  have hb : Below w.heap.size w w := Below.refl _ _
  refine wp_seq_k (fun K1 hK1 => ?_)
  refine wp_region_lit ?_
  refine sqv hf (r_assign rfl) rfl rfl rfl ?_; clear hf fa; intro fa hf
  apply wpList_nil
  (try simp only [Exit.then, Exit.inBlock, ↓reduceIte, Nat.reduceEqDiff])
  refine hK1 _ _ ?_
  refine wp_seq_k (fun K2 hK2 => ?_)
  refine wp_region_lit ?_
  refine sqv hf (r_move rfl) rfl rfl rfl ?_; clear hf fa; intro fa hf
  refine sqv hf (r_move rfl) rfl rfl rfl ?_; clear hf fa; intro fa hf
  refine sqdt hf (d_callB (vs := [(.pointer (some ⟨p, 0, none⟩)), (.int .i64 i)]) rfl Try.func16 (by kernel_rfl) (by kernel_rfl) (get_dead (hF.ext hb) hd)) rfl rfl rfl ?_; clear hf fa; rintro fa _ w1 ⟨rfl, he1⟩ hf
  replace hb := hb.trans (Below.mono he1 hb.size)
  refine sqv hf (r_move rfl) rfl rfl rfl ?_; clear hf fa; intro fa hf
  refine sqv hf (r_extract rfl (i := 0) rfl) rfl rfl rfl ?_; clear hf fa; intro fa hf
  refine sqv hf (r_extract rfl (i := 1) rfl) rfl rfl rfl ?_; clear hf fa; intro fa hf
  refine sqdt hf (d_alloc (z := (.agg #[(.string ⟨#[]⟩), (.string ⟨#[]⟩), (.int .i64 (0 : Int)), (.string ⟨#[]⟩), (.slice none 0 0), (.slice none 0 0), (.slice none 0 0)])) (cs := #[(.string ⟨#[]⟩), (.string ⟨#[]⟩), (.int .i64 (0 : Int)), (.string ⟨#[]⟩), (.slice none 0 0), (.slice none 0 0), (.slice none 0 0)]) (by kernel_rfl) rfl) rfl rfl rfl ?_; clear hf fa; rintro fa _ w2 ⟨b1, rfl, hle1, hk1, he2⟩ hf
  have hBb1 : w.heap.size ≤ b1 := Nat.le_trans hb.size hle1
  replace hb := hb.trans (Below.mono he2 hb.size)
  refine sqn hf (d_storeK (T := 37) (v := (.agg #[(.string ⟨#[]⟩), (.string ⟨#[]⟩), (.int .i64 (0 : Int)), (.string ⟨#[]⟩), (.slice none 0 0), (.slice none 0 0), (.slice none 0 0)])) (cs := #[(.string ⟨#[]⟩), (.string ⟨#[]⟩), (.int .i64 (0 : Int)), (.string ⟨#[]⟩), (.slice none 0 0), (.slice none 0 0), (.slice none 0 0)]) (cs' := #[(.string ⟨#[]⟩), (.string ⟨#[]⟩), (.int .i64 (0 : Int)), (.string ⟨#[]⟩), (.slice none 0 0), (.slice none 0 0), (.slice none 0 0)]) rfl rfl (by kernel_rfl) (by kernel_rfl) hk1 (by kernel_rfl) (by kernel_rfl)) rfl rfl ?_; clear hf fa; rintro fa _ w3 ⟨hk2, hg1⟩ hf
  replace hb := hb.trans (grown_below hg1 hb.size hBb1)
  refine sqv hf (r_assign rfl) rfl rfl rfl ?_; clear hf fa; intro fa hf
  apply wpList_nil
  (try simp only [Exit.then, Exit.inBlock, ↓reduceIte, Nat.reduceEqDiff])
  refine hK2 _ _ ?_
  refine wp_seq_k (fun K3 hK3 => ?_)
  refine wp_region_lit ?_
  refine sqv hf (r_move rfl) rfl rfl rfl ?_; clear hf fa; intro fa hf
  refine sqv hf (r_move rfl) rfl rfl rfl ?_; clear hf fa; intro fa hf
  refine sqdt hf (d_callB (vs := [(.pointer (some ⟨p, 0, none⟩)), (.int .i64 i)]) rfl Try.func64 (by kernel_rfl) (by kernel_rfl) (stands_to (hF.ext hb) (stL_dead hd))) rfl rfl rfl ?_; clear hf fa; rintro fa _ w4 ⟨rfl, he3⟩ hf
  replace hk2 := blk_ext hk2 he3
  replace hb := hb.trans (Below.mono he3 hb.size)
  refine sqv hf (r_move rfl) rfl rfl rfl ?_; clear hf fa; intro fa hf
  refine sqv hf (r_extract rfl (i := 0) rfl) rfl rfl rfl ?_; clear hf fa; intro fa hf
  refine sqv hf (r_extract rfl (i := 1) rfl) rfl rfl rfl ?_; clear hf fa; intro fa hf
  refine sqv hf (r_assign rfl) rfl rfl rfl ?_; clear hf fa; intro fa hf
  refine sqv hf (r_assign rfl) rfl rfl rfl ?_; clear hf fa; intro fa hf
  apply wpList_nil
  (try simp only [Exit.then, Exit.inBlock, ↓reduceIte, Nat.reduceEqDiff])
  refine hK3 _ _ ?_
  refine wp_seq_k (fun K4 hK4 => ?_)
  refine wp_region_lit ?_
  refine sqv hf (r_move rfl) rfl rfl rfl ?_; clear hf fa; intro fa hf
  refine sqv hf (r_move rfl) rfl rfl rfl ?_; clear hf fa; intro fa hf
  refine sqdt hf (d_callB (vs := [(.pointer (some ⟨p, 0, none⟩)), (.int .i64 i)]) rfl Try.func17 (by kernel_rfl) (by kernel_rfl) (called_to (hF.ext hb) (callL_dead hd))) rfl rfl rfl ?_; clear hf fa; rintro fa _ w5 ⟨rfl, he4⟩ hf
  replace hk2 := blk_ext hk2 he4
  replace hb := hb.trans (Below.mono he4 hb.size)
  refine sqv hf (r_move rfl) rfl rfl rfl ?_; clear hf fa; intro fa hf
  refine sqv hf (r_extract rfl (i := 0) rfl) rfl rfl rfl ?_; clear hf fa; intro fa hf
  refine sqv hf (r_extract rfl (i := 1) rfl) rfl rfl rfl ?_; clear hf fa; intro fa hf
  refine sqdt hf (d_alloc (z := (.agg #[(.string ⟨#[]⟩), (.string ⟨#[]⟩), (.int .i64 (0 : Int)), (.string ⟨#[]⟩), (.slice none 0 0), (.slice none 0 0), (.slice none 0 0)])) (cs := #[(.string ⟨#[]⟩), (.string ⟨#[]⟩), (.int .i64 (0 : Int)), (.string ⟨#[]⟩), (.slice none 0 0), (.slice none 0 0), (.slice none 0 0)]) (by kernel_rfl) rfl) rfl rfl rfl ?_; clear hf fa; rintro fa _ w6 ⟨b2, rfl, hle2, hk3, he5⟩ hf
  have hBb2 : w.heap.size ≤ b2 := Nat.le_trans hb.size hle2
  have : b1 < b2 := Nat.lt_of_lt_of_le (blk_lt hk2) hle2
  replace hk2 := blk_ext hk2 he5
  replace hb := hb.trans (Below.mono he5 hb.size)
  refine sqn hf (d_storeK (T := 37) (v := (.agg #[(.string ⟨#[]⟩), (.string ⟨#[]⟩), (.int .i64 (0 : Int)), (.string ⟨#[]⟩), (.slice none 0 0), (.slice none 0 0), (.slice none 0 0)])) (cs := #[(.string ⟨#[]⟩), (.string ⟨#[]⟩), (.int .i64 (0 : Int)), (.string ⟨#[]⟩), (.slice none 0 0), (.slice none 0 0), (.slice none 0 0)]) (cs' := #[(.string ⟨#[]⟩), (.string ⟨#[]⟩), (.int .i64 (0 : Int)), (.string ⟨#[]⟩), (.slice none 0 0), (.slice none 0 0), (.slice none 0 0)]) rfl rfl (by kernel_rfl) (by kernel_rfl) hk3 (by kernel_rfl) (by kernel_rfl)) rfl rfl ?_; clear hf fa; rintro fa _ w7 ⟨hk4, hg2⟩ hf
  replace hk2 := blk_grown hk2 hg2 (by omega)
  replace hb := hb.trans (grown_below hg2 hb.size hBb2)
  refine sqv hf (r_assign rfl) rfl rfl rfl ?_; clear hf fa; intro fa hf
  apply wpList_nil
  (try simp only [Exit.then, Exit.inBlock, ↓reduceIte, Nat.reduceEqDiff])
  refine hK4 _ _ ?_
  refine wp_seq_k (fun K5 hK5 => ?_)
  refine wp_seq_k (fun K6 hK6 => ?_)
  refine wp_region_lit ?_
  refine sqv hf (r_move rfl) rfl rfl rfl ?_; clear hf fa; intro fa hf
  refine sqv hf (r_move rfl) rfl rfl rfl ?_; clear hf fa; intro fa hf
  refine sqdt hf (d_callB (vs := [(.slice ar R.length cr), (.int .i64 i)]) rfl Try.func68 (by kernel_rfl) (by kernel_rfl) (rlive_to (RdS.ext hl hb) hlc hcc hcn hdR)) rfl rfl rfl ?_; clear hf fa; rintro fa _ w8 ⟨rfl, he6⟩ hf
  replace hk2 := blk_ext hk2 he6
  replace hk4 := blk_ext hk4 he6
  replace hb := hb.trans (Below.mono he6 hb.size)
  refine sqv hf (Runs.veq (v' := (.bool true)) (r_not rfl) rfl) rfl rfl rfl ?_; clear hf fa; intro fa hf
  apply wpList_nil
  (try simp only [Exit.then, Exit.inBlock, ↓reduceIte, Nat.reduceEqDiff])
  refine hK6 _ _ ?_
  refine wp_cond_true (hf.ev rfl) ?_
  refine wp_seq_k (fun K7 hK7 => ?_)
  refine wp_region_lit ?_
  refine sqv hf (r_move rfl) rfl rfl rfl ?_; clear hf fa; intro fa hf
  refine sqv hf (Runs.veq (v' := (.bool true)) (r_not rfl) rfl) rfl rfl rfl ?_; clear hf fa; intro fa hf
  refine sqv hf (r_move rfl) rfl rfl rfl ?_; clear hf fa; intro fa hf
  refine sqgd (act := true) (g := 2) (want := true) (ag := true) (c := true) hf (by rfl) (by rfl) rfl (fun _ =>  Runs.does (R := fun vq wq => vq = (.pointer (some ⟨p, 0, none⟩)) ∧ w8 = wq) (r_move rfl) ⟨rfl, rfl⟩) (fun h => by cases h) rfl ?_; clear hf fa; rintro fa _ _ ⟨rfl, rfl⟩ hf
  change Fr _ _ ((38, (.pointer (some ⟨p, 0, none⟩))) :: _) at hf
  refine sqgd (act := true) (g := 2) (want := true) (ag := true) (c := true) hf (by rfl) (by rfl) rfl (fun _ =>  Runs.does (R := fun vq wq => vq = (.int .i64 i) ∧ w8 = wq) (r_move rfl) ⟨rfl, rfl⟩) (fun h => by cases h) rfl ?_; clear hf fa; rintro fa _ _ ⟨rfl, rfl⟩ hf
  change Fr _ _ ((39, (.int .i64 i)) :: _) at hf
  refine sqgd (act := true) (g := 2) (want := true) (ag := true) (c := true) hf (by rfl) (by rfl) rfl (fun _ =>  (d_callB (vs := [(.pointer (some ⟨p, 0, none⟩)), (.int .i64 i)]) rfl Try.func66 (by kernel_rfl) (by kernel_rfl) (live_to (hF.ext hb) hd)) ) (fun h => by cases h) rfl ?_; clear hf fa; rintro fa _ w9 ⟨rfl, he7⟩ hf
  replace hk2 := blk_ext hk2 he7
  replace hk4 := blk_ext hk4 he7
  replace hb := hb.trans (Below.mono he7 hb.size)
  change Fr _ _ ((40, (.bool false)) :: _) at hf
  refine sqgd (act := true) (g := 2) (want := true) (ag := true) (c := true) hf (by rfl) (by rfl) rfl (fun _ =>  Runs.does (R := fun vq wq => vq = (.bool true) ∧ w9 = wq) (Runs.veq (v' := (.bool true)) (r_not rfl) rfl) ⟨rfl, rfl⟩) (fun h => by cases h) rfl ?_; clear hf fa; rintro fa _ _ ⟨rfl, rfl⟩ hf
  change Fr _ _ ((41, (.bool true)) :: _) at hf
  refine sqv hf (r_pick (b := true) rfl rfl rfl rfl) rfl rfl rfl ?_; clear hf fa; intro fa hf
  refine sqv hf (r_move rfl) rfl rfl rfl ?_; clear hf fa; intro fa hf
  refine sqgd (act := true) (g := 8) (want := true) (ag := true) (c := true) hf (by rfl) (by rfl) rfl (fun _ =>  Runs.does (R := fun vq wq => vq = (.pointer (some ⟨b1, 4, none⟩)) ∧ w9 = wq) (r_fa rfl Try.underlying37 (f := 3) (q := 4) rfl (by kernel_rfl) rfl) ⟨rfl, rfl⟩) (fun h => by cases h) rfl ?_; clear hf fa; rintro fa _ _ ⟨rfl, rfl⟩ hf
  change Fr _ _ ((44, (.pointer (some ⟨b1, 4, none⟩))) :: _) at hf
  refine sqgd (act := true) (g := 8) (want := true) (ag := true) (c := true) hf (by rfl) (by rfl) rfl (fun _ =>  Runs.does (R := fun vq wq => vq = (.slice none 0 0) ∧ w9 = wq) (r_load (v := (.slice none 0 0)) rfl Try.underlying32 rfl (cell_blk hk2 rfl)) ⟨rfl, rfl⟩) (fun h => by cases h) rfl ?_; clear hf fa; rintro fa _ _ ⟨rfl, rfl⟩ hf
  change Fr _ _ ((45, (.slice none 0 0)) :: _) at hf
  refine sqgd (act := true) (g := 8) (want := true) (ag := true) (c := true) hf (by rfl) (by rfl) rfl (fun _ =>  Runs.does (R := fun vq wq => vq = (.int .i64 (0 : Int)) ∧ w9 = wq) (r_lensl rfl Try.underlying32) ⟨rfl, rfl⟩) (fun h => by cases h) rfl ?_; clear hf fa; rintro fa _ _ ⟨rfl, rfl⟩ hf
  change Fr _ _ ((46, (.int .i64 (0 : Int))) :: _) at hf
  refine sqgd (act := true) (g := 8) (want := true) (ag := true) (c := true) hf (by rfl) (by rfl) rfl (fun _ =>  Runs.does (R := fun vq wq => vq = (.bool true) ∧ w9 = wq) (Runs.veq (r_eq rfl rfl) (congrArg Value.bool (show _ = true from by decide))) ⟨rfl, rfl⟩) (fun h => by cases h) rfl ?_; clear hf fa; rintro fa _ _ ⟨rfl, rfl⟩ hf
  change Fr _ _ ((47, (.bool true)) :: _) at hf
  refine sqv hf (r_pick (b := true) rfl rfl rfl rfl) rfl rfl rfl ?_; clear hf fa; intro fa hf
  refine sqv hf (r_move rfl) rfl rfl rfl ?_; clear hf fa; intro fa hf
  refine sqgd (act := true) (g := 14) (want := true) (ag := true) (c := true) hf (by rfl) (by rfl) rfl (fun _ =>  Runs.does (R := fun vq wq => vq = (.int .i64 (0 : Int)) ∧ w9 = wq) (r_move rfl) ⟨rfl, rfl⟩) (fun h => by cases h) rfl ?_; clear hf fa; rintro fa _ _ ⟨rfl, rfl⟩ hf
  change Fr _ _ ((50, (.int .i64 (0 : Int))) :: _) at hf
  refine sqgd (act := true) (g := 14) (want := true) (ag := true) (c := true) hf (by rfl) (by rfl) rfl (fun _ =>  Runs.does (R := fun vq wq => vq = (.bool true) ∧ w9 = wq) (Runs.veq (r_eq rfl rfl) (congrArg Value.bool (show _ = true from by decide))) ⟨rfl, rfl⟩) (fun h => by cases h) rfl ?_; clear hf fa; rintro fa _ _ ⟨rfl, rfl⟩ hf
  change Fr _ _ ((51, (.bool true)) :: _) at hf
  refine sqv hf (r_pick (b := true) rfl rfl rfl rfl) rfl rfl rfl ?_; clear hf fa; intro fa hf
  refine sqv hf (r_move rfl) rfl rfl rfl ?_; clear hf fa; intro fa hf
  refine sqgd (act := true) (g := 18) (want := true) (ag := true) (c := true) hf (by rfl) (by rfl) rfl (fun _ =>  Runs.does (R := fun vq wq => vq = (.int .i64 (47 : Int)) ∧ w9 = wq) (r_move rfl) ⟨rfl, rfl⟩) (fun h => by cases h) rfl ?_; clear hf fa; rintro fa _ _ ⟨rfl, rfl⟩ hf
  change Fr _ _ ((54, (.int .i64 (47 : Int))) :: _) at hf
  refine sqgd (act := true) (g := 18) (want := true) (ag := true) (c := true) hf (by rfl) (by rfl) rfl (fun _ =>  Runs.does (R := fun vq wq => vq = (.bool true) ∧ w9 = wq) (Runs.veq (r_eq rfl rfl) (congrArg Value.bool (show _ = true from by decide))) ⟨rfl, rfl⟩) (fun h => by cases h) rfl ?_; clear hf fa; rintro fa _ _ ⟨rfl, rfl⟩ hf
  change Fr _ _ ((55, (.bool true)) :: _) at hf
  refine sqv hf (r_pick (b := true) rfl rfl rfl rfl) rfl rfl rfl ?_; clear hf fa; intro fa hf
  refine sqv hf (r_move rfl) rfl rfl rfl ?_; clear hf fa; intro fa hf
  refine sqgd (act := true) (g := 22) (want := true) (ag := true) (c := true) hf (by rfl) (by rfl) rfl (fun _ =>  Runs.does (R := fun vq wq => vq = (.int .i64 (47 : Int)) ∧ w9 = wq) (r_move rfl) ⟨rfl, rfl⟩) (fun h => by cases h) rfl ?_; clear hf fa; rintro fa _ _ ⟨rfl, rfl⟩ hf
  change Fr _ _ ((58, (.int .i64 (47 : Int))) :: _) at hf
  refine sqgd (act := true) (g := 22) (want := true) (ag := true) (c := true) hf (by rfl) (by rfl) rfl (fun _ =>  Runs.does (R := fun vq wq => vq = (.bool true) ∧ w9 = wq) (Runs.veq (r_eq rfl rfl) (congrArg Value.bool (show _ = true from by decide))) ⟨rfl, rfl⟩) (fun h => by cases h) rfl ?_; clear hf fa; rintro fa _ _ ⟨rfl, rfl⟩ hf
  change Fr _ _ ((59, (.bool true)) :: _) at hf
  refine sqv hf (r_pick (b := true) rfl rfl rfl rfl) rfl rfl rfl ?_; clear hf fa; intro fa hf
  refine sqv hf (r_move rfl) rfl rfl rfl ?_; clear hf fa; intro fa hf
  refine sqgd (act := true) (g := 26) (want := true) (ag := true) (c := true) hf (by rfl) (by rfl) rfl (fun _ =>  Runs.does (R := fun vq wq => vq = (.pointer (some ⟨b2, 4, none⟩)) ∧ w9 = wq) (r_fa rfl Try.underlying37 (f := 3) (q := 4) rfl (by kernel_rfl) rfl) ⟨rfl, rfl⟩) (fun h => by cases h) rfl ?_; clear hf fa; rintro fa _ _ ⟨rfl, rfl⟩ hf
  change Fr _ _ ((62, (.pointer (some ⟨b2, 4, none⟩))) :: _) at hf
  refine sqgd (act := true) (g := 26) (want := true) (ag := true) (c := true) hf (by rfl) (by rfl) rfl (fun _ =>  Runs.does (R := fun vq wq => vq = (.slice none 0 0) ∧ w9 = wq) (r_load (v := (.slice none 0 0)) rfl Try.underlying32 rfl (cell_blk hk4 rfl)) ⟨rfl, rfl⟩) (fun h => by cases h) rfl ?_; clear hf fa; rintro fa _ _ ⟨rfl, rfl⟩ hf
  change Fr _ _ ((63, (.slice none 0 0)) :: _) at hf
  refine sqgd (act := true) (g := 26) (want := true) (ag := true) (c := true) hf (by rfl) (by rfl) rfl (fun _ =>  Runs.does (R := fun vq wq => vq = (.int .i64 (0 : Int)) ∧ w9 = wq) (r_lensl rfl Try.underlying32) ⟨rfl, rfl⟩) (fun h => by cases h) rfl ?_; clear hf fa; rintro fa _ _ ⟨rfl, rfl⟩ hf
  change Fr _ _ ((64, (.int .i64 (0 : Int))) :: _) at hf
  refine sqgd (act := true) (g := 26) (want := true) (ag := true) (c := true) hf (by rfl) (by rfl) rfl (fun _ =>  Runs.does (R := fun vq wq => vq = (.bool true) ∧ w9 = wq) (Runs.veq (r_eq rfl rfl) (congrArg Value.bool (show _ = true from by decide))) ⟨rfl, rfl⟩) (fun h => by cases h) rfl ?_; clear hf fa; rintro fa _ _ ⟨rfl, rfl⟩ hf
  change Fr _ _ ((65, (.bool true)) :: _) at hf
  refine sqv hf (r_pick (b := true) rfl rfl rfl rfl) rfl rfl rfl ?_; clear hf fa; intro fa hf
  refine sqv hf (r_assign rfl) rfl rfl rfl ?_; clear hf fa; intro fa hf
  apply wpList_nil
  (try simp only [Exit.then, Exit.inBlock, ↓reduceIte, Nat.reduceEqDiff])
  refine hK7 _ _ ?_
  refine wp_ret ?_
  (try simp only [Exit.then, Exit.inBlock])
  refine ret1 hf rfl rfl ?_
  exact ⟨rfl, hb⟩

set_option maxHeartbeats 1000000 in
set_option maxRecDepth 100000 in
theorem shows_A (B p : Nat) (L : List (Option MFn)) (Sl_ : List Int) (w : World) (hF : FSt B w p L Sl_) (ar : Option Addr) (R : List MRf) (cr : Nat) (hl : RdS 6 vMRf w ar R) (hlc : R.length ≤ 1000) (hcc : R.length ≤ cr ∧ cr ≤ 9223372036854775807) (hcn : ar = none → cr = 0) (i : Int) (T1 T2 : ByteArray) (o m cc : Int) (kb : Nat) (hlv : liveL L i = true) (hrl : rlB R i = true) (hg : gotL L i = fT T1 T2 o kb) (hr : R[i.toNat]? = some (rT T1 T2 o m cc)) (hk : w.heap[kb]? = some (.cells (bodyCs m) 127 (0, 0))) (hs : Sl_.getD i.toNat 0 = cc) (hcd : liveL L cc = false) (hcR : rlB R cc = false) : Calls Try.prog 38 #[(.pointer (some ⟨p, 0, none⟩)), (.slice ar R.length cr), (.int .i64 i)] w fun e w' => e = .returned (.bool true) ∧ Below w.heap.size w w' := by
  have hir := rlB_in hrl
  refine sx_enter (L := [(0, (.pointer (some ⟨p, 0, none⟩))), (1, (.slice ar R.length cr)), (2, (.int .i64 i))]) Try.func38 rfl rfl rfl rfl (fun fa hf => ?_)
  have hb : Below w.heap.size w w := Below.refl _ _
  refine wp_seq_k (fun K1 hK1 => ?_)
  refine wp_region_lit ?_
  refine sqv hf (r_assign rfl) rfl rfl rfl ?_; clear hf fa; intro fa hf
  apply wpList_nil
  (try simp only [Exit.then, Exit.inBlock, ↓reduceIte, Nat.reduceEqDiff])
  refine hK1 _ _ ?_
  refine wp_seq_k (fun K2 hK2 => ?_)
  refine wp_region_lit ?_
  refine sqv hf (r_move rfl) rfl rfl rfl ?_; clear hf fa; intro fa hf
  refine sqv hf (r_move rfl) rfl rfl rfl ?_; clear hf fa; intro fa hf
  refine sqdt hf (d_callB (vs := [(.pointer (some ⟨p, 0, none⟩)), (.int .i64 i)]) rfl Try.func16 (by kernel_rfl) (by kernel_rfl) (get_live (hF.ext hb) hlv hg)) rfl rfl rfl ?_; clear hf fa; rintro fa _ w1 ⟨rfl, he1⟩ hf
  replace hb := hb.trans (Below.mono he1 hb.size)
  refine sqv hf (r_move rfl) rfl rfl rfl ?_; clear hf fa; intro fa hf
  refine sqv hf (r_extract rfl (i := 0) rfl) rfl rfl rfl ?_; clear hf fa; intro fa hf
  refine sqv hf (r_extract rfl (i := 1) rfl) rfl rfl rfl ?_; clear hf fa; intro fa hf
  refine sqdt hf (d_alloc (z := (.agg #[(.string ⟨#[]⟩), (.string ⟨#[]⟩), (.int .i64 (0 : Int)), (.string ⟨#[]⟩), (.slice none 0 0), (.slice none 0 0), (.slice none 0 0)])) (cs := #[(.string ⟨#[]⟩), (.string ⟨#[]⟩), (.int .i64 (0 : Int)), (.string ⟨#[]⟩), (.slice none 0 0), (.slice none 0 0), (.slice none 0 0)]) (by kernel_rfl) rfl) rfl rfl rfl ?_; clear hf fa; rintro fa _ w2 ⟨b1, rfl, hle1, hk1, he2⟩ hf
  have hBb1 : w.heap.size ≤ b1 := Nat.le_trans hb.size hle1
  replace hb := hb.trans (Below.mono he2 hb.size)
  refine sqn hf (d_storeK (T := 37) (v := (.agg #[(.string T1), (.string T2), (.int .i64 o), (.string ⟨#[]⟩), (.slice (some ⟨kb, 0, none⟩) 2 2), (.slice none 0 0), (.slice none 0 0)])) (cs := #[(.string ⟨#[]⟩), (.string ⟨#[]⟩), (.int .i64 (0 : Int)), (.string ⟨#[]⟩), (.slice none 0 0), (.slice none 0 0), (.slice none 0 0)]) (cs' := #[(.string T1), (.string T2), (.int .i64 o), (.string ⟨#[]⟩), (.slice (some ⟨kb, 0, none⟩) 2 2), (.slice none 0 0), (.slice none 0 0)]) rfl rfl (by kernel_rfl) (by kernel_rfl) hk1 (by kernel_rfl) (by kernel_rfl)) rfl rfl ?_; clear hf fa; rintro fa _ w3 ⟨hk2, hg1⟩ hf
  replace hb := hb.trans (grown_below hg1 hb.size hBb1)
  refine sqv hf (r_assign rfl) rfl rfl rfl ?_; clear hf fa; intro fa hf
  apply wpList_nil
  (try simp only [Exit.then, Exit.inBlock, ↓reduceIte, Nat.reduceEqDiff])
  refine hK2 _ _ ?_
  refine wp_seq_k (fun K3 hK3 => ?_)
  refine wp_region_lit ?_
  refine sqv hf (r_move rfl) rfl rfl rfl ?_; clear hf fa; intro fa hf
  refine sqv hf (r_move rfl) rfl rfl rfl ?_; clear hf fa; intro fa hf
  refine sqdt hf (d_callB (vs := [(.pointer (some ⟨p, 0, none⟩)), (.int .i64 i)]) rfl Try.func64 (by kernel_rfl) (by kernel_rfl) (stands_to (hF.ext hb) (stL_live hlv hs))) rfl rfl rfl ?_; clear hf fa; rintro fa _ w4 ⟨rfl, he3⟩ hf
  replace hk2 := blk_ext hk2 he3
  replace hb := hb.trans (Below.mono he3 hb.size)
  refine sqv hf (r_move rfl) rfl rfl rfl ?_; clear hf fa; intro fa hf
  refine sqv hf (r_extract rfl (i := 0) rfl) rfl rfl rfl ?_; clear hf fa; intro fa hf
  refine sqv hf (r_extract rfl (i := 1) rfl) rfl rfl rfl ?_; clear hf fa; intro fa hf
  refine sqv hf (r_assign rfl) rfl rfl rfl ?_; clear hf fa; intro fa hf
  refine sqv hf (r_assign rfl) rfl rfl rfl ?_; clear hf fa; intro fa hf
  apply wpList_nil
  (try simp only [Exit.then, Exit.inBlock, ↓reduceIte, Nat.reduceEqDiff])
  refine hK3 _ _ ?_
  refine wp_seq_k (fun K4 hK4 => ?_)
  refine wp_region_lit ?_
  refine sqv hf (r_move rfl) rfl rfl rfl ?_; clear hf fa; intro fa hf
  refine sqv hf (r_move rfl) rfl rfl rfl ?_; clear hf fa; intro fa hf
  refine sqdt hf (d_callB (vs := [(.pointer (some ⟨p, 0, none⟩)), (.int .i64 i)]) rfl Try.func17 (by kernel_rfl) (by kernel_rfl) (called_to (hF.ext hb) (callL_A hlv hs hcd))) rfl rfl rfl ?_; clear hf fa; rintro fa _ w5 ⟨rfl, he4⟩ hf
  replace hk2 := blk_ext hk2 he4
  replace hb := hb.trans (Below.mono he4 hb.size)
  refine sqv hf (r_move rfl) rfl rfl rfl ?_; clear hf fa; intro fa hf
  refine sqv hf (r_extract rfl (i := 0) rfl) rfl rfl rfl ?_; clear hf fa; intro fa hf
  refine sqv hf (r_extract rfl (i := 1) rfl) rfl rfl rfl ?_; clear hf fa; intro fa hf
  refine sqdt hf (d_alloc (z := (.agg #[(.string ⟨#[]⟩), (.string ⟨#[]⟩), (.int .i64 (0 : Int)), (.string ⟨#[]⟩), (.slice none 0 0), (.slice none 0 0), (.slice none 0 0)])) (cs := #[(.string ⟨#[]⟩), (.string ⟨#[]⟩), (.int .i64 (0 : Int)), (.string ⟨#[]⟩), (.slice none 0 0), (.slice none 0 0), (.slice none 0 0)]) (by kernel_rfl) rfl) rfl rfl rfl ?_; clear hf fa; rintro fa _ w6 ⟨b2, rfl, hle2, hk3, he5⟩ hf
  have hBb2 : w.heap.size ≤ b2 := Nat.le_trans hb.size hle2
  have : b1 < b2 := Nat.lt_of_lt_of_le (blk_lt hk2) hle2
  replace hk2 := blk_ext hk2 he5
  replace hb := hb.trans (Below.mono he5 hb.size)
  refine sqn hf (d_storeK (T := 37) (v := (.agg #[(.string ⟨#[]⟩), (.string ⟨#[]⟩), (.int .i64 (0 : Int)), (.string ⟨#[]⟩), (.slice none 0 0), (.slice none 0 0), (.slice none 0 0)])) (cs := #[(.string ⟨#[]⟩), (.string ⟨#[]⟩), (.int .i64 (0 : Int)), (.string ⟨#[]⟩), (.slice none 0 0), (.slice none 0 0), (.slice none 0 0)]) (cs' := #[(.string ⟨#[]⟩), (.string ⟨#[]⟩), (.int .i64 (0 : Int)), (.string ⟨#[]⟩), (.slice none 0 0), (.slice none 0 0), (.slice none 0 0)]) rfl rfl (by kernel_rfl) (by kernel_rfl) hk3 (by kernel_rfl) (by kernel_rfl)) rfl rfl ?_; clear hf fa; rintro fa _ w7 ⟨hk4, hg2⟩ hf
  replace hk2 := blk_grown hk2 hg2 (by omega)
  replace hb := hb.trans (grown_below hg2 hb.size hBb2)
  refine sqv hf (r_assign rfl) rfl rfl rfl ?_; clear hf fa; intro fa hf
  apply wpList_nil
  (try simp only [Exit.then, Exit.inBlock, ↓reduceIte, Nat.reduceEqDiff])
  refine hK4 _ _ ?_
  refine wp_seq_k (fun K5 hK5 => ?_)
  refine wp_seq_k (fun K6 hK6 => ?_)
  refine wp_region_lit ?_
  refine sqv hf (r_move rfl) rfl rfl rfl ?_; clear hf fa; intro fa hf
  refine sqv hf (r_move rfl) rfl rfl rfl ?_; clear hf fa; intro fa hf
  refine sqdt hf (d_callB (vs := [(.slice ar R.length cr), (.int .i64 i)]) rfl Try.func68 (by kernel_rfl) (by kernel_rfl) (rlive_to (RdS.ext hl hb) hlc hcc hcn hrl)) rfl rfl rfl ?_; clear hf fa; rintro fa _ w8 ⟨rfl, he6⟩ hf
  replace hk2 := blk_ext hk2 he6
  replace hk4 := blk_ext hk4 he6
  replace hb := hb.trans (Below.mono he6 hb.size)
  refine sqv hf (Runs.veq (v' := (.bool false)) (r_not rfl) rfl) rfl rfl rfl ?_; clear hf fa; intro fa hf
  apply wpList_nil
  (try simp only [Exit.then, Exit.inBlock, ↓reduceIte, Nat.reduceEqDiff])
  refine hK6 _ _ ?_
  refine wp_cond_false (hf.ev rfl) ?_
  refine wp_skip ?_
  (try simp only [Exit.then, Exit.inBlock, ↓reduceIte, Nat.reduceEqDiff])
  refine hK5 _ _ ?_
  refine wp_seq_k (fun K7 hK7 => ?_)
  refine wp_seq_k (fun K8 hK8 => ?_)
  have hy1 : (R)[(i).toNat]? = some (rT T1 T2 o m cc) := hr
  obtain ⟨ab1, aoff1, hat1, hlb1, hel1⟩ := RdS.at hl hy1
  refine wp_region_un (fun wq => Below w8.heap.size w8 wq) (fun w w' => Below w.heap.size w w')
    (fun V => [(fun x _ => x = (.bool true)), (fun x _ => x = (.bool false)), (fun x _ => x = (.bool false)), (fun x _ => x = (.pointer (some ⟨p, 0, none⟩))), (fun x _ => x = (.int .i64 i)), (fun x _ => x = (.bool true)), (fun x _ => x = (.bool false)), (fun x _ => x = (.bool false)), (fun x _ => x = (.bool false)), (fun x _ => x = (.agg #[(.string T1), (.string T2), (.int .i64 o), (.string ⟨#[]⟩), (.slice (some ⟨kb, 0, none⟩) 2 2), (.slice none 0 0), (.slice none 0 0)])), (fun x _ => x = (.slice ar R.length cr)), (fun x _ => x = (.int .i64 i)), (fun x _ => x = (.pointer (some ⟨ab1, (aoff1 + (i).toNat * 6), none⟩))), (fun x _ => x = (.agg #[(.string T1), (.string T2), (.int .i64 o), (.int .u64 m), (.int .i64 cc), (.bool true)])), (fun x _ => x = (.bool true)), (fun x _ => x = (.bool false)), (fun x _ => x = (.bool false)), (fun x _ => x = (.bool false)), (fun x _ => x = (.int .i64 cc)), (fun x _ => x = (.slice ar R.length cr)), (fun x _ => x = (.int .i64 i)), (fun x _ => x = (.pointer (some ⟨ab1, (aoff1 + (i).toNat * 6), none⟩))), (fun x _ => x = (.pointer (some ⟨ab1, ((aoff1 + (i).toNat * 6) + 4), none⟩))), (fun x _ => x = (.int .i64 cc)), (fun x _ => x = (.bool false)), (fun x _ => x = (.bool false)), (fun x _ => x = (.bool false)), (fun x _ => x = (.int .i64 (0 : Int))), (fun x _ => x = (.bool false)), (fun x _ => x = (.bool false))])
    []
    [[], [0], [1], [2], [2], [2, 3, 4], [2, 5], [2, 6], [5, 7], [8], [8], [8], [8, 10, 11], [8, 12], [8, 9, 13], [8, 14], [8, 15], [14, 16], [17], [17], [17], [17, 19, 20], [17, 21], [17, 22], [17, 18, 23], [17, 24], [17, 25], [26], [26, 27], [26, 28]]
    hf (by kernel_rfl) (by kernel_rfl) (fun _ => rfl) ((Below.refl _ _).drew) (fun a b h1 h2 => h1.trans (h2.mono h1.size)) (fun _ _ h => h.size) (fun V => ⟨kept_eq, kept_eq, kept_eq, kept_eq, kept_eq, kept_eq, kept_eq, kept_eq, kept_eq, kept_eq, kept_eq, kept_eq, kept_eq, kept_eq, kept_eq, kept_eq, kept_eq, kept_eq, kept_eq, kept_eq, kept_eq, kept_eq, kept_eq, kept_eq, kept_eq, kept_eq, kept_eq, kept_eq, kept_eq, kept_eq, trivial⟩) (fun _ _ _ _ _ => rfl) ?_ ?_
  · skip
    intro V
    refine ⟨fun wu0 hC hd => ?_, ?_⟩
    · clear hd
      replace hb := hb.trans (hC.mono hb.size)
      replace hk2 := blk_ext hk2 hC
      replace hk4 := blk_ext hk4 hC
      exact Runs.does (r_move rfl) ⟨Below.refl _ _, rfl, nofr rfl⟩
    refine ⟨fun wu1 hC hd => ?_, ?_⟩
    · obtain ⟨h0, _⟩ := hd
      skip
      replace h0 : V 0 = (.bool true) := h0
      replace hb := hb.trans (hC.mono hb.size)
      replace hk2 := blk_ext hk2 hC
      replace hk4 := blk_ext hk4 hC
      exact Runs.does (Runs.veq (v' := (.bool false)) (r_not (congrArg some h0)) rfl) ⟨Below.refl _ _, rfl, nofr rfl⟩
    refine ⟨fun wu2 hC hd => ?_, ?_⟩
    · obtain ⟨h1, _⟩ := hd
      skip
      replace h1 : V 1 = (.bool false) := h1
      replace hb := hb.trans (hC.mono hb.size)
      replace hk2 := blk_ext hk2 hC
      replace hk4 := blk_ext hk4 hC
      exact Runs.does (r_move (congrArg some h1)) ⟨Below.refl _ _, rfl, nofr rfl⟩
    refine ⟨fun wu3 hC hd => ?_, ?_⟩
    · obtain ⟨h2, _⟩ := hd
      skip
      replace h2 : V 2 = (.bool false) := h2
      replace hb := hb.trans (hC.mono hb.size)
      replace hk2 := blk_ext hk2 hC
      replace hk4 := blk_ext hk4 hC
      refine ⟨true, false, congrArg some h2, fun hact => ?_, fun hact => ?_⟩
      · exact Runs.does (r_move rfl) ⟨Below.refl _ _, rfl, nofr rfl⟩
      · exfalso; simp at hact
    refine ⟨fun wu4 hC hd => ?_, ?_⟩
    · obtain ⟨h2, _⟩ := hd
      skip
      replace h2 : V 2 = (.bool false) := h2
      replace hb := hb.trans (hC.mono hb.size)
      replace hk2 := blk_ext hk2 hC
      replace hk4 := blk_ext hk4 hC
      refine ⟨true, false, congrArg some h2, fun hact => ?_, fun hact => ?_⟩
      · exact Runs.does (r_move rfl) ⟨Below.refl _ _, rfl, nofr rfl⟩
      · exfalso; simp at hact
    refine ⟨fun wu5 hC hd => ?_, ?_⟩
    · obtain ⟨h2, h3, h4, _⟩ := hd
      skip
      skip
      skip
      replace h2 : V 2 = (.bool false) := h2
      replace h3 : V 3 = (.pointer (some ⟨p, 0, none⟩)) := h3
      replace h4 : V 4 = (.int .i64 i) := h4
      replace hb := hb.trans (hC.mono hb.size)
      replace hk2 := blk_ext hk2 hC
      replace hk4 := blk_ext hk4 hC
      refine ⟨true, false, congrArg some h2, fun hact => ?_, fun hact => ?_⟩
      · refine Does.mono (d_callB (vs := [(.pointer (some ⟨p, 0, none⟩)), (.int .i64 i)]) (show [some (V 3), some (V 4)] = [some (.pointer (some ⟨p, 0, none⟩)), some (.int .i64 i)] from by rw [h3, h4]) Try.func66 (by kernel_rfl) (by kernel_rfl) (live_to (hF.ext hb) hlv)) (fun _ _ h => ⟨h.2, h.1, nofr rfl⟩)
      · exfalso; simp at hact
    refine ⟨fun wu6 hC hd => ?_, ?_⟩
    · obtain ⟨h2, h5, _⟩ := hd
      skip
      skip
      replace h2 : V 2 = (.bool false) := h2
      replace h5 : V 5 = (.bool true) := h5
      replace hb := hb.trans (hC.mono hb.size)
      replace hk2 := blk_ext hk2 hC
      replace hk4 := blk_ext hk4 hC
      refine ⟨true, false, congrArg some h2, fun hact => ?_, fun hact => ?_⟩
      · exact Runs.does (Runs.veq (v' := (.bool false)) (r_not (congrArg some h5)) rfl) ⟨Below.refl _ _, rfl, nofr rfl⟩
      · exfalso; simp at hact
    refine ⟨fun wu7 hC hd => ?_, ?_⟩
    · obtain ⟨h2, h6, _⟩ := hd
      skip
      skip
      replace h2 : V 2 = (.bool false) := h2
      replace h6 : V 6 = (.bool false) := h6
      replace hb := hb.trans (hC.mono hb.size)
      replace hk2 := blk_ext hk2 hC
      replace hk4 := blk_ext hk4 hC
      exact Runs.does (r_pick (b := false) (congrArg some h2) rfl (congrArg some h6) rfl) ⟨Below.refl _ _, rfl, nofr rfl⟩
    refine ⟨fun wu8 hC hd => ?_, ?_⟩
    · obtain ⟨h5, h7, _⟩ := hd
      skip
      skip
      replace h5 : V 5 = (.bool true) := h5
      replace h7 : V 7 = (.bool false) := h7
      replace hb := hb.trans (hC.mono hb.size)
      replace hk2 := blk_ext hk2 hC
      replace hk4 := blk_ext hk4 hC
      exact Runs.does (r_move (congrArg some h7)) ⟨Below.refl _ _, rfl, nofr rfl⟩
    refine ⟨fun wu9 hC hd => ?_, ?_⟩
    · obtain ⟨h8, _⟩ := hd
      skip
      replace h8 : V 8 = (.bool false) := h8
      replace hb := hb.trans (hC.mono hb.size)
      replace hk2 := blk_ext hk2 hC
      replace hk4 := blk_ext hk4 hC
      refine ⟨true, false, congrArg some h8, fun hact => ?_, fun hact => ?_⟩
      · exact Runs.does (r_loadA (cs := [(.string T1), (.string T2), (.int .i64 o), (.string ⟨#[]⟩), (.slice (some ⟨kb, 0, none⟩) 2 2), (.slice none 0 0), (.slice none 0 0)]) rfl Try.underlying37 rfl (by kernel_rfl) (cellsAt_blk hk2)) ⟨Below.refl _ _, rfl, nofr rfl⟩
      · exfalso; simp at hact
    refine ⟨fun wu10 hC hd => ?_, ?_⟩
    · obtain ⟨h8, _⟩ := hd
      skip
      replace h8 : V 8 = (.bool false) := h8
      replace hb := hb.trans (hC.mono hb.size)
      replace hk2 := blk_ext hk2 hC
      replace hk4 := blk_ext hk4 hC
      refine ⟨true, false, congrArg some h8, fun hact => ?_, fun hact => ?_⟩
      · exact Runs.does (r_move rfl) ⟨Below.refl _ _, rfl, nofr rfl⟩
      · exfalso; simp at hact
    refine ⟨fun wu11 hC hd => ?_, ?_⟩
    · obtain ⟨h8, _⟩ := hd
      skip
      replace h8 : V 8 = (.bool false) := h8
      replace hb := hb.trans (hC.mono hb.size)
      replace hk2 := blk_ext hk2 hC
      replace hk4 := blk_ext hk4 hC
      refine ⟨true, false, congrArg some h8, fun hact => ?_, fun hact => ?_⟩
      · exact Runs.does (r_move rfl) ⟨Below.refl _ _, rfl, nofr rfl⟩
      · exfalso; simp at hact
    refine ⟨fun wu12 hC hd => ?_, ?_⟩
    · obtain ⟨h8, h10, h11, _⟩ := hd
      skip
      skip
      skip
      replace h8 : V 8 = (.bool false) := h8
      replace h10 : V 10 = (.slice ar R.length cr) := h10
      replace h11 : V 11 = (.int .i64 i) := h11
      replace hb := hb.trans (hC.mono hb.size)
      replace hk2 := blk_ext hk2 hC
      replace hk4 := blk_ext hk4 hC
      refine ⟨true, false, congrArg some h8, fun hact => ?_, fun hact => ?_⟩
      · exact Runs.does (r_ixa (sz := 6) (j := (i).toNat) (evAt (congrArg some h10) hat1) (congrArg some h11) Try.underlying76 (by kernel_rfl) (by omega) (by omega) rfl) ⟨Below.refl _ _, rfl, nofr rfl⟩
      · exfalso; simp at hact
    refine ⟨fun wu13 hC hd => ?_, ?_⟩
    · obtain ⟨h8, h12, _⟩ := hd
      skip
      skip
      replace h8 : V 8 = (.bool false) := h8
      replace h12 : V 12 = (.pointer (some ⟨ab1, (aoff1 + (i).toNat * 6), none⟩)) := h12
      replace hb := hb.trans (hC.mono hb.size)
      replace hk2 := blk_ext hk2 hC
      replace hk4 := blk_ext hk4 hC
      refine ⟨true, false, congrArg some h8, fun hact => ?_, fun hact => ?_⟩
      · exact Runs.does (r_loadA (cs := [(.string T1), (.string T2), (.int .i64 o), (.int .u64 m), (.int .i64 cc), (.bool true)]) (congrArg some h12) Try.underlying132 rfl (by kernel_rfl) (cellsAt_below hel1 hb hlb1)) ⟨Below.refl _ _, rfl, nofr rfl⟩
      · exfalso; simp at hact
    refine ⟨fun wu14 hC hd => ?_, ?_⟩
    · obtain ⟨h8, h9, h13, _⟩ := hd
      skip
      skip
      skip
      replace h8 : V 8 = (.bool false) := h8
      replace h9 : V 9 = (.agg #[(.string T1), (.string T2), (.int .i64 o), (.string ⟨#[]⟩), (.slice (some ⟨kb, 0, none⟩) 2 2), (.slice none 0 0), (.slice none 0 0)]) := h9
      replace h13 : V 13 = (.agg #[(.string T1), (.string T2), (.int .i64 o), (.int .u64 m), (.int .i64 cc), (.bool true)]) := h13
      replace hb := hb.trans (hC.mono hb.size)
      replace hk2 := blk_ext hk2 hC
      replace hk4 := blk_ext hk4 hC
      refine ⟨true, false, congrArg some h8, fun hact => ?_, fun hact => ?_⟩
      · refine Does.mono (d_callB (vs := [(.agg #[(.string T1), (.string T2), (.int .i64 o), (.string ⟨#[]⟩), (.slice (some ⟨kb, 0, none⟩) 2 2), (.slice none 0 0), (.slice none 0 0)]), (.agg #[(.string T1), (.string T2), (.int .i64 o), (.int .u64 m), (.int .i64 cc), (.bool true)])]) (show [some (V 9), some (V 13)] = [some (.agg #[(.string T1), (.string T2), (.int .i64 o), (.string ⟨#[]⟩), (.slice (some ⟨kb, 0, none⟩) 2 2), (.slice none 0 0), (.slice none 0 0)]), some (.agg #[(.string T1), (.string T2), (.int .i64 o), (.int .u64 m), (.int .i64 cc), (.bool true)])] from by rw [h9, h13]) Try.func72 (by kernel_rfl) (by kernel_rfl) (is_any T1 T2 o m cc kb _ (blk_ext hk hb))) (fun _ _ h => ⟨h.2, h.1, nofr rfl⟩)
      · exfalso; simp at hact
    refine ⟨fun wu15 hC hd => ?_, ?_⟩
    · obtain ⟨h8, h14, _⟩ := hd
      skip
      skip
      replace h8 : V 8 = (.bool false) := h8
      replace h14 : V 14 = (.bool true) := h14
      replace hb := hb.trans (hC.mono hb.size)
      replace hk2 := blk_ext hk2 hC
      replace hk4 := blk_ext hk4 hC
      refine ⟨true, false, congrArg some h8, fun hact => ?_, fun hact => ?_⟩
      · exact Runs.does (Runs.veq (v' := (.bool false)) (r_not (congrArg some h14)) rfl) ⟨Below.refl _ _, rfl, nofr rfl⟩
      · exfalso; simp at hact
    refine ⟨fun wu16 hC hd => ?_, ?_⟩
    · obtain ⟨h8, h15, _⟩ := hd
      skip
      skip
      replace h8 : V 8 = (.bool false) := h8
      replace h15 : V 15 = (.bool false) := h15
      replace hb := hb.trans (hC.mono hb.size)
      replace hk2 := blk_ext hk2 hC
      replace hk4 := blk_ext hk4 hC
      exact Runs.does (r_pick (b := false) (congrArg some h8) rfl (congrArg some h15) rfl) ⟨Below.refl _ _, rfl, nofr rfl⟩
    refine ⟨fun wu17 hC hd => ?_, ?_⟩
    · obtain ⟨h14, h16, _⟩ := hd
      skip
      skip
      replace h14 : V 14 = (.bool true) := h14
      replace h16 : V 16 = (.bool false) := h16
      replace hb := hb.trans (hC.mono hb.size)
      replace hk2 := blk_ext hk2 hC
      replace hk4 := blk_ext hk4 hC
      exact Runs.does (r_move (congrArg some h16)) ⟨Below.refl _ _, rfl, nofr rfl⟩
    refine ⟨fun wu18 hC hd => ?_, ?_⟩
    · obtain ⟨h17, _⟩ := hd
      skip
      replace h17 : V 17 = (.bool false) := h17
      replace hb := hb.trans (hC.mono hb.size)
      replace hk2 := blk_ext hk2 hC
      replace hk4 := blk_ext hk4 hC
      refine ⟨true, false, congrArg some h17, fun hact => ?_, fun hact => ?_⟩
      · exact Runs.does (r_move rfl) ⟨Below.refl _ _, rfl, nofr rfl⟩
      · exfalso; simp at hact
    refine ⟨fun wu19 hC hd => ?_, ?_⟩
    · obtain ⟨h17, _⟩ := hd
      skip
      replace h17 : V 17 = (.bool false) := h17
      replace hb := hb.trans (hC.mono hb.size)
      replace hk2 := blk_ext hk2 hC
      replace hk4 := blk_ext hk4 hC
      refine ⟨true, false, congrArg some h17, fun hact => ?_, fun hact => ?_⟩
      · exact Runs.does (r_move rfl) ⟨Below.refl _ _, rfl, nofr rfl⟩
      · exfalso; simp at hact
    refine ⟨fun wu20 hC hd => ?_, ?_⟩
    · obtain ⟨h17, _⟩ := hd
      skip
      replace h17 : V 17 = (.bool false) := h17
      replace hb := hb.trans (hC.mono hb.size)
      replace hk2 := blk_ext hk2 hC
      replace hk4 := blk_ext hk4 hC
      refine ⟨true, false, congrArg some h17, fun hact => ?_, fun hact => ?_⟩
      · exact Runs.does (r_move rfl) ⟨Below.refl _ _, rfl, nofr rfl⟩
      · exfalso; simp at hact
    refine ⟨fun wu21 hC hd => ?_, ?_⟩
    · obtain ⟨h17, h19, h20, _⟩ := hd
      skip
      skip
      skip
      replace h17 : V 17 = (.bool false) := h17
      replace h19 : V 19 = (.slice ar R.length cr) := h19
      replace h20 : V 20 = (.int .i64 i) := h20
      replace hb := hb.trans (hC.mono hb.size)
      replace hk2 := blk_ext hk2 hC
      replace hk4 := blk_ext hk4 hC
      refine ⟨true, false, congrArg some h17, fun hact => ?_, fun hact => ?_⟩
      · exact Runs.does (r_ixa (sz := 6) (j := (i).toNat) (evAt (congrArg some h19) hat1) (congrArg some h20) Try.underlying76 (by kernel_rfl) (by omega) (by omega) rfl) ⟨Below.refl _ _, rfl, nofr rfl⟩
      · exfalso; simp at hact
    refine ⟨fun wu22 hC hd => ?_, ?_⟩
    · obtain ⟨h17, h21, _⟩ := hd
      skip
      skip
      replace h17 : V 17 = (.bool false) := h17
      replace h21 : V 21 = (.pointer (some ⟨ab1, (aoff1 + (i).toNat * 6), none⟩)) := h21
      replace hb := hb.trans (hC.mono hb.size)
      replace hk2 := blk_ext hk2 hC
      replace hk4 := blk_ext hk4 hC
      refine ⟨true, false, congrArg some h17, fun hact => ?_, fun hact => ?_⟩
      · exact Runs.does (r_fa (congrArg some h21) Try.underlying132 (f := 3) (q := ((aoff1 + (i).toNat * 6) + 4)) rfl (by kernel_rfl) rfl) ⟨Below.refl _ _, rfl, nofr rfl⟩
      · exfalso; simp at hact
    refine ⟨fun wu23 hC hd => ?_, ?_⟩
    · obtain ⟨h17, h22, _⟩ := hd
      skip
      skip
      replace h17 : V 17 = (.bool false) := h17
      replace h22 : V 22 = (.pointer (some ⟨ab1, ((aoff1 + (i).toNat * 6) + 4), none⟩)) := h22
      replace hb := hb.trans (hC.mono hb.size)
      replace hk2 := blk_ext hk2 hC
      replace hk4 := blk_ext hk4 hC
      refine ⟨true, false, congrArg some h17, fun hact => ?_, fun hact => ?_⟩
      · exact Runs.does (r_load (v := (.int .i64 cc)) (congrArg some h22) Try.underlying3 rfl (cellsAt_cell (cellsAt_below hel1 hb hlb1) (i := 4) rfl rfl)) ⟨Below.refl _ _, rfl, nofr rfl⟩
      · exfalso; simp at hact
    refine ⟨fun wu24 hC hd => ?_, ?_⟩
    · obtain ⟨h17, h18, h23, _⟩ := hd
      skip
      skip
      skip
      replace h17 : V 17 = (.bool false) := h17
      replace h18 : V 18 = (.int .i64 cc) := h18
      replace h23 : V 23 = (.int .i64 cc) := h23
      replace hb := hb.trans (hC.mono hb.size)
      replace hk2 := blk_ext hk2 hC
      replace hk4 := blk_ext hk4 hC
      refine ⟨true, false, congrArg some h17, fun hact => ?_, fun hact => ?_⟩
      · exact Runs.does (Runs.veq (r_ne (congrArg some h18) (congrArg some h23)) (congrArg Value.bool (show _ = false from (by simp)))) ⟨Below.refl _ _, rfl, nofr rfl⟩
      · exfalso; simp at hact
    refine ⟨fun wu25 hC hd => ?_, ?_⟩
    · obtain ⟨h17, h24, _⟩ := hd
      skip
      skip
      replace h17 : V 17 = (.bool false) := h17
      replace h24 : V 24 = (.bool false) := h24
      replace hb := hb.trans (hC.mono hb.size)
      replace hk2 := blk_ext hk2 hC
      replace hk4 := blk_ext hk4 hC
      exact Runs.does (r_pick (b := false) (congrArg some h17) rfl (congrArg some h24) rfl) ⟨Below.refl _ _, rfl, nofr rfl⟩
    refine ⟨fun wu26 hC hd => ?_, ?_⟩
    · obtain ⟨h17, h25, _⟩ := hd
      skip
      skip
      replace h17 : V 17 = (.bool false) := h17
      replace h25 : V 25 = (.bool false) := h25
      replace hb := hb.trans (hC.mono hb.size)
      replace hk2 := blk_ext hk2 hC
      replace hk4 := blk_ext hk4 hC
      exact Runs.does (r_move (congrArg some h25)) ⟨Below.refl _ _, rfl, nofr rfl⟩
    refine ⟨fun wu27 hC hd => ?_, ?_⟩
    · obtain ⟨h26, _⟩ := hd
      skip
      replace h26 : V 26 = (.bool false) := h26
      replace hb := hb.trans (hC.mono hb.size)
      replace hk2 := blk_ext hk2 hC
      replace hk4 := blk_ext hk4 hC
      refine ⟨true, false, congrArg some h26, fun hact => ?_, fun hact => ?_⟩
      · exact Runs.does (r_move rfl) ⟨Below.refl _ _, rfl, nofr rfl⟩
      · exfalso; simp at hact
    refine ⟨fun wu28 hC hd => ?_, ?_⟩
    · obtain ⟨h26, h27, _⟩ := hd
      skip
      skip
      replace h26 : V 26 = (.bool false) := h26
      replace h27 : V 27 = (.int .i64 (0 : Int)) := h27
      replace hb := hb.trans (hC.mono hb.size)
      replace hk2 := blk_ext hk2 hC
      replace hk4 := blk_ext hk4 hC
      refine ⟨true, false, congrArg some h26, fun hact => ?_, fun hact => ?_⟩
      · exact Runs.does (Runs.veq (r_ne (congrArg some h27) rfl) (congrArg Value.bool (show _ = false from by decide))) ⟨Below.refl _ _, rfl, nofr rfl⟩
      · exfalso; simp at hact
    refine ⟨fun wu29 hC hd => ?_, ?_⟩
    · obtain ⟨h26, h28, _⟩ := hd
      skip
      skip
      replace h26 : V 26 = (.bool false) := h26
      replace h28 : V 28 = (.bool false) := h28
      replace hb := hb.trans (hC.mono hb.size)
      replace hk2 := blk_ext hk2 hC
      replace hk4 := blk_ext hk4 hC
      exact Runs.does (r_pick (b := false) (congrArg some h26) rfl (congrArg some h28) rfl) ⟨Below.refl _ _, rfl, nofr rfl⟩
    trivial
  · skip
    clear hf fa; intro V w9 fa he7 hp hnb hf
    have hv0 : V 0 = (.bool true) := postsHold_at hp 0 rfl
    have hv1 : V 1 = (.bool false) := postsHold_at hp 1 rfl
    have hv2 : V 2 = (.bool false) := postsHold_at hp 2 rfl
    have hv3 : V 3 = (.pointer (some ⟨p, 0, none⟩)) := postsHold_at hp 3 rfl
    have hv4 : V 4 = (.int .i64 i) := postsHold_at hp 4 rfl
    have hv5 : V 5 = (.bool true) := postsHold_at hp 5 rfl
    have hv6 : V 6 = (.bool false) := postsHold_at hp 6 rfl
    have hv7 : V 7 = (.bool false) := postsHold_at hp 7 rfl
    have hv8 : V 8 = (.bool false) := postsHold_at hp 8 rfl
    have hv9 : V 9 = (.agg #[(.string T1), (.string T2), (.int .i64 o), (.string ⟨#[]⟩), (.slice (some ⟨kb, 0, none⟩) 2 2), (.slice none 0 0), (.slice none 0 0)]) := postsHold_at hp 9 rfl
    have hv10 : V 10 = (.slice ar R.length cr) := postsHold_at hp 10 rfl
    have hv11 : V 11 = (.int .i64 i) := postsHold_at hp 11 rfl
    have hv12 : V 12 = (.pointer (some ⟨ab1, (aoff1 + (i).toNat * 6), none⟩)) := postsHold_at hp 12 rfl
    have hv13 : V 13 = (.agg #[(.string T1), (.string T2), (.int .i64 o), (.int .u64 m), (.int .i64 cc), (.bool true)]) := postsHold_at hp 13 rfl
    have hv14 : V 14 = (.bool true) := postsHold_at hp 14 rfl
    have hv15 : V 15 = (.bool false) := postsHold_at hp 15 rfl
    have hv16 : V 16 = (.bool false) := postsHold_at hp 16 rfl
    have hv17 : V 17 = (.bool false) := postsHold_at hp 17 rfl
    have hv18 : V 18 = (.int .i64 cc) := postsHold_at hp 18 rfl
    have hv19 : V 19 = (.slice ar R.length cr) := postsHold_at hp 19 rfl
    have hv20 : V 20 = (.int .i64 i) := postsHold_at hp 20 rfl
    have hv21 : V 21 = (.pointer (some ⟨ab1, (aoff1 + (i).toNat * 6), none⟩)) := postsHold_at hp 21 rfl
    have hv22 : V 22 = (.pointer (some ⟨ab1, ((aoff1 + (i).toNat * 6) + 4), none⟩)) := postsHold_at hp 22 rfl
    have hv23 : V 23 = (.int .i64 cc) := postsHold_at hp 23 rfl
    have hv24 : V 24 = (.bool false) := postsHold_at hp 24 rfl
    have hv25 : V 25 = (.bool false) := postsHold_at hp 25 rfl
    have hv26 : V 26 = (.bool false) := postsHold_at hp 26 rfl
    have hv27 : V 27 = (.int .i64 (0 : Int)) := postsHold_at hp 27 rfl
    have hv28 : V 28 = (.bool false) := postsHold_at hp 28 rfl
    have hv29 : V 29 = (.bool false) := postsHold_at hp 29 rfl
    simp only [List.take_succ_cons, List.take_zero, insAll, ins, hv0, hv1, hv2, hv3, hv4, hv5, hv6, hv7, hv8, hv9, hv10, hv11, hv12, hv13, hv14, hv15, hv16, hv17, hv18, hv19, hv20, hv21, hv22, hv23, hv24, hv25, hv26, hv27, hv28, hv29] at hf
    clear hp hnb hv0 hv1 hv2 hv3 hv4 hv5 hv6 hv7 hv8 hv9 hv10 hv11 hv12 hv13 hv14 hv15 hv16 hv17 hv18 hv19 hv20 hv21 hv22 hv23 hv24 hv25 hv26 hv27 hv28 hv29
    replace hk2 := blk_ext hk2 he7
    replace hk4 := blk_ext hk4 he7
    replace hb := hb.trans (Below.mono he7 hb.size)
    (try simp only [Exit.then, Exit.inBlock, ↓reduceIte, Nat.reduceEqDiff])
    refine hK8 _ _ ?_
    refine wp_cond_false (hf.ev rfl) ?_
    refine wp_skip ?_
    (try simp only [Exit.then, Exit.inBlock, ↓reduceIte, Nat.reduceEqDiff])
    refine hK7 _ _ ?_
    refine wp_seq_k (fun K9 hK9 => ?_)
    refine wp_seq_k (fun K10 hK10 => ?_)
    refine wp_region_lit ?_
    refine sqv hf (r_move rfl) rfl rfl rfl ?_; clear hf fa; intro fa hf
    refine sqv hf (r_move rfl) rfl rfl rfl ?_; clear hf fa; intro fa hf
    refine sqv hf (r_move rfl) rfl rfl rfl ?_; clear hf fa; intro fa hf
    refine sqv hf (r_ixa (sz := 6) (j := (i).toNat) (evAt rfl hat1) rfl Try.underlying76 (by kernel_rfl) (by omega) (by omega) rfl) rfl rfl rfl ?_; clear hf fa; intro fa hf
    refine sqv hf (r_fa rfl Try.underlying132 (f := 3) (q := ((aoff1 + (i).toNat * 6) + 4)) rfl (by kernel_rfl) rfl) rfl rfl rfl ?_; clear hf fa; intro fa hf
    refine sqv hf (r_load (v := (.int .i64 cc)) rfl Try.underlying3 rfl (cellsAt_cell (cellsAt_below hel1 hb hlb1) (i := 4) rfl rfl)) rfl rfl rfl ?_; clear hf fa; intro fa hf
    refine sqdt hf (d_callB (vs := [(.slice ar R.length cr), (.int .i64 cc)]) rfl Try.func68 (by kernel_rfl) (by kernel_rfl) (rlive_to (RdS.ext hl hb) hlc hcc hcn hcR)) rfl rfl rfl ?_; clear hf fa; rintro fa _ w10 ⟨rfl, he8⟩ hf
    replace hk2 := blk_ext hk2 he8
    replace hk4 := blk_ext hk4 he8
    replace hb := hb.trans (Below.mono he8 hb.size)
    refine sqv hf (Runs.veq (v' := (.bool true)) (r_not rfl) rfl) rfl rfl rfl ?_; clear hf fa; intro fa hf
    apply wpList_nil
    (try simp only [Exit.then, Exit.inBlock, ↓reduceIte, Nat.reduceEqDiff])
    refine hK10 _ _ ?_
    refine wp_cond_true (hf.ev rfl) ?_
    refine wp_seq_k (fun K11 hK11 => ?_)
    refine wp_region_lit ?_
    refine sqv hf (r_move rfl) rfl rfl rfl ?_; clear hf fa; intro fa hf
    refine sqv hf (Runs.veq (r_eq rfl rfl) (congrArg Value.bool (show _ = true from by decide))) rfl rfl rfl ?_; clear hf fa; intro fa hf
    refine sqv hf (r_move rfl) rfl rfl rfl ?_; clear hf fa; intro fa hf
    refine sqgd (act := true) (g := 2) (want := true) (ag := true) (c := true) hf (by rfl) (by rfl) rfl (fun _ =>  Runs.does (R := fun vq wq => vq = (.pointer (some ⟨b2, 4, none⟩)) ∧ w10 = wq) (r_fa rfl Try.underlying37 (f := 3) (q := 4) rfl (by kernel_rfl) rfl) ⟨rfl, rfl⟩) (fun h => by cases h) rfl ?_; clear hf fa; rintro fa _ _ ⟨rfl, rfl⟩ hf
    change Fr _ _ ((108, (.pointer (some ⟨b2, 4, none⟩))) :: _) at hf
    refine sqgd (act := true) (g := 2) (want := true) (ag := true) (c := true) hf (by rfl) (by rfl) rfl (fun _ =>  Runs.does (R := fun vq wq => vq = (.slice none 0 0) ∧ w10 = wq) (r_load (v := (.slice none 0 0)) rfl Try.underlying32 rfl (cell_blk hk4 rfl)) ⟨rfl, rfl⟩) (fun h => by cases h) rfl ?_; clear hf fa; rintro fa _ _ ⟨rfl, rfl⟩ hf
    change Fr _ _ ((109, (.slice none 0 0)) :: _) at hf
    refine sqgd (act := true) (g := 2) (want := true) (ag := true) (c := true) hf (by rfl) (by rfl) rfl (fun _ =>  Runs.does (R := fun vq wq => vq = (.int .i64 (0 : Int)) ∧ w10 = wq) (r_lensl rfl Try.underlying32) ⟨rfl, rfl⟩) (fun h => by cases h) rfl ?_; clear hf fa; rintro fa _ _ ⟨rfl, rfl⟩ hf
    change Fr _ _ ((110, (.int .i64 (0 : Int))) :: _) at hf
    refine sqgd (act := true) (g := 2) (want := true) (ag := true) (c := true) hf (by rfl) (by rfl) rfl (fun _ =>  Runs.does (R := fun vq wq => vq = (.bool true) ∧ w10 = wq) (Runs.veq (r_eq rfl rfl) (congrArg Value.bool (show _ = true from by decide))) ⟨rfl, rfl⟩) (fun h => by cases h) rfl ?_; clear hf fa; rintro fa _ _ ⟨rfl, rfl⟩ hf
    change Fr _ _ ((111, (.bool true)) :: _) at hf
    refine sqv hf (r_pick (b := true) rfl rfl rfl rfl) rfl rfl rfl ?_; clear hf fa; intro fa hf
    refine sqv hf (r_assign rfl) rfl rfl rfl ?_; clear hf fa; intro fa hf
    apply wpList_nil
    (try simp only [Exit.then, Exit.inBlock, ↓reduceIte, Nat.reduceEqDiff])
    refine hK11 _ _ ?_
    refine wp_ret ?_
    (try simp only [Exit.then, Exit.inBlock])
    refine ret1 hf rfl rfl ?_
    exact ⟨rfl, hb⟩

set_option maxHeartbeats 1000000 in
set_option maxRecDepth 100000 in
theorem shows_B (B p : Nat) (L : List (Option MFn)) (Sl_ : List Int) (w : World) (hF : FSt B w p L Sl_) (ar : Option Addr) (R : List MRf) (cr : Nat) (hl : RdS 6 vMRf w ar R) (hlc : R.length ≤ 1000) (hcc : R.length ≤ cr ∧ cr ≤ 9223372036854775807) (hcn : ar = none → cr = 0) (i : Int) (T1 T2 : ByteArray) (o m cc : Int) (kb : Nat) (hlv : liveL L i = true) (hrl : rlB R i = true) (hg : gotL L i = fT T1 T2 o kb) (hr : R[i.toNat]? = some (rT T1 T2 o m cc)) (hk : w.heap[kb]? = some (.cells (bodyCs m) 127 (0, 0))) (hs : Sl_.getD i.toNat 0 = cc) (U1 U2 : ByteArray) (o2 m2 c2 : Int) (kb2 : Nat) (hcl : liveL L cc = true) (hcR : rlB R cc = true) (hg2 : gotL L cc = fT U1 U2 o2 kb2) (hr2 : R[cc.toNat]? = some (rT U1 U2 o2 m2 c2)) (hk2_ : w.heap[kb2]? = some (.cells (bodyCs m2) 127 (0, 0))) : Calls Try.prog 38 #[(.pointer (some ⟨p, 0, none⟩)), (.slice ar R.length cr), (.int .i64 i)] w fun e w' => e = .returned (.bool true) ∧ Below w.heap.size w w' := by
  have hir := rlB_in hrl
  have hicr := rlB_in hcR
  refine sx_enter (L := [(0, (.pointer (some ⟨p, 0, none⟩))), (1, (.slice ar R.length cr)), (2, (.int .i64 i))]) Try.func38 rfl rfl rfl rfl (fun fa hf => ?_)
  have hb : Below w.heap.size w w := Below.refl _ _
  refine wp_seq_k (fun K1 hK1 => ?_)
  refine wp_region_lit ?_
  refine sqv hf (r_assign rfl) rfl rfl rfl ?_; clear hf fa; intro fa hf
  apply wpList_nil
  (try simp only [Exit.then, Exit.inBlock, ↓reduceIte, Nat.reduceEqDiff])
  refine hK1 _ _ ?_
  refine wp_seq_k (fun K2 hK2 => ?_)
  refine wp_region_lit ?_
  refine sqv hf (r_move rfl) rfl rfl rfl ?_; clear hf fa; intro fa hf
  refine sqv hf (r_move rfl) rfl rfl rfl ?_; clear hf fa; intro fa hf
  refine sqdt hf (d_callB (vs := [(.pointer (some ⟨p, 0, none⟩)), (.int .i64 i)]) rfl Try.func16 (by kernel_rfl) (by kernel_rfl) (get_live (hF.ext hb) hlv hg)) rfl rfl rfl ?_; clear hf fa; rintro fa _ w1 ⟨rfl, he1⟩ hf
  replace hb := hb.trans (Below.mono he1 hb.size)
  refine sqv hf (r_move rfl) rfl rfl rfl ?_; clear hf fa; intro fa hf
  refine sqv hf (r_extract rfl (i := 0) rfl) rfl rfl rfl ?_; clear hf fa; intro fa hf
  refine sqv hf (r_extract rfl (i := 1) rfl) rfl rfl rfl ?_; clear hf fa; intro fa hf
  refine sqdt hf (d_alloc (z := (.agg #[(.string ⟨#[]⟩), (.string ⟨#[]⟩), (.int .i64 (0 : Int)), (.string ⟨#[]⟩), (.slice none 0 0), (.slice none 0 0), (.slice none 0 0)])) (cs := #[(.string ⟨#[]⟩), (.string ⟨#[]⟩), (.int .i64 (0 : Int)), (.string ⟨#[]⟩), (.slice none 0 0), (.slice none 0 0), (.slice none 0 0)]) (by kernel_rfl) rfl) rfl rfl rfl ?_; clear hf fa; rintro fa _ w2 ⟨b1, rfl, hle1, hk1, he2⟩ hf
  have hBb1 : w.heap.size ≤ b1 := Nat.le_trans hb.size hle1
  replace hb := hb.trans (Below.mono he2 hb.size)
  refine sqn hf (d_storeK (T := 37) (v := (.agg #[(.string T1), (.string T2), (.int .i64 o), (.string ⟨#[]⟩), (.slice (some ⟨kb, 0, none⟩) 2 2), (.slice none 0 0), (.slice none 0 0)])) (cs := #[(.string ⟨#[]⟩), (.string ⟨#[]⟩), (.int .i64 (0 : Int)), (.string ⟨#[]⟩), (.slice none 0 0), (.slice none 0 0), (.slice none 0 0)]) (cs' := #[(.string T1), (.string T2), (.int .i64 o), (.string ⟨#[]⟩), (.slice (some ⟨kb, 0, none⟩) 2 2), (.slice none 0 0), (.slice none 0 0)]) rfl rfl (by kernel_rfl) (by kernel_rfl) hk1 (by kernel_rfl) (by kernel_rfl)) rfl rfl ?_; clear hf fa; rintro fa _ w3 ⟨hk2, hg1⟩ hf
  replace hb := hb.trans (grown_below hg1 hb.size hBb1)
  refine sqv hf (r_assign rfl) rfl rfl rfl ?_; clear hf fa; intro fa hf
  apply wpList_nil
  (try simp only [Exit.then, Exit.inBlock, ↓reduceIte, Nat.reduceEqDiff])
  refine hK2 _ _ ?_
  refine wp_seq_k (fun K3 hK3 => ?_)
  refine wp_region_lit ?_
  refine sqv hf (r_move rfl) rfl rfl rfl ?_; clear hf fa; intro fa hf
  refine sqv hf (r_move rfl) rfl rfl rfl ?_; clear hf fa; intro fa hf
  refine sqdt hf (d_callB (vs := [(.pointer (some ⟨p, 0, none⟩)), (.int .i64 i)]) rfl Try.func64 (by kernel_rfl) (by kernel_rfl) (stands_to (hF.ext hb) (stL_live hlv hs))) rfl rfl rfl ?_; clear hf fa; rintro fa _ w4 ⟨rfl, he3⟩ hf
  replace hk2 := blk_ext hk2 he3
  replace hb := hb.trans (Below.mono he3 hb.size)
  refine sqv hf (r_move rfl) rfl rfl rfl ?_; clear hf fa; intro fa hf
  refine sqv hf (r_extract rfl (i := 0) rfl) rfl rfl rfl ?_; clear hf fa; intro fa hf
  refine sqv hf (r_extract rfl (i := 1) rfl) rfl rfl rfl ?_; clear hf fa; intro fa hf
  refine sqv hf (r_assign rfl) rfl rfl rfl ?_; clear hf fa; intro fa hf
  refine sqv hf (r_assign rfl) rfl rfl rfl ?_; clear hf fa; intro fa hf
  apply wpList_nil
  (try simp only [Exit.then, Exit.inBlock, ↓reduceIte, Nat.reduceEqDiff])
  refine hK3 _ _ ?_
  refine wp_seq_k (fun K4 hK4 => ?_)
  refine wp_region_lit ?_
  refine sqv hf (r_move rfl) rfl rfl rfl ?_; clear hf fa; intro fa hf
  refine sqv hf (r_move rfl) rfl rfl rfl ?_; clear hf fa; intro fa hf
  refine sqdt hf (d_callB (vs := [(.pointer (some ⟨p, 0, none⟩)), (.int .i64 i)]) rfl Try.func17 (by kernel_rfl) (by kernel_rfl) (called_to (hF.ext hb) ((callL_B hlv hs hcl).trans (by rw [hg2])))) rfl rfl rfl ?_; clear hf fa; rintro fa _ w5 ⟨rfl, he4⟩ hf
  replace hk2 := blk_ext hk2 he4
  replace hb := hb.trans (Below.mono he4 hb.size)
  refine sqv hf (r_move rfl) rfl rfl rfl ?_; clear hf fa; intro fa hf
  refine sqv hf (r_extract rfl (i := 0) rfl) rfl rfl rfl ?_; clear hf fa; intro fa hf
  refine sqv hf (r_extract rfl (i := 1) rfl) rfl rfl rfl ?_; clear hf fa; intro fa hf
  refine sqdt hf (d_alloc (z := (.agg #[(.string ⟨#[]⟩), (.string ⟨#[]⟩), (.int .i64 (0 : Int)), (.string ⟨#[]⟩), (.slice none 0 0), (.slice none 0 0), (.slice none 0 0)])) (cs := #[(.string ⟨#[]⟩), (.string ⟨#[]⟩), (.int .i64 (0 : Int)), (.string ⟨#[]⟩), (.slice none 0 0), (.slice none 0 0), (.slice none 0 0)]) (by kernel_rfl) rfl) rfl rfl rfl ?_; clear hf fa; rintro fa _ w6 ⟨b2, rfl, hle2, hk3, he5⟩ hf
  have hBb2 : w.heap.size ≤ b2 := Nat.le_trans hb.size hle2
  have : b1 < b2 := Nat.lt_of_lt_of_le (blk_lt hk2) hle2
  replace hk2 := blk_ext hk2 he5
  replace hb := hb.trans (Below.mono he5 hb.size)
  refine sqn hf (d_storeK (T := 37) (v := (.agg #[(.string U1), (.string U2), (.int .i64 o2), (.string ⟨#[]⟩), (.slice (some ⟨kb2, 0, none⟩) 2 2), (.slice none 0 0), (.slice none 0 0)])) (cs := #[(.string ⟨#[]⟩), (.string ⟨#[]⟩), (.int .i64 (0 : Int)), (.string ⟨#[]⟩), (.slice none 0 0), (.slice none 0 0), (.slice none 0 0)]) (cs' := #[(.string U1), (.string U2), (.int .i64 o2), (.string ⟨#[]⟩), (.slice (some ⟨kb2, 0, none⟩) 2 2), (.slice none 0 0), (.slice none 0 0)]) rfl rfl (by kernel_rfl) (by kernel_rfl) hk3 (by kernel_rfl) (by kernel_rfl)) rfl rfl ?_; clear hf fa; rintro fa _ w7 ⟨hk4, hg2⟩ hf
  replace hk2 := blk_grown hk2 hg2 (by omega)
  replace hb := hb.trans (grown_below hg2 hb.size hBb2)
  refine sqv hf (r_assign rfl) rfl rfl rfl ?_; clear hf fa; intro fa hf
  apply wpList_nil
  (try simp only [Exit.then, Exit.inBlock, ↓reduceIte, Nat.reduceEqDiff])
  refine hK4 _ _ ?_
  refine wp_seq_k (fun K5 hK5 => ?_)
  refine wp_seq_k (fun K6 hK6 => ?_)
  refine wp_region_lit ?_
  refine sqv hf (r_move rfl) rfl rfl rfl ?_; clear hf fa; intro fa hf
  refine sqv hf (r_move rfl) rfl rfl rfl ?_; clear hf fa; intro fa hf
  refine sqdt hf (d_callB (vs := [(.slice ar R.length cr), (.int .i64 i)]) rfl Try.func68 (by kernel_rfl) (by kernel_rfl) (rlive_to (RdS.ext hl hb) hlc hcc hcn hrl)) rfl rfl rfl ?_; clear hf fa; rintro fa _ w8 ⟨rfl, he6⟩ hf
  replace hk2 := blk_ext hk2 he6
  replace hk4 := blk_ext hk4 he6
  replace hb := hb.trans (Below.mono he6 hb.size)
  refine sqv hf (Runs.veq (v' := (.bool false)) (r_not rfl) rfl) rfl rfl rfl ?_; clear hf fa; intro fa hf
  apply wpList_nil
  (try simp only [Exit.then, Exit.inBlock, ↓reduceIte, Nat.reduceEqDiff])
  refine hK6 _ _ ?_
  refine wp_cond_false (hf.ev rfl) ?_
  refine wp_skip ?_
  (try simp only [Exit.then, Exit.inBlock, ↓reduceIte, Nat.reduceEqDiff])
  refine hK5 _ _ ?_
  refine wp_seq_k (fun K7 hK7 => ?_)
  refine wp_seq_k (fun K8 hK8 => ?_)
  have hy1 : (R)[(i).toNat]? = some (rT T1 T2 o m cc) := hr
  obtain ⟨ab1, aoff1, hat1, hlb1, hel1⟩ := RdS.at hl hy1
  refine wp_region_un (fun wq => Below w8.heap.size w8 wq) (fun w w' => Below w.heap.size w w')
    (fun V => [(fun x _ => x = (.bool true)), (fun x _ => x = (.bool false)), (fun x _ => x = (.bool false)), (fun x _ => x = (.pointer (some ⟨p, 0, none⟩))), (fun x _ => x = (.int .i64 i)), (fun x _ => x = (.bool true)), (fun x _ => x = (.bool false)), (fun x _ => x = (.bool false)), (fun x _ => x = (.bool false)), (fun x _ => x = (.agg #[(.string T1), (.string T2), (.int .i64 o), (.string ⟨#[]⟩), (.slice (some ⟨kb, 0, none⟩) 2 2), (.slice none 0 0), (.slice none 0 0)])), (fun x _ => x = (.slice ar R.length cr)), (fun x _ => x = (.int .i64 i)), (fun x _ => x = (.pointer (some ⟨ab1, (aoff1 + (i).toNat * 6), none⟩))), (fun x _ => x = (.agg #[(.string T1), (.string T2), (.int .i64 o), (.int .u64 m), (.int .i64 cc), (.bool true)])), (fun x _ => x = (.bool true)), (fun x _ => x = (.bool false)), (fun x _ => x = (.bool false)), (fun x _ => x = (.bool false)), (fun x _ => x = (.int .i64 cc)), (fun x _ => x = (.slice ar R.length cr)), (fun x _ => x = (.int .i64 i)), (fun x _ => x = (.pointer (some ⟨ab1, (aoff1 + (i).toNat * 6), none⟩))), (fun x _ => x = (.pointer (some ⟨ab1, ((aoff1 + (i).toNat * 6) + 4), none⟩))), (fun x _ => x = (.int .i64 cc)), (fun x _ => x = (.bool false)), (fun x _ => x = (.bool false)), (fun x _ => x = (.bool false)), (fun x _ => x = (.int .i64 (0 : Int))), (fun x _ => x = (.bool false)), (fun x _ => x = (.bool false))])
    []
    [[], [0], [1], [2], [2], [2, 3, 4], [2, 5], [2, 6], [5, 7], [8], [8], [8], [8, 10, 11], [8, 12], [8, 9, 13], [8, 14], [8, 15], [14, 16], [17], [17], [17], [17, 19, 20], [17, 21], [17, 22], [17, 18, 23], [17, 24], [17, 25], [26], [26, 27], [26, 28]]
    hf (by kernel_rfl) (by kernel_rfl) (fun _ => rfl) ((Below.refl _ _).drew) (fun a b h1 h2 => h1.trans (h2.mono h1.size)) (fun _ _ h => h.size) (fun V => ⟨kept_eq, kept_eq, kept_eq, kept_eq, kept_eq, kept_eq, kept_eq, kept_eq, kept_eq, kept_eq, kept_eq, kept_eq, kept_eq, kept_eq, kept_eq, kept_eq, kept_eq, kept_eq, kept_eq, kept_eq, kept_eq, kept_eq, kept_eq, kept_eq, kept_eq, kept_eq, kept_eq, kept_eq, kept_eq, kept_eq, trivial⟩) (fun _ _ _ _ _ => rfl) ?_ ?_
  · skip
    intro V
    refine ⟨fun wu0 hC hd => ?_, ?_⟩
    · clear hd
      replace hb := hb.trans (hC.mono hb.size)
      replace hk2 := blk_ext hk2 hC
      replace hk4 := blk_ext hk4 hC
      exact Runs.does (r_move rfl) ⟨Below.refl _ _, rfl, nofr rfl⟩
    refine ⟨fun wu1 hC hd => ?_, ?_⟩
    · obtain ⟨h0, _⟩ := hd
      skip
      replace h0 : V 0 = (.bool true) := h0
      replace hb := hb.trans (hC.mono hb.size)
      replace hk2 := blk_ext hk2 hC
      replace hk4 := blk_ext hk4 hC
      exact Runs.does (Runs.veq (v' := (.bool false)) (r_not (congrArg some h0)) rfl) ⟨Below.refl _ _, rfl, nofr rfl⟩
    refine ⟨fun wu2 hC hd => ?_, ?_⟩
    · obtain ⟨h1, _⟩ := hd
      skip
      replace h1 : V 1 = (.bool false) := h1
      replace hb := hb.trans (hC.mono hb.size)
      replace hk2 := blk_ext hk2 hC
      replace hk4 := blk_ext hk4 hC
      exact Runs.does (r_move (congrArg some h1)) ⟨Below.refl _ _, rfl, nofr rfl⟩
    refine ⟨fun wu3 hC hd => ?_, ?_⟩
    · obtain ⟨h2, _⟩ := hd
      skip
      replace h2 : V 2 = (.bool false) := h2
      replace hb := hb.trans (hC.mono hb.size)
      replace hk2 := blk_ext hk2 hC
      replace hk4 := blk_ext hk4 hC
      refine ⟨true, false, congrArg some h2, fun hact => ?_, fun hact => ?_⟩
      · exact Runs.does (r_move rfl) ⟨Below.refl _ _, rfl, nofr rfl⟩
      · exfalso; simp at hact
    refine ⟨fun wu4 hC hd => ?_, ?_⟩
    · obtain ⟨h2, _⟩ := hd
      skip
      replace h2 : V 2 = (.bool false) := h2
      replace hb := hb.trans (hC.mono hb.size)
      replace hk2 := blk_ext hk2 hC
      replace hk4 := blk_ext hk4 hC
      refine ⟨true, false, congrArg some h2, fun hact => ?_, fun hact => ?_⟩
      · exact Runs.does (r_move rfl) ⟨Below.refl _ _, rfl, nofr rfl⟩
      · exfalso; simp at hact
    refine ⟨fun wu5 hC hd => ?_, ?_⟩
    · obtain ⟨h2, h3, h4, _⟩ := hd
      skip
      skip
      skip
      replace h2 : V 2 = (.bool false) := h2
      replace h3 : V 3 = (.pointer (some ⟨p, 0, none⟩)) := h3
      replace h4 : V 4 = (.int .i64 i) := h4
      replace hb := hb.trans (hC.mono hb.size)
      replace hk2 := blk_ext hk2 hC
      replace hk4 := blk_ext hk4 hC
      refine ⟨true, false, congrArg some h2, fun hact => ?_, fun hact => ?_⟩
      · refine Does.mono (d_callB (vs := [(.pointer (some ⟨p, 0, none⟩)), (.int .i64 i)]) (show [some (V 3), some (V 4)] = [some (.pointer (some ⟨p, 0, none⟩)), some (.int .i64 i)] from by rw [h3, h4]) Try.func66 (by kernel_rfl) (by kernel_rfl) (live_to (hF.ext hb) hlv)) (fun _ _ h => ⟨h.2, h.1, nofr rfl⟩)
      · exfalso; simp at hact
    refine ⟨fun wu6 hC hd => ?_, ?_⟩
    · obtain ⟨h2, h5, _⟩ := hd
      skip
      skip
      replace h2 : V 2 = (.bool false) := h2
      replace h5 : V 5 = (.bool true) := h5
      replace hb := hb.trans (hC.mono hb.size)
      replace hk2 := blk_ext hk2 hC
      replace hk4 := blk_ext hk4 hC
      refine ⟨true, false, congrArg some h2, fun hact => ?_, fun hact => ?_⟩
      · exact Runs.does (Runs.veq (v' := (.bool false)) (r_not (congrArg some h5)) rfl) ⟨Below.refl _ _, rfl, nofr rfl⟩
      · exfalso; simp at hact
    refine ⟨fun wu7 hC hd => ?_, ?_⟩
    · obtain ⟨h2, h6, _⟩ := hd
      skip
      skip
      replace h2 : V 2 = (.bool false) := h2
      replace h6 : V 6 = (.bool false) := h6
      replace hb := hb.trans (hC.mono hb.size)
      replace hk2 := blk_ext hk2 hC
      replace hk4 := blk_ext hk4 hC
      exact Runs.does (r_pick (b := false) (congrArg some h2) rfl (congrArg some h6) rfl) ⟨Below.refl _ _, rfl, nofr rfl⟩
    refine ⟨fun wu8 hC hd => ?_, ?_⟩
    · obtain ⟨h5, h7, _⟩ := hd
      skip
      skip
      replace h5 : V 5 = (.bool true) := h5
      replace h7 : V 7 = (.bool false) := h7
      replace hb := hb.trans (hC.mono hb.size)
      replace hk2 := blk_ext hk2 hC
      replace hk4 := blk_ext hk4 hC
      exact Runs.does (r_move (congrArg some h7)) ⟨Below.refl _ _, rfl, nofr rfl⟩
    refine ⟨fun wu9 hC hd => ?_, ?_⟩
    · obtain ⟨h8, _⟩ := hd
      skip
      replace h8 : V 8 = (.bool false) := h8
      replace hb := hb.trans (hC.mono hb.size)
      replace hk2 := blk_ext hk2 hC
      replace hk4 := blk_ext hk4 hC
      refine ⟨true, false, congrArg some h8, fun hact => ?_, fun hact => ?_⟩
      · exact Runs.does (r_loadA (cs := [(.string T1), (.string T2), (.int .i64 o), (.string ⟨#[]⟩), (.slice (some ⟨kb, 0, none⟩) 2 2), (.slice none 0 0), (.slice none 0 0)]) rfl Try.underlying37 rfl (by kernel_rfl) (cellsAt_blk hk2)) ⟨Below.refl _ _, rfl, nofr rfl⟩
      · exfalso; simp at hact
    refine ⟨fun wu10 hC hd => ?_, ?_⟩
    · obtain ⟨h8, _⟩ := hd
      skip
      replace h8 : V 8 = (.bool false) := h8
      replace hb := hb.trans (hC.mono hb.size)
      replace hk2 := blk_ext hk2 hC
      replace hk4 := blk_ext hk4 hC
      refine ⟨true, false, congrArg some h8, fun hact => ?_, fun hact => ?_⟩
      · exact Runs.does (r_move rfl) ⟨Below.refl _ _, rfl, nofr rfl⟩
      · exfalso; simp at hact
    refine ⟨fun wu11 hC hd => ?_, ?_⟩
    · obtain ⟨h8, _⟩ := hd
      skip
      replace h8 : V 8 = (.bool false) := h8
      replace hb := hb.trans (hC.mono hb.size)
      replace hk2 := blk_ext hk2 hC
      replace hk4 := blk_ext hk4 hC
      refine ⟨true, false, congrArg some h8, fun hact => ?_, fun hact => ?_⟩
      · exact Runs.does (r_move rfl) ⟨Below.refl _ _, rfl, nofr rfl⟩
      · exfalso; simp at hact
    refine ⟨fun wu12 hC hd => ?_, ?_⟩
    · obtain ⟨h8, h10, h11, _⟩ := hd
      skip
      skip
      skip
      replace h8 : V 8 = (.bool false) := h8
      replace h10 : V 10 = (.slice ar R.length cr) := h10
      replace h11 : V 11 = (.int .i64 i) := h11
      replace hb := hb.trans (hC.mono hb.size)
      replace hk2 := blk_ext hk2 hC
      replace hk4 := blk_ext hk4 hC
      refine ⟨true, false, congrArg some h8, fun hact => ?_, fun hact => ?_⟩
      · exact Runs.does (r_ixa (sz := 6) (j := (i).toNat) (evAt (congrArg some h10) hat1) (congrArg some h11) Try.underlying76 (by kernel_rfl) (by omega) (by omega) rfl) ⟨Below.refl _ _, rfl, nofr rfl⟩
      · exfalso; simp at hact
    refine ⟨fun wu13 hC hd => ?_, ?_⟩
    · obtain ⟨h8, h12, _⟩ := hd
      skip
      skip
      replace h8 : V 8 = (.bool false) := h8
      replace h12 : V 12 = (.pointer (some ⟨ab1, (aoff1 + (i).toNat * 6), none⟩)) := h12
      replace hb := hb.trans (hC.mono hb.size)
      replace hk2 := blk_ext hk2 hC
      replace hk4 := blk_ext hk4 hC
      refine ⟨true, false, congrArg some h8, fun hact => ?_, fun hact => ?_⟩
      · exact Runs.does (r_loadA (cs := [(.string T1), (.string T2), (.int .i64 o), (.int .u64 m), (.int .i64 cc), (.bool true)]) (congrArg some h12) Try.underlying132 rfl (by kernel_rfl) (cellsAt_below hel1 hb hlb1)) ⟨Below.refl _ _, rfl, nofr rfl⟩
      · exfalso; simp at hact
    refine ⟨fun wu14 hC hd => ?_, ?_⟩
    · obtain ⟨h8, h9, h13, _⟩ := hd
      skip
      skip
      skip
      replace h8 : V 8 = (.bool false) := h8
      replace h9 : V 9 = (.agg #[(.string T1), (.string T2), (.int .i64 o), (.string ⟨#[]⟩), (.slice (some ⟨kb, 0, none⟩) 2 2), (.slice none 0 0), (.slice none 0 0)]) := h9
      replace h13 : V 13 = (.agg #[(.string T1), (.string T2), (.int .i64 o), (.int .u64 m), (.int .i64 cc), (.bool true)]) := h13
      replace hb := hb.trans (hC.mono hb.size)
      replace hk2 := blk_ext hk2 hC
      replace hk4 := blk_ext hk4 hC
      refine ⟨true, false, congrArg some h8, fun hact => ?_, fun hact => ?_⟩
      · refine Does.mono (d_callB (vs := [(.agg #[(.string T1), (.string T2), (.int .i64 o), (.string ⟨#[]⟩), (.slice (some ⟨kb, 0, none⟩) 2 2), (.slice none 0 0), (.slice none 0 0)]), (.agg #[(.string T1), (.string T2), (.int .i64 o), (.int .u64 m), (.int .i64 cc), (.bool true)])]) (show [some (V 9), some (V 13)] = [some (.agg #[(.string T1), (.string T2), (.int .i64 o), (.string ⟨#[]⟩), (.slice (some ⟨kb, 0, none⟩) 2 2), (.slice none 0 0), (.slice none 0 0)]), some (.agg #[(.string T1), (.string T2), (.int .i64 o), (.int .u64 m), (.int .i64 cc), (.bool true)])] from by rw [h9, h13]) Try.func72 (by kernel_rfl) (by kernel_rfl) (is_any T1 T2 o m cc kb _ (blk_ext hk hb))) (fun _ _ h => ⟨h.2, h.1, nofr rfl⟩)
      · exfalso; simp at hact
    refine ⟨fun wu15 hC hd => ?_, ?_⟩
    · obtain ⟨h8, h14, _⟩ := hd
      skip
      skip
      replace h8 : V 8 = (.bool false) := h8
      replace h14 : V 14 = (.bool true) := h14
      replace hb := hb.trans (hC.mono hb.size)
      replace hk2 := blk_ext hk2 hC
      replace hk4 := blk_ext hk4 hC
      refine ⟨true, false, congrArg some h8, fun hact => ?_, fun hact => ?_⟩
      · exact Runs.does (Runs.veq (v' := (.bool false)) (r_not (congrArg some h14)) rfl) ⟨Below.refl _ _, rfl, nofr rfl⟩
      · exfalso; simp at hact
    refine ⟨fun wu16 hC hd => ?_, ?_⟩
    · obtain ⟨h8, h15, _⟩ := hd
      skip
      skip
      replace h8 : V 8 = (.bool false) := h8
      replace h15 : V 15 = (.bool false) := h15
      replace hb := hb.trans (hC.mono hb.size)
      replace hk2 := blk_ext hk2 hC
      replace hk4 := blk_ext hk4 hC
      exact Runs.does (r_pick (b := false) (congrArg some h8) rfl (congrArg some h15) rfl) ⟨Below.refl _ _, rfl, nofr rfl⟩
    refine ⟨fun wu17 hC hd => ?_, ?_⟩
    · obtain ⟨h14, h16, _⟩ := hd
      skip
      skip
      replace h14 : V 14 = (.bool true) := h14
      replace h16 : V 16 = (.bool false) := h16
      replace hb := hb.trans (hC.mono hb.size)
      replace hk2 := blk_ext hk2 hC
      replace hk4 := blk_ext hk4 hC
      exact Runs.does (r_move (congrArg some h16)) ⟨Below.refl _ _, rfl, nofr rfl⟩
    refine ⟨fun wu18 hC hd => ?_, ?_⟩
    · obtain ⟨h17, _⟩ := hd
      skip
      replace h17 : V 17 = (.bool false) := h17
      replace hb := hb.trans (hC.mono hb.size)
      replace hk2 := blk_ext hk2 hC
      replace hk4 := blk_ext hk4 hC
      refine ⟨true, false, congrArg some h17, fun hact => ?_, fun hact => ?_⟩
      · exact Runs.does (r_move rfl) ⟨Below.refl _ _, rfl, nofr rfl⟩
      · exfalso; simp at hact
    refine ⟨fun wu19 hC hd => ?_, ?_⟩
    · obtain ⟨h17, _⟩ := hd
      skip
      replace h17 : V 17 = (.bool false) := h17
      replace hb := hb.trans (hC.mono hb.size)
      replace hk2 := blk_ext hk2 hC
      replace hk4 := blk_ext hk4 hC
      refine ⟨true, false, congrArg some h17, fun hact => ?_, fun hact => ?_⟩
      · exact Runs.does (r_move rfl) ⟨Below.refl _ _, rfl, nofr rfl⟩
      · exfalso; simp at hact
    refine ⟨fun wu20 hC hd => ?_, ?_⟩
    · obtain ⟨h17, _⟩ := hd
      skip
      replace h17 : V 17 = (.bool false) := h17
      replace hb := hb.trans (hC.mono hb.size)
      replace hk2 := blk_ext hk2 hC
      replace hk4 := blk_ext hk4 hC
      refine ⟨true, false, congrArg some h17, fun hact => ?_, fun hact => ?_⟩
      · exact Runs.does (r_move rfl) ⟨Below.refl _ _, rfl, nofr rfl⟩
      · exfalso; simp at hact
    refine ⟨fun wu21 hC hd => ?_, ?_⟩
    · obtain ⟨h17, h19, h20, _⟩ := hd
      skip
      skip
      skip
      replace h17 : V 17 = (.bool false) := h17
      replace h19 : V 19 = (.slice ar R.length cr) := h19
      replace h20 : V 20 = (.int .i64 i) := h20
      replace hb := hb.trans (hC.mono hb.size)
      replace hk2 := blk_ext hk2 hC
      replace hk4 := blk_ext hk4 hC
      refine ⟨true, false, congrArg some h17, fun hact => ?_, fun hact => ?_⟩
      · exact Runs.does (r_ixa (sz := 6) (j := (i).toNat) (evAt (congrArg some h19) hat1) (congrArg some h20) Try.underlying76 (by kernel_rfl) (by omega) (by omega) rfl) ⟨Below.refl _ _, rfl, nofr rfl⟩
      · exfalso; simp at hact
    refine ⟨fun wu22 hC hd => ?_, ?_⟩
    · obtain ⟨h17, h21, _⟩ := hd
      skip
      skip
      replace h17 : V 17 = (.bool false) := h17
      replace h21 : V 21 = (.pointer (some ⟨ab1, (aoff1 + (i).toNat * 6), none⟩)) := h21
      replace hb := hb.trans (hC.mono hb.size)
      replace hk2 := blk_ext hk2 hC
      replace hk4 := blk_ext hk4 hC
      refine ⟨true, false, congrArg some h17, fun hact => ?_, fun hact => ?_⟩
      · exact Runs.does (r_fa (congrArg some h21) Try.underlying132 (f := 3) (q := ((aoff1 + (i).toNat * 6) + 4)) rfl (by kernel_rfl) rfl) ⟨Below.refl _ _, rfl, nofr rfl⟩
      · exfalso; simp at hact
    refine ⟨fun wu23 hC hd => ?_, ?_⟩
    · obtain ⟨h17, h22, _⟩ := hd
      skip
      skip
      replace h17 : V 17 = (.bool false) := h17
      replace h22 : V 22 = (.pointer (some ⟨ab1, ((aoff1 + (i).toNat * 6) + 4), none⟩)) := h22
      replace hb := hb.trans (hC.mono hb.size)
      replace hk2 := blk_ext hk2 hC
      replace hk4 := blk_ext hk4 hC
      refine ⟨true, false, congrArg some h17, fun hact => ?_, fun hact => ?_⟩
      · exact Runs.does (r_load (v := (.int .i64 cc)) (congrArg some h22) Try.underlying3 rfl (cellsAt_cell (cellsAt_below hel1 hb hlb1) (i := 4) rfl rfl)) ⟨Below.refl _ _, rfl, nofr rfl⟩
      · exfalso; simp at hact
    refine ⟨fun wu24 hC hd => ?_, ?_⟩
    · obtain ⟨h17, h18, h23, _⟩ := hd
      skip
      skip
      skip
      replace h17 : V 17 = (.bool false) := h17
      replace h18 : V 18 = (.int .i64 cc) := h18
      replace h23 : V 23 = (.int .i64 cc) := h23
      replace hb := hb.trans (hC.mono hb.size)
      replace hk2 := blk_ext hk2 hC
      replace hk4 := blk_ext hk4 hC
      refine ⟨true, false, congrArg some h17, fun hact => ?_, fun hact => ?_⟩
      · exact Runs.does (Runs.veq (r_ne (congrArg some h18) (congrArg some h23)) (congrArg Value.bool (show _ = false from (by simp)))) ⟨Below.refl _ _, rfl, nofr rfl⟩
      · exfalso; simp at hact
    refine ⟨fun wu25 hC hd => ?_, ?_⟩
    · obtain ⟨h17, h24, _⟩ := hd
      skip
      skip
      replace h17 : V 17 = (.bool false) := h17
      replace h24 : V 24 = (.bool false) := h24
      replace hb := hb.trans (hC.mono hb.size)
      replace hk2 := blk_ext hk2 hC
      replace hk4 := blk_ext hk4 hC
      exact Runs.does (r_pick (b := false) (congrArg some h17) rfl (congrArg some h24) rfl) ⟨Below.refl _ _, rfl, nofr rfl⟩
    refine ⟨fun wu26 hC hd => ?_, ?_⟩
    · obtain ⟨h17, h25, _⟩ := hd
      skip
      skip
      replace h17 : V 17 = (.bool false) := h17
      replace h25 : V 25 = (.bool false) := h25
      replace hb := hb.trans (hC.mono hb.size)
      replace hk2 := blk_ext hk2 hC
      replace hk4 := blk_ext hk4 hC
      exact Runs.does (r_move (congrArg some h25)) ⟨Below.refl _ _, rfl, nofr rfl⟩
    refine ⟨fun wu27 hC hd => ?_, ?_⟩
    · obtain ⟨h26, _⟩ := hd
      skip
      replace h26 : V 26 = (.bool false) := h26
      replace hb := hb.trans (hC.mono hb.size)
      replace hk2 := blk_ext hk2 hC
      replace hk4 := blk_ext hk4 hC
      refine ⟨true, false, congrArg some h26, fun hact => ?_, fun hact => ?_⟩
      · exact Runs.does (r_move rfl) ⟨Below.refl _ _, rfl, nofr rfl⟩
      · exfalso; simp at hact
    refine ⟨fun wu28 hC hd => ?_, ?_⟩
    · obtain ⟨h26, h27, _⟩ := hd
      skip
      skip
      replace h26 : V 26 = (.bool false) := h26
      replace h27 : V 27 = (.int .i64 (0 : Int)) := h27
      replace hb := hb.trans (hC.mono hb.size)
      replace hk2 := blk_ext hk2 hC
      replace hk4 := blk_ext hk4 hC
      refine ⟨true, false, congrArg some h26, fun hact => ?_, fun hact => ?_⟩
      · exact Runs.does (Runs.veq (r_ne (congrArg some h27) rfl) (congrArg Value.bool (show _ = false from by decide))) ⟨Below.refl _ _, rfl, nofr rfl⟩
      · exfalso; simp at hact
    refine ⟨fun wu29 hC hd => ?_, ?_⟩
    · obtain ⟨h26, h28, _⟩ := hd
      skip
      skip
      replace h26 : V 26 = (.bool false) := h26
      replace h28 : V 28 = (.bool false) := h28
      replace hb := hb.trans (hC.mono hb.size)
      replace hk2 := blk_ext hk2 hC
      replace hk4 := blk_ext hk4 hC
      exact Runs.does (r_pick (b := false) (congrArg some h26) rfl (congrArg some h28) rfl) ⟨Below.refl _ _, rfl, nofr rfl⟩
    trivial
  · skip
    clear hf fa; intro V w9 fa he7 hp hnb hf
    have hv0 : V 0 = (.bool true) := postsHold_at hp 0 rfl
    have hv1 : V 1 = (.bool false) := postsHold_at hp 1 rfl
    have hv2 : V 2 = (.bool false) := postsHold_at hp 2 rfl
    have hv3 : V 3 = (.pointer (some ⟨p, 0, none⟩)) := postsHold_at hp 3 rfl
    have hv4 : V 4 = (.int .i64 i) := postsHold_at hp 4 rfl
    have hv5 : V 5 = (.bool true) := postsHold_at hp 5 rfl
    have hv6 : V 6 = (.bool false) := postsHold_at hp 6 rfl
    have hv7 : V 7 = (.bool false) := postsHold_at hp 7 rfl
    have hv8 : V 8 = (.bool false) := postsHold_at hp 8 rfl
    have hv9 : V 9 = (.agg #[(.string T1), (.string T2), (.int .i64 o), (.string ⟨#[]⟩), (.slice (some ⟨kb, 0, none⟩) 2 2), (.slice none 0 0), (.slice none 0 0)]) := postsHold_at hp 9 rfl
    have hv10 : V 10 = (.slice ar R.length cr) := postsHold_at hp 10 rfl
    have hv11 : V 11 = (.int .i64 i) := postsHold_at hp 11 rfl
    have hv12 : V 12 = (.pointer (some ⟨ab1, (aoff1 + (i).toNat * 6), none⟩)) := postsHold_at hp 12 rfl
    have hv13 : V 13 = (.agg #[(.string T1), (.string T2), (.int .i64 o), (.int .u64 m), (.int .i64 cc), (.bool true)]) := postsHold_at hp 13 rfl
    have hv14 : V 14 = (.bool true) := postsHold_at hp 14 rfl
    have hv15 : V 15 = (.bool false) := postsHold_at hp 15 rfl
    have hv16 : V 16 = (.bool false) := postsHold_at hp 16 rfl
    have hv17 : V 17 = (.bool false) := postsHold_at hp 17 rfl
    have hv18 : V 18 = (.int .i64 cc) := postsHold_at hp 18 rfl
    have hv19 : V 19 = (.slice ar R.length cr) := postsHold_at hp 19 rfl
    have hv20 : V 20 = (.int .i64 i) := postsHold_at hp 20 rfl
    have hv21 : V 21 = (.pointer (some ⟨ab1, (aoff1 + (i).toNat * 6), none⟩)) := postsHold_at hp 21 rfl
    have hv22 : V 22 = (.pointer (some ⟨ab1, ((aoff1 + (i).toNat * 6) + 4), none⟩)) := postsHold_at hp 22 rfl
    have hv23 : V 23 = (.int .i64 cc) := postsHold_at hp 23 rfl
    have hv24 : V 24 = (.bool false) := postsHold_at hp 24 rfl
    have hv25 : V 25 = (.bool false) := postsHold_at hp 25 rfl
    have hv26 : V 26 = (.bool false) := postsHold_at hp 26 rfl
    have hv27 : V 27 = (.int .i64 (0 : Int)) := postsHold_at hp 27 rfl
    have hv28 : V 28 = (.bool false) := postsHold_at hp 28 rfl
    have hv29 : V 29 = (.bool false) := postsHold_at hp 29 rfl
    simp only [List.take_succ_cons, List.take_zero, insAll, ins, hv0, hv1, hv2, hv3, hv4, hv5, hv6, hv7, hv8, hv9, hv10, hv11, hv12, hv13, hv14, hv15, hv16, hv17, hv18, hv19, hv20, hv21, hv22, hv23, hv24, hv25, hv26, hv27, hv28, hv29] at hf
    clear hp hnb hv0 hv1 hv2 hv3 hv4 hv5 hv6 hv7 hv8 hv9 hv10 hv11 hv12 hv13 hv14 hv15 hv16 hv17 hv18 hv19 hv20 hv21 hv22 hv23 hv24 hv25 hv26 hv27 hv28 hv29
    replace hk2 := blk_ext hk2 he7
    replace hk4 := blk_ext hk4 he7
    replace hb := hb.trans (Below.mono he7 hb.size)
    (try simp only [Exit.then, Exit.inBlock, ↓reduceIte, Nat.reduceEqDiff])
    refine hK8 _ _ ?_
    refine wp_cond_false (hf.ev rfl) ?_
    refine wp_skip ?_
    (try simp only [Exit.then, Exit.inBlock, ↓reduceIte, Nat.reduceEqDiff])
    refine hK7 _ _ ?_
    refine wp_seq_k (fun K9 hK9 => ?_)
    refine wp_seq_k (fun K10 hK10 => ?_)
    refine wp_region_lit ?_
    refine sqv hf (r_move rfl) rfl rfl rfl ?_; clear hf fa; intro fa hf
    refine sqv hf (r_move rfl) rfl rfl rfl ?_; clear hf fa; intro fa hf
    refine sqv hf (r_move rfl) rfl rfl rfl ?_; clear hf fa; intro fa hf
    refine sqv hf (r_ixa (sz := 6) (j := (i).toNat) (evAt rfl hat1) rfl Try.underlying76 (by kernel_rfl) (by omega) (by omega) rfl) rfl rfl rfl ?_; clear hf fa; intro fa hf
    refine sqv hf (r_fa rfl Try.underlying132 (f := 3) (q := ((aoff1 + (i).toNat * 6) + 4)) rfl (by kernel_rfl) rfl) rfl rfl rfl ?_; clear hf fa; intro fa hf
    refine sqv hf (r_load (v := (.int .i64 cc)) rfl Try.underlying3 rfl (cellsAt_cell (cellsAt_below hel1 hb hlb1) (i := 4) rfl rfl)) rfl rfl rfl ?_; clear hf fa; intro fa hf
    refine sqdt hf (d_callB (vs := [(.slice ar R.length cr), (.int .i64 cc)]) rfl Try.func68 (by kernel_rfl) (by kernel_rfl) (rlive_to (RdS.ext hl hb) hlc hcc hcn hcR)) rfl rfl rfl ?_; clear hf fa; rintro fa _ w10 ⟨rfl, he8⟩ hf
    replace hk2 := blk_ext hk2 he8
    replace hk4 := blk_ext hk4 he8
    replace hb := hb.trans (Below.mono he8 hb.size)
    refine sqv hf (Runs.veq (v' := (.bool false)) (r_not rfl) rfl) rfl rfl rfl ?_; clear hf fa; intro fa hf
    apply wpList_nil
    (try simp only [Exit.then, Exit.inBlock, ↓reduceIte, Nat.reduceEqDiff])
    refine hK10 _ _ ?_
    refine wp_cond_false (hf.ev rfl) ?_
    refine wp_skip ?_
    (try simp only [Exit.then, Exit.inBlock, ↓reduceIte, Nat.reduceEqDiff])
    refine hK9 _ _ ?_
    refine wp_seq_k (fun K11 hK11 => ?_)
    have hy2 : (R)[(cc).toNat]? = some (rT U1 U2 o2 m2 c2) := hr2
    obtain ⟨_, _, hab1, hlb2, hel2⟩ := RdS.at hl hy2
    rw [hat1] at hab1; cases hab1
    refine wp_region_un (fun wq => Below w10.heap.size w10 wq) (fun w w' => Below w.heap.size w w')
      (fun V => [(fun x _ => x = (.int .i64 (0 : Int))), (fun x _ => x = (.bool true)), (fun x _ => x = (.bool true)), (fun x _ => x = (.agg #[(.string U1), (.string U2), (.int .i64 o2), (.string ⟨#[]⟩), (.slice (some ⟨kb2, 0, none⟩) 2 2), (.slice none 0 0), (.slice none 0 0)])), (fun x _ => x = (.slice ar R.length cr)), (fun x _ => x = (.slice ar R.length cr)), (fun x _ => x = (.int .i64 i)), (fun x _ => x = (.pointer (some ⟨ab1, (aoff1 + (i).toNat * 6), none⟩))), (fun x _ => x = (.pointer (some ⟨ab1, ((aoff1 + (i).toNat * 6) + 4), none⟩))), (fun x _ => x = (.int .i64 cc)), (fun x _ => x = (.pointer (some ⟨ab1, (aoff1 + (cc).toNat * 6), none⟩))), (fun x _ => x = (.agg #[(.string U1), (.string U2), (.int .i64 o2), (.int .u64 m2), (.int .i64 c2), (.bool true)])), (fun x _ => x = (.bool true)), (fun x _ => x = (.bool true)), (fun x _ => x = (.bool true))])
      []
      [[], [0], [1], [2], [2], [2], [2], [2, 5, 6], [2, 7], [2, 8], [2, 4, 9], [2, 10], [2, 3, 11], [2, 12], [0, 1, 2, 3, 4, 5, 6, 7, 8, 9, 10, 11, 12, 13]]
      hf (by kernel_rfl) (by kernel_rfl) (fun _ => rfl) ((Below.refl _ _).drew) (fun a b h1 h2 => h1.trans (h2.mono h1.size)) (fun _ _ h => h.size) (fun V => ⟨kept_eq, kept_eq, kept_eq, kept_eq, kept_eq, kept_eq, kept_eq, kept_eq, kept_eq, kept_eq, kept_eq, kept_eq, kept_eq, kept_eq, kept_eq, trivial⟩) (fun _ _ _ _ _ => rfl) ?_ ?_
    · skip
      intro V
      refine ⟨fun wu0 hC hd => ?_, ?_⟩
      · clear hd
        replace hb := hb.trans (hC.mono hb.size)
        replace hk2 := blk_ext hk2 hC
        replace hk4 := blk_ext hk4 hC
        exact Runs.does (r_move rfl) ⟨Below.refl _ _, rfl, nofr rfl⟩
      refine ⟨fun wu1 hC hd => ?_, ?_⟩
      · obtain ⟨h0, _⟩ := hd
        skip
        replace h0 : V 0 = (.int .i64 (0 : Int)) := h0
        replace hb := hb.trans (hC.mono hb.size)
        replace hk2 := blk_ext hk2 hC
        replace hk4 := blk_ext hk4 hC
        exact Runs.does (Runs.veq (r_eq (congrArg some h0) rfl) (congrArg Value.bool (show _ = true from by decide))) ⟨Below.refl _ _, rfl, nofr rfl⟩
      refine ⟨fun wu2 hC hd => ?_, ?_⟩
      · obtain ⟨h1, _⟩ := hd
        skip
        replace h1 : V 1 = (.bool true) := h1
        replace hb := hb.trans (hC.mono hb.size)
        replace hk2 := blk_ext hk2 hC
        replace hk4 := blk_ext hk4 hC
        exact Runs.does (r_move (congrArg some h1)) ⟨Below.refl _ _, rfl, nofr rfl⟩
      refine ⟨fun wu3 hC hd => ?_, ?_⟩
      · obtain ⟨h2, _⟩ := hd
        skip
        replace h2 : V 2 = (.bool true) := h2
        replace hb := hb.trans (hC.mono hb.size)
        replace hk2 := blk_ext hk2 hC
        replace hk4 := blk_ext hk4 hC
        refine ⟨true, true, congrArg some h2, fun hact => ?_, fun hact => ?_⟩
        · exact Runs.does (r_loadA (cs := [(.string U1), (.string U2), (.int .i64 o2), (.string ⟨#[]⟩), (.slice (some ⟨kb2, 0, none⟩) 2 2), (.slice none 0 0), (.slice none 0 0)]) rfl Try.underlying37 rfl (by kernel_rfl) (cellsAt_blk hk4)) ⟨Below.refl _ _, rfl, nofr rfl⟩
        · exfalso; simp at hact
      refine ⟨fun wu4 hC hd => ?_, ?_⟩
      · obtain ⟨h2, _⟩ := hd
        skip
        replace h2 : V 2 = (.bool true) := h2
        replace hb := hb.trans (hC.mono hb.size)
        replace hk2 := blk_ext hk2 hC
        replace hk4 := blk_ext hk4 hC
        refine ⟨true, true, congrArg some h2, fun hact => ?_, fun hact => ?_⟩
        · exact Runs.does (r_move rfl) ⟨Below.refl _ _, rfl, nofr rfl⟩
        · exfalso; simp at hact
      refine ⟨fun wu5 hC hd => ?_, ?_⟩
      · obtain ⟨h2, _⟩ := hd
        skip
        replace h2 : V 2 = (.bool true) := h2
        replace hb := hb.trans (hC.mono hb.size)
        replace hk2 := blk_ext hk2 hC
        replace hk4 := blk_ext hk4 hC
        refine ⟨true, true, congrArg some h2, fun hact => ?_, fun hact => ?_⟩
        · exact Runs.does (r_move rfl) ⟨Below.refl _ _, rfl, nofr rfl⟩
        · exfalso; simp at hact
      refine ⟨fun wu6 hC hd => ?_, ?_⟩
      · obtain ⟨h2, _⟩ := hd
        skip
        replace h2 : V 2 = (.bool true) := h2
        replace hb := hb.trans (hC.mono hb.size)
        replace hk2 := blk_ext hk2 hC
        replace hk4 := blk_ext hk4 hC
        refine ⟨true, true, congrArg some h2, fun hact => ?_, fun hact => ?_⟩
        · exact Runs.does (r_move rfl) ⟨Below.refl _ _, rfl, nofr rfl⟩
        · exfalso; simp at hact
      refine ⟨fun wu7 hC hd => ?_, ?_⟩
      · obtain ⟨h2, h5, h6, _⟩ := hd
        skip
        skip
        skip
        replace h2 : V 2 = (.bool true) := h2
        replace h5 : V 5 = (.slice ar R.length cr) := h5
        replace h6 : V 6 = (.int .i64 i) := h6
        replace hb := hb.trans (hC.mono hb.size)
        replace hk2 := blk_ext hk2 hC
        replace hk4 := blk_ext hk4 hC
        refine ⟨true, true, congrArg some h2, fun hact => ?_, fun hact => ?_⟩
        · exact Runs.does (r_ixa (sz := 6) (j := (i).toNat) (evAt (congrArg some h5) hat1) (congrArg some h6) Try.underlying76 (by kernel_rfl) (by omega) (by omega) rfl) ⟨Below.refl _ _, rfl, nofr rfl⟩
        · exfalso; simp at hact
      refine ⟨fun wu8 hC hd => ?_, ?_⟩
      · obtain ⟨h2, h7, _⟩ := hd
        skip
        skip
        replace h2 : V 2 = (.bool true) := h2
        replace h7 : V 7 = (.pointer (some ⟨ab1, (aoff1 + (i).toNat * 6), none⟩)) := h7
        replace hb := hb.trans (hC.mono hb.size)
        replace hk2 := blk_ext hk2 hC
        replace hk4 := blk_ext hk4 hC
        refine ⟨true, true, congrArg some h2, fun hact => ?_, fun hact => ?_⟩
        · exact Runs.does (r_fa (congrArg some h7) Try.underlying132 (f := 3) (q := ((aoff1 + (i).toNat * 6) + 4)) rfl (by kernel_rfl) rfl) ⟨Below.refl _ _, rfl, nofr rfl⟩
        · exfalso; simp at hact
      refine ⟨fun wu9 hC hd => ?_, ?_⟩
      · obtain ⟨h2, h8, _⟩ := hd
        skip
        skip
        replace h2 : V 2 = (.bool true) := h2
        replace h8 : V 8 = (.pointer (some ⟨ab1, ((aoff1 + (i).toNat * 6) + 4), none⟩)) := h8
        replace hb := hb.trans (hC.mono hb.size)
        replace hk2 := blk_ext hk2 hC
        replace hk4 := blk_ext hk4 hC
        refine ⟨true, true, congrArg some h2, fun hact => ?_, fun hact => ?_⟩
        · exact Runs.does (r_load (v := (.int .i64 cc)) (congrArg some h8) Try.underlying3 rfl (cellsAt_cell (cellsAt_below hel1 hb hlb1) (i := 4) rfl rfl)) ⟨Below.refl _ _, rfl, nofr rfl⟩
        · exfalso; simp at hact
      refine ⟨fun wu10 hC hd => ?_, ?_⟩
      · obtain ⟨h2, h4, h9, _⟩ := hd
        skip
        skip
        skip
        replace h2 : V 2 = (.bool true) := h2
        replace h4 : V 4 = (.slice ar R.length cr) := h4
        replace h9 : V 9 = (.int .i64 cc) := h9
        replace hb := hb.trans (hC.mono hb.size)
        replace hk2 := blk_ext hk2 hC
        replace hk4 := blk_ext hk4 hC
        refine ⟨true, true, congrArg some h2, fun hact => ?_, fun hact => ?_⟩
        · exact Runs.does (r_ixa (sz := 6) (j := (cc).toNat) (evAt (congrArg some h4) hat1) (congrArg some h9) Try.underlying76 (by kernel_rfl) (by omega) (by omega) rfl) ⟨Below.refl _ _, rfl, nofr rfl⟩
        · exfalso; simp at hact
      refine ⟨fun wu11 hC hd => ?_, ?_⟩
      · obtain ⟨h2, h10, _⟩ := hd
        skip
        skip
        replace h2 : V 2 = (.bool true) := h2
        replace h10 : V 10 = (.pointer (some ⟨ab1, (aoff1 + (cc).toNat * 6), none⟩)) := h10
        replace hb := hb.trans (hC.mono hb.size)
        replace hk2 := blk_ext hk2 hC
        replace hk4 := blk_ext hk4 hC
        refine ⟨true, true, congrArg some h2, fun hact => ?_, fun hact => ?_⟩
        · exact Runs.does (r_loadA (cs := [(.string U1), (.string U2), (.int .i64 o2), (.int .u64 m2), (.int .i64 c2), (.bool true)]) (congrArg some h10) Try.underlying132 rfl (by kernel_rfl) (cellsAt_below hel2 hb hlb2)) ⟨Below.refl _ _, rfl, nofr rfl⟩
        · exfalso; simp at hact
      refine ⟨fun wu12 hC hd => ?_, ?_⟩
      · obtain ⟨h2, h3, h11, _⟩ := hd
        skip
        skip
        skip
        replace h2 : V 2 = (.bool true) := h2
        replace h3 : V 3 = (.agg #[(.string U1), (.string U2), (.int .i64 o2), (.string ⟨#[]⟩), (.slice (some ⟨kb2, 0, none⟩) 2 2), (.slice none 0 0), (.slice none 0 0)]) := h3
        replace h11 : V 11 = (.agg #[(.string U1), (.string U2), (.int .i64 o2), (.int .u64 m2), (.int .i64 c2), (.bool true)]) := h11
        replace hb := hb.trans (hC.mono hb.size)
        replace hk2 := blk_ext hk2 hC
        replace hk4 := blk_ext hk4 hC
        refine ⟨true, true, congrArg some h2, fun hact => ?_, fun hact => ?_⟩
        · refine Does.mono (d_callB (vs := [(.agg #[(.string U1), (.string U2), (.int .i64 o2), (.string ⟨#[]⟩), (.slice (some ⟨kb2, 0, none⟩) 2 2), (.slice none 0 0), (.slice none 0 0)]), (.agg #[(.string U1), (.string U2), (.int .i64 o2), (.int .u64 m2), (.int .i64 c2), (.bool true)])]) (show [some (V 3), some (V 11)] = [some (.agg #[(.string U1), (.string U2), (.int .i64 o2), (.string ⟨#[]⟩), (.slice (some ⟨kb2, 0, none⟩) 2 2), (.slice none 0 0), (.slice none 0 0)]), some (.agg #[(.string U1), (.string U2), (.int .i64 o2), (.int .u64 m2), (.int .i64 c2), (.bool true)])] from by rw [h3, h11]) Try.func72 (by kernel_rfl) (by kernel_rfl) (is_any U1 U2 o2 m2 c2 kb2 _ (blk_ext hk2_ hb))) (fun _ _ h => ⟨h.2, h.1, nofr rfl⟩)
        · exfalso; simp at hact
      refine ⟨fun wu13 hC hd => ?_, ?_⟩
      · obtain ⟨h2, h12, _⟩ := hd
        skip
        skip
        replace h2 : V 2 = (.bool true) := h2
        replace h12 : V 12 = (.bool true) := h12
        replace hb := hb.trans (hC.mono hb.size)
        replace hk2 := blk_ext hk2 hC
        replace hk4 := blk_ext hk4 hC
        exact Runs.does (r_pick (b := true) (congrArg some h2) (congrArg some h12) rfl rfl) ⟨Below.refl _ _, rfl, nofr rfl⟩
      refine ⟨fun wu14 hC hd => ?_, ?_⟩
      · obtain ⟨h0, h1, h2, h3, h4, h5, h6, h7, h8, h9, h10, h11, h12, h13, _⟩ := hd
        skip
        skip
        skip
        skip
        skip
        skip
        skip
        skip
        skip
        skip
        skip
        skip
        skip
        skip
        replace h0 : V 0 = (.int .i64 (0 : Int)) := h0
        replace h1 : V 1 = (.bool true) := h1
        replace h2 : V 2 = (.bool true) := h2
        replace h3 : V 3 = (.agg #[(.string U1), (.string U2), (.int .i64 o2), (.string ⟨#[]⟩), (.slice (some ⟨kb2, 0, none⟩) 2 2), (.slice none 0 0), (.slice none 0 0)]) := h3
        replace h4 : V 4 = (.slice ar R.length cr) := h4
        replace h5 : V 5 = (.slice ar R.length cr) := h5
        replace h6 : V 6 = (.int .i64 i) := h6
        replace h7 : V 7 = (.pointer (some ⟨ab1, (aoff1 + (i).toNat * 6), none⟩)) := h7
        replace h8 : V 8 = (.pointer (some ⟨ab1, ((aoff1 + (i).toNat * 6) + 4), none⟩)) := h8
        replace h9 : V 9 = (.int .i64 cc) := h9
        replace h10 : V 10 = (.pointer (some ⟨ab1, (aoff1 + (cc).toNat * 6), none⟩)) := h10
        replace h11 : V 11 = (.agg #[(.string U1), (.string U2), (.int .i64 o2), (.int .u64 m2), (.int .i64 c2), (.bool true)]) := h11
        replace h12 : V 12 = (.bool true) := h12
        replace h13 : V 13 = (.bool true) := h13
        replace hb := hb.trans (hC.mono hb.size)
        replace hk2 := blk_ext hk2 hC
        replace hk4 := blk_ext hk4 hC
        exact Runs.does (r_assign (congrArg some h13)) ⟨Below.refl _ _, rfl, nofr rfl⟩
      trivial
    · skip
      clear hf fa; intro V w11 fa he9 hp hnb hf
      have hv0 : V 0 = (.int .i64 (0 : Int)) := postsHold_at hp 0 rfl
      have hv1 : V 1 = (.bool true) := postsHold_at hp 1 rfl
      have hv2 : V 2 = (.bool true) := postsHold_at hp 2 rfl
      have hv3 : V 3 = (.agg #[(.string U1), (.string U2), (.int .i64 o2), (.string ⟨#[]⟩), (.slice (some ⟨kb2, 0, none⟩) 2 2), (.slice none 0 0), (.slice none 0 0)]) := postsHold_at hp 3 rfl
      have hv4 : V 4 = (.slice ar R.length cr) := postsHold_at hp 4 rfl
      have hv5 : V 5 = (.slice ar R.length cr) := postsHold_at hp 5 rfl
      have hv6 : V 6 = (.int .i64 i) := postsHold_at hp 6 rfl
      have hv7 : V 7 = (.pointer (some ⟨ab1, (aoff1 + (i).toNat * 6), none⟩)) := postsHold_at hp 7 rfl
      have hv8 : V 8 = (.pointer (some ⟨ab1, ((aoff1 + (i).toNat * 6) + 4), none⟩)) := postsHold_at hp 8 rfl
      have hv9 : V 9 = (.int .i64 cc) := postsHold_at hp 9 rfl
      have hv10 : V 10 = (.pointer (some ⟨ab1, (aoff1 + (cc).toNat * 6), none⟩)) := postsHold_at hp 10 rfl
      have hv11 : V 11 = (.agg #[(.string U1), (.string U2), (.int .i64 o2), (.int .u64 m2), (.int .i64 c2), (.bool true)]) := postsHold_at hp 11 rfl
      have hv12 : V 12 = (.bool true) := postsHold_at hp 12 rfl
      have hv13 : V 13 = (.bool true) := postsHold_at hp 13 rfl
      have hv14 : V 14 = (.bool true) := postsHold_at hp 14 rfl
      simp only [List.take_succ_cons, List.take_zero, insAll, ins, hv0, hv1, hv2, hv3, hv4, hv5, hv6, hv7, hv8, hv9, hv10, hv11, hv12, hv13, hv14] at hf
      clear hp hnb hv0 hv1 hv2 hv3 hv4 hv5 hv6 hv7 hv8 hv9 hv10 hv11 hv12 hv13 hv14
      replace hk2 := blk_ext hk2 he9
      replace hk4 := blk_ext hk4 he9
      replace hb := hb.trans (Below.mono he9 hb.size)
      (try simp only [Exit.then, Exit.inBlock, ↓reduceIte, Nat.reduceEqDiff])
      refine hK11 _ _ ?_
      refine wp_ret ?_
      (try simp only [Exit.then, Exit.inBlock])
      refine ret1 hf rfl rfl ?_
      exact ⟨rfl, hb⟩
end Go.Proofs.Ytmcmickgllffoaa
