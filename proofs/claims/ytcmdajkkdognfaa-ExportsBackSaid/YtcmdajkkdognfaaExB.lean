/- What is proved here: exports: the example, Find, Twice. -/
import Derived.Test.YtcmdajkkdognfaaExA
import Derived.Test.YtcmdajkkdognfaaSxP
namespace Go.Proofs.Ytcmdajkkdognfaa
open Go.RowKit
set_option linter.unusedVariables false
set_option linter.unusedSimpArgs false
theorem eput0_any (w : World) : Calls Try.prog 69 #[(.agg #[(.string ⟨#[102]⟩), (.int .u8 (0 : Int)), (.int .u32 (3 : Int))])] w fun e w' => ∃ v, e = .returned v ∧ ∃ a1 c1, v = (.tuple #[.slice a1 ([1, 102, 0, 3] : List Int).length c1, .int .i64 0]) ∧ Row 1 (vInt .u8) 5 w.heap.size w' (.slice a1 ([1, 102, 0, 3] : List Int).length c1) [1, 102, 0, 3] ∧ Below w.heap.size w w' := by
  refine (eput_any (⟨#[102]⟩, 0, 3, ()) w (by decide) (by decide) (by decide)).mono ?_
  rintro e w' ⟨v, rfl, hr, hb⟩
  have e1 : erightP ((⟨#[102]⟩ : ByteArray), (0 : Int), (3 : Int), ()) = 0 := by decide +kernel
  have e2 : eputL ((⟨#[102]⟩ : ByteArray), (0 : Int), (3 : Int), ()) = [1, 102, 0, 3] := by decide +kernel
  rw [e1]
  rw [e2] at hr
  obtain ⟨a1, c1, rfl, _, _⟩ := Row.slice hr
  exact ⟨_, rfl, a1, c1, rfl, hr, hb⟩
def fndP (nm : ByteArray) : List MExp → MExp × Bool
  | [] => (zMExp, false)
  | y :: l => if y.1 = nm then (y, true) else fndP nm l
def nmsR (l : List MExp) : List ByteArray := l.map (·.1)
def twI : List ByteArray → List MExp → Nat → Int
  | _, [], _ => -1
  | seen, y :: l, k => if inS seen y.1 = true then (k : Int) else twI (seen ++ [y.1]) l (k + 1)
def twN (L : List MExp) : ByteArray := if 0 ≤ twI [] L 0 then (L.getD (twI [] L 0).toNat zMExp).1 else ⟨#[]⟩
def twB (L : List MExp) : Bool := decide (0 ≤ twI [] L 0)
def nmsP (L : List MExp) (kd : Int) : List ByteArray := (L.filter fun y => decide (y.2.1 = kd)).map (·.1)
@[simp] theorem nmsP_nil (kd : Int) : nmsP [] kd = [] := rfl
theorem etake_at {α : Type} {l : List α} {k : Nat} {y : α} (h : l[k]? = some y) : l.take (k + 1) = l.take k ++ [y] := by
  rw [List.take_add_one, h]; rfl
theorem nms_yes {L : List MExp} {k : Nat} {kd : Int} {y : MExp} (hy : L[k]? = some y) (h : y.2.1 = kd) : nmsP (L.take k) kd ++ [y.1] = nmsP (L.take (k + 1)) kd := by
  unfold nmsP
  rw [etake_at hy, List.filter_append, List.filter_cons, if_pos (by simpa using h), List.map_append]; rfl
theorem nms_no {L : List MExp} {k : Nat} {kd : Int} {y : MExp} (hy : L[k]? = some y) (h : ¬ y.2.1 = kd) : nmsP (L.take k) kd = nmsP (L.take (k + 1)) kd := by
  unfold nmsP
  rw [etake_at hy, List.filter_append, List.filter_cons, if_neg (by simpa using h), List.filter_nil, List.append_nil]
theorem nms_len (L : List MExp) (k : Nat) (kd : Int) : (nmsP (L.take k) kd).length ≤ k ∧ (nmsP (L.take k) kd).length ≤ L.length := by
  have h := List.length_filter_le (fun y : MExp => decide (y.2.1 = kd)) (L.take k)
  unfold nmsP
  rw [List.length_take] at h
  rw [List.length_map]
  omega
theorem nms_len2 (L : List MExp) (kd : Int) : (nmsP L kd).length ≤ L.length := by unfold nmsP; rw [List.length_map]; exact List.length_filter_le _ _
theorem rowToE {α : Type} {k e base n c : Nat} {V : α → List Value} {w : World} {a : Option Addr} {l l' : List α} (h : Row k V e base w (.slice a n c) l) (he : l = l') : Row k V e base w (.slice a l'.length c) l' := he ▸ h.relen
theorem rowToE' {α : Type} {k e base : Nat} {V : α → List Value} {w : World} {v : Value} {l l' : List α} (h : Row k V e base w v l) (he : l = l') : Row k V e base w v l' := he ▸ h
theorem nmsR_snoc {L : List MExp} {k : Nat} {y : MExp} (hy : L[k]? = some y) : nmsR (L.take k) ++ [y.1] = nmsR (L.take (k + 1)) := by
  unfold nmsR
  rw [etake_at hy, List.map_append]; rfl
theorem nmsR_len (L : List MExp) (k : Nat) : (nmsR (L.take k)).length ≤ k := by
  unfold nmsR
  rw [List.length_map, List.length_take]; omega

set_option maxHeartbeats 1000000 in
set_option maxRecDepth 100000 in
theorem awake11_any (w : World) : Calls Try.prog 16 #[] w fun e w' => e = .returned (.bool true) ∧ Below w.heap.size w w' := by
  refine sx_enter (L := []) Try.func16 rfl rfl rfl rfl (fun fa hf => ?_)
  have hb : Below w.heap.size w w := Below.refl _ _
  refine wp_seq_k (fun K1 hK1 => ?_)
  refine wp_region_lit ?_
  refine sqv hf (r_assign rfl) rfl rfl rfl ?_; clear hf fa; intro fa hf
  apply wpList_nil
  (try simp only [Exit.then, Exit.inBlock, ↓reduceIte, Nat.reduceEqDiff])
  refine hK1 _ _ ?_
  refine wp_seq_k (fun K2 hK2 => ?_)
  refine wp_region_lit ?_
  refine sqv hf (r_build (vs := [(0, (.string ⟨#[102]⟩)), (2, (.int .u32 (3 : Int)))]) (cs := #[(.string ⟨#[102]⟩), (.int .u8 (0 : Int)), (.int .u32 (3 : Int))]) rfl (fun _ => by kernel_rfl)) rfl rfl rfl ?_; clear hf fa; intro fa hf
  refine sqdt hf (d_callX (vs := [(.agg #[(.string ⟨#[102]⟩), (.int .u8 (0 : Int)), (.int .u32 (3 : Int))])]) rfl Try.func69 (by kernel_rfl) (by kernel_rfl) (eput0_any _)) rfl rfl rfl ?_; clear hf fa; rintro fa _ w1 ⟨ra1, rc1, rfl, hr1, he1⟩ hf
  replace hr1 := Row.rebase hr1 hb.size
  replace hb := hb.trans (Below.mono he1 hb.size)
  have hchr1 := Row.caps hr1
  refine sqv hf (r_move rfl) rfl rfl rfl ?_; clear hf fa; intro fa hf
  refine sqv hf (r_extract rfl (i := 0) rfl) rfl rfl rfl ?_; clear hf fa; intro fa hf
  refine sqv hf (r_extract rfl (i := 1) rfl) rfl rfl rfl ?_; clear hf fa; intro fa hf
  refine sqv hf (r_assign rfl) rfl rfl rfl ?_; clear hf fa; intro fa hf
  refine sqv hf (r_assign rfl) rfl rfl rfl ?_; clear hf fa; intro fa hf
  apply wpList_nil
  (try simp only [Exit.then, Exit.inBlock, ↓reduceIte, Nat.reduceEqDiff])
  refine hK2 _ _ ?_
  refine wp_seq_k (fun K3 hK3 => ?_)
  refine wp_region_lit ?_
  refine sqv hf (r_move rfl) rfl rfl rfl ?_; clear hf fa; intro fa hf
  refine sqv hf (Runs.veq (r_eq rfl rfl) (congrArg Value.bool (show _ = true from rfl))) rfl rfl rfl ?_; clear hf fa; intro fa hf
  refine sqv hf (r_move rfl) rfl rfl rfl ?_; clear hf fa; intro fa hf
  refine sqgd (act := true) (g := 2) (want := true) (ag := true) (c := true) hf (by rfl) (by rfl) rfl (fun _ =>  Runs.does (R := fun vq wq => vq = (.slice ra1 (([1, 102, 0, 3] : List Int).length) rc1) ∧ w1 = wq) (r_move rfl) ⟨rfl, rfl⟩) (fun h => by cases h) rfl ?_; clear hf fa; rintro fa _ _ ⟨rfl, rfl⟩ hf
  change Fr _ _ ((11, (.slice ra1 (([1, 102, 0, 3] : List Int).length) rc1)) :: _) at hf
  refine sqgd (act := true) (g := 2) (want := true) (ag := true) (c := true) hf (by rfl) (by rfl) rfl (fun _ =>  Runs.does (R := fun vq wq => vq = (.string (strOfNums [1, 102, 0, 3])) ∧ w1 = wq) (r_rowstr rfl Try.underlying47 Try.underlying5 Try.underlying9 hr1) ⟨rfl, rfl⟩) (fun h => by cases h) rfl ?_; clear hf fa; rintro fa _ _ ⟨rfl, rfl⟩ hf
  change Fr _ _ ((12, (.string (strOfNums [1, 102, 0, 3]))) :: _) at hf
  refine sqgd (act := true) (g := 2) (want := true) (ag := true) (c := true) hf (by rfl) (by rfl) rfl (fun _ =>  Runs.does (R := fun vq wq => vq = (.bool true) ∧ w1 = wq) (Runs.veq (r_seq rfl rfl) (congrArg Value.bool (show _ = true from rfl))) ⟨rfl, rfl⟩) (fun h => by cases h) rfl ?_; clear hf fa; rintro fa _ _ ⟨rfl, rfl⟩ hf
  change Fr _ _ ((13, (.bool true)) :: _) at hf
  refine sqv hf (r_pick (b := true) rfl rfl rfl rfl) rfl rfl rfl ?_; clear hf fa; intro fa hf
  refine sqv hf (r_assign rfl) rfl rfl rfl ?_; clear hf fa; intro fa hf
  apply wpList_nil
  (try simp only [Exit.then, Exit.inBlock, ↓reduceIte, Nat.reduceEqDiff])
  refine hK3 _ _ ?_
  refine wp_ret ?_
  (try simp only [Exit.then, Exit.inBlock])
  refine ret1 hf rfl rfl ?_
  exact ⟨congrArg (fun b => Ending.returned (.bool b)) (by first | rfl | decide +kernel), hb⟩

set_option maxHeartbeats 1000000 in
set_option maxRecDepth 100000 in
theorem find_any (a : Option Addr) (L : List MExp) (c : Nat) (nm : ByteArray) (w : World) (hl : RdS 3 vMExp w a L) (hlc : L.length ≤ c) (hlm : L.length ≤ 4096) (hLs : ∀ y ∈ L, y.1.size ≤ maxLen) : Calls Try.prog 17 #[(.slice a L.length c), (.string nm)] w fun e w' => e = .returned (.tuple #[(.agg #[(.string (fndP nm L).1.1), (.int .u8 ((fndP nm L).1.2.1)), (.int .u32 ((fndP nm L).1.2.2.1))]), .bool (fndP nm L).2]) ∧ Below w.heap.size w w' := by
  refine sx_enter (L := [(0, (.slice a L.length c)), (1, (.string nm))]) Try.func17 rfl rfl rfl rfl (fun fa hf => ?_)
  have hb : Below w.heap.size w w := Below.refl _ _
  refine wp_seq_k (fun K1 hK1 => ?_)
  refine wp_region_lit ?_
  refine sqdt hf (d_alloc (z := (.agg #[(.string ⟨#[]⟩), (.int .u8 (0 : Int)), (.int .u32 (0 : Int))])) (cs := #[(.string ⟨#[]⟩), (.int .u8 (0 : Int)), (.int .u32 (0 : Int))]) (by kernel_rfl) rfl) rfl rfl rfl ?_; clear hf fa; rintro fa _ w1 ⟨b1, rfl, hle1, hk1, he1⟩ hf
  have hBb1 : w.heap.size ≤ b1 := Nat.le_trans hb.size hle1
  replace hb := hb.trans (Below.mono he1 hb.size)
  refine sqv hf (r_assign rfl) rfl rfl rfl ?_; clear hf fa; intro fa hf
  apply wpList_nil
  (try simp only [Exit.then, Exit.inBlock, ↓reduceIte, Nat.reduceEqDiff])
  refine hK1 _ _ ?_
  refine wp_seq_k (fun K2 hK2 => ?_)
  refine wp_seq_k (fun K3 hK3 => ?_)
  refine wp_region_lit ?_
  refine sqv hf (r_move rfl) rfl rfl rfl ?_; clear hf fa; intro fa hf
  refine sqv hf (r_lensl rfl Try.underlying22) rfl rfl rfl ?_; clear hf fa; intro fa hf
  refine sqv hf (r_move rfl) rfl rfl rfl ?_; clear hf fa; intro fa hf
  apply wpList_nil
  (try simp only [Exit.then, Exit.inBlock, ↓reduceIte, Nat.reduceEqDiff])
  refine hK3 _ _ ?_
  refine wp_block ?_
  refine wp_loop_k (fun mq fa wr => ∃ (k : Nat), mq = L.length - k ∧ Fr 21 fa [(1, (.string nm)), (4, (.pointer (some ⟨b1, 0, none⟩))), (8, (.slice a L.length c)), (9, (.int .i64 ((L.length : Nat) : Int))), (10, (.int .i64 ((k : Nat) : Int)))] ∧ Below w.heap.size w wr ∧ wr.heap[b1]? = some (.cells #[(.string ⟨#[]⟩), (.int .u8 (0 : Int)), (.int .u32 (0 : Int))] 26 (0, 0)) ∧ (k ≤ L.length) ∧ (fndP nm L = fndP nm (L.drop k))) ?_ ?_
  · skip
    exact ⟨_, 0, rfl, hf.sub ⟨rfl, rfl, rfl, rfl, (some_int (by first | rfl | omega)), trivial⟩, hb, hk1, by omega, rfl⟩
  · skip
    clear hf fa; intro mq1 fa w2 hI KL1 hKL1
    clear hb
    clear hk1
    obtain ⟨k, hmq1, hf, hb, hkb1, hk, Hs⟩ := hI
    refine wp_seq_k (fun K4 hK4 => ?_)
    refine wp_region_lit ?_
    refine sqv hf (r_lt rfl rfl) rfl rfl rfl ?_; clear hf fa; intro fa hf
    apply wpList_nil
    (try simp only [Exit.then, Exit.inBlock, ↓reduceIte, Nat.reduceEqDiff])
    refine hK4 _ _ ?_
    refine wp_seq_k (fun K5 hK5 => ?_)
    refine wp_cond_split (t := (decide (((k : Nat) : Int) < ((L.length : Nat) : Int)))) (hf.ev rfl) (fun hqt11_1 => ?_) (fun hqt11_1 => ?_)
    · have hqt11_1b := hqt11_1
      try simp only [decide_eq_true_eq, Bool.and_eq_true, Bool.or_eq_true, Bool.not_eq_true', decide_eq_false_iff_not, ne_eq, Bool.not_eq_true] at hqt11_1
      refine wp_skip ?_
      (try simp only [Exit.then, Exit.inBlock, ↓reduceIte, Nat.reduceEqDiff])
      refine hK5 _ _ ?_
      refine wp_seq_k (fun K6 hK6 => ?_)
      refine wp_block ?_
      refine wp_seq_k (fun K7 hK7 => ?_)
      obtain ⟨y, hy⟩ : ∃ x, L[k]? = some x := ⟨_, List.getElem?_eq_getElem (by omega)⟩
      have hys := hLs y (List.mem_of_getElem? hy)
      refine wp_region_lit ?_
      have hy1 : (L)[k]? = some y := hy
      obtain ⟨ab1, aoff1, hat1, hlb1, hel1⟩ := RdS.at hl hy1
      refine sqv hf (r_ixa (sz := 3) (j := k) (evAt rfl hat1) rfl Try.underlying22 (by kernel_rfl) rfl (by omega) rfl) rfl rfl rfl ?_; clear hf fa; intro fa hf
      refine sqv hf (r_loadA (cs := [(.string y.1), (.int .u8 y.2.1), (.int .u32 y.2.2.1)]) rfl Try.underlying26 rfl (by kernel_rfl) (cellsAt_below hel1 hb hlb1)) rfl rfl rfl ?_; clear hf fa; intro fa hf
      refine sqdt hf (d_alloc (z := (.agg #[(.string ⟨#[]⟩), (.int .u8 (0 : Int)), (.int .u32 (0 : Int))])) (cs := #[(.string ⟨#[]⟩), (.int .u8 (0 : Int)), (.int .u32 (0 : Int))]) (by kernel_rfl) rfl) rfl rfl rfl ?_; clear hf fa; rintro fa _ w3 ⟨b2, rfl, hle2, hk2, he2⟩ hf
      have hBb2 : w.heap.size ≤ b2 := Nat.le_trans hb.size hle2
      have : b1 < b2 := Nat.lt_of_lt_of_le (blk_lt hkb1) hle2
      replace hkb1 := blk_ext hkb1 he2
      replace hb := hb.trans (Below.mono he2 hb.size)
      refine sqn hf (d_storeK (T := 26) (v := (.agg #[(.string y.1), (.int .u8 y.2.1), (.int .u32 y.2.2.1)])) (cs := #[(.string ⟨#[]⟩), (.int .u8 (0 : Int)), (.int .u32 (0 : Int))]) (cs' := #[(.string y.1), (.int .u8 y.2.1), (.int .u32 y.2.2.1)]) rfl rfl (by kernel_rfl) (by kernel_rfl) hk2 (by kernel_rfl) (by kernel_rfl)) rfl rfl ?_; clear hf fa; rintro fa _ w4 ⟨hk3, hg1⟩ hf
      replace hkb1 := blk_grown hkb1 hg1 (by omega)
      replace hb := hb.trans (grown_below hg1 hb.size hBb2)
      apply wpList_nil
      (try simp only [Exit.then, Exit.inBlock, ↓reduceIte, Nat.reduceEqDiff])
      refine hK7 _ _ ?_
      refine wp_seq_k (fun K8 hK8 => ?_)
      refine wp_region_lit ?_
      refine sqv hf (r_fa rfl Try.underlying26 (f := 0) (q := 0) rfl (by kernel_rfl) rfl) rfl rfl rfl ?_; clear hf fa; intro fa hf
      refine sqv hf (r_load (v := (.string y.1)) rfl Try.underlying9 rfl (cell_blk hk3 rfl)) rfl rfl rfl ?_; clear hf fa; intro fa hf
      refine sqv hf (r_move rfl) rfl rfl rfl ?_; clear hf fa; intro fa hf
      refine sqv hf (r_seq rfl rfl) rfl rfl rfl ?_; clear hf fa; intro fa hf
      apply wpList_nil
      (try simp only [Exit.then, Exit.inBlock, ↓reduceIte, Nat.reduceEqDiff])
      refine hK8 _ _ ?_
      refine wp_cond_split (t := (decide (y.1 = nm))) (hf.ev rfl) (fun hqt17_1 => ?_) (fun hqt17_1 => ?_)
      · have hqt17_1b := hqt17_1
        try simp only [decide_eq_true_eq, Bool.and_eq_true, Bool.or_eq_true, Bool.not_eq_true', decide_eq_false_iff_not, ne_eq, Bool.not_eq_true] at hqt17_1
        refine wp_seq_k (fun K9 hK9 => ?_)
        refine wp_region_lit ?_
        refine sqv hf (r_loadA (cs := [(.string y.1), (.int .u8 y.2.1), (.int .u32 y.2.2.1)]) rfl Try.underlying26 rfl (by kernel_rfl) (cellsAt_blk hk3)) rfl rfl rfl ?_; clear hf fa; intro fa hf
        refine sqn hf (d_storeK (T := 26) (v := (.agg #[(.string y.1), (.int .u8 y.2.1), (.int .u32 y.2.2.1)])) (cs := #[(.string ⟨#[]⟩), (.int .u8 (0 : Int)), (.int .u32 (0 : Int))]) (cs' := #[(.string y.1), (.int .u8 y.2.1), (.int .u32 y.2.2.1)]) rfl rfl (by kernel_rfl) (by kernel_rfl) hkb1 (by kernel_rfl) (by kernel_rfl)) rfl rfl ?_; clear hf fa; rintro fa _ w5 ⟨hk4, hg2⟩ hf
        replace hk3 := blk_grown hk3 hg2 (by omega)
        replace hb := hb.trans (grown_below hg2 hb.size hBb1)
        refine sqv hf (r_assign rfl) rfl rfl rfl ?_; clear hf fa; intro fa hf
        apply wpList_nil
        (try simp only [Exit.then, Exit.inBlock, ↓reduceIte, Nat.reduceEqDiff])
        refine hK9 _ _ ?_
        refine wp_ret ?_
        (try simp only [Exit.then, Exit.inBlock])
        refine retCT hf rfl rfl hk4 Try.underlying26 rfl (by kernel_rfl) rfl ?_
        refine ⟨congrArg (fun n : MExp × Bool => Ending.returned (.tuple #[.agg #[.string n.1.1, .int .u8 n.1.2.1, .int .u32 n.1.2.2.1], .bool n.2])) (show (y, true) = _ from ?_), hb⟩; rw [Hs, drop_at hy, fndP, if_pos hqt17_1]
      · have hqt17_1b := hqt17_1
        replace hqt17_1 := Bool.eq_false_iff.1 hqt17_1
        try simp only [ne_eq, decide_eq_true_eq, Bool.and_eq_true, Bool.or_eq_true, Bool.not_eq_true', decide_eq_false_iff_not] at hqt17_1
        refine wp_skip ?_
        (try simp only [Exit.then, Exit.inBlock, ↓reduceIte, Nat.reduceEqDiff])
        refine hK6 _ _ ?_
        refine wp_region_lit ?_
        refine sqv hf (r_add (C := (((k : Nat) : Int) + (1 : Int))) rfl rfl (by rw [IntKind.wrap_i64]; omega)) rfl rfl rfl ?_; clear hf fa; intro fa hf
        refine sqv hf (r_move rfl) rfl rfl rfl ?_; clear hf fa; intro fa hf
        apply wpList_nil
        (try simp only [Exit.then, Exit.inBlock, ↓reduceIte, Nat.reduceEqDiff])
        refine hKL1 _ _ _ (by omega) ⟨(k + 1), rfl, hf.sub ⟨rfl, rfl, rfl, rfl, (some_int (by first | rfl | omega)), trivial⟩, hb, hkb1, by omega, (by have h := Hs; rw [drop_at hy, fndP, if_neg hqt17_1] at h; exact h)⟩
    · have hqt11_1b := hqt11_1
      replace hqt11_1 := Bool.eq_false_iff.1 hqt11_1
      try simp only [ne_eq, decide_eq_true_eq, Bool.and_eq_true, Bool.or_eq_true, Bool.not_eq_true', decide_eq_false_iff_not] at hqt11_1
      refine wp_exit ?_
      (try simp only [Exit.then, Exit.inBlock, ↓reduceIte, Nat.reduceEqDiff])
      refine hK2 _ _ ?_
      refine wp_seq_k (fun K10 hK10 => ?_)
      refine wp_region_lit ?_
      refine sqv hf (r_build (vs := []) (cs := #[(.string ⟨#[]⟩), (.int .u8 (0 : Int)), (.int .u32 (0 : Int))]) rfl (fun _ => by kernel_rfl)) rfl rfl rfl ?_; clear hf fa; intro fa hf
      refine sqn hf (d_storeK (T := 26) (v := (.agg #[(.string ⟨#[]⟩), (.int .u8 (0 : Int)), (.int .u32 (0 : Int))])) (cs := #[(.string ⟨#[]⟩), (.int .u8 (0 : Int)), (.int .u32 (0 : Int))]) (cs' := #[(.string ⟨#[]⟩), (.int .u8 (0 : Int)), (.int .u32 (0 : Int))]) rfl rfl (by kernel_rfl) (by kernel_rfl) hkb1 (by kernel_rfl) (by kernel_rfl)) rfl rfl ?_; clear hf fa; rintro fa _ w6 ⟨hk5, hg3⟩ hf
      replace hb := hb.trans (grown_below hg3 hb.size hBb1)
      refine sqv hf (r_assign rfl) rfl rfl rfl ?_; clear hf fa; intro fa hf
      apply wpList_nil
      (try simp only [Exit.then, Exit.inBlock, ↓reduceIte, Nat.reduceEqDiff])
      refine hK10 _ _ ?_
      refine wp_ret ?_
      (try simp only [Exit.then, Exit.inBlock])
      refine retCT hf rfl rfl hk5 Try.underlying26 rfl (by kernel_rfl) rfl ?_
      refine ⟨congrArg (fun n : MExp × Bool => Ending.returned (.tuple #[.agg #[.string n.1.1, .int .u8 n.1.2.1, .int .u32 n.1.2.2.1], .bool n.2])) (show (zMExp, false) = _ from ?_), hb⟩; rw [Hs, List.drop_eq_nil_of_le (by omega)]; rfl

set_option maxHeartbeats 1000000 in
set_option maxRecDepth 100000 in
theorem twice_any (a : Option Addr) (L : List MExp) (c : Nat) (w : World) (hl : RdS 3 vMExp w a L) (hlc : L.length ≤ c) (hlm : L.length ≤ 4096) (hLs : ∀ y ∈ L, y.1.size ≤ maxLen) : Calls Try.prog 18 #[(.slice a L.length c)] w fun e w' => e = .returned (.tuple #[.string (twN L), .bool (twB L)]) ∧ Below w.heap.size w w' := by
  refine sx_enter (L := [(0, (.slice a L.length c))]) Try.func18 rfl rfl rfl rfl (fun fa hf => ?_)
  have hb : Below w.heap.size w w := Below.refl _ _
  refine wp_seq_k (fun K1 hK1 => ?_)
  refine wp_region_lit ?_
  refine sqv hf (r_assign rfl) rfl rfl rfl ?_; clear hf fa; intro fa hf
  refine sqv hf (r_assign rfl) rfl rfl rfl ?_; clear hf fa; intro fa hf
  apply wpList_nil
  (try simp only [Exit.then, Exit.inBlock, ↓reduceIte, Nat.reduceEqDiff])
  refine hK1 _ _ ?_
  refine wp_seq_k (fun K2 hK2 => ?_)
  refine wp_region_lit ?_
  refine sqdt hf (d_makeMap (k := 9) (e := 4)) rfl rfl rfl ?_; clear hf fa; rintro fa _ w1 ⟨bm1, rfl, hle1, hmp1, he1⟩ hf
  have hBbm1 : w.heap.size ≤ bm1 := Nat.le_trans hb.size hle1
  replace hb := hb.trans (Below.mono he1 hb.size)
  refine sqv hf (r_assign rfl) rfl rfl rfl ?_; clear hf fa; intro fa hf
  apply wpList_nil
  (try simp only [Exit.then, Exit.inBlock, ↓reduceIte, Nat.reduceEqDiff])
  refine hK2 _ _ ?_
  refine wp_seq_k (fun K3 hK3 => ?_)
  refine wp_seq_k (fun K4 hK4 => ?_)
  refine wp_region_lit ?_
  refine sqv hf (r_move rfl) rfl rfl rfl ?_; clear hf fa; intro fa hf
  refine sqv hf (r_lensl rfl Try.underlying22) rfl rfl rfl ?_; clear hf fa; intro fa hf
  refine sqv hf (r_move rfl) rfl rfl rfl ?_; clear hf fa; intro fa hf
  apply wpList_nil
  (try simp only [Exit.then, Exit.inBlock, ↓reduceIte, Nat.reduceEqDiff])
  refine hK4 _ _ ?_
  refine wp_block ?_
  refine wp_loop_k (fun mq fa wr => ∃ (k : Nat), mq = L.length - k ∧ Fr 24 fa [(4, (.map (some bm1))), (8, (.slice a L.length c)), (9, (.int .i64 ((L.length : Nat) : Int))), (10, (.int .i64 ((k : Nat) : Int)))] ∧ Below w.heap.size w wr ∧ (k ≤ L.length) ∧ (twI [] L 0 = twI (nmsR (L.take k)) (L.drop k) k) ∧ (SetM Try.prog 9 4 wr bm1 (nmsR (L.take k)))) ?_ ?_
  · skip
    exact ⟨_, 0, rfl, hf.sub ⟨rfl, rfl, rfl, (some_int (by first | rfl | omega)), trivial⟩, hb, by omega, rfl, hmp1⟩
  · skip
    clear hf fa; intro mq1 fa w2 hI KL1 hKL1
    clear hb
    obtain ⟨k, hmq1, hf, hb, hk, Hs, hmp1⟩ := hI
    have hnl := nmsR_len L k
    refine wp_seq_k (fun K5 hK5 => ?_)
    refine wp_region_lit ?_
    refine sqv hf (r_lt rfl rfl) rfl rfl rfl ?_; clear hf fa; intro fa hf
    apply wpList_nil
    (try simp only [Exit.then, Exit.inBlock, ↓reduceIte, Nat.reduceEqDiff])
    refine hK5 _ _ ?_
    refine wp_seq_k (fun K6 hK6 => ?_)
    refine wp_cond_split (t := (decide (((k : Nat) : Int) < ((L.length : Nat) : Int)))) (hf.ev rfl) (fun hqt11_1 => ?_) (fun hqt11_1 => ?_)
    · have hqt11_1b := hqt11_1
      try simp only [decide_eq_true_eq, Bool.and_eq_true, Bool.or_eq_true, Bool.not_eq_true', decide_eq_false_iff_not, ne_eq, Bool.not_eq_true] at hqt11_1
      refine wp_skip ?_
      (try simp only [Exit.then, Exit.inBlock, ↓reduceIte, Nat.reduceEqDiff])
      refine hK6 _ _ ?_
      refine wp_seq_k (fun K7 hK7 => ?_)
      refine wp_block ?_
      refine wp_seq_k (fun K8 hK8 => ?_)
      obtain ⟨y, hy⟩ : ∃ x, L[k]? = some x := ⟨_, List.getElem?_eq_getElem (by omega)⟩
      have hys := hLs y (List.mem_of_getElem? hy)
      refine wp_region_lit ?_
      have hy1 : (L)[k]? = some y := hy
      obtain ⟨ab1, aoff1, hat1, hlb1, hel1⟩ := RdS.at hl hy1
      refine sqv hf (r_ixa (sz := 3) (j := k) (evAt rfl hat1) rfl Try.underlying22 (by kernel_rfl) rfl (by omega) rfl) rfl rfl rfl ?_; clear hf fa; intro fa hf
      refine sqv hf (r_loadA (cs := [(.string y.1), (.int .u8 y.2.1), (.int .u32 y.2.2.1)]) rfl Try.underlying26 rfl (by kernel_rfl) (cellsAt_below hel1 hb hlb1)) rfl rfl rfl ?_; clear hf fa; intro fa hf
      refine sqdt hf (d_alloc (z := (.agg #[(.string ⟨#[]⟩), (.int .u8 (0 : Int)), (.int .u32 (0 : Int))])) (cs := #[(.string ⟨#[]⟩), (.int .u8 (0 : Int)), (.int .u32 (0 : Int))]) (by kernel_rfl) rfl) rfl rfl rfl ?_; clear hf fa; rintro fa _ w3 ⟨b1, rfl, hle2, hk1, he2⟩ hf
      have hBb1 : w.heap.size ≤ b1 := Nat.le_trans hb.size hle2
      have : bm1 < b1 := Nat.lt_of_lt_of_le (SetM.lt hmp1) hle2
      replace hmp1 := SetM.ext hmp1 he2
      replace hb := hb.trans (Below.mono he2 hb.size)
      refine sqn hf (d_storeK (T := 26) (v := (.agg #[(.string y.1), (.int .u8 y.2.1), (.int .u32 y.2.2.1)])) (cs := #[(.string ⟨#[]⟩), (.int .u8 (0 : Int)), (.int .u32 (0 : Int))]) (cs' := #[(.string y.1), (.int .u8 y.2.1), (.int .u32 y.2.2.1)]) rfl rfl (by kernel_rfl) (by kernel_rfl) hk1 (by kernel_rfl) (by kernel_rfl)) rfl rfl ?_; clear hf fa; rintro fa _ w4 ⟨hk2, hg1⟩ hf
      replace hmp1 := SetM.grown hmp1 hg1 (by omega)
      replace hb := hb.trans (grown_below hg1 hb.size hBb1)
      apply wpList_nil
      (try simp only [Exit.then, Exit.inBlock, ↓reduceIte, Nat.reduceEqDiff])
      refine hK8 _ _ ?_
      refine wp_seq_k (fun K9 hK9 => ?_)
      refine wp_seq_k (fun K10 hK10 => ?_)
      refine wp_region_lit ?_
      refine sqv hf (r_move rfl) rfl rfl rfl ?_; clear hf fa; intro fa hf
      refine sqv hf (r_fa rfl Try.underlying26 (f := 0) (q := 0) rfl (by kernel_rfl) rfl) rfl rfl rfl ?_; clear hf fa; intro fa hf
      refine sqv hf (r_load (v := (.string y.1)) rfl Try.underlying9 rfl (cell_blk hk2 rfl)) rfl rfl rfl ?_; clear hf fa; intro fa hf
      refine sqv hf (r_lookupS rfl rfl hmp1 Try.underlying155 Try.underlying9 Try.underlying4 (by kernel_rfl) (by first | assumption | (unfold maxLen; omega))) rfl rfl rfl ?_; clear hf fa; intro fa hf
      apply wpList_nil
      (try simp only [Exit.then, Exit.inBlock, ↓reduceIte, Nat.reduceEqDiff])
      refine hK10 _ _ ?_
      refine wp_cond_split (t := (inS (nmsR (L.take k)) y.1)) (hf.ev rfl) (fun hqt17_1 => ?_) (fun hqt17_1 => ?_)
      · have hqt17_1b := hqt17_1
        try simp only [decide_eq_true_eq, Bool.and_eq_true, Bool.or_eq_true, Bool.not_eq_true', decide_eq_false_iff_not, ne_eq, Bool.not_eq_true] at hqt17_1
        refine wp_seq_k (fun K11 hK11 => ?_)
        refine wp_region_lit ?_
        refine sqv hf (r_fa rfl Try.underlying26 (f := 0) (q := 0) rfl (by kernel_rfl) rfl) rfl rfl rfl ?_; clear hf fa; intro fa hf
        refine sqv hf (r_load (v := (.string y.1)) rfl Try.underlying9 rfl (cell_blk hk2 rfl)) rfl rfl rfl ?_; clear hf fa; intro fa hf
        refine sqv hf (r_assign rfl) rfl rfl rfl ?_; clear hf fa; intro fa hf
        refine sqv hf (r_assign rfl) rfl rfl rfl ?_; clear hf fa; intro fa hf
        apply wpList_nil
        (try simp only [Exit.then, Exit.inBlock, ↓reduceIte, Nat.reduceEqDiff])
        refine hK11 _ _ ?_
        refine wp_ret ?_
        (try simp only [Exit.then, Exit.inBlock])
        refine ret2 hf rfl rfl rfl ?_
        refine ⟨congrArg (fun n : ByteArray × Bool => Ending.returned (.tuple #[.string n.1, .bool n.2])) (show (y.1, true) = (twN L, twB L) from ?_), hb⟩; have h := Hs; rw [drop_at hy, twI, if_pos hqt17_1b] at h; unfold twN twB; rw [h]; simp [hy]
      · have hqt17_1b := hqt17_1
        replace hqt17_1 := Bool.eq_false_iff.1 hqt17_1
        try simp only [ne_eq, decide_eq_true_eq, Bool.and_eq_true, Bool.or_eq_true, Bool.not_eq_true', decide_eq_false_iff_not] at hqt17_1
        refine wp_skip ?_
        (try simp only [Exit.then, Exit.inBlock, ↓reduceIte, Nat.reduceEqDiff])
        refine hK9 _ _ ?_
        refine wp_region_lit ?_
        refine sqv hf (r_move rfl) rfl rfl rfl ?_; clear hf fa; intro fa hf
        refine sqv hf (r_fa rfl Try.underlying26 (f := 0) (q := 0) rfl (by kernel_rfl) rfl) rfl rfl rfl ?_; clear hf fa; intro fa hf
        refine sqv hf (r_load (v := (.string y.1)) rfl Try.underlying9 rfl (cell_blk hk2 rfl)) rfl rfl rfl ?_; clear hf fa; intro fa hf
        refine sqn hf (d_mapUpdateS rfl rfl rfl hmp1 Try.underlying155 Try.underlying9 Try.underlying4 (by first | assumption | (unfold maxLen; omega)) (by unfold maxLen; omega)) rfl rfl ?_; clear hf fa; rintro fa _ w5 ⟨hmp2, hg2⟩ hf
        replace hk2 := blk_grown hk2 hg2 (by omega)
        replace hb := hb.trans (grown_below hg2 hb.size hBbm1)
        apply wpList_nil
        (try simp only [Exit.then, Exit.inBlock, ↓reduceIte, Nat.reduceEqDiff])
        refine hK7 _ _ ?_
        refine wp_region_lit ?_
        refine sqv hf (r_add (C := (((k : Nat) : Int) + (1 : Int))) rfl rfl (by rw [IntKind.wrap_i64]; omega)) rfl rfl rfl ?_; clear hf fa; intro fa hf
        refine sqv hf (r_move rfl) rfl rfl rfl ?_; clear hf fa; intro fa hf
        apply wpList_nil
        (try simp only [Exit.then, Exit.inBlock, ↓reduceIte, Nat.reduceEqDiff])
        refine hKL1 _ _ _ (by omega) ⟨(k + 1), rfl, hf.sub ⟨rfl, rfl, rfl, (some_int (by first | rfl | omega)), trivial⟩, hb, by omega, (by have h := Hs; rw [drop_at hy, twI, if_neg (by rw [hqt17_1b]; decide), nmsR_snoc hy] at h; exact h), (by rw [← nmsR_snoc hy]; exact hmp2)⟩
    · have hqt11_1b := hqt11_1
      replace hqt11_1 := Bool.eq_false_iff.1 hqt11_1
      try simp only [ne_eq, decide_eq_true_eq, Bool.and_eq_true, Bool.or_eq_true, Bool.not_eq_true', decide_eq_false_iff_not] at hqt11_1
      refine wp_exit ?_
      (try simp only [Exit.then, Exit.inBlock, ↓reduceIte, Nat.reduceEqDiff])
      refine hK3 _ _ ?_
      refine wp_seq_k (fun K12 hK12 => ?_)
      refine wp_region_lit ?_
      refine sqv hf (r_assign rfl) rfl rfl rfl ?_; clear hf fa; intro fa hf
      refine sqv hf (r_assign rfl) rfl rfl rfl ?_; clear hf fa; intro fa hf
      apply wpList_nil
      (try simp only [Exit.then, Exit.inBlock, ↓reduceIte, Nat.reduceEqDiff])
      refine hK12 _ _ ?_
      refine wp_ret ?_
      (try simp only [Exit.then, Exit.inBlock])
      refine ret2 hf rfl rfl rfl ?_
      refine ⟨congrArg (fun n : ByteArray × Bool => Ending.returned (.tuple #[.string n.1, .bool n.2])) (show (⟨#[]⟩, false) = (twN L, twB L) from ?_), hb⟩; have h := Hs; rw [List.drop_eq_nil_of_le (by omega)] at h; unfold twN twB; rw [h]; rfl
end Go.Proofs.Ytcmdajkkdognfaa
