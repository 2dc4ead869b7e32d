/- What is proved here: imports: Put and Get of one. -/
import Derived.Test.YtcmdajkkdognfaaXiA
namespace Go.Proofs.Ytcmdajkkdognfaa
open Go.RowKit
set_option linter.unusedVariables false
set_option linter.unusedSimpArgs false
def tailI (ip : MImp) : List Int := if ip.2.2.1 = 0 then uL ip.2.2.2.1.toNat else if ip.2.2.1 = 1 then [(112 : Int)] ++ encL ip.2.2.2.2.1 else if ip.2.2.1 = 2 then encL ip.2.2.2.2.1 else encG ip.2.2.2.2.2.1
def encI (ip : MImp) : List Int := nameL ip.1 ++ nameL ip.2.1 ++ [ip.2.2.1] ++ tailI ip
def iputL (ip : MImp) : List Int := if irightP ip = 0 then encI ip else []
def iokE (ip : MImp) : Prop := (0 ≤ ip.2.2.1 ∧ ip.2.2.1 < 256) ∧ (0 ≤ ip.2.2.2.1 ∧ ip.2.2.2.1 < 4294967296) ∧ (0 ≤ ip.2.2.2.2.1.1 ∧ ip.2.2.2.2.1.1 < 4294967296) ∧ (0 ≤ ip.2.2.2.2.1.2.1 ∧ ip.2.2.2.2.1.2.1 < 4294967296) ∧ (0 ≤ ip.2.2.2.2.2.1.1 ∧ ip.2.2.2.2.2.1.1 < 256)
theorem iput_ok {ip : MImp} (h : irightP ip = 0) : iputL ip = encI ip := by unfold iputL; rw [if_pos h]
theorem iput_no {ip : MImp} (h : ¬ irightP ip = 0) : iputL ip = [] := by unfold iputL; rw [if_neg h]
theorem nameL_len {s : ByteArray} (h : s.size ≤ 1000) : 0 < (nameL s).length ∧ (nameL s).length ≤ s.size + 10 := by
  have := uL_len s.size (by omega)
  unfold nameL
  rw [List.length_append, nums_len]
  omega
theorem nameL_rng (s : ByteArray) : ∀ y ∈ nameL s, 0 ≤ y ∧ y < 256 := by
  intro y hy
  unfold nameL at hy
  rcases List.mem_append.1 hy with h | h
  · exact uL_rng _ y h
  · exact nums_rng _ y h
theorem tailI_len {ip : MImp} (h : iokE ip) : (tailI ip).length ≤ 40 := by
  obtain ⟨h1, h2, h3, h4, h5⟩ := h
  have a := uL_len ip.2.2.2.1.toNat (by omega)
  have b := encL_len ip.2.2.2.2.1 h3.2 h4.2
  unfold tailI
  split
  · omega
  · split
    · rw [List.length_append, List.length_cons, List.length_nil]; omega
    · split
      · omega
      · show (2 : Nat) ≤ 40; omega
theorem tailI_rng {ip : MImp} (h : iokE ip) : ∀ y ∈ tailI ip, 0 ≤ y ∧ y < 256 := by
  obtain ⟨h1, h2, h3, h4, h5⟩ := h
  intro y hy
  unfold tailI at hy
  split at hy
  · exact uL_rng _ y hy
  · split at hy
    · rcases List.mem_append.1 hy with h | h
      · rw [List.mem_singleton.1 h]; omega
      · exact encL_rng _ y h
    · split at hy
      · exact encL_rng _ y hy
      · exact encG_rng _ h5 y hy
theorem encI_len {ip : MImp} (h : iokE ip) (hs1 : ip.1.size ≤ 400) (hs2 : ip.2.1.size ≤ 400) : 0 < (encI ip).length ∧ (encI ip).length ≤ 1000 := by
  have a := nameL_len (s := ip.1) (by omega)
  have b := nameL_len (s := ip.2.1) (by omega)
  have c := tailI_len h
  unfold encI
  simp only [List.length_append, List.length_cons, List.length_nil]
  omega
theorem encI_rng {ip : MImp} (h : iokE ip) : ∀ y ∈ encI ip, 0 ≤ y ∧ y < 256 := by
  intro y hy
  unfold encI at hy
  simp only [List.mem_append, List.mem_singleton] at hy
  rcases hy with ((h1 | h1) | rfl) | h1
  · exact nameL_rng _ y h1
  · exact nameL_rng _ y h1
  · exact h.1
  · exact tailI_rng h y h1
theorem iput_len {ip : MImp} (h : iokE ip) (hs1 : ip.1.size ≤ 400) (hs2 : ip.2.1.size ≤ 400) : (iputL ip).length ≤ 1000 := by
  unfold iputL
  split
  · exact (encI_len h hs1 hs2).2
  · simp
theorem encI_form (ip : MImp) : encI ip = (uL (nums ip.1).length ++ nums ip.1) ++ ((uL (nums ip.2.1).length ++ nums ip.2.1) ++ ([ip.2.2.1] ++ tailI ip)) := by
  unfold encI nameL
  rw [nums_len, nums_len]
  simp only [List.append_assoc]
theorem tail0 {ip : MImp} (h : ip.2.2.1 = 0) : tailI ip = uL ip.2.2.2.1.toNat := by unfold tailI; rw [if_pos h]
theorem tail1 {ip : MImp} (h : ip.2.2.1 = 1) : tailI ip = [(112 : Int)] ++ encL ip.2.2.2.2.1 := by unfold tailI; rw [if_neg (by omega), if_pos h]
theorem tail2 {ip : MImp} (h : ip.2.2.1 = 2) : tailI ip = encL ip.2.2.2.2.1 := by unfold tailI; rw [if_neg (by omega), if_neg (by omega), if_pos h]
theorem tail3 {ip : MImp} (h0 : ¬ ip.2.2.1 = 0) (h1 : ¬ ip.2.2.1 = 1) (h2 : ¬ ip.2.2.1 = 2) : tailI ip = encG ip.2.2.2.2.2.1 := by unfold tailI; rw [if_neg h0, if_neg h1, if_neg h2]

set_option maxHeartbeats 1000000 in
set_option maxRecDepth 100000 in
theorem iput_any (ip : MImp) (w : World) (hs1 : ip.1.size ≤ 400) (hs2 : ip.2.1.size ≤ 400) (hok : iokE ip) : Calls Try.prog 97 #[(.agg #[(.string ip.1), (.string ip.2.1), (.int .u8 ip.2.2.1), (.int .u32 ip.2.2.2.1), (.int .u32 ip.2.2.2.2.1.1), (.int .u32 ip.2.2.2.2.1.2.1), (.bool ip.2.2.2.2.1.2.2.1), (.int .u8 ip.2.2.2.2.2.1.1), (.bool ip.2.2.2.2.2.1.2.1)])] w fun e w' => ∃ u, e = .returned u ∧ ∃ a c, u = .tuple #[.slice a (iputL ip).length c, .int .i64 (irightP ip)] ∧ Row 1 (vInt .u8) 5 w.heap.size w' (.slice a (iputL ip).length c) (iputL ip) ∧ Below w.heap.size w w' := by
  obtain ⟨hok1, hok2, hok3, hok4, hok5⟩ := hok; have hn1 := nameL_len (s := ip.1) (by omega); have hn2 := nameL_len (s := ip.2.1) (by omega); have huT := uL_len ip.2.2.2.1.toNat (by omega); have hlL := encL_len ip.2.2.2.2.1 hok3.2 hok4.2; have hgL : (encG ip.2.2.2.2.2.1).length = 2 := rfl
  refine sx_enter (L := [(0, (.agg #[(.string ip.1), (.string ip.2.1), (.int .u8 ip.2.2.1), (.int .u32 ip.2.2.2.1), (.int .u32 ip.2.2.2.2.1.1), (.int .u32 ip.2.2.2.2.1.2.1), (.bool ip.2.2.2.2.1.2.2.1), (.int .u8 ip.2.2.2.2.2.1.1), (.bool ip.2.2.2.2.2.1.2.1)]))]) Try.func97 rfl rfl rfl rfl (fun fa hf => ?_)
  have hb : Below w.heap.size w w := Below.refl _ _
  refine wp_seq_k (fun K1 hK1 => ?_)
  refine wp_region_lit ?_
  refine sqdt hf (d_box (cs := #[(.string ip.1), (.string ip.2.1), (.int .u8 ip.2.2.1), (.int .u32 ip.2.2.2.1), (.int .u32 ip.2.2.2.2.1.1), (.int .u32 ip.2.2.2.2.1.2.1), (.bool ip.2.2.2.2.1.2.2.1), (.int .u8 ip.2.2.2.2.2.1.1), (.bool ip.2.2.2.2.2.1.2.1)]) rfl rfl) rfl rfl rfl ?_; clear hf fa; rintro fa _ w1 ⟨b1, rfl, hle1, hk1, he1⟩ hf
  have hBb1 : w.heap.size ≤ b1 := Nat.le_trans hb.size hle1
  replace hb := hb.trans (Below.mono he1 hb.size)
  refine sqv hf (r_assign rfl) rfl rfl rfl ?_; clear hf fa; intro fa hf
  refine sqv hf (r_assign rfl) rfl rfl rfl ?_; clear hf fa; intro fa hf
  apply wpList_nil
  (try simp only [Exit.then, Exit.inBlock, ↓reduceIte, Nat.reduceEqDiff])
  refine hK1 _ _ ?_
  refine wp_seq_k (fun K2 hK2 => ?_)
  refine wp_seq_k (fun K3 hK3 => ?_)
  refine wp_region_lit ?_
  refine sqv hf (r_loadA (cs := [(.string ip.1), (.string ip.2.1), (.int .u8 ip.2.2.1), (.int .u32 ip.2.2.2.1), (.int .u32 ip.2.2.2.2.1.1), (.int .u32 ip.2.2.2.2.1.2.1), (.bool ip.2.2.2.2.1.2.2.1), (.int .u8 ip.2.2.2.2.2.1.1), (.bool ip.2.2.2.2.2.1.2.1)]) rfl Try.underlying81 rfl (by kernel_rfl) (cellsAt_blk hk1)) rfl rfl rfl ?_; clear hf fa; intro fa hf
  refine sqdt hf (d_callB (vs := [(.agg #[(.string ip.1), (.string ip.2.1), (.int .u8 ip.2.2.1), (.int .u32 ip.2.2.2.1), (.int .u32 ip.2.2.2.2.1.1), (.int .u32 ip.2.2.2.2.1.2.1), (.bool ip.2.2.2.2.1.2.2.1), (.int .u8 ip.2.2.2.2.2.1.1), (.bool ip.2.2.2.2.2.1.2.1)])]) rfl Try.func98 (by kernel_rfl) (by kernel_rfl) (iright_any ip _ hs1 hs2)) rfl rfl rfl ?_; clear hf fa; rintro fa _ w2 ⟨rfl, he2⟩ hf
  replace hk1 := blk_ext hk1 he2
  replace hb := hb.trans (Below.mono he2 hb.size)
  refine sqv hf (r_assign rfl) rfl rfl rfl ?_; clear hf fa; intro fa hf
  apply wpList_nil
  (try simp only [Exit.then, Exit.inBlock, ↓reduceIte, Nat.reduceEqDiff])
  refine hK3 _ _ ?_
  refine wp_seq_k (fun K4 hK4 => ?_)
  refine wp_region_lit ?_
  refine sqv hf (r_move rfl) rfl rfl rfl ?_; clear hf fa; intro fa hf
  refine sqv hf (r_ne rfl rfl) rfl rfl rfl ?_; clear hf fa; intro fa hf
  apply wpList_nil
  (try simp only [Exit.then, Exit.inBlock, ↓reduceIte, Nat.reduceEqDiff])
  refine hK4 _ _ ?_
  refine wp_cond_split (t := (decide (((irightP ip)) ≠ (0 : Int)))) (hf.ev rfl) (fun hqt9_1 => ?_) (fun hqt9_1 => ?_)
  · have hqt9_1b := hqt9_1
    try simp only [decide_eq_true_eq, Bool.and_eq_true, Bool.or_eq_true, Bool.not_eq_true', decide_eq_false_iff_not, ne_eq, Bool.not_eq_true] at hqt9_1
    refine wp_seq_k (fun K5 hK5 => ?_)
    refine wp_region_lit ?_
    refine sqv hf (r_move rfl) rfl rfl rfl ?_; clear hf fa; intro fa hf
    refine sqv hf (r_assign rfl) rfl rfl rfl ?_; clear hf fa; intro fa hf
    refine sqv hf (r_assign rfl) rfl rfl rfl ?_; clear hf fa; intro fa hf
    apply wpList_nil
    (try simp only [Exit.then, Exit.inBlock, ↓reduceIte, Nat.reduceEqDiff])
    refine hK5 _ _ ?_
    refine wp_ret ?_
    (try simp only [Exit.then, Exit.inBlock])
    refine ret2 hf rfl rfl rfl ?_
    have hne : ¬ irightP ip = 0 := hqt9_1
    rw [iput_no hne]
    exact ⟨_, rfl, none, 0, rfl, Row.nil, hb⟩
  · have hqt9_1b := hqt9_1
    replace hqt9_1 := Bool.eq_false_iff.1 hqt9_1
    try simp only [ne_eq, decide_eq_true_eq, Bool.and_eq_true, Bool.or_eq_true, Bool.not_eq_true', decide_eq_false_iff_not] at hqt9_1
    refine wp_skip ?_
    (try simp only [Exit.then, Exit.inBlock, ↓reduceIte, Nat.reduceEqDiff])
    refine hK2 _ _ ?_
    refine wp_seq_k (fun K6 hK6 => ?_)
    have hz : irightP ip = 0 := by have h := hqt9_1; omega
    refine wp_region_vnT 10 (fun _ wq => Below w2.heap.size w2 wq)
      (fun V S => [(fun x _ => x = (.pointer (some ⟨b1, 0, none⟩))), (fun x _ => x = (.string ip.1)), (fun x wq => ∃ b, (∃ c, x = .slice (some ⟨b, 0, none⟩) (((nameL ip.1)).length) c) ∧ w2.heap.size ≤ b ∧ (¬ S 6 → Row 1 (vInt .u8) 5 w2.heap.size wq x (nameL ip.1))), (fun x _ => x = (.pointer (some ⟨b1, 1, none⟩))), (fun x _ => x = (.string ip.2.1)), (fun x wq => ∃ b, (∃ c, x = .slice (some ⟨b, 0, none⟩) (((nameL ip.2.1)).length) c) ∧ w2.heap.size ≤ b ∧ (¬ S 6 → Row 1 (vInt .u8) 5 w2.heap.size wq x (nameL ip.2.1))), (fun x wq => ∃ b, (∃ c, x = .slice (some ⟨b, 0, none⟩) ((nameL ip.1) ++ (nameL ip.2.1)).length c) ∧ w2.heap.size ≤ b ∧ Row 1 (vInt .u8) 5 w2.heap.size wq x ((nameL ip.1) ++ (nameL ip.2.1))), (fun x _ => x = (.pointer (some ⟨b1, 2, none⟩))), (fun x _ => x = (.int .u8 ip.2.2.1)), (fun x wq => ∃ b, x = .slice (some ⟨b, 0, none⟩) 1 1 ∧ w2.heap.size ≤ b ∧ wq.heap[b]? = some (.cells #[(.int .u8 ip.2.2.1)] 5 (0, 0)))])
      [2, 5, 9]
      [[], [0], [1], [], [3], [2, 4], [2, 5], [], [7], [8], [], []]
      hf (by kernel_rfl) (by kernel_rfl) (by kernel_rfl) (fun _ _ => rfl) (fun _ _ => (Below.refl _ _).drew) (fun _ _ _ _ _ _ => rfl) ?_ ?_
    · skip
      intro V
      have hKP : ∀ (i : Nat) (S : Nat → Prop) (wk : World), (∀ q ∈ ([6] : List Nat), q ≠ i) → ∀ j v w', (((fun (S : Nat → Prop) => ([(fun x _ => x = (.pointer (some ⟨b1, 0, none⟩))), (fun x _ => x = (.string ip.1)), (fun x wq => ∃ b, (∃ c, x = .slice (some ⟨b, 0, none⟩) (((nameL ip.1)).length) c) ∧ w2.heap.size ≤ b ∧ (¬ S 6 → Row 1 (vInt .u8) 5 w2.heap.size wq x (nameL ip.1))), (fun x _ => x = (.pointer (some ⟨b1, 1, none⟩))), (fun x _ => x = (.string ip.2.1)), (fun x wq => ∃ b, (∃ c, x = .slice (some ⟨b, 0, none⟩) (((nameL ip.2.1)).length) c) ∧ w2.heap.size ≤ b ∧ (¬ S 6 → Row 1 (vInt .u8) 5 w2.heap.size wq x (nameL ip.2.1))), (fun x wq => ∃ b, (∃ c, x = .slice (some ⟨b, 0, none⟩) ((nameL ip.1) ++ (nameL ip.2.1)).length c) ∧ w2.heap.size ≤ b ∧ Row 1 (vInt .u8) 5 w2.heap.size wq x ((nameL ip.1) ++ (nameL ip.2.1))), (fun x _ => x = (.pointer (some ⟨b1, 2, none⟩))), (fun x _ => x = (.int .u8 ip.2.2.1)), (fun x wq => ∃ b, x = .slice (some ⟨b, 0, none⟩) 1 1 ∧ w2.heap.size ≤ b ∧ wq.heap[b]? = some (.cells #[(.int .u8 ip.2.2.1)] 5 (0, 0)))] : List (Value → World → Prop))) S).getD j (fun _ _ => True)) v wk → Below wk.heap.size wk w' → (((fun (S : Nat → Prop) => ([(fun x _ => x = (.pointer (some ⟨b1, 0, none⟩))), (fun x _ => x = (.string ip.1)), (fun x wq => ∃ b, (∃ c, x = .slice (some ⟨b, 0, none⟩) (((nameL ip.1)).length) c) ∧ w2.heap.size ≤ b ∧ (¬ S 6 → Row 1 (vInt .u8) 5 w2.heap.size wq x (nameL ip.1))), (fun x _ => x = (.pointer (some ⟨b1, 1, none⟩))), (fun x _ => x = (.string ip.2.1)), (fun x wq => ∃ b, (∃ c, x = .slice (some ⟨b, 0, none⟩) (((nameL ip.2.1)).length) c) ∧ w2.heap.size ≤ b ∧ (¬ S 6 → Row 1 (vInt .u8) 5 w2.heap.size wq x (nameL ip.2.1))), (fun x wq => ∃ b, (∃ c, x = .slice (some ⟨b, 0, none⟩) ((nameL ip.1) ++ (nameL ip.2.1)).length c) ∧ w2.heap.size ≤ b ∧ Row 1 (vInt .u8) 5 w2.heap.size wq x ((nameL ip.1) ++ (nameL ip.2.1))), (fun x _ => x = (.pointer (some ⟨b1, 2, none⟩))), (fun x _ => x = (.int .u8 ip.2.2.1)), (fun x wq => ∃ b, x = .slice (some ⟨b, 0, none⟩) 1 1 ∧ w2.heap.size ≤ b ∧ wq.heap[b]? = some (.cells #[(.int .u8 ip.2.2.1)] 5 (0, 0)))] : List (Value → World → Prop))) (ad i S)).getD j (fun _ _ => True)) v w' := by
        intro i S wk hi j v w' h hB
        match j with
        | 0 =>
          exact h
        | 1 =>
          exact h
        | 2 =>
          obtain ⟨b, e1, e2, e3⟩ := h
          exact ⟨b, e1, e2, fun hn => Row.ext (e3 (fun hs => hn (.inr hs))) hB⟩
        | 3 =>
          exact h
        | 4 =>
          exact h
        | 5 =>
          obtain ⟨b, e1, e2, e3⟩ := h
          exact ⟨b, e1, e2, fun hn => Row.ext (e3 (fun hs => hn (.inr hs))) hB⟩
        | 6 =>
          obtain ⟨b, e1, e2, e3⟩ := h
          exact ⟨b, e1, e2, Row.ext e3 hB⟩
        | 7 =>
          exact h
        | 8 =>
          exact h
        | 9 =>
          obtain ⟨b, e1, e2, e3⟩ := h
          exact ⟨b, e1, e2, blk_ext e3 hB⟩
        | _ + 10 => trivial
      refine ⟨fun S wu0 hC hS hd hi => ?_, ?_⟩
      · skip
        replace hC : Below w2.heap.size w2 wu0 := hC
        refine uv_plain (C := (fun _ wq => Below w2.heap.size w2 wq)) (hKP 0 S wu0 (by decide)) (fun _ h1 h2 => Below.trans h1 (Below.mono h2 (Below.size h1))) hC hS ?_
        replace hb := hb.trans (hC.mono hb.size)
        replace hk1 := blk_ext hk1 hC
        exact Runs.does (r_fa rfl Try.underlying81 (f := 0) (q := 0) rfl (by kernel_rfl) rfl) ⟨Below.refl _ _, rfl, nofr rfl⟩
      refine ⟨fun S wu1 hC hS hd hi => ?_, ?_⟩
      · skip
        replace hC : Below w2.heap.size w2 wu1 := hC
        refine uv_plain (C := (fun _ wq => Below w2.heap.size w2 wq)) (hKP 1 S wu1 (by decide)) (fun _ h1 h2 => Below.trans h1 (Below.mono h2 (Below.size h1))) hC hS ?_
        have h0 := hS.post 0 (hd 0 (by decide))
        replace h0 : V 0 = (.pointer (some ⟨b1, 0, none⟩)) := h0
        replace hb := hb.trans (hC.mono hb.size)
        replace hk1 := blk_ext hk1 hC
        exact Runs.does (r_load (v := (.string ip.1)) (congrArg some h0) Try.underlying9 rfl (cell_blk hk1 rfl)) ⟨Below.refl _ _, rfl, nofr rfl⟩
      refine ⟨fun S wu2 hC hS hd hi => ?_, ?_⟩
      · skip
        replace hC : Below w2.heap.size w2 wu2 := hC
        refine uv_plain (C := (fun _ wq => Below w2.heap.size w2 wq)) (hKP 2 S wu2 (by decide)) (fun _ h1 h2 => Below.trans h1 (Below.mono h2 (Below.size h1))) hC hS ?_
        have h1 := hS.post 1 (hd 1 (by decide))
        replace h1 : V 1 = (.string ip.1) := h1
        replace hb := hb.trans (hC.mono hb.size)
        replace hk1 := blk_ext hk1 hC
        refine Does.mono (d_callX (vs := [(.string ip.1)]) (show [some (V 1)] = [some (.string ip.1)] from by rw [h1]) Try.func142 (by kernel_rfl) (by kernel_rfl) (name_any ip.1 _ (by omega))) ?_
        rintro _ w' ⟨hF2, hF3⟩
        obtain ⟨ra, rc, rfl, _, _⟩ := Row.slice hF2
        obtain ⟨b, rfl, hF, hF4⟩ := Row.some hF2 (by first | omega | (simp only [Sl.list_length, List.length_set, List.length_take, List.length_append, List.length_replicate, List.length_cons, List.length_nil, List.length_map, nums_len]; omega))
        exact ⟨hF3, ⟨b, ⟨rc, rfl⟩, Nat.le_trans hC.size hF, fun _ => hF2.rebase hC.size⟩, isfr rfl hF (Row.lt hF2 _ rfl).2⟩
      refine ⟨fun S wu3 hC hS hd hi => ?_, ?_⟩
      · skip
        replace hC : Below w2.heap.size w2 wu3 := hC
        refine uv_plain (C := (fun _ wq => Below w2.heap.size w2 wq)) (hKP 3 S wu3 (by decide)) (fun _ h1 h2 => Below.trans h1 (Below.mono h2 (Below.size h1))) hC hS ?_
        replace hb := hb.trans (hC.mono hb.size)
        replace hk1 := blk_ext hk1 hC
        exact Runs.does (r_fa rfl Try.underlying81 (f := 1) (q := 1) rfl (by kernel_rfl) rfl) ⟨Below.refl _ _, rfl, nofr rfl⟩
      refine ⟨fun S wu4 hC hS hd hi => ?_, ?_⟩
      · skip
        replace hC : Below w2.heap.size w2 wu4 := hC
        refine uv_plain (C := (fun _ wq => Below w2.heap.size w2 wq)) (hKP 4 S wu4 (by decide)) (fun _ h1 h2 => Below.trans h1 (Below.mono h2 (Below.size h1))) hC hS ?_
        have h3 := hS.post 3 (hd 3 (by decide))
        replace h3 : V 3 = (.pointer (some ⟨b1, 1, none⟩)) := h3
        replace hb := hb.trans (hC.mono hb.size)
        replace hk1 := blk_ext hk1 hC
        exact Runs.does (r_load (v := (.string ip.2.1)) (congrArg some h3) Try.underlying9 rfl (cell_blk hk1 rfl)) ⟨Below.refl _ _, rfl, nofr rfl⟩
      refine ⟨fun S wu5 hC hS hd hi => ?_, ?_⟩
      · skip
        replace hC : Below w2.heap.size w2 wu5 := hC
        refine uv_plain (C := (fun _ wq => Below w2.heap.size w2 wq)) (hKP 5 S wu5 (by decide)) (fun _ h1 h2 => Below.trans h1 (Below.mono h2 (Below.size h1))) hC hS ?_
        have h2 := hS.post 2 (hd 2 (by decide))
        obtain ⟨mb1, ⟨mc1, h2⟩, hle2, hr1⟩ := h2
        replace hr1 := hr1 (fun h => hi (hS.down 6 h 5 (by decide)))
        rw [h2] at hr1
        have h4 := hS.post 4 (hd 4 (by decide))
        replace h4 : V 4 = (.string ip.2.1) := h4
        replace hb := hb.trans (hC.mono hb.size)
        replace hk1 := blk_ext hk1 hC
        refine Does.mono (d_callX (vs := [(.string ip.2.1)]) (show [some (V 4)] = [some (.string ip.2.1)] from by rw [h4]) Try.func142 (by kernel_rfl) (by kernel_rfl) (name_any ip.2.1 _ (by omega))) ?_
        rintro _ w' ⟨hF2, hF3⟩
        obtain ⟨ra, rc, rfl, _, _⟩ := Row.slice hF2
        obtain ⟨b, rfl, hF, hF4⟩ := Row.some hF2 (by first | omega | (simp only [Sl.list_length, List.length_set, List.length_take, List.length_append, List.length_replicate, List.length_cons, List.length_nil, List.length_map, nums_len]; omega))
        exact ⟨hF3, ⟨b, ⟨rc, rfl⟩, Nat.le_trans hC.size hF, fun _ => hF2.rebase hC.size⟩, isfr rfl hF (Row.lt hF2 _ rfl).2⟩
      refine ⟨fun S wu6 hC hS hd hi => ?_, ?_⟩
      · skip
        replace hC : Below w2.heap.size w2 wu6 := hC
        have h2 := hS.post 2 (hd 2 (by decide))
        obtain ⟨mb1, ⟨mc1, h2⟩, hle2, hr1⟩ := h2
        replace hr1 := hr1 hi
        rw [h2] at hr1
        have h5 := hS.post 5 (hd 5 (by decide))
        obtain ⟨mb2, ⟨mc2, h5⟩, hle3, hr2⟩ := h5
        replace hr2 := hr2 hi
        rw [h5] at hr2
        replace hb := hb.trans (hC.mono hb.size)
        replace hk1 := blk_ext hk1 hC
        refine Does.mono (d_append (V := (vInt .u8)) (k := 1) (e := 5) (bytes := 1) (z := (.int .u8 (0 : Int))) (news := (nameL ip.2.1)) (base := w2.heap.size) (by intros; rfl) (by intro x u hu; simp only [vInt, List.mem_singleton] at hu; subst hu; rfl) (congrArg some h2) (congrArg some h5) Try.underlying47 (by kernel_rfl) rfl rfl rfl hr1 (Row.rd (by intros; rfl) hr2) rfl (fun h => by cases h) (by first | omega | (simp only [List.length_cons, List.length_nil, List.length_append, nums_len]; omega)) hC.size) ?_
        rintro v' wz ⟨hY, hgY⟩
        obtain ⟨ra, rc, rfl, _, _⟩ := Row.slice hY
        obtain ⟨br, rfl, hbr, _⟩ := Row.some hY (by first | omega | (simp only [Sl.list_length, List.length_set, List.length_take, List.length_append, List.length_replicate, List.length_cons, List.length_nil, List.length_map, nums_len]; omega))
        refine ⟨⟨hC.trans (row_below hr1 hgY hC.size (Nat.le_refl _)), fun j hj => ?_, hgY.size⟩, ⟨br, ⟨rc, rfl⟩, hbr, hY⟩, nofr rfl⟩
        match j with
        | 0 =>
          exact hS.post 0 hj
        | 1 =>
          exact hS.post 1 hj
        | 2 =>
          exact ⟨mb1, ⟨mc1, h2⟩, hle2, fun hn => absurd (.inl rfl) hn⟩
        | 3 =>
          exact hS.post 3 hj
        | 4 =>
          exact hS.post 4 hj
        | 5 =>
          exact ⟨mb2, ⟨mc2, h5⟩, hle3, fun hn => absurd (.inl rfl) hn⟩
        | 6 =>
          exact absurd hj hi
        | 7 =>
          exact hS.post 7 hj
        | 8 =>
          exact hS.post 8 hj
        | 9 =>
          obtain ⟨c, e1, e2, e3⟩ := hS.post 9 hj
          have hne : c ≠ mb1 := fun e => hS.ne 9 2 rfl rfl (by decide) hj (hd 2 (by decide)) (by rw [e1, h2, e] <;> rfl)
          exact ⟨c, e1, e2, blk_grown e3 hgY hne⟩
        | _ + 10 => trivial
      refine ⟨fun S wu7 hC hS hd hi => ?_, ?_⟩
      · skip
        replace hC : Below w2.heap.size w2 wu7 := hC
        refine uv_plain (C := (fun _ wq => Below w2.heap.size w2 wq)) (hKP 7 S wu7 (by decide)) (fun _ h1 h2 => Below.trans h1 (Below.mono h2 (Below.size h1))) hC hS ?_
        replace hb := hb.trans (hC.mono hb.size)
        replace hk1 := blk_ext hk1 hC
        exact Runs.does (r_fa rfl Try.underlying81 (f := 2) (q := 2) rfl (by kernel_rfl) rfl) ⟨Below.refl _ _, rfl, nofr rfl⟩
      refine ⟨fun S wu8 hC hS hd hi => ?_, ?_⟩
      · skip
        replace hC : Below w2.heap.size w2 wu8 := hC
        refine uv_plain (C := (fun _ wq => Below w2.heap.size w2 wq)) (hKP 8 S wu8 (by decide)) (fun _ h1 h2 => Below.trans h1 (Below.mono h2 (Below.size h1))) hC hS ?_
        have h7 := hS.post 7 (hd 7 (by decide))
        replace h7 : V 7 = (.pointer (some ⟨b1, 2, none⟩)) := h7
        replace hb := hb.trans (hC.mono hb.size)
        replace hk1 := blk_ext hk1 hC
        exact Runs.does (r_load (v := (.int .u8 ip.2.2.1)) (congrArg some h7) Try.underlying5 rfl (cell_blk hk1 rfl)) ⟨Below.refl _ _, rfl, nofr rfl⟩
      refine ⟨fun S wu9 hC hS hd hi => ?_, ?_⟩
      · skip
        replace hC : Below w2.heap.size w2 wu9 := hC
        refine uv_plain (C := (fun _ wq => Below w2.heap.size w2 wq)) (hKP 9 S wu9 (by decide)) (fun _ h1 h2 => Below.trans h1 (Below.mono h2 (Below.size h1))) hC hS ?_
        have h8 := hS.post 8 (hd 8 (by decide))
        replace h8 : V 8 = (.int .u8 ip.2.2.1) := h8
        replace hb := hb.trans (hC.mono hb.size)
        replace hk1 := blk_ext hk1 hC
        refine Does.mono (d_bslice (z := (.int .u8 (0 : Int))) (sz := 1) (vs := [(0, (.int .u8 ip.2.2.1))]) (cs := #[(.int .u8 ip.2.2.1)]) (show [(0, some (V 8))] = [(0, some (.int .u8 ip.2.2.1))] from by rw [h8]) Try.underlying47 (by kernel_rfl) rfl (by kernel_rfl)) ?_
        rintro _ w' ⟨b, rfl, hF⟩
        exact ⟨hF.2.2, ⟨b, rfl, Nat.le_trans hC.size hF.1, hF.2.1⟩, isfr rfl hF.1 (blk_lt hF.2.1)⟩
      trivial
    · skip
      clear hf fa; intro V S w3 fa hall he3 hp hnb hf
      have hv0 := postsHold_at hp 0 rfl
      replace hv0 : V 0 = (.pointer (some ⟨b1, 0, none⟩)) := hv0
      have hv1 := postsHold_at hp 1 rfl
      replace hv1 : V 1 = (.string ip.1) := hv1
      have hv2 := postsHold_at hp 2 rfl
      obtain ⟨mb1, ⟨mc1, hv2⟩, hle2, hr1⟩ := hv2
      clear hr1
      have hBmb1 : w.heap.size ≤ mb1 := Nat.le_trans hb.size hle2
      have hv3 := postsHold_at hp 3 rfl
      replace hv3 : V 3 = (.pointer (some ⟨b1, 1, none⟩)) := hv3
      have hv4 := postsHold_at hp 4 rfl
      replace hv4 : V 4 = (.string ip.2.1) := hv4
      have hv5 := postsHold_at hp 5 rfl
      obtain ⟨mb2, ⟨mc2, hv5⟩, hle3, hr2⟩ := hv5
      clear hr2
      have hBmb2 : w.heap.size ≤ mb2 := Nat.le_trans hb.size hle3
      have hv6 := postsHold_at hp 6 rfl
      obtain ⟨mb3, ⟨mc3, hv6⟩, hle4, hr3⟩ := hv6
      rw [hv6] at hr3
      replace hr3 := Row.rebase hr3 hb.size
      have hcmc3 := Row.caps hr3
      have hBmb3 : w.heap.size ≤ mb3 := Nat.le_trans hb.size hle4
      have hv7 := postsHold_at hp 7 rfl
      replace hv7 : V 7 = (.pointer (some ⟨b1, 2, none⟩)) := hv7
      have hv8 := postsHold_at hp 8 rfl
      replace hv8 : V 8 = (.int .u8 ip.2.2.1) := hv8
      have hv9 := postsHold_at hp 9 rfl
      obtain ⟨b2, hv9, hle5, hk2⟩ := hv9
      have hBb2 : w.heap.size ≤ b2 := Nat.le_trans hb.size hle5
      simp only [List.take_succ_cons, List.take_zero, insAll, ins, hv0, hv1, hv2, hv3, hv4, hv5, hv6, hv7, hv8, hv9] at hf
      have : mb1 ≠ mb2 := two_blk (i := 2) (j := 5) hnb rfl rfl rfl rfl rfl (by rw [hv2]; rfl) (by rw [hv5]; rfl)
      have : mb1 ≠ b2 := two_blk (i := 2) (j := 9) hnb rfl rfl rfl rfl rfl (by rw [hv2]; rfl) (by rw [hv9]; rfl)
      have : mb2 ≠ b2 := two_blk (i := 5) (j := 9) hnb rfl rfl rfl rfl rfl (by rw [hv5]; rfl) (by rw [hv9]; rfl)
      have : b1 < mb1 := Nat.lt_of_lt_of_le (blk_lt hk1) hle2
      have : b1 < mb2 := Nat.lt_of_lt_of_le (blk_lt hk1) hle3
      have : b1 < b2 := Nat.lt_of_lt_of_le (blk_lt hk1) hle5
      clear hp hnb hall hv0 hv1 hv2 hv3 hv4 hv5 hv6 hv7 hv8 hv9
      replace hk1 := blk_ext hk1 he3
      replace hb := hb.trans (Below.mono he3 hb.size)
      simp only [List.drop_succ_cons, List.drop_zero]
      have hs1 := Row.rd (by intros; rfl) (Row.of_new (k := 1) (V := (vInt .u8)) (l := [ip.2.2.1]) hk2 (Nat.le_refl _) rfl rfl (Nat.le_of_ble_eq_true rfl))
      refine sqdt hf (d_append (V := (vInt .u8)) (k := 1) (e := 5) (bytes := 1) (z := (.int .u8 (0 : Int))) (news := [ip.2.2.1]) (base := w.heap.size) (by intros; rfl) (by intro x u hu; simp only [vInt, List.mem_singleton] at hu; subst hu; rfl) rfl rfl Try.underlying47 (by kernel_rfl) rfl rfl rfl hr3 hs1 rfl (fun h => by cases h) (by first | omega | (simp only [List.length_cons, List.length_nil, List.length_append, nums_len]; omega)) (by have := hb.size; omega)) rfl rfl rfl ?_; clear hf fa; rintro fa v w4 ⟨hr4, hg1⟩ hf; obtain ⟨ra1, rc1, rfl, hcrc1, hmrc1⟩ := Row.slice hr4
      replace hk1 := blk_row' hk1 hg1 (Row.ne_type hr3 hk1 rfl)
      replace hb := hb.trans (row_below hr3 hg1 hb.size (by have := hb.size; omega))
      refine sqv hf (r_assign rfl) rfl rfl rfl ?_; clear hf fa; intro fa hf
      apply wpList_nil
      (try simp only [Exit.then, Exit.inBlock, ↓reduceIte, Nat.reduceEqDiff])
      refine hK6 _ _ ?_
      refine wp_seq_k (fun K7 hK7 => ?_)
      refine wp_seq_k (fun K8 hK8 => ?_)
      refine wp_region_lit ?_
      refine sqv hf (r_fa rfl Try.underlying81 (f := 2) (q := 2) rfl (by kernel_rfl) rfl) rfl rfl rfl ?_; clear hf fa; intro fa hf
      refine sqv hf (r_load (v := (.int .u8 ip.2.2.1)) rfl Try.underlying5 rfl (cell_blk hk1 rfl)) rfl rfl rfl ?_; clear hf fa; intro fa hf
      apply wpList_nil
      (try simp only [Exit.then, Exit.inBlock, ↓reduceIte, Nat.reduceEqDiff])
      refine hK8 _ _ ?_
      refine wp_block ?_
      refine wp_seq_k (fun K9 hK9 => ?_)
      refine wp_region_lit ?_
      refine sqv hf (r_eq rfl rfl) rfl rfl rfl ?_; clear hf fa; intro fa hf
      refine sqv hf (r_assign rfl) rfl rfl rfl ?_; clear hf fa; intro fa hf
      apply wpList_nil
      (try simp only [Exit.then, Exit.inBlock, ↓reduceIte, Nat.reduceEqDiff])
      refine hK9 _ _ ?_
      refine wp_cond_split (t := (decide (ip.2.2.1 = (0 : Int)))) (hf.ev rfl) (fun hqt29_1 => ?_) (fun hqt29_1 => ?_)
      · have hqt29_1b := hqt29_1
        try simp only [decide_eq_true_eq, Bool.and_eq_true, Bool.or_eq_true, Bool.not_eq_true', decide_eq_false_iff_not, ne_eq, Bool.not_eq_true] at hqt29_1
        refine wp_region_lit ?_
        refine sqv hf (r_move rfl) rfl rfl rfl ?_; clear hf fa; intro fa hf
        refine sqv hf (r_fa rfl Try.underlying81 (f := 3) (q := 3) rfl (by kernel_rfl) rfl) rfl rfl rfl ?_; clear hf fa; intro fa hf
        refine sqv hf (r_load (v := (.int .u32 ip.2.2.2.1)) rfl Try.underlying24 rfl (cell_blk hk1 rfl)) rfl rfl rfl ?_; clear hf fa; intro fa hf
        refine sqv hf (r_conv (C := ip.2.2.2.1) rfl Try.underlying24 Try.underlying55 (by rw [IntKind.wrap_u64]; omega)) rfl rfl rfl ?_; clear hf fa; intro fa hf
        refine sqdt hf (d_callX (vs := [(.int .u64 ip.2.2.2.1)]) rfl Try.func110 (by kernel_rfl) (by kernel_rfl) (uint_rowI ip.2.2.2.1 (by omega) (by omega) _)) rfl rfl rfl ?_; clear hf fa; rintro fa v w5 ⟨hr5, he4⟩ hf; obtain ⟨ra2, rc2, rfl, hcrc2, hmrc2⟩ := Row.slice hr5
        replace hr5 := Row.rebase hr5 hb.size
        replace hk1 := blk_ext hk1 he4
        replace hr4 := Row.ext hr4 he4
        replace hb := hb.trans (Below.mono he4 hb.size)
        refine sqdt hf (d_append (V := (vInt .u8)) (k := 1) (e := 5) (bytes := 1) (z := (.int .u8 (0 : Int))) (news := (uL ip.2.2.2.1.toNat)) (base := w.heap.size) (by intros; rfl) (by intro x u hu; simp only [vInt, List.mem_singleton] at hu; subst hu; rfl) rfl rfl Try.underlying47 (by kernel_rfl) rfl rfl rfl hr4 (Row.rd (by intros; rfl) hr5) rfl (fun h => Row.nocap hr5 h) (by first | omega | (simp only [List.length_cons, List.length_nil, List.length_append, nums_len]; omega)) (by have := hb.size; omega)) rfl rfl rfl ?_; clear hf fa; rintro fa v w6 ⟨hr6, hg2⟩ hf; obtain ⟨ra3, rc3, rfl, hcrc3, hmrc3⟩ := Row.slice hr6
        replace hk1 := blk_row' hk1 hg2 (Row.ne_type hr4 hk1 rfl)
        replace hb := hb.trans (row_below hr4 hg2 hb.size (by have := hb.size; omega))
        refine sqv hf (r_assign rfl) rfl rfl rfl ?_; clear hf fa; intro fa hf
        apply wpList_nil
        (try simp only [Exit.then, Exit.inBlock, ↓reduceIte, Nat.reduceEqDiff])
        refine hK7 _ _ ?_
        refine wp_seq_k (fun K10 hK10 => ?_)
        refine wp_region_lit ?_
        refine sqv hf (r_move rfl) rfl rfl rfl ?_; clear hf fa; intro fa hf
        refine sqv hf (r_assign rfl) rfl rfl rfl ?_; clear hf fa; intro fa hf
        refine sqv hf (r_assign rfl) rfl rfl rfl ?_; clear hf fa; intro fa hf
        apply wpList_nil
        (try simp only [Exit.then, Exit.inBlock, ↓reduceIte, Nat.reduceEqDiff])
        refine hK10 _ _ ?_
        refine wp_ret ?_
        (try simp only [Exit.then, Exit.inBlock])
        refine ret2 hf rfl rfl rfl ?_
        have hE : ((((nameL ip.1) ++ (nameL ip.2.1)) ++ [ip.2.2.1]) ++ (uL ip.2.2.2.1.toNat)) = iputL ip := by rw [iput_ok hz, encI, tail0 hqt29_1]; (try simp only [List.append_assoc])
        have hEl := congrArg List.length hE
        exact ⟨_, rfl, _, _, (by rw [hEl, hz]), (hE ▸ hr6.relen), hb⟩
      · have hqt29_1b := hqt29_1
        replace hqt29_1 := Bool.eq_false_iff.1 hqt29_1
        try simp only [ne_eq, decide_eq_true_eq, Bool.and_eq_true, Bool.or_eq_true, Bool.not_eq_true', decide_eq_false_iff_not] at hqt29_1
        refine wp_seq_k (fun K11 hK11 => ?_)
        refine wp_region_lit ?_
        refine sqv hf (r_eq rfl rfl) rfl rfl rfl ?_; clear hf fa; intro fa hf
        refine sqv hf (r_assign rfl) rfl rfl rfl ?_; clear hf fa; intro fa hf
        apply wpList_nil
        (try simp only [Exit.then, Exit.inBlock, ↓reduceIte, Nat.reduceEqDiff])
        refine hK11 _ _ ?_
        refine wp_cond_split (t := (decide (ip.2.2.1 = (1 : Int)))) (hf.ev rfl) (fun hqt37_1 => ?_) (fun hqt37_1 => ?_)
        · have hqt37_1b := hqt37_1
          try simp only [decide_eq_true_eq, Bool.and_eq_true, Bool.or_eq_true, Bool.not_eq_true', decide_eq_false_iff_not, ne_eq, Bool.not_eq_true] at hqt37_1
          obtain ⟨rb1, rfl, hbbrb1, hlbrb1⟩ := Row.some hr4 (by first | omega | (simp only [Sl.list_length, List.length_set, List.length_take, List.length_append, List.length_replicate, List.length_cons, List.length_nil, List.length_map, nums_len]; omega))
          have hbO : w.heap.size ≤ rb1 := (Row.lt hr4 rb1 rfl).1
          have hlO : rb1 < w4.heap.size := (Row.lt hr4 rb1 rfl).2
          have hnob1 : b1 ≠ rb1 := (fun e => Row.ne_type hr4 hk1 rfl (show some rb1 = some b1 by rw [e]))
          refine wp_region_vnT 6 (fun S wq => w4.grownBy wq (some rb1) ∧ (¬ S 2 → Row 1 (vInt .u8) 5 (w.heap.size) wq (.slice (some ⟨rb1, 0, none⟩) (((((nameL ip.1) ++ (nameL ip.2.1)) ++ [ip.2.2.1])).length) rc1) (((nameL ip.1) ++ (nameL ip.2.1)) ++ [ip.2.2.1])))
            (fun V S => [(fun x _ => x = (.slice (some ⟨rb1, 0, none⟩) (((((nameL ip.1) ++ (nameL ip.2.1)) ++ [ip.2.2.1])).length) rc1)), (fun x wq => ∃ b, x = .slice (some ⟨b, 0, none⟩) 1 1 ∧ w4.heap.size ≤ b ∧ (¬ S 2 → wq.heap[b]? = some (.cells #[(.int .u8 (112 : Int))] 5 (0, 0)))), (fun x wq => ∃ b, (∃ c, x = .slice (some ⟨b, 0, none⟩) ((((nameL ip.1) ++ (nameL ip.2.1)) ++ [ip.2.2.1]) ++ [(112 : Int)]).length c) ∧ w.heap.size ≤ b ∧ Row 1 (vInt .u8) 5 w.heap.size wq x ((((nameL ip.1) ++ (nameL ip.2.1)) ++ [ip.2.2.1]) ++ [(112 : Int)])), (fun x _ => x = (.pointer (some ⟨b1, 4, none⟩))), (fun x _ => x = (.agg #[(.int .u32 ip.2.2.2.2.1.1), (.int .u32 ip.2.2.2.2.1.2.1), (.bool ip.2.2.2.2.1.2.2.1)])), (fun x wq => ∃ b, (∃ c, x = .slice (some ⟨b, 0, none⟩) (((encL ip.2.2.2.2.1)).length) c) ∧ w4.heap.size ≤ b ∧ Row 1 (vInt .u8) 5 w4.heap.size wq x (encL ip.2.2.2.2.1))])
            [1, 5]
            [[], [], [0, 1], [], [3], [2, 4], [], []]
            hf (by kernel_rfl) (by kernel_rfl) (by kernel_rfl) (fun _ _ => rfl) (fun _ _ => ⟨below_grown (Below.refl _ _).drew, fun _ => Row.ext hr4 (Below.refl _ _).drew⟩) (fun _ _ _ _ _ _ => rfl) ?_ ?_
          · skip
            intro V
            have hKP : ∀ (i : Nat) (S : Nat → Prop) (wk : World), (∀ q ∈ ([2] : List Nat), q ≠ i) → ∀ j v w', (((fun (S : Nat → Prop) => ([(fun x _ => x = (.slice (some ⟨rb1, 0, none⟩) (((((nameL ip.1) ++ (nameL ip.2.1)) ++ [ip.2.2.1])).length) rc1)), (fun x wq => ∃ b, x = .slice (some ⟨b, 0, none⟩) 1 1 ∧ w4.heap.size ≤ b ∧ (¬ S 2 → wq.heap[b]? = some (.cells #[(.int .u8 (112 : Int))] 5 (0, 0)))), (fun x wq => ∃ b, (∃ c, x = .slice (some ⟨b, 0, none⟩) ((((nameL ip.1) ++ (nameL ip.2.1)) ++ [ip.2.2.1]) ++ [(112 : Int)]).length c) ∧ w.heap.size ≤ b ∧ Row 1 (vInt .u8) 5 w.heap.size wq x ((((nameL ip.1) ++ (nameL ip.2.1)) ++ [ip.2.2.1]) ++ [(112 : Int)])), (fun x _ => x = (.pointer (some ⟨b1, 4, none⟩))), (fun x _ => x = (.agg #[(.int .u32 ip.2.2.2.2.1.1), (.int .u32 ip.2.2.2.2.1.2.1), (.bool ip.2.2.2.2.1.2.2.1)])), (fun x wq => ∃ b, (∃ c, x = .slice (some ⟨b, 0, none⟩) (((encL ip.2.2.2.2.1)).length) c) ∧ w4.heap.size ≤ b ∧ Row 1 (vInt .u8) 5 w4.heap.size wq x (encL ip.2.2.2.2.1))] : List (Value → World → Prop))) S).getD j (fun _ _ => True)) v wk → Below wk.heap.size wk w' → (((fun (S : Nat → Prop) => ([(fun x _ => x = (.slice (some ⟨rb1, 0, none⟩) (((((nameL ip.1) ++ (nameL ip.2.1)) ++ [ip.2.2.1])).length) rc1)), (fun x wq => ∃ b, x = .slice (some ⟨b, 0, none⟩) 1 1 ∧ w4.heap.size ≤ b ∧ (¬ S 2 → wq.heap[b]? = some (.cells #[(.int .u8 (112 : Int))] 5 (0, 0)))), (fun x wq => ∃ b, (∃ c, x = .slice (some ⟨b, 0, none⟩) ((((nameL ip.1) ++ (nameL ip.2.1)) ++ [ip.2.2.1]) ++ [(112 : Int)]).length c) ∧ w.heap.size ≤ b ∧ Row 1 (vInt .u8) 5 w.heap.size wq x ((((nameL ip.1) ++ (nameL ip.2.1)) ++ [ip.2.2.1]) ++ [(112 : Int)])), (fun x _ => x = (.pointer (some ⟨b1, 4, none⟩))), (fun x _ => x = (.agg #[(.int .u32 ip.2.2.2.2.1.1), (.int .u32 ip.2.2.2.2.1.2.1), (.bool ip.2.2.2.2.1.2.2.1)])), (fun x wq => ∃ b, (∃ c, x = .slice (some ⟨b, 0, none⟩) (((encL ip.2.2.2.2.1)).length) c) ∧ w4.heap.size ≤ b ∧ Row 1 (vInt .u8) 5 w4.heap.size wq x (encL ip.2.2.2.2.1))] : List (Value → World → Prop))) (ad i S)).getD j (fun _ _ => True)) v w' := by
              intro i S wk hi j v w' h hB
              match j with
              | 0 =>
                exact h
              | 1 =>
                obtain ⟨b, e1, e2, e3⟩ := h
                exact ⟨b, e1, e2, fun hn => blk_ext (e3 (fun hs => hn (.inr hs))) hB⟩
              | 2 =>
                obtain ⟨b, e1, e2, e3⟩ := h
                exact ⟨b, e1, e2, Row.ext e3 hB⟩
              | 3 =>
                exact h
              | 4 =>
                exact h
              | 5 =>
                obtain ⟨b, e1, e2, e3⟩ := h
                exact ⟨b, e1, e2, Row.ext e3 hB⟩
              | _ + 6 => trivial
            refine ⟨fun S wu0 hC hS hd hi => ?_, ?_⟩
            · skip
              replace hC := show w4.grownBy wu0 (some rb1) ∧ (¬ S 2 → Row 1 (vInt .u8) 5 (w.heap.size) wu0 (.slice (some ⟨rb1, 0, none⟩) (((((nameL ip.1) ++ (nameL ip.2.1)) ++ [ip.2.2.1])).length) rc1) (((nameL ip.1) ++ (nameL ip.2.1)) ++ [ip.2.2.1])) from hC
              refine uv_plain (C := (fun S wq => w4.grownBy wq (some rb1) ∧ (¬ S 2 → Row 1 (vInt .u8) 5 (w.heap.size) wq (.slice (some ⟨rb1, 0, none⟩) (((((nameL ip.1) ++ (nameL ip.2.1)) ++ [ip.2.2.1])).length) rc1) (((nameL ip.1) ++ (nameL ip.2.1)) ++ [ip.2.2.1])))) (hKP 0 S wu0 (by decide)) (fun _ h1 h2 => ⟨grown_trans h1.1 (below_grown h2), fun hn => Row.ext (h1.2 (fun hs => hn (.inr hs))) h2⟩) hC hS ?_
              obtain ⟨hC, hCr⟩ := hC
              replace hb := hb.trans (grown_below hC hb.size hbO)
              replace hk1 := blk_grown hk1 hC hnob1
              exact Runs.does (r_move rfl) ⟨Below.refl _ _, rfl, nofr rfl⟩
            refine ⟨fun S wu1 hC hS hd hi => ?_, ?_⟩
            · skip
              replace hC := show w4.grownBy wu1 (some rb1) ∧ (¬ S 2 → Row 1 (vInt .u8) 5 (w.heap.size) wu1 (.slice (some ⟨rb1, 0, none⟩) (((((nameL ip.1) ++ (nameL ip.2.1)) ++ [ip.2.2.1])).length) rc1) (((nameL ip.1) ++ (nameL ip.2.1)) ++ [ip.2.2.1])) from hC
              refine uv_plain (C := (fun S wq => w4.grownBy wq (some rb1) ∧ (¬ S 2 → Row 1 (vInt .u8) 5 (w.heap.size) wq (.slice (some ⟨rb1, 0, none⟩) (((((nameL ip.1) ++ (nameL ip.2.1)) ++ [ip.2.2.1])).length) rc1) (((nameL ip.1) ++ (nameL ip.2.1)) ++ [ip.2.2.1])))) (hKP 1 S wu1 (by decide)) (fun _ h1 h2 => ⟨grown_trans h1.1 (below_grown h2), fun hn => Row.ext (h1.2 (fun hs => hn (.inr hs))) h2⟩) hC hS ?_
              obtain ⟨hC, hCr⟩ := hC
              replace hb := hb.trans (grown_below hC hb.size hbO)
              replace hk1 := blk_grown hk1 hC hnob1
              refine Does.mono (d_bslice (z := (.int .u8 (0 : Int))) (sz := 1) (vs := [(0, (.int .u8 (112 : Int)))]) (cs := #[(.int .u8 (112 : Int))]) rfl Try.underlying47 (by kernel_rfl) rfl (by kernel_rfl)) ?_
              rintro _ w' ⟨b, rfl, hF⟩
              exact ⟨hF.2.2, ⟨b, rfl, Nat.le_trans hC.size hF.1, fun _ => hF.2.1⟩, isfr rfl hF.1 (blk_lt hF.2.1)⟩
            refine ⟨fun S wu2 hC hS hd hi => ?_, ?_⟩
            · skip
              replace hC := show w4.grownBy wu2 (some rb1) ∧ (¬ S 2 → Row 1 (vInt .u8) 5 (w.heap.size) wu2 (.slice (some ⟨rb1, 0, none⟩) (((((nameL ip.1) ++ (nameL ip.2.1)) ++ [ip.2.2.1])).length) rc1) (((nameL ip.1) ++ (nameL ip.2.1)) ++ [ip.2.2.1])) from hC
              obtain ⟨hC, hCr⟩ := hC
              have h0 := hS.post 0 (hd 0 (by decide))
              replace h0 : V 0 = (.slice (some ⟨rb1, 0, none⟩) (((((nameL ip.1) ++ (nameL ip.2.1)) ++ [ip.2.2.1])).length) rc1) := h0
              have h1 := hS.post 1 (hd 1 (by decide))
              obtain ⟨b3, h1, hle6, hk3⟩ := h1
              replace hk3 := hk3 hi
              replace hb := hb.trans (grown_below hC hb.size hbO)
              replace hk1 := blk_grown hk1 hC hnob1
              have hrB := Row.of_new (k := 1) (V := (vInt .u8)) (l := [(112 : Int)]) (base := w4.heap.size) hk3 hle6 rfl rfl (Nat.le_of_ble_eq_true rfl)
              refine Does.mono (d_append (V := (vInt .u8)) (k := 1) (e := 5) (bytes := 1) (z := (.int .u8 (0 : Int))) (news := [(112 : Int)]) (base := w.heap.size) (by intros; rfl) (by intro x u hu; simp only [vInt, List.mem_singleton] at hu; subst hu; rfl) (congrArg some h0) (congrArg some h1) Try.underlying47 (by kernel_rfl) rfl rfl rfl (hCr hi) (Row.rd (by intros; rfl) hrB) rfl (fun h => by cases h) (by first | omega | (simp only [List.length_cons, List.length_nil, List.length_append, nums_len]; omega)) (by have := hb.size; omega)) ?_
              rintro v' wz ⟨hY, hgY⟩
              obtain ⟨ra, rc, rfl, _, _⟩ := Row.slice hY
              obtain ⟨br, rfl, hbr, _⟩ := Row.some hY (by first | omega | (simp only [Sl.list_length, List.length_set, List.length_take, List.length_append, List.length_replicate, List.length_cons, List.length_nil, List.length_map, nums_len]; omega))
              refine ⟨⟨⟨grown_trans hC hgY, fun hn => absurd (.inl rfl) hn⟩, fun j hj => ?_, hgY.size⟩, ⟨br, ⟨rc, rfl⟩, hbr, hY⟩, nofr rfl⟩
              match j with
              | 0 =>
                exact hS.post 0 hj
              | 1 =>
                exact ⟨b3, h1, hle6, fun hn => absurd (.inl rfl) hn⟩
              | 2 =>
                exact absurd hj hi
              | 3 =>
                exact hS.post 3 hj
              | 4 =>
                exact hS.post 4 hj
              | 5 =>
                obtain ⟨c, e1, e2, e3⟩ := hS.post 5 hj
                obtain ⟨c2, e1⟩ := e1
                have hne : c ≠ rb1 := fun e => by have e2 := e2; omega
                exact ⟨c, ⟨c2, e1⟩, e2, Row.grown e3 hgY (by rw [e1]; intro e; exact hne (Option.some.inj e))⟩
              | _ + 6 => trivial
            refine ⟨fun S wu3 hC hS hd hi => ?_, ?_⟩
            · skip
              replace hC := show w4.grownBy wu3 (some rb1) ∧ (¬ S 2 → Row 1 (vInt .u8) 5 (w.heap.size) wu3 (.slice (some ⟨rb1, 0, none⟩) (((((nameL ip.1) ++ (nameL ip.2.1)) ++ [ip.2.2.1])).length) rc1) (((nameL ip.1) ++ (nameL ip.2.1)) ++ [ip.2.2.1])) from hC
              refine uv_plain (C := (fun S wq => w4.grownBy wq (some rb1) ∧ (¬ S 2 → Row 1 (vInt .u8) 5 (w.heap.size) wq (.slice (some ⟨rb1, 0, none⟩) (((((nameL ip.1) ++ (nameL ip.2.1)) ++ [ip.2.2.1])).length) rc1) (((nameL ip.1) ++ (nameL ip.2.1)) ++ [ip.2.2.1])))) (hKP 3 S wu3 (by decide)) (fun _ h1 h2 => ⟨grown_trans h1.1 (below_grown h2), fun hn => Row.ext (h1.2 (fun hs => hn (.inr hs))) h2⟩) hC hS ?_
              obtain ⟨hC, hCr⟩ := hC
              replace hb := hb.trans (grown_below hC hb.size hbO)
              replace hk1 := blk_grown hk1 hC hnob1
              exact Runs.does (r_fa rfl Try.underlying81 (f := 4) (q := 4) rfl (by kernel_rfl) rfl) ⟨Below.refl _ _, rfl, nofr rfl⟩
            refine ⟨fun S wu4 hC hS hd hi => ?_, ?_⟩
            · skip
              replace hC := show w4.grownBy wu4 (some rb1) ∧ (¬ S 2 → Row 1 (vInt .u8) 5 (w.heap.size) wu4 (.slice (some ⟨rb1, 0, none⟩) (((((nameL ip.1) ++ (nameL ip.2.1)) ++ [ip.2.2.1])).length) rc1) (((nameL ip.1) ++ (nameL ip.2.1)) ++ [ip.2.2.1])) from hC
              refine uv_plain (C := (fun S wq => w4.grownBy wq (some rb1) ∧ (¬ S 2 → Row 1 (vInt .u8) 5 (w.heap.size) wq (.slice (some ⟨rb1, 0, none⟩) (((((nameL ip.1) ++ (nameL ip.2.1)) ++ [ip.2.2.1])).length) rc1) (((nameL ip.1) ++ (nameL ip.2.1)) ++ [ip.2.2.1])))) (hKP 4 S wu4 (by decide)) (fun _ h1 h2 => ⟨grown_trans h1.1 (below_grown h2), fun hn => Row.ext (h1.2 (fun hs => hn (.inr hs))) h2⟩) hC hS ?_
              obtain ⟨hC, hCr⟩ := hC
              have h3 := hS.post 3 (hd 3 (by decide))
              replace h3 : V 3 = (.pointer (some ⟨b1, 4, none⟩)) := h3
              replace hb := hb.trans (grown_below hC hb.size hbO)
              replace hk1 := blk_grown hk1 hC hnob1
              exact Runs.does (r_loadA (cs := [(.int .u32 ip.2.2.2.2.1.1), (.int .u32 ip.2.2.2.2.1.2.1), (.bool ip.2.2.2.2.1.2.2.1)]) (congrArg some h3) Try.underlying43 rfl (by kernel_rfl) (cellsAt_part (d := 4) (n := 3) (cellsAt_blk hk1) rfl rfl)) ⟨Below.refl _ _, rfl, nofr rfl⟩
            refine ⟨fun S wu5 hC hS hd hi => ?_, ?_⟩
            · skip
              replace hC := show w4.grownBy wu5 (some rb1) ∧ (¬ S 2 → Row 1 (vInt .u8) 5 (w.heap.size) wu5 (.slice (some ⟨rb1, 0, none⟩) (((((nameL ip.1) ++ (nameL ip.2.1)) ++ [ip.2.2.1])).length) rc1) (((nameL ip.1) ++ (nameL ip.2.1)) ++ [ip.2.2.1])) from hC
              refine uv_plain (C := (fun S wq => w4.grownBy wq (some rb1) ∧ (¬ S 2 → Row 1 (vInt .u8) 5 (w.heap.size) wq (.slice (some ⟨rb1, 0, none⟩) (((((nameL ip.1) ++ (nameL ip.2.1)) ++ [ip.2.2.1])).length) rc1) (((nameL ip.1) ++ (nameL ip.2.1)) ++ [ip.2.2.1])))) (hKP 5 S wu5 (by decide)) (fun _ h1 h2 => ⟨grown_trans h1.1 (below_grown h2), fun hn => Row.ext (h1.2 (fun hs => hn (.inr hs))) h2⟩) hC hS ?_
              obtain ⟨hC, hCr⟩ := hC
              have h2 := hS.post 2 (hd 2 (by decide))
              obtain ⟨mb4, ⟨mc4, h2⟩, hle7, hr7⟩ := h2
              rw [h2] at hr7
              have hcmc4 := Row.caps hr7
              have h4 := hS.post 4 (hd 4 (by decide))
              replace h4 : V 4 = (.agg #[(.int .u32 ip.2.2.2.2.1.1), (.int .u32 ip.2.2.2.2.1.2.1), (.bool ip.2.2.2.2.1.2.2.1)]) := h4
              replace hb := hb.trans (grown_below hC hb.size hbO)
              replace hk1 := blk_grown hk1 hC hnob1
              refine Does.mono (d_callX (vs := [(.agg #[(.int .u32 ip.2.2.2.2.1.1), (.int .u32 ip.2.2.2.2.1.2.1), (.bool ip.2.2.2.2.1.2.2.1)])]) (show [some (V 4)] = [some (.agg #[(.int .u32 ip.2.2.2.2.1.1), (.int .u32 ip.2.2.2.2.1.2.1), (.bool ip.2.2.2.2.1.2.2.1)])] from by rw [h4]) Try.func29 (by kernel_rfl) (by kernel_rfl) (encl_any ip.2.2.2.2.1 _ hok3 hok4)) ?_
              rintro _ w' ⟨hF2, hF3⟩
              obtain ⟨ra, rc, rfl, _, _⟩ := Row.slice hF2
              obtain ⟨b, rfl, hF, hF4⟩ := Row.some hF2 (by first | omega | (simp only [Sl.list_length, List.length_set, List.length_take, List.length_append, List.length_replicate, List.length_cons, List.length_nil, List.length_map, nums_len]; omega))
              exact ⟨hF3, ⟨b, ⟨rc, rfl⟩, Nat.le_trans hC.size hF, hF2.rebase hC.size⟩, isfr rfl hF (Row.lt hF2 _ rfl).2⟩
            trivial
          · skip
            clear hf fa; intro V S w7 fa hall he5 hp hnb hf
            have hv0 := postsHold_at hp 0 rfl
            replace hv0 : V 0 = (.slice (some ⟨rb1, 0, none⟩) (((((nameL ip.1) ++ (nameL ip.2.1)) ++ [ip.2.2.1])).length) rc1) := hv0
            have hv1 := postsHold_at hp 1 rfl
            obtain ⟨b3, hv1, hle6, hk3⟩ := hv1
            clear hk3
            have hBb3 : w.heap.size ≤ b3 := Nat.le_trans hb.size hle6
            have hv2 := postsHold_at hp 2 rfl
            obtain ⟨mb4, ⟨mc4, hv2⟩, hle7, hr7⟩ := hv2
            rw [hv2] at hr7
            have hcmc4 := Row.caps hr7
            have hBmb4 : w.heap.size ≤ mb4 := hle7
            have hv3 := postsHold_at hp 3 rfl
            replace hv3 : V 3 = (.pointer (some ⟨b1, 4, none⟩)) := hv3
            have hv4 := postsHold_at hp 4 rfl
            replace hv4 : V 4 = (.agg #[(.int .u32 ip.2.2.2.2.1.1), (.int .u32 ip.2.2.2.2.1.2.1), (.bool ip.2.2.2.2.1.2.2.1)]) := hv4
            have hv5 := postsHold_at hp 5 rfl
            obtain ⟨mb5, ⟨mc5, hv5⟩, hle8, hr8⟩ := hv5
            rw [hv5] at hr8
            replace hr8 := Row.rebase hr8 hb.size
            have hcmc5 := Row.caps hr8
            have hBmb5 : w.heap.size ≤ mb5 := Nat.le_trans hb.size hle8
            simp only [List.take_succ_cons, List.take_zero, insAll, ins, hv0, hv1, hv2, hv3, hv4, hv5] at hf
            have : b3 ≠ mb5 := two_blk (i := 1) (j := 5) hnb rfl rfl rfl rfl rfl (by rw [hv1]; rfl) (by rw [hv5]; rfl)
            have : b1 < b3 := Nat.lt_of_lt_of_le (blk_lt hk1) hle6
            have : b1 < mb5 := Nat.lt_of_lt_of_le (blk_lt hk1) hle8
            clear hp hnb hall hv0 hv1 hv2 hv3 hv4 hv5
            obtain ⟨he5, _⟩ := he5
            replace hk1 := blk_grown hk1 he5 hnob1
            clear hr4
            replace hb := hb.trans (grown_below he5 hb.size hbO)
            simp only [List.drop_succ_cons, List.drop_zero]
            refine sqdt hf (d_append (V := (vInt .u8)) (k := 1) (e := 5) (bytes := 1) (z := (.int .u8 (0 : Int))) (news := (encL ip.2.2.2.2.1)) (base := w.heap.size) (by intros; rfl) (by intro x u hu; simp only [vInt, List.mem_singleton] at hu; subst hu; rfl) rfl rfl Try.underlying47 (by kernel_rfl) rfl rfl rfl hr7 (Row.rd (by intros; rfl) hr8) rfl (fun h => Row.nocap hr8 h) (by first | omega | (simp only [List.length_cons, List.length_nil, List.length_append, nums_len]; omega)) (by have := hb.size; omega)) rfl rfl rfl ?_; clear hf fa; rintro fa v w8 ⟨hr9, hg3⟩ hf; obtain ⟨ra4, rc4, rfl, hcrc4, hmrc4⟩ := Row.slice hr9
            replace hk1 := blk_row' hk1 hg3 (Row.ne_type hr7 hk1 rfl)
            replace hb := hb.trans (row_below hr7 hg3 hb.size (by have := hb.size; omega))
            refine sqv hf (r_assign rfl) rfl rfl rfl ?_; clear hf fa; intro fa hf
            apply wpList_nil
            (try simp only [Exit.then, Exit.inBlock, ↓reduceIte, Nat.reduceEqDiff])
            refine hK7 _ _ ?_
            refine wp_seq_k (fun K12 hK12 => ?_)
            refine wp_region_lit ?_
            refine sqv hf (r_move rfl) rfl rfl rfl ?_; clear hf fa; intro fa hf
            refine sqv hf (r_assign rfl) rfl rfl rfl ?_; clear hf fa; intro fa hf
            refine sqv hf (r_assign rfl) rfl rfl rfl ?_; clear hf fa; intro fa hf
            apply wpList_nil
            (try simp only [Exit.then, Exit.inBlock, ↓reduceIte, Nat.reduceEqDiff])
            refine hK12 _ _ ?_
            refine wp_ret ?_
            (try simp only [Exit.then, Exit.inBlock])
            refine ret2 hf rfl rfl rfl ?_
            have hE : (((((nameL ip.1) ++ (nameL ip.2.1)) ++ [ip.2.2.1]) ++ [(112 : Int)]) ++ (encL ip.2.2.2.2.1)) = iputL ip := by rw [iput_ok hz, encI, tail1 hqt37_1]; (try simp only [List.append_assoc])
            have hEl := congrArg List.length hE
            exact ⟨_, rfl, _, _, (by rw [hEl, hz]), (hE ▸ hr9.relen), hb⟩
        · have hqt37_1b := hqt37_1
          replace hqt37_1 := Bool.eq_false_iff.1 hqt37_1
          try simp only [ne_eq, decide_eq_true_eq, Bool.and_eq_true, Bool.or_eq_true, Bool.not_eq_true', decide_eq_false_iff_not] at hqt37_1
          refine wp_seq_k (fun K13 hK13 => ?_)
          refine wp_region_lit ?_
          refine sqv hf (r_eq rfl rfl) rfl rfl rfl ?_; clear hf fa; intro fa hf
          refine sqv hf (r_assign rfl) rfl rfl rfl ?_; clear hf fa; intro fa hf
          apply wpList_nil
          (try simp only [Exit.then, Exit.inBlock, ↓reduceIte, Nat.reduceEqDiff])
          refine hK13 _ _ ?_
          refine wp_cond_split (t := (decide (ip.2.2.1 = (2 : Int)))) (hf.ev rfl) (fun hqt46_1 => ?_) (fun hqt46_1 => ?_)
          · have hqt46_1b := hqt46_1
            try simp only [decide_eq_true_eq, Bool.and_eq_true, Bool.or_eq_true, Bool.not_eq_true', decide_eq_false_iff_not, ne_eq, Bool.not_eq_true] at hqt46_1
            refine wp_region_lit ?_
            refine sqv hf (r_move rfl) rfl rfl rfl ?_; clear hf fa; intro fa hf
            refine sqv hf (r_fa rfl Try.underlying81 (f := 4) (q := 4) rfl (by kernel_rfl) rfl) rfl rfl rfl ?_; clear hf fa; intro fa hf
            refine sqv hf (r_loadA (cs := [(.int .u32 ip.2.2.2.2.1.1), (.int .u32 ip.2.2.2.2.1.2.1), (.bool ip.2.2.2.2.1.2.2.1)]) rfl Try.underlying43 rfl (by kernel_rfl) (cellsAt_part (d := 4) (n := 3) (cellsAt_blk hk1) rfl rfl)) rfl rfl rfl ?_; clear hf fa; intro fa hf
            refine sqdt hf (d_callX (vs := [(.agg #[(.int .u32 ip.2.2.2.2.1.1), (.int .u32 ip.2.2.2.2.1.2.1), (.bool ip.2.2.2.2.1.2.2.1)])]) rfl Try.func29 (by kernel_rfl) (by kernel_rfl) (encl_any ip.2.2.2.2.1 _ hok3 hok4)) rfl rfl rfl ?_; clear hf fa; rintro fa v w9 ⟨hr10, he6⟩ hf; obtain ⟨ra5, rc5, rfl, hcrc5, hmrc5⟩ := Row.slice hr10
            replace hr10 := Row.rebase hr10 hb.size
            replace hk1 := blk_ext hk1 he6
            replace hr4 := Row.ext hr4 he6
            replace hb := hb.trans (Below.mono he6 hb.size)
            refine sqdt hf (d_append (V := (vInt .u8)) (k := 1) (e := 5) (bytes := 1) (z := (.int .u8 (0 : Int))) (news := (encL ip.2.2.2.2.1)) (base := w.heap.size) (by intros; rfl) (by intro x u hu; simp only [vInt, List.mem_singleton] at hu; subst hu; rfl) rfl rfl Try.underlying47 (by kernel_rfl) rfl rfl rfl hr4 (Row.rd (by intros; rfl) hr10) rfl (fun h => Row.nocap hr10 h) (by first | omega | (simp only [List.length_cons, List.length_nil, List.length_append, nums_len]; omega)) (by have := hb.size; omega)) rfl rfl rfl ?_; clear hf fa; rintro fa v w10 ⟨hr11, hg4⟩ hf; obtain ⟨ra6, rc6, rfl, hcrc6, hmrc6⟩ := Row.slice hr11
            replace hk1 := blk_row' hk1 hg4 (Row.ne_type hr4 hk1 rfl)
            replace hb := hb.trans (row_below hr4 hg4 hb.size (by have := hb.size; omega))
            refine sqv hf (r_assign rfl) rfl rfl rfl ?_; clear hf fa; intro fa hf
            apply wpList_nil
            (try simp only [Exit.then, Exit.inBlock, ↓reduceIte, Nat.reduceEqDiff])
            refine hK7 _ _ ?_
            refine wp_seq_k (fun K14 hK14 => ?_)
            refine wp_region_lit ?_
            refine sqv hf (r_move rfl) rfl rfl rfl ?_; clear hf fa; intro fa hf
            refine sqv hf (r_assign rfl) rfl rfl rfl ?_; clear hf fa; intro fa hf
            refine sqv hf (r_assign rfl) rfl rfl rfl ?_; clear hf fa; intro fa hf
            apply wpList_nil
            (try simp only [Exit.then, Exit.inBlock, ↓reduceIte, Nat.reduceEqDiff])
            refine hK14 _ _ ?_
            refine wp_ret ?_
            (try simp only [Exit.then, Exit.inBlock])
            refine ret2 hf rfl rfl rfl ?_
            have hE : ((((nameL ip.1) ++ (nameL ip.2.1)) ++ [ip.2.2.1]) ++ (encL ip.2.2.2.2.1)) = iputL ip := by rw [iput_ok hz, encI, tail2 hqt46_1]; (try simp only [List.append_assoc])
            have hEl := congrArg List.length hE
            exact ⟨_, rfl, _, _, (by rw [hEl, hz]), (hE ▸ hr11.relen), hb⟩
          · have hqt46_1b := hqt46_1
            replace hqt46_1 := Bool.eq_false_iff.1 hqt46_1
            try simp only [ne_eq, decide_eq_true_eq, Bool.and_eq_true, Bool.or_eq_true, Bool.not_eq_true', decide_eq_false_iff_not] at hqt46_1
            refine wp_region_lit ?_
            refine sqv hf (r_move rfl) rfl rfl rfl ?_; clear hf fa; intro fa hf
            refine sqv hf (r_fa rfl Try.underlying81 (f := 5) (q := 7) rfl (by kernel_rfl) rfl) rfl rfl rfl ?_; clear hf fa; intro fa hf
            refine sqv hf (r_loadA (cs := [(.int .u8 ip.2.2.2.2.2.1.1), (.bool ip.2.2.2.2.2.1.2.1)]) rfl Try.underlying54 rfl (by kernel_rfl) (cellsAt_part (d := 7) (n := 2) (cellsAt_blk hk1) rfl rfl)) rfl rfl rfl ?_; clear hf fa; intro fa hf
            refine sqdt hf (d_callX (vs := [(.agg #[(.int .u8 ip.2.2.2.2.2.1.1), (.bool ip.2.2.2.2.2.1.2.1)])]) rfl Try.func39 (by kernel_rfl) (by kernel_rfl) (encg_any ip.2.2.2.2.2.1 _ hok5)) rfl rfl rfl ?_; clear hf fa; rintro fa v w11 ⟨hr12, he7⟩ hf; obtain ⟨ra7, rc7, rfl, hcrc7, hmrc7⟩ := Row.slice hr12
            replace hr12 := Row.rebase hr12 hb.size
            replace hk1 := blk_ext hk1 he7
            replace hr4 := Row.ext hr4 he7
            replace hb := hb.trans (Below.mono he7 hb.size)
            refine sqdt hf (d_append (V := (vInt .u8)) (k := 1) (e := 5) (bytes := 1) (z := (.int .u8 (0 : Int))) (news := (encG ip.2.2.2.2.2.1)) (base := w.heap.size) (by intros; rfl) (by intro x u hu; simp only [vInt, List.mem_singleton] at hu; subst hu; rfl) rfl rfl Try.underlying47 (by kernel_rfl) rfl rfl rfl hr4 (Row.rd (by intros; rfl) hr12) rfl (fun h => Row.nocap hr12 h) (by first | omega | (simp only [List.length_cons, List.length_nil, List.length_append, nums_len]; omega)) (by have := hb.size; omega)) rfl rfl rfl ?_; clear hf fa; rintro fa v w12 ⟨hr13, hg5⟩ hf; obtain ⟨ra8, rc8, rfl, hcrc8, hmrc8⟩ := Row.slice hr13
            replace hk1 := blk_row' hk1 hg5 (Row.ne_type hr4 hk1 rfl)
            replace hb := hb.trans (row_below hr4 hg5 hb.size (by have := hb.size; omega))
            refine sqv hf (r_assign rfl) rfl rfl rfl ?_; clear hf fa; intro fa hf
            apply wpList_nil
            (try simp only [Exit.then, Exit.inBlock, ↓reduceIte, Nat.reduceEqDiff])
            refine hK7 _ _ ?_
            refine wp_seq_k (fun K15 hK15 => ?_)
            refine wp_region_lit ?_
            refine sqv hf (r_move rfl) rfl rfl rfl ?_; clear hf fa; intro fa hf
            refine sqv hf (r_assign rfl) rfl rfl rfl ?_; clear hf fa; intro fa hf
            refine sqv hf (r_assign rfl) rfl rfl rfl ?_; clear hf fa; intro fa hf
            apply wpList_nil
            (try simp only [Exit.then, Exit.inBlock, ↓reduceIte, Nat.reduceEqDiff])
            refine hK15 _ _ ?_
            refine wp_ret ?_
            (try simp only [Exit.then, Exit.inBlock])
            refine ret2 hf rfl rfl rfl ?_
            have hE : ((((nameL ip.1) ++ (nameL ip.2.1)) ++ [ip.2.2.1]) ++ (encG ip.2.2.2.2.2.1)) = iputL ip := by rw [iput_ok hz, encI, tail3 hqt29_1 hqt37_1 hqt46_1]; (try simp only [List.append_assoc])
            have hEl := congrArg List.length hE
            exact ⟨_, rfl, _, _, (by rw [hEl, hz]), (hE ▸ hr13.relen), hb⟩

set_option maxHeartbeats 1000000 in
set_option maxRecDepth 100000 in
theorem rname_any (s : ByteArray) (w : World) (hs : s.size ≤ 400) : Calls Try.prog 145 #[(.string s)] w fun e w' => e = .returned (.string (strOfNums (nameL s))) ∧ Below w.heap.size w w' := by
  refine sx_enter (L := [(0, (.string s))]) Try.func145 rfl rfl rfl rfl (fun fa hf => ?_)
  have hb : Below w.heap.size w w := Below.refl _ _
  refine wp_seq_k (fun K1 hK1 => ?_)
  refine wp_region_lit ?_
  refine sqv hf (r_assign rfl) rfl rfl rfl ?_; clear hf fa; intro fa hf
  apply wpList_nil
  (try simp only [Exit.then, Exit.inBlock, ↓reduceIte, Nat.reduceEqDiff])
  refine hK1 _ _ ?_
  refine wp_seq_k (fun K2 hK2 => ?_)
  refine wp_region_lit ?_
  refine sqv hf (r_move rfl) rfl rfl rfl ?_; clear hf fa; intro fa hf
  refine sqv hf (r_lens rfl Try.underlying9) rfl rfl rfl ?_; clear hf fa; intro fa hf
  refine sqdt hf (d_callB (vs := [(.int .i64 ((s.size : Nat) : Int))]) rfl Try.func111 (by kernel_rfl) (by kernel_rfl) (count_any s.size _ (by omega))) rfl rfl rfl ?_; clear hf fa; rintro fa _ w1 ⟨rfl, he1⟩ hf
  replace hb := hb.trans (Below.mono he1 hb.size)
  refine sqv hf (r_move rfl) rfl rfl rfl ?_; clear hf fa; intro fa hf
  refine sqv hf (r_sadd rfl rfl (by have := cntS_le (n := s.size) (by omega); omega)) rfl rfl rfl ?_; clear hf fa; intro fa hf
  refine sqv hf (r_assign rfl) rfl rfl rfl ?_; clear hf fa; intro fa hf
  apply wpList_nil
  (try simp only [Exit.then, Exit.inBlock, ↓reduceIte, Nat.reduceEqDiff])
  refine hK2 _ _ ?_
  refine wp_ret ?_
  (try simp only [Exit.then, Exit.inBlock])
  refine ret1 hf rfl rfl ?_
  refine ⟨?_, hb⟩
  rw [show strOfNums (nameL s) = cntS s.size ++ s by unfold nameL cntS; rw [strOfNums_app, strOfNums_nums]]

set_option maxHeartbeats 1000000 in
set_option maxRecDepth 100000 in
theorem riput_any (ip : MImp) (w : World) (hs1 : ip.1.size ≤ 400) (hs2 : ip.2.1.size ≤ 400) (hok : iokE ip) : Calls Try.prog 102 #[(.agg #[(.string ip.1), (.string ip.2.1), (.int .u8 ip.2.2.1), (.int .u32 ip.2.2.2.1), (.int .u32 ip.2.2.2.2.1.1), (.int .u32 ip.2.2.2.2.1.2.1), (.bool ip.2.2.2.2.1.2.2.1), (.int .u8 ip.2.2.2.2.2.1.1), (.bool ip.2.2.2.2.2.1.2.1)])] w fun e w' => e = .returned (.string (strOfNums (encI ip))) ∧ Below w.heap.size w w' := by
  obtain ⟨hok1, hok2, hok3, hok4, hok5⟩ := hok; have hn1 := nameL_len (s := ip.1) (by omega); have hn2 := nameL_len (s := ip.2.1) (by omega); have hlL := encL_len ip.2.2.2.2.1 hok3.2 hok4.2; have hgL : (encG ip.2.2.2.2.2.1).length = 2 := rfl
  refine sx_enter (L := [(0, (.agg #[(.string ip.1), (.string ip.2.1), (.int .u8 ip.2.2.1), (.int .u32 ip.2.2.2.1), (.int .u32 ip.2.2.2.2.1.1), (.int .u32 ip.2.2.2.2.1.2.1), (.bool ip.2.2.2.2.1.2.2.1), (.int .u8 ip.2.2.2.2.2.1.1), (.bool ip.2.2.2.2.2.1.2.1)]))]) Try.func102 rfl rfl rfl rfl (fun fa hf => ?_)
  have hb : Below w.heap.size w w := Below.refl _ _
  refine wp_seq_k (fun K1 hK1 => ?_)
  refine wp_region_lit ?_
  refine sqdt hf (d_box (cs := #[(.string ip.1), (.string ip.2.1), (.int .u8 ip.2.2.1), (.int .u32 ip.2.2.2.1), (.int .u32 ip.2.2.2.2.1.1), (.int .u32 ip.2.2.2.2.1.2.1), (.bool ip.2.2.2.2.1.2.2.1), (.int .u8 ip.2.2.2.2.2.1.1), (.bool ip.2.2.2.2.2.1.2.1)]) rfl rfl) rfl rfl rfl ?_; clear hf fa; rintro fa _ w1 ⟨b1, rfl, hle1, hk1, he1⟩ hf
  have hBb1 : w.heap.size ≤ b1 := Nat.le_trans hb.size hle1
  replace hb := hb.trans (Below.mono he1 hb.size)
  refine sqv hf (r_assign rfl) rfl rfl rfl ?_; clear hf fa; intro fa hf
  apply wpList_nil
  (try simp only [Exit.then, Exit.inBlock, ↓reduceIte, Nat.reduceEqDiff])
  refine hK1 _ _ ?_
  refine wp_seq_k (fun K2 hK2 => ?_)
  refine wp_region_un (fun wq => Below w1.heap.size w1 wq) (fun w w' => Below w.heap.size w w')
    (fun V => [(fun x _ => x = (.pointer (some ⟨b1, 0, none⟩))), (fun x _ => x = (.string ip.1)), (fun x _ => x = (.string (strOfNums (nameL ip.1)))), (fun x _ => x = (.pointer (some ⟨b1, 1, none⟩))), (fun x _ => x = (.string ip.2.1)), (fun x _ => x = (.string (strOfNums (nameL ip.2.1)))), (fun x _ => x = (.string ((strOfNums (nameL ip.1)) ++ (strOfNums (nameL ip.2.1))))), (fun x _ => x = (.pointer (some ⟨b1, 2, none⟩))), (fun x _ => x = (.int .u8 ip.2.2.1)), (fun x wq => ∃ b, x = .slice (some ⟨b, 0, none⟩) 1 1 ∧ w1.heap.size ≤ b ∧ wq.heap[b]? = some (.cells #[(.int .u8 ip.2.2.1)] 5 (0, 0))), (fun x _ => x = (.string (strOfNums [ip.2.2.1]))), (fun x _ => x = (.string (((strOfNums (nameL ip.1)) ++ (strOfNums (nameL ip.2.1))) ++ (strOfNums [ip.2.2.1])))), (fun x _ => x = (.string (((strOfNums (nameL ip.1)) ++ (strOfNums (nameL ip.2.1))) ++ (strOfNums [ip.2.2.1]))))])
    [9]
    [[], [0], [1], [], [3], [2, 4], [2, 5], [], [7], [8], [9], [6, 10], [0, 1, 2, 3, 4, 5, 6, 7, 8, 9, 10, 11]]
    hf (by kernel_rfl) (by kernel_rfl) (fun _ => rfl) ((Below.refl _ _).drew) (fun a b h1 h2 => h1.trans (h2.mono h1.size)) (fun _ _ h => h.size) (fun V => ⟨kept_eq, kept_eq, kept_eq, kept_eq, kept_eq, kept_eq, kept_eq, kept_eq, kept_eq, keptB, kept_eq, kept_eq, kept_eq, trivial⟩) (fun _ _ _ _ _ => rfl) ?_ ?_
  · skip
    intro V
    refine ⟨fun wu0 hC hd => ?_, ?_⟩
    · clear hd
      replace hb := hb.trans (hC.mono hb.size)
      replace hk1 := blk_ext hk1 hC
      exact Runs.does (r_fa rfl Try.underlying81 (f := 0) (q := 0) rfl (by kernel_rfl) rfl) ⟨Below.refl _ _, rfl, nofr rfl⟩
    refine ⟨fun wu1 hC hd => ?_, ?_⟩
    · obtain ⟨h0, _⟩ := hd
      skip
      replace h0 : V 0 = (.pointer (some ⟨b1, 0, none⟩)) := h0
      replace hb := hb.trans (hC.mono hb.size)
      replace hk1 := blk_ext hk1 hC
      exact Runs.does (r_load (v := (.string ip.1)) (congrArg some h0) Try.underlying9 rfl (cell_blk hk1 rfl)) ⟨Below.refl _ _, rfl, nofr rfl⟩
    refine ⟨fun wu2 hC hd => ?_, ?_⟩
    · obtain ⟨h1, _⟩ := hd
      skip
      replace h1 : V 1 = (.string ip.1) := h1
      replace hb := hb.trans (hC.mono hb.size)
      replace hk1 := blk_ext hk1 hC
      refine Does.mono (d_callB (vs := [(.string ip.1)]) (show [some (V 1)] = [some (.string ip.1)] from by rw [h1]) Try.func145 (by kernel_rfl) (by kernel_rfl) (rname_any ip.1 _ (by omega))) (fun _ _ h => ⟨h.2, h.1, nofr rfl⟩)
    refine ⟨fun wu3 hC hd => ?_, ?_⟩
    · clear hd
      replace hb := hb.trans (hC.mono hb.size)
      replace hk1 := blk_ext hk1 hC
      exact Runs.does (r_fa rfl Try.underlying81 (f := 1) (q := 1) rfl (by kernel_rfl) rfl) ⟨Below.refl _ _, rfl, nofr rfl⟩
    refine ⟨fun wu4 hC hd => ?_, ?_⟩
    · obtain ⟨h3, _⟩ := hd
      skip
      replace h3 : V 3 = (.pointer (some ⟨b1, 1, none⟩)) := h3
      replace hb := hb.trans (hC.mono hb.size)
      replace hk1 := blk_ext hk1 hC
      exact Runs.does (r_load (v := (.string ip.2.1)) (congrArg some h3) Try.underlying9 rfl (cell_blk hk1 rfl)) ⟨Below.refl _ _, rfl, nofr rfl⟩
    refine ⟨fun wu5 hC hd => ?_, ?_⟩
    · obtain ⟨h2, h4, _⟩ := hd
      skip
      skip
      replace h2 : V 2 = (.string (strOfNums (nameL ip.1))) := h2
      replace h4 : V 4 = (.string ip.2.1) := h4
      replace hb := hb.trans (hC.mono hb.size)
      replace hk1 := blk_ext hk1 hC
      refine Does.mono (d_callB (vs := [(.string ip.2.1)]) (show [some (V 4)] = [some (.string ip.2.1)] from by rw [h4]) Try.func145 (by kernel_rfl) (by kernel_rfl) (rname_any ip.2.1 _ (by omega))) (fun _ _ h => ⟨h.2, h.1, nofr rfl⟩)
    refine ⟨fun wu6 hC hd => ?_, ?_⟩
    · obtain ⟨h2, h5, _⟩ := hd
      skip
      skip
      replace h2 : V 2 = (.string (strOfNums (nameL ip.1))) := h2
      replace h5 : V 5 = (.string (strOfNums (nameL ip.2.1))) := h5
      replace hb := hb.trans (hC.mono hb.size)
      replace hk1 := blk_ext hk1 hC
      exact Runs.does (r_sadd (congrArg some h2) (congrArg some h5) (by have := strOfNums_size (nameL ip.1); have := strOfNums_size (nameL ip.2.1); omega)) ⟨Below.refl _ _, rfl, nofr rfl⟩
    refine ⟨fun wu7 hC hd => ?_, ?_⟩
    · clear hd
      replace hb := hb.trans (hC.mono hb.size)
      replace hk1 := blk_ext hk1 hC
      exact Runs.does (r_fa rfl Try.underlying81 (f := 2) (q := 2) rfl (by kernel_rfl) rfl) ⟨Below.refl _ _, rfl, nofr rfl⟩
    refine ⟨fun wu8 hC hd => ?_, ?_⟩
    · obtain ⟨h7, _⟩ := hd
      skip
      replace h7 : V 7 = (.pointer (some ⟨b1, 2, none⟩)) := h7
      replace hb := hb.trans (hC.mono hb.size)
      replace hk1 := blk_ext hk1 hC
      exact Runs.does (r_load (v := (.int .u8 ip.2.2.1)) (congrArg some h7) Try.underlying5 rfl (cell_blk hk1 rfl)) ⟨Below.refl _ _, rfl, nofr rfl⟩
    refine ⟨fun wu9 hC hd => ?_, ?_⟩
    · obtain ⟨h8, _⟩ := hd
      skip
      replace h8 : V 8 = (.int .u8 ip.2.2.1) := h8
      replace hb := hb.trans (hC.mono hb.size)
      replace hk1 := blk_ext hk1 hC
      refine Does.mono (d_bslice (z := (.int .u8 (0 : Int))) (sz := 1) (vs := [(0, (.int .u8 ip.2.2.1))]) (cs := #[(.int .u8 ip.2.2.1)]) (show [(0, some (V 8))] = [(0, some (.int .u8 ip.2.2.1))] from by rw [h8]) Try.underlying47 (by kernel_rfl) rfl (by kernel_rfl)) ?_
      rintro _ w' ⟨b, rfl, hF⟩
      exact ⟨hF.2.2, ⟨b, rfl, Nat.le_trans hC.size hF.1, hF.2.1⟩, isfr rfl hF.1 (blk_lt hF.2.1)⟩
    refine ⟨fun wu10 hC hd => ?_, ?_⟩
    · obtain ⟨h9, _⟩ := hd
      skip
      obtain ⟨b2, h9, hle2, hk2⟩ := h9
      replace hb := hb.trans (hC.mono hb.size)
      replace hk1 := blk_ext hk1 hC
      exact Runs.does (r_rowstr (congrArg some h9) Try.underlying47 Try.underlying5 Try.underlying9 (Row.of_new (k := 1) (V := vInt .u8) (l := [ip.2.2.1]) hk2 (Nat.le_refl _) rfl rfl (Nat.le_of_ble_eq_true rfl))) ⟨Below.refl _ _, rfl, nofr rfl⟩
    refine ⟨fun wu11 hC hd => ?_, ?_⟩
    · obtain ⟨h6, h10, _⟩ := hd
      skip
      skip
      replace h6 : V 6 = (.string ((strOfNums (nameL ip.1)) ++ (strOfNums (nameL ip.2.1)))) := h6
      replace h10 : V 10 = (.string (strOfNums [ip.2.2.1])) := h10
      replace hb := hb.trans (hC.mono hb.size)
      replace hk1 := blk_ext hk1 hC
      exact Runs.does (r_sadd (congrArg some h6) (congrArg some h10) (by have := strOfNums_size (nameL ip.1); have := strOfNums_size (nameL ip.2.1); have := sz_app (strOfNums (nameL ip.1)) (strOfNums (nameL ip.2.1)); have := strOfNums_size [ip.2.2.1]; (try simp only [List.length_cons, List.length_nil, List.length_append] at this); omega)) ⟨Below.refl _ _, rfl, nofr rfl⟩
    refine ⟨fun wu12 hC hd => ?_, ?_⟩
    · obtain ⟨h0, h1, h2, h3, h4, h5, h6, h7, h8, h9, h10, h11, _⟩ := hd
      skip
      skip
      skip
      skip
      skip
      skip
      skip
      skip
      skip
      skip
      skip
      skip
      replace h0 : V 0 = (.pointer (some ⟨b1, 0, none⟩)) := h0
      replace h1 : V 1 = (.string ip.1) := h1
      replace h2 : V 2 = (.string (strOfNums (nameL ip.1))) := h2
      replace h3 : V 3 = (.pointer (some ⟨b1, 1, none⟩)) := h3
      replace h4 : V 4 = (.string ip.2.1) := h4
      replace h5 : V 5 = (.string (strOfNums (nameL ip.2.1))) := h5
      replace h6 : V 6 = (.string ((strOfNums (nameL ip.1)) ++ (strOfNums (nameL ip.2.1)))) := h6
      replace h7 : V 7 = (.pointer (some ⟨b1, 2, none⟩)) := h7
      replace h8 : V 8 = (.int .u8 ip.2.2.1) := h8
      obtain ⟨b2, h9, hle2, hk2⟩ := h9
      replace h10 : V 10 = (.string (strOfNums [ip.2.2.1])) := h10
      replace h11 : V 11 = (.string (((strOfNums (nameL ip.1)) ++ (strOfNums (nameL ip.2.1))) ++ (strOfNums [ip.2.2.1]))) := h11
      replace hb := hb.trans (hC.mono hb.size)
      replace hk1 := blk_ext hk1 hC
      exact Runs.does (r_assign (congrArg some h11)) ⟨Below.refl _ _, rfl, nofr rfl⟩
    trivial
  · skip
    clear hf fa; intro V w2 fa he2 hp hnb hf
    have hv0 : V 0 = (.pointer (some ⟨b1, 0, none⟩)) := postsHold_at hp 0 rfl
    have hv1 : V 1 = (.string ip.1) := postsHold_at hp 1 rfl
    have hv2 : V 2 = (.string (strOfNums (nameL ip.1))) := postsHold_at hp 2 rfl
    have hv3 : V 3 = (.pointer (some ⟨b1, 1, none⟩)) := postsHold_at hp 3 rfl
    have hv4 : V 4 = (.string ip.2.1) := postsHold_at hp 4 rfl
    have hv5 : V 5 = (.string (strOfNums (nameL ip.2.1))) := postsHold_at hp 5 rfl
    have hv6 : V 6 = (.string ((strOfNums (nameL ip.1)) ++ (strOfNums (nameL ip.2.1)))) := postsHold_at hp 6 rfl
    have hv7 : V 7 = (.pointer (some ⟨b1, 2, none⟩)) := postsHold_at hp 7 rfl
    have hv8 : V 8 = (.int .u8 ip.2.2.1) := postsHold_at hp 8 rfl
    have hv9 := postsHold_at hp 9 rfl
    obtain ⟨b2, hv9, hle2, hk2⟩ := hv9
    have hBb2 : w.heap.size ≤ b2 := Nat.le_trans hb.size hle2
    have hv10 : V 10 = (.string (strOfNums [ip.2.2.1])) := postsHold_at hp 10 rfl
    have hv11 : V 11 = (.string (((strOfNums (nameL ip.1)) ++ (strOfNums (nameL ip.2.1))) ++ (strOfNums [ip.2.2.1]))) := postsHold_at hp 11 rfl
    have hv12 : V 12 = (.string (((strOfNums (nameL ip.1)) ++ (strOfNums (nameL ip.2.1))) ++ (strOfNums [ip.2.2.1]))) := postsHold_at hp 12 rfl
    simp only [List.take_succ_cons, List.take_zero, insAll, ins, hv0, hv1, hv2, hv3, hv4, hv5, hv6, hv7, hv8, hv9, hv10, hv11, hv12] at hf
    have : b1 < b2 := Nat.lt_of_lt_of_le (blk_lt hk1) hle2
    clear hp hnb hv0 hv1 hv2 hv3 hv4 hv5 hv6 hv7 hv8 hv9 hv10 hv11 hv12
    replace hk1 := blk_ext hk1 he2
    replace hb := hb.trans (Below.mono he2 hb.size)
    (try simp only [Exit.then, Exit.inBlock, ↓reduceIte, Nat.reduceEqDiff])
    refine hK2 _ _ ?_
    refine wp_seq_k (fun K3 hK3 => ?_)
    refine wp_seq_k (fun K4 hK4 => ?_)
    refine wp_region_lit ?_
    refine sqv hf (r_fa rfl Try.underlying81 (f := 2) (q := 2) rfl (by kernel_rfl) rfl) rfl rfl rfl ?_; clear hf fa; intro fa hf
    refine sqv hf (r_load (v := (.int .u8 ip.2.2.1)) rfl Try.underlying5 rfl (cell_blk hk1 rfl)) rfl rfl rfl ?_; clear hf fa; intro fa hf
    apply wpList_nil
    (try simp only [Exit.then, Exit.inBlock, ↓reduceIte, Nat.reduceEqDiff])
    refine hK4 _ _ ?_
    refine wp_block ?_
    refine wp_seq_k (fun K5 hK5 => ?_)
    refine wp_region_lit ?_
    refine sqv hf (r_eq rfl rfl) rfl rfl rfl ?_; clear hf fa; intro fa hf
    refine sqv hf (r_assign rfl) rfl rfl rfl ?_; clear hf fa; intro fa hf
    apply wpList_nil
    (try simp only [Exit.then, Exit.inBlock, ↓reduceIte, Nat.reduceEqDiff])
    refine hK5 _ _ ?_
    refine wp_cond_split (t := (decide (ip.2.2.1 = (0 : Int)))) (hf.ev rfl) (fun hqt18_1 => ?_) (fun hqt18_1 => ?_)
    · have hqt18_1b := hqt18_1
      try simp only [decide_eq_true_eq, Bool.and_eq_true, Bool.or_eq_true, Bool.not_eq_true', decide_eq_false_iff_not, ne_eq, Bool.not_eq_true] at hqt18_1
      refine wp_seq_k (fun K6 hK6 => ?_)
      refine wp_region_lit ?_
      refine sqv hf (r_move rfl) rfl rfl rfl ?_; clear hf fa; intro fa hf
      refine sqv hf (r_fa rfl Try.underlying81 (f := 3) (q := 3) rfl (by kernel_rfl) rfl) rfl rfl rfl ?_; clear hf fa; intro fa hf
      refine sqv hf (r_load (v := (.int .u32 ip.2.2.2.1)) rfl Try.underlying24 rfl (cell_blk hk1 rfl)) rfl rfl rfl ?_; clear hf fa; intro fa hf
      refine sqv hf (r_conv (C := ip.2.2.2.1) rfl Try.underlying24 Try.underlying3 (by rw [IntKind.wrap_i64]; omega)) rfl rfl rfl ?_; clear hf fa; intro fa hf
      refine sqdt hf (d_callB (vs := [(.int .i64 ip.2.2.2.1)]) rfl Try.func111 (by kernel_rfl) (by kernel_rfl) (count_anyI ip.2.2.2.1 (by omega) (by omega) _)) rfl rfl rfl ?_; clear hf fa; rintro fa _ w3 ⟨rfl, he3⟩ hf
      replace hk1 := blk_ext hk1 he3
      replace hk2 := blk_ext hk2 he3
      replace hb := hb.trans (Below.mono he3 hb.size)
      refine sqv hf (r_sadd rfl rfl (by have := strOfNums_size (nameL ip.1); have := strOfNums_size (nameL ip.2.1); have := sz_app (strOfNums (nameL ip.1)) (strOfNums (nameL ip.2.1)); have := strOfNums_size [ip.2.2.1]; (try simp only [List.length_cons, List.length_nil, List.length_append] at this); have := sz_app ((strOfNums (nameL ip.1)) ++ (strOfNums (nameL ip.2.1))) (strOfNums [ip.2.2.1]); have := cntS_le (n := ip.2.2.2.1.toNat) (by omega); omega)) rfl rfl rfl ?_; clear hf fa; intro fa hf
      refine sqv hf (r_assign rfl) rfl rfl rfl ?_; clear hf fa; intro fa hf
      apply wpList_nil
      (try simp only [Exit.then, Exit.inBlock, ↓reduceIte, Nat.reduceEqDiff])
      refine hK6 _ _ ?_
      refine wp_ret ?_
      (try simp only [Exit.then, Exit.inBlock])
      refine ret1 hf rfl rfl ?_
      refine ⟨?_, hb⟩
      rw [show strOfNums (encI ip) = ((strOfNums (nameL ip.1) ++ strOfNums (nameL ip.2.1)) ++ strOfNums [ip.2.2.1]) ++ strOfNums (tailI ip) by unfold encI; rw [strOfNums_app, strOfNums_app, strOfNums_app], tail0 hqt18_1]
      (try rfl)
      (try (rw [strOfNums_app, ← ByteArray.append_assoc]; rfl))
    · have hqt18_1b := hqt18_1
      replace hqt18_1 := Bool.eq_false_iff.1 hqt18_1
      try simp only [ne_eq, decide_eq_true_eq, Bool.and_eq_true, Bool.or_eq_true, Bool.not_eq_true', decide_eq_false_iff_not] at hqt18_1
      refine wp_seq_k (fun K7 hK7 => ?_)
      refine wp_region_lit ?_
      refine sqv hf (r_eq rfl rfl) rfl rfl rfl ?_; clear hf fa; intro fa hf
      refine sqv hf (r_assign rfl) rfl rfl rfl ?_; clear hf fa; intro fa hf
      apply wpList_nil
      (try simp only [Exit.then, Exit.inBlock, ↓reduceIte, Nat.reduceEqDiff])
      refine hK7 _ _ ?_
      refine wp_cond_split (t := (decide (ip.2.2.1 = (1 : Int)))) (hf.ev rfl) (fun hqt26_1 => ?_) (fun hqt26_1 => ?_)
      · have hqt26_1b := hqt26_1
        try simp only [decide_eq_true_eq, Bool.and_eq_true, Bool.or_eq_true, Bool.not_eq_true', decide_eq_false_iff_not, ne_eq, Bool.not_eq_true] at hqt26_1
        refine wp_seq_k (fun K8 hK8 => ?_)
        refine wp_region_lit ?_
        refine sqv hf (r_move rfl) rfl rfl rfl ?_; clear hf fa; intro fa hf
        refine sqv hf (r_sadd rfl rfl (by have := strOfNums_size (nameL ip.1); have := strOfNums_size (nameL ip.2.1); have := sz_app (strOfNums (nameL ip.1)) (strOfNums (nameL ip.2.1)); have := strOfNums_size [ip.2.2.1]; (try simp only [List.length_cons, List.length_nil, List.length_append] at this); have := sz_app ((strOfNums (nameL ip.1)) ++ (strOfNums (nameL ip.2.1))) (strOfNums [ip.2.2.1]); have : ((⟨#[112]⟩) : ByteArray).size = 1 := rfl; omega)) rfl rfl rfl ?_; clear hf fa; intro fa hf
        refine sqv hf (r_fa rfl Try.underlying81 (f := 4) (q := 4) rfl (by kernel_rfl) rfl) rfl rfl rfl ?_; clear hf fa; intro fa hf
        refine sqv hf (r_loadA (cs := [(.int .u32 ip.2.2.2.2.1.1), (.int .u32 ip.2.2.2.2.1.2.1), (.bool ip.2.2.2.2.1.2.2.1)]) rfl Try.underlying43 rfl (by kernel_rfl) (cellsAt_part (d := 4) (n := 3) (cellsAt_blk hk1) rfl rfl)) rfl rfl rfl ?_; clear hf fa; intro fa hf
        refine sqdt hf (d_callB (vs := [(.agg #[(.int .u32 ip.2.2.2.2.1.1), (.int .u32 ip.2.2.2.2.1.2.1), (.bool ip.2.2.2.2.1.2.2.1)])]) rfl Try.func30 (by kernel_rfl) (by kernel_rfl) (rencl_any ip.2.2.2.2.1 _ hok3 hok4)) rfl rfl rfl ?_; clear hf fa; rintro fa _ w4 ⟨rfl, he4⟩ hf
        replace hk1 := blk_ext hk1 he4
        replace hk2 := blk_ext hk2 he4
        replace hb := hb.trans (Below.mono he4 hb.size)
        refine sqv hf (r_sadd rfl rfl (by have := strOfNums_size (nameL ip.1); have := strOfNums_size (nameL ip.2.1); have := sz_app (strOfNums (nameL ip.1)) (strOfNums (nameL ip.2.1)); have := strOfNums_size [ip.2.2.1]; (try simp only [List.length_cons, List.length_nil, List.length_append] at this); have := sz_app ((strOfNums (nameL ip.1)) ++ (strOfNums (nameL ip.2.1))) (strOfNums [ip.2.2.1]); have : ((⟨#[112]⟩) : ByteArray).size = 1 := rfl; have := sz_app (((strOfNums (nameL ip.1)) ++ (strOfNums (nameL ip.2.1))) ++ (strOfNums [ip.2.2.1])) ⟨#[112]⟩; have := strOfNums_size (encL ip.2.2.2.2.1); omega)) rfl rfl rfl ?_; clear hf fa; intro fa hf
        refine sqv hf (r_assign rfl) rfl rfl rfl ?_; clear hf fa; intro fa hf
        apply wpList_nil
        (try simp only [Exit.then, Exit.inBlock, ↓reduceIte, Nat.reduceEqDiff])
        refine hK8 _ _ ?_
        refine wp_ret ?_
        (try simp only [Exit.then, Exit.inBlock])
        refine ret1 hf rfl rfl ?_
        refine ⟨?_, hb⟩
        rw [show strOfNums (encI ip) = ((strOfNums (nameL ip.1) ++ strOfNums (nameL ip.2.1)) ++ strOfNums [ip.2.2.1]) ++ strOfNums (tailI ip) by unfold encI; rw [strOfNums_app, strOfNums_app, strOfNums_app], tail1 hqt26_1]
        (try rfl)
        (try (rw [strOfNums_app, ← ByteArray.append_assoc]; rfl))
      · have hqt26_1b := hqt26_1
        replace hqt26_1 := Bool.eq_false_iff.1 hqt26_1
        try simp only [ne_eq, decide_eq_true_eq, Bool.and_eq_true, Bool.or_eq_true, Bool.not_eq_true', decide_eq_false_iff_not] at hqt26_1
        refine wp_seq_k (fun K9 hK9 => ?_)
        refine wp_region_lit ?_
        refine sqv hf (r_eq rfl rfl) rfl rfl rfl ?_; clear hf fa; intro fa hf
        refine sqv hf (r_assign rfl) rfl rfl rfl ?_; clear hf fa; intro fa hf
        apply wpList_nil
        (try simp only [Exit.then, Exit.inBlock, ↓reduceIte, Nat.reduceEqDiff])
        refine hK9 _ _ ?_
        refine wp_cond_split (t := (decide (ip.2.2.1 = (2 : Int)))) (hf.ev rfl) (fun hqt34_1 => ?_) (fun hqt34_1 => ?_)
        · have hqt34_1b := hqt34_1
          try simp only [decide_eq_true_eq, Bool.and_eq_true, Bool.or_eq_true, Bool.not_eq_true', decide_eq_false_iff_not, ne_eq, Bool.not_eq_true] at hqt34_1
          refine wp_seq_k (fun K10 hK10 => ?_)
          refine wp_region_lit ?_
          refine sqv hf (r_move rfl) rfl rfl rfl ?_; clear hf fa; intro fa hf
          refine sqv hf (r_fa rfl Try.underlying81 (f := 4) (q := 4) rfl (by kernel_rfl) rfl) rfl rfl rfl ?_; clear hf fa; intro fa hf
          refine sqv hf (r_loadA (cs := [(.int .u32 ip.2.2.2.2.1.1), (.int .u32 ip.2.2.2.2.1.2.1), (.bool ip.2.2.2.2.1.2.2.1)]) rfl Try.underlying43 rfl (by kernel_rfl) (cellsAt_part (d := 4) (n := 3) (cellsAt_blk hk1) rfl rfl)) rfl rfl rfl ?_; clear hf fa; intro fa hf
          refine sqdt hf (d_callB (vs := [(.agg #[(.int .u32 ip.2.2.2.2.1.1), (.int .u32 ip.2.2.2.2.1.2.1), (.bool ip.2.2.2.2.1.2.2.1)])]) rfl Try.func30 (by kernel_rfl) (by kernel_rfl) (rencl_any ip.2.2.2.2.1 _ hok3 hok4)) rfl rfl rfl ?_; clear hf fa; rintro fa _ w5 ⟨rfl, he5⟩ hf
          replace hk1 := blk_ext hk1 he5
          replace hk2 := blk_ext hk2 he5
          replace hb := hb.trans (Below.mono he5 hb.size)
          refine sqv hf (r_sadd rfl rfl (by have := strOfNums_size (nameL ip.1); have := strOfNums_size (nameL ip.2.1); have := sz_app (strOfNums (nameL ip.1)) (strOfNums (nameL ip.2.1)); have := strOfNums_size [ip.2.2.1]; (try simp only [List.length_cons, List.length_nil, List.length_append] at this); have := sz_app ((strOfNums (nameL ip.1)) ++ (strOfNums (nameL ip.2.1))) (strOfNums [ip.2.2.1]); have := strOfNums_size (encL ip.2.2.2.2.1); omega)) rfl rfl rfl ?_; clear hf fa; intro fa hf
          refine sqv hf (r_assign rfl) rfl rfl rfl ?_; clear hf fa; intro fa hf
          apply wpList_nil
          (try simp only [Exit.then, Exit.inBlock, ↓reduceIte, Nat.reduceEqDiff])
          refine hK10 _ _ ?_
          refine wp_ret ?_
          (try simp only [Exit.then, Exit.inBlock])
          refine ret1 hf rfl rfl ?_
          refine ⟨?_, hb⟩
          rw [show strOfNums (encI ip) = ((strOfNums (nameL ip.1) ++ strOfNums (nameL ip.2.1)) ++ strOfNums [ip.2.2.1]) ++ strOfNums (tailI ip) by unfold encI; rw [strOfNums_app, strOfNums_app, strOfNums_app], tail2 hqt34_1]
          (try rfl)
          (try (rw [strOfNums_app, ← ByteArray.append_assoc]; rfl))
        · have hqt34_1b := hqt34_1
          replace hqt34_1 := Bool.eq_false_iff.1 hqt34_1
          try simp only [ne_eq, decide_eq_true_eq, Bool.and_eq_true, Bool.or_eq_true, Bool.not_eq_true', decide_eq_false_iff_not] at hqt34_1
          refine wp_skip ?_
          (try simp only [Exit.then, Exit.inBlock, ↓reduceIte, Nat.reduceEqDiff])
          refine hK3 _ _ ?_
          refine wp_seq_k (fun K11 hK11 => ?_)
          refine wp_region_lit ?_
          refine sqv hf (r_move rfl) rfl rfl rfl ?_; clear hf fa; intro fa hf
          refine sqv hf (r_fa rfl Try.underlying81 (f := 5) (q := 7) rfl (by kernel_rfl) rfl) rfl rfl rfl ?_; clear hf fa; intro fa hf
          refine sqv hf (r_loadA (cs := [(.int .u8 ip.2.2.2.2.2.1.1), (.bool ip.2.2.2.2.2.1.2.1)]) rfl Try.underlying54 rfl (by kernel_rfl) (cellsAt_part (d := 7) (n := 2) (cellsAt_blk hk1) rfl rfl)) rfl rfl rfl ?_; clear hf fa; intro fa hf
          refine sqdt hf (d_callB (vs := [(.agg #[(.int .u8 ip.2.2.2.2.2.1.1), (.bool ip.2.2.2.2.2.1.2.1)])]) rfl Try.func40 (by kernel_rfl) (by kernel_rfl) (rencg_any ip.2.2.2.2.2.1 _ hok5)) rfl rfl rfl ?_; clear hf fa; rintro fa _ w6 ⟨rfl, he6⟩ hf
          replace hk1 := blk_ext hk1 he6
          replace hk2 := blk_ext hk2 he6
          replace hb := hb.trans (Below.mono he6 hb.size)
          refine sqv hf (r_sadd rfl rfl (by have := strOfNums_size (nameL ip.1); have := strOfNums_size (nameL ip.2.1); have := sz_app (strOfNums (nameL ip.1)) (strOfNums (nameL ip.2.1)); have := strOfNums_size [ip.2.2.1]; (try simp only [List.length_cons, List.length_nil, List.length_append] at this); have := sz_app ((strOfNums (nameL ip.1)) ++ (strOfNums (nameL ip.2.1))) (strOfNums [ip.2.2.1]); have := strOfNums_size (encG ip.2.2.2.2.2.1); omega)) rfl rfl rfl ?_; clear hf fa; intro fa hf
          refine sqv hf (r_assign rfl) rfl rfl rfl ?_; clear hf fa; intro fa hf
          apply wpList_nil
          (try simp only [Exit.then, Exit.inBlock, ↓reduceIte, Nat.reduceEqDiff])
          refine hK11 _ _ ?_
          refine wp_ret ?_
          (try simp only [Exit.then, Exit.inBlock])
          refine ret1 hf rfl rfl ?_
          refine ⟨?_, hb⟩
          rw [show strOfNums (encI ip) = ((strOfNums (nameL ip.1) ++ strOfNums (nameL ip.2.1)) ++ strOfNums [ip.2.2.1]) ++ strOfNums (tailI ip) by unfold encI; rw [strOfNums_app, strOfNums_app, strOfNums_app], tail3 hqt18_1 hqt26_1 hqt34_1]
          (try rfl)
          (try (rw [strOfNums_app, ← ByteArray.append_assoc]; rfl))

set_option maxHeartbeats 1000000 in
set_option maxRecDepth 100000 in
theorem siget_any (bs base p : Nat) (a : Option Addr) (c : Nat) (l : List Int) (w : World) (hks : w.heap[bs]? = some (.cells #[(.slice a l.length c), (.int .i64 ((p : Nat) : Int))] 161 (0, 0))) (hr0 : Row 1 (vInt .u8) 5 base w (.slice a l.length c) l) (hp : p ≤ l.length) (hb6 : ∀ y ∈ l, 0 ≤ y ∧ y < 256) (hlm : l.length ≤ 1000000) (ip : MImp) (hA : At l p (encI ip)) (hok : iokE ip) (hr : irightP ip = 0) : Calls Try.prog 101 #[(.pointer (some ⟨bs, 0, none⟩))] w fun e w' => e = .returned (.agg #[(.string ip.1), (.string ip.2.1), (.int .u8 ip.2.2.1), (.int .u32 ip.2.2.2.1), (.int .u32 ip.2.2.2.2.1.1), (.int .u32 ip.2.2.2.2.1.2.1), (.bool ip.2.2.2.2.1.2.2.1), (.int .u8 ip.2.2.2.2.2.1.1), (.bool ip.2.2.2.2.2.1.2.1)]) ∧ Wrote w bs #[(.slice a l.length c), (.int .i64 (((p + (encI ip).length) : Nat) : Int))] 161 w' := by
  have hcap := Row.caps hr0; have hR0lt := fun q hq => (Row.lt hr0 q hq).2; obtain ⟨hok1, hok2, hok3, hok4, hok5⟩ := hok; have hg := iright_good hr; have hg1 := goodN_of hg.m; have hg2 := goodN_of hg.n; have hgk := hg.k; have hA0 := hA.mv rfl (encI_form ip); have hA1 := hA0.fst
  have hA2 : At l (p + (uL (nums ip.1).length).length + (nums ip.1).length) (uL (nums ip.2.1).length ++ nums ip.2.1) := hA0.snd.fst.mv (by rw [List.length_append]; omega) rfl
  have hA3 : At l (p + (uL (nums ip.1).length).length + (nums ip.1).length + (uL (nums ip.2.1).length).length + (nums ip.2.1).length) ([ip.2.2.1] ++ tailI ip) := hA0.snd.snd.mv (by rw [List.length_append, List.length_append]; omega) rfl
  have hA4 := At.tail hA3; have hle := hA.le; have hEl : (encI ip).length = (uL (nums ip.1).length).length + (nums ip.1).length + ((uL (nums ip.2.1).length).length + (nums ip.2.1).length) + 1 + (tailI ip).length := by rw [encI_form]; simp only [List.length_append, List.length_cons, List.length_nil]; omega
  refine sx_enter (L := [(0, (.pointer (some ⟨bs, 0, none⟩)))]) Try.func101 rfl rfl rfl rfl (fun fa hf => ?_)
  have hb : KB bs w.heap.size w w := KB.refl _ _ _
  refine wp_seq_k (fun K1 hK1 => ?_)
  refine wp_region_lit ?_
  refine sqdt hf (d_alloc (z := (.agg #[(.string ⟨#[]⟩), (.string ⟨#[]⟩), (.int .u8 (0 : Int)), (.int .u32 (0 : Int)), (.int .u32 (0 : Int)), (.int .u32 (0 : Int)), (.bool false), (.int .u8 (0 : Int)), (.bool false)])) (cs := #[(.string ⟨#[]⟩), (.string ⟨#[]⟩), (.int .u8 (0 : Int)), (.int .u32 (0 : Int)), (.int .u32 (0 : Int)), (.int .u32 (0 : Int)), (.bool false), (.int .u8 (0 : Int)), (.bool false)]) (by kernel_rfl) rfl) rfl rfl rfl ?_; clear hf fa; rintro fa _ w1 ⟨b1, rfl, hle1, hk1, he1⟩ hf
  have hBb1 : w.heap.size ≤ b1 := Nat.le_trans hb.size hle1
  have : bs < b1 := Nat.lt_of_lt_of_le (blk_lt hks) hle1
  replace hks := blk_ext hks he1
  replace hr0 := Row.ext hr0 he1
  replace hb := hb.trans (Below.mono he1 hb.size)
  apply wpList_nil
  (try simp only [Exit.then, Exit.inBlock, ↓reduceIte, Nat.reduceEqDiff])
  refine hK1 _ _ ?_
  refine wp_seq_k (fun K2 hK2 => ?_)
  refine wp_region_lit ?_
  refine sqv hf (r_move rfl) rfl rfl rfl ?_; clear hf fa; intro fa hf
  refine sqdt hf (d_callW (v := (.string (strOfNums (nums ip.1)))) (b := bs) (T := 161) (cs := #[(.slice a l.length c), (.int .i64 (((p + (uL ((nums ip.1)).length).length + ((nums ip.1)).length) : Nat) : Int))]) (vs := [(.pointer (some ⟨bs, 0, none⟩))]) rfl Try.func125 (by kernel_rfl) (by kernel_rfl) (sname_any bs base p a c l _ hks hr0 (by omega) hb6 hlm (nums ip.1) hA1 hg1.2 hg1.1)) rfl rfl rfl ?_; clear hf fa; rintro fa _ w2 ⟨rfl, hk2, hg1⟩ hf
  replace hk1 := blk_grown hk1 hg1 (by omega)
  replace hr0 := Row.grown hr0 hg1 (Row.ne_type hr0 hks rfl)
  replace hb := hb.wrote hg1 hb.size
  refine sqv hf (r_move rfl) rfl rfl rfl ?_; clear hf fa; intro fa hf
  refine sqdt hf (d_callW (v := (.string (strOfNums (nums ip.2.1)))) (b := bs) (T := 161) (cs := #[(.slice a l.length c), (.int .i64 (((((p + (uL ((nums ip.1)).length).length + ((nums ip.1)).length)) + (uL ((nums ip.2.1)).length).length + ((nums ip.2.1)).length) : Nat) : Int))]) (vs := [(.pointer (some ⟨bs, 0, none⟩))]) rfl Try.func125 (by kernel_rfl) (by kernel_rfl) (sname_any bs base ((p + (uL ((nums ip.1)).length).length + ((nums ip.1)).length)) a c l _ hk2 hr0 (by omega) hb6 hlm (nums ip.2.1) hA2 hg2.2 hg2.1)) rfl rfl rfl ?_; clear hf fa; rintro fa _ w3 ⟨rfl, hk3, hg2⟩ hf
  replace hk1 := blk_grown hk1 hg2 (by omega)
  replace hr0 := Row.grown hr0 hg2 (Row.ne_type hr0 hk2 rfl)
  replace hb := hb.wrote hg2 hb.size
  refine sqv hf (r_build (vs := [(0, (.string (strOfNums (nums ip.1)))), (1, (.string (strOfNums (nums ip.2.1))))]) (cs := #[(.string (strOfNums (nums ip.1))), (.string (strOfNums (nums ip.2.1))), (.int .u8 (0 : Int)), (.int .u32 (0 : Int)), (.int .u32 (0 : Int)), (.int .u32 (0 : Int)), (.bool false), (.int .u8 (0 : Int)), (.bool false)]) rfl (fun _ => by kernel_rfl)) rfl rfl rfl ?_; clear hf fa; intro fa hf
  refine sqdt hf (d_alloc (z := (.agg #[(.string ⟨#[]⟩), (.string ⟨#[]⟩), (.int .u8 (0 : Int)), (.int .u32 (0 : Int)), (.int .u32 (0 : Int)), (.int .u32 (0 : Int)), (.bool false), (.int .u8 (0 : Int)), (.bool false)])) (cs := #[(.string ⟨#[]⟩), (.string ⟨#[]⟩), (.int .u8 (0 : Int)), (.int .u32 (0 : Int)), (.int .u32 (0 : Int)), (.int .u32 (0 : Int)), (.bool false), (.int .u8 (0 : Int)), (.bool false)]) (by kernel_rfl) rfl) rfl rfl rfl ?_; clear hf fa; rintro fa _ w4 ⟨b2, rfl, hle2, hk4, he2⟩ hf
  have hBb2 : w.heap.size ≤ b2 := Nat.le_trans hb.size hle2
  have : bs < b2 := Nat.lt_of_lt_of_le (blk_lt hk3) hle2
  have : b1 < b2 := Nat.lt_of_lt_of_le (blk_lt hk1) hle2
  replace hk3 := blk_ext hk3 he2
  replace hk1 := blk_ext hk1 he2
  replace hr0 := Row.ext hr0 he2
  replace hb := hb.trans (Below.mono he2 hb.size)
  refine sqn hf (d_storeK (T := 81) (v := (.agg #[(.string (strOfNums (nums ip.1))), (.string (strOfNums (nums ip.2.1))), (.int .u8 (0 : Int)), (.int .u32 (0 : Int)), (.int .u32 (0 : Int)), (.int .u32 (0 : Int)), (.bool false), (.int .u8 (0 : Int)), (.bool false)])) (cs := #[(.string ⟨#[]⟩), (.string ⟨#[]⟩), (.int .u8 (0 : Int)), (.int .u32 (0 : Int)), (.int .u32 (0 : Int)), (.int .u32 (0 : Int)), (.bool false), (.int .u8 (0 : Int)), (.bool false)]) (cs' := #[(.string (strOfNums (nums ip.1))), (.string (strOfNums (nums ip.2.1))), (.int .u8 (0 : Int)), (.int .u32 (0 : Int)), (.int .u32 (0 : Int)), (.int .u32 (0 : Int)), (.bool false), (.int .u8 (0 : Int)), (.bool false)]) rfl rfl (by kernel_rfl) (by kernel_rfl) hk4 (by kernel_rfl) (by kernel_rfl)) rfl rfl ?_; clear hf fa; rintro fa _ w5 ⟨hk5, hg3⟩ hf
  replace hk3 := blk_grown hk3 hg3 (by omega)
  replace hk1 := blk_grown hk1 hg3 (by omega)
  replace hr0 := Row.grown hr0 hg3 (Row.ne_type hr0 hk4 rfl)
  replace hb := hb.trans (grown_below hg3 hb.size hBb2)
  apply wpList_nil
  (try simp only [Exit.then, Exit.inBlock, ↓reduceIte, Nat.reduceEqDiff])
  refine hK2 _ _ ?_
  refine wp_seq_k (fun K3 hK3 => ?_)
  refine wp_region_lit ?_
  refine sqv hf (r_move rfl) rfl rfl rfl ?_; clear hf fa; intro fa hf
  refine sqdt hf (d_callB (vs := [(.pointer (some ⟨bs, 0, none⟩))]) rfl Try.func126 (by kernel_rfl) (by kernel_rfl) (at_any bs base ((((p + (uL ((nums ip.1)).length).length + ((nums ip.1)).length)) + (uL ((nums ip.2.1)).length).length + ((nums ip.2.1)).length)) a c l _ hk3 hr0 (by omega))) rfl rfl rfl ?_; clear hf fa; rintro fa _ w6 ⟨rfl, he3⟩ hf
  replace hk3 := blk_ext hk3 he3
  replace hk1 := blk_ext hk1 he3
  replace hk5 := blk_ext hk5 he3
  replace hr0 := Row.ext hr0 he3
  replace hb := hb.trans (Below.mono he3 hb.size)
  refine sqv hf (r_assign rfl) rfl rfl rfl ?_; clear hf fa; intro fa hf
  apply wpList_nil
  (try simp only [Exit.then, Exit.inBlock, ↓reduceIte, Nat.reduceEqDiff])
  refine hK3 _ _ ?_
  refine wp_seq_k (fun K4 hK4 => ?_)
  refine wp_region_lit ?_
  refine sqv hf (r_move rfl) rfl rfl rfl ?_; clear hf fa; intro fa hf
  refine sqdt hf (d_callW (v := (.int .u8 ip.2.2.1)) (b := bs) (T := 161) (cs := #[(.slice a l.length c), (.int .i64 (((((((p + (uL ((nums ip.1)).length).length + ((nums ip.1)).length)) + (uL ((nums ip.2.1)).length).length + ((nums ip.2.1)).length)) + 1) : Nat) : Int))]) (vs := [(.pointer (some ⟨bs, 0, none⟩))]) rfl Try.func61 (by kernel_rfl) (by kernel_rfl) (sbyte_any bs base ((((p + (uL ((nums ip.1)).length).length + ((nums ip.1)).length)) + (uL ((nums ip.2.1)).length).length + ((nums ip.2.1)).length)) a c l _ hk3 hr0 (by omega) ip.2.2.1 (At.head hA3))) rfl rfl rfl ?_; clear hf fa; rintro fa _ w7 ⟨rfl, hk6, hg4⟩ hf
  replace hk1 := blk_grown hk1 hg4 (by omega)
  replace hk5 := blk_grown hk5 hg4 (by omega)
  replace hr0 := Row.grown hr0 hg4 (Row.ne_type hr0 hk3 rfl)
  replace hb := hb.wrote hg4 hb.size
  refine sqv hf (r_fa rfl Try.underlying81 (f := 2) (q := 2) rfl (by kernel_rfl) rfl) rfl rfl rfl ?_; clear hf fa; intro fa hf
  refine sqn hf (d_storeK (T := 81) (v := (.int .u8 ip.2.2.1)) (cs := #[(.string (strOfNums (nums ip.1))), (.string (strOfNums (nums ip.2.1))), (.int .u8 (0 : Int)), (.int .u32 (0 : Int)), (.int .u32 (0 : Int)), (.int .u32 (0 : Int)), (.bool false), (.int .u8 (0 : Int)), (.bool false)]) (cs' := #[(.string (strOfNums (nums ip.1))), (.string (strOfNums (nums ip.2.1))), (.int .u8 ip.2.2.1), (.int .u32 (0 : Int)), (.int .u32 (0 : Int)), (.int .u32 (0 : Int)), (.bool false), (.int .u8 (0 : Int)), (.bool false)]) rfl rfl (by kernel_rfl) (by kernel_rfl) hk5 (by kernel_rfl) (by kernel_rfl)) rfl rfl ?_; clear hf fa; rintro fa _ w8 ⟨hk7, hg5⟩ hf
  replace hk6 := blk_grown hk6 hg5 (by omega)
  replace hk1 := blk_grown hk1 hg5 (by omega)
  replace hr0 := Row.grown hr0 hg5 (Row.ne_type hr0 hk5 rfl)
  replace hb := hb.trans (grown_below hg5 hb.size hBb2)
  apply wpList_nil
  (try simp only [Exit.then, Exit.inBlock, ↓reduceIte, Nat.reduceEqDiff])
  refine hK4 _ _ ?_
  refine wp_seq_k (fun K5 hK5 => ?_)
  refine wp_seq_k (fun K6 hK6 => ?_)
  refine wp_region_lit ?_
  refine sqv hf (r_fa rfl Try.underlying81 (f := 2) (q := 2) rfl (by kernel_rfl) rfl) rfl rfl rfl ?_; clear hf fa; intro fa hf
  refine sqv hf (r_load (v := (.int .u8 ip.2.2.1)) rfl Try.underlying5 rfl (cell_blk hk7 rfl)) rfl rfl rfl ?_; clear hf fa; intro fa hf
  apply wpList_nil
  (try simp only [Exit.then, Exit.inBlock, ↓reduceIte, Nat.reduceEqDiff])
  refine hK6 _ _ ?_
  refine wp_block ?_
  refine wp_seq_k (fun K7 hK7 => ?_)
  refine wp_region_lit ?_
  refine sqv hf (r_eq rfl rfl) rfl rfl rfl ?_; clear hf fa; intro fa hf
  refine sqv hf (r_assign rfl) rfl rfl rfl ?_; clear hf fa; intro fa hf
  apply wpList_nil
  (try simp only [Exit.then, Exit.inBlock, ↓reduceIte, Nat.reduceEqDiff])
  refine hK7 _ _ ?_
  refine wp_cond_split (t := (decide (ip.2.2.1 = (0 : Int)))) (hf.ev rfl) (fun hqt19_1 => ?_) (fun hqt19_1 => ?_)
  · have hqt19_1b := hqt19_1
    try simp only [decide_eq_true_eq, Bool.and_eq_true, Bool.or_eq_true, Bool.not_eq_true', decide_eq_false_iff_not, ne_eq, Bool.not_eq_true] at hqt19_1
    have hT := tail0 hqt19_1
    have hA5 : At l (p + (uL (nums ip.1).length).length + (nums ip.1).length + (uL (nums ip.2.1).length).length + (nums ip.2.1).length + 1) (uL ip.2.2.2.1.toNat) := hT ▸ hA4
    have hle5 := hA5.le; (try simp only [List.length_append, List.length_cons, List.length_nil] at hle5)
    refine wp_region_lit ?_
    refine sqv hf (r_move rfl) rfl rfl rfl ?_; clear hf fa; intro fa hf
    refine sqdt hf (d_callW (v := (.int .u32 ((ip.2.2.2.1.toNat : Nat) : Int))) (b := bs) (T := 161) (cs := #[(.slice a l.length c), (.int .i64 (((((((((p + (uL ((nums ip.1)).length).length + ((nums ip.1)).length)) + (uL ((nums ip.2.1)).length).length + ((nums ip.2.1)).length)) + 1)) + (uL ip.2.2.2.1.toNat).length) : Nat) : Int))]) (vs := [(.pointer (some ⟨bs, 0, none⟩))]) rfl Try.func121 (by kernel_rfl) (by kernel_rfl) (index_any bs base ((((((p + (uL ((nums ip.1)).length).length + ((nums ip.1)).length)) + (uL ((nums ip.2.1)).length).length + ((nums ip.2.1)).length)) + 1)) a c l _ hk6 hr0 (by omega) hb6 hlm ip.2.2.2.1.toNat hA5 (by omega))) rfl rfl rfl ?_; clear hf fa; rintro fa _ w9 ⟨rfl, hk8, hg6⟩ hf
    replace hk1 := blk_grown hk1 hg6 (by omega)
    replace hk7 := blk_grown hk7 hg6 (by omega)
    replace hr0 := Row.grown hr0 hg6 (Row.ne_type hr0 hk6 rfl)
    replace hb := hb.wrote hg6 hb.size
    refine sqv hf (r_fa rfl Try.underlying81 (f := 3) (q := 3) rfl (by kernel_rfl) rfl) rfl rfl rfl ?_; clear hf fa; intro fa hf
    refine sqn hf (d_storeK (T := 81) (v := (.int .u32 ((ip.2.2.2.1.toNat : Nat) : Int))) (cs := #[(.string (strOfNums (nums ip.1))), (.string (strOfNums (nums ip.2.1))), (.int .u8 ip.2.2.1), (.int .u32 (0 : Int)), (.int .u32 (0 : Int)), (.int .u32 (0 : Int)), (.bool false), (.int .u8 (0 : Int)), (.bool false)]) (cs' := #[(.string (strOfNums (nums ip.1))), (.string (strOfNums (nums ip.2.1))), (.int .u8 ip.2.2.1), (.int .u32 ((ip.2.2.2.1.toNat : Nat) : Int)), (.int .u32 (0 : Int)), (.int .u32 (0 : Int)), (.bool false), (.int .u8 (0 : Int)), (.bool false)]) rfl rfl (by kernel_rfl) (by kernel_rfl) hk7 (by kernel_rfl) (by kernel_rfl)) rfl rfl ?_; clear hf fa; rintro fa _ w10 ⟨hk9, hg7⟩ hf
    replace hk8 := blk_grown hk8 hg7 (by omega)
    replace hk1 := blk_grown hk1 hg7 (by omega)
    replace hr0 := Row.grown hr0 hg7 (Row.ne_type hr0 hk7 rfl)
    replace hb := hb.trans (grown_below hg7 hb.size hBb2)
    apply wpList_nil
    (try simp only [Exit.then, Exit.inBlock, ↓reduceIte, Nat.reduceEqDiff])
    refine hK5 _ _ ?_
    refine wp_seq_k (fun K8 hK8 => ?_)
    refine wp_region_lit ?_
    refine sqv hf (r_loadA (cs := [(.string (strOfNums (nums ip.1))), (.string (strOfNums (nums ip.2.1))), (.int .u8 ip.2.2.1), (.int .u32 ((ip.2.2.2.1.toNat : Nat) : Int)), (.int .u32 (0 : Int)), (.int .u32 (0 : Int)), (.bool false), (.int .u8 (0 : Int)), (.bool false)]) rfl Try.underlying81 rfl (by kernel_rfl) (cellsAt_blk hk9)) rfl rfl rfl ?_; clear hf fa; intro fa hf
    refine sqn hf (d_storeK (T := 81) (v := (.agg #[(.string (strOfNums (nums ip.1))), (.string (strOfNums (nums ip.2.1))), (.int .u8 ip.2.2.1), (.int .u32 ((ip.2.2.2.1.toNat : Nat) : Int)), (.int .u32 (0 : Int)), (.int .u32 (0 : Int)), (.bool false), (.int .u8 (0 : Int)), (.bool false)])) (cs := #[(.string ⟨#[]⟩), (.string ⟨#[]⟩), (.int .u8 (0 : Int)), (.int .u32 (0 : Int)), (.int .u32 (0 : Int)), (.int .u32 (0 : Int)), (.bool false), (.int .u8 (0 : Int)), (.bool false)]) (cs' := #[(.string (strOfNums (nums ip.1))), (.string (strOfNums (nums ip.2.1))), (.int .u8 ip.2.2.1), (.int .u32 ((ip.2.2.2.1.toNat : Nat) : Int)), (.int .u32 (0 : Int)), (.int .u32 (0 : Int)), (.bool false), (.int .u8 (0 : Int)), (.bool false)]) rfl rfl (by kernel_rfl) (by kernel_rfl) hk1 (by kernel_rfl) (by kernel_rfl)) rfl rfl ?_; clear hf fa; rintro fa _ w11 ⟨hk10, hg8⟩ hf
    replace hk8 := blk_grown hk8 hg8 (by omega)
    replace hk9 := blk_grown hk9 hg8 (by omega)
    replace hr0 := Row.grown hr0 hg8 (Row.ne_type hr0 hk1 rfl)
    replace hb := hb.trans (grown_below hg8 hb.size hBb1)
    apply wpList_nil
    (try simp only [Exit.then, Exit.inBlock, ↓reduceIte, Nat.reduceEqDiff])
    refine hK8 _ _ ?_
    refine wp_ret ?_
    (try simp only [Exit.then, Exit.inBlock])
    refine retC hf rfl rfl hk10 Try.underlying81 rfl (by kernel_rfl) ?_
    refine ⟨?_, wrote_eq ⟨hk8, hb.grown⟩ (by rw [hEl, hT]; (try simp only [List.length_append, List.length_cons, List.length_nil]); omega)⟩
    rw [strOfNums_nums, strOfNums_nums]
    obtain ⟨md, nm, kd, ty, ⟨l1, l2, l3, _⟩, ⟨g1, g2, _⟩, _⟩ := ip
    dsimp only at *
    have hk1 := hg.t; have hk2 := hg.l; have hk3 := hg.g
    dsimp only at hk1 hk2 hk3
    rw [show ((ty.toNat : Nat) : Int) = ty by omega]
    simp_all
  · have hqt19_1b := hqt19_1
    replace hqt19_1 := Bool.eq_false_iff.1 hqt19_1
    try simp only [ne_eq, decide_eq_true_eq, Bool.and_eq_true, Bool.or_eq_true, Bool.not_eq_true', decide_eq_false_iff_not] at hqt19_1
    refine wp_seq_k (fun K9 hK9 => ?_)
    refine wp_region_lit ?_
    refine sqv hf (r_eq rfl rfl) rfl rfl rfl ?_; clear hf fa; intro fa hf
    refine sqv hf (r_assign rfl) rfl rfl rfl ?_; clear hf fa; intro fa hf
    apply wpList_nil
    (try simp only [Exit.then, Exit.inBlock, ↓reduceIte, Nat.reduceEqDiff])
    refine hK9 _ _ ?_
    refine wp_cond_split (t := (decide (ip.2.2.1 = (1 : Int)))) (hf.ev rfl) (fun hqt24_1 => ?_) (fun hqt24_1 => ?_)
    · have hqt24_1b := hqt24_1
      try simp only [decide_eq_true_eq, Bool.and_eq_true, Bool.or_eq_true, Bool.not_eq_true', decide_eq_false_iff_not, ne_eq, Bool.not_eq_true] at hqt24_1
      have hT := tail1 hqt24_1
      have hA5 : At l (p + (uL (nums ip.1).length).length + (nums ip.1).length + (uL (nums ip.2.1).length).length + (nums ip.2.1).length + 1) ([(112 : Int)] ++ encL ip.2.2.2.2.1) := hT ▸ hA4
      have hle5 := hA5.le; (try simp only [List.length_append, List.length_cons, List.length_nil] at hle5)
      refine wp_region_lit ?_
      refine sqv hf (r_move rfl) rfl rfl rfl ?_; clear hf fa; intro fa hf
      refine sqdt hf (d_callW (v := (.agg #[(.int .u32 ip.2.2.2.2.1.1), (.int .u32 ip.2.2.2.2.1.2.1), (.bool ip.2.2.2.2.1.2.2.1)])) (b := bs) (T := 161) (cs := #[(.slice a l.length c), (.int .i64 (((((((((p + (uL ((nums ip.1)).length).length + ((nums ip.1)).length)) + (uL ((nums ip.2.1)).length).length + ((nums ip.2.1)).length)) + 1)) + 1 + (encL ip.2.2.2.2.1).length) : Nat) : Int))]) (vs := [(.pointer (some ⟨bs, 0, none⟩))]) rfl Try.func144 (by kernel_rfl) (by kernel_rfl) (stable_any bs base ((((((p + (uL ((nums ip.1)).length).length + ((nums ip.1)).length)) + (uL ((nums ip.2.1)).length).length + ((nums ip.2.1)).length)) + 1)) a c l _ hk6 hr0 (by omega) hb6 hlm ip.2.2.2.2.1 hA5 hok3 hok4 hg.z)) rfl rfl rfl ?_; clear hf fa; rintro fa _ w12 ⟨rfl, hk11, hg9⟩ hf
      replace hk1 := blk_grown hk1 hg9 (by omega)
      replace hk7 := blk_grown hk7 hg9 (by omega)
      replace hr0 := Row.grown hr0 hg9 (Row.ne_type hr0 hk6 rfl)
      replace hb := hb.wrote hg9 hb.size
      refine sqv hf (r_fa rfl Try.underlying81 (f := 4) (q := 4) rfl (by kernel_rfl) rfl) rfl rfl rfl ?_; clear hf fa; intro fa hf
      refine sqn hf (d_storeK (T := 81) (v := (.agg #[(.int .u32 ip.2.2.2.2.1.1), (.int .u32 ip.2.2.2.2.1.2.1), (.bool ip.2.2.2.2.1.2.2.1)])) (cs := #[(.string (strOfNums (nums ip.1))), (.string (strOfNums (nums ip.2.1))), (.int .u8 ip.2.2.1), (.int .u32 (0 : Int)), (.int .u32 (0 : Int)), (.int .u32 (0 : Int)), (.bool false), (.int .u8 (0 : Int)), (.bool false)]) (cs' := #[(.string (strOfNums (nums ip.1))), (.string (strOfNums (nums ip.2.1))), (.int .u8 ip.2.2.1), (.int .u32 (0 : Int)), (.int .u32 ip.2.2.2.2.1.1), (.int .u32 ip.2.2.2.2.1.2.1), (.bool ip.2.2.2.2.1.2.2.1), (.int .u8 (0 : Int)), (.bool false)]) rfl rfl (by kernel_rfl) (by kernel_rfl) hk7 (by kernel_rfl) (by kernel_rfl)) rfl rfl ?_; clear hf fa; rintro fa _ w13 ⟨hk12, hg10⟩ hf
      replace hk11 := blk_grown hk11 hg10 (by omega)
      replace hk1 := blk_grown hk1 hg10 (by omega)
      replace hr0 := Row.grown hr0 hg10 (Row.ne_type hr0 hk7 rfl)
      replace hb := hb.trans (grown_below hg10 hb.size hBb2)
      apply wpList_nil
      (try simp only [Exit.then, Exit.inBlock, ↓reduceIte, Nat.reduceEqDiff])
      refine hK5 _ _ ?_
      refine wp_seq_k (fun K10 hK10 => ?_)
      refine wp_region_lit ?_
      refine sqv hf (r_loadA (cs := [(.string (strOfNums (nums ip.1))), (.string (strOfNums (nums ip.2.1))), (.int .u8 ip.2.2.1), (.int .u32 (0 : Int)), (.int .u32 ip.2.2.2.2.1.1), (.int .u32 ip.2.2.2.2.1.2.1), (.bool ip.2.2.2.2.1.2.2.1), (.int .u8 (0 : Int)), (.bool false)]) rfl Try.underlying81 rfl (by kernel_rfl) (cellsAt_blk hk12)) rfl rfl rfl ?_; clear hf fa; intro fa hf
      refine sqn hf (d_storeK (T := 81) (v := (.agg #[(.string (strOfNums (nums ip.1))), (.string (strOfNums (nums ip.2.1))), (.int .u8 ip.2.2.1), (.int .u32 (0 : Int)), (.int .u32 ip.2.2.2.2.1.1), (.int .u32 ip.2.2.2.2.1.2.1), (.bool ip.2.2.2.2.1.2.2.1), (.int .u8 (0 : Int)), (.bool false)])) (cs := #[(.string ⟨#[]⟩), (.string ⟨#[]⟩), (.int .u8 (0 : Int)), (.int .u32 (0 : Int)), (.int .u32 (0 : Int)), (.int .u32 (0 : Int)), (.bool false), (.int .u8 (0 : Int)), (.bool false)]) (cs' := #[(.string (strOfNums (nums ip.1))), (.string (strOfNums (nums ip.2.1))), (.int .u8 ip.2.2.1), (.int .u32 (0 : Int)), (.int .u32 ip.2.2.2.2.1.1), (.int .u32 ip.2.2.2.2.1.2.1), (.bool ip.2.2.2.2.1.2.2.1), (.int .u8 (0 : Int)), (.bool false)]) rfl rfl (by kernel_rfl) (by kernel_rfl) hk1 (by kernel_rfl) (by kernel_rfl)) rfl rfl ?_; clear hf fa; rintro fa _ w14 ⟨hk13, hg11⟩ hf
      replace hk11 := blk_grown hk11 hg11 (by omega)
      replace hk12 := blk_grown hk12 hg11 (by omega)
      replace hr0 := Row.grown hr0 hg11 (Row.ne_type hr0 hk1 rfl)
      replace hb := hb.trans (grown_below hg11 hb.size hBb1)
      apply wpList_nil
      (try simp only [Exit.then, Exit.inBlock, ↓reduceIte, Nat.reduceEqDiff])
      refine hK10 _ _ ?_
      refine wp_ret ?_
      (try simp only [Exit.then, Exit.inBlock])
      refine retC hf rfl rfl hk13 Try.underlying81 rfl (by kernel_rfl) ?_
      refine ⟨?_, wrote_eq ⟨hk11, hb.grown⟩ (by rw [hEl, hT]; (try simp only [List.length_append, List.length_cons, List.length_nil]); omega)⟩
      rw [strOfNums_nums, strOfNums_nums]
      obtain ⟨md, nm, kd, ty, ⟨l1, l2, l3, _⟩, ⟨g1, g2, _⟩, _⟩ := ip
      dsimp only at *
      have hk1 := hg.t; have hk2 := hg.l; have hk3 := hg.g
      dsimp only at hk1 hk2 hk3
      simp_all
    · have hqt24_1b := hqt24_1
      replace hqt24_1 := Bool.eq_false_iff.1 hqt24_1
      try simp only [ne_eq, decide_eq_true_eq, Bool.and_eq_true, Bool.or_eq_true, Bool.not_eq_true', decide_eq_false_iff_not] at hqt24_1
      refine wp_seq_k (fun K11 hK11 => ?_)
      refine wp_region_lit ?_
      refine sqv hf (r_eq rfl rfl) rfl rfl rfl ?_; clear hf fa; intro fa hf
      refine sqv hf (r_assign rfl) rfl rfl rfl ?_; clear hf fa; intro fa hf
      apply wpList_nil
      (try simp only [Exit.then, Exit.inBlock, ↓reduceIte, Nat.reduceEqDiff])
      refine hK11 _ _ ?_
      refine wp_cond_split (t := (decide (ip.2.2.1 = (2 : Int)))) (hf.ev rfl) (fun hqt29_1 => ?_) (fun hqt29_1 => ?_)
      · have hqt29_1b := hqt29_1
        try simp only [decide_eq_true_eq, Bool.and_eq_true, Bool.or_eq_true, Bool.not_eq_true', decide_eq_false_iff_not, ne_eq, Bool.not_eq_true] at hqt29_1
        have hT := tail2 hqt29_1
        have hA5 : At l (p + (uL (nums ip.1).length).length + (nums ip.1).length + (uL (nums ip.2.1).length).length + (nums ip.2.1).length + 1) (encL ip.2.2.2.2.1) := hT ▸ hA4
        have hle5 := hA5.le; (try simp only [List.length_append, List.length_cons, List.length_nil] at hle5)
        refine wp_region_lit ?_
        refine sqv hf (r_move rfl) rfl rfl rfl ?_; clear hf fa; intro fa hf
        refine sqdt hf (d_callW (v := (.agg #[(.int .u32 ip.2.2.2.2.1.1), (.int .u32 ip.2.2.2.2.1.2.1), (.bool ip.2.2.2.2.1.2.2.1)])) (b := bs) (T := 161) (cs := #[(.slice a l.length c), (.int .i64 (((((((((p + (uL ((nums ip.1)).length).length + ((nums ip.1)).length)) + (uL ((nums ip.2.1)).length).length + ((nums ip.2.1)).length)) + 1)) + (encL ip.2.2.2.2.1).length) : Nat) : Int))]) (vs := [(.pointer (some ⟨bs, 0, none⟩))]) rfl Try.func64 (by kernel_rfl) (by kernel_rfl) (slim_any bs base ((((((p + (uL ((nums ip.1)).length).length + ((nums ip.1)).length)) + (uL ((nums ip.2.1)).length).length + ((nums ip.2.1)).length)) + 1)) a c l _ hk6 hr0 (by omega) hb6 hlm ip.2.2.2.2.1 hA5 hok3 hok4 hg.z)) rfl rfl rfl ?_; clear hf fa; rintro fa _ w15 ⟨rfl, hk14, hg12⟩ hf
        replace hk1 := blk_grown hk1 hg12 (by omega)
        replace hk7 := blk_grown hk7 hg12 (by omega)
        replace hr0 := Row.grown hr0 hg12 (Row.ne_type hr0 hk6 rfl)
        replace hb := hb.wrote hg12 hb.size
        refine sqv hf (r_fa rfl Try.underlying81 (f := 4) (q := 4) rfl (by kernel_rfl) rfl) rfl rfl rfl ?_; clear hf fa; intro fa hf
        refine sqn hf (d_storeK (T := 81) (v := (.agg #[(.int .u32 ip.2.2.2.2.1.1), (.int .u32 ip.2.2.2.2.1.2.1), (.bool ip.2.2.2.2.1.2.2.1)])) (cs := #[(.string (strOfNums (nums ip.1))), (.string (strOfNums (nums ip.2.1))), (.int .u8 ip.2.2.1), (.int .u32 (0 : Int)), (.int .u32 (0 : Int)), (.int .u32 (0 : Int)), (.bool false), (.int .u8 (0 : Int)), (.bool false)]) (cs' := #[(.string (strOfNums (nums ip.1))), (.string (strOfNums (nums ip.2.1))), (.int .u8 ip.2.2.1), (.int .u32 (0 : Int)), (.int .u32 ip.2.2.2.2.1.1), (.int .u32 ip.2.2.2.2.1.2.1), (.bool ip.2.2.2.2.1.2.2.1), (.int .u8 (0 : Int)), (.bool false)]) rfl rfl (by kernel_rfl) (by kernel_rfl) hk7 (by kernel_rfl) (by kernel_rfl)) rfl rfl ?_; clear hf fa; rintro fa _ w16 ⟨hk15, hg13⟩ hf
        replace hk14 := blk_grown hk14 hg13 (by omega)
        replace hk1 := blk_grown hk1 hg13 (by omega)
        replace hr0 := Row.grown hr0 hg13 (Row.ne_type hr0 hk7 rfl)
        replace hb := hb.trans (grown_below hg13 hb.size hBb2)
        apply wpList_nil
        (try simp only [Exit.then, Exit.inBlock, ↓reduceIte, Nat.reduceEqDiff])
        refine hK5 _ _ ?_
        refine wp_seq_k (fun K12 hK12 => ?_)
        refine wp_region_lit ?_
        refine sqv hf (r_loadA (cs := [(.string (strOfNums (nums ip.1))), (.string (strOfNums (nums ip.2.1))), (.int .u8 ip.2.2.1), (.int .u32 (0 : Int)), (.int .u32 ip.2.2.2.2.1.1), (.int .u32 ip.2.2.2.2.1.2.1), (.bool ip.2.2.2.2.1.2.2.1), (.int .u8 (0 : Int)), (.bool false)]) rfl Try.underlying81 rfl (by kernel_rfl) (cellsAt_blk hk15)) rfl rfl rfl ?_; clear hf fa; intro fa hf
        refine sqn hf (d_storeK (T := 81) (v := (.agg #[(.string (strOfNums (nums ip.1))), (.string (strOfNums (nums ip.2.1))), (.int .u8 ip.2.2.1), (.int .u32 (0 : Int)), (.int .u32 ip.2.2.2.2.1.1), (.int .u32 ip.2.2.2.2.1.2.1), (.bool ip.2.2.2.2.1.2.2.1), (.int .u8 (0 : Int)), (.bool false)])) (cs := #[(.string ⟨#[]⟩), (.string ⟨#[]⟩), (.int .u8 (0 : Int)), (.int .u32 (0 : Int)), (.int .u32 (0 : Int)), (.int .u32 (0 : Int)), (.bool false), (.int .u8 (0 : Int)), (.bool false)]) (cs' := #[(.string (strOfNums (nums ip.1))), (.string (strOfNums (nums ip.2.1))), (.int .u8 ip.2.2.1), (.int .u32 (0 : Int)), (.int .u32 ip.2.2.2.2.1.1), (.int .u32 ip.2.2.2.2.1.2.1), (.bool ip.2.2.2.2.1.2.2.1), (.int .u8 (0 : Int)), (.bool false)]) rfl rfl (by kernel_rfl) (by kernel_rfl) hk1 (by kernel_rfl) (by kernel_rfl)) rfl rfl ?_; clear hf fa; rintro fa _ w17 ⟨hk16, hg14⟩ hf
        replace hk14 := blk_grown hk14 hg14 (by omega)
        replace hk15 := blk_grown hk15 hg14 (by omega)
        replace hr0 := Row.grown hr0 hg14 (Row.ne_type hr0 hk1 rfl)
        replace hb := hb.trans (grown_below hg14 hb.size hBb1)
        apply wpList_nil
        (try simp only [Exit.then, Exit.inBlock, ↓reduceIte, Nat.reduceEqDiff])
        refine hK12 _ _ ?_
        refine wp_ret ?_
        (try simp only [Exit.then, Exit.inBlock])
        refine retC hf rfl rfl hk16 Try.underlying81 rfl (by kernel_rfl) ?_
        refine ⟨?_, wrote_eq ⟨hk14, hb.grown⟩ (by rw [hEl, hT]; (try simp only [List.length_append, List.length_cons, List.length_nil]); omega)⟩
        rw [strOfNums_nums, strOfNums_nums]
        obtain ⟨md, nm, kd, ty, ⟨l1, l2, l3, _⟩, ⟨g1, g2, _⟩, _⟩ := ip
        dsimp only at *
        have hk1 := hg.t; have hk2 := hg.l; have hk3 := hg.g
        dsimp only at hk1 hk2 hk3
        simp_all
      · have hqt29_1b := hqt29_1
        replace hqt29_1 := Bool.eq_false_iff.1 hqt29_1
        try simp only [ne_eq, decide_eq_true_eq, Bool.and_eq_true, Bool.or_eq_true, Bool.not_eq_true', decide_eq_false_iff_not] at hqt29_1
        refine wp_seq_k (fun K13 hK13 => ?_)
        refine wp_region_lit ?_
        refine sqv hf (r_eq rfl rfl) rfl rfl rfl ?_; clear hf fa; intro fa hf
        refine sqv hf (r_assign rfl) rfl rfl rfl ?_; clear hf fa; intro fa hf
        apply wpList_nil
        (try simp only [Exit.then, Exit.inBlock, ↓reduceIte, Nat.reduceEqDiff])
        refine hK13 _ _ ?_
        refine wp_cond_split (t := (decide (ip.2.2.1 = (3 : Int)))) (hf.ev rfl) (fun hqt34_1 => ?_) (fun hqt34_1 => ?_)
        · have hqt34_1b := hqt34_1
          try simp only [decide_eq_true_eq, Bool.and_eq_true, Bool.or_eq_true, Bool.not_eq_true', decide_eq_false_iff_not, ne_eq, Bool.not_eq_true] at hqt34_1
          have hT := tail3 hqt19_1 hqt24_1 hqt29_1
          have hA5 : At l (p + (uL (nums ip.1).length).length + (nums ip.1).length + (uL (nums ip.2.1).length).length + (nums ip.2.1).length + 1) (encG ip.2.2.2.2.2.1) := hT ▸ hA4
          have hle5 := hA5.le; (try simp only [List.length_append, List.length_cons, List.length_nil] at hle5)
          refine wp_region_lit ?_
          refine sqv hf (r_move rfl) rfl rfl rfl ?_; clear hf fa; intro fa hf
          refine sqdt hf (d_callW (v := (.agg #[(.int .u8 ip.2.2.2.2.2.1.1), (.bool ip.2.2.2.2.2.1.2.1)])) (b := bs) (T := 161) (cs := #[(.slice a l.length c), (.int .i64 (((((((((p + (uL ((nums ip.1)).length).length + ((nums ip.1)).length)) + (uL ((nums ip.2.1)).length).length + ((nums ip.2.1)).length)) + 1)) + (encG ip.2.2.2.2.2.1).length) : Nat) : Int))]) (vs := [(.pointer (some ⟨bs, 0, none⟩))]) rfl Try.func65 (by kernel_rfl) (by kernel_rfl) (sgt_any bs base ((((((p + (uL ((nums ip.1)).length).length + ((nums ip.1)).length)) + (uL ((nums ip.2.1)).length).length + ((nums ip.2.1)).length)) + 1)) a c l _ hk6 hr0 (by omega) ip.2.2.2.2.2.1 hA5 (hg.v (by omega)))) rfl rfl rfl ?_; clear hf fa; rintro fa _ w18 ⟨rfl, hk17, hg15⟩ hf
          replace hk1 := blk_grown hk1 hg15 (by omega)
          replace hk7 := blk_grown hk7 hg15 (by omega)
          replace hr0 := Row.grown hr0 hg15 (Row.ne_type hr0 hk6 rfl)
          replace hb := hb.wrote hg15 hb.size
          refine sqv hf (r_fa rfl Try.underlying81 (f := 5) (q := 7) rfl (by kernel_rfl) rfl) rfl rfl rfl ?_; clear hf fa; intro fa hf
          refine sqn hf (d_storeK (T := 81) (v := (.agg #[(.int .u8 ip.2.2.2.2.2.1.1), (.bool ip.2.2.2.2.2.1.2.1)])) (cs := #[(.string (strOfNums (nums ip.1))), (.string (strOfNums (nums ip.2.1))), (.int .u8 ip.2.2.1), (.int .u32 (0 : Int)), (.int .u32 (0 : Int)), (.int .u32 (0 : Int)), (.bool false), (.int .u8 (0 : Int)), (.bool false)]) (cs' := #[(.string (strOfNums (nums ip.1))), (.string (strOfNums (nums ip.2.1))), (.int .u8 ip.2.2.1), (.int .u32 (0 : Int)), (.int .u32 (0 : Int)), (.int .u32 (0 : Int)), (.bool false), (.int .u8 ip.2.2.2.2.2.1.1), (.bool ip.2.2.2.2.2.1.2.1)]) rfl rfl (by kernel_rfl) (by kernel_rfl) hk7 (by kernel_rfl) (by kernel_rfl)) rfl rfl ?_; clear hf fa; rintro fa _ w19 ⟨hk18, hg16⟩ hf
          replace hk17 := blk_grown hk17 hg16 (by omega)
          replace hk1 := blk_grown hk1 hg16 (by omega)
          replace hr0 := Row.grown hr0 hg16 (Row.ne_type hr0 hk7 rfl)
          replace hb := hb.trans (grown_below hg16 hb.size hBb2)
          apply wpList_nil
          (try simp only [Exit.then, Exit.inBlock, ↓reduceIte, Nat.reduceEqDiff])
          refine hK5 _ _ ?_
          refine wp_seq_k (fun K14 hK14 => ?_)
          refine wp_region_lit ?_
          refine sqv hf (r_loadA (cs := [(.string (strOfNums (nums ip.1))), (.string (strOfNums (nums ip.2.1))), (.int .u8 ip.2.2.1), (.int .u32 (0 : Int)), (.int .u32 (0 : Int)), (.int .u32 (0 : Int)), (.bool false), (.int .u8 ip.2.2.2.2.2.1.1), (.bool ip.2.2.2.2.2.1.2.1)]) rfl Try.underlying81 rfl (by kernel_rfl) (cellsAt_blk hk18)) rfl rfl rfl ?_; clear hf fa; intro fa hf
          refine sqn hf (d_storeK (T := 81) (v := (.agg #[(.string (strOfNums (nums ip.1))), (.string (strOfNums (nums ip.2.1))), (.int .u8 ip.2.2.1), (.int .u32 (0 : Int)), (.int .u32 (0 : Int)), (.int .u32 (0 : Int)), (.bool false), (.int .u8 ip.2.2.2.2.2.1.1), (.bool ip.2.2.2.2.2.1.2.1)])) (cs := #[(.string ⟨#[]⟩), (.string ⟨#[]⟩), (.int .u8 (0 : Int)), (.int .u32 (0 : Int)), (.int .u32 (0 : Int)), (.int .u32 (0 : Int)), (.bool false), (.int .u8 (0 : Int)), (.bool false)]) (cs' := #[(.string (strOfNums (nums ip.1))), (.string (strOfNums (nums ip.2.1))), (.int .u8 ip.2.2.1), (.int .u32 (0 : Int)), (.int .u32 (0 : Int)), (.int .u32 (0 : Int)), (.bool false), (.int .u8 ip.2.2.2.2.2.1.1), (.bool ip.2.2.2.2.2.1.2.1)]) rfl rfl (by kernel_rfl) (by kernel_rfl) hk1 (by kernel_rfl) (by kernel_rfl)) rfl rfl ?_; clear hf fa; rintro fa _ w20 ⟨hk19, hg17⟩ hf
          replace hk17 := blk_grown hk17 hg17 (by omega)
          replace hk18 := blk_grown hk18 hg17 (by omega)
          replace hr0 := Row.grown hr0 hg17 (Row.ne_type hr0 hk1 rfl)
          replace hb := hb.trans (grown_below hg17 hb.size hBb1)
          apply wpList_nil
          (try simp only [Exit.then, Exit.inBlock, ↓reduceIte, Nat.reduceEqDiff])
          refine hK14 _ _ ?_
          refine wp_ret ?_
          (try simp only [Exit.then, Exit.inBlock])
          refine retC hf rfl rfl hk19 Try.underlying81 rfl (by kernel_rfl) ?_
          refine ⟨?_, wrote_eq ⟨hk17, hb.grown⟩ (by rw [hEl, hT]; (try simp only [List.length_append, List.length_cons, List.length_nil]); omega)⟩
          rw [strOfNums_nums, strOfNums_nums]
          obtain ⟨md, nm, kd, ty, ⟨l1, l2, l3, _⟩, ⟨g1, g2, _⟩, _⟩ := ip
          dsimp only at *
          have hk1 := hg.t; have hk2 := hg.l; have hk3 := hg.g
          dsimp only at hk1 hk2 hk3
          simp_all
        · have hqt34_1b := hqt34_1
          replace hqt34_1 := Bool.eq_false_iff.1 hqt34_1
          try simp only [ne_eq, decide_eq_true_eq, Bool.and_eq_true, Bool.or_eq_true, Bool.not_eq_true', decide_eq_false_iff_not] at hqt34_1
          exfalso; omega
end Go.Proofs.Ytcmdajkkdognfaa
