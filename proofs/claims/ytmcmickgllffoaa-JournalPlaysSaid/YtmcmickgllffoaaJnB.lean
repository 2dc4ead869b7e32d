/- What is proved here: what Note, Keep and Back come to. -/
import Derived.Test.YtmcmickgllffoaaJnA
import Derived.StillTailTactics
namespace Go.Proofs.Ytmcmickgllffoaa
open Go.RowKit
set_option linter.unusedVariables false
set_option linter.unusedSimpArgs false

theorem JR.setN {base b : Nat} {w : World} {L : List Ent} {M : List Int} {N N' : Int} (h : JR base w b L M N) : JR base (w.setCell ⟨b, 2, none⟩ (.int .i64 N')) b L M N' ∧ JFr w (w.setCell ⟨b, 2, none⟩ (.int .i64 N')) := by
  obtain ⟨h1, vl, vm, h2, h3, h4⟩ := h
  refine ⟨⟨h1, vl, vm, ?_, ownsRow_other h3 _ _ (ownBlock_ne h3 h2 (by decide)), ownsRow_other h4 _ _ (ownBlock_ne h4 h2 (by decide))⟩, ?_⟩
  · have := heap_setCell_same w b 2 _ _ (.int .i64 N') h2
    simpa using this
  · intro k cs t t1 t2 t3 hq
    have hkb : k ≠ b := by
      rintro rfl
      rw [h2] at hq; simp at hq; exact t1 hq.2.symm
    rw [Below.heap_setCell w ⟨b, 2, none⟩ _ k hkb]; exact hq

def postsN (b ln : Nat) (la1 : Option Addr) (lc1 top q : Nat) (e1 e2 e3 : Int) (e4 : ByteArray) : List (Value → World → Prop) := [
    fun x _ => x = .pointer (some ⟨b, 0, none⟩),
    fun x _ => x = .pointer (some ⟨b, 0, none⟩),
    fun x _ => x = .pointer (some ⟨b, 0, none⟩),
    fun x _ => x = .pointer (some ⟨b, 0, none⟩),
    fun x _ => x = .slice la1 ln lc1,
    fun x _ => x = .agg #[.int .i64 e1, .int .i64 e2, .int .u64 e3, .string e4],
    fun v w => NewB top v #[.int .i64 e1, .int .i64 e2, .int .u64 e3, .string e4] 54 w]

set_option maxHeartbeats 1000000 in
set_option maxRecDepth 100000 in
theorem note_any (base b : Nat) (L : List Ent) (M : List Int) (N : Int) (e1 e2 e3 : Int) (e4 : ByteArray) (w : World) (hbase : base ≤ w.heap.size) (hL : L.length ≤ 1000000) (h : JR base w b L M N) (hM : 0 < M.length) :
    Calls Try.prog 20 #[.pointer (some ⟨b, 0, none⟩), .agg #[.int .i64 e1, .int .i64 e2, .int .u64 e3, .string e4]] w fun e w' => e = .returned (.tuple #[]) ∧ (∃ N', JR base w' b (L ++ [(e1, e2, e3, e4)]) M N') ∧ Below base w w' ∧ JFr w w' := by
  obtain ⟨X, hX, hszX, hbX, x0⟩ := allocs1 w #[.int .i64 e1, .int .i64 e2, .int .u64 e3, .string e4] 54
  have hJX := h.ext hbX
  obtain ⟨la, lc, ma, mc, c0, c1, c2, z0, z1, z2, hb, hbb, hblk, hl, hm, hlc, hmc⟩ := hJX.open
  obtain ⟨hJ1, hF1⟩ := hJX.setN (N' := wrap64 (N + 1))
  obtain ⟨la1, lc1, ma1, mc1, d0, d1, d2, y0, y1, y2, hb1, _, hblk1, hl1, hm1, hlc1, hmc1⟩ := hJ1.open
  have Ho := hid (jopen_any base b L M N X hJX)
  rw [decide_eq_true hM] at Ho
  have Hx := hid x0
  have hbX1 : Below base w (X.setCell ⟨b, 2, none⟩ (.int .i64 (wrap64 (N + 1)))) := (hbX.mono hbase).setCell (p := ⟨b, 2, none⟩) hbb _
  have hsz1 : (X.setCell ⟨b, 2, none⟩ (.int .i64 (wrap64 (N + 1)))).heap.size = w.heap.size + 1 := by rw [← hszX]; simp [World.setCell]
  have hqb : w.heap.size ≠ b := by
    rintro rfl
    have := hblk; rw [x0] at this; simp at this
  have hx1 : (X.setCell ⟨b, 2, none⟩ (.int .i64 (wrap64 (N + 1)))).heap[w.heap.size]? = some (.cells #[.int .i64 e1, .int .i64 e2, .int .u64 e3, .string e4] 54 (0, 0)) := (Below.heap_setCell X ⟨b, 2, none⟩ _ w.heap.size hqb).trans x0
  have HF1 := hid ((JFr.of_below hbX).trans hF1)
  have Hl1 := hid hl1
  have Hm1 := hid hm1
  have Hblk1 := hid hblk1
  generalize hln : L.length = ln at *
  clear h hJX hl hm hblk hJ1 hF1 hl1 hm1 hblk1 x0 hbX
  subst hX
  go_enter Try.func20, Try.ntmps20
  go_wp2_with fail
  refine Ho.out.mono ?_
  rintro e w' ⟨rfl, rfl⟩
  go_wp2
  generalize (w.alloc (.cells #[.int .i64 e1, .int .i64 e2, .int .u64 e3, .string e4] 54)).setCell ⟨b, 2, none⟩ (.int .i64 (wrap64 (N + 1))) = w1 at *
  have q0 := cell_of_row w1 _ 0 _ _ _ hx1
  have q1 := cell_of_row w1 _ 1 _ _ _ hx1
  have q2 := cell_of_row w1 _ 2 _ _ _ hx1
  have q3 := cell_of_row w1 _ 3 _ _ _ hx1
  have hq1 : w.heap.size < w1.heap.size := by omega
  clear c0 c1 c2 z0 z1 z2 hx1 Hx Ho
  generalize w.heap.size = q at *
  refine wp_region_rg_tail1 7 (fun w' => Below w1.heap.size w1 w') (fun w w' => Below w.heap.size w w') (postsN b ln la1 lc1 w1.heap.size q e1 e2 e3 e4)
      [[], [], [1], [2], [3], [], [5], [], [], [], []]
      24 (by kernel_rfl) rfl rfl (v0 := .pointer (some ⟨b, 0, none⟩)) (by first | exact Or.inl ⟨rfl, fun _ => Or.inl rfl⟩ | exact ⟨rfl, fun _ => rfl⟩ | simp [Yields, go_sem]) (by intro c a w h; exact h) (by kernel_rfl) rfl ?rg0 rfl ?rgC ?rgP ?rgS ?rgQ
  case rgP => exact ⟨kept_eq, kept_eq, kept_eq, kept_eq, kept_eq, kept_eq, newB_kept, trivial⟩
  case rgS =>
    intro V
    refine rgGoals_cons 1 (by intro v; simp only [Act.put, List.setIfInBounds_toArray, List.set_cons_zero, List.set_cons_succ]; exact rfl) rfl (fun w hC hd K hK => ?_) ?_
    · clear hd
      go_simp; exact hK _ _ (Below.refl _ _) rfl
    refine rgGoals_cons 2 (by intro v; simp only [Act.put, List.setIfInBounds_toArray, List.set_cons_zero, List.set_cons_succ]; exact rfl) rfl (fun w hC hd K hK => ?_) ?_
    · clear hd
      go_simp; exact hK _ _ (Below.refl _ _) rfl
    refine rgGoals_cons 3 (by intro v; simp only [Act.put, List.setIfInBounds_toArray, List.set_cons_zero, List.set_cons_succ]; exact rfl) rfl (fun w hC hd K hK => ?_) ?_
    · obtain ⟨h1, _⟩ := hd
      replace h1 : V 1 = .pointer (some ⟨b, 0, none⟩) := h1
      simp only [h1] at hK
      go_simp; exact hK _ _ (Below.refl _ _) rfl
    refine rgGoals_cons 4 (by intro v; simp only [Act.put, List.setIfInBounds_toArray, List.set_cons_zero, List.set_cons_succ]; exact rfl) rfl (fun w hC hd K hK => ?_) ?_
    · obtain ⟨h2, _⟩ := hd
      replace h2 : V 2 = .pointer (some ⟨b, 0, none⟩) := h2
      simp only [h2] at hK
      go_simp; exact hK _ _ (Below.refl _ _) rfl
    refine rgGoals_cons 5 (by intro v; simp only [Act.put, List.setIfInBounds_toArray, List.set_cons_zero, List.set_cons_succ]; exact rfl) rfl (fun w hC hd K hK => ?_) ?_
    · obtain ⟨h3, _⟩ := hd
      replace h3 : V 3 = .pointer (some ⟨b, 0, none⟩) := h3
      simp only [h3] at hK
      have f1 := (hC.cell (p := ⟨b, 0, none⟩) hb1).trans d0
      go_simp; exact hK _ _ (Below.refl _ _) rfl
    refine rgGoals_cons 6 (by intro v; simp only [Act.put, List.setIfInBounds_toArray, List.set_cons_zero, List.set_cons_succ]; exact rfl) rfl (fun w hC hd K hK => ?_) ?_
    · clear hd
      have f1 := (hC.cell (p := ⟨q, 0, none⟩) hq1).trans q0
      have f2 := (hC.cell (p := ⟨q, 1, none⟩) hq1).trans q1
      have f3 := (hC.cell (p := ⟨q, 2, none⟩) hq1).trans q2
      have f4 := (hC.cell (p := ⟨q, 3, none⟩) hq1).trans q3
      go_simp; exact hK _ _ (Below.refl _ _) rfl
    refine rgGoals_cons 7 (by intro v; simp only [Act.put, List.setIfInBounds_toArray, List.set_cons_zero, List.set_cons_succ]; exact rfl) rfl (fun w hC hd K hK => ?_) ?_
    · obtain ⟨h5, _⟩ := hd
      replace h5 : V 5 = .agg #[.int .i64 e1, .int .i64 e2, .int .u64 e3, .string e4] := h5
      simp only [h5] at hK
      go_simp; exact hK _ _ ((Below.refl _ _).alloc (Nat.le_refl _) _) ⟨_, rfl, hC.size, heap_alloc_last _ _⟩
    trivial
  case rgC => exact fun w1 w2 h1 h2 => below_ext h1 (Nat.le_refl _) h2
  case rg0 => exact (Below.refl _ _).drew
  case rgQ =>
    intro V w2 hC hp
    have h0 : V 0 = .pointer (some ⟨b, 0, none⟩) := postsHold_at hp 0 rfl
    have h4 : V 4 = .slice la1 ln lc1 := postsHold_at hp 4 rfl
    obtain ⟨k, h6, hk1, hk2⟩ := postsHold_at hp 6 rfl
    replace h6 : V 6 = .slice (some ⟨k, 0, none⟩) 1 1 := h6
    simp only [List.take_succ_cons, List.take_zero, List.drop_succ_cons, List.drop_zero, putAll, Act.put, List.setIfInBounds_toArray, List.set_cons_zero, List.set_cons_succ]
    simp only [Nat.reduceAdd, h0, h4, h6]
    refine wpList_pushAtK (base := base) Try.underlying61 infoE rfl (by decide) (by decide) (ownsRow_ext Hl1.out hC) hk2 (by have := hC.size; omega) (by omega) rfl rfl rfl rfl rfl (by intro u hu; simp at hu; rcases hu with rfl | rfl | rfl | rfl <;> rfl) ?_
    intro v' w' hown' hb' hsz' hkeep'
    obtain ⟨a', cap', rfl, hcap', -⟩ := slice_of_own hown'
    have hL' : (L ++ [(e1, e2, e3, e4)]).length = ln + 1 := by simp [hln]
    have hown2 : w'.ownsRow base 54 4 (.slice a' (ln + 1) cap') (L ++ [(e1, e2, e3, e4)]).length (flatE (L ++ [(e1, e2, e3, e4)])) := by
      rw [hL', flatE_append]; exact hown'
    obtain ⟨r1, r2, r3⟩ := JR.setL (M := M) hbb ((hC.block b hb1).trans Hblk1.out) (ownsRow_ext Hl1.out hC) (ownsRow_ext Hm1.out hC) hown2 hkeep'
    have k1 := cell_of_row w' b 0 _ _ _ r3
    have y1 := frozen_of_row w' b 0 _ _ r3
    have hb2 := (Below.setCell (hbX1.trans (hC.mono (by omega)) |>.trans hb') (p := ⟨b, 0, none⟩) hbb (.slice a' (ln + 1) cap'))
    have R1 := hid r1
    have R2 := hid r2
    clear r1 r2 r3 hown2 hown' hkeep'
    go_wp2
    go_end0
    exact ⟨rfl, ⟨_, R1.out⟩, hb2, (HF1.out.trans (JFr.of_below hC)).trans R2.out⟩

theorem JR.cutM {base b : Nat} {w : World} {L : List Ent} {M : List Int} {N : Int} {m mc : Nat} {ma : Option Addr} (h : JR base w b L M N) (hc : w.cell? ⟨b, 1, none⟩ = some (.slice ma M.length mc)) (hm : m ≤ M.length) (hM : 0 < M.length) :
    JR base (w.setCell ⟨b, 1, none⟩ (.slice ma m mc)) b L (M.take m) N ∧ JFr w (w.setCell ⟨b, 1, none⟩ (.slice ma m mc)) := by
  obtain ⟨h1, vl, vm, h2, h3, h4⟩ := h
  have : vm = .slice ma M.length mc := by
    have := cell_of_row w b 1 _ _ _ h2
    rw [hc] at this
    simp at this; exact this.symm
  subst this
  have hn := ownsRow_cut h4 hm hM
  rw [Nat.mul_one, ← List.map_take] at hn
  have hlen : (M.take m).length = m := by simp; omega
  obtain ⟨r1, r2, _⟩ := JR.setM (L := L) (N := N) (M' := M.take m) (v' := .slice ma m mc) h1 h2 h3 h4 (by rw [hlen]; exact hn) (fun _ _ _ => rfl)
  exact ⟨r1, r2⟩

theorem JR.cutL {base b : Nat} {w : World} {L : List Ent} {M : List Int} {N : Int} {m lc : Nat} {la : Option Addr} (h : JR base w b L M N) (hc : w.cell? ⟨b, 0, none⟩ = some (.slice la L.length lc)) (hm : m ≤ L.length) (hL : 0 < L.length) :
    JR base (w.setCell ⟨b, 0, none⟩ (.slice la m lc)) b (L.take m) M N ∧ JFr w (w.setCell ⟨b, 0, none⟩ (.slice la m lc)) := by
  obtain ⟨h1, vl, vm, h2, h3, h4⟩ := h
  have : vl = .slice la L.length lc := by
    have := cell_of_row w b 0 _ _ _ h2
    rw [hc] at this
    simp at this; exact this.symm
  subst this
  have hn := ownsRow_cut h3 hm hL
  rw [flatE_take] at hn
  have hlen : (L.take m).length = m := by simp; omega
  obtain ⟨r1, r2, _⟩ := JR.setL (M := M) (N := N) (L' := L.take m) (v' := .slice la m lc) h1 h2 h3 h4 (by rw [hlen]; exact hn) (fun _ _ _ => rfl)
  exact ⟨r1, r2⟩

theorem JR.nilL {base b : Nat} {w : World} {L : List Ent} {M : List Int} {N : Int} (h : JR base w b L M N) :
    JR base (w.setCell ⟨b, 0, none⟩ (.slice none 0 0)) b [] M N ∧ JFr w (w.setCell ⟨b, 0, none⟩ (.slice none 0 0)) := by
  obtain ⟨h1, vl, vm, h2, h3, h4⟩ := h
  obtain ⟨r1, r2, _⟩ := JR.setL (M := M) (N := N) (L' := []) (v' := .slice none 0 0) h1 h2 h3 h4 (World.ownsRow_nil _ _ _ _) (fun _ _ _ => rfl)
  exact ⟨r1, r2⟩

def postsK (b m : Nat) (ma : Option Addr) (mc : Nat) : List (Value → World → Prop) := [
    fun x _ => x = .pointer (some ⟨b, 0, none⟩),
    fun x _ => x = .pointer (some ⟨b, 0, none⟩),
    fun x _ => x = .pointer (some ⟨b, 0, none⟩),
    fun x _ => x = .pointer (some ⟨b, 1, none⟩),
    fun x _ => x = .slice ma (m + 1) mc,
    fun x _ => x = .pointer (some ⟨b, 0, none⟩),
    fun x _ => x = .pointer (some ⟨b, 0, none⟩),
    fun x _ => x = .pointer (some ⟨b, 1, none⟩),
    fun x _ => x = .slice ma (m + 1) mc,
    fun x _ => x = .int .i64 (m + 1),
    fun x _ => x = .int .i64 m,
    fun x _ => x = .slice ma m mc]

set_option maxHeartbeats 1000000 in
set_option maxRecDepth 100000 in
theorem keep_any (base b : Nat) (L : List Ent) (M : List Int) (N : Int) (w : World) (hbase : base ≤ w.heap.size) (hM : M.length ≤ 1000000) (h : JR base w b L M N) (hM0 : 0 < M.length) :
    Calls Try.prog 26 #[.pointer (some ⟨b, 0, none⟩)] w fun e w' => e = .returned (.int .i64 0) ∧ JR base w' b (if M.length = 1 then [] else L) (M.take (M.length - 1)) N ∧ Below base w w' ∧ JFr w w' := by
  have Ho := hid (jopen_any base b L M N w h)
  rw [decide_eq_true hM0] at Ho
  have H := hid h
  obtain ⟨la, lc, ma, mc, c0, c1, c2, z0, z1, z2, hb, hbb, hblk, hl, hm, hlc, hmc⟩ := h.open
  obtain ⟨m, hm1⟩ : ∃ m, M.length = m + 1 := ⟨M.length - 1, by omega⟩
  have Hm1 := hid hm1
  have hm6 : m ≤ 1000000 := by omega
  rw [hm1] at c1 hmc
  obtain ⟨LX, hLX⟩ : ∃ LX, (if M.length = 1 then [] else L) = LX := ⟨_, rfl⟩
  obtain ⟨MX, hMX⟩ : ∃ MX, M.take (M.length - 1) = MX := ⟨_, rfl⟩
  rw [hLX, hMX]
  have HLX := hid hLX
  have HMX := hid hMX
  clear h hl hm hblk hLX hMX
  go_enter Try.func26, Try.ntmps26
  go_wp2_with fail
  refine Ho.out.mono ?_
  rintro e w' ⟨rfl, rfl⟩
  clear Ho hm1 hM0 hM
  go_wp2
  refine wp_region_rg_tail 12 (fun w' => Below w.heap.size w w') (fun w w' => Below w.heap.size w w') (postsK b m ma mc)
      [[], [], [1], [2], [3], [], [5], [6], [7], [8], [9], [4, 10], [], [], []]
      26 (by kernel_rfl) rfl (by kernel_rfl) rfl ?rg0 ?rgC ?rgP ?rgS ?rgQ
  case rgP => exact ⟨kept_eq, kept_eq, kept_eq, kept_eq, kept_eq, kept_eq, kept_eq, kept_eq, kept_eq, kept_eq, kept_eq, kept_eq, trivial⟩
  case rgS =>
    intro V
    refine rgGoals_cons 1 (by intro v; simp only [Act.put, List.setIfInBounds_toArray, List.set_cons_zero, List.set_cons_succ]; exact rfl) rfl (fun w hC hd K hK => ?_) ?_
    · clear hd
      go_simp; exact hK _ _ (Below.refl _ _) rfl
    refine rgGoals_cons 2 (by intro v; simp only [Act.put, List.setIfInBounds_toArray, List.set_cons_zero, List.set_cons_succ]; exact rfl) rfl (fun w hC hd K hK => ?_) ?_
    · clear hd
      go_simp; exact hK _ _ (Below.refl _ _) rfl
    refine rgGoals_cons 3 (by intro v; simp only [Act.put, List.setIfInBounds_toArray, List.set_cons_zero, List.set_cons_succ]; exact rfl) rfl (fun w hC hd K hK => ?_) ?_
    · obtain ⟨h1, _⟩ := hd
      replace h1 : V 1 = .pointer (some ⟨b, 0, none⟩) := h1
      simp only [h1] at hK
      go_simp; exact hK _ _ (Below.refl _ _) rfl
    refine rgGoals_cons 4 (by intro v; simp only [Act.put, List.setIfInBounds_toArray, List.set_cons_zero, List.set_cons_succ]; exact rfl) rfl (fun w hC hd K hK => ?_) ?_
    · obtain ⟨h2, _⟩ := hd
      replace h2 : V 2 = .pointer (some ⟨b, 0, none⟩) := h2
      simp only [h2] at hK
      go_simp; exact hK _ _ (Below.refl _ _) rfl
    refine rgGoals_cons 5 (by intro v; simp only [Act.put, List.setIfInBounds_toArray, List.set_cons_zero, List.set_cons_succ]; exact rfl) rfl (fun w hC hd K hK => ?_) ?_
    · obtain ⟨h3, _⟩ := hd
      replace h3 : V 3 = .pointer (some ⟨b, 1, none⟩) := h3
      simp only [h3] at hK
      have f1 := (hC.cell (p := ⟨b, 1, none⟩) hb).trans c1
      go_simp; exact hK _ _ (Below.refl _ _) rfl
    refine rgGoals_cons 6 (by intro v; simp only [Act.put, List.setIfInBounds_toArray, List.set_cons_zero, List.set_cons_succ]; exact rfl) rfl (fun w hC hd K hK => ?_) ?_
    · clear hd
      go_simp; exact hK _ _ (Below.refl _ _) rfl
    refine rgGoals_cons 7 (by intro v; simp only [Act.put, List.setIfInBounds_toArray, List.set_cons_zero, List.set_cons_succ]; exact rfl) rfl (fun w hC hd K hK => ?_) ?_
    · obtain ⟨h5, _⟩ := hd
      replace h5 : V 5 = .pointer (some ⟨b, 0, none⟩) := h5
      simp only [h5] at hK
      go_simp; exact hK _ _ (Below.refl _ _) rfl
    refine rgGoals_cons 8 (by intro v; simp only [Act.put, List.setIfInBounds_toArray, List.set_cons_zero, List.set_cons_succ]; exact rfl) rfl (fun w hC hd K hK => ?_) ?_
    · obtain ⟨h6, _⟩ := hd
      replace h6 : V 6 = .pointer (some ⟨b, 0, none⟩) := h6
      simp only [h6] at hK
      go_simp; exact hK _ _ (Below.refl _ _) rfl
    refine rgGoals_cons 9 (by intro v; simp only [Act.put, List.setIfInBounds_toArray, List.set_cons_zero, List.set_cons_succ]; exact rfl) rfl (fun w hC hd K hK => ?_) ?_
    · obtain ⟨h7, _⟩ := hd
      replace h7 : V 7 = .pointer (some ⟨b, 1, none⟩) := h7
      simp only [h7] at hK
      have f1 := (hC.cell (p := ⟨b, 1, none⟩) hb).trans c1
      go_simp; exact hK _ _ (Below.refl _ _) rfl
    refine rgGoals_cons 10 (by intro v; simp only [Act.put, List.setIfInBounds_toArray, List.set_cons_zero, List.set_cons_succ]; exact rfl) rfl (fun w hC hd K hK => ?_) ?_
    · obtain ⟨h8, _⟩ := hd
      replace h8 : V 8 = .slice ma (m + 1) mc := h8
      simp only [h8] at hK
      go_simp; exact hK _ _ (Below.refl _ _) (by push_cast; rfl)
    refine rgGoals_cons 11 (by intro v; simp only [Act.put, List.setIfInBounds_toArray, List.set_cons_zero, List.set_cons_succ]; exact rfl) rfl (fun w hC hd K hK => ?_) ?_
    · obtain ⟨h9, _⟩ := hd
      replace h9 : V 9 = .int .i64 (m + 1) := h9
      simp only [h9] at hK
      go_simp; exact hK _ _ (Below.refl _ _) (by first | rfl | (congr 1; rw [wrap_i64_def]; omega))
    refine rgGoals_cons 12 (by intro v; simp only [Act.put, List.setIfInBounds_toArray, List.set_cons_zero, List.set_cons_succ]; exact rfl) rfl (fun w hC hd K hK => ?_) ?_
    · obtain ⟨h4, h10, _⟩ := hd
      replace h4 : V 4 = .slice ma (m + 1) mc := h4
      replace h10 : V 10 = .int .i64 m := h10
      simp only [h4, h10] at hK
      have hle : m ≤ mc := by omega
      go_simp; exact hK _ _ (Below.refl _ _) rfl
    trivial
  case rgC => exact fun w1 w2 h1 h2 => below_ext h1 (Nat.le_refl _) h2
  case rg0 => exact (Below.refl _ _).drew
  case rgQ =>
    intro V w2 hC hp
    have h0 : V 0 = .pointer (some ⟨b, 0, none⟩) := postsHold_at hp 0 rfl
    have h11 : V 11 = .slice ma m mc := postsHold_at hp 11 rfl
    simp only [List.take_succ_cons, List.take_zero, List.drop_succ_cons, List.drop_zero, putAll, Act.put, List.setIfInBounds_toArray, List.set_cons_zero, List.set_cons_succ]
    simp only [Nat.reduceAdd, h0, h11]
    have c1w := (hC.cell (p := ⟨b, 1, none⟩) hb).trans c1
    have z1w := (hC.frozen (p := ⟨b, 1, none⟩) hb).trans z1
    have Hw := H.out.ext hC
    obtain ⟨r1, r2⟩ := Hw.cutM (m := m) (mc := mc) (ma := ma) (by rw [Hm1.out]; exact c1w) (by rw [Hm1.out]; omega) (by rw [Hm1.out]; omega)
    have hb2 : Below base w (w2.setCell ⟨b, 1, none⟩ (.slice ma m mc)) := (hC.mono hbase).setCell (p := ⟨b, 1, none⟩) hbb _
    have hf2 := hid ((JFr.of_below hC).trans r2)
    obtain ⟨_, _, _, _, p0, p1, p2, g0, g1, g2, hb3, _, _, _, _, _, _⟩ := r1.open
    have hlm : (M.take m).length = m := by rw [List.length_take, Hm1.out]; omega
    have Ho2 := hid (jopen_any base b L (M.take m) N _ r1)
    rw [hlm] at Ho2
    have hrn := r1.nilL
    have R1 := hid r1
    have Hrn := hid hrn
    clear r1 r2 hrn Hw
    clear c0 c1 c2 z0 z1 z2 hb hC hp
    have hbx : base ≤ w2.heap.size := Nat.le_trans hbase (by have := hb2.size; simpa [World.setCell] using this)
    by_cases hm0 : m = 0
    · subst hm0
      rw [show (decide (0 < 0)) = false from rfl] at Ho2
      go_wp2_with fail
      refine Ho2.out.mono ?_
      rintro e w' ⟨rfl, rfl⟩
      go_wp2
      go_ret
      refine ⟨rfl, ?_, hb2.setCell (p := ⟨b, 0, none⟩) hbb _, hf2.out.trans Hrn.out.2⟩
      rw [← HLX.out, ← HMX.out, if_pos (by rw [Hm1.out]), Hm1.out]
      exact Hrn.out.1
    · rw [decide_eq_true (by omega)] at Ho2
      go_wp2_with fail
      refine Ho2.out.mono ?_
      rintro e w' ⟨rfl, rfl⟩
      go_wp2
      go_ret
      refine ⟨rfl, ?_, hb2, hf2.out⟩
      rw [← HLX.out, ← HMX.out, if_neg (by rw [Hm1.out]; omega), Hm1.out]
      exact R1.out
end Go.Proofs.Ytmcmickgllffoaa
