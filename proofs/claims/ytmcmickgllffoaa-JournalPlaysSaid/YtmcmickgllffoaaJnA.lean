/- What is proved here: what the functions of the package journal come to. -/
import Derived.Test.YtmcmickgllffoaaKit5
namespace Go.Proofs.Ytmcmickgllffoaa
open Go.RowKit
set_option linter.unusedVariables false
set_option linter.unusedSimpArgs false

theorem infoE : (Try.prog.info? 54).map (fun i => (i.zero, i.size, i.bytes)) = some (some (.agg #[.int .i64 0, .int .i64 0, .int .u64 0, .string ⟨#[]⟩]), 4, 40) := by kernel_rfl
theorem infoI : (Try.prog.info? 3).map (fun i => (i.zero, i.size, i.bytes)) = some (some (.int .i64 0), 1, 8) := by kernel_rfl

/-- An entry: of a kind, at a place; a number, or bytes. -/
abbrev Ent := Int × Int × Int × ByteArray

def entV (e : Ent) : Array Value := #[.int .i64 e.1, .int .i64 e.2.1, .int .u64 e.2.2.1, .string e.2.2.2]
def flatE (L : List Ent) : List Value := L.flatMap fun e => (entV e).toList

theorem flatE_append (L : List Ent) (e : Ent) : flatE (L ++ [e]) = flatE L ++ (entV e).toList := by simp [flatE]
theorem flatE_length (L : List Ent) : (flatE L).length = L.length * 4 := by
  induction L with
  | nil => rfl
  | cons e L ih => simp only [flatE, List.flatMap_cons, List.length_append] at *; rw [ih]; simp [entV]; omega
theorem flatE_take (L : List Ent) (m : Nat) : (flatE L).take (m * 4) = flatE (L.take m) := by
  induction L generalizing m with
  | nil => simp [flatE]
  | cons e L ih =>
    cases m with
    | zero => simp [flatE]
    | succ m =>
      have h4 : ((entV e).toList).length = 4 := rfl
      rw [List.take_succ_cons]
      simp only [flatE, List.flatMap_cons] at *
      rw [List.take_append, h4, List.take_of_length_le (by rw [h4]; omega), show (m + 1) * 4 - 4 = m * 4 by omega, ih m]
theorem entV_one (e : Ent) : ∀ u ∈ (entV e).toList, u.oneCell' = true := by
  intro u hu
  simp [entV] at hu
  rcases hu with rfl | rfl | rfl | rfl <;> rfl

/-- A journal: its entries, its marks, how many were ever noted. -/
def JR (base : Nat) (w : World) (b : Nat) (L : List Ent) (M : List Int) (N : Int) : Prop :=
  base ≤ b ∧ ∃ vl vm, w.heap[b]? = some (.cells #[vl, vm, .int .i64 N] 130 (0, 0)) ∧ w.ownsRow base 54 4 vl L.length (flatE L) ∧ w.ownsRow base 3 1 vm M.length (M.map (Value.int .i64))

theorem JR.ext {base : Nat} {w w' : World} {b : Nat} {L : List Ent} {M : List Int} {N : Int} (h : JR base w b L M N) (hb : Below w.heap.size w w') : JR base w' b L M N := by
  obtain ⟨h1, vl, vm, h2, h3, h4⟩ := h
  exact ⟨h1, vl, vm, (hb.block b (Array.getElem?_eq_some_iff.1 h2).1).trans h2, ownsRow_ext h3 hb, ownsRow_ext h4 hb⟩

/-- Blocks of other kinds stay. -/
def JFr (w w' : World) : Prop := ∀ (k : Nat) (cs : Array Value) (t : TypeId), t ≠ 130 → t ≠ 54 → t ≠ 3 → w.heap[k]? = some (.cells cs t (0, 0)) → w'.heap[k]? = some (.cells cs t (0, 0))

theorem JFr.refl (w : World) : JFr w w := fun _ _ _ _ _ _ h => h
theorem JFr.trans {u v w : World} (h : JFr u v) (k : JFr v w) : JFr u w := fun q cs t h1 h2 h3 h4 => k q cs t h1 h2 h3 (h q cs t h1 h2 h3 h4)
theorem JFr.of_below {w w' : World} (h : Below w.heap.size w w') : JFr w w' := fun q cs t _ _ _ hq => (h.block q (Array.getElem?_eq_some_iff.1 hq).1).trans hq

theorem slice_of_own {w : World} {base e k n : Nat} {v : Value} {xs : List Value} (h : w.ownsRow base e k v n xs) : ∃ a cap, v = .slice a n cap ∧ n ≤ cap ∧ (0 < n → ∃ g, a = some ⟨g, 0, none⟩ ∧ base ≤ g ∧ g < w.heap.size ∧ ∀ j, j < n * k → w.cell? ⟨g, j, none⟩ = xs[j]?) := by
  obtain ⟨h1, h2⟩ := h
  rcases h2 with ⟨rfl, h0⟩ | ⟨g, cap, cur, hv, hb, hg, hc, _, _, ht⟩
  · subst h0; exact ⟨none, 0, rfl, Nat.le_refl _, fun h => absurd h (by omega)⟩
  · refine ⟨_, cap, hv, hc, fun _ => ⟨g, rfl, hb, (Array.getElem?_eq_some_iff.1 hg).1, fun j hj => ?_⟩⟩
    rw [cell_of_row w g j cur e (0, 0) hg, ← ht, List.getElem?_take, if_pos hj]
    simp

/-- A journal, as the walk wants it. -/
theorem JR.open {base : Nat} {w : World} {b : Nat} {L : List Ent} {M : List Int} {N : Int} (h : JR base w b L M N) :
    ∃ la lc ma mc, w.cell? ⟨b, 0, none⟩ = some (.slice la L.length lc) ∧ w.cell? ⟨b, 1, none⟩ = some (.slice ma M.length mc) ∧ w.cell? ⟨b, 2, none⟩ = some (.int .i64 N) ∧ w.frozen? ⟨b, 0, none⟩ = false ∧ w.frozen? ⟨b, 1, none⟩ = false ∧ w.frozen? ⟨b, 2, none⟩ = false ∧ b < w.heap.size ∧ base ≤ b ∧
      w.heap[b]? = some (.cells #[.slice la L.length lc, .slice ma M.length mc, .int .i64 N] 130 (0, 0)) ∧ w.ownsRow base 54 4 (.slice la L.length lc) L.length (flatE L) ∧ w.ownsRow base 3 1 (.slice ma M.length mc) M.length (M.map (Value.int .i64)) ∧ L.length ≤ lc ∧ M.length ≤ mc := by
  obtain ⟨h1, vl, vm, h2, h3, h4⟩ := h
  obtain ⟨la, lc, rfl, hl, _⟩ := slice_of_own h3
  obtain ⟨ma, mc, rfl, hm, _⟩ := slice_of_own h4
  exact ⟨la, lc, ma, mc, cell_of_row w b 0 _ _ _ h2, cell_of_row w b 1 _ _ _ h2, cell_of_row w b 2 _ _ _ h2, frozen_of_row w b 0 _ _ h2, frozen_of_row w b 1 _ _ h2, frozen_of_row w b 2 _ _ h2, (Array.getElem?_eq_some_iff.1 h2).1, h1, h2, h3, h4, hl, hm⟩

/-- A new row of marks is laid into the journal. -/
theorem JR.setM {base b : Nat} {w w' : World} {L : List Ent} {M' : List Int} {N : Int} {vl vm v' : Value} {xs : List Value} {n : Nat} (hbb : base ≤ b) (h2 : w.heap[b]? = some (.cells #[vl, vm, .int .i64 N] 130 (0, 0))) (h3 : w.ownsRow base 54 4 vl L.length (flatE L)) (h4 : w.ownsRow base 3 1 vm n xs)
    (hn : w'.ownsRow base 3 1 v' M'.length (M'.map (Value.int .i64))) (hk : ∀ q, q < w.heap.size → vm.ownBlock ≠ some q → w'.heap[q]? = w.heap[q]?) :
    JR base (w'.setCell ⟨b, 1, none⟩ v') b L M' N ∧ JFr w (w'.setCell ⟨b, 1, none⟩ v') ∧ w'.heap[b]? = some (.cells #[vl, vm, .int .i64 N] 130 (0, 0)) := by
  have hb' : w'.heap[b]? = some (.cells #[vl, vm, .int .i64 N] 130 (0, 0)) := (hk b (Array.getElem?_eq_some_iff.1 h2).1 (ownBlock_ne h4 h2 (by decide))).trans h2
  have h3' := ownsRow_keep h3 (ownBlocks_ne h3 h4 (by decide)) hk
  refine ⟨⟨hbb, vl, v', ?_, ownsRow_other h3' _ _ (ownBlock_ne h3' hb' (by decide)), ownsRow_other hn _ _ (ownBlock_ne hn hb' (by decide))⟩, ?_, hb'⟩
  · have := heap_setCell_same w' b 1 _ _ v' hb'
    simpa using this
  · intro k cs t t1 t2 t3 hq
    have hkb : k ≠ b := by
      rintro rfl
      rw [h2] at hq; simp at hq; exact t1 hq.2.symm
    rw [Below.heap_setCell w' ⟨b, 1, none⟩ v' k hkb, hk k (Array.getElem?_eq_some_iff.1 hq).1 (ownBlock_ne h4 hq (fun h => t3 h.symm))]
    exact hq

/-- A new row of entries is laid into the journal. -/
theorem JR.setL {base b : Nat} {w w' : World} {L' : List Ent} {M : List Int} {N : Int} {vl vm v' : Value} {xs : List Value} {n : Nat} (hbb : base ≤ b) (h2 : w.heap[b]? = some (.cells #[vl, vm, .int .i64 N] 130 (0, 0))) (h3 : w.ownsRow base 54 4 vl n xs) (h4 : w.ownsRow base 3 1 vm M.length (M.map (Value.int .i64)))
    (hn : w'.ownsRow base 54 4 v' L'.length (flatE L')) (hk : ∀ q, q < w.heap.size → vl.ownBlock ≠ some q → w'.heap[q]? = w.heap[q]?) :
    JR base (w'.setCell ⟨b, 0, none⟩ v') b L' M N ∧ JFr w (w'.setCell ⟨b, 0, none⟩ v') ∧ w'.heap[b]? = some (.cells #[vl, vm, .int .i64 N] 130 (0, 0)) := by
  have hb' : w'.heap[b]? = some (.cells #[vl, vm, .int .i64 N] 130 (0, 0)) := (hk b (Array.getElem?_eq_some_iff.1 h2).1 (ownBlock_ne h3 h2 (by decide))).trans h2
  have h4' := ownsRow_keep h4 (ownBlocks_ne h4 h3 (by decide)) hk
  refine ⟨⟨hbb, v', vm, ?_, ownsRow_other hn _ _ (ownBlock_ne hn hb' (by decide)), ownsRow_other h4' _ _ (ownBlock_ne h4' hb' (by decide))⟩, ?_, hb'⟩
  · have := heap_setCell_same w' b 0 _ _ v' hb'
    simpa using this
  · intro k cs t t1 t2 t3 hq
    have hkb : k ≠ b := by
      rintro rfl
      rw [h2] at hq; simp at hq; exact t1 hq.2.symm
    rw [Below.heap_setCell w' ⟨b, 0, none⟩ v' k hkb, hk k (Array.getElem?_eq_some_iff.1 hq).1 (ownBlock_ne h3 hq (fun h => t2 h.symm))]
    exact hq

set_option maxRecDepth 100000 in
theorem jopen_any (base b : Nat) (L : List Ent) (M : List Int) (N : Int) (w : World) (h : JR base w b L M N) :
    Calls Try.prog 28 #[.pointer (some ⟨b, 0, none⟩)] w fun e w' => e = .returned (.bool (decide (0 < M.length))) ∧ w = w' := by
  obtain ⟨la, lc, ma, mc, c0, c1, c2, z0, z1, z2, hb, hbb, hblk, hl, hm, hlc, hmc⟩ := h.open
  clear h hl hm hblk hlc hmc
  generalize L.length = ln at *
  generalize M.length = mn at *
  by_cases hp : 0 < mn
  · have t : decide ((mn : Int) > 0) = true := decide_eq_true (by omega)
    rw [decide_eq_true hp]
    go_enter Try.func28, Try.ntmps28
    go_wp2
    go_ret
    exact ⟨rfl, rfl⟩
  · have t : decide ((mn : Int) > 0) = false := decide_eq_false (by omega)
    rw [decide_eq_false hp]
    go_enter Try.func28, Try.ntmps28
    go_wp2
    go_ret
    exact ⟨rfl, rfl⟩

set_option maxRecDepth 100000 in
theorem jnew_any (w : World) : Calls Try.prog 19 #[] w fun e w' => ∃ b, e = .returned (.pointer (some ⟨b, 0, none⟩)) ∧ w.heap.size ≤ b ∧ (∀ base, base ≤ w.heap.size → JR base w' b [] [] 0) ∧ Below w.heap.size w w' := by
  obtain ⟨X, hX, hszX, hbX, d0⟩ := allocs1 w #[.slice none 0 0, .slice none 0 0, .int .i64 0] 130
  have hj : ∀ base, base ≤ w.heap.size → JR base X w.heap.size [] [] 0 := fun base hb => ⟨hb, _, _, d0, World.ownsRow_nil _ _ _ _, World.ownsRow_nil _ _ _ _⟩
  subst hX
  have Hj := hid hj
  clear hj d0 hszX
  go_enter Try.func19, Try.ntmps19
  go_wp2
  go_ret
  exact ⟨_, rfl, Nat.le_refl _, Hj.out, hbX⟩

def postsM (b ln : Nat) (la ma : Option Addr) (lc mn mc top : Nat) : List (Value → World → Prop) := [
    fun x _ => x = .pointer (some ⟨b, 0, none⟩),
    fun x _ => x = .pointer (some ⟨b, 0, none⟩),
    fun x _ => x = .pointer (some ⟨b, 0, none⟩),
    fun x _ => x = .pointer (some ⟨b, 1, none⟩),
    fun x _ => x = .slice ma mn mc,
    fun x _ => x = .pointer (some ⟨b, 0, none⟩),
    fun x _ => x = .pointer (some ⟨b, 0, none⟩),
    fun x _ => x = .pointer (some ⟨b, 0, none⟩),
    fun x _ => x = .slice la ln lc,
    fun x _ => x = .int .i64 ln,
    fun v w => NewB top v #[.int .i64 ln] 3 w]

set_option maxHeartbeats 1000000 in
set_option maxRecDepth 100000 in
theorem mark_any (base b : Nat) (L : List Ent) (M : List Int) (N : Int) (w : World) (hbase : base ≤ w.heap.size) (hM : M.length ≤ 1000000) (h : JR base w b L M N) :
    Calls Try.prog 22 #[.pointer (some ⟨b, 0, none⟩)] w fun e w' => e = .returned (.int .i64 (M.length + 1 : Nat)) ∧ JR base w' b L (M ++ [(L.length : Int)]) N ∧ Below base w w' ∧ JFr w w' := by
  obtain ⟨la, lc, ma, mc, c0, c1, c2, z0, z1, z2, hb, hbb, hblk, hl, hm, hlc, hmc⟩ := h.open
  clear h
  have Hl := hid hl
  have Hm := hid hm
  have Hblk := hid hblk
  clear hl hm hblk
  generalize hln : L.length = ln at *
  generalize hmn : M.length = mn at *
  go_enter Try.func22, Try.ntmps22
  go_wp2
  refine wp_region_rg_tail1 11 (fun w' => Below w.heap.size w w') (fun w w' => Below w.heap.size w w') (postsM b ln la ma lc mn mc w.heap.size)
      [[], [], [1], [2], [3], [], [5], [6], [7], [8], [9], [], [], [], []]
      22 (by kernel_rfl) rfl rfl (v0 := .pointer (some ⟨b, 0, none⟩)) (by first | exact Or.inl ⟨rfl, fun _ => Or.inl rfl⟩ | exact ⟨rfl, fun _ => rfl⟩ | simp [Yields, go_sem]) (by intro c a w h; exact h) (by kernel_rfl) rfl ?rg0 rfl ?rgC ?rgP ?rgS ?rgQ
  case rgP => exact ⟨kept_eq, kept_eq, kept_eq, kept_eq, kept_eq, kept_eq, kept_eq, kept_eq, kept_eq, kept_eq, newB_kept, trivial⟩
  case rgS =>
    intro V
    refine rgGoals_cons 1 (by intro v; simp only [Act.put, List.setIfInBounds_toArray, List.set_cons_zero, List.set_cons_succ]; exact rfl) rfl (fun w hC hd K hK => ?_) ?_
    · clear hd
      go_simp; exact hK _ _ (Below.refl _ _) rfl
    refine rgGoals_cons 2 (by intro v; simp only [Act.put, List.setIfInBounds_toArray, List.set_cons_zero, List.set_cons_succ]; exact rfl) rfl (fun w hC hd K hK => ?_) ?_
    · clear hd
      go_simp; exact hK _ _ (Below.refl _ _) rfl
    refine rgGoals_cons 3 (by intro v; simp only [Act.put, List.setIfInBounds_toArray, List.set_cons_zero, List.set_cons_succ]; exact rfl) rfl (fun w hC hd K hK => ?_) ?_
    · obtain ⟨h1, _⟩ := hd
      replace h1 : V 1 = .pointer (some ⟨b, 0, none⟩) := h1
      simp only [h1] at hK
      go_simp; exact hK _ _ (Below.refl _ _) rfl
    refine rgGoals_cons 4 (by intro v; simp only [Act.put, List.setIfInBounds_toArray, List.set_cons_zero, List.set_cons_succ]; exact rfl) rfl (fun w hC hd K hK => ?_) ?_
    · obtain ⟨h2, _⟩ := hd
      replace h2 : V 2 = .pointer (some ⟨b, 0, none⟩) := h2
      simp only [h2] at hK
      go_simp; exact hK _ _ (Below.refl _ _) rfl
    refine rgGoals_cons 5 (by intro v; simp only [Act.put, List.setIfInBounds_toArray, List.set_cons_zero, List.set_cons_succ]; exact rfl) rfl (fun w hC hd K hK => ?_) ?_
    · obtain ⟨h3, _⟩ := hd
      replace h3 : V 3 = .pointer (some ⟨b, 1, none⟩) := h3
      simp only [h3] at hK
      have e1 := (hC.cell (p := ⟨b, 1, none⟩) hb).trans c1
      go_simp; exact hK _ _ (Below.refl _ _) rfl
    refine rgGoals_cons 6 (by intro v; simp only [Act.put, List.setIfInBounds_toArray, List.set_cons_zero, List.set_cons_succ]; exact rfl) rfl (fun w hC hd K hK => ?_) ?_
    · clear hd
      go_simp; exact hK _ _ (Below.refl _ _) rfl
    refine rgGoals_cons 7 (by intro v; simp only [Act.put, List.setIfInBounds_toArray, List.set_cons_zero, List.set_cons_succ]; exact rfl) rfl (fun w hC hd K hK => ?_) ?_
    · obtain ⟨h5, _⟩ := hd
      replace h5 : V 5 = .pointer (some ⟨b, 0, none⟩) := h5
      simp only [h5] at hK
      go_simp; exact hK _ _ (Below.refl _ _) rfl
    refine rgGoals_cons 8 (by intro v; simp only [Act.put, List.setIfInBounds_toArray, List.set_cons_zero, List.set_cons_succ]; exact rfl) rfl (fun w hC hd K hK => ?_) ?_
    · obtain ⟨h6, _⟩ := hd
      replace h6 : V 6 = .pointer (some ⟨b, 0, none⟩) := h6
      simp only [h6] at hK
      go_simp; exact hK _ _ (Below.refl _ _) rfl
    refine rgGoals_cons 9 (by intro v; simp only [Act.put, List.setIfInBounds_toArray, List.set_cons_zero, List.set_cons_succ]; exact rfl) rfl (fun w hC hd K hK => ?_) ?_
    · obtain ⟨h7, _⟩ := hd
      replace h7 : V 7 = .pointer (some ⟨b, 0, none⟩) := h7
      simp only [h7] at hK
      have e1 := (hC.cell (p := ⟨b, 0, none⟩) hb).trans c0
      go_simp; exact hK _ _ (Below.refl _ _) rfl
    refine rgGoals_cons 10 (by intro v; simp only [Act.put, List.setIfInBounds_toArray, List.set_cons_zero, List.set_cons_succ]; exact rfl) rfl (fun w hC hd K hK => ?_) ?_
    · obtain ⟨h8, _⟩ := hd
      replace h8 : V 8 = .slice la ln lc := h8
      simp only [h8] at hK
      go_simp; exact hK _ _ (Below.refl _ _) rfl
    refine rgGoals_cons 11 (by intro v; simp only [Act.put, List.setIfInBounds_toArray, List.set_cons_zero, List.set_cons_succ]; exact rfl) rfl (fun w hC hd K hK => ?_) ?_
    · obtain ⟨h9, _⟩ := hd
      replace h9 : V 9 = .int .i64 ln := h9
      simp only [h9] at hK
      go_simp; exact hK _ _ ((Below.refl _ _).alloc (Nat.le_refl _) _) ⟨_, rfl, hC.size, heap_alloc_last _ _⟩
    trivial
  case rgC => exact fun w1 w2 h1 h2 => below_ext h1 (Nat.le_refl _) h2
  case rg0 => exact (Below.refl _ _).drew
  case rgQ =>
    intro V w2 hC hp
    have h0 : V 0 = .pointer (some ⟨b, 0, none⟩) := postsHold_at hp 0 rfl
    have h4 : V 4 = .slice ma mn mc := postsHold_at hp 4 rfl
    obtain ⟨k, h10, hk1, hk2⟩ := postsHold_at hp 10 rfl
    replace h10 : V 10 = .slice (some ⟨k, 0, none⟩) 1 1 := h10
    simp only [List.take_succ_cons, List.take_zero, List.drop_succ_cons, List.drop_zero, putAll, Act.put, List.setIfInBounds_toArray, List.set_cons_zero, List.set_cons_succ]
    simp only [Nat.reduceAdd, h0, h4, h10]
    refine wpList_pushAtK Try.underlying33 infoI rfl (by decide) (by decide) (ownsRow_ext Hm.out hC) hk2 (Nat.le_trans hbase hC.size) (by omega) rfl rfl rfl rfl rfl (by intro u hu; simp at hu; subst hu; rfl) ?_
    intro v' w' hown' hb' hsz' hkeep'
    obtain ⟨a', cap', rfl, hcap', -⟩ := slice_of_own hown'
    have hM' : (M ++ [(ln : Int)]).length = mn + 1 := by simp [hmn]
    have hown2 : w'.ownsRow base 3 1 (.slice a' (mn + 1) cap') (M ++ [(ln : Int)]).length ((M ++ [(ln : Int)]).map (Value.int .i64)) := by
      rw [hM', List.map_append]; exact hown'
    obtain ⟨r1, r2, r3⟩ := JR.setM (L := L) hbb ((hC.block b hb).trans Hblk.out) (by rw [hln]; exact ownsRow_ext Hl.out hC) (ownsRow_ext Hm.out hC) hown2 hkeep'
    have k1 := cell_of_row w' b 1 _ _ _ r3
    have y1 := frozen_of_row w' b 1 _ _ r3
    have hb2 := (Below.setCell (hC.mono hbase |>.trans hb') (p := ⟨b, 1, none⟩) hbb (.slice a' (mn + 1) cap'))
    obtain ⟨_, vl9, vm9, q2, _, _⟩ := id r1
    have k9 : (w'.setCell ⟨b, 1, none⟩ (.slice a' (mn + 1) cap')).cell? ⟨b, 1, none⟩ = some (.slice a' (mn + 1) cap') := World.cell?_setCell_same _ _ _ k1
    have R1 := hid r1
    have R2 := hid r2
    clear r1 r2 r3 hown2 hown' hkeep' q2
    go_wp2
    go_ret
    exact ⟨rfl, R1.out, hb2, (JFr.of_below hC).trans R2.out⟩

end Go.Proofs.Ytmcmickgllffoaa
