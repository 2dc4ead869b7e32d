/- What is proved here: the law JournalBack, walked. -/
import Derived.Test.YtpdmkignihhobaaJnC
import Derived.Test.YtpdmkignihhobaaJnE0
import Derived.Deep.DeepCutAuto
namespace Go.Proofs.Ytpdmkignihhobaa
open Go.RowKit
set_option linter.unusedVariables false
set_option linter.unusedSimpArgs false

set_option maxHeartbeats 1000000 in
set_option maxRecDepth 100000 in
theorem awake28_any (w : World) : Calls Try.prog 15 #[] w fun e w' => e = .returned (.bool true) ∧ Below w.heap.size w w' := by
  go_enter Try.func15, Try.ntmps15
  go_wp2_with fail
  refine (jnew_any _).mono ?_
  rintro e w1 ⟨b, rfl, hbb, hj, hb1⟩
  have hJ := hj w.heap.size (Nat.le_refl _)
  clear hj
  go_wp2_with fail
  refine (mark_any w.heap.size b [] [] 0 w1 hb1.size (by simp) hJ).mono ?_
  rintro e w2 ⟨rfl, hJ2, hb2, -⟩
  go_wp2_with fail
  refine (note_any w.heap.size b [] [0] 0 1 0 0 ⟨#[]⟩ w2 (hb1.trans hb2).size (by simp) hJ2 (by simp)).mono ?_
  rintro e w3 ⟨rfl, ⟨N3, hJ3⟩, hb3, -⟩
  go_wp2_with fail
  refine (note_any w.heap.size b [(1, 0, 0, ⟨#[]⟩)] [0] N3 2 0 0 ⟨#[]⟩ w3 ((hb1.trans hb2).trans hb3).size (by simp) hJ3 (by simp)).mono ?_
  rintro e w4 ⟨rfl, ⟨N4, hJ4⟩, hb4, -⟩
  have hb14 := ((hb1.trans hb2).trans hb3).trans hb4
  go_wp2_with fail
  refine (back_any w.heap.size b [(1, 0, 0, ⟨#[]⟩), (2, 0, 0, ⟨#[]⟩)] [] 0 N4 w4 hb14.size (by simp) (by simp) (by simp) hJ4).mono ?_
  rintro e w5 ⟨⟨s, rfl, hs⟩, -, hb5, -⟩
  obtain ⟨a, cap, rfl, hcap, hrow⟩ := slice_of_own hs
  obtain ⟨g, rfl, _, hg, hc⟩ := hrow (by simp)
  have k0 : w5.cell? ⟨g, 0, none⟩ = some (.int .i64 2) := hc 0 (by simp)
  have k1 : w5.cell? ⟨g, 4, none⟩ = some (.int .i64 1) := hc 4 (by simp)
  clear hs hrow hc hJ hJ2 hJ3 hJ4
  go_wp2
  go_ret
  exact ⟨rfl, hb14.trans hb5⟩

def arr4 (f : Nat → Int) : Array Value := #[.int .u8 (f 0), .int .u8 (f 1), .int .u8 (f 2), .int .u8 (f 3)]
def upd (f : Nat → Int) (a : Nat) (v : Int) : Nat → Int := fun j => if j = a then v else f j

theorem arr4_at (f : Nat → Int) (a : Nat) (h : a < 4) : (arr4 f)[a]? = some (.int .u8 (f a)) := by
  match a, h with
  | 0, _ => rfl
  | 1, _ => rfl
  | 2, _ => rfl
  | 3, _ => rfl
theorem arr4_set (f : Nat → Int) (a : Nat) (v : Int) (h : a < 4) : (arr4 f).setIfInBounds a (.int .u8 v) = arr4 (upd f a v) := by
  match a, h with
  | 0, _ => rfl
  | 1, _ => rfl
  | 2, _ => rfl
  | 3, _ => rfl

/-- What is set back. -/
def und : List Ent → (Nat → Int) → (Nat → Int)
  | [], f => f
  | e :: r, f => und r (upd f e.2.1.toNat e.2.2.1)

/-- The entries of small places and small numbers. -/
def EntOk (L : List Ent) : Prop := ∀ e ∈ L, 0 ≤ e.2.1 ∧ e.2.1 < 4 ∧ 0 ≤ e.2.2.1 ∧ e.2.2.1 < 256

theorem upd_same (f : Nat → Int) (a : Nat) (v : Int) : upd (upd f a v) a (f a) = f := by
  funext j
  unfold upd
  by_cases h : j = a
  · rw [if_pos h, h]
  · rw [if_neg h, if_neg h]

/-- The rows of two small numbers. -/
def RdP (w : World) (a : Option Addr) (n : Nat) (g : Nat → Int × Int) : Prop := ∀ j, j < n → ∃ b off, a = some ⟨b, off, none⟩ ∧ w.cell? ⟨b, off + j * 2, none⟩ = some (.int .u8 (g j).1) ∧ w.cell? ⟨b, off + j * 2 + 1, none⟩ = some (.int .u8 (g j).2) ∧ b < w.heap.size ∧ 0 ≤ (g j).1 ∧ (g j).1 < 256 ∧ 0 ≤ (g j).2 ∧ (g j).2 < 256

theorem RdP.ext {w w' : World} {a : Option Addr} {n : Nat} {g : Nat → Int × Int} (h : RdP w a n g) (hb : Below w.heap.size w w') : RdP w' a n g := by
  intro j hj
  obtain ⟨b, off, ha, h0, h1, hl, r⟩ := h j hj
  exact ⟨b, off, ha, (hb.cell (p := ⟨b, off + j * 2, none⟩) hl).trans h0, (hb.cell (p := ⟨b, off + j * 2 + 1, none⟩) hl).trans h1, Nat.lt_of_lt_of_le hl hb.size, r⟩

theorem JR.setOther {base b : Nat} {w : World} {L : List Ent} {M : List Int} {N : Int} (h : JR base w b L M N) (p : Addr) (u : Value) {cs : Array Value} (hp : w.heap[p.block]? = some (.cells cs 22 (0, 0))) : JR base (w.setCell p u) b L M N ∧ True := by
  obtain ⟨h1, vl, vm, h2, h3, h4⟩ := h
  have hbp : b ≠ p.block := by
    intro he
    rw [he, hp] at h2; simp at h2
  exact ⟨⟨h1, vl, vm, (Below.heap_setCell w p u b hbp).trans h2, ownsRow_other h3 _ _ (ownBlock_ne h3 hp (by decide)), ownsRow_other h4 _ _ (ownBlock_ne h4 hp (by decide))⟩, trivial⟩

def JPtr (base : Nat) (v : Value) (w : World) : Prop := ∃ b, v = .pointer (some ⟨b, 0, none⟩) ∧ JR base w b [] [] 0
theorem jptr_kept {base : Nat} : ∀ v w w', (fun v (w : World) => JPtr base v w) v w → Below w.heap.size w w' → (fun v (w : World) => JPtr base v w) v w' := by
  rintro v w w' ⟨b, h1, h2⟩ hb; exact ⟨b, h1, h2.ext hb⟩
def Arr4P (top : Nat) (v : Value) (w : World) : Prop := ∃ k, v = .pointer (some ⟨k, 0, none⟩) ∧ top ≤ k ∧ w.heap[k]? = some (.cells #[.int .u8 0, .int .u8 0, .int .u8 0, .int .u8 0] 22 (0, 0))
theorem arr4p_kept {top : Nat} : ∀ v w w', (fun v (w : World) => Arr4P top v w) v w → Below w.heap.size w w' → (fun v (w : World) => Arr4P top v w) v w' := by
  rintro v w w' ⟨b, h1, h3, h2⟩ hb; exact ⟨b, h1, h3, (hb.block b (Array.getElem?_eq_some_iff.1 h2).1).trans h2⟩

def postsJ (base x top : Nat) (v0 v1 v2 v3 : Int) : List (Value → World → Prop) := [
    fun v w => JPtr base v w,
    fun x _ => x = .agg #[.int .u8 v0, .int .u8 v1, .int .u8 v2, .int .u8 v3],
    fun v w => Arr4P top v w,
    fun v w => JPtr base v w]

set_option maxHeartbeats 4000000 in
set_option maxRecDepth 100000 in
theorem jback_any (v0 v1 v2 v3 : Int) (a : Option Addr) (n cap : Nat) (g : Nat → Int × Int) (inner : Nat) (w : World) (hv : (0 ≤ v0 ∧ v0 < 256) ∧ (0 ≤ v1 ∧ v1 < 256) ∧ (0 ≤ v2 ∧ v2 < 256) ∧ (0 ≤ v3 ∧ v3 < 256)) (hin : inner < 256) (hlc : n ≤ cap) (hr : RdP w a n g) :
    Calls Try.prog 3 #[.agg #[.int .u8 v0, .int .u8 v1, .int .u8 v2, .int .u8 v3], .slice a n cap, .int .u8 inner] w fun e w' => e = .returned (.bool true) ∧ Below w.heap.size w w' := by
  have Hr := hid hr; clear hr
  have Hv := hid hv; clear hv
  go_enter Try.func3, Try.ntmps3
  go_wp2_with fail
  obtain ⟨W, hW, hszW, hbW, x0⟩ := allocs1 w #[.int .u8 v0, .int .u8 v1, .int .u8 v2, .int .u8 v3] 22
  rw [← hW]; clear hW
  refine (awake28_any _).mono ?_
  rintro ev w1 ⟨rfl, hb1'⟩
  have hb1 : Below w.heap.size w w1 := hbW.trans (hb1'.mono (by omega))
  have hx : w1.heap[w.heap.size]? = some (.cells #[.int .u8 v0, .int .u8 v1, .int .u8 v2, .int .u8 v3] 22 (0, 0)) := (hb1'.block w.heap.size (by omega)).trans x0
  have hbase1 := hb1.size
  clear x0 hb1' hszW hbW
  by_cases hn : n ≤ 100
  · have t : decide ((n : Int) > 100) = false := by simp; omega
    go_wp2
    obtain ⟨x, hxe⟩ : ∃ x, x = w.heap.size := ⟨_, rfl⟩
    have b0 : w1.cell? ⟨x, 0, none⟩ = some (.int .u8 v0) := by rw [hxe]; exact cell_of_row w1 _ 0 _ _ _ hx
    have b1 : w1.cell? ⟨x, 1, none⟩ = some (.int .u8 v1) := by rw [hxe]; exact cell_of_row w1 _ 1 _ _ _ hx
    have b2 : w1.cell? ⟨x, 2, none⟩ = some (.int .u8 v2) := by rw [hxe]; exact cell_of_row w1 _ 2 _ _ _ hx
    have b3 : w1.cell? ⟨x, 3, none⟩ = some (.int .u8 v3) := by rw [hxe]; exact cell_of_row w1 _ 3 _ _ _ hx
    have hx1 : x < w1.heap.size := by rw [hxe]; exact (Array.getElem?_eq_some_iff.1 hx).1
    have Hx := hid hx
    have Hxe := hid hxe
    have hpx : (Value.pointer (some ⟨w.heap.size, 0, none⟩)) = .pointer (some ⟨x, 0, none⟩) := by rw [hxe]
    rw [hpx]
    clear hx hxe hpx
    obtain ⟨base, hbse⟩ : ∃ base, base = w.heap.size := ⟨_, rfl⟩
    have hbase1 : base ≤ w1.heap.size := by rw [hbse]; exact hbase1
    obtain ⟨top, htop1⟩ : ∃ top, top = w1.heap.size := ⟨_, rfl⟩
    have Hbse := hid hbse
    clear hbse
    have hb1b : Below base w w1 := by rw [Hbse.out]; exact hb1
    refine wp_region_rg_tail 4 (fun w' => Below w1.heap.size w1 w') (fun w w' => Below w.heap.size w w') (postsJ base x top v0 v1 v2 v3)
        [[], [], [], [0, 2], []]
        120 (by kernel_rfl) rfl (by kernel_rfl) rfl ?rg0 ?rgC ?rgP ?rgS ?rgQ
    case rgP => exact ⟨jptr_kept, kept_eq, arr4p_kept, jptr_kept, trivial⟩
    case rgS =>
      intro V
      refine rgGoals_cons 1 (by intro v; simp only [Act.put, List.setIfInBounds_toArray, List.set_cons_zero, List.set_cons_succ]; exact rfl) rfl (fun w hC hd K hK => ?_) ?_
      · clear hd
        go_simp; refine (jnew_any _).mono ?_; rintro e w' ⟨b, rfl, hbb, hj, hb⟩; exact hK _ _ hb ⟨b, rfl, hj _ (Nat.le_trans hbase1 hC.size)⟩
      refine rgGoals_cons 2 (by intro v; simp only [Act.put, List.setIfInBounds_toArray, List.set_cons_zero, List.set_cons_succ]; exact rfl) rfl (fun w hC hd K hK => ?_) ?_
      · clear hd
        have f0 := (hC.cell (p := ⟨x, 0, none⟩) hx1).trans b0
        have f1 := (hC.cell (p := ⟨x, 1, none⟩) hx1).trans b1
        have f2 := (hC.cell (p := ⟨x, 2, none⟩) hx1).trans b2
        have f3 := (hC.cell (p := ⟨x, 3, none⟩) hx1).trans b3
        go_simp; exact hK _ _ (Below.refl _ _) rfl
      refine rgGoals_cons 3 (by intro v; simp only [Act.put, List.setIfInBounds_toArray, List.set_cons_zero, List.set_cons_succ]; exact rfl) rfl (fun w hC hd K hK => ?_) ?_
      · clear hd
        go_simp; exact hK _ _ ((Below.refl _ _).alloc (Nat.le_refl _) _) ⟨_, rfl, by rw [htop1]; exact hC.size, heap_alloc_last _ _⟩
      refine rgGoals_cons 4 (by intro v; simp only [Act.put, List.setIfInBounds_toArray, List.set_cons_zero, List.set_cons_succ]; exact rfl) rfl (fun w hC hd K hK => ?_) ?_
      · obtain ⟨h0, h2, _⟩ := hd
        replace h0 : (fun v w => JPtr base v w) (V 0) w := h0; dsimp only at h0
        replace h2 : (fun v w => Arr4P top v w) (V 2) w := h2; dsimp only at h2
        go_simp; exact hK _ _ (Below.refl _ _) h0
      trivial
    case rgC => exact fun w1 w2 h1 h2 => below_ext h1 (Nat.le_refl _) h2
    case rg0 => exact (Below.refl _ _).drew
    case rgQ =>
      intro V w2 hC hp
      have h1 : V 1 = .agg #[.int .u8 v0, .int .u8 v1, .int .u8 v2, .int .u8 v3] := postsHold_at hp 1 rfl
      obtain ⟨tb, h2, htop, hk⟩ := postsHold_at hp 2 rfl
      rw [htop1] at htop
      obtain ⟨b, h3, hJ⟩ := postsHold_at hp 3 rfl
      replace h2 : V 2 = .pointer (some ⟨tb, 0, none⟩) := h2
      replace h3 : V 3 = .pointer (some ⟨b, 0, none⟩) := h3
      simp only [List.take_succ_cons, List.take_zero, List.drop_succ_cons, List.drop_zero, putAll, Act.put, List.setIfInBounds_toArray, List.set_cons_zero, List.set_cons_succ]
      simp only [Nat.reduceAdd, h1, h2, h3]
      have k0 : w2.cell? ⟨tb, 0, none⟩ = some (.int .u8 0) := cell_of_row w2 tb 0 _ _ _ hk
      have k1 : w2.cell? ⟨tb, 1, none⟩ = some (.int .u8 0) := cell_of_row w2 tb 1 _ _ _ hk
      have k2 : w2.cell? ⟨tb, 2, none⟩ = some (.int .u8 0) := cell_of_row w2 tb 2 _ _ _ hk
      have k3 : w2.cell? ⟨tb, 3, none⟩ = some (.int .u8 0) := cell_of_row w2 tb 3 _ _ _ hk
      have y0 := frozen_of_row w2 tb 0 _ _ hk
      have y1 := frozen_of_row w2 tb 1 _ _ hk
      have y2 := frozen_of_row w2 tb 2 _ _ hk
      have y3 := frozen_of_row w2 tb 3 _ _ hk
      have HJ := hid hJ
      have Hk := hid hk
      have HC := hid hC
      clear hp h1 h2 h3 hk hJ hC b0 b1 b2 b3
      generalize V 0 = V0
      clear V
      go_wp2_with fail
      have hk4 := heap_setCell_same _ tb 3 _ _ (.int .u8 v3) (heap_setCell_same _ tb 2 _ _ (.int .u8 v2) (heap_setCell_same _ tb 1 _ _ (.int .u8 v1) (heap_setCell_same w2 tb 0 _ _ (.int .u8 v0) Hk.out)))
      obtain ⟨f, hf, hfe⟩ : ∃ f : Nat → Int, arr4 f = #[.int .u8 v0, .int .u8 v1, .int .u8 v2, .int .u8 v3] ∧ (∀ j, 0 ≤ f j ∧ f j < 256) := ⟨fun j => if j = 0 then v0 else if j = 1 then v1 else if j = 2 then v2 else v3, rfl, fun j => by have := Hv.out; dsimp only; (repeat' split) <;> omega⟩
      have hkf : (((((w2.setCell ⟨tb, 0, none⟩ (.int .u8 v0)).setCell ⟨tb, 1, none⟩ (.int .u8 v1)).setCell ⟨tb, 2, none⟩ (.int .u8 v2)).setCell ⟨tb, 3, none⟩ (.int .u8 v3))).heap[tb]? = some (.cells (arr4 f) 22 (0, 0)) := by rw [hf]; simpa using hk4
      have hJ1 := (((HJ.out.setOther ⟨tb, 0, none⟩ (.int .u8 v0) Hk.out).1.setOther ⟨tb, 1, none⟩ (.int .u8 v1) (heap_setCell_same w2 tb 0 _ _ (.int .u8 v0) Hk.out)).1.setOther ⟨tb, 2, none⟩ (.int .u8 v2) (heap_setCell_same _ tb 1 _ _ (.int .u8 v1) (heap_setCell_same w2 tb 0 _ _ (.int .u8 v0) Hk.out))).1.setOther ⟨tb, 3, none⟩ (.int .u8 v3) (heap_setCell_same _ tb 2 _ _ (.int .u8 v2) (heap_setCell_same _ tb 1 _ _ (.int .u8 v1) (heap_setCell_same w2 tb 0 _ _ (.int .u8 v0) Hk.out)))
      have hxtb : x ≠ tb := by omega
      have hxw : (((((w2.setCell ⟨tb, 0, none⟩ (.int .u8 v0)).setCell ⟨tb, 1, none⟩ (.int .u8 v1)).setCell ⟨tb, 2, none⟩ (.int .u8 v2)).setCell ⟨tb, 3, none⟩ (.int .u8 v3))).heap[x]? = some (.cells (arr4 f) 22 (0, 0)) := by
        rw [Below.heap_setCell _ ⟨tb, 3, none⟩ _ x hxtb, Below.heap_setCell _ ⟨tb, 2, none⟩ _ x hxtb, Below.heap_setCell _ ⟨tb, 1, none⟩ _ x hxtb, Below.heap_setCell _ ⟨tb, 0, none⟩ _ x hxtb, HC.out.block x hx1, Hxe.out, hf]
        exact Hx.out
      have hbw3 : Below base w1 ((((w2.setCell ⟨tb, 0, none⟩ (.int .u8 v0)).setCell ⟨tb, 1, none⟩ (.int .u8 v1)).setCell ⟨tb, 2, none⟩ (.int .u8 v2)).setCell ⟨tb, 3, none⟩ (.int .u8 v3)) := ((((HC.out.mono hbase1).setCell (p := ⟨tb, 0, none⟩) (Nat.le_trans hbase1 htop) _).setCell (p := ⟨tb, 1, none⟩) (Nat.le_trans hbase1 htop) _).setCell (p := ⟨tb, 2, none⟩) (Nat.le_trans hbase1 htop) _).setCell (p := ⟨tb, 3, none⟩) (Nat.le_trans hbase1 htop) _
      obtain ⟨hJ2, _⟩ := hJ1
      clear hk4 k0 k1 k2 k3 y0 y1 y2 y3 Hk HJ HC
      generalize ((((w2.setCell ⟨tb, 0, none⟩ (.int .u8 v0)).setCell ⟨tb, 1, none⟩ (.int .u8 v1)).setCell ⟨tb, 2, none⟩ (.int .u8 v2)).setCell ⟨tb, 3, none⟩ (.int .u8 v3)) = w3 at *
      refine (mark_any base b [] [] 0 w3 (Nat.le_trans hbase1 hbw3.size) (by simp) hJ2).mono ?_
      rintro ev w4 ⟨rfl, hJ4, hb4, hf4⟩
      have HJ4 := hid hJ4
      have hk4 := hid (hf4 tb _ _ (by decide) (by decide) (by decide) hkf)
      have hx4 := hid (hf4 x _ _ (by decide) (by decide) (by decide) hxw)
      have hbw4 := hbw3.trans hb4
      clear hJ4 hJ2 hf4 hkf hxw hb4 hbw3
      go_wp2_with fail
      have Hf := hid hf
      have Hfe := hid hfe
      have hu0 : und ([] : List Ent).reverse f = f := rfl
      go_loopw [9, 10] (fun iv _ wr => ∃ (i : Nat) (E : List Ent) (fc : Nat → Int) (N : Int), iv = .int .i64 i ∧ i ≤ n ∧ E.length = i ∧ Hid (JR base wr b E [0] N) ∧ Hid (wr.heap[tb]? = some (.cells (arr4 fc) 22 (0, 0))) ∧ Hid (wr.heap[x]? = some (.cells (arr4 f) 22 (0, 0))) ∧ Below base w1 wr ∧ Hid (und E.reverse fc = f) ∧ Hid (EntOk E) ∧ Hid (∀ j, 0 ≤ fc j ∧ fc j < 256)) (fun iv _ _ => n - (intOf iv).toNat)
      case atStart => exact ⟨0, [], f, 0, rfl, Nat.zero_le _, rfl, HJ4, hk4, hx4, hbw4, hu0, hid (fun e he => absurd he (by simp)), Hfe⟩
      case round =>
        obtain ⟨i, E, fc, N, rfl, hi, hEi, HJ, hk, hxr, hbr, Hu, HE, Hfc⟩ := hrel
        have hbs := Nat.le_trans hbase1 hbr.size
        by_cases hlt : i < n
        · obtain ⟨ba, off, rfl, c0w, c1w, hltw, hr1, hr2, hr3, hr4⟩ := Hr.out i hlt
          have hba : ba < base := by rw [Hbse.out]; exact hltw
          generalize (g i).1 = ga at *
          generalize (g i).2 = gv at *
          obtain ⟨ga, rfl⟩ := Int.eq_ofNat_of_zero_le hr1
          have HCL := hid (fun (wq : World) (hq : Below base w wq) => And.intro ((hq.cell (p := ⟨ba, off + i * 2, none⟩) hba).trans c0w) ((hq.cell (p := ⟨ba, off + i * 2 + 1, none⟩) hba).trans c1w))
          obtain ⟨c0, c1⟩ := HCL.out wr (hb1b.trans hbr)
          have hltb : ba < wr.heap.size := Nat.lt_of_lt_of_le hba hbs
          clear c0w c1w
          have ham : ga % 4 < 4 := Nat.mod_lt _ (by omega)
          have ham2 : ((ga : Int) % 4).toNat = ga % 4 := by omega
          have HN := hid (fun (wq : World) (M : List Int) (N : Int) (hJ : JR base wq b E M N) (hM : 0 < M.length) (hbq : base ≤ wq.heap.size) => note_any base b E M N 0 ((ga : Int) % 4) (fc (ga % 4)) ⟨#[]⟩ wq hbq (by omega) hJ hM)
          have Hu2 := hid (show und ((E ++ [((0 : Int), (ga : Int) % 4, fc (ga % 4), (⟨#[]⟩ : ByteArray))]).reverse) (upd fc (ga % 4) gv) = f by
            rw [List.reverse_append]
            show und E.reverse (upd (upd fc (ga % 4) gv) ((ga : Int) % 4).toNat (fc (ga % 4))) = f
            rw [ham2, upd_same]; exact Hu.out)
          have HE2 := hid (show EntOk (E ++ [((0 : Int), (ga : Int) % 4, fc (ga % 4), (⟨#[]⟩ : ByteArray))]) by
            intro e he
            rw [List.mem_append] at he
            rcases he with he | he
            · exact HE.out e he
            · simp at he; subst he
              have := Hfc.out (ga % 4)
              exact ⟨by dsimp only; omega, by dsimp only; omega, this.1, this.2⟩)
          have Hfc2 := hid (show ∀ j, 0 ≤ upd fc (ga % 4) gv j ∧ upd fc (ga % 4) gv j < 256 by
            intro j; unfold upd; split
            · exact ⟨hr3, hr4⟩
            · exact Hfc.out j)
          have hlen2 : (E ++ [((0 : Int), (ga : Int) % 4, fc (ga % 4), (⟨#[]⟩ : ByteArray))]).length = i + 1 := by simp [hEi]
          have HS := hid (fun (wq : World) (L : List Ent) (M : List Int) (N : Int) (hJ : JR base wq b L M N) (hkq : wq.heap[tb]? = some (.cells (arr4 fc) 22 (0, 0))) (hxq : wq.heap[x]? = some (.cells (arr4 f) 22 (0, 0))) =>
            (⟨(hJ.setOther ⟨tb, ga % 4, none⟩ (.int .u8 gv) hkq).1, by have := heap_setCell_same wq tb (ga % 4) _ _ (.int .u8 gv) hkq; rwa [arr4_set fc (ga % 4) gv ham] at this, (Below.heap_setCell wq ⟨tb, ga % 4, none⟩ (.int .u8 gv) x hxtb).trans hxq⟩ :
              JR base (wq.setCell ⟨tb, ga % 4, none⟩ (.int .u8 gv)) b L M N ∧ (wq.setCell ⟨tb, ga % 4, none⟩ (.int .u8 gv)).heap[tb]? = some (.cells (arr4 (upd fc (ga % 4) gv)) 22 (0, 0)) ∧ (wq.setCell ⟨tb, ga % 4, none⟩ (.int .u8 gv)).heap[x]? = some (.cells (arr4 f) 22 (0, 0))))
          have htb : base ≤ tb := Nat.le_trans hbase1 htop
          have hwf : IntKind.u64.wrap (fc (ga % 4)) = fc (ga % 4) := by have := Hfc.out (ga % 4); exact wrap_u64 this.1 (by omega)
          have Hwf := hid hwf
          clear hwf
          clear Hu HE hr1 hr2 hr3 hr4 ham2
          by_cases hc : i % 7 = inner % 7
          · have tc : ((i : Int) % 7 == (inner : Int) % 7) = true := by simp; omega
            clear hc
            go_wp2_with fail
            refine (mark_any base b E [0] N wr hbs (by simp) HJ.out).mono ?_
            rintro ev w5 ⟨rfl, hJ5, hb5, hf5⟩
            have HJ5 := hid hJ5
            have hk5 := hid (hf5 tb _ _ (by decide) (by decide) (by decide) hk.out)
            have hx5 := hid (hf5 x _ _ (by decide) (by decide) (by decide) hxr.out)
            have hbr5 := hbr.trans hb5
            obtain ⟨c05, c15⟩ := HCL.out w5 (hb1b.trans hbr5)
            have hlt5 : ba < w5.heap.size := Nat.lt_of_lt_of_le hba (Nat.le_trans hbase1 hbr5.size)
            clear hJ5 hf5 hb5
            have q0 := (cell_of_row w5 tb (ga % 4) _ _ _ hk5.out).trans (arr4_at fc (ga % 4) ham)
            go_wp2_with fail
            rw [Hwf.out]
            refine (HN.out w5 ([0] ++ [(E.length : Int)]) _ HJ5.out (by simp) (Nat.le_trans hbase1 hbr5.size)).mono ?_
            rintro ev w6 ⟨rfl, ⟨N6, hJ6⟩, hb6, hf6⟩
            have hbr6 := hbr5.trans hb6
            have hk6 := hf6 tb _ _ (by decide) (by decide) (by decide) hk5.out
            have hx6 := hf6 x _ _ (by decide) (by decide) (by decide) hx5.out
            have q6 := (cell_of_row w6 tb (ga % 4) _ _ _ hk6).trans (arr4_at fc (ga % 4) ham)
            have z6 := frozen_of_row w6 tb (ga % 4) _ _ hk6
            obtain ⟨-, c16⟩ := HCL.out w6 (hb1b.trans hbr6)
            have hlt6 : ba < w6.heap.size := Nat.lt_of_lt_of_le hba (Nat.le_trans hbase1 hbr6.size)
            obtain ⟨s1, s2, s3⟩ := HS.out w6 _ _ _ hJ6 hk6 hx6
            have hbr7 := hbr6.setCell (p := ⟨tb, ga % 4, none⟩) htb (.int .u8 gv)
            have S1 := hid s1
            have S2 := hid s2
            have S3 := hid s3
            clear hJ6 hf6 hk6 hx6 s1 s2 s3 hb6
            go_wp2_with fail
            refine (keep_any base b _ ([0] ++ [(E.length : Int)]) N6 _ (Nat.le_trans hbase1 hbr7.size) (by simp) S1.out (by simp)).mono ?_
            rintro ev w8 ⟨rfl, hJ8, hb8, hf8⟩
            have HJ8 := hid (show JR base w8 b (E ++ [((0 : Int), (ga : Int) % 4, fc (ga % 4), (⟨#[]⟩ : ByteArray))]) [0] N6 from by simpa using hJ8)
            have hk8 := hid (hf8 tb _ _ (by decide) (by decide) (by decide) S2.out)
            have hx8 := hid (hf8 x _ _ (by decide) (by decide) (by decide) S3.out)
            clear hJ8 hf8
            go_wp2
            go_roundw
            case rel => exact ⟨i + 1, _, _, _, by go_num, by omega, hlen2, HJ8, hk8, hx8, hbr7.trans hb8, Hu2, HE2, Hfc2⟩
            case measure => simp [intOf]; omega
          · have tc : ((i : Int) % 7 == (inner : Int) % 7) = false := by simp; omega
            clear hc
            have q0 := (cell_of_row wr tb (ga % 4) _ _ _ hk.out).trans (arr4_at fc (ga % 4) ham)
            go_wp2_with fail
            rw [Hwf.out]
            refine (HN.out wr [0] _ HJ.out (by simp) (Nat.le_trans hbase1 hbr.size)).mono ?_
            rintro ev w6 ⟨rfl, ⟨N6, hJ6⟩, hb6, hf6⟩
            have hbr6 := hbr.trans hb6
            have hk6 := hf6 tb _ _ (by decide) (by decide) (by decide) hk.out
            have hx6 := hf6 x _ _ (by decide) (by decide) (by decide) hxr.out
            have q6 := (cell_of_row w6 tb (ga % 4) _ _ _ hk6).trans (arr4_at fc (ga % 4) ham)
            have z6 := frozen_of_row w6 tb (ga % 4) _ _ hk6
            obtain ⟨-, c16⟩ := HCL.out w6 (hb1b.trans hbr6)
            have hlt6 : ba < w6.heap.size := Nat.lt_of_lt_of_le hba (Nat.le_trans hbase1 hbr6.size)
            obtain ⟨s1, s2, s3⟩ := HS.out w6 _ _ _ hJ6 hk6 hx6
            have hbr7 := hbr6.setCell (p := ⟨tb, ga % 4, none⟩) htb (.int .u8 gv)
            have S1 := hid s1
            have S2 := hid s2
            have S3 := hid s3
            clear hJ6 hf6 hk6 hx6 s1 s2 s3 hb6
            go_wp2
            go_roundw
            case rel => exact ⟨i + 1, _, _, _, by go_num, by omega, hlen2, S1, S2, S3, hbr7, Hu2, HE2, Hfc2⟩
            case measure => simp [intOf]; omega
        · obtain rfl : i = n := by omega
          have HJb := hid (show JR base wr b E ([] ++ [((0 : Nat) : Int)]) N from by simpa using HJ.out)
          go_wp2_with fail
          refine (back_any base b E [] 0 N wr hbs (by omega) (by simp) (Nat.zero_le _) HJb.out).mono ?_
          rintro ev w5 ⟨⟨s, rfl, hs⟩, hJ5, hb5, hf5⟩
          rw [Nat.sub_zero, hEi] at hs
          have hR : outE E i = E.reverse := by rw [← hEi]; simp [outE]
          rw [hR] at hs
          obtain ⟨R, hRe⟩ : ∃ R, R = E.reverse := ⟨_, rfl⟩
          rw [← hRe] at hs
          have hRl : R.length = i := by rw [hRe]; simp [hEi]
          have hRok : EntOk R := fun e he => HE.out e (by rw [hRe] at he; simpa using he)
          have hRu : und R fc = f := by rw [hRe]; exact Hu.out
          obtain ⟨sa, sc, rfl, hsc, hgs⟩ := slice_of_own hs
          have hk5 := hid (hf5 tb _ _ (by decide) (by decide) (by decide) hk.out)
          have hx5 := hid (hf5 x _ _ (by decide) (by decide) (by decide) hxr.out)
          have Hs := hid (ownsRow_mono hs hbs)
          have Ho := hid (jopen_any base b _ [] _ w5 hJ5)
          rw [show (decide (0 < ([] : List Int).length)) = false from rfl] at Ho
          have hbr5 := hbr.trans hb5
          have HRok := hid hRok
          have HRu := hid hRu
          clear hJ5 hf5 hs hb5 hgs hR hRe HJ HJb Hu HE hRok hRu hk hxr
          go_wp2_with fail
          refine Ho.out.mono ?_
          rintro ev w6 ⟨rfl, rfl⟩
          clear Ho
          go_wp2_with fail
          go_loopw [13] (fun jv wq => ∃ (j : Nat) (fd : Nat → Int), jv = .int .i64 j ∧ j ≤ i ∧ Hid (wq.heap[tb]? = some (.cells (arr4 fd) 22 (0, 0))) ∧ Hid (wq.heap[x]? = some (.cells (arr4 f) 22 (0, 0))) ∧ Below base w1 wq ∧ Hid (und (R.drop j) fd = f) ∧ Hid (wq.ownsRow base 32 4 (.slice sa i sc) i (flatE R))) (fun jv _ => i - (intOf jv).toNat)
          case atStart => exact ⟨0, fc, rfl, Nat.zero_le _, hk5, hx5, hbr5, HRu, Hs⟩
          case round =>
            obtain ⟨j, fd, rfl, hj, hkq, hxq, hbq, Hud, Hrow⟩ := hrel
            have hbsq := Nat.le_trans hbase1 hbq.size
            by_cases hji : j < i
            · obtain ⟨sa', sc', he', _, hgr⟩ := slice_of_own Hrow.out
              simp at he'
              obtain ⟨rfl, rfl⟩ := he'
              obtain ⟨gs, rfl, hgs1, hgs2, hcl⟩ := hgr (by omega)
              have hmem : eAt R j ∈ R := by
                have : j < R.length := by omega
                simp [eAt, this]
              have hdrop : R.drop j = eAt R j :: R.drop (j + 1) := by
                have : j < R.length := by omega
                rw [List.drop_eq_getElem_cons this]
                simp [eAt, this]
              have hud := Hud.out
              rw [hdrop] at hud
              obtain ⟨o1, o2, o3, o4⟩ := HRok.out _ hmem
              have q1 : wr.cell? ⟨gs, j * 4 + 1, none⟩ = some (.int .i64 (eAt R j).2.1) := (hcl (j * 4 + 1) (by omega)).trans (flatE_at R j 1 (by omega) (by omega))
              have q2 : wr.cell? ⟨gs, j * 4 + 2, none⟩ = some (.int .u64 (eAt R j).2.2.1) := (hcl (j * 4 + 2) (by omega)).trans (flatE_at R j 2 (by omega) (by omega))
              replace hud : und (R.drop (j + 1)) (upd fd (eAt R j).2.1.toNat (eAt R j).2.2.1) = f := hud
              generalize (eAt R j).2.1 = m1 at *
              generalize (eAt R j).2.2.1 = o at *
              obtain ⟨m, rfl⟩ := Int.eq_ofNat_of_zero_le o1
              rw [Int.toNat_natCast] at hud
              have hm4 : m < 4 := by omega
              have t0 : decide ((m : Int) < 0) = false := decide_eq_false (by omega)
              have t1 : decide ((m : Int) > 3) = false := decide_eq_false (by omega)
              have hw8 : IntKind.u8.wrap o = o := by unfold IntKind.wrap; simp [IntKind.bits, IntKind.signed]; exact Int.emod_eq_of_lt o3 o4
              have Hw8 := hid hw8
              have Hud2 := hid hud
              clear hud hw8 hdrop hmem hcl hgr
              go_wp2
              go_still_tail 11, (by kernel_rfl)
              change wpList _ _ _ _ _ wr.drew
              have hbd : Below wr.heap.size wr wr.drew := (Below.refl _ _).drew
              have hkd := (hbd.block tb (Array.getElem?_eq_some_iff.1 hkq.out).1).trans hkq.out
              have hxd := (hbd.block x (Array.getElem?_eq_some_iff.1 hxq.out).1).trans hxq.out
              have Hrowd := hid (ownsRow_ext Hrow.out hbd)
              have hbqd := hbq.trans (hbd.mono hbsq)
              generalize wr.drew = wd at hkd hxd Hrowd hbqd ⊢
              have q0 := (cell_of_row wd tb m _ _ _ hkd).trans (arr4_at fd m hm4)
              have z0 := frozen_of_row wd tb m _ _ hkd
              have K2 := hid (show (wd.setCell ⟨tb, m, none⟩ (.int .u8 o)).heap[tb]? = some (.cells (arr4 (upd fd m o)) 22 (0, 0)) by
                have := heap_setCell_same wd tb m _ _ (.int .u8 o) hkd
                rwa [arr4_set fd m o hm4] at this)
              have X2 := hid ((Below.heap_setCell wd ⟨tb, m, none⟩ (.int .u8 o) x hxtb).trans hxd)
              have R2 := hid (ownsRow_other Hrowd.out ⟨tb, m, none⟩ (.int .u8 o) (ownBlock_ne Hrowd.out hkd (by decide)))
              have hbq2 := hbqd.setCell (p := ⟨tb, m, none⟩) (Nat.le_trans hbase1 htop) (.int .u8 o)
              clear hkd hxd Hrowd hbqd
              try rw [Hw8.out]
              go_wp2
              go_roundw
              case rel => exact ⟨j + 1, upd fd m o, by go_num, by omega, K2, X2, hbq2, Hud2, R2⟩
              case measure => simp [intOf]; omega
            · obtain rfl : j = i := by omega
              have hfd : fd = f := by
                have := Hud.out
                rw [List.drop_of_length_le (by omega)] at this
                exact this
              subst hfd
              have r := hkq.out
              have r2 := hxq.out
              rw [Hf.out] at r r2
              have a0 : wr.cell? ⟨tb, 0, none⟩ = some (.int .u8 v0) := cell_of_row wr tb 0 _ _ _ r
              have a1 : wr.cell? ⟨tb, 1, none⟩ = some (.int .u8 v1) := cell_of_row wr tb 1 _ _ _ r
              have a2 : wr.cell? ⟨tb, 2, none⟩ = some (.int .u8 v2) := cell_of_row wr tb 2 _ _ _ r
              have a3 : wr.cell? ⟨tb, 3, none⟩ = some (.int .u8 v3) := cell_of_row wr tb 3 _ _ _ r
              have e0 : wr.cell? ⟨x, 0, none⟩ = some (.int .u8 v0) := cell_of_row wr x 0 _ _ _ r2
              have e1 : wr.cell? ⟨x, 1, none⟩ = some (.int .u8 v1) := cell_of_row wr x 1 _ _ _ r2
              have e2 : wr.cell? ⟨x, 2, none⟩ = some (.int .u8 v2) := cell_of_row wr x 2 _ _ _ r2
              have e3 : wr.cell? ⟨x, 3, none⟩ = some (.int .u8 v3) := cell_of_row wr x 3 _ _ _ r2
              have Hfin := hid (hb1.trans (show Below w.heap.size w1 wr by rw [← Hbse.out]; exact hbq))
              have hEq := fun w => arr_eql v0 v1 v2 v3 w
              clear r r2 hf
              go_wp2
              go_ret
              exact ⟨rfl, Hfin.out⟩
  · have t : decide ((n : Int) > 100) = true := by simp; omega
    go_wp2
    go_ret
    exact ⟨rfl, hb1⟩
end Go.Proofs.Ytpdmkignihhobaa
