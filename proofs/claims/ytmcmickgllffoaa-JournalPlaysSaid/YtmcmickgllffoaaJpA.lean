/- What is proved here: the journal by its parts. -/
import Derived.Test.YtmcmickgllffoaaJnC
import Derived.Test.YtmcmickgllffoaaSxT
import Derived.Test.YtmcmickgllffoaaSxI
import Derived.Test.YtmcmickgllffoaaKitW
namespace Go.Proofs.Ytmcmickgllffoaa
open Go.RowKit
set_option linter.unusedVariables false
set_option linter.unusedSimpArgs false
set_option maxHeartbeats 1000000 in
set_option maxRecDepth 100000 in
theorem awake28_any (w : World) : Calls Try.prog 18 #[] w fun e w' => e = .returned (.bool true) ∧ Below w.heap.size w w' := by
  go_enter Try.func18, Try.ntmps18
  go_wp2_with fail
  refine (jnew_any _).mono ?_
  rintro e w1 ⟨b, rfl, hbb, hj, hb1⟩
  have hJ := hj w.heap.size (Nat.le_refl _)
  clear hj
  go_wp2_with fail
  refine (mark_any w.heap.size b [] [] 0 w1 hb1.size (by simp) hJ).mono ?_
  rintro e w2 ⟨rfl, hJ2, hb2, -⟩
  go_wp2_with fail
  refine (note_any w.heap.size b [] [0] 0 1 0 0 ⟨#[]⟩ w2 (hb1.trans hb2).size (by simp) hJ2 (by simp)).mono ?_
  rintro e w3 ⟨rfl, ⟨N3, hJ3⟩, hb3, -⟩
  go_wp2_with fail
  refine (note_any w.heap.size b [(1, 0, 0, ⟨#[]⟩)] [0] N3 2 0 0 ⟨#[]⟩ w3 ((hb1.trans hb2).trans hb3).size (by simp) hJ3 (by simp)).mono ?_
  rintro e w4 ⟨rfl, ⟨N4, hJ4⟩, hb4, -⟩
  have hb14 := ((hb1.trans hb2).trans hb3).trans hb4
  go_wp2_with fail
  refine (back_any w.heap.size b [(1, 0, 0, ⟨#[]⟩), (2, 0, 0, ⟨#[]⟩)] [] 0 N4 w4 hb14.size (by simp) (by simp) (by simp) hJ4).mono ?_
  rintro e w5 ⟨⟨s, rfl, hs⟩, -, hb5, -⟩
  obtain ⟨a, cap, rfl, hcap, hrow⟩ := slice_of_own hs
  obtain ⟨g, rfl, _, hg, hc⟩ := hrow (by simp)
  have k0 : w5.cell? ⟨g, 0, none⟩ = some (.int .i64 2) := hc 0 (by simp)
  have k1 : w5.cell? ⟨g, 4, none⟩ = some (.int .i64 1) := hc 4 (by simp)
  clear hs hrow hc hJ hJ2 hJ3 hJ4
  go_wp2
  go_ret
  exact ⟨rfl, hb14.trans hb5⟩


def vE : Ent → List Value := fun e => (entV e).toList
def zE : Ent := (0, 0, 0, ⟨#[]⟩)
theorem oneE : ∀ x, ∀ u ∈ vE x, u.oneCell' = true := fun x u hu => entV_one x u hu
theorem rowE {base : Nat} {w : World} {v : Value} {L : List Ent} (h : Row 4 vE 54 base w v L) : w.ownsRow base 54 4 v L.length (flatE L) := h
theorem mapI (M : List Int) : M.flatMap (vInt .i64) = M.map (Value.int .i64) := by
  induction M with
  | nil => rfl
  | cons x M ih => rw [List.flatMap_cons, ih]; rfl
theorem rowM {base : Nat} {w : World} {v : Value} {M : List Int} (h : Row 1 (vInt .i64) 3 base w v M) : w.ownsRow base 3 1 v M.length (M.map (Value.int .i64)) := by
  have h2 : w.ownsRow base 3 1 v M.length (M.flatMap (vInt .i64)) := h
  rw [mapI] at h2
  exact h2
/-- A journal by its parts. -/
theorem JR.parts {base : Nat} {w : World} {b : Nat} {L : List Ent} {M : List Int} {N : Int} (h : JR base w b L M N) : ∃ la lc ma mc, w.heap[b]? = some (.cells #[.slice la L.length lc, .slice ma M.length mc, .int .i64 N] 130 (0, 0)) ∧ Row 4 vE 54 base w (.slice la L.length lc) L ∧ Row 1 (vInt .i64) 3 base w (.slice ma M.length mc) M ∧ base ≤ b := by
  obtain ⟨h1, vl, vm, h2, h3, h4⟩ := h
  rw [← mapI] at h4
  obtain ⟨la, lc, rfl, _, _⟩ := Row.slice (k := 4) (V := vE) (l := L) h3
  obtain ⟨ma, mc, rfl, _, _⟩ := Row.slice (k := 1) (V := vInt .i64) (l := M) h4
  exact ⟨la, lc, ma, mc, h2, h3, h4, h1⟩
/-- What a change of the journal leaves alone. -/
def Qk (X : Nat) (w w' : World) : Prop := KT 64 w w' ∧ KT 59 w w' ∧ KX X w w' ∧ w.heap.size ≤ w'.heap.size
theorem crowE {α : Type} {k e base n c : Nat} {V : α → List Value} {w : World} {a : Option Addr} {l l' : List α} (h : Row k V e base w (.slice a n c) l) (he : l' = l) : Row k V e base w (.slice a l'.length c) l' := by
  subst he
  exact h.relen
theorem relM {α : Type} {k e base n m c : Nat} {V : α → List Value} {w : World} {a : Option Addr} {l : List α} (h : Row k V e base w (.slice a n c) l) (e2 : n = m) : Row k V e base w (.slice a m c) l := e2 ▸ h

set_option maxHeartbeats 1000000 in
set_option maxRecDepth 100000 in
theorem jopen_p (p m mc : Nat) (ma : Option Addr) (vl vn : Value) (w : World) (hpb : w.heap[p]? = some (.cells #[vl, .slice ma m mc, vn] 130 (0, 0))) : Calls Try.prog 28 #[(.pointer (some ⟨p, 0, none⟩))] w fun e w' => e = .returned (.bool (decide (((m : Nat) : Int) > 0))) ∧ Below w.heap.size w w' := by
  refine sx_enter (L := [(0, (.pointer (some ⟨p, 0, none⟩)))]) Try.func28 rfl rfl rfl rfl (fun fa hf => ?_)
  have hb : Below w.heap.size w w := Below.refl _ _
  refine wp_seq_k (fun K1 hK1 => ?_)
  refine wp_region_lit ?_
  refine sqv hf (r_assign rfl) rfl rfl rfl ?_; clear hf fa; intro fa hf
  apply wpList_nil
  (try simp only [Exit.then, Exit.inBlock, ↓reduceIte, Nat.reduceEqDiff])
  refine hK1 _ _ ?_
  refine wp_seq_k (fun K2 hK2 => ?_)
  refine wp_region_lit ?_
  refine sqv hf (r_move rfl) rfl rfl rfl ?_; clear hf fa; intro fa hf
  refine sqv hf (r_nilCheck rfl) rfl rfl rfl ?_; clear hf fa; intro fa hf
  refine sqv hf (r_fa rfl Try.underlying130 (f := 1) (q := 1) rfl (by kernel_rfl) rfl) rfl rfl rfl ?_; clear hf fa; intro fa hf
  refine sqv hf (r_load (v := (.slice ma m mc)) rfl Try.underlying33 rfl (cell_blk hpb rfl)) rfl rfl rfl ?_; clear hf fa; intro fa hf
  refine sqv hf (r_lensl rfl Try.underlying33) rfl rfl rfl ?_; clear hf fa; intro fa hf
  refine sqv hf (r_gt rfl rfl) rfl rfl rfl ?_; clear hf fa; intro fa hf
  refine sqv hf (r_assign rfl) rfl rfl rfl ?_; clear hf fa; intro fa hf
  apply wpList_nil
  (try simp only [Exit.then, Exit.inBlock, ↓reduceIte, Nat.reduceEqDiff])
  refine hK2 _ _ ?_
  refine wp_ret ?_
  (try simp only [Exit.then, Exit.inBlock])
  refine ret1 hf rfl rfl ?_
  exact ⟨rfl, hb⟩

section
variable {p m mc : Nat} {ma : Option Addr} {vl vn : Value} {w : World}
theorem jopen_D (hp : w.heap[p]? = some (.cells #[vl, .slice ma m mc, vn] 130 (0, 0))) : Calls Try.prog 28 #[.pointer (some ⟨p, 0, none⟩)] w fun e w' => e = .returned (.bool (decide (((m : Nat) : Int) > 0))) ∧ Below w.heap.size w w' := jopen_p p m mc ma vl vn w hp
theorem jopen_T (hp : w.heap[p]? = some (.cells #[vl, .slice ma m mc, vn] 130 (0, 0))) (h : 0 < m) : Calls Try.prog 28 #[.pointer (some ⟨p, 0, none⟩)] w fun e w' => e = .returned (.bool true) ∧ Below w.heap.size w w' := by
  have h2 := jopen_p p m mc ma vl vn w hp
  rw [decide_eq_true (by omega)] at h2
  exact h2
theorem jopen_F (hp : w.heap[p]? = some (.cells #[vl, .slice ma m mc, vn] 130 (0, 0))) (h : m = 0) : Calls Try.prog 28 #[.pointer (some ⟨p, 0, none⟩)] w fun e w' => e = .returned (.bool false) ∧ Below w.heap.size w w' := by
  have h2 := jopen_p p m mc ma vl vn w hp
  rw [decide_eq_false (by omega)] at h2
  exact h2
end

set_option maxHeartbeats 1000000 in
set_option maxRecDepth 100000 in
theorem noteF (p : Nat) (la ma : Option Addr) (lc mc : Nat) (L : List Ent) (M : List Int) (N : Int) (B : Nat) (w : World) (hpb : w.heap[p]? = some (.cells #[(.slice la L.length lc), (.slice ma M.length mc), (.int .i64 N)] 130 (0, 0))) (hRL : Row 4 vE 54 B w (.slice la L.length lc) L) (hRM : Row 1 (vInt .i64) 3 B w (.slice ma M.length mc) M) (hL : L.length ≤ 1000000) (hM : M.length ≤ 1000000) (h0 : M.length = 0) (xe : Ent) : Calls Try.prog 20 #[(.pointer (some ⟨p, 0, none⟩)), (.agg #[(.int .i64 xe.1), (.int .i64 xe.2.1), (.int .u64 xe.2.2.1), (.string xe.2.2.2)])] w fun e w' => e = .returned (.tuple #[]) ∧ Below w.heap.size w w' := by
  have hcL := Row.caps hRL
  have hcM := Row.caps hRM
  have hpl := (Array.getElem?_eq_some_iff.1 hpb).1
  refine sx_enter (L := [(0, (.pointer (some ⟨p, 0, none⟩))), (1, (.agg #[(.int .i64 xe.1), (.int .i64 xe.2.1), (.int .u64 xe.2.2.1), (.string xe.2.2.2)]))]) Try.func20 rfl rfl rfl rfl (fun fa hf => ?_)
  have hb : Below w.heap.size w w := Below.refl _ _
  refine wp_seq_k (fun K1 hK1 => ?_)
  refine wp_region_lit ?_
  refine sqdt hf (d_box (cs := #[(.int .i64 xe.1), (.int .i64 xe.2.1), (.int .u64 xe.2.2.1), (.string xe.2.2.2)]) rfl rfl) rfl rfl rfl ?_; clear hf fa; rintro fa _ w1 ⟨b1, rfl, hle1, hk1, he1⟩ hf
  have hBb1 : w.heap.size ≤ b1 := Nat.le_trans hb.size hle1
  have : p < b1 := Nat.lt_of_lt_of_le (blk_lt hpb) hle1
  replace hpb := blk_ext hpb he1
  replace hb := hb.trans (Below.mono he1 hb.size)
  apply wpList_nil
  (try simp only [Exit.then, Exit.inBlock, ↓reduceIte, Nat.reduceEqDiff])
  refine hK1 _ _ ?_
  refine wp_seq_k (fun K2 hK2 => ?_)
  refine wp_seq_k (fun K3 hK3 => ?_)
  refine wp_region_lit ?_
  refine sqv hf (r_move rfl) rfl rfl rfl ?_; clear hf fa; intro fa hf
  refine sqdt hf (d_callB (vs := [(.pointer (some ⟨p, 0, none⟩))]) rfl Try.func28 (by kernel_rfl) (by kernel_rfl) (jopen_F hpb (by omega))) rfl rfl rfl ?_; clear hf fa; rintro fa _ w2 ⟨rfl, he2⟩ hf
  replace hpb := blk_ext hpb he2
  replace hk1 := blk_ext hk1 he2
  replace hb := hb.trans (Below.mono he2 hb.size)
  refine sqv hf (Runs.veq (v' := (.bool true)) (r_not rfl) rfl) rfl rfl rfl ?_; clear hf fa; intro fa hf
  apply wpList_nil
  (try simp only [Exit.then, Exit.inBlock, ↓reduceIte, Nat.reduceEqDiff])
  refine hK3 _ _ ?_
  refine wp_cond_true (hf.ev rfl) ?_
  refine wp_ret ?_
  (try simp only [Exit.then, Exit.inBlock])
  refine ret0 hf rfl  ?_
  exact ⟨rfl, hb⟩

set_option maxHeartbeats 1000000 in
set_option maxRecDepth 100000 in
theorem backF (p : Nat) (la ma : Option Addr) (lc mc : Nat) (L : List Ent) (M : List Int) (N : Int) (B : Nat) (w : World) (hpb : w.heap[p]? = some (.cells #[(.slice la L.length lc), (.slice ma M.length mc), (.int .i64 N)] 130 (0, 0))) (hRL : Row 4 vE 54 B w (.slice la L.length lc) L) (hRM : Row 1 (vInt .i64) 3 B w (.slice ma M.length mc) M) (hL : L.length ≤ 1000000) (hM : M.length ≤ 1000000) (h0 : M.length = 0) : Calls Try.prog 23 #[(.pointer (some ⟨p, 0, none⟩))] w fun e w' => e = .returned (.tuple #[.slice none 0 0, .int .i64 1]) ∧ Below w.heap.size w w' := by
  have hcL := Row.caps hRL
  have hcM := Row.caps hRM
  have hpl := (Array.getElem?_eq_some_iff.1 hpb).1
  refine sx_enter (L := [(0, (.pointer (some ⟨p, 0, none⟩)))]) Try.func23 rfl rfl rfl rfl (fun fa hf => ?_)
  have hb : Below w.heap.size w w := Below.refl _ _
  refine wp_seq_k (fun K1 hK1 => ?_)
  refine wp_region_lit ?_
  refine sqv hf (r_assign rfl) rfl rfl rfl ?_; clear hf fa; intro fa hf
  refine sqv hf (r_assign rfl) rfl rfl rfl ?_; clear hf fa; intro fa hf
  apply wpList_nil
  (try simp only [Exit.then, Exit.inBlock, ↓reduceIte, Nat.reduceEqDiff])
  refine hK1 _ _ ?_
  refine wp_seq_k (fun K2 hK2 => ?_)
  refine wp_seq_k (fun K3 hK3 => ?_)
  refine wp_region_lit ?_
  refine sqv hf (r_move rfl) rfl rfl rfl ?_; clear hf fa; intro fa hf
  refine sqdt hf (d_callB (vs := [(.pointer (some ⟨p, 0, none⟩))]) rfl Try.func28 (by kernel_rfl) (by kernel_rfl) (jopen_F hpb (by omega))) rfl rfl rfl ?_; clear hf fa; rintro fa _ w1 ⟨rfl, he1⟩ hf
  replace hpb := blk_ext hpb he1
  replace hb := hb.trans (Below.mono he1 hb.size)
  refine sqv hf (Runs.veq (v' := (.bool true)) (r_not rfl) rfl) rfl rfl rfl ?_; clear hf fa; intro fa hf
  apply wpList_nil
  (try simp only [Exit.then, Exit.inBlock, ↓reduceIte, Nat.reduceEqDiff])
  refine hK3 _ _ ?_
  refine wp_cond_true (hf.ev rfl) ?_
  refine wp_seq_k (fun K4 hK4 => ?_)
  refine wp_region_lit ?_
  refine sqv hf (r_assign rfl) rfl rfl rfl ?_; clear hf fa; intro fa hf
  refine sqv hf (r_assign rfl) rfl rfl rfl ?_; clear hf fa; intro fa hf
  apply wpList_nil
  (try simp only [Exit.then, Exit.inBlock, ↓reduceIte, Nat.reduceEqDiff])
  refine hK4 _ _ ?_
  refine wp_ret ?_
  (try simp only [Exit.then, Exit.inBlock])
  refine ret2 hf rfl rfl rfl ?_
  exact ⟨rfl, hb⟩

set_option maxHeartbeats 1000000 in
set_option maxRecDepth 100000 in
theorem keepF (p : Nat) (la ma : Option Addr) (lc mc : Nat) (L : List Ent) (M : List Int) (N : Int) (B : Nat) (w : World) (hpb : w.heap[p]? = some (.cells #[(.slice la L.length lc), (.slice ma M.length mc), (.int .i64 N)] 130 (0, 0))) (hRL : Row 4 vE 54 B w (.slice la L.length lc) L) (hRM : Row 1 (vInt .i64) 3 B w (.slice ma M.length mc) M) (hL : L.length ≤ 1000000) (hM : M.length ≤ 1000000) (h0 : M.length = 0) : Calls Try.prog 26 #[(.pointer (some ⟨p, 0, none⟩))] w fun e w' => e = .returned (.int .i64 1) ∧ Below w.heap.size w w' := by
  have hcL := Row.caps hRL
  have hcM := Row.caps hRM
  have hpl := (Array.getElem?_eq_some_iff.1 hpb).1
  refine sx_enter (L := [(0, (.pointer (some ⟨p, 0, none⟩)))]) Try.func26 rfl rfl rfl rfl (fun fa hf => ?_)
  have hb : Below w.heap.size w w := Below.refl _ _
  refine wp_seq_k (fun K1 hK1 => ?_)
  refine wp_region_lit ?_
  refine sqv hf (r_assign rfl) rfl rfl rfl ?_; clear hf fa; intro fa hf
  apply wpList_nil
  (try simp only [Exit.then, Exit.inBlock, ↓reduceIte, Nat.reduceEqDiff])
  refine hK1 _ _ ?_
  refine wp_seq_k (fun K2 hK2 => ?_)
  refine wp_seq_k (fun K3 hK3 => ?_)
  refine wp_region_lit ?_
  refine sqv hf (r_move rfl) rfl rfl rfl ?_; clear hf fa; intro fa hf
  refine sqdt hf (d_callB (vs := [(.pointer (some ⟨p, 0, none⟩))]) rfl Try.func28 (by kernel_rfl) (by kernel_rfl) (jopen_F hpb (by omega))) rfl rfl rfl ?_; clear hf fa; rintro fa _ w1 ⟨rfl, he1⟩ hf
  replace hpb := blk_ext hpb he1
  replace hb := hb.trans (Below.mono he1 hb.size)
  refine sqv hf (Runs.veq (v' := (.bool true)) (r_not rfl) rfl) rfl rfl rfl ?_; clear hf fa; intro fa hf
  apply wpList_nil
  (try simp only [Exit.then, Exit.inBlock, ↓reduceIte, Nat.reduceEqDiff])
  refine hK3 _ _ ?_
  refine wp_cond_true (hf.ev rfl) ?_
  refine wp_seq_k (fun K4 hK4 => ?_)
  refine wp_region_lit ?_
  refine sqv hf (r_assign rfl) rfl rfl rfl ?_; clear hf fa; intro fa hf
  apply wpList_nil
  (try simp only [Exit.then, Exit.inBlock, ↓reduceIte, Nat.reduceEqDiff])
  refine hK4 _ _ ?_
  refine wp_ret ?_
  (try simp only [Exit.then, Exit.inBlock])
  refine ret1 hf rfl rfl ?_
  exact ⟨rfl, hb⟩

set_option maxHeartbeats 1000000 in
set_option maxRecDepth 100000 in
theorem depth_p (p : Nat) (la ma : Option Addr) (lc mc : Nat) (L : List Ent) (M : List Int) (N : Int) (B : Nat) (w : World) (hpb : w.heap[p]? = some (.cells #[(.slice la L.length lc), (.slice ma M.length mc), (.int .i64 N)] 130 (0, 0))) (hRL : Row 4 vE 54 B w (.slice la L.length lc) L) (hRM : Row 1 (vInt .i64) 3 B w (.slice ma M.length mc) M) (hL : L.length ≤ 1000000) (hM : M.length ≤ 1000000) : Calls Try.prog 29 #[(.pointer (some ⟨p, 0, none⟩))] w fun e w' => e = .returned (.int .i64 ((M.length : Nat) : Int)) ∧ Below w.heap.size w w' := by
  have hcL := Row.caps hRL
  have hcM := Row.caps hRM
  have hpl := (Array.getElem?_eq_some_iff.1 hpb).1
  refine sx_enter (L := [(0, (.pointer (some ⟨p, 0, none⟩)))]) Try.func29 rfl rfl rfl rfl (fun fa hf => ?_)
  have hb : Below w.heap.size w w := Below.refl _ _
  refine wp_seq_k (fun K1 hK1 => ?_)
  refine wp_region_lit ?_
  refine sqv hf (r_assign rfl) rfl rfl rfl ?_; clear hf fa; intro fa hf
  apply wpList_nil
  (try simp only [Exit.then, Exit.inBlock, ↓reduceIte, Nat.reduceEqDiff])
  refine hK1 _ _ ?_
  refine wp_seq_k (fun K2 hK2 => ?_)
  refine wp_region_lit ?_
  refine sqv hf (r_move rfl) rfl rfl rfl ?_; clear hf fa; intro fa hf
  refine sqv hf (r_nilCheck rfl) rfl rfl rfl ?_; clear hf fa; intro fa hf
  refine sqv hf (r_fa rfl Try.underlying130 (f := 1) (q := 1) rfl (by kernel_rfl) rfl) rfl rfl rfl ?_; clear hf fa; intro fa hf
  refine sqv hf (r_load (v := (.slice ma M.length mc)) rfl Try.underlying33 rfl (cell_blk hpb rfl)) rfl rfl rfl ?_; clear hf fa; intro fa hf
  refine sqv hf (r_lensl rfl Try.underlying33) rfl rfl rfl ?_; clear hf fa; intro fa hf
  refine sqv hf (r_assign rfl) rfl rfl rfl ?_; clear hf fa; intro fa hf
  apply wpList_nil
  (try simp only [Exit.then, Exit.inBlock, ↓reduceIte, Nat.reduceEqDiff])
  refine hK2 _ _ ?_
  refine wp_ret ?_
  (try simp only [Exit.then, Exit.inBlock])
  refine ret1 hf rfl rfl ?_
  exact ⟨rfl, hb⟩

set_option maxHeartbeats 1000000 in
set_option maxRecDepth 100000 in
theorem jlen_p (p : Nat) (la ma : Option Addr) (lc mc : Nat) (L : List Ent) (M : List Int) (N : Int) (B : Nat) (w : World) (hpb : w.heap[p]? = some (.cells #[(.slice la L.length lc), (.slice ma M.length mc), (.int .i64 N)] 130 (0, 0))) (hRL : Row 4 vE 54 B w (.slice la L.length lc) L) (hRM : Row 1 (vInt .i64) 3 B w (.slice ma M.length mc) M) (hL : L.length ≤ 1000000) (hM : M.length ≤ 1000000) : Calls Try.prog 30 #[(.pointer (some ⟨p, 0, none⟩))] w fun e w' => e = .returned (.int .i64 ((L.length : Nat) : Int)) ∧ Below w.heap.size w w' := by
  have hcL := Row.caps hRL
  have hcM := Row.caps hRM
  have hpl := (Array.getElem?_eq_some_iff.1 hpb).1
  refine sx_enter (L := [(0, (.pointer (some ⟨p, 0, none⟩)))]) Try.func30 rfl rfl rfl rfl (fun fa hf => ?_)
  have hb : Below w.heap.size w w := Below.refl _ _
  refine wp_seq_k (fun K1 hK1 => ?_)
  refine wp_region_lit ?_
  refine sqv hf (r_assign rfl) rfl rfl rfl ?_; clear hf fa; intro fa hf
  apply wpList_nil
  (try simp only [Exit.then, Exit.inBlock, ↓reduceIte, Nat.reduceEqDiff])
  refine hK1 _ _ ?_
  refine wp_seq_k (fun K2 hK2 => ?_)
  refine wp_region_lit ?_
  refine sqv hf (r_move rfl) rfl rfl rfl ?_; clear hf fa; intro fa hf
  refine sqv hf (r_nilCheck rfl) rfl rfl rfl ?_; clear hf fa; intro fa hf
  refine sqv hf (r_fa rfl Try.underlying130 (f := 0) (q := 0) rfl (by kernel_rfl) rfl) rfl rfl rfl ?_; clear hf fa; intro fa hf
  refine sqv hf (r_load (v := (.slice la L.length lc)) rfl Try.underlying61 rfl (cell_blk hpb rfl)) rfl rfl rfl ?_; clear hf fa; intro fa hf
  refine sqv hf (r_lensl rfl Try.underlying61) rfl rfl rfl ?_; clear hf fa; intro fa hf
  refine sqv hf (r_assign rfl) rfl rfl rfl ?_; clear hf fa; intro fa hf
  apply wpList_nil
  (try simp only [Exit.then, Exit.inBlock, ↓reduceIte, Nat.reduceEqDiff])
  refine hK2 _ _ ?_
  refine wp_ret ?_
  (try simp only [Exit.then, Exit.inBlock])
  refine ret1 hf rfl rfl ?_
  exact ⟨rfl, hb⟩

set_option maxHeartbeats 1000000 in
set_option maxRecDepth 100000 in
theorem notes_p (p : Nat) (la ma : Option Addr) (lc mc : Nat) (L : List Ent) (M : List Int) (N : Int) (B : Nat) (w : World) (hpb : w.heap[p]? = some (.cells #[(.slice la L.length lc), (.slice ma M.length mc), (.int .i64 N)] 130 (0, 0))) (hRL : Row 4 vE 54 B w (.slice la L.length lc) L) (hRM : Row 1 (vInt .i64) 3 B w (.slice ma M.length mc) M) (hL : L.length ≤ 1000000) (hM : M.length ≤ 1000000) : Calls Try.prog 32 #[(.pointer (some ⟨p, 0, none⟩))] w fun e w' => e = .returned (.int .i64 N) ∧ Below w.heap.size w w' := by
  have hcL := Row.caps hRL
  have hcM := Row.caps hRM
  have hpl := (Array.getElem?_eq_some_iff.1 hpb).1
  refine sx_enter (L := [(0, (.pointer (some ⟨p, 0, none⟩)))]) Try.func32 rfl rfl rfl rfl (fun fa hf => ?_)
  have hb : Below w.heap.size w w := Below.refl _ _
  refine wp_seq_k (fun K1 hK1 => ?_)
  refine wp_region_lit ?_
  refine sqv hf (r_assign rfl) rfl rfl rfl ?_; clear hf fa; intro fa hf
  apply wpList_nil
  (try simp only [Exit.then, Exit.inBlock, ↓reduceIte, Nat.reduceEqDiff])
  refine hK1 _ _ ?_
  refine wp_seq_k (fun K2 hK2 => ?_)
  refine wp_region_lit ?_
  refine sqv hf (r_move rfl) rfl rfl rfl ?_; clear hf fa; intro fa hf
  refine sqv hf (r_nilCheck rfl) rfl rfl rfl ?_; clear hf fa; intro fa hf
  refine sqv hf (r_fa rfl Try.underlying130 (f := 2) (q := 2) rfl (by kernel_rfl) rfl) rfl rfl rfl ?_; clear hf fa; intro fa hf
  refine sqv hf (r_load (v := (.int .i64 N)) rfl Try.underlying3 rfl (cell_blk hpb rfl)) rfl rfl rfl ?_; clear hf fa; intro fa hf
  refine sqv hf (r_assign rfl) rfl rfl rfl ?_; clear hf fa; intro fa hf
  apply wpList_nil
  (try simp only [Exit.then, Exit.inBlock, ↓reduceIte, Nat.reduceEqDiff])
  refine hK2 _ _ ?_
  refine wp_ret ?_
  (try simp only [Exit.then, Exit.inBlock])
  refine ret1 hf rfl rfl ?_
  exact ⟨rfl, hb⟩

set_option maxHeartbeats 1000000 in
set_option maxRecDepth 100000 in
theorem sinceF (p : Nat) (la ma : Option Addr) (lc mc : Nat) (L : List Ent) (M : List Int) (N : Int) (B : Nat) (w : World) (hpb : w.heap[p]? = some (.cells #[(.slice la L.length lc), (.slice ma M.length mc), (.int .i64 N)] 130 (0, 0))) (hRL : Row 4 vE 54 B w (.slice la L.length lc) L) (hRM : Row 1 (vInt .i64) 3 B w (.slice ma M.length mc) M) (hL : L.length ≤ 1000000) (hM : M.length ≤ 1000000) (h0 : M.length = 0) : Calls Try.prog 35 #[(.pointer (some ⟨p, 0, none⟩))] w fun e w' => e = .returned (.slice none 0 0) ∧ Below w.heap.size w w' := by
  have hcL := Row.caps hRL
  have hcM := Row.caps hRM
  have hpl := (Array.getElem?_eq_some_iff.1 hpb).1
  refine sx_enter (L := [(0, (.pointer (some ⟨p, 0, none⟩)))]) Try.func35 rfl rfl rfl rfl (fun fa hf => ?_)
  have hb : Below w.heap.size w w := Below.refl _ _
  refine wp_seq_k (fun K1 hK1 => ?_)
  refine wp_region_lit ?_
  refine sqv hf (r_assign rfl) rfl rfl rfl ?_; clear hf fa; intro fa hf
  apply wpList_nil
  (try simp only [Exit.then, Exit.inBlock, ↓reduceIte, Nat.reduceEqDiff])
  refine hK1 _ _ ?_
  refine wp_seq_k (fun K2 hK2 => ?_)
  refine wp_seq_k (fun K3 hK3 => ?_)
  refine wp_region_lit ?_
  refine sqv hf (r_move rfl) rfl rfl rfl ?_; clear hf fa; intro fa hf
  refine sqdt hf (d_callB (vs := [(.pointer (some ⟨p, 0, none⟩))]) rfl Try.func28 (by kernel_rfl) (by kernel_rfl) (jopen_F hpb (by omega))) rfl rfl rfl ?_; clear hf fa; rintro fa _ w1 ⟨rfl, he1⟩ hf
  replace hpb := blk_ext hpb he1
  replace hb := hb.trans (Below.mono he1 hb.size)
  refine sqv hf (Runs.veq (v' := (.bool true)) (r_not rfl) rfl) rfl rfl rfl ?_; clear hf fa; intro fa hf
  apply wpList_nil
  (try simp only [Exit.then, Exit.inBlock, ↓reduceIte, Nat.reduceEqDiff])
  refine hK3 _ _ ?_
  refine wp_cond_true (hf.ev rfl) ?_
  refine wp_seq_k (fun K4 hK4 => ?_)
  refine wp_region_lit ?_
  refine sqv hf (r_assign rfl) rfl rfl rfl ?_; clear hf fa; intro fa hf
  apply wpList_nil
  (try simp only [Exit.then, Exit.inBlock, ↓reduceIte, Nat.reduceEqDiff])
  refine hK4 _ _ ?_
  refine wp_ret ?_
  (try simp only [Exit.then, Exit.inBlock])
  refine ret1 hf rfl rfl ?_
  exact ⟨rfl, hb⟩

set_option maxHeartbeats 1000000 in
set_option maxRecDepth 100000 in
theorem noteT (p : Nat) (la ma : Option Addr) (lc mc : Nat) (L : List Ent) (M : List Int) (N : Int) (w0 w : World) (hb : Below w0.heap.size w0 w) (hpb : w.heap[p]? = some (.cells #[(.slice la L.length lc), (.slice ma M.length mc), (.int .i64 N)] 130 (0, 0))) (hRL : Row 4 vE 54 w0.heap.size w (.slice la L.length lc) L) (hRM : Row 1 (vInt .i64) 3 w0.heap.size w (.slice ma M.length mc) M) (hBp : w0.heap.size ≤ p) (hL : L.length ≤ 1000000) (hM : M.length ≤ 1000000) (hN : 0 ≤ N ∧ N ≤ 1000000) (X : Nat) (hpX : p < X) (hlX : ∀ q, (Value.slice la L.length lc).ownBlock = some q → q < X) (hmX : ∀ q, (Value.slice ma M.length mc).ownBlock = some q → q < X) (h0 : 0 < M.length) (xe : Ent) : Calls Try.prog 20 #[(.pointer (some ⟨p, 0, none⟩)), (.agg #[(.int .i64 xe.1), (.int .i64 xe.2.1), (.int .u64 xe.2.2.1), (.string xe.2.2.2)])] w fun e w' => e = .returned (.tuple #[]) ∧ JR w0.heap.size w' p (L ++ [xe]) M (N + 1) ∧ Below w0.heap.size w0 w' ∧ Qk X w w' := by
  have hcL := Row.caps hRL
  have hcM := Row.caps hRM
  have hpl := (Array.getElem?_eq_some_iff.1 hpb).1
  have hT1 := KT.refl 64 w
  have hT2 := KT.refl 59 w
  have hKX := KX.refl X w
  have hZ := Nat.le_refl w.heap.size
  refine sx_enter (L := [(0, (.pointer (some ⟨p, 0, none⟩))), (1, (.agg #[(.int .i64 xe.1), (.int .i64 xe.2.1), (.int .u64 xe.2.2.1), (.string xe.2.2.2)]))]) Try.func20 rfl rfl rfl rfl (fun fa hf => ?_)
  refine wp_seq_k (fun K1 hK1 => ?_)
  refine wp_region_lit ?_
  refine sqdt hf (d_box (cs := #[(.int .i64 xe.1), (.int .i64 xe.2.1), (.int .u64 xe.2.2.1), (.string xe.2.2.2)]) rfl rfl) rfl rfl rfl ?_; clear hf fa; rintro fa _ w1 ⟨b1, rfl, hle1, hk1, he1⟩ hf
  have hBb1 : w0.heap.size ≤ b1 := Nat.le_trans hb.size hle1
  have : p < b1 := Nat.lt_of_lt_of_le (blk_lt hpb) hle1
  have hhZb1 := Nat.le_trans hZ hle1
  have hnr1 : (Value.slice la (L.length) lc).ownBlock ≠ some b1 := fun hq => by have := (Row.lt hRL _ hq).2; omega
  have hnl1 : ∀ q, (Value.slice la (L.length) lc).ownBlock = some q → q < b1 := fun q hq => Nat.lt_of_lt_of_le (Row.lt hRL q hq).2 hle1
  replace hpb := blk_ext hpb he1
  replace hRL := Row.ext hRL he1
  replace hRM := Row.ext hRM he1
  replace hT1 := KT.map hT1 (fun bf cs hbf => blk_ext hbf he1)
  replace hT2 := KT.map hT2 (fun bf cs hbf => blk_ext hbf he1)
  replace hZ := Nat.le_trans hZ he1.size
  replace hKX := hKX.below he1
  replace hb := hb.trans (Below.mono he1 hb.size)
  apply wpList_nil
  (try simp only [Exit.then, Exit.inBlock, ↓reduceIte, Nat.reduceEqDiff])
  refine hK1 _ _ ?_
  refine wp_seq_k (fun K2 hK2 => ?_)
  refine wp_seq_k (fun K3 hK3 => ?_)
  refine wp_region_lit ?_
  refine sqv hf (r_move rfl) rfl rfl rfl ?_; clear hf fa; intro fa hf
  refine sqdt hf (d_callB (vs := [(.pointer (some ⟨p, 0, none⟩))]) rfl Try.func28 (by kernel_rfl) (by kernel_rfl) (jopen_T hpb (by omega))) rfl rfl rfl ?_; clear hf fa; rintro fa _ w2 ⟨rfl, he2⟩ hf
  replace hpb := blk_ext hpb he2
  replace hk1 := blk_ext hk1 he2
  replace hRL := Row.ext hRL he2
  replace hRM := Row.ext hRM he2
  replace hT1 := KT.map hT1 (fun bf cs hbf => blk_ext hbf he2)
  replace hT2 := KT.map hT2 (fun bf cs hbf => blk_ext hbf he2)
  replace hZ := Nat.le_trans hZ he2.size
  replace hKX := hKX.below he2
  replace hb := hb.trans (Below.mono he2 hb.size)
  refine sqv hf (Runs.veq (v' := (.bool false)) (r_not rfl) rfl) rfl rfl rfl ?_; clear hf fa; intro fa hf
  apply wpList_nil
  (try simp only [Exit.then, Exit.inBlock, ↓reduceIte, Nat.reduceEqDiff])
  refine hK3 _ _ ?_
  refine wp_cond_false (hf.ev rfl) ?_
  refine wp_skip ?_
  (try simp only [Exit.then, Exit.inBlock, ↓reduceIte, Nat.reduceEqDiff])
  refine hK2 _ _ ?_
  refine wp_seq_k (fun K4 hK4 => ?_)
  refine wp_region_lit ?_
  refine sqv hf (r_move rfl) rfl rfl rfl ?_; clear hf fa; intro fa hf
  refine sqv hf (r_nilCheck rfl) rfl rfl rfl ?_; clear hf fa; intro fa hf
  refine sqv hf (r_fa rfl Try.underlying130 (f := 2) (q := 2) rfl (by kernel_rfl) rfl) rfl rfl rfl ?_; clear hf fa; intro fa hf
  refine sqv hf (r_load (v := (.int .i64 N)) rfl Try.underlying3 rfl (cell_blk hpb rfl)) rfl rfl rfl ?_; clear hf fa; intro fa hf
  refine sqv hf (r_add (C := (N + (1 : Int))) rfl rfl (by rw [IntKind.wrap_i64]; omega)) rfl rfl rfl ?_; clear hf fa; intro fa hf
  refine sqv hf (r_nilCheck rfl) rfl rfl rfl ?_; clear hf fa; intro fa hf
  refine sqv hf (r_fa rfl Try.underlying130 (f := 2) (q := 2) rfl (by kernel_rfl) rfl) rfl rfl rfl ?_; clear hf fa; intro fa hf
  refine sqn hf (d_storeK (T := 130) (v := (.int .i64 (N + (1 : Int)))) (cs := #[(.slice la L.length lc), (.slice ma M.length mc), (.int .i64 N)]) (cs' := #[(.slice la L.length lc), (.slice ma M.length mc), (.int .i64 (N + (1 : Int)))]) rfl rfl (by kernel_rfl) (by kernel_rfl) hpb (by kernel_rfl) (by kernel_rfl)) rfl rfl ?_; clear hf fa; rintro fa _ w3 ⟨hk2, hg1⟩ hf
  replace hk1 := blk_grown hk1 hg1 (by omega)
  replace hRL := Row.grown hRL hg1 (Row.ne_type hRL hpb rfl)
  replace hRM := Row.grown hRM hg1 (Row.ne_type hRM hpb rfl)
  replace hZ := Nat.le_trans hZ hg1.size
  replace hKX := hKX.grown hg1 (by omega)
  replace hT1 := KT.map hT1 (fun bf cs hbf => blk_grown hbf hg1 (blk_ty hbf hpb rfl))
  replace hT2 := KT.map hT2 (fun bf cs hbf => blk_grown hbf hg1 (blk_ty hbf hpb rfl))
  replace hb := hb.trans (grown_below hg1 hb.size hBp)
  apply wpList_nil
  (try simp only [Exit.then, Exit.inBlock, ↓reduceIte, Nat.reduceEqDiff])
  refine hK4 _ _ ?_
  have hap : (L ++ [xe]).length = L.length + 1 := by rw [List.length_append]; rfl
  have hlW : p < w3.heap.size := blk_lt hk2
  have hlV := fun q (hq : ((Value.slice la L.length lc)).ownBlock = some q) => (Row.lt hRL q hq).2
  refine wp_region_vnT 8 (fun S wq => GO w3 p (Value.slice la L.length lc) wq ∧ (¬ S 7 → Row 4 vE 54 (w0.heap.size) wq (Value.slice la L.length lc) L) ∧ (¬ S 4 → wq.heap[p]? = some (.cells #[(.slice la L.length lc), (.slice ma M.length mc), (.int .i64 (N + (1 : Int)))] 130 (0, 0))) ∧ (S 4 → wq.heap[p]? = some (.cells #[(.slice la L.length lc), (.slice ma M.length mc), (.int .i64 (N + (1 : Int)))] 130 (0, 0))))
    (fun V S => [(fun x _ => x = (.pointer (some ⟨p, 0, none⟩))), (fun x _ => x = (.pointer (some ⟨p, 0, none⟩))), (fun x _ => x = (.pointer (some ⟨p, 0, none⟩))), (fun x _ => x = (.pointer (some ⟨p, 0, none⟩))), (fun x _ => x = (.slice la L.length lc)), (fun x _ => x = (.agg #[(.int .i64 xe.1), (.int .i64 xe.2.1), (.int .u64 xe.2.2.1), (.string xe.2.2.2)])), (fun x wq => ∃ b, x = .slice (some ⟨b, 0, none⟩) 1 1 ∧ w3.heap.size ≤ b ∧ wq.heap[b]? = some (.cells #[(.int .i64 xe.1), (.int .i64 xe.2.1), (.int .u64 xe.2.2.1), (.string xe.2.2.2)] 54 (0, 0))), (fun x wq => ∃ a c, x = .slice a (L ++ [xe]).length c ∧ Row 4 vE 54 (w0.heap.size) wq x (L ++ [xe]))])
    [6]
    [[], [], [1], [2], [3], [], [5], [4, 6], [], [], []]
    hf (by kernel_rfl) (by kernel_rfl) (by kernel_rfl) (fun _ _ => rfl) (fun S hS => ⟨(GO.refl _ _ _).below (Below.refl _ _).drew, fun _ => Row.ext hRL (Below.refl _ _).drew, fun _ => blk_ext hk2 (Below.refl _ _).drew, fun h => absurd h (hS _)⟩) (fun _ _ _ _ _ _ => rfl) ?_ ?_
  · skip
    intro V
    have hKP : ∀ (i : Nat) (S : Nat → Prop) (wk : World), ∀ j v w', (((fun (S : Nat → Prop) => ([(fun x _ => x = (.pointer (some ⟨p, 0, none⟩))), (fun x _ => x = (.pointer (some ⟨p, 0, none⟩))), (fun x _ => x = (.pointer (some ⟨p, 0, none⟩))), (fun x _ => x = (.pointer (some ⟨p, 0, none⟩))), (fun x _ => x = (.slice la L.length lc)), (fun x _ => x = (.agg #[(.int .i64 xe.1), (.int .i64 xe.2.1), (.int .u64 xe.2.2.1), (.string xe.2.2.2)])), (fun x wq => ∃ b, x = .slice (some ⟨b, 0, none⟩) 1 1 ∧ w3.heap.size ≤ b ∧ wq.heap[b]? = some (.cells #[(.int .i64 xe.1), (.int .i64 xe.2.1), (.int .u64 xe.2.2.1), (.string xe.2.2.2)] 54 (0, 0))), (fun x wq => ∃ a c, x = .slice a (L ++ [xe]).length c ∧ Row 4 vE 54 (w0.heap.size) wq x (L ++ [xe]))] : List (Value → World → Prop))) S).getD j (fun _ _ => True)) v wk → Below wk.heap.size wk w' → (((fun (S : Nat → Prop) => ([(fun x _ => x = (.pointer (some ⟨p, 0, none⟩))), (fun x _ => x = (.pointer (some ⟨p, 0, none⟩))), (fun x _ => x = (.pointer (some ⟨p, 0, none⟩))), (fun x _ => x = (.pointer (some ⟨p, 0, none⟩))), (fun x _ => x = (.slice la L.length lc)), (fun x _ => x = (.agg #[(.int .i64 xe.1), (.int .i64 xe.2.1), (.int .u64 xe.2.2.1), (.string xe.2.2.2)])), (fun x wq => ∃ b, x = .slice (some ⟨b, 0, none⟩) 1 1 ∧ w3.heap.size ≤ b ∧ wq.heap[b]? = some (.cells #[(.int .i64 xe.1), (.int .i64 xe.2.1), (.int .u64 xe.2.2.1), (.string xe.2.2.2)] 54 (0, 0))), (fun x wq => ∃ a c, x = .slice a (L ++ [xe]).length c ∧ Row 4 vE 54 (w0.heap.size) wq x (L ++ [xe]))] : List (Value → World → Prop))) (ad i S)).getD j (fun _ _ => True)) v w' := by
      intro i S wk j v w' h hB
      match j with
      | 0 =>
        exact h
      | 1 =>
        exact h
      | 2 =>
        exact h
      | 3 =>
        exact h
      | 4 =>
        exact h
      | 5 =>
        exact h
      | 6 =>
        obtain ⟨b, e1, e2, e3⟩ := h
        exact ⟨b, e1, e2, blk_ext e3 hB⟩
      | 7 =>
        exact keptApp _ _ _ h hB
      | _ + 8 => trivial
    refine ⟨fun S wu0 hC hS hd hi => ?_, ?_⟩
    · skip
      replace hC : GO w3 p (Value.slice la L.length lc) wu0 ∧ (¬ S 7 → Row 4 vE 54 (w0.heap.size) wu0 (Value.slice la L.length lc) L) ∧ (¬ S 4 → wu0.heap[p]? = some (.cells #[(.slice la L.length lc), (.slice ma M.length mc), (.int .i64 (N + (1 : Int)))] 130 (0, 0))) ∧ (S 4 → wu0.heap[p]? = some (.cells #[(.slice la L.length lc), (.slice ma M.length mc), (.int .i64 (N + (1 : Int)))] 130 (0, 0))) := hC
      refine uv_plain (C := (fun S wq => GO w3 p (Value.slice la L.length lc) wq ∧ (¬ S 7 → Row 4 vE 54 (w0.heap.size) wq (Value.slice la L.length lc) L) ∧ (¬ S 4 → wq.heap[p]? = some (.cells #[(.slice la L.length lc), (.slice ma M.length mc), (.int .i64 (N + (1 : Int)))] 130 (0, 0))) ∧ (S 4 → wq.heap[p]? = some (.cells #[(.slice la L.length lc), (.slice ma M.length mc), (.int .i64 (N + (1 : Int)))] 130 (0, 0))))) (hKP 0 S wu0) (fun w' h1 h2 => ⟨h1.1.below h2, fun hn => Row.ext (h1.2.1 (fun hs => hn (.inr hs))) h2, fun hn => blk_ext (h1.2.2.1 (fun hs => hn (.inr hs))) h2, fun hs => blk_ext (h1.2.2.2 (by rcases hs with e | hs; exact absurd e (by decide); exact hs)) h2⟩) hC hS ?_
      obtain ⟨hC, hCr, hCo, hCn⟩ := hC
      replace hk1 := blk_go hk1 hC (by omega) hnr1
      replace hRM := Row.go hRM hC (Row.ne_type hRM hk2 rfl) (Row.ne_row hRM hRL rfl)
      have hKb : wu0.heap[p]? = some (.cells #[(.slice la L.length lc), (.slice ma M.length mc), (.int .i64 (N + (1 : Int)))] 130 (0, 0)) := by by_cases hz : S 4; exact hCn hz; exact hCo hz
      replace hk2 := hKb
      exact Runs.does (r_move rfl) ⟨Below.refl _ _, rfl, nofr rfl⟩
    refine ⟨fun S wu1 hC hS hd hi => ?_, ?_⟩
    · skip
      replace hC : GO w3 p (Value.slice la L.length lc) wu1 ∧ (¬ S 7 → Row 4 vE 54 (w0.heap.size) wu1 (Value.slice la L.length lc) L) ∧ (¬ S 4 → wu1.heap[p]? = some (.cells #[(.slice la L.length lc), (.slice ma M.length mc), (.int .i64 (N + (1 : Int)))] 130 (0, 0))) ∧ (S 4 → wu1.heap[p]? = some (.cells #[(.slice la L.length lc), (.slice ma M.length mc), (.int .i64 (N + (1 : Int)))] 130 (0, 0))) := hC
      refine uv_plain (C := (fun S wq => GO w3 p (Value.slice la L.length lc) wq ∧ (¬ S 7 → Row 4 vE 54 (w0.heap.size) wq (Value.slice la L.length lc) L) ∧ (¬ S 4 → wq.heap[p]? = some (.cells #[(.slice la L.length lc), (.slice ma M.length mc), (.int .i64 (N + (1 : Int)))] 130 (0, 0))) ∧ (S 4 → wq.heap[p]? = some (.cells #[(.slice la L.length lc), (.slice ma M.length mc), (.int .i64 (N + (1 : Int)))] 130 (0, 0))))) (hKP 1 S wu1) (fun w' h1 h2 => ⟨h1.1.below h2, fun hn => Row.ext (h1.2.1 (fun hs => hn (.inr hs))) h2, fun hn => blk_ext (h1.2.2.1 (fun hs => hn (.inr hs))) h2, fun hs => blk_ext (h1.2.2.2 (by rcases hs with e | hs; exact absurd e (by decide); exact hs)) h2⟩) hC hS ?_
      obtain ⟨hC, hCr, hCo, hCn⟩ := hC
      replace hk1 := blk_go hk1 hC (by omega) hnr1
      replace hRM := Row.go hRM hC (Row.ne_type hRM hk2 rfl) (Row.ne_row hRM hRL rfl)
      have hKb : wu1.heap[p]? = some (.cells #[(.slice la L.length lc), (.slice ma M.length mc), (.int .i64 (N + (1 : Int)))] 130 (0, 0)) := by by_cases hz : S 4; exact hCn hz; exact hCo hz
      replace hk2 := hKb
      exact Runs.does (r_move rfl) ⟨Below.refl _ _, rfl, nofr rfl⟩
    refine ⟨fun S wu2 hC hS hd hi => ?_, ?_⟩
    · skip
      replace hC : GO w3 p (Value.slice la L.length lc) wu2 ∧ (¬ S 7 → Row 4 vE 54 (w0.heap.size) wu2 (Value.slice la L.length lc) L) ∧ (¬ S 4 → wu2.heap[p]? = some (.cells #[(.slice la L.length lc), (.slice ma M.length mc), (.int .i64 (N + (1 : Int)))] 130 (0, 0))) ∧ (S 4 → wu2.heap[p]? = some (.cells #[(.slice la L.length lc), (.slice ma M.length mc), (.int .i64 (N + (1 : Int)))] 130 (0, 0))) := hC
      refine uv_plain (C := (fun S wq => GO w3 p (Value.slice la L.length lc) wq ∧ (¬ S 7 → Row 4 vE 54 (w0.heap.size) wq (Value.slice la L.length lc) L) ∧ (¬ S 4 → wq.heap[p]? = some (.cells #[(.slice la L.length lc), (.slice ma M.length mc), (.int .i64 (N + (1 : Int)))] 130 (0, 0))) ∧ (S 4 → wq.heap[p]? = some (.cells #[(.slice la L.length lc), (.slice ma M.length mc), (.int .i64 (N + (1 : Int)))] 130 (0, 0))))) (hKP 2 S wu2) (fun w' h1 h2 => ⟨h1.1.below h2, fun hn => Row.ext (h1.2.1 (fun hs => hn (.inr hs))) h2, fun hn => blk_ext (h1.2.2.1 (fun hs => hn (.inr hs))) h2, fun hs => blk_ext (h1.2.2.2 (by rcases hs with e | hs; exact absurd e (by decide); exact hs)) h2⟩) hC hS ?_
      obtain ⟨hC, hCr, hCo, hCn⟩ := hC
      have h1 := hS.post 1 (hd 1 (by decide))
      replace h1 : V 1 = (.pointer (some ⟨p, 0, none⟩)) := h1
      replace hk1 := blk_go hk1 hC (by omega) hnr1
      replace hRM := Row.go hRM hC (Row.ne_type hRM hk2 rfl) (Row.ne_row hRM hRL rfl)
      have hKb : wu2.heap[p]? = some (.cells #[(.slice la L.length lc), (.slice ma M.length mc), (.int .i64 (N + (1 : Int)))] 130 (0, 0)) := by by_cases hz : S 4; exact hCn hz; exact hCo hz
      replace hk2 := hKb
      exact Runs.does (r_nilCheck (congrArg some h1)) ⟨Below.refl _ _, rfl, nofr rfl⟩
    refine ⟨fun S wu3 hC hS hd hi => ?_, ?_⟩
    · skip
      replace hC : GO w3 p (Value.slice la L.length lc) wu3 ∧ (¬ S 7 → Row 4 vE 54 (w0.heap.size) wu3 (Value.slice la L.length lc) L) ∧ (¬ S 4 → wu3.heap[p]? = some (.cells #[(.slice la L.length lc), (.slice ma M.length mc), (.int .i64 (N + (1 : Int)))] 130 (0, 0))) ∧ (S 4 → wu3.heap[p]? = some (.cells #[(.slice la L.length lc), (.slice ma M.length mc), (.int .i64 (N + (1 : Int)))] 130 (0, 0))) := hC
      refine uv_plain (C := (fun S wq => GO w3 p (Value.slice la L.length lc) wq ∧ (¬ S 7 → Row 4 vE 54 (w0.heap.size) wq (Value.slice la L.length lc) L) ∧ (¬ S 4 → wq.heap[p]? = some (.cells #[(.slice la L.length lc), (.slice ma M.length mc), (.int .i64 (N + (1 : Int)))] 130 (0, 0))) ∧ (S 4 → wq.heap[p]? = some (.cells #[(.slice la L.length lc), (.slice ma M.length mc), (.int .i64 (N + (1 : Int)))] 130 (0, 0))))) (hKP 3 S wu3) (fun w' h1 h2 => ⟨h1.1.below h2, fun hn => Row.ext (h1.2.1 (fun hs => hn (.inr hs))) h2, fun hn => blk_ext (h1.2.2.1 (fun hs => hn (.inr hs))) h2, fun hs => blk_ext (h1.2.2.2 (by rcases hs with e | hs; exact absurd e (by decide); exact hs)) h2⟩) hC hS ?_
      obtain ⟨hC, hCr, hCo, hCn⟩ := hC
      have h2 := hS.post 2 (hd 2 (by decide))
      replace h2 : V 2 = (.pointer (some ⟨p, 0, none⟩)) := h2
      replace hk1 := blk_go hk1 hC (by omega) hnr1
      replace hRM := Row.go hRM hC (Row.ne_type hRM hk2 rfl) (Row.ne_row hRM hRL rfl)
      have hKb : wu3.heap[p]? = some (.cells #[(.slice la L.length lc), (.slice ma M.length mc), (.int .i64 (N + (1 : Int)))] 130 (0, 0)) := by by_cases hz : S 4; exact hCn hz; exact hCo hz
      replace hk2 := hKb
      exact Runs.does (r_fa (congrArg some h2) Try.underlying130 (f := 0) (q := 0) rfl (by kernel_rfl) rfl) ⟨Below.refl _ _, rfl, nofr rfl⟩
    refine ⟨fun S wu4 hC hS hd hi => ?_, ?_⟩
    · skip
      replace hC : GO w3 p (Value.slice la L.length lc) wu4 ∧ (¬ S 7 → Row 4 vE 54 (w0.heap.size) wu4 (Value.slice la L.length lc) L) ∧ (¬ S 4 → wu4.heap[p]? = some (.cells #[(.slice la L.length lc), (.slice ma M.length mc), (.int .i64 (N + (1 : Int)))] 130 (0, 0))) ∧ (S 4 → wu4.heap[p]? = some (.cells #[(.slice la L.length lc), (.slice ma M.length mc), (.int .i64 (N + (1 : Int)))] 130 (0, 0))) := hC
      refine uv_plain (C := (fun S wq => GO w3 p (Value.slice la L.length lc) wq ∧ (¬ S 7 → Row 4 vE 54 (w0.heap.size) wq (Value.slice la L.length lc) L) ∧ (¬ S 4 → wq.heap[p]? = some (.cells #[(.slice la L.length lc), (.slice ma M.length mc), (.int .i64 (N + (1 : Int)))] 130 (0, 0))) ∧ (S 4 → wq.heap[p]? = some (.cells #[(.slice la L.length lc), (.slice ma M.length mc), (.int .i64 (N + (1 : Int)))] 130 (0, 0))))) (hKP 4 S wu4) (fun w' h1 h2 => ⟨h1.1.below h2, fun hn => Row.ext (h1.2.1 (fun hs => hn (.inr hs))) h2, fun hn => absurd (.inl rfl) hn, fun _ => blk_ext (h1.2.2.1 hi) h2⟩) hC hS ?_
      obtain ⟨hC, hCr, hCo, hCn⟩ := hC
      have h3 := hS.post 3 (hd 3 (by decide))
      replace h3 : V 3 = (.pointer (some ⟨p, 0, none⟩)) := h3
      replace hk1 := blk_go hk1 hC (by omega) hnr1
      replace hRM := Row.go hRM hC (Row.ne_type hRM hk2 rfl) (Row.ne_row hRM hRL rfl)
      have hKb : wu4.heap[p]? = some (.cells #[(.slice la L.length lc), (.slice ma M.length mc), (.int .i64 (N + (1 : Int)))] 130 (0, 0)) := by by_cases hz : S 4; exact hCn hz; exact hCo hz
      replace hk2 := hKb
      exact Runs.does (r_load (v := (.slice la L.length lc)) (congrArg some h3) Try.underlying61 rfl (cell_blk hk2 rfl)) ⟨Below.refl _ _, rfl, nofr rfl⟩
    refine ⟨fun S wu5 hC hS hd hi => ?_, ?_⟩
    · skip
      replace hC : GO w3 p (Value.slice la L.length lc) wu5 ∧ (¬ S 7 → Row 4 vE 54 (w0.heap.size) wu5 (Value.slice la L.length lc) L) ∧ (¬ S 4 → wu5.heap[p]? = some (.cells #[(.slice la L.length lc), (.slice ma M.length mc), (.int .i64 (N + (1 : Int)))] 130 (0, 0))) ∧ (S 4 → wu5.heap[p]? = some (.cells #[(.slice la L.length lc), (.slice ma M.length mc), (.int .i64 (N + (1 : Int)))] 130 (0, 0))) := hC
      refine uv_plain (C := (fun S wq => GO w3 p (Value.slice la L.length lc) wq ∧ (¬ S 7 → Row 4 vE 54 (w0.heap.size) wq (Value.slice la L.length lc) L) ∧ (¬ S 4 → wq.heap[p]? = some (.cells #[(.slice la L.length lc), (.slice ma M.length mc), (.int .i64 (N + (1 : Int)))] 130 (0, 0))) ∧ (S 4 → wq.heap[p]? = some (.cells #[(.slice la L.length lc), (.slice ma M.length mc), (.int .i64 (N + (1 : Int)))] 130 (0, 0))))) (hKP 5 S wu5) (fun w' h1 h2 => ⟨h1.1.below h2, fun hn => Row.ext (h1.2.1 (fun hs => hn (.inr hs))) h2, fun hn => blk_ext (h1.2.2.1 (fun hs => hn (.inr hs))) h2, fun hs => blk_ext (h1.2.2.2 (by rcases hs with e | hs; exact absurd e (by decide); exact hs)) h2⟩) hC hS ?_
      obtain ⟨hC, hCr, hCo, hCn⟩ := hC
      replace hk1 := blk_go hk1 hC (by omega) hnr1
      replace hRM := Row.go hRM hC (Row.ne_type hRM hk2 rfl) (Row.ne_row hRM hRL rfl)
      have hKb : wu5.heap[p]? = some (.cells #[(.slice la L.length lc), (.slice ma M.length mc), (.int .i64 (N + (1 : Int)))] 130 (0, 0)) := by by_cases hz : S 4; exact hCn hz; exact hCo hz
      replace hk2 := hKb
      exact Runs.does (r_loadA (cs := [(.int .i64 xe.1), (.int .i64 xe.2.1), (.int .u64 xe.2.2.1), (.string xe.2.2.2)]) rfl Try.underlying54 rfl (by kernel_rfl) (cellsAt_blk hk1)) ⟨Below.refl _ _, rfl, nofr rfl⟩
    refine ⟨fun S wu6 hC hS hd hi => ?_, ?_⟩
    · skip
      replace hC : GO w3 p (Value.slice la L.length lc) wu6 ∧ (¬ S 7 → Row 4 vE 54 (w0.heap.size) wu6 (Value.slice la L.length lc) L) ∧ (¬ S 4 → wu6.heap[p]? = some (.cells #[(.slice la L.length lc), (.slice ma M.length mc), (.int .i64 (N + (1 : Int)))] 130 (0, 0))) ∧ (S 4 → wu6.heap[p]? = some (.cells #[(.slice la L.length lc), (.slice ma M.length mc), (.int .i64 (N + (1 : Int)))] 130 (0, 0))) := hC
      refine uv_plain (C := (fun S wq => GO w3 p (Value.slice la L.length lc) wq ∧ (¬ S 7 → Row 4 vE 54 (w0.heap.size) wq (Value.slice la L.length lc) L) ∧ (¬ S 4 → wq.heap[p]? = some (.cells #[(.slice la L.length lc), (.slice ma M.length mc), (.int .i64 (N + (1 : Int)))] 130 (0, 0))) ∧ (S 4 → wq.heap[p]? = some (.cells #[(.slice la L.length lc), (.slice ma M.length mc), (.int .i64 (N + (1 : Int)))] 130 (0, 0))))) (hKP 6 S wu6) (fun w' h1 h2 => ⟨h1.1.below h2, fun hn => Row.ext (h1.2.1 (fun hs => hn (.inr hs))) h2, fun hn => blk_ext (h1.2.2.1 (fun hs => hn (.inr hs))) h2, fun hs => blk_ext (h1.2.2.2 (by rcases hs with e | hs; exact absurd e (by decide); exact hs)) h2⟩) hC hS ?_
      obtain ⟨hC, hCr, hCo, hCn⟩ := hC
      have h5 := hS.post 5 (hd 5 (by decide))
      replace h5 : V 5 = (.agg #[(.int .i64 xe.1), (.int .i64 xe.2.1), (.int .u64 xe.2.2.1), (.string xe.2.2.2)]) := h5
      replace hk1 := blk_go hk1 hC (by omega) hnr1
      replace hRM := Row.go hRM hC (Row.ne_type hRM hk2 rfl) (Row.ne_row hRM hRL rfl)
      have hKb : wu6.heap[p]? = some (.cells #[(.slice la L.length lc), (.slice ma M.length mc), (.int .i64 (N + (1 : Int)))] 130 (0, 0)) := by by_cases hz : S 4; exact hCn hz; exact hCo hz
      replace hk2 := hKb
      refine Does.mono (d_bslice (z := (.agg #[(.int .i64 (0 : Int)), (.int .i64 (0 : Int)), (.int .u64 (0 : Int)), (.string ⟨#[]⟩)])) (sz := 4) (vs := [(0, (.agg #[(.int .i64 xe.1), (.int .i64 xe.2.1), (.int .u64 xe.2.2.1), (.string xe.2.2.2)]))]) (cs := #[(.int .i64 xe.1), (.int .i64 xe.2.1), (.int .u64 xe.2.2.1), (.string xe.2.2.2)]) (show [(0, some (V 5))] = [(0, some (.agg #[(.int .i64 xe.1), (.int .i64 xe.2.1), (.int .u64 xe.2.2.1), (.string xe.2.2.2)]))] from by rw [h5]) Try.underlying61 (by kernel_rfl) rfl (by kernel_rfl)) ?_
      rintro _ w' ⟨b, rfl, hF⟩
      exact ⟨hF.2.2, ⟨b, rfl, Nat.le_trans hC.size hF.1, hF.2.1⟩, isfr rfl hF.1 (blk_lt hF.2.1)⟩
    refine ⟨fun S wu7 hC hS hd hi => ?_, ?_⟩
    · skip
      replace hC : GO w3 p (Value.slice la L.length lc) wu7 ∧ (¬ S 7 → Row 4 vE 54 (w0.heap.size) wu7 (Value.slice la L.length lc) L) ∧ (¬ S 4 → wu7.heap[p]? = some (.cells #[(.slice la L.length lc), (.slice ma M.length mc), (.int .i64 (N + (1 : Int)))] 130 (0, 0))) ∧ (S 4 → wu7.heap[p]? = some (.cells #[(.slice la L.length lc), (.slice ma M.length mc), (.int .i64 (N + (1 : Int)))] 130 (0, 0))) := hC
      obtain ⟨hC, hCr, hCo, hCn⟩ := hC
      have h4 := hS.post 4 (hd 4 (by decide))
      replace h4 : V 4 = (.slice la L.length lc) := h4
      have h6 := hS.post 6 (hd 6 (by decide))
      obtain ⟨b2, h6, hle2, hk3⟩ := h6
      replace hk1 := blk_go hk1 hC (by omega) hnr1
      replace hRM := Row.go hRM hC (Row.ne_type hRM hk2 rfl) (Row.ne_row hRM hRL rfl)
      have hKb : wu7.heap[p]? = some (.cells #[(.slice la L.length lc), (.slice ma M.length mc), (.int .i64 (N + (1 : Int)))] 130 (0, 0)) := by by_cases hz : S 4; exact hCn hz; exact hCo hz
      replace hk2 := hKb
      replace hRL := hCr hi
      have hrB := Row.of_new (k := 4) (V := vE) (l := [xe]) (base := w3.heap.size) hk3 hle2 rfl rfl (Nat.le_of_ble_eq_true rfl)
      refine Does.mono (d_append (V := vE) (k := 4) (e := 54) (bytes := 40) (z := (.agg #[(.int .i64 (0 : Int)), (.int .i64 (0 : Int)), (.int .u64 (0 : Int)), (.string ⟨#[]⟩)])) (news := [xe]) (base := w0.heap.size) (by intros; rfl) (by exact oneE) (congrArg some h4) (congrArg some h6) Try.underlying61 (by kernel_rfl) rfl rfl rfl hRL (Row.rd (by intros; rfl) hrB) rfl (fun h => by cases h) (by first | omega | (simp only [List.length_cons, List.length_nil, List.length_append, nums_len]; omega)) (by have := hb.size; have := hC.size; omega)) ?_
      rintro v' wz ⟨hY, hgY⟩
      obtain ⟨ra, rc, rfl, _, _⟩ := Row.slice hY
      refine ⟨⟨⟨hC.app hgY, fun hn => absurd (.inl rfl) hn, fun hn => absurd (.inr (hd 4 (by decide))) hn, fun _ => (hgY.block p (blk_lt (hCn (hd 4 (by decide)))) (fun e => Row.ne_type hRL (hCn (hd 4 (by decide))) rfl e.symm)).trans (hCn (hd 4 (by decide)))⟩, fun j hj => ?_, hgY.size⟩, ⟨ra, rc, rfl, hY⟩, nofr rfl⟩
      match j with
      | 0 =>
        exact hS.post 0 hj
      | 1 =>
        exact hS.post 1 hj
      | 2 =>
        exact hS.post 2 hj
      | 3 =>
        exact hS.post 3 hj
      | 4 =>
        exact hS.post 4 hj
      | 5 =>
        exact hS.post 5 hj
      | 6 =>
        obtain ⟨b, e1, e2, e3⟩ := hS.post 6 hj
        exact ⟨b, e1, e2, (hgY.block b (blk_lt e3) (fun e => by have := hlV b e.symm; omega)).trans e3⟩
      | 7 =>
        exact absurd hj hi
      | _ + 8 => trivial
    trivial
  · skip
    clear hf fa; intro V S w4 fa hall he3 hp hnb hf
    have hv0 := postsHold_at hp 0 rfl
    replace hv0 : V 0 = (.pointer (some ⟨p, 0, none⟩)) := hv0
    have hv1 := postsHold_at hp 1 rfl
    replace hv1 : V 1 = (.pointer (some ⟨p, 0, none⟩)) := hv1
    have hv2 := postsHold_at hp 2 rfl
    replace hv2 : V 2 = (.pointer (some ⟨p, 0, none⟩)) := hv2
    have hv3 := postsHold_at hp 3 rfl
    replace hv3 : V 3 = (.pointer (some ⟨p, 0, none⟩)) := hv3
    have hv4 := postsHold_at hp 4 rfl
    replace hv4 : V 4 = (.slice la L.length lc) := hv4
    have hv5 := postsHold_at hp 5 rfl
    replace hv5 : V 5 = (.agg #[(.int .i64 xe.1), (.int .i64 xe.2.1), (.int .u64 xe.2.2.1), (.string xe.2.2.2)]) := hv5
    have hv6 := postsHold_at hp 6 rfl
    obtain ⟨b2, hv6, hle2, hk3⟩ := hv6
    have hBb2 : w0.heap.size ≤ b2 := Nat.le_trans hb.size hle2
    have hv7 := postsHold_at hp 7 rfl
    obtain ⟨ra1, rc1, hv7, hr1⟩ := hv7
    rw [hv7] at hr1
    have hcrc1 := Row.caps hr1
    simp only [List.take_succ_cons, List.take_zero, insAll, ins, hv0, hv1, hv2, hv3, hv4, hv5, hv6, hv7] at hf
    obtain ⟨he3, _, _, hk4⟩ := he3
    replace hk4 := hk4 (hall 4 (show 4 < 8 by decide))
    replace hZ := Nat.le_trans hZ he3.size
    replace hKX := hKX.go he3 (by omega) (fun q hq => .inl (hlX q hq))
    replace hT1 := KT.map hT1 (fun bf cs hbf => blk_go hbf he3 (blk_ty hbf hk2 rfl) (Row.ne_type hRL hbf rfl))
    replace hT2 := KT.map hT2 (fun bf cs hbf => blk_go hbf he3 (blk_ty hbf hk2 rfl) (Row.ne_type hRL hbf rfl))
    replace hk1 := blk_go hk1 he3 (by omega) hnr1
    replace hRM := Row.go hRM he3 (Row.ne_type hRM hk2 rfl) (Row.ne_row hRM hRL rfl)
    replace hb := Below_go hb he3 hb.size hBp (fun q hq => by have := (Row.lt hRL q hq).1; omega)
    clear hp hnb hall hlV hRL hv0 hv1 hv2 hv3 hv4 hv5 hv6 hv7
    simp only [List.drop_succ_cons, List.drop_zero]
    refine sqv hf (r_nilCheck rfl) rfl rfl rfl ?_; clear hf fa; intro fa hf
    refine sqv hf (r_fa rfl Try.underlying130 (f := 0) (q := 0) rfl (by kernel_rfl) rfl) rfl rfl rfl ?_; clear hf fa; intro fa hf
    refine sqn hf (d_storeK (T := 130) (v := (.slice ra1 ((L ++ [xe]).length) rc1)) (cs := #[(.slice la L.length lc), (.slice ma M.length mc), (.int .i64 (N + (1 : Int)))]) (cs' := #[(.slice ra1 ((L ++ [xe]).length) rc1), (.slice ma M.length mc), (.int .i64 (N + (1 : Int)))]) rfl rfl (by kernel_rfl) (by kernel_rfl) hk4 (by kernel_rfl) (by kernel_rfl)) rfl rfl ?_; clear hf fa; rintro fa _ w5 ⟨hk5, hg2⟩ hf
    replace hk1 := blk_grown hk1 hg2 (by omega)
    replace hRM := Row.grown hRM hg2 (Row.ne_type hRM hk4 rfl)
    replace hr1 := Row.grown hr1 hg2 (Row.ne_type hr1 hk4 rfl)
    replace hZ := Nat.le_trans hZ hg2.size
    replace hKX := hKX.grown hg2 (by omega)
    replace hT1 := KT.map hT1 (fun bf cs hbf => blk_grown hbf hg2 (blk_ty hbf hk4 rfl))
    replace hT2 := KT.map hT2 (fun bf cs hbf => blk_grown hbf hg2 (blk_ty hbf hk4 rfl))
    replace hb := hb.trans (grown_below hg2 hb.size hBp)
    apply wpList_nil
    (try simp only [Exit.then, Exit.inBlock])
    refine end0 hf rfl ?_
    have hzL := hr1
    have hzM := hRM
    have hz1 := hk5
    exact ⟨rfl, ⟨hBp, _, _, hz1, rowE hzL, rowM hzM⟩, hb, ⟨hT1, hT2, hKX, hZ⟩⟩

set_option maxHeartbeats 1000000 in
set_option maxRecDepth 100000 in
theorem markT (p : Nat) (la ma : Option Addr) (lc mc : Nat) (L : List Ent) (M : List Int) (N : Int) (w0 w : World) (hb : Below w0.heap.size w0 w) (hpb : w.heap[p]? = some (.cells #[(.slice la L.length lc), (.slice ma M.length mc), (.int .i64 N)] 130 (0, 0))) (hRL : Row 4 vE 54 w0.heap.size w (.slice la L.length lc) L) (hRM : Row 1 (vInt .i64) 3 w0.heap.size w (.slice ma M.length mc) M) (hBp : w0.heap.size ≤ p) (hL : L.length ≤ 1000000) (hM : M.length ≤ 1000000) (hN : 0 ≤ N ∧ N ≤ 1000000) (X : Nat) (hpX : p < X) (hlX : ∀ q, (Value.slice la L.length lc).ownBlock = some q → q < X) (hmX : ∀ q, (Value.slice ma M.length mc).ownBlock = some q → q < X) : Calls Try.prog 22 #[(.pointer (some ⟨p, 0, none⟩))] w fun e w' => e = .returned (.int .i64 (((M.length + 1 : Nat)) : Int)) ∧ JR w0.heap.size w' p L (M ++ [((L.length : Nat) : Int)]) N ∧ Below w0.heap.size w0 w' ∧ Qk X w w' := by
  have hcL := Row.caps hRL
  have hcM := Row.caps hRM
  have hpl := (Array.getElem?_eq_some_iff.1 hpb).1
  have hT1 := KT.refl 64 w
  have hT2 := KT.refl 59 w
  have hKX := KX.refl X w
  have hZ := Nat.le_refl w.heap.size
  refine sx_enter (L := [(0, (.pointer (some ⟨p, 0, none⟩)))]) Try.func22 rfl rfl rfl rfl (fun fa hf => ?_)
  refine wp_seq_k (fun K1 hK1 => ?_)
  refine wp_region_lit ?_
  refine sqv hf (r_assign rfl) rfl rfl rfl ?_; clear hf fa; intro fa hf
  apply wpList_nil
  (try simp only [Exit.then, Exit.inBlock, ↓reduceIte, Nat.reduceEqDiff])
  refine hK1 _ _ ?_
  refine wp_seq_k (fun K2 hK2 => ?_)
  have hap : (M ++ [((L.length : Nat) : Int)]).length = M.length + 1 := by rw [List.length_append]; rfl
  have hlW : p < w.heap.size := blk_lt hpb
  have hlV := fun q (hq : ((Value.slice ma M.length mc)).ownBlock = some q) => (Row.lt hRM q hq).2
  refine wp_region_vnT 12 (fun S wq => GO w p (Value.slice ma M.length mc) wq ∧ (¬ S 11 → Row 1 (vInt .i64) 3 (w0.heap.size) wq (Value.slice ma M.length mc) M) ∧ (¬ S 4 → wq.heap[p]? = some (.cells #[(.slice la L.length lc), (.slice ma M.length mc), (.int .i64 N)] 130 (0, 0))) ∧ (S 4 → wq.heap[p]? = some (.cells #[(.slice la L.length lc), (.slice ma M.length mc), (.int .i64 N)] 130 (0, 0))))
    (fun V S => [(fun x _ => x = (.pointer (some ⟨p, 0, none⟩))), (fun x _ => x = (.pointer (some ⟨p, 0, none⟩))), (fun x _ => x = (.pointer (some ⟨p, 0, none⟩))), (fun x _ => x = (.pointer (some ⟨p, 1, none⟩))), (fun x _ => x = (.slice ma M.length mc)), (fun x _ => x = (.pointer (some ⟨p, 0, none⟩))), (fun x _ => x = (.pointer (some ⟨p, 0, none⟩))), (fun x _ => x = (.pointer (some ⟨p, 0, none⟩))), (fun x _ => x = (.slice la L.length lc)), (fun x _ => x = (.int .i64 ((L.length : Nat) : Int))), (fun x wq => ∃ b, x = .slice (some ⟨b, 0, none⟩) 1 1 ∧ w.heap.size ≤ b ∧ wq.heap[b]? = some (.cells #[(.int .i64 ((L.length : Nat) : Int))] 3 (0, 0))), (fun x wq => ∃ a c, x = .slice a (M ++ [((L.length : Nat) : Int)]).length c ∧ Row 1 (vInt .i64) 3 (w0.heap.size) wq x (M ++ [((L.length : Nat) : Int)]))])
    [10]
    [[], [], [1], [2], [3], [], [5], [6], [7], [8], [9], [4, 10], [], [], []]
    hf (by kernel_rfl) (by kernel_rfl) (by kernel_rfl) (fun _ _ => rfl) (fun S hS => ⟨(GO.refl _ _ _).below (Below.refl _ _).drew, fun _ => Row.ext hRM (Below.refl _ _).drew, fun _ => blk_ext hpb (Below.refl _ _).drew, fun h => absurd h (hS _)⟩) (fun _ _ _ _ _ _ => rfl) ?_ ?_
  · skip
    intro V
    have hKP : ∀ (i : Nat) (S : Nat → Prop) (wk : World), ∀ j v w', (((fun (S : Nat → Prop) => ([(fun x _ => x = (.pointer (some ⟨p, 0, none⟩))), (fun x _ => x = (.pointer (some ⟨p, 0, none⟩))), (fun x _ => x = (.pointer (some ⟨p, 0, none⟩))), (fun x _ => x = (.pointer (some ⟨p, 1, none⟩))), (fun x _ => x = (.slice ma M.length mc)), (fun x _ => x = (.pointer (some ⟨p, 0, none⟩))), (fun x _ => x = (.pointer (some ⟨p, 0, none⟩))), (fun x _ => x = (.pointer (some ⟨p, 0, none⟩))), (fun x _ => x = (.slice la L.length lc)), (fun x _ => x = (.int .i64 ((L.length : Nat) : Int))), (fun x wq => ∃ b, x = .slice (some ⟨b, 0, none⟩) 1 1 ∧ w.heap.size ≤ b ∧ wq.heap[b]? = some (.cells #[(.int .i64 ((L.length : Nat) : Int))] 3 (0, 0))), (fun x wq => ∃ a c, x = .slice a (M ++ [((L.length : Nat) : Int)]).length c ∧ Row 1 (vInt .i64) 3 (w0.heap.size) wq x (M ++ [((L.length : Nat) : Int)]))] : List (Value → World → Prop))) S).getD j (fun _ _ => True)) v wk → Below wk.heap.size wk w' → (((fun (S : Nat → Prop) => ([(fun x _ => x = (.pointer (some ⟨p, 0, none⟩))), (fun x _ => x = (.pointer (some ⟨p, 0, none⟩))), (fun x _ => x = (.pointer (some ⟨p, 0, none⟩))), (fun x _ => x = (.pointer (some ⟨p, 1, none⟩))), (fun x _ => x = (.slice ma M.length mc)), (fun x _ => x = (.pointer (some ⟨p, 0, none⟩))), (fun x _ => x = (.pointer (some ⟨p, 0, none⟩))), (fun x _ => x = (.pointer (some ⟨p, 0, none⟩))), (fun x _ => x = (.slice la L.length lc)), (fun x _ => x = (.int .i64 ((L.length : Nat) : Int))), (fun x wq => ∃ b, x = .slice (some ⟨b, 0, none⟩) 1 1 ∧ w.heap.size ≤ b ∧ wq.heap[b]? = some (.cells #[(.int .i64 ((L.length : Nat) : Int))] 3 (0, 0))), (fun x wq => ∃ a c, x = .slice a (M ++ [((L.length : Nat) : Int)]).length c ∧ Row 1 (vInt .i64) 3 (w0.heap.size) wq x (M ++ [((L.length : Nat) : Int)]))] : List (Value → World → Prop))) (ad i S)).getD j (fun _ _ => True)) v w' := by
      intro i S wk j v w' h hB
      match j with
      | 0 =>
        exact h
      | 1 =>
        exact h
      | 2 =>
        exact h
      | 3 =>
        exact h
      | 4 =>
        exact h
      | 5 =>
        exact h
      | 6 =>
        exact h
      | 7 =>
        exact h
      | 8 =>
        exact h
      | 9 =>
        exact h
      | 10 =>
        obtain ⟨b, e1, e2, e3⟩ := h
        exact ⟨b, e1, e2, blk_ext e3 hB⟩
      | 11 =>
        exact keptApp _ _ _ h hB
      | _ + 12 => trivial
    refine ⟨fun S wu0 hC hS hd hi => ?_, ?_⟩
    · skip
      replace hC : GO w p (Value.slice ma M.length mc) wu0 ∧ (¬ S 11 → Row 1 (vInt .i64) 3 (w0.heap.size) wu0 (Value.slice ma M.length mc) M) ∧ (¬ S 4 → wu0.heap[p]? = some (.cells #[(.slice la L.length lc), (.slice ma M.length mc), (.int .i64 N)] 130 (0, 0))) ∧ (S 4 → wu0.heap[p]? = some (.cells #[(.slice la L.length lc), (.slice ma M.length mc), (.int .i64 N)] 130 (0, 0))) := hC
      refine uv_plain (C := (fun S wq => GO w p (Value.slice ma M.length mc) wq ∧ (¬ S 11 → Row 1 (vInt .i64) 3 (w0.heap.size) wq (Value.slice ma M.length mc) M) ∧ (¬ S 4 → wq.heap[p]? = some (.cells #[(.slice la L.length lc), (.slice ma M.length mc), (.int .i64 N)] 130 (0, 0))) ∧ (S 4 → wq.heap[p]? = some (.cells #[(.slice la L.length lc), (.slice ma M.length mc), (.int .i64 N)] 130 (0, 0))))) (hKP 0 S wu0) (fun w' h1 h2 => ⟨h1.1.below h2, fun hn => Row.ext (h1.2.1 (fun hs => hn (.inr hs))) h2, fun hn => blk_ext (h1.2.2.1 (fun hs => hn (.inr hs))) h2, fun hs => blk_ext (h1.2.2.2 (by rcases hs with e | hs; exact absurd e (by decide); exact hs)) h2⟩) hC hS ?_
      obtain ⟨hC, hCr, hCo, hCn⟩ := hC
      replace hRL := Row.go hRL hC (Row.ne_type hRL hpb rfl) (Row.ne_row hRL hRM rfl)
      have hKb : wu0.heap[p]? = some (.cells #[(.slice la L.length lc), (.slice ma M.length mc), (.int .i64 N)] 130 (0, 0)) := by by_cases hz : S 4; exact hCn hz; exact hCo hz
      replace hpb := hKb
      exact Runs.does (r_move rfl) ⟨Below.refl _ _, rfl, nofr rfl⟩
    refine ⟨fun S wu1 hC hS hd hi => ?_, ?_⟩
    · skip
      replace hC : GO w p (Value.slice ma M.length mc) wu1 ∧ (¬ S 11 → Row 1 (vInt .i64) 3 (w0.heap.size) wu1 (Value.slice ma M.length mc) M) ∧ (¬ S 4 → wu1.heap[p]? = some (.cells #[(.slice la L.length lc), (.slice ma M.length mc), (.int .i64 N)] 130 (0, 0))) ∧ (S 4 → wu1.heap[p]? = some (.cells #[(.slice la L.length lc), (.slice ma M.length mc), (.int .i64 N)] 130 (0, 0))) := hC
      refine uv_plain (C := (fun S wq => GO w p (Value.slice ma M.length mc) wq ∧ (¬ S 11 → Row 1 (vInt .i64) 3 (w0.heap.size) wq (Value.slice ma M.length mc) M) ∧ (¬ S 4 → wq.heap[p]? = some (.cells #[(.slice la L.length lc), (.slice ma M.length mc), (.int .i64 N)] 130 (0, 0))) ∧ (S 4 → wq.heap[p]? = some (.cells #[(.slice la L.length lc), (.slice ma M.length mc), (.int .i64 N)] 130 (0, 0))))) (hKP 1 S wu1) (fun w' h1 h2 => ⟨h1.1.below h2, fun hn => Row.ext (h1.2.1 (fun hs => hn (.inr hs))) h2, fun hn => blk_ext (h1.2.2.1 (fun hs => hn (.inr hs))) h2, fun hs => blk_ext (h1.2.2.2 (by rcases hs with e | hs; exact absurd e (by decide); exact hs)) h2⟩) hC hS ?_
      obtain ⟨hC, hCr, hCo, hCn⟩ := hC
      replace hRL := Row.go hRL hC (Row.ne_type hRL hpb rfl) (Row.ne_row hRL hRM rfl)
      have hKb : wu1.heap[p]? = some (.cells #[(.slice la L.length lc), (.slice ma M.length mc), (.int .i64 N)] 130 (0, 0)) := by by_cases hz : S 4; exact hCn hz; exact hCo hz
      replace hpb := hKb
      exact Runs.does (r_move rfl) ⟨Below.refl _ _, rfl, nofr rfl⟩
    refine ⟨fun S wu2 hC hS hd hi => ?_, ?_⟩
    · skip
      replace hC : GO w p (Value.slice ma M.length mc) wu2 ∧ (¬ S 11 → Row 1 (vInt .i64) 3 (w0.heap.size) wu2 (Value.slice ma M.length mc) M) ∧ (¬ S 4 → wu2.heap[p]? = some (.cells #[(.slice la L.length lc), (.slice ma M.length mc), (.int .i64 N)] 130 (0, 0))) ∧ (S 4 → wu2.heap[p]? = some (.cells #[(.slice la L.length lc), (.slice ma M.length mc), (.int .i64 N)] 130 (0, 0))) := hC
      refine uv_plain (C := (fun S wq => GO w p (Value.slice ma M.length mc) wq ∧ (¬ S 11 → Row 1 (vInt .i64) 3 (w0.heap.size) wq (Value.slice ma M.length mc) M) ∧ (¬ S 4 → wq.heap[p]? = some (.cells #[(.slice la L.length lc), (.slice ma M.length mc), (.int .i64 N)] 130 (0, 0))) ∧ (S 4 → wq.heap[p]? = some (.cells #[(.slice la L.length lc), (.slice ma M.length mc), (.int .i64 N)] 130 (0, 0))))) (hKP 2 S wu2) (fun w' h1 h2 => ⟨h1.1.below h2, fun hn => Row.ext (h1.2.1 (fun hs => hn (.inr hs))) h2, fun hn => blk_ext (h1.2.2.1 (fun hs => hn (.inr hs))) h2, fun hs => blk_ext (h1.2.2.2 (by rcases hs with e | hs; exact absurd e (by decide); exact hs)) h2⟩) hC hS ?_
      obtain ⟨hC, hCr, hCo, hCn⟩ := hC
      have h1 := hS.post 1 (hd 1 (by decide))
      replace h1 : V 1 = (.pointer (some ⟨p, 0, none⟩)) := h1
      replace hRL := Row.go hRL hC (Row.ne_type hRL hpb rfl) (Row.ne_row hRL hRM rfl)
      have hKb : wu2.heap[p]? = some (.cells #[(.slice la L.length lc), (.slice ma M.length mc), (.int .i64 N)] 130 (0, 0)) := by by_cases hz : S 4; exact hCn hz; exact hCo hz
      replace hpb := hKb
      exact Runs.does (r_nilCheck (congrArg some h1)) ⟨Below.refl _ _, rfl, nofr rfl⟩
    refine ⟨fun S wu3 hC hS hd hi => ?_, ?_⟩
    · skip
      replace hC : GO w p (Value.slice ma M.length mc) wu3 ∧ (¬ S 11 → Row 1 (vInt .i64) 3 (w0.heap.size) wu3 (Value.slice ma M.length mc) M) ∧ (¬ S 4 → wu3.heap[p]? = some (.cells #[(.slice la L.length lc), (.slice ma M.length mc), (.int .i64 N)] 130 (0, 0))) ∧ (S 4 → wu3.heap[p]? = some (.cells #[(.slice la L.length lc), (.slice ma M.length mc), (.int .i64 N)] 130 (0, 0))) := hC
      refine uv_plain (C := (fun S wq => GO w p (Value.slice ma M.length mc) wq ∧ (¬ S 11 → Row 1 (vInt .i64) 3 (w0.heap.size) wq (Value.slice ma M.length mc) M) ∧ (¬ S 4 → wq.heap[p]? = some (.cells #[(.slice la L.length lc), (.slice ma M.length mc), (.int .i64 N)] 130 (0, 0))) ∧ (S 4 → wq.heap[p]? = some (.cells #[(.slice la L.length lc), (.slice ma M.length mc), (.int .i64 N)] 130 (0, 0))))) (hKP 3 S wu3) (fun w' h1 h2 => ⟨h1.1.below h2, fun hn => Row.ext (h1.2.1 (fun hs => hn (.inr hs))) h2, fun hn => blk_ext (h1.2.2.1 (fun hs => hn (.inr hs))) h2, fun hs => blk_ext (h1.2.2.2 (by rcases hs with e | hs; exact absurd e (by decide); exact hs)) h2⟩) hC hS ?_
      obtain ⟨hC, hCr, hCo, hCn⟩ := hC
      have h2 := hS.post 2 (hd 2 (by decide))
      replace h2 : V 2 = (.pointer (some ⟨p, 0, none⟩)) := h2
      replace hRL := Row.go hRL hC (Row.ne_type hRL hpb rfl) (Row.ne_row hRL hRM rfl)
      have hKb : wu3.heap[p]? = some (.cells #[(.slice la L.length lc), (.slice ma M.length mc), (.int .i64 N)] 130 (0, 0)) := by by_cases hz : S 4; exact hCn hz; exact hCo hz
      replace hpb := hKb
      exact Runs.does (r_fa (congrArg some h2) Try.underlying130 (f := 1) (q := 1) rfl (by kernel_rfl) rfl) ⟨Below.refl _ _, rfl, nofr rfl⟩
    refine ⟨fun S wu4 hC hS hd hi => ?_, ?_⟩
    · skip
      replace hC : GO w p (Value.slice ma M.length mc) wu4 ∧ (¬ S 11 → Row 1 (vInt .i64) 3 (w0.heap.size) wu4 (Value.slice ma M.length mc) M) ∧ (¬ S 4 → wu4.heap[p]? = some (.cells #[(.slice la L.length lc), (.slice ma M.length mc), (.int .i64 N)] 130 (0, 0))) ∧ (S 4 → wu4.heap[p]? = some (.cells #[(.slice la L.length lc), (.slice ma M.length mc), (.int .i64 N)] 130 (0, 0))) := hC
      refine uv_plain (C := (fun S wq => GO w p (Value.slice ma M.length mc) wq ∧ (¬ S 11 → Row 1 (vInt .i64) 3 (w0.heap.size) wq (Value.slice ma M.length mc) M) ∧ (¬ S 4 → wq.heap[p]? = some (.cells #[(.slice la L.length lc), (.slice ma M.length mc), (.int .i64 N)] 130 (0, 0))) ∧ (S 4 → wq.heap[p]? = some (.cells #[(.slice la L.length lc), (.slice ma M.length mc), (.int .i64 N)] 130 (0, 0))))) (hKP 4 S wu4) (fun w' h1 h2 => ⟨h1.1.below h2, fun hn => Row.ext (h1.2.1 (fun hs => hn (.inr hs))) h2, fun hn => absurd (.inl rfl) hn, fun _ => blk_ext (h1.2.2.1 hi) h2⟩) hC hS ?_
      obtain ⟨hC, hCr, hCo, hCn⟩ := hC
      have h3 := hS.post 3 (hd 3 (by decide))
      replace h3 : V 3 = (.pointer (some ⟨p, 1, none⟩)) := h3
      replace hRL := Row.go hRL hC (Row.ne_type hRL hpb rfl) (Row.ne_row hRL hRM rfl)
      have hKb : wu4.heap[p]? = some (.cells #[(.slice la L.length lc), (.slice ma M.length mc), (.int .i64 N)] 130 (0, 0)) := by by_cases hz : S 4; exact hCn hz; exact hCo hz
      replace hpb := hKb
      exact Runs.does (r_load (v := (.slice ma M.length mc)) (congrArg some h3) Try.underlying33 rfl (cell_blk hpb rfl)) ⟨Below.refl _ _, rfl, nofr rfl⟩
    refine ⟨fun S wu5 hC hS hd hi => ?_, ?_⟩
    · skip
      replace hC : GO w p (Value.slice ma M.length mc) wu5 ∧ (¬ S 11 → Row 1 (vInt .i64) 3 (w0.heap.size) wu5 (Value.slice ma M.length mc) M) ∧ (¬ S 4 → wu5.heap[p]? = some (.cells #[(.slice la L.length lc), (.slice ma M.length mc), (.int .i64 N)] 130 (0, 0))) ∧ (S 4 → wu5.heap[p]? = some (.cells #[(.slice la L.length lc), (.slice ma M.length mc), (.int .i64 N)] 130 (0, 0))) := hC
      refine uv_plain (C := (fun S wq => GO w p (Value.slice ma M.length mc) wq ∧ (¬ S 11 → Row 1 (vInt .i64) 3 (w0.heap.size) wq (Value.slice ma M.length mc) M) ∧ (¬ S 4 → wq.heap[p]? = some (.cells #[(.slice la L.length lc), (.slice ma M.length mc), (.int .i64 N)] 130 (0, 0))) ∧ (S 4 → wq.heap[p]? = some (.cells #[(.slice la L.length lc), (.slice ma M.length mc), (.int .i64 N)] 130 (0, 0))))) (hKP 5 S wu5) (fun w' h1 h2 => ⟨h1.1.below h2, fun hn => Row.ext (h1.2.1 (fun hs => hn (.inr hs))) h2, fun hn => blk_ext (h1.2.2.1 (fun hs => hn (.inr hs))) h2, fun hs => blk_ext (h1.2.2.2 (by rcases hs with e | hs; exact absurd e (by decide); exact hs)) h2⟩) hC hS ?_
      obtain ⟨hC, hCr, hCo, hCn⟩ := hC
      replace hRL := Row.go hRL hC (Row.ne_type hRL hpb rfl) (Row.ne_row hRL hRM rfl)
      have hKb : wu5.heap[p]? = some (.cells #[(.slice la L.length lc), (.slice ma M.length mc), (.int .i64 N)] 130 (0, 0)) := by by_cases hz : S 4; exact hCn hz; exact hCo hz
      replace hpb := hKb
      exact Runs.does (r_move rfl) ⟨Below.refl _ _, rfl, nofr rfl⟩
    refine ⟨fun S wu6 hC hS hd hi => ?_, ?_⟩
    · skip
      replace hC : GO w p (Value.slice ma M.length mc) wu6 ∧ (¬ S 11 → Row 1 (vInt .i64) 3 (w0.heap.size) wu6 (Value.slice ma M.length mc) M) ∧ (¬ S 4 → wu6.heap[p]? = some (.cells #[(.slice la L.length lc), (.slice ma M.length mc), (.int .i64 N)] 130 (0, 0))) ∧ (S 4 → wu6.heap[p]? = some (.cells #[(.slice la L.length lc), (.slice ma M.length mc), (.int .i64 N)] 130 (0, 0))) := hC
      refine uv_plain (C := (fun S wq => GO w p (Value.slice ma M.length mc) wq ∧ (¬ S 11 → Row 1 (vInt .i64) 3 (w0.heap.size) wq (Value.slice ma M.length mc) M) ∧ (¬ S 4 → wq.heap[p]? = some (.cells #[(.slice la L.length lc), (.slice ma M.length mc), (.int .i64 N)] 130 (0, 0))) ∧ (S 4 → wq.heap[p]? = some (.cells #[(.slice la L.length lc), (.slice ma M.length mc), (.int .i64 N)] 130 (0, 0))))) (hKP 6 S wu6) (fun w' h1 h2 => ⟨h1.1.below h2, fun hn => Row.ext (h1.2.1 (fun hs => hn (.inr hs))) h2, fun hn => blk_ext (h1.2.2.1 (fun hs => hn (.inr hs))) h2, fun hs => blk_ext (h1.2.2.2 (by rcases hs with e | hs; exact absurd e (by decide); exact hs)) h2⟩) hC hS ?_
      obtain ⟨hC, hCr, hCo, hCn⟩ := hC
      have h5 := hS.post 5 (hd 5 (by decide))
      replace h5 : V 5 = (.pointer (some ⟨p, 0, none⟩)) := h5
      replace hRL := Row.go hRL hC (Row.ne_type hRL hpb rfl) (Row.ne_row hRL hRM rfl)
      have hKb : wu6.heap[p]? = some (.cells #[(.slice la L.length lc), (.slice ma M.length mc), (.int .i64 N)] 130 (0, 0)) := by by_cases hz : S 4; exact hCn hz; exact hCo hz
      replace hpb := hKb
      exact Runs.does (r_nilCheck (congrArg some h5)) ⟨Below.refl _ _, rfl, nofr rfl⟩
    refine ⟨fun S wu7 hC hS hd hi => ?_, ?_⟩
    · skip
      replace hC : GO w p (Value.slice ma M.length mc) wu7 ∧ (¬ S 11 → Row 1 (vInt .i64) 3 (w0.heap.size) wu7 (Value.slice ma M.length mc) M) ∧ (¬ S 4 → wu7.heap[p]? = some (.cells #[(.slice la L.length lc), (.slice ma M.length mc), (.int .i64 N)] 130 (0, 0))) ∧ (S 4 → wu7.heap[p]? = some (.cells #[(.slice la L.length lc), (.slice ma M.length mc), (.int .i64 N)] 130 (0, 0))) := hC
      refine uv_plain (C := (fun S wq => GO w p (Value.slice ma M.length mc) wq ∧ (¬ S 11 → Row 1 (vInt .i64) 3 (w0.heap.size) wq (Value.slice ma M.length mc) M) ∧ (¬ S 4 → wq.heap[p]? = some (.cells #[(.slice la L.length lc), (.slice ma M.length mc), (.int .i64 N)] 130 (0, 0))) ∧ (S 4 → wq.heap[p]? = some (.cells #[(.slice la L.length lc), (.slice ma M.length mc), (.int .i64 N)] 130 (0, 0))))) (hKP 7 S wu7) (fun w' h1 h2 => ⟨h1.1.below h2, fun hn => Row.ext (h1.2.1 (fun hs => hn (.inr hs))) h2, fun hn => blk_ext (h1.2.2.1 (fun hs => hn (.inr hs))) h2, fun hs => blk_ext (h1.2.2.2 (by rcases hs with e | hs; exact absurd e (by decide); exact hs)) h2⟩) hC hS ?_
      obtain ⟨hC, hCr, hCo, hCn⟩ := hC
      have h6 := hS.post 6 (hd 6 (by decide))
      replace h6 : V 6 = (.pointer (some ⟨p, 0, none⟩)) := h6
      replace hRL := Row.go hRL hC (Row.ne_type hRL hpb rfl) (Row.ne_row hRL hRM rfl)
      have hKb : wu7.heap[p]? = some (.cells #[(.slice la L.length lc), (.slice ma M.length mc), (.int .i64 N)] 130 (0, 0)) := by by_cases hz : S 4; exact hCn hz; exact hCo hz
      replace hpb := hKb
      exact Runs.does (r_fa (congrArg some h6) Try.underlying130 (f := 0) (q := 0) rfl (by kernel_rfl) rfl) ⟨Below.refl _ _, rfl, nofr rfl⟩
    refine ⟨fun S wu8 hC hS hd hi => ?_, ?_⟩
    · skip
      replace hC : GO w p (Value.slice ma M.length mc) wu8 ∧ (¬ S 11 → Row 1 (vInt .i64) 3 (w0.heap.size) wu8 (Value.slice ma M.length mc) M) ∧ (¬ S 4 → wu8.heap[p]? = some (.cells #[(.slice la L.length lc), (.slice ma M.length mc), (.int .i64 N)] 130 (0, 0))) ∧ (S 4 → wu8.heap[p]? = some (.cells #[(.slice la L.length lc), (.slice ma M.length mc), (.int .i64 N)] 130 (0, 0))) := hC
      refine uv_plain (C := (fun S wq => GO w p (Value.slice ma M.length mc) wq ∧ (¬ S 11 → Row 1 (vInt .i64) 3 (w0.heap.size) wq (Value.slice ma M.length mc) M) ∧ (¬ S 4 → wq.heap[p]? = some (.cells #[(.slice la L.length lc), (.slice ma M.length mc), (.int .i64 N)] 130 (0, 0))) ∧ (S 4 → wq.heap[p]? = some (.cells #[(.slice la L.length lc), (.slice ma M.length mc), (.int .i64 N)] 130 (0, 0))))) (hKP 8 S wu8) (fun w' h1 h2 => ⟨h1.1.below h2, fun hn => Row.ext (h1.2.1 (fun hs => hn (.inr hs))) h2, fun hn => blk_ext (h1.2.2.1 (fun hs => hn (.inr hs))) h2, fun hs => blk_ext (h1.2.2.2 (by rcases hs with e | hs; exact absurd e (by decide); exact hs)) h2⟩) hC hS ?_
      obtain ⟨hC, hCr, hCo, hCn⟩ := hC
      have h7 := hS.post 7 (hd 7 (by decide))
      replace h7 : V 7 = (.pointer (some ⟨p, 0, none⟩)) := h7
      replace hRL := Row.go hRL hC (Row.ne_type hRL hpb rfl) (Row.ne_row hRL hRM rfl)
      have hKb : wu8.heap[p]? = some (.cells #[(.slice la L.length lc), (.slice ma M.length mc), (.int .i64 N)] 130 (0, 0)) := by by_cases hz : S 4; exact hCn hz; exact hCo hz
      replace hpb := hKb
      exact Runs.does (r_load (v := (.slice la L.length lc)) (congrArg some h7) Try.underlying61 rfl (cell_blk hpb rfl)) ⟨Below.refl _ _, rfl, nofr rfl⟩
    refine ⟨fun S wu9 hC hS hd hi => ?_, ?_⟩
    · skip
      replace hC : GO w p (Value.slice ma M.length mc) wu9 ∧ (¬ S 11 → Row 1 (vInt .i64) 3 (w0.heap.size) wu9 (Value.slice ma M.length mc) M) ∧ (¬ S 4 → wu9.heap[p]? = some (.cells #[(.slice la L.length lc), (.slice ma M.length mc), (.int .i64 N)] 130 (0, 0))) ∧ (S 4 → wu9.heap[p]? = some (.cells #[(.slice la L.length lc), (.slice ma M.length mc), (.int .i64 N)] 130 (0, 0))) := hC
      refine uv_plain (C := (fun S wq => GO w p (Value.slice ma M.length mc) wq ∧ (¬ S 11 → Row 1 (vInt .i64) 3 (w0.heap.size) wq (Value.slice ma M.length mc) M) ∧ (¬ S 4 → wq.heap[p]? = some (.cells #[(.slice la L.length lc), (.slice ma M.length mc), (.int .i64 N)] 130 (0, 0))) ∧ (S 4 → wq.heap[p]? = some (.cells #[(.slice la L.length lc), (.slice ma M.length mc), (.int .i64 N)] 130 (0, 0))))) (hKP 9 S wu9) (fun w' h1 h2 => ⟨h1.1.below h2, fun hn => Row.ext (h1.2.1 (fun hs => hn (.inr hs))) h2, fun hn => blk_ext (h1.2.2.1 (fun hs => hn (.inr hs))) h2, fun hs => blk_ext (h1.2.2.2 (by rcases hs with e | hs; exact absurd e (by decide); exact hs)) h2⟩) hC hS ?_
      obtain ⟨hC, hCr, hCo, hCn⟩ := hC
      have h8 := hS.post 8 (hd 8 (by decide))
      replace h8 : V 8 = (.slice la L.length lc) := h8
      replace hRL := Row.go hRL hC (Row.ne_type hRL hpb rfl) (Row.ne_row hRL hRM rfl)
      have hKb : wu9.heap[p]? = some (.cells #[(.slice la L.length lc), (.slice ma M.length mc), (.int .i64 N)] 130 (0, 0)) := by by_cases hz : S 4; exact hCn hz; exact hCo hz
      replace hpb := hKb
      exact Runs.does (r_lensl (congrArg some h8) Try.underlying61) ⟨Below.refl _ _, rfl, nofr rfl⟩
    refine ⟨fun S wu10 hC hS hd hi => ?_, ?_⟩
    · skip
      replace hC : GO w p (Value.slice ma M.length mc) wu10 ∧ (¬ S 11 → Row 1 (vInt .i64) 3 (w0.heap.size) wu10 (Value.slice ma M.length mc) M) ∧ (¬ S 4 → wu10.heap[p]? = some (.cells #[(.slice la L.length lc), (.slice ma M.length mc), (.int .i64 N)] 130 (0, 0))) ∧ (S 4 → wu10.heap[p]? = some (.cells #[(.slice la L.length lc), (.slice ma M.length mc), (.int .i64 N)] 130 (0, 0))) := hC
      refine uv_plain (C := (fun S wq => GO w p (Value.slice ma M.length mc) wq ∧ (¬ S 11 → Row 1 (vInt .i64) 3 (w0.heap.size) wq (Value.slice ma M.length mc) M) ∧ (¬ S 4 → wq.heap[p]? = some (.cells #[(.slice la L.length lc), (.slice ma M.length mc), (.int .i64 N)] 130 (0, 0))) ∧ (S 4 → wq.heap[p]? = some (.cells #[(.slice la L.length lc), (.slice ma M.length mc), (.int .i64 N)] 130 (0, 0))))) (hKP 10 S wu10) (fun w' h1 h2 => ⟨h1.1.below h2, fun hn => Row.ext (h1.2.1 (fun hs => hn (.inr hs))) h2, fun hn => blk_ext (h1.2.2.1 (fun hs => hn (.inr hs))) h2, fun hs => blk_ext (h1.2.2.2 (by rcases hs with e | hs; exact absurd e (by decide); exact hs)) h2⟩) hC hS ?_
      obtain ⟨hC, hCr, hCo, hCn⟩ := hC
      have h9 := hS.post 9 (hd 9 (by decide))
      replace h9 : V 9 = (.int .i64 ((L.length : Nat) : Int)) := h9
      replace hRL := Row.go hRL hC (Row.ne_type hRL hpb rfl) (Row.ne_row hRL hRM rfl)
      have hKb : wu10.heap[p]? = some (.cells #[(.slice la L.length lc), (.slice ma M.length mc), (.int .i64 N)] 130 (0, 0)) := by by_cases hz : S 4; exact hCn hz; exact hCo hz
      replace hpb := hKb
      refine Does.mono (d_bslice (z := (.int .i64 (0 : Int))) (sz := 1) (vs := [(0, (.int .i64 ((L.length : Nat) : Int)))]) (cs := #[(.int .i64 ((L.length : Nat) : Int))]) (show [(0, some (V 9))] = [(0, some (.int .i64 ((L.length : Nat) : Int)))] from by rw [h9]) Try.underlying33 (by kernel_rfl) rfl (by kernel_rfl)) ?_
      rintro _ w' ⟨b, rfl, hF⟩
      exact ⟨hF.2.2, ⟨b, rfl, Nat.le_trans hC.size hF.1, hF.2.1⟩, isfr rfl hF.1 (blk_lt hF.2.1)⟩
    refine ⟨fun S wu11 hC hS hd hi => ?_, ?_⟩
    · skip
      replace hC : GO w p (Value.slice ma M.length mc) wu11 ∧ (¬ S 11 → Row 1 (vInt .i64) 3 (w0.heap.size) wu11 (Value.slice ma M.length mc) M) ∧ (¬ S 4 → wu11.heap[p]? = some (.cells #[(.slice la L.length lc), (.slice ma M.length mc), (.int .i64 N)] 130 (0, 0))) ∧ (S 4 → wu11.heap[p]? = some (.cells #[(.slice la L.length lc), (.slice ma M.length mc), (.int .i64 N)] 130 (0, 0))) := hC
      obtain ⟨hC, hCr, hCo, hCn⟩ := hC
      have h4 := hS.post 4 (hd 4 (by decide))
      replace h4 : V 4 = (.slice ma M.length mc) := h4
      have h10 := hS.post 10 (hd 10 (by decide))
      obtain ⟨b1, h10, hle1, hk1⟩ := h10
      replace hRL := Row.go hRL hC (Row.ne_type hRL hpb rfl) (Row.ne_row hRL hRM rfl)
      have hKb : wu11.heap[p]? = some (.cells #[(.slice la L.length lc), (.slice ma M.length mc), (.int .i64 N)] 130 (0, 0)) := by by_cases hz : S 4; exact hCn hz; exact hCo hz
      replace hpb := hKb
      replace hRM := hCr hi
      have hrB := Row.of_new (k := 1) (V := (vInt .i64)) (l := [((L.length : Nat) : Int)]) (base := w.heap.size) hk1 hle1 rfl rfl (Nat.le_of_ble_eq_true rfl)
      refine Does.mono (d_append (V := (vInt .i64)) (k := 1) (e := 3) (bytes := 8) (z := (.int .i64 (0 : Int))) (news := [((L.length : Nat) : Int)]) (base := w0.heap.size) (by intros; rfl) (by intro x u hu; simp only [vInt, List.mem_singleton] at hu; subst hu; rfl) (congrArg some h4) (congrArg some h10) Try.underlying33 (by kernel_rfl) rfl rfl rfl hRM (Row.rd (by intros; rfl) hrB) rfl (fun h => by cases h) (by first | omega | (simp only [List.length_cons, List.length_nil, List.length_append, nums_len]; omega)) (by have := hb.size; have := hC.size; omega)) ?_
      rintro v' wz ⟨hY, hgY⟩
      obtain ⟨ra, rc, rfl, _, _⟩ := Row.slice hY
      refine ⟨⟨⟨hC.app hgY, fun hn => absurd (.inl rfl) hn, fun hn => absurd (.inr (hd 4 (by decide))) hn, fun _ => (hgY.block p (blk_lt (hCn (hd 4 (by decide)))) (fun e => Row.ne_type hRM (hCn (hd 4 (by decide))) rfl e.symm)).trans (hCn (hd 4 (by decide)))⟩, fun j hj => ?_, hgY.size⟩, ⟨ra, rc, rfl, hY⟩, nofr rfl⟩
      match j with
      | 0 =>
        exact hS.post 0 hj
      | 1 =>
        exact hS.post 1 hj
      | 2 =>
        exact hS.post 2 hj
      | 3 =>
        exact hS.post 3 hj
      | 4 =>
        exact hS.post 4 hj
      | 5 =>
        exact hS.post 5 hj
      | 6 =>
        exact hS.post 6 hj
      | 7 =>
        exact hS.post 7 hj
      | 8 =>
        exact hS.post 8 hj
      | 9 =>
        exact hS.post 9 hj
      | 10 =>
        obtain ⟨b, e1, e2, e3⟩ := hS.post 10 hj
        exact ⟨b, e1, e2, (hgY.block b (blk_lt e3) (fun e => by have := hlV b e.symm; omega)).trans e3⟩
      | 11 =>
        exact absurd hj hi
      | _ + 12 => trivial
    trivial
  · skip
    clear hf fa; intro V S w1 fa hall he1 hp hnb hf
    have hv0 := postsHold_at hp 0 rfl
    replace hv0 : V 0 = (.pointer (some ⟨p, 0, none⟩)) := hv0
    have hv1 := postsHold_at hp 1 rfl
    replace hv1 : V 1 = (.pointer (some ⟨p, 0, none⟩)) := hv1
    have hv2 := postsHold_at hp 2 rfl
    replace hv2 : V 2 = (.pointer (some ⟨p, 0, none⟩)) := hv2
    have hv3 := postsHold_at hp 3 rfl
    replace hv3 : V 3 = (.pointer (some ⟨p, 1, none⟩)) := hv3
    have hv4 := postsHold_at hp 4 rfl
    replace hv4 : V 4 = (.slice ma M.length mc) := hv4
    have hv5 := postsHold_at hp 5 rfl
    replace hv5 : V 5 = (.pointer (some ⟨p, 0, none⟩)) := hv5
    have hv6 := postsHold_at hp 6 rfl
    replace hv6 : V 6 = (.pointer (some ⟨p, 0, none⟩)) := hv6
    have hv7 := postsHold_at hp 7 rfl
    replace hv7 : V 7 = (.pointer (some ⟨p, 0, none⟩)) := hv7
    have hv8 := postsHold_at hp 8 rfl
    replace hv8 : V 8 = (.slice la L.length lc) := hv8
    have hv9 := postsHold_at hp 9 rfl
    replace hv9 : V 9 = (.int .i64 ((L.length : Nat) : Int)) := hv9
    have hv10 := postsHold_at hp 10 rfl
    obtain ⟨b1, hv10, hle1, hk1⟩ := hv10
    have hBb1 : w0.heap.size ≤ b1 := Nat.le_trans hb.size hle1
    have hv11 := postsHold_at hp 11 rfl
    obtain ⟨ra1, rc1, hv11, hr1⟩ := hv11
    rw [hv11] at hr1
    have hcrc1 := Row.caps hr1
    simp only [List.take_succ_cons, List.take_zero, insAll, ins, hv0, hv1, hv2, hv3, hv4, hv5, hv6, hv7, hv8, hv9, hv10, hv11] at hf
    obtain ⟨he1, _, _, hk2⟩ := he1
    replace hk2 := hk2 (hall 4 (show 4 < 12 by decide))
    replace hZ := Nat.le_trans hZ he1.size
    replace hKX := hKX.go he1 (by omega) (fun q hq => .inl (hmX q hq))
    replace hT1 := KT.map hT1 (fun bf cs hbf => blk_go hbf he1 (blk_ty hbf hpb rfl) (Row.ne_type hRM hbf rfl))
    replace hT2 := KT.map hT2 (fun bf cs hbf => blk_go hbf he1 (blk_ty hbf hpb rfl) (Row.ne_type hRM hbf rfl))
    replace hRL := Row.go hRL he1 (Row.ne_type hRL hpb rfl) (Row.ne_row hRL hRM rfl)
    replace hb := Below_go hb he1 hb.size hBp (fun q hq => by have := (Row.lt hRM q hq).1; omega)
    clear hp hnb hall hlV hRM hv0 hv1 hv2 hv3 hv4 hv5 hv6 hv7 hv8 hv9 hv10 hv11
    simp only [List.drop_succ_cons, List.drop_zero]
    refine sqv hf (r_nilCheck rfl) rfl rfl rfl ?_; clear hf fa; intro fa hf
    refine sqv hf (r_fa rfl Try.underlying130 (f := 1) (q := 1) rfl (by kernel_rfl) rfl) rfl rfl rfl ?_; clear hf fa; intro fa hf
    refine sqn hf (d_storeK (T := 130) (v := (.slice ra1 ((M ++ [((L.length : Nat) : Int)]).length) rc1)) (cs := #[(.slice la L.length lc), (.slice ma M.length mc), (.int .i64 N)]) (cs' := #[(.slice la L.length lc), (.slice ra1 ((M ++ [((L.length : Nat) : Int)]).length) rc1), (.int .i64 N)]) rfl rfl (by kernel_rfl) (by kernel_rfl) hk2 (by kernel_rfl) (by kernel_rfl)) rfl rfl ?_; clear hf fa; rintro fa _ w2 ⟨hk3, hg1⟩ hf
    replace hRL := Row.grown hRL hg1 (Row.ne_type hRL hk2 rfl)
    replace hr1 := Row.grown hr1 hg1 (Row.ne_type hr1 hk2 rfl)
    replace hZ := Nat.le_trans hZ hg1.size
    replace hKX := hKX.grown hg1 (by omega)
    replace hT1 := KT.map hT1 (fun bf cs hbf => blk_grown hbf hg1 (blk_ty hbf hk2 rfl))
    replace hT2 := KT.map hT2 (fun bf cs hbf => blk_grown hbf hg1 (blk_ty hbf hk2 rfl))
    replace hb := hb.trans (grown_below hg1 hb.size hBp)
    apply wpList_nil
    (try simp only [Exit.then, Exit.inBlock, ↓reduceIte, Nat.reduceEqDiff])
    refine hK2 _ _ ?_
    refine wp_seq_k (fun K3 hK3 => ?_)
    refine wp_region_lit ?_
    refine sqv hf (r_move rfl) rfl rfl rfl ?_; clear hf fa; intro fa hf
    refine sqv hf (r_nilCheck rfl) rfl rfl rfl ?_; clear hf fa; intro fa hf
    refine sqv hf (r_fa rfl Try.underlying130 (f := 1) (q := 1) rfl (by kernel_rfl) rfl) rfl rfl rfl ?_; clear hf fa; intro fa hf
    refine sqv hf (r_load (v := (.slice ra1 ((M ++ [((L.length : Nat) : Int)]).length) rc1)) rfl Try.underlying33 rfl (cell_blk hk3 rfl)) rfl rfl rfl ?_; clear hf fa; intro fa hf
    refine sqv hf (r_lensl rfl Try.underlying33) rfl rfl rfl ?_; clear hf fa; intro fa hf
    refine sqv hf (r_assign rfl) rfl rfl rfl ?_; clear hf fa; intro fa hf
    apply wpList_nil
    (try simp only [Exit.then, Exit.inBlock, ↓reduceIte, Nat.reduceEqDiff])
    refine hK3 _ _ ?_
    refine wp_ret ?_
    (try simp only [Exit.then, Exit.inBlock])
    refine ret1 hf rfl rfl ?_
    have hzL := hRL
    have hzM := hr1
    have hz1 := hk3
    exact ⟨by rw [hap], ⟨hBp, _, _, hz1, rowE hzL, rowM hzM⟩, hb, ⟨hT1, hT2, hKX, hZ⟩⟩

set_option maxHeartbeats 1000000 in
set_option maxRecDepth 100000 in
theorem keepT (p : Nat) (la ma : Option Addr) (lc mc : Nat) (L : List Ent) (M : List Int) (N : Int) (w0 w : World) (hb : Below w0.heap.size w0 w) (hpb : w.heap[p]? = some (.cells #[(.slice la L.length lc), (.slice ma M.length mc), (.int .i64 N)] 130 (0, 0))) (hRL : Row 4 vE 54 w0.heap.size w (.slice la L.length lc) L) (hRM : Row 1 (vInt .i64) 3 w0.heap.size w (.slice ma M.length mc) M) (hBp : w0.heap.size ≤ p) (hL : L.length ≤ 1000000) (hM : M.length ≤ 1000000) (hN : 0 ≤ N ∧ N ≤ 1000000) (X : Nat) (hpX : p < X) (hlX : ∀ q, (Value.slice la L.length lc).ownBlock = some q → q < X) (hmX : ∀ q, (Value.slice ma M.length mc).ownBlock = some q → q < X) (h0 : 0 < M.length) : Calls Try.prog 26 #[(.pointer (some ⟨p, 0, none⟩))] w fun e w' => e = .returned (.int .i64 0) ∧ JR w0.heap.size w' p (if M.length = 1 then [] else L) (M.take (M.length - 1)) N ∧ Below w0.heap.size w0 w' ∧ Qk X w w' := by
  have hcL := Row.caps hRL
  have hcM := Row.caps hRM
  have hpl := (Array.getElem?_eq_some_iff.1 hpb).1
  have hT1 := KT.refl 64 w
  have hT2 := KT.refl 59 w
  have hKX := KX.refl X w
  have hZ := Nat.le_refl w.heap.size
  refine sx_enter (L := [(0, (.pointer (some ⟨p, 0, none⟩)))]) Try.func26 rfl rfl rfl rfl (fun fa hf => ?_)
  refine wp_seq_k (fun K1 hK1 => ?_)
  refine wp_region_lit ?_
  refine sqv hf (r_assign rfl) rfl rfl rfl ?_; clear hf fa; intro fa hf
  apply wpList_nil
  (try simp only [Exit.then, Exit.inBlock, ↓reduceIte, Nat.reduceEqDiff])
  refine hK1 _ _ ?_
  refine wp_seq_k (fun K2 hK2 => ?_)
  refine wp_seq_k (fun K3 hK3 => ?_)
  refine wp_region_lit ?_
  refine sqv hf (r_move rfl) rfl rfl rfl ?_; clear hf fa; intro fa hf
  refine sqdt hf (d_callB (vs := [(.pointer (some ⟨p, 0, none⟩))]) rfl Try.func28 (by kernel_rfl) (by kernel_rfl) (jopen_T hpb (by omega))) rfl rfl rfl ?_; clear hf fa; rintro fa _ w1 ⟨rfl, he1⟩ hf
  replace hpb := blk_ext hpb he1
  replace hRL := Row.ext hRL he1
  replace hRM := Row.ext hRM he1
  replace hT1 := KT.map hT1 (fun bf cs hbf => blk_ext hbf he1)
  replace hT2 := KT.map hT2 (fun bf cs hbf => blk_ext hbf he1)
  replace hZ := Nat.le_trans hZ he1.size
  replace hKX := hKX.below he1
  replace hb := hb.trans (Below.mono he1 hb.size)
  refine sqv hf (Runs.veq (v' := (.bool false)) (r_not rfl) rfl) rfl rfl rfl ?_; clear hf fa; intro fa hf
  apply wpList_nil
  (try simp only [Exit.then, Exit.inBlock, ↓reduceIte, Nat.reduceEqDiff])
  refine hK3 _ _ ?_
  refine wp_cond_false (hf.ev rfl) ?_
  refine wp_skip ?_
  (try simp only [Exit.then, Exit.inBlock, ↓reduceIte, Nat.reduceEqDiff])
  refine hK2 _ _ ?_
  refine wp_seq_k (fun K4 hK4 => ?_)
  refine wp_region_unT 12 (fun wq => Below w1.heap.size w1 wq) (fun w w' => Below w.heap.size w w')
    (fun V => [(fun x _ => x = (.pointer (some ⟨p, 0, none⟩))), (fun x _ => x = (.pointer (some ⟨p, 0, none⟩))), (fun x _ => x = (.pointer (some ⟨p, 0, none⟩))), (fun x _ => x = (.pointer (some ⟨p, 1, none⟩))), (fun x _ => x = (.slice ma M.length mc)), (fun x _ => x = (.pointer (some ⟨p, 0, none⟩))), (fun x _ => x = (.pointer (some ⟨p, 0, none⟩))), (fun x _ => x = (.pointer (some ⟨p, 1, none⟩))), (fun x _ => x = (.slice ma M.length mc)), (fun x _ => x = (.int .i64 ((M.length : Nat) : Int))), (fun x _ => x = (.int .i64 (((M.length : Nat) : Int) - (1 : Int)))), (fun x _ => x = (.slice ma ((M.length - 1)) mc))])
    []
    [[], [], [1], [2], [3], [], [5], [6], [7], [8], [9], [4, 10], [], [], []]
    hf (by kernel_rfl) (by kernel_rfl) (by kernel_rfl) (fun _ => rfl) ((Below.refl _ _).drew) (fun a b h1 h2 => h1.trans (h2.mono h1.size)) (fun _ _ h => h.size) (fun V => ⟨kept_eq, kept_eq, kept_eq, kept_eq, kept_eq, kept_eq, kept_eq, kept_eq, kept_eq, kept_eq, kept_eq, kept_eq, trivial⟩) (fun _ _ _ _ _ => rfl) ?_ ?_
  · skip
    intro V
    refine ⟨fun wu0 hC hd => ?_, ?_⟩
    · clear hd
      replace hb := hb.trans (hC.mono hb.size)
      replace hpb := blk_ext hpb hC
      replace hRL := Row.ext hRL hC
      replace hRM := Row.ext hRM hC
      exact Runs.does (r_move rfl) ⟨Below.refl _ _, rfl, nofr rfl⟩
    refine ⟨fun wu1 hC hd => ?_, ?_⟩
    · clear hd
      replace hb := hb.trans (hC.mono hb.size)
      replace hpb := blk_ext hpb hC
      replace hRL := Row.ext hRL hC
      replace hRM := Row.ext hRM hC
      exact Runs.does (r_move rfl) ⟨Below.refl _ _, rfl, nofr rfl⟩
    refine ⟨fun wu2 hC hd => ?_, ?_⟩
    · obtain ⟨h1, _⟩ := hd
      skip
      replace h1 : V 1 = (.pointer (some ⟨p, 0, none⟩)) := h1
      replace hb := hb.trans (hC.mono hb.size)
      replace hpb := blk_ext hpb hC
      replace hRL := Row.ext hRL hC
      replace hRM := Row.ext hRM hC
      exact Runs.does (r_nilCheck (congrArg some h1)) ⟨Below.refl _ _, rfl, nofr rfl⟩
    refine ⟨fun wu3 hC hd => ?_, ?_⟩
    · obtain ⟨h2, _⟩ := hd
      skip
      replace h2 : V 2 = (.pointer (some ⟨p, 0, none⟩)) := h2
      replace hb := hb.trans (hC.mono hb.size)
      replace hpb := blk_ext hpb hC
      replace hRL := Row.ext hRL hC
      replace hRM := Row.ext hRM hC
      exact Runs.does (r_fa (congrArg some h2) Try.underlying130 (f := 1) (q := 1) rfl (by kernel_rfl) rfl) ⟨Below.refl _ _, rfl, nofr rfl⟩
    refine ⟨fun wu4 hC hd => ?_, ?_⟩
    · obtain ⟨h3, _⟩ := hd
      skip
      replace h3 : V 3 = (.pointer (some ⟨p, 1, none⟩)) := h3
      replace hb := hb.trans (hC.mono hb.size)
      replace hpb := blk_ext hpb hC
      replace hRL := Row.ext hRL hC
      replace hRM := Row.ext hRM hC
      exact Runs.does (r_load (v := (.slice ma M.length mc)) (congrArg some h3) Try.underlying33 rfl (cell_blk hpb rfl)) ⟨Below.refl _ _, rfl, nofr rfl⟩
    refine ⟨fun wu5 hC hd => ?_, ?_⟩
    · clear hd
      replace hb := hb.trans (hC.mono hb.size)
      replace hpb := blk_ext hpb hC
      replace hRL := Row.ext hRL hC
      replace hRM := Row.ext hRM hC
      exact Runs.does (r_move rfl) ⟨Below.refl _ _, rfl, nofr rfl⟩
    refine ⟨fun wu6 hC hd => ?_, ?_⟩
    · obtain ⟨h5, _⟩ := hd
      skip
      replace h5 : V 5 = (.pointer (some ⟨p, 0, none⟩)) := h5
      replace hb := hb.trans (hC.mono hb.size)
      replace hpb := blk_ext hpb hC
      replace hRL := Row.ext hRL hC
      replace hRM := Row.ext hRM hC
      exact Runs.does (r_nilCheck (congrArg some h5)) ⟨Below.refl _ _, rfl, nofr rfl⟩
    refine ⟨fun wu7 hC hd => ?_, ?_⟩
    · obtain ⟨h6, _⟩ := hd
      skip
      replace h6 : V 6 = (.pointer (some ⟨p, 0, none⟩)) := h6
      replace hb := hb.trans (hC.mono hb.size)
      replace hpb := blk_ext hpb hC
      replace hRL := Row.ext hRL hC
      replace hRM := Row.ext hRM hC
      exact Runs.does (r_fa (congrArg some h6) Try.underlying130 (f := 1) (q := 1) rfl (by kernel_rfl) rfl) ⟨Below.refl _ _, rfl, nofr rfl⟩
    refine ⟨fun wu8 hC hd => ?_, ?_⟩
    · obtain ⟨h7, _⟩ := hd
      skip
      replace h7 : V 7 = (.pointer (some ⟨p, 1, none⟩)) := h7
      replace hb := hb.trans (hC.mono hb.size)
      replace hpb := blk_ext hpb hC
      replace hRL := Row.ext hRL hC
      replace hRM := Row.ext hRM hC
      exact Runs.does (r_load (v := (.slice ma M.length mc)) (congrArg some h7) Try.underlying33 rfl (cell_blk hpb rfl)) ⟨Below.refl _ _, rfl, nofr rfl⟩
    refine ⟨fun wu9 hC hd => ?_, ?_⟩
    · obtain ⟨h8, _⟩ := hd
      skip
      replace h8 : V 8 = (.slice ma M.length mc) := h8
      replace hb := hb.trans (hC.mono hb.size)
      replace hpb := blk_ext hpb hC
      replace hRL := Row.ext hRL hC
      replace hRM := Row.ext hRM hC
      exact Runs.does (r_lensl (congrArg some h8) Try.underlying33) ⟨Below.refl _ _, rfl, nofr rfl⟩
    refine ⟨fun wu10 hC hd => ?_, ?_⟩
    · obtain ⟨h9, _⟩ := hd
      skip
      replace h9 : V 9 = (.int .i64 ((M.length : Nat) : Int)) := h9
      replace hb := hb.trans (hC.mono hb.size)
      replace hpb := blk_ext hpb hC
      replace hRL := Row.ext hRL hC
      replace hRM := Row.ext hRM hC
      exact Runs.does (r_sub (C := (((M.length : Nat) : Int) - (1 : Int))) (congrArg some h9) rfl (by rw [IntKind.wrap_i64]; omega)) ⟨Below.refl _ _, rfl, nofr rfl⟩
    refine ⟨fun wu11 hC hd => ?_, ?_⟩
    · obtain ⟨h4, h10, _⟩ := hd
      skip
      skip
      replace h4 : V 4 = (.slice ma M.length mc) := h4
      replace h10 : V 10 = (.int .i64 (((M.length : Nat) : Int) - (1 : Int))) := h10
      replace hb := hb.trans (hC.mono hb.size)
      replace hpb := blk_ext hpb hC
      replace hRL := Row.ext hRL hC
      replace hRM := Row.ext hRM hC
      exact Runs.does (r_slto (m := (M.length - 1)) (congrArg some h4) (congrArg some h10) Try.underlying33 (by kernel_rfl) (by omega) (by omega)) ⟨Below.refl _ _, rfl, nofr rfl⟩
    trivial
  · skip
    clear hf fa; intro V w2 fa he2 hp hnb hf
    have hv0 : V 0 = (.pointer (some ⟨p, 0, none⟩)) := postsHold_at hp 0 rfl
    have hv1 : V 1 = (.pointer (some ⟨p, 0, none⟩)) := postsHold_at hp 1 rfl
    have hv2 : V 2 = (.pointer (some ⟨p, 0, none⟩)) := postsHold_at hp 2 rfl
    have hv3 : V 3 = (.pointer (some ⟨p, 1, none⟩)) := postsHold_at hp 3 rfl
    have hv4 : V 4 = (.slice ma M.length mc) := postsHold_at hp 4 rfl
    have hv5 : V 5 = (.pointer (some ⟨p, 0, none⟩)) := postsHold_at hp 5 rfl
    have hv6 : V 6 = (.pointer (some ⟨p, 0, none⟩)) := postsHold_at hp 6 rfl
    have hv7 : V 7 = (.pointer (some ⟨p, 1, none⟩)) := postsHold_at hp 7 rfl
    have hv8 : V 8 = (.slice ma M.length mc) := postsHold_at hp 8 rfl
    have hv9 : V 9 = (.int .i64 ((M.length : Nat) : Int)) := postsHold_at hp 9 rfl
    have hv10 : V 10 = (.int .i64 (((M.length : Nat) : Int) - (1 : Int))) := postsHold_at hp 10 rfl
    have hv11 : V 11 = (.slice ma ((M.length - 1)) mc) := postsHold_at hp 11 rfl
    simp only [List.take_succ_cons, List.take_zero, insAll, ins, hv0, hv1, hv2, hv3, hv4, hv5, hv6, hv7, hv8, hv9, hv10, hv11] at hf
    clear hp hnb hv0 hv1 hv2 hv3 hv4 hv5 hv6 hv7 hv8 hv9 hv10 hv11
    replace hpb := blk_ext hpb he2
    replace hRL := Row.ext hRL he2
    replace hRM := Row.ext hRM he2
    replace hT1 := KT.map hT1 (fun bf cs hbf => blk_ext hbf he2)
    replace hT2 := KT.map hT2 (fun bf cs hbf => blk_ext hbf he2)
    replace hZ := Nat.le_trans hZ he2.size
    replace hKX := hKX.below he2
    replace hb := hb.trans (Below.mono he2 hb.size)
    have hr1 := Row.cutA (m := (M.length - 1)) (by intros; rfl) hRM (Row.caps hRM).1 (by (try simp only [Sl.list_length]); omega)
    simp only [List.drop_succ_cons, List.drop_zero]
    refine sqv hf (r_nilCheck rfl) rfl rfl rfl ?_; clear hf fa; intro fa hf
    refine sqv hf (r_fa rfl Try.underlying130 (f := 1) (q := 1) rfl (by kernel_rfl) rfl) rfl rfl rfl ?_; clear hf fa; intro fa hf
    refine sqn hf (d_storeK (T := 130) (v := (.slice ma ((M.length - 1)) mc)) (cs := #[(.slice la L.length lc), (.slice ma M.length mc), (.int .i64 N)]) (cs' := #[(.slice la L.length lc), (.slice ma ((M.length - 1)) mc), (.int .i64 N)]) rfl rfl (by kernel_rfl) (by kernel_rfl) hpb (by kernel_rfl) (by kernel_rfl)) rfl rfl ?_; clear hf fa; rintro fa _ w3 ⟨hk1, hg1⟩ hf
    replace hRL := Row.grown hRL hg1 (Row.ne_type hRL hpb rfl)
    replace hr1 := Row.grown hr1 hg1 (Row.ne_type hr1 hpb rfl)
    replace hZ := Nat.le_trans hZ hg1.size
    replace hKX := hKX.grown hg1 (by omega)
    replace hT1 := KT.map hT1 (fun bf cs hbf => blk_grown hbf hg1 (blk_ty hbf hpb rfl))
    replace hT2 := KT.map hT2 (fun bf cs hbf => blk_grown hbf hg1 (blk_ty hbf hpb rfl))
    replace hb := hb.trans (grown_below hg1 hb.size hBp)
    apply wpList_nil
    (try simp only [Exit.then, Exit.inBlock, ↓reduceIte, Nat.reduceEqDiff])
    refine hK4 _ _ ?_
    refine wp_seq_k (fun K5 hK5 => ?_)
    refine wp_seq_k (fun K6 hK6 => ?_)
    refine wp_region_lit ?_
    refine sqv hf (r_move rfl) rfl rfl rfl ?_; clear hf fa; intro fa hf
    refine sqdt hf (d_callB (vs := [(.pointer (some ⟨p, 0, none⟩))]) rfl Try.func28 (by kernel_rfl) (by kernel_rfl) (jopen_D hk1)) rfl rfl rfl ?_; clear hf fa; rintro fa _ w4 ⟨rfl, he3⟩ hf
    replace hk1 := blk_ext hk1 he3
    replace hRL := Row.ext hRL he3
    replace hr1 := Row.ext hr1 he3
    replace hT1 := KT.map hT1 (fun bf cs hbf => blk_ext hbf he3)
    replace hT2 := KT.map hT2 (fun bf cs hbf => blk_ext hbf he3)
    replace hZ := Nat.le_trans hZ he3.size
    replace hKX := hKX.below he3
    replace hb := hb.trans (Below.mono he3 hb.size)
    refine sqv hf (r_not rfl) rfl rfl rfl ?_; clear hf fa; intro fa hf
    apply wpList_nil
    (try simp only [Exit.then, Exit.inBlock, ↓reduceIte, Nat.reduceEqDiff])
    refine hK6 _ _ ?_
    refine wp_cond_split (t := (!(decide ((((M.length - 1) : Nat) : Int) > 0)))) (hf.ev rfl) (fun hqt22_1 => ?_) (fun hqt22_1 => ?_)
    · have hqt22_1b := hqt22_1
      try simp only [decide_eq_true_eq, Bool.and_eq_true, Bool.or_eq_true, Bool.not_eq_true', decide_eq_false_iff_not, ne_eq, Bool.not_eq_true] at hqt22_1
      refine wp_region_lit ?_
      refine sqv hf (r_move rfl) rfl rfl rfl ?_; clear hf fa; intro fa hf
      refine sqv hf (r_nilCheck rfl) rfl rfl rfl ?_; clear hf fa; intro fa hf
      refine sqv hf (r_fa rfl Try.underlying130 (f := 0) (q := 0) rfl (by kernel_rfl) rfl) rfl rfl rfl ?_; clear hf fa; intro fa hf
      refine sqn hf (d_storeK (T := 130) (v := (.slice none 0 0)) (cs := #[(.slice la L.length lc), (.slice ma ((M.length - 1)) mc), (.int .i64 N)]) (cs' := #[(.slice none 0 0), (.slice ma ((M.length - 1)) mc), (.int .i64 N)]) rfl rfl (by kernel_rfl) (by kernel_rfl) hk1 (by kernel_rfl) (by kernel_rfl)) rfl rfl ?_; clear hf fa; rintro fa _ w5 ⟨hk2, hg2⟩ hf
      replace hRL := Row.grown hRL hg2 (Row.ne_type hRL hk1 rfl)
      replace hr1 := Row.grown hr1 hg2 (Row.ne_type hr1 hk1 rfl)
      replace hZ := Nat.le_trans hZ hg2.size
      replace hKX := hKX.grown hg2 (by omega)
      replace hT1 := KT.map hT1 (fun bf cs hbf => blk_grown hbf hg2 (blk_ty hbf hk1 rfl))
      replace hT2 := KT.map hT2 (fun bf cs hbf => blk_grown hbf hg2 (blk_ty hbf hk1 rfl))
      replace hb := hb.trans (grown_below hg2 hb.size hBp)
      apply wpList_nil
      (try simp only [Exit.then, Exit.inBlock, ↓reduceIte, Nat.reduceEqDiff])
      refine hK5 _ _ ?_
      refine wp_seq_k (fun K7 hK7 => ?_)
      refine wp_region_lit ?_
      refine sqv hf (r_assign rfl) rfl rfl rfl ?_; clear hf fa; intro fa hf
      apply wpList_nil
      (try simp only [Exit.then, Exit.inBlock, ↓reduceIte, Nat.reduceEqDiff])
      refine hK7 _ _ ?_
      refine wp_ret ?_
      (try simp only [Exit.then, Exit.inBlock])
      refine ret1 hf rfl rfl ?_
      have hzM := hr1
      have h1 : M.length = 1 := by have h := hqt22_1; first | omega | (simp at h; omega)
      rw [if_pos h1]
      have hz1 := hk2
      exact ⟨rfl, ⟨hBp, _, _, hz1, World.ownsRow_nil _ _ _ _, rowM hzM⟩, hb, ⟨hT1, hT2, hKX, hZ⟩⟩
    · have hqt22_1b := hqt22_1
      replace hqt22_1 := Bool.eq_false_iff.1 hqt22_1
      try simp only [ne_eq, decide_eq_true_eq, Bool.and_eq_true, Bool.or_eq_true, Bool.not_eq_true', decide_eq_false_iff_not] at hqt22_1
      refine wp_skip ?_
      (try simp only [Exit.then, Exit.inBlock, ↓reduceIte, Nat.reduceEqDiff])
      refine hK5 _ _ ?_
      refine wp_seq_k (fun K8 hK8 => ?_)
      refine wp_region_lit ?_
      refine sqv hf (r_assign rfl) rfl rfl rfl ?_; clear hf fa; intro fa hf
      apply wpList_nil
      (try simp only [Exit.then, Exit.inBlock, ↓reduceIte, Nat.reduceEqDiff])
      refine hK8 _ _ ?_
      refine wp_ret ?_
      (try simp only [Exit.then, Exit.inBlock])
      refine ret1 hf rfl rfl ?_
      have hzM := hr1
      have h1 : ¬ M.length = 1 := by have h := hqt22_1; first | omega | (simp at h; omega)
      rw [if_neg h1]
      have hzL := hRL
      have hz1 := hk1
      exact ⟨rfl, ⟨hBp, _, _, hz1, rowE hzL, rowM hzM⟩, hb, ⟨hT1, hT2, hKX, hZ⟩⟩

set_option maxHeartbeats 1000000 in
set_option maxRecDepth 100000 in
theorem backT (p : Nat) (la ma : Option Addr) (lc mc : Nat) (L : List Ent) (M : List Int) (N : Int) (w0 w : World) (hb : Below w0.heap.size w0 w) (hpb : w.heap[p]? = some (.cells #[(.slice la L.length lc), (.slice ma M.length mc), (.int .i64 N)] 130 (0, 0))) (hRL : Row 4 vE 54 w0.heap.size w (.slice la L.length lc) L) (hRM : Row 1 (vInt .i64) 3 w0.heap.size w (.slice ma M.length mc) M) (hBp : w0.heap.size ≤ p) (hL : L.length ≤ 1000000) (hM : M.length ≤ 1000000) (hN : 0 ≤ N ∧ N ≤ 1000000) (X : Nat) (hpX : p < X) (hlX : ∀ q, (Value.slice la L.length lc).ownBlock = some q → q < X) (hmX : ∀ q, (Value.slice ma M.length mc).ownBlock = some q → q < X) (h0 : 0 < M.length) (qn : Nat) (hq : M[M.length - 1]? = some ((qn : Nat) : Int)) (hqL : qn ≤ L.length) : Calls Try.prog 23 #[(.pointer (some ⟨p, 0, none⟩))] w fun e w' => ∃ v, e = .returned v ∧ ∃ oa oc, v = .tuple #[.slice oa (outE L (L.length - qn)).length oc, .int .i64 0] ∧ Row 4 vE 54 w.heap.size w' (.slice oa (outE L (L.length - qn)).length oc) (outE L (L.length - qn)) ∧ JR w0.heap.size w' p (L.take qn) (M.take (M.length - 1)) N ∧ Below w0.heap.size w0 w' ∧ Qk X w w' := by
  obtain ⟨mb_, rfl, hbmb, hlmb⟩ := Row.some hRM (by omega)
  have hcL := Row.caps hRL
  have hcM := Row.caps hRM
  have hpl := (Array.getElem?_eq_some_iff.1 hpb).1
  have hT1 := KT.refl 64 w
  have hT2 := KT.refl 59 w
  have hKX := KX.refl X w
  have hZ := Nat.le_refl w.heap.size
  have hltE : ∀ q, (Value.slice la L.length lc).ownBlock = some q → q < w.heap.size := fun q hq => (Row.lt hRL q hq).2
  have ho0 : (outE L 0).length = 0 := by rw [outE_zero]; rfl
  refine sx_enter (L := [(0, (.pointer (some ⟨p, 0, none⟩)))]) Try.func23 rfl rfl rfl rfl (fun fa hf => ?_)
  refine wp_seq_k (fun K1 hK1 => ?_)
  refine wp_region_lit ?_
  refine sqv hf (r_assign rfl) rfl rfl rfl ?_; clear hf fa; intro fa hf
  refine sqv hf (r_assign rfl) rfl rfl rfl ?_; clear hf fa; intro fa hf
  apply wpList_nil
  (try simp only [Exit.then, Exit.inBlock, ↓reduceIte, Nat.reduceEqDiff])
  refine hK1 _ _ ?_
  refine wp_seq_k (fun K2 hK2 => ?_)
  refine wp_seq_k (fun K3 hK3 => ?_)
  refine wp_region_lit ?_
  refine sqv hf (r_move rfl) rfl rfl rfl ?_; clear hf fa; intro fa hf
  refine sqdt hf (d_callB (vs := [(.pointer (some ⟨p, 0, none⟩))]) rfl Try.func28 (by kernel_rfl) (by kernel_rfl) (jopen_T hpb (by omega))) rfl rfl rfl ?_; clear hf fa; rintro fa _ w1 ⟨rfl, he1⟩ hf
  replace hpb := blk_ext hpb he1
  replace hRL := Row.ext hRL he1
  replace hRM := Row.ext hRM he1
  replace hT1 := KT.map hT1 (fun bf cs hbf => blk_ext hbf he1)
  replace hT2 := KT.map hT2 (fun bf cs hbf => blk_ext hbf he1)
  replace hZ := Nat.le_trans hZ he1.size
  replace hKX := hKX.below he1
  replace hb := hb.trans (Below.mono he1 hb.size)
  refine sqv hf (Runs.veq (v' := (.bool false)) (r_not rfl) rfl) rfl rfl rfl ?_; clear hf fa; intro fa hf
  apply wpList_nil
  (try simp only [Exit.then, Exit.inBlock, ↓reduceIte, Nat.reduceEqDiff])
  refine hK3 _ _ ?_
  refine wp_cond_false (hf.ev rfl) ?_
  refine wp_skip ?_
  (try simp only [Exit.then, Exit.inBlock, ↓reduceIte, Nat.reduceEqDiff])
  refine hK2 _ _ ?_
  refine wp_seq_k (fun K4 hK4 => ?_)
  skip
  have hy1 : (M)[(M.length - 1)]? = some ((qn : Nat) : Int) := hq
  have hel1 := RdS.at (Row.rd (by intros; rfl) hRM) hy1
  obtain ⟨_, _, hab, hlr1, hel1⟩ := hel1
  cases hab
  refine wp_region_unT 12 (fun wq => Below w1.heap.size w1 wq) (fun w w' => Below w.heap.size w w')
    (fun V => [(fun x _ => x = (.pointer (some ⟨p, 0, none⟩))), (fun x _ => x = (.pointer (some ⟨p, 0, none⟩))), (fun x _ => x = (.pointer (some ⟨p, 1, none⟩))), (fun x _ => x = (.slice (some ⟨mb_, 0, none⟩) M.length mc)), (fun x _ => x = (.pointer (some ⟨p, 0, none⟩))), (fun x _ => x = (.pointer (some ⟨p, 0, none⟩))), (fun x _ => x = (.pointer (some ⟨p, 1, none⟩))), (fun x _ => x = (.slice (some ⟨mb_, 0, none⟩) M.length mc)), (fun x _ => x = (.int .i64 ((M.length : Nat) : Int))), (fun x _ => x = (.int .i64 (((M.length : Nat) : Int) - (1 : Int)))), (fun x _ => x = (.pointer (some ⟨mb_, (0 + (M.length - 1) * 1), none⟩))), (fun x _ => x = (.int .i64 ((qn : Nat) : Int)))])
    []
    [[], [0], [1], [2], [], [4], [5], [6], [7], [8], [3, 9], [10], []]
    hf (by kernel_rfl) (by kernel_rfl) (by kernel_rfl) (fun _ => rfl) ((Below.refl _ _).drew) (fun a b h1 h2 => h1.trans (h2.mono h1.size)) (fun _ _ h => h.size) (fun V => ⟨kept_eq, kept_eq, kept_eq, kept_eq, kept_eq, kept_eq, kept_eq, kept_eq, kept_eq, kept_eq, kept_eq, kept_eq, trivial⟩) (fun _ _ _ _ _ => rfl) ?_ ?_
  · skip
    intro V
    refine ⟨fun wu0 hC hd => ?_, ?_⟩
    · clear hd
      replace hb := hb.trans (hC.mono hb.size)
      replace hpb := blk_ext hpb hC
      replace hRL := Row.ext hRL hC
      replace hRM := Row.ext hRM hC
      exact Runs.does (r_move rfl) ⟨Below.refl _ _, rfl, nofr rfl⟩
    refine ⟨fun wu1 hC hd => ?_, ?_⟩
    · obtain ⟨h0, _⟩ := hd
      skip
      replace h0 : V 0 = (.pointer (some ⟨p, 0, none⟩)) := h0
      replace hb := hb.trans (hC.mono hb.size)
      replace hpb := blk_ext hpb hC
      replace hRL := Row.ext hRL hC
      replace hRM := Row.ext hRM hC
      exact Runs.does (r_nilCheck (congrArg some h0)) ⟨Below.refl _ _, rfl, nofr rfl⟩
    refine ⟨fun wu2 hC hd => ?_, ?_⟩
    · obtain ⟨h1, _⟩ := hd
      skip
      replace h1 : V 1 = (.pointer (some ⟨p, 0, none⟩)) := h1
      replace hb := hb.trans (hC.mono hb.size)
      replace hpb := blk_ext hpb hC
      replace hRL := Row.ext hRL hC
      replace hRM := Row.ext hRM hC
      exact Runs.does (r_fa (congrArg some h1) Try.underlying130 (f := 1) (q := 1) rfl (by kernel_rfl) rfl) ⟨Below.refl _ _, rfl, nofr rfl⟩
    refine ⟨fun wu3 hC hd => ?_, ?_⟩
    · obtain ⟨h2, _⟩ := hd
      skip
      replace h2 : V 2 = (.pointer (some ⟨p, 1, none⟩)) := h2
      replace hb := hb.trans (hC.mono hb.size)
      replace hpb := blk_ext hpb hC
      replace hRL := Row.ext hRL hC
      replace hRM := Row.ext hRM hC
      exact Runs.does (r_load (v := (.slice (some ⟨mb_, 0, none⟩) M.length mc)) (congrArg some h2) Try.underlying33 rfl (cell_blk hpb rfl)) ⟨Below.refl _ _, rfl, nofr rfl⟩
    refine ⟨fun wu4 hC hd => ?_, ?_⟩
    · clear hd
      replace hb := hb.trans (hC.mono hb.size)
      replace hpb := blk_ext hpb hC
      replace hRL := Row.ext hRL hC
      replace hRM := Row.ext hRM hC
      exact Runs.does (r_move rfl) ⟨Below.refl _ _, rfl, nofr rfl⟩
    refine ⟨fun wu5 hC hd => ?_, ?_⟩
    · obtain ⟨h4, _⟩ := hd
      skip
      replace h4 : V 4 = (.pointer (some ⟨p, 0, none⟩)) := h4
      replace hb := hb.trans (hC.mono hb.size)
      replace hpb := blk_ext hpb hC
      replace hRL := Row.ext hRL hC
      replace hRM := Row.ext hRM hC
      exact Runs.does (r_nilCheck (congrArg some h4)) ⟨Below.refl _ _, rfl, nofr rfl⟩
    refine ⟨fun wu6 hC hd => ?_, ?_⟩
    · obtain ⟨h5, _⟩ := hd
      skip
      replace h5 : V 5 = (.pointer (some ⟨p, 0, none⟩)) := h5
      replace hb := hb.trans (hC.mono hb.size)
      replace hpb := blk_ext hpb hC
      replace hRL := Row.ext hRL hC
      replace hRM := Row.ext hRM hC
      exact Runs.does (r_fa (congrArg some h5) Try.underlying130 (f := 1) (q := 1) rfl (by kernel_rfl) rfl) ⟨Below.refl _ _, rfl, nofr rfl⟩
    refine ⟨fun wu7 hC hd => ?_, ?_⟩
    · obtain ⟨h6, _⟩ := hd
      skip
      replace h6 : V 6 = (.pointer (some ⟨p, 1, none⟩)) := h6
      replace hb := hb.trans (hC.mono hb.size)
      replace hpb := blk_ext hpb hC
      replace hRL := Row.ext hRL hC
      replace hRM := Row.ext hRM hC
      exact Runs.does (r_load (v := (.slice (some ⟨mb_, 0, none⟩) M.length mc)) (congrArg some h6) Try.underlying33 rfl (cell_blk hpb rfl)) ⟨Below.refl _ _, rfl, nofr rfl⟩
    refine ⟨fun wu8 hC hd => ?_, ?_⟩
    · obtain ⟨h7, _⟩ := hd
      skip
      replace h7 : V 7 = (.slice (some ⟨mb_, 0, none⟩) M.length mc) := h7
      replace hb := hb.trans (hC.mono hb.size)
      replace hpb := blk_ext hpb hC
      replace hRL := Row.ext hRL hC
      replace hRM := Row.ext hRM hC
      exact Runs.does (r_lensl (congrArg some h7) Try.underlying33) ⟨Below.refl _ _, rfl, nofr rfl⟩
    refine ⟨fun wu9 hC hd => ?_, ?_⟩
    · obtain ⟨h8, _⟩ := hd
      skip
      replace h8 : V 8 = (.int .i64 ((M.length : Nat) : Int)) := h8
      replace hb := hb.trans (hC.mono hb.size)
      replace hpb := blk_ext hpb hC
      replace hRL := Row.ext hRL hC
      replace hRM := Row.ext hRM hC
      exact Runs.does (r_sub (C := (((M.length : Nat) : Int) - (1 : Int))) (congrArg some h8) rfl (by rw [IntKind.wrap_i64]; omega)) ⟨Below.refl _ _, rfl, nofr rfl⟩
    refine ⟨fun wu10 hC hd => ?_, ?_⟩
    · obtain ⟨h3, h9, _⟩ := hd
      skip
      skip
      replace h3 : V 3 = (.slice (some ⟨mb_, 0, none⟩) M.length mc) := h3
      replace h9 : V 9 = (.int .i64 (((M.length : Nat) : Int) - (1 : Int))) := h9
      replace hb := hb.trans (hC.mono hb.size)
      replace hpb := blk_ext hpb hC
      replace hRL := Row.ext hRL hC
      replace hRM := Row.ext hRM hC
      exact Runs.does (r_ixa (sz := 1) (j := (M.length - 1)) (congrArg some h3) (congrArg some h9) Try.underlying33 (by kernel_rfl) (by omega) (by omega) rfl) ⟨Below.refl _ _, rfl, nofr rfl⟩
    refine ⟨fun wu11 hC hd => ?_, ?_⟩
    · obtain ⟨h10, _⟩ := hd
      skip
      replace h10 : V 10 = (.pointer (some ⟨mb_, (0 + (M.length - 1) * 1), none⟩)) := h10
      replace hb := hb.trans (hC.mono hb.size)
      replace hpb := blk_ext hpb hC
      replace hRL := Row.ext hRL hC
      replace hRM := Row.ext hRM hC
      exact Runs.does (r_load (v := (.int .i64 ((qn : Nat) : Int))) (congrArg some h10) Try.underlying3 rfl (cellsAt_cell (cellsAt_below hel1 hC hlr1) (i := 0) rfl rfl)) ⟨Below.refl _ _, rfl, nofr rfl⟩
    trivial
  · skip
    clear hf fa; intro V w2 fa he2 hp hnb hf
    have hv0 : V 0 = (.pointer (some ⟨p, 0, none⟩)) := postsHold_at hp 0 rfl
    have hv1 : V 1 = (.pointer (some ⟨p, 0, none⟩)) := postsHold_at hp 1 rfl
    have hv2 : V 2 = (.pointer (some ⟨p, 1, none⟩)) := postsHold_at hp 2 rfl
    have hv3 : V 3 = (.slice (some ⟨mb_, 0, none⟩) M.length mc) := postsHold_at hp 3 rfl
    have hv4 : V 4 = (.pointer (some ⟨p, 0, none⟩)) := postsHold_at hp 4 rfl
    have hv5 : V 5 = (.pointer (some ⟨p, 0, none⟩)) := postsHold_at hp 5 rfl
    have hv6 : V 6 = (.pointer (some ⟨p, 1, none⟩)) := postsHold_at hp 6 rfl
    have hv7 : V 7 = (.slice (some ⟨mb_, 0, none⟩) M.length mc) := postsHold_at hp 7 rfl
    have hv8 : V 8 = (.int .i64 ((M.length : Nat) : Int)) := postsHold_at hp 8 rfl
    have hv9 : V 9 = (.int .i64 (((M.length : Nat) : Int) - (1 : Int))) := postsHold_at hp 9 rfl
    have hv10 : V 10 = (.pointer (some ⟨mb_, (0 + (M.length - 1) * 1), none⟩)) := postsHold_at hp 10 rfl
    have hv11 : V 11 = (.int .i64 ((qn : Nat) : Int)) := postsHold_at hp 11 rfl
    simp only [List.take_succ_cons, List.take_zero, insAll, ins, hv0, hv1, hv2, hv3, hv4, hv5, hv6, hv7, hv8, hv9, hv10, hv11] at hf
    clear hp hnb hv0 hv1 hv2 hv3 hv4 hv5 hv6 hv7 hv8 hv9 hv10 hv11
    replace hpb := blk_ext hpb he2
    replace hRL := Row.ext hRL he2
    replace hRM := Row.ext hRM he2
    replace hT1 := KT.map hT1 (fun bf cs hbf => blk_ext hbf he2)
    replace hT2 := KT.map hT2 (fun bf cs hbf => blk_ext hbf he2)
    replace hZ := Nat.le_trans hZ he2.size
    replace hKX := hKX.below he2
    replace hb := hb.trans (Below.mono he2 hb.size)
    simp only [List.drop_succ_cons, List.drop_zero]
    refine sqv hf (r_assign rfl) rfl rfl rfl ?_; clear hf fa; intro fa hf
    apply wpList_nil
    (try simp only [Exit.then, Exit.inBlock, ↓reduceIte, Nat.reduceEqDiff])
    refine hK4 _ _ ?_
    refine wp_seq_k (fun K5 hK5 => ?_)
    refine wp_region_unT 12 (fun wq => Below w2.heap.size w2 wq) (fun w w' => Below w.heap.size w w')
      (fun V => [(fun x _ => x = (.pointer (some ⟨p, 0, none⟩))), (fun x _ => x = (.pointer (some ⟨p, 0, none⟩))), (fun x _ => x = (.pointer (some ⟨p, 0, none⟩))), (fun x _ => x = (.pointer (some ⟨p, 1, none⟩))), (fun x _ => x = (.slice (some ⟨mb_, 0, none⟩) M.length mc)), (fun x _ => x = (.pointer (some ⟨p, 0, none⟩))), (fun x _ => x = (.pointer (some ⟨p, 0, none⟩))), (fun x _ => x = (.pointer (some ⟨p, 1, none⟩))), (fun x _ => x = (.slice (some ⟨mb_, 0, none⟩) M.length mc)), (fun x _ => x = (.int .i64 ((M.length : Nat) : Int))), (fun x _ => x = (.int .i64 (((M.length : Nat) : Int) - (1 : Int)))), (fun x _ => x = (.slice (some ⟨mb_, 0, none⟩) ((M.length - 1)) mc))])
      []
      [[], [], [1], [2], [3], [], [5], [6], [7], [8], [9], [4, 10], [], [], []]
      hf (by kernel_rfl) (by kernel_rfl) (by kernel_rfl) (fun _ => rfl) ((Below.refl _ _).drew) (fun a b h1 h2 => h1.trans (h2.mono h1.size)) (fun _ _ h => h.size) (fun V => ⟨kept_eq, kept_eq, kept_eq, kept_eq, kept_eq, kept_eq, kept_eq, kept_eq, kept_eq, kept_eq, kept_eq, kept_eq, trivial⟩) (fun _ _ _ _ _ => rfl) ?_ ?_
    · skip
      intro V
      refine ⟨fun wu0 hC hd => ?_, ?_⟩
      · clear hd
        replace hb := hb.trans (hC.mono hb.size)
        replace hpb := blk_ext hpb hC
        replace hRL := Row.ext hRL hC
        replace hRM := Row.ext hRM hC
        exact Runs.does (r_move rfl) ⟨Below.refl _ _, rfl, nofr rfl⟩
      refine ⟨fun wu1 hC hd => ?_, ?_⟩
      · clear hd
        replace hb := hb.trans (hC.mono hb.size)
        replace hpb := blk_ext hpb hC
        replace hRL := Row.ext hRL hC
        replace hRM := Row.ext hRM hC
        exact Runs.does (r_move rfl) ⟨Below.refl _ _, rfl, nofr rfl⟩
      refine ⟨fun wu2 hC hd => ?_, ?_⟩
      · obtain ⟨h1, _⟩ := hd
        skip
        replace h1 : V 1 = (.pointer (some ⟨p, 0, none⟩)) := h1
        replace hb := hb.trans (hC.mono hb.size)
        replace hpb := blk_ext hpb hC
        replace hRL := Row.ext hRL hC
        replace hRM := Row.ext hRM hC
        exact Runs.does (r_nilCheck (congrArg some h1)) ⟨Below.refl _ _, rfl, nofr rfl⟩
      refine ⟨fun wu3 hC hd => ?_, ?_⟩
      · obtain ⟨h2, _⟩ := hd
        skip
        replace h2 : V 2 = (.pointer (some ⟨p, 0, none⟩)) := h2
        replace hb := hb.trans (hC.mono hb.size)
        replace hpb := blk_ext hpb hC
        replace hRL := Row.ext hRL hC
        replace hRM := Row.ext hRM hC
        exact Runs.does (r_fa (congrArg some h2) Try.underlying130 (f := 1) (q := 1) rfl (by kernel_rfl) rfl) ⟨Below.refl _ _, rfl, nofr rfl⟩
      refine ⟨fun wu4 hC hd => ?_, ?_⟩
      · obtain ⟨h3, _⟩ := hd
        skip
        replace h3 : V 3 = (.pointer (some ⟨p, 1, none⟩)) := h3
        replace hb := hb.trans (hC.mono hb.size)
        replace hpb := blk_ext hpb hC
        replace hRL := Row.ext hRL hC
        replace hRM := Row.ext hRM hC
        exact Runs.does (r_load (v := (.slice (some ⟨mb_, 0, none⟩) M.length mc)) (congrArg some h3) Try.underlying33 rfl (cell_blk hpb rfl)) ⟨Below.refl _ _, rfl, nofr rfl⟩
      refine ⟨fun wu5 hC hd => ?_, ?_⟩
      · clear hd
        replace hb := hb.trans (hC.mono hb.size)
        replace hpb := blk_ext hpb hC
        replace hRL := Row.ext hRL hC
        replace hRM := Row.ext hRM hC
        exact Runs.does (r_move rfl) ⟨Below.refl _ _, rfl, nofr rfl⟩
      refine ⟨fun wu6 hC hd => ?_, ?_⟩
      · obtain ⟨h5, _⟩ := hd
        skip
        replace h5 : V 5 = (.pointer (some ⟨p, 0, none⟩)) := h5
        replace hb := hb.trans (hC.mono hb.size)
        replace hpb := blk_ext hpb hC
        replace hRL := Row.ext hRL hC
        replace hRM := Row.ext hRM hC
        exact Runs.does (r_nilCheck (congrArg some h5)) ⟨Below.refl _ _, rfl, nofr rfl⟩
      refine ⟨fun wu7 hC hd => ?_, ?_⟩
      · obtain ⟨h6, _⟩ := hd
        skip
        replace h6 : V 6 = (.pointer (some ⟨p, 0, none⟩)) := h6
        replace hb := hb.trans (hC.mono hb.size)
        replace hpb := blk_ext hpb hC
        replace hRL := Row.ext hRL hC
        replace hRM := Row.ext hRM hC
        exact Runs.does (r_fa (congrArg some h6) Try.underlying130 (f := 1) (q := 1) rfl (by kernel_rfl) rfl) ⟨Below.refl _ _, rfl, nofr rfl⟩
      refine ⟨fun wu8 hC hd => ?_, ?_⟩
      · obtain ⟨h7, _⟩ := hd
        skip
        replace h7 : V 7 = (.pointer (some ⟨p, 1, none⟩)) := h7
        replace hb := hb.trans (hC.mono hb.size)
        replace hpb := blk_ext hpb hC
        replace hRL := Row.ext hRL hC
        replace hRM := Row.ext hRM hC
        exact Runs.does (r_load (v := (.slice (some ⟨mb_, 0, none⟩) M.length mc)) (congrArg some h7) Try.underlying33 rfl (cell_blk hpb rfl)) ⟨Below.refl _ _, rfl, nofr rfl⟩
      refine ⟨fun wu9 hC hd => ?_, ?_⟩
      · obtain ⟨h8, _⟩ := hd
        skip
        replace h8 : V 8 = (.slice (some ⟨mb_, 0, none⟩) M.length mc) := h8
        replace hb := hb.trans (hC.mono hb.size)
        replace hpb := blk_ext hpb hC
        replace hRL := Row.ext hRL hC
        replace hRM := Row.ext hRM hC
        exact Runs.does (r_lensl (congrArg some h8) Try.underlying33) ⟨Below.refl _ _, rfl, nofr rfl⟩
      refine ⟨fun wu10 hC hd => ?_, ?_⟩
      · obtain ⟨h9, _⟩ := hd
        skip
        replace h9 : V 9 = (.int .i64 ((M.length : Nat) : Int)) := h9
        replace hb := hb.trans (hC.mono hb.size)
        replace hpb := blk_ext hpb hC
        replace hRL := Row.ext hRL hC
        replace hRM := Row.ext hRM hC
        exact Runs.does (r_sub (C := (((M.length : Nat) : Int) - (1 : Int))) (congrArg some h9) rfl (by rw [IntKind.wrap_i64]; omega)) ⟨Below.refl _ _, rfl, nofr rfl⟩
      refine ⟨fun wu11 hC hd => ?_, ?_⟩
      · obtain ⟨h4, h10, _⟩ := hd
        skip
        skip
        replace h4 : V 4 = (.slice (some ⟨mb_, 0, none⟩) M.length mc) := h4
        replace h10 : V 10 = (.int .i64 (((M.length : Nat) : Int) - (1 : Int))) := h10
        replace hb := hb.trans (hC.mono hb.size)
        replace hpb := blk_ext hpb hC
        replace hRL := Row.ext hRL hC
        replace hRM := Row.ext hRM hC
        exact Runs.does (r_slto (m := (M.length - 1)) (congrArg some h4) (congrArg some h10) Try.underlying33 (by kernel_rfl) (by omega) (by omega)) ⟨Below.refl _ _, rfl, nofr rfl⟩
      trivial
    · skip
      clear hf fa; intro V w3 fa he3 hp hnb hf
      have hv0 : V 0 = (.pointer (some ⟨p, 0, none⟩)) := postsHold_at hp 0 rfl
      have hv1 : V 1 = (.pointer (some ⟨p, 0, none⟩)) := postsHold_at hp 1 rfl
      have hv2 : V 2 = (.pointer (some ⟨p, 0, none⟩)) := postsHold_at hp 2 rfl
      have hv3 : V 3 = (.pointer (some ⟨p, 1, none⟩)) := postsHold_at hp 3 rfl
      have hv4 : V 4 = (.slice (some ⟨mb_, 0, none⟩) M.length mc) := postsHold_at hp 4 rfl
      have hv5 : V 5 = (.pointer (some ⟨p, 0, none⟩)) := postsHold_at hp 5 rfl
      have hv6 : V 6 = (.pointer (some ⟨p, 0, none⟩)) := postsHold_at hp 6 rfl
      have hv7 : V 7 = (.pointer (some ⟨p, 1, none⟩)) := postsHold_at hp 7 rfl
      have hv8 : V 8 = (.slice (some ⟨mb_, 0, none⟩) M.length mc) := postsHold_at hp 8 rfl
      have hv9 : V 9 = (.int .i64 ((M.length : Nat) : Int)) := postsHold_at hp 9 rfl
      have hv10 : V 10 = (.int .i64 (((M.length : Nat) : Int) - (1 : Int))) := postsHold_at hp 10 rfl
      have hv11 : V 11 = (.slice (some ⟨mb_, 0, none⟩) ((M.length - 1)) mc) := postsHold_at hp 11 rfl
      simp only [List.take_succ_cons, List.take_zero, insAll, ins, hv0, hv1, hv2, hv3, hv4, hv5, hv6, hv7, hv8, hv9, hv10, hv11] at hf
      clear hp hnb hv0 hv1 hv2 hv3 hv4 hv5 hv6 hv7 hv8 hv9 hv10 hv11
      replace hpb := blk_ext hpb he3
      replace hRL := Row.ext hRL he3
      replace hRM := Row.ext hRM he3
      replace hT1 := KT.map hT1 (fun bf cs hbf => blk_ext hbf he3)
      replace hT2 := KT.map hT2 (fun bf cs hbf => blk_ext hbf he3)
      replace hZ := Nat.le_trans hZ he3.size
      replace hKX := hKX.below he3
      replace hb := hb.trans (Below.mono he3 hb.size)
      have hr1 := Row.cutA (m := (M.length - 1)) (by intros; rfl) hRM (Row.caps hRM).1 (by (try simp only [Sl.list_length]); omega)
      simp only [List.drop_succ_cons, List.drop_zero]
      refine sqv hf (r_nilCheck rfl) rfl rfl rfl ?_; clear hf fa; intro fa hf
      refine sqv hf (r_fa rfl Try.underlying130 (f := 1) (q := 1) rfl (by kernel_rfl) rfl) rfl rfl rfl ?_; clear hf fa; intro fa hf
      refine sqn hf (d_storeK (T := 130) (v := (.slice (some ⟨mb_, 0, none⟩) ((M.length - 1)) mc)) (cs := #[(.slice la L.length lc), (.slice (some ⟨mb_, 0, none⟩) M.length mc), (.int .i64 N)]) (cs' := #[(.slice la L.length lc), (.slice (some ⟨mb_, 0, none⟩) ((M.length - 1)) mc), (.int .i64 N)]) rfl rfl (by kernel_rfl) (by kernel_rfl) hpb (by kernel_rfl) (by kernel_rfl)) rfl rfl ?_; clear hf fa; rintro fa _ w4 ⟨hk1, hg1⟩ hf
      replace hRL := Row.grown hRL hg1 (Row.ne_type hRL hpb rfl)
      replace hr1 := Row.grown hr1 hg1 (Row.ne_type hr1 hpb rfl)
      replace hZ := Nat.le_trans hZ hg1.size
      replace hKX := hKX.grown hg1 (by omega)
      replace hT1 := KT.map hT1 (fun bf cs hbf => blk_grown hbf hg1 (blk_ty hbf hpb rfl))
      replace hT2 := KT.map hT2 (fun bf cs hbf => blk_grown hbf hg1 (blk_ty hbf hpb rfl))
      replace hb := hb.trans (grown_below hg1 hb.size hBp)
      apply wpList_nil
      (try simp only [Exit.then, Exit.inBlock, ↓reduceIte, Nat.reduceEqDiff])
      refine hK5 _ _ ?_
      refine wp_seq_k (fun K6 hK6 => ?_)
      refine wp_region_lit ?_
      refine sqv hf (r_assign rfl) rfl rfl rfl ?_; clear hf fa; intro fa hf
      apply wpList_nil
      (try simp only [Exit.then, Exit.inBlock, ↓reduceIte, Nat.reduceEqDiff])
      refine hK6 _ _ ?_
      refine wp_seq_k (fun K7 hK7 => ?_)
      refine wp_seq_k (fun K8 hK8 => ?_)
      refine wp_region_lit ?_
      refine sqv hf (r_move rfl) rfl rfl rfl ?_; clear hf fa; intro fa hf
      refine sqv hf (r_nilCheck rfl) rfl rfl rfl ?_; clear hf fa; intro fa hf
      refine sqv hf (r_fa rfl Try.underlying130 (f := 0) (q := 0) rfl (by kernel_rfl) rfl) rfl rfl rfl ?_; clear hf fa; intro fa hf
      refine sqv hf (r_load (v := (.slice la L.length lc)) rfl Try.underlying61 rfl (cell_blk hk1 rfl)) rfl rfl rfl ?_; clear hf fa; intro fa hf
      refine sqv hf (r_lensl rfl Try.underlying61) rfl rfl rfl ?_; clear hf fa; intro fa hf
      refine sqv hf (r_sub (C := (((L.length : Nat) : Int) - (1 : Int))) rfl rfl (by rw [IntKind.wrap_i64]; omega)) rfl rfl rfl ?_; clear hf fa; intro fa hf
      refine sqv hf (r_assign rfl) rfl rfl rfl ?_; clear hf fa; intro fa hf
      apply wpList_nil
      (try simp only [Exit.then, Exit.inBlock, ↓reduceIte, Nat.reduceEqDiff])
      refine hK8 _ _ ?_
      refine wp_block ?_
      refine wp_loop_k (fun mq fa wr => ∃ (k : Nat) (roa : Option Addr) (roc : Nat), mq = L.length - qn - k ∧ Fr 67 fa [(0, (.pointer (some ⟨p, 0, none⟩))), (4, (.int .i64 ((qn : Nat) : Int))), (6, (.int .i64 ((((L.length : Nat) : Int) - (1 : Int)) - ((k : Nat) : Int)))), (5, (.slice roa (((outE L k)).length) roc))] ∧ Below w0.heap.size w0 wr ∧ Row 4 vE 54 (w0.heap.size) wr (.slice la (L.length) lc) L ∧ Row 1 (vInt .i64) 3 (w0.heap.size) wr (.slice (some ⟨mb_, 0, none⟩) ((M.length - 1)) mc) (M.take (M.length - 1)) ∧ Row 4 vE 54 (w.heap.size) wr (.slice roa (((outE L k)).length) roc) (outE L k) ∧ wr.heap[p]? = some (.cells #[(.slice la L.length lc), (.slice (some ⟨mb_, 0, none⟩) ((M.length - 1)) mc), (.int .i64 N)] 130 (0, 0)) ∧ (k ≤ L.length - qn) ∧ (∀ q, (Value.slice la L.length lc).ownBlock = some q → q < X) ∧ (KT 64 w wr) ∧ (KT 59 w wr) ∧ (KX X w wr) ∧ (w.heap.size ≤ wr.heap.size)) ?_ ?_
      · skip
        exact ⟨_, 0, none, 0, rfl, hf.sub ⟨rfl, rfl, (some_int (by first | rfl | omega)), (some_sl (by first | omega | (simp only [List.length_append, List.length_cons, List.length_nil]; omega) | (simp <;> omega)) rfl), trivial⟩, hb, hRL, hr1, (by rw [outE_zero]; exact Row.nil), hk1, by omega, hlX, hT1, hT2, hKX, hZ⟩
      · skip
        clear hf fa; intro mq1 fa w5 hI KL1 hKL1
        clear hb
        clear hk1
        clear hRL
        clear hr1
        obtain ⟨k, roa, roc, hmq1, hf, hb, hrE, hrM2, hro, hkp, hk, hlX, hT1, hT2, hKX, hZ⟩ := hI
        have hcrE := Row.caps hrE
        have hcrM2 := Row.caps hrM2
        have hcro := Row.caps hro
        have hol := outE_length L k (by omega)
        refine wp_seq_k (fun K9 hK9 => ?_)
        refine wp_seq_k (fun K10 hK10 => ?_)
        refine wp_region_lit ?_
        refine sqv hf (r_move rfl) rfl rfl rfl ?_; clear hf fa; intro fa hf
        refine sqv hf (r_move rfl) rfl rfl rfl ?_; clear hf fa; intro fa hf
        refine sqv hf (r_ge rfl rfl) rfl rfl rfl ?_; clear hf fa; intro fa hf
        apply wpList_nil
        (try simp only [Exit.then, Exit.inBlock, ↓reduceIte, Nat.reduceEqDiff])
        refine hK10 _ _ ?_
        refine wp_cond_split (t := (decide (((qn : Nat) : Int) ≤ ((((L.length : Nat) : Int) - (1 : Int)) - ((k : Nat) : Int))))) (hf.ev rfl) (fun hqt44_1 => ?_) (fun hqt44_1 => ?_)
        · have hqt44_1b := hqt44_1
          try simp only [decide_eq_true_eq, Bool.and_eq_true, Bool.or_eq_true, Bool.not_eq_true', decide_eq_false_iff_not, ne_eq, Bool.not_eq_true] at hqt44_1
          refine wp_skip ?_
          (try simp only [Exit.then, Exit.inBlock, ↓reduceIte, Nat.reduceEqDiff])
          refine hK9 _ _ ?_
          refine wp_seq_k (fun K11 hK11 => ?_)
          refine wp_block ?_
          refine wp_region_lit ?_
          refine sqv hf (r_move rfl) rfl rfl rfl ?_; clear hf fa; intro fa hf
          refine sqv hf (r_move rfl) rfl rfl rfl ?_; clear hf fa; intro fa hf
          refine sqv hf (r_nilCheck rfl) rfl rfl rfl ?_; clear hf fa; intro fa hf
          refine sqv hf (r_fa rfl Try.underlying130 (f := 0) (q := 0) rfl (by kernel_rfl) rfl) rfl rfl rfl ?_; clear hf fa; intro fa hf
          refine sqv hf (r_load (v := (.slice la L.length lc)) rfl Try.underlying61 rfl (cell_blk hkp rfl)) rfl rfl rfl ?_; clear hf fa; intro fa hf
          refine sqv hf (r_move rfl) rfl rfl rfl ?_; clear hf fa; intro fa hf
          obtain ⟨rb1, rfl, hbbrb1, hlbrb1⟩ := Row.some hrE (by first | omega | (simp only [Sl.list_length, List.length_set, List.length_take, List.length_append, List.length_replicate, List.length_cons, List.length_nil, List.length_map, nums_len]; omega))
          have hy2 : (L)[((L.length - 1) - k)]? = some (eAt L (L.length - 1 - k)) := getD_at (l := L) (j := L.length - 1 - k) _ (by omega)
          have hel2 := RdS.at (Row.rd (by intros; rfl) hrE) hy2
          obtain ⟨_, _, hab, hlr2, hel2⟩ := hel2
          cases hab
          refine sqv hf (r_ixa (sz := 4) (j := ((L.length - 1) - k)) rfl rfl Try.underlying61 (by kernel_rfl) (by omega) (by omega) rfl) rfl rfl rfl ?_; clear hf fa; intro fa hf
          refine sqv hf (r_loadA (cs := [(.int .i64 ((eAt L (L.length - 1 - k)).1)), (.int .i64 ((eAt L (L.length - 1 - k)).2.1)), (.int .u64 ((eAt L (L.length - 1 - k)).2.2.1)), (.string (eAt L (L.length - 1 - k)).2.2.2)]) rfl Try.underlying54 rfl (by kernel_rfl) hel2) rfl rfl rfl ?_; clear hf fa; intro fa hf
          refine sqdt hf (d_bslice (z := (.agg #[(.int .i64 (0 : Int)), (.int .i64 (0 : Int)), (.int .u64 (0 : Int)), (.string ⟨#[]⟩)])) (sz := 4) (vs := [(0, (.agg #[(.int .i64 ((eAt L (L.length - 1 - k)).1)), (.int .i64 ((eAt L (L.length - 1 - k)).2.1)), (.int .u64 ((eAt L (L.length - 1 - k)).2.2.1)), (.string (eAt L (L.length - 1 - k)).2.2.2)]))]) (cs := #[(.int .i64 ((eAt L (L.length - 1 - k)).1)), (.int .i64 ((eAt L (L.length - 1 - k)).2.1)), (.int .u64 ((eAt L (L.length - 1 - k)).2.2.1)), (.string (eAt L (L.length - 1 - k)).2.2.2)]) rfl Try.underlying61 (by kernel_rfl) rfl (by kernel_rfl)) rfl rfl rfl ?_; clear hf fa; rintro fa _ w6 ⟨b1, rfl, hle1, hk2, he4⟩ hf
          have hBb1 : w0.heap.size ≤ b1 := Nat.le_trans hb.size hle1
          have : p < b1 := Nat.lt_of_lt_of_le (blk_lt hkp) hle1
          have hhZb1 := Nat.le_trans hZ hle1
          have : rb1 < b1 := Nat.lt_of_lt_of_le (Row.lt hrE _ rfl).2 hle1
          have : mb_ < b1 := Nat.lt_of_lt_of_le (Row.lt hrM2 _ rfl).2 hle1
          have hnr1 : (Value.slice roa ((((outE L k)).length)) roc).ownBlock ≠ some b1 := fun hq => by have := (Row.lt hro _ hq).2; omega
          have hnl1 : ∀ q, (Value.slice roa ((((outE L k)).length)) roc).ownBlock = some q → q < b1 := fun q hq => Nat.lt_of_lt_of_le (Row.lt hro q hq).2 hle1
          replace hkp := blk_ext hkp he4
          replace hrE := Row.ext hrE he4
          replace hrM2 := Row.ext hrM2 he4
          replace hro := Row.ext hro he4
          replace hT1 := KT.map hT1 (fun bf cs hbf => blk_ext hbf he4)
          replace hT2 := KT.map hT2 (fun bf cs hbf => blk_ext hbf he4)
          replace hZ := Nat.le_trans hZ he4.size
          replace hKX := hKX.below he4
          replace hb := hb.trans (Below.mono he4 hb.size)
          have hs1 := Row.rd (by intros; rfl) (Row.of_new (k := 4) (V := vE) (l := [(eAt L (L.length - 1 - k))]) hk2 (Nat.le_refl _) rfl rfl (Nat.le_of_ble_eq_true rfl))
          refine sqdt hf (d_append (V := vE) (k := 4) (e := 54) (bytes := 40) (z := (.agg #[(.int .i64 (0 : Int)), (.int .i64 (0 : Int)), (.int .u64 (0 : Int)), (.string ⟨#[]⟩)])) (news := [(eAt L (L.length - 1 - k))]) (base := w.heap.size) (by intros; rfl) (by exact oneE) rfl rfl Try.underlying61 (by kernel_rfl) rfl rfl rfl hro hs1 rfl (fun h => by cases h) (by first | omega | (simp only [List.length_cons, List.length_nil, List.length_append, nums_len]; omega)) (by first | (have := hb.size; have : rb1 < w6.heap.size := (Row.lt hrE _ rfl).2; have : mb_ < w6.heap.size := (Row.lt hrM2 _ rfl).2; omega) | (have := Row.base_le hro (by first | omega | (simp only [Sl.list_length, List.length_set, List.length_take, List.length_append, List.length_replicate, List.length_cons, List.length_nil, List.length_map, nums_len]; omega)); omega))) rfl rfl rfl ?_; clear hf fa; rintro fa v w7 ⟨hr2, hg2⟩ hf; obtain ⟨ra1, rc1, rfl, hcrc1, hmrc1⟩ := Row.slice hr2
          replace hkp := blk_row' hkp hg2 (Row.ne_type hro hkp rfl)
          replace hrE := Row.grown' hrE hg2 (fun q h1 h2 => Row.ne_base hro (hltE q h1) h2)
          replace hrM2 := Row.grown' hrM2 hg2 (Row.ne_row hrM2 hro rfl)
          replace hZ := Nat.le_trans hZ hg2.size
          replace hKX := hKX.app hg2 (fun q hq => .inr (by have := (Row.lt hro q hq).1; omega))
          replace hT1 := KT.map hT1 (fun bf cs hbf => blk_row' hbf hg2 (Row.ne_type hro hbf rfl))
          replace hT2 := KT.map hT2 (fun bf cs hbf => blk_row' hbf hg2 (Row.ne_type hro hbf rfl))
          replace hb := hb.trans (row_below hro hg2 hb.size (by have := hb.size; omega))
          refine sqv hf (r_assign rfl) rfl rfl rfl ?_; clear hf fa; intro fa hf
          apply wpList_nil
          (try simp only [Exit.then, Exit.inBlock, ↓reduceIte, Nat.reduceEqDiff])
          refine hK11 _ _ ?_
          refine wp_region_lit ?_
          refine sqv hf (r_move rfl) rfl rfl rfl ?_; clear hf fa; intro fa hf
          refine sqv hf (r_sub (C := (((((L.length : Nat) : Int) - (1 : Int)) - ((k : Nat) : Int)) - (1 : Int))) rfl rfl (by rw [IntKind.wrap_i64]; omega)) rfl rfl rfl ?_; clear hf fa; intro fa hf
          refine sqv hf (r_assign rfl) rfl rfl rfl ?_; clear hf fa; intro fa hf
          apply wpList_nil
          (try simp only [Exit.then, Exit.inBlock, ↓reduceIte, Nat.reduceEqDiff])
          have hol2 := outE_length L (k + 1) (by omega)
          refine hKL1 _ _ _ (by omega) ⟨(k + 1), ra1, rc1, rfl, hf.sub ⟨rfl, rfl, (some_int (by first | rfl | omega)), (some_sl (by first | omega | (simp only [List.length_append, List.length_cons, List.length_nil]; omega) | (simp <;> omega)) rfl), trivial⟩, hb, hrE, hrM2, (crowE hr2 (outE_succ L k (by omega))), hkp, by omega, hlX, hT1, hT2, hKX, hZ⟩
        · have hqt44_1b := hqt44_1
          replace hqt44_1 := Bool.eq_false_iff.1 hqt44_1
          try simp only [ne_eq, decide_eq_true_eq, Bool.and_eq_true, Bool.or_eq_true, Bool.not_eq_true', decide_eq_false_iff_not] at hqt44_1
          refine wp_exit ?_
          (try simp only [Exit.then, Exit.inBlock, ↓reduceIte, Nat.reduceEqDiff])
          refine hK7 _ _ ?_
          refine wp_seq_k (fun K12 hK12 => ?_)
          refine wp_region_lit ?_
          refine sqv hf (r_move rfl) rfl rfl rfl ?_; clear hf fa; intro fa hf
          refine sqv hf (r_move rfl) rfl rfl rfl ?_; clear hf fa; intro fa hf
          refine sqv hf (r_nilCheck rfl) rfl rfl rfl ?_; clear hf fa; intro fa hf
          refine sqv hf (r_fa rfl Try.underlying130 (f := 0) (q := 0) rfl (by kernel_rfl) rfl) rfl rfl rfl ?_; clear hf fa; intro fa hf
          refine sqv hf (r_load (v := (.slice la L.length lc)) rfl Try.underlying61 rfl (cell_blk hkp rfl)) rfl rfl rfl ?_; clear hf fa; intro fa hf
          refine sqv hf (r_move rfl) rfl rfl rfl ?_; clear hf fa; intro fa hf
          refine sqv hf (r_slto (m := qn) rfl rfl Try.underlying61 (by kernel_rfl) rfl (by omega)) rfl rfl rfl ?_; clear hf fa; intro fa hf
          have hr3 := Row.cutA (m := qn) (by intros; rfl) hrE (Row.caps hrE).1 (by (try simp only [Sl.list_length]); omega)
          refine sqv hf (r_nilCheck rfl) rfl rfl rfl ?_; clear hf fa; intro fa hf
          refine sqv hf (r_fa rfl Try.underlying130 (f := 0) (q := 0) rfl (by kernel_rfl) rfl) rfl rfl rfl ?_; clear hf fa; intro fa hf
          refine sqn hf (d_storeK (T := 130) (v := (.slice la qn lc)) (cs := #[(.slice la L.length lc), (.slice (some ⟨mb_, 0, none⟩) ((M.length - 1)) mc), (.int .i64 N)]) (cs' := #[(.slice la qn lc), (.slice (some ⟨mb_, 0, none⟩) ((M.length - 1)) mc), (.int .i64 N)]) rfl rfl (by kernel_rfl) (by kernel_rfl) hkp (by kernel_rfl) (by kernel_rfl)) rfl rfl ?_; clear hf fa; rintro fa _ w8 ⟨hk3, hg3⟩ hf
          replace hr3 := Row.grown hr3 hg3 (Row.ne_type hr3 hkp rfl)
          replace hrM2 := Row.grown hrM2 hg3 (Row.ne_type hrM2 hkp rfl)
          replace hro := Row.grown hro hg3 (Row.ne_type hro hkp rfl)
          replace hZ := Nat.le_trans hZ hg3.size
          replace hKX := hKX.grown hg3 (by omega)
          replace hT1 := KT.map hT1 (fun bf cs hbf => blk_grown hbf hg3 (blk_ty hbf hkp rfl))
          replace hT2 := KT.map hT2 (fun bf cs hbf => blk_grown hbf hg3 (blk_ty hbf hkp rfl))
          replace hb := hb.trans (grown_below hg3 hb.size hBp)
          apply wpList_nil
          (try simp only [Exit.then, Exit.inBlock, ↓reduceIte, Nat.reduceEqDiff])
          refine hK12 _ _ ?_
          refine wp_seq_k (fun K13 hK13 => ?_)
          refine wp_region_lit ?_
          refine sqv hf (r_move rfl) rfl rfl rfl ?_; clear hf fa; intro fa hf
          refine sqv hf (r_assign rfl) rfl rfl rfl ?_; clear hf fa; intro fa hf
          refine sqv hf (r_assign rfl) rfl rfl rfl ?_; clear hf fa; intro fa hf
          apply wpList_nil
          (try simp only [Exit.then, Exit.inBlock, ↓reduceIte, Nat.reduceEqDiff])
          refine hK13 _ _ ?_
          refine wp_ret ?_
          (try simp only [Exit.then, Exit.inBlock])
          refine ret2 hf rfl rfl rfl ?_
          obtain rfl : k = L.length - qn := by omega
          have hz1 := hk3
          exact ⟨_, rfl, _, _, rfl, hro, ⟨hBp, _, _, hz1, rowE hr3, rowM hrM2⟩, hb, ⟨hT1, hT2, hKX, hZ⟩⟩
end Go.Proofs.Ytmcmickgllffoaa
