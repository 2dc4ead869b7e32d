/- What is proved here: what Back comes to. -/
import Derived.Test.YtmcmickgllffoaaJnB
namespace Go.Proofs.Ytmcmickgllffoaa
open Go.RowKit
set_option linter.unusedVariables false
set_option linter.unusedSimpArgs false

/-- An entry of a list. -/
def eAt (L : List Ent) (p : Nat) : Ent := L.getD p (0, 0, 0, ⟨#[]⟩)

theorem flatE_at (L : List Ent) (p c : Nat) (hp : p < L.length) (hc : c < 4) : (flatE L)[p * 4 + c]? = (entV (eAt L p))[c]? := by
  induction L generalizing p with
  | nil => simp at hp
  | cons e L ih =>
    have h4 : ((entV e).toList).length = 4 := rfl
    simp only [flatE, List.flatMap_cons]
    cases p with
    | zero =>
      rw [List.getElem?_append_left (by rw [h4]; omega)]
      simp [eAt]
    | succ p =>
      rw [List.getElem?_append_right (by rw [h4]; omega), h4, show (p + 1) * 4 + c - 4 = p * 4 + c by omega]
      have := ih p (by simpa using hp)
      simp only [flatE] at this
      rw [this]
      simp [eAt]

/-- The last k entries, the last one first. -/
def outE (L : List Ent) (k : Nat) : List Ent := (L.drop (L.length - k)).reverse

theorem outE_zero (L : List Ent) : outE L 0 = [] := by simp [outE]
theorem outE_length (L : List Ent) (k : Nat) (h : k ≤ L.length) : (outE L k).length = k := by simp [outE]; omega
theorem outE_succ (L : List Ent) (k : Nat) (h : k < L.length) : outE L (k + 1) = outE L k ++ [eAt L (L.length - 1 - k)] := by
  unfold outE
  have h1 : L.length - (k + 1) < L.length := by omega
  rw [List.drop_eq_getElem_cons h1, List.reverse_cons, show L.length - (k + 1) + 1 = L.length - k by omega]
  congr 2
  have h2 : L.length - 1 - k < L.length := by omega
  simp only [eAt, List.getD_eq_getElem?_getD, List.getElem?_eq_getElem h2, Option.getD_some]
  congr 1
  omega

theorem JR.cutL0 {base b : Nat} {w : World} {L : List Ent} {M : List Int} {N : Int} {m lc : Nat} {la : Option Addr} (h : JR base w b L M N) (hc : w.cell? ⟨b, 0, none⟩ = some (.slice la L.length lc)) (hm : m ≤ L.length) :
    JR base (w.setCell ⟨b, 0, none⟩ (.slice la m lc)) b (L.take m) M N ∧ JFr w (w.setCell ⟨b, 0, none⟩ (.slice la m lc)) := by
  by_cases hL : 0 < L.length
  · exact h.cutL hc hm hL
  · obtain rfl : L = [] := List.eq_nil_of_length_eq_zero (by omega)
    obtain rfl : m = 0 := by simpa using hm
    obtain ⟨h1, vl, vm, h2, h3, h4⟩ := h
    have : vl = .slice la 0 lc := by
      have := cell_of_row w b 0 _ _ _ h2
      rw [hc] at this
      simp at this; exact this.symm
    subst this
    obtain ⟨r1, r2, _⟩ := JR.setL (M := M) (N := N) (L' := []) (v' := .slice la 0 lc) h1 h2 h3 h4 h3 (fun _ _ _ => rfl)
    exact ⟨r1, r2⟩

def postsB3 (b m g q mc : Nat) : List (Value → World → Prop) := [
    fun x _ => x = .pointer (some ⟨b, 0, none⟩),
    fun x _ => x = .pointer (some ⟨b, 0, none⟩),
    fun x _ => x = .pointer (some ⟨b, 1, none⟩),
    fun x _ => x = .slice (some ⟨g, 0, none⟩) (m + 1) mc,
    fun x _ => x = .pointer (some ⟨b, 0, none⟩),
    fun x _ => x = .pointer (some ⟨b, 0, none⟩),
    fun x _ => x = .pointer (some ⟨b, 1, none⟩),
    fun x _ => x = .slice (some ⟨g, 0, none⟩) (m + 1) mc,
    fun x _ => x = .int .i64 (m + 1),
    fun x _ => x = .int .i64 m,
    fun x _ => x = .pointer (some ⟨g, m, none⟩),
    fun x _ => x = .int .i64 q,
    fun x _ => x = .int .i64 q]
def postsB4 (b m g mc : Nat) : List (Value → World → Prop) := [
    fun x _ => x = .pointer (some ⟨b, 0, none⟩),
    fun x _ => x = .pointer (some ⟨b, 0, none⟩),
    fun x _ => x = .pointer (some ⟨b, 0, none⟩),
    fun x _ => x = .pointer (some ⟨b, 1, none⟩),
    fun x _ => x = .slice (some ⟨g, 0, none⟩) (m + 1) mc,
    fun x _ => x = .pointer (some ⟨b, 0, none⟩),
    fun x _ => x = .pointer (some ⟨b, 0, none⟩),
    fun x _ => x = .pointer (some ⟨b, 1, none⟩),
    fun x _ => x = .slice (some ⟨g, 0, none⟩) (m + 1) mc,
    fun x _ => x = .int .i64 (m + 1),
    fun x _ => x = .int .i64 m,
    fun x _ => x = .slice (some ⟨g, 0, none⟩) m mc]

set_option maxHeartbeats 4000000 in
set_option maxRecDepth 100000 in
theorem back_any (base b : Nat) (L : List Ent) (M0 : List Int) (q : Nat) (N : Int) (w : World) (hbase : base ≤ w.heap.size) (hL : L.length ≤ 1000000) (hM : M0.length ≤ 999999) (hq : q ≤ L.length) (h : JR base w b L (M0 ++ [(q : Int)]) N) :
    Calls Try.prog 23 #[.pointer (some ⟨b, 0, none⟩)] w fun e w' => (∃ s, e = .returned (.tuple #[s, .int .i64 0]) ∧ w'.ownsRow w.heap.size 54 4 s (L.length - q) (flatE (outE L (L.length - q)))) ∧ JR base w' b (L.take q) M0 N ∧ Below base w w' ∧ JFr w w' := by
  obtain ⟨m, hm⟩ : ∃ m, M0.length = m := ⟨_, rfl⟩
  have hmm : (M0 ++ [(q : Int)]).length = m + 1 := by simp [hm]
  have Ho := hid (jopen_any base b L (M0 ++ [(q : Int)]) N w h)
  rw [hmm, decide_eq_true (Nat.succ_pos m)] at Ho
  have H := hid h
  obtain ⟨la, lc, ma, mc, c0, c1, c2, z0, z1, z2, hb, hbb, hblk, hl, hmo, hlc, hmc⟩ := h.open
  rw [hmm] at c1 hmc hmo
  obtain ⟨ma', mc', he, hmc2, hg⟩ := slice_of_own hmo
  simp at he
  obtain ⟨rfl, rfl⟩ := he
  obtain ⟨g, rfl, hgb, hgw, hgc⟩ := hg (by omega)
  have cm : w.cell? ⟨g, m, none⟩ = some (.int .i64 q) := by
    rw [hgc m (by omega), List.map_append, List.getElem?_append_right (by simp [hm])]
    simp [hm]
  have Hm := hid hm
  have Hmm := hid hmm
  have hm6 : m ≤ 1000000 := by omega
  have Hq := hid hq
  clear h hl hmo hblk hgc hm hmm
  go_enter Try.func23, Try.ntmps23
  go_wp2_with fail
  refine Ho.out.mono ?_
  rintro e w' ⟨rfl, rfl⟩
  clear Ho
  go_wp2
  refine wp_region_rg (fun w' => Below w.heap.size w w') (fun w w' => Below w.heap.size w w') (postsB3 b m g q mc)
      [[], [0], [1], [2], [], [4], [5], [6], [7], [8], [3, 9], [10], [0, 1, 2, 3, 4, 5, 6, 7, 8, 9, 10, 11]]
      67 (by kernel_rfl) rfl (by kernel_rfl) rfl ?rg0 ?rgC ?rgP ?rgS ?rgQ
  case rgP => exact ⟨kept_eq, kept_eq, kept_eq, kept_eq, kept_eq, kept_eq, kept_eq, kept_eq, kept_eq, kept_eq, kept_eq, kept_eq, kept_eq, trivial⟩
  case rgS =>
    intro V
    refine rgGoals_cons 1 (by intro v; simp only [Act.put, List.setIfInBounds_toArray, List.set_cons_zero, List.set_cons_succ]; exact rfl) rfl (fun w hC hd K hK => ?_) ?_
    · clear hd
      go_simp; exact hK _ _ (Below.refl _ _) rfl
    refine rgGoals_cons 2 (by intro v; simp only [Act.put, List.setIfInBounds_toArray, List.set_cons_zero, List.set_cons_succ]; exact rfl) rfl (fun w hC hd K hK => ?_) ?_
    · obtain ⟨h0, _⟩ := hd
      replace h0 : V 0 = .pointer (some ⟨b, 0, none⟩) := h0
      simp only [h0] at hK
      go_simp; exact hK _ _ (Below.refl _ _) rfl
    refine rgGoals_cons 3 (by intro v; simp only [Act.put, List.setIfInBounds_toArray, List.set_cons_zero, List.set_cons_succ]; exact rfl) rfl (fun w hC hd K hK => ?_) ?_
    · obtain ⟨h1, _⟩ := hd
      replace h1 : V 1 = .pointer (some ⟨b, 0, none⟩) := h1
      simp only [h1] at hK
      go_simp; exact hK _ _ (Below.refl _ _) rfl
    refine rgGoals_cons 4 (by intro v; simp only [Act.put, List.setIfInBounds_toArray, List.set_cons_zero, List.set_cons_succ]; exact rfl) rfl (fun w hC hd K hK => ?_) ?_
    · obtain ⟨h2, _⟩ := hd
      replace h2 : V 2 = .pointer (some ⟨b, 1, none⟩) := h2
      simp only [h2] at hK
      have f1 := (hC.cell (p := ⟨b, 1, none⟩) hb).trans c1
      go_simp; exact hK _ _ (Below.refl _ _) rfl
    refine rgGoals_cons 5 (by intro v; simp only [Act.put, List.setIfInBounds_toArray, List.set_cons_zero, List.set_cons_succ]; exact rfl) rfl (fun w hC hd K hK => ?_) ?_
    · clear hd
      go_simp; exact hK _ _ (Below.refl _ _) rfl
    refine rgGoals_cons 6 (by intro v; simp only [Act.put, List.setIfInBounds_toArray, List.set_cons_zero, List.set_cons_succ]; exact rfl) rfl (fun w hC hd K hK => ?_) ?_
    · obtain ⟨h4, _⟩ := hd
      replace h4 : V 4 = .pointer (some ⟨b, 0, none⟩) := h4
      simp only [h4] at hK
      go_simp; exact hK _ _ (Below.refl _ _) rfl
    refine rgGoals_cons 7 (by intro v; simp only [Act.put, List.setIfInBounds_toArray, List.set_cons_zero, List.set_cons_succ]; exact rfl) rfl (fun w hC hd K hK => ?_) ?_
    · obtain ⟨h5, _⟩ := hd
      replace h5 : V 5 = .pointer (some ⟨b, 0, none⟩) := h5
      simp only [h5] at hK
      go_simp; exact hK _ _ (Below.refl _ _) rfl
    refine rgGoals_cons 8 (by intro v; simp only [Act.put, List.setIfInBounds_toArray, List.set_cons_zero, List.set_cons_succ]; exact rfl) rfl (fun w hC hd K hK => ?_) ?_
    · obtain ⟨h6, _⟩ := hd
      replace h6 : V 6 = .pointer (some ⟨b, 1, none⟩) := h6
      simp only [h6] at hK
      have f1 := (hC.cell (p := ⟨b, 1, none⟩) hb).trans c1
      go_simp; exact hK _ _ (Below.refl _ _) rfl
    refine rgGoals_cons 9 (by intro v; simp only [Act.put, List.setIfInBounds_toArray, List.set_cons_zero, List.set_cons_succ]; exact rfl) rfl (fun w hC hd K hK => ?_) ?_
    · obtain ⟨h7, _⟩ := hd
      replace h7 : V 7 = .slice (some ⟨g, 0, none⟩) (m + 1) mc := h7
      simp only [h7] at hK
      go_simp; exact hK _ _ (Below.refl _ _) (by push_cast; rfl)
    refine rgGoals_cons 10 (by intro v; simp only [Act.put, List.setIfInBounds_toArray, List.set_cons_zero, List.set_cons_succ]; exact rfl) rfl (fun w hC hd K hK => ?_) ?_
    · obtain ⟨h8, _⟩ := hd
      replace h8 : V 8 = .int .i64 (m + 1) := h8
      simp only [h8] at hK
      go_simp; exact hK _ _ (Below.refl _ _) (by first | rfl | (congr 1; rw [wrap_i64_def]; omega))
    refine rgGoals_cons 11 (by intro v; simp only [Act.put, List.setIfInBounds_toArray, List.set_cons_zero, List.set_cons_succ]; exact rfl) rfl (fun w hC hd K hK => ?_) ?_
    · obtain ⟨h3, h9, _⟩ := hd
      replace h3 : V 3 = .slice (some ⟨g, 0, none⟩) (m + 1) mc := h3
      replace h9 : V 9 = .int .i64 m := h9
      simp only [h3, h9] at hK
      have hlt1 : (m : Int) < m + 1 := by omega
      go_simp; exact hK _ _ (Below.refl _ _) rfl
    refine rgGoals_cons 12 (by intro v; simp only [Act.put, List.setIfInBounds_toArray, List.set_cons_zero, List.set_cons_succ]; exact rfl) rfl (fun w hC hd K hK => ?_) ?_
    · obtain ⟨h10, _⟩ := hd
      replace h10 : V 10 = .pointer (some ⟨g, m, none⟩) := h10
      simp only [h10] at hK
      have f1 := (hC.cell (p := ⟨g, m, none⟩) hgw).trans cm
      go_simp; exact hK _ _ (Below.refl _ _) rfl
    refine rgGoals_cons 13 (by intro v; simp only [Act.put, List.setIfInBounds_toArray, List.set_cons_zero, List.set_cons_succ]; exact rfl) rfl (fun w hC hd K hK => ?_) ?_
    · obtain ⟨h0, h1, h2, h3, h4, h5, h6, h7, h8, h9, h10, h11, _⟩ := hd
      replace h0 : V 0 = .pointer (some ⟨b, 0, none⟩) := h0
      replace h1 : V 1 = .pointer (some ⟨b, 0, none⟩) := h1
      replace h2 : V 2 = .pointer (some ⟨b, 1, none⟩) := h2
      replace h3 : V 3 = .slice (some ⟨g, 0, none⟩) (m + 1) mc := h3
      replace h4 : V 4 = .pointer (some ⟨b, 0, none⟩) := h4
      replace h5 : V 5 = .pointer (some ⟨b, 0, none⟩) := h5
      replace h6 : V 6 = .pointer (some ⟨b, 1, none⟩) := h6
      replace h7 : V 7 = .slice (some ⟨g, 0, none⟩) (m + 1) mc := h7
      replace h8 : V 8 = .int .i64 (m + 1) := h8
      replace h9 : V 9 = .int .i64 m := h9
      replace h10 : V 10 = .pointer (some ⟨g, m, none⟩) := h10
      replace h11 : V 11 = .int .i64 q := h11
      simp only [h0, h1, h2, h3, h4, h5, h6, h7, h8, h9, h10, h11] at hK
      go_simp; exact hK _ _ (Below.refl _ _) rfl
    trivial
  case rgC => exact fun w1 w2 h1 h2 => below_ext h1 (Nat.le_refl _) h2
  case rg0 => exact (Below.refl _ _).drew
  case rgQ =>
    intro V w2 hC hp
    have h12 : V 12 = .int .i64 q := postsHold_at hp 12 rfl
    simp only [putAll, Act.put, List.setIfInBounds_toArray, List.set_cons_zero, List.set_cons_succ]
    simp only [Nat.reduceAdd, h12]
    have d1 := (hC.cell (p := ⟨b, 1, none⟩) hb).trans c1
    have d0 := (hC.cell (p := ⟨b, 0, none⟩) hb).trans c0
    have x0 := (hC.frozen (p := ⟨b, 0, none⟩) hb).trans z0
    have x1 := (hC.frozen (p := ⟨b, 1, none⟩) hb).trans z1
    have hb2 := Nat.lt_of_lt_of_le hb hC.size
    have H2 := hid (H.out.ext hC)
    have HC := hid hC
    clear hC hp h12 c0 c1 c2 z0 z1 z2 cm
    generalize V 0 = V0, V 1 = V1, V 2 = V2, V 3 = V3, V 4 = V4, V 5 = V5, V 6 = V6, V 7 = V7, V 8 = V8, V 9 = V9, V 10 = V10, V 11 = V11
    clear V
    go_wp2
    refine wp_region_rg_tail 12 (fun w' => Below w2.heap.size w2 w') (fun w w' => Below w.heap.size w w') (postsB4 b m g mc)
        [[], [], [1], [2], [3], [], [5], [6], [7], [8], [9], [4, 10], [], [], []]
        67 (by kernel_rfl) rfl (by kernel_rfl) rfl ?rg0 ?rgC ?rgP ?rgS ?rgQ
    case rgP => exact ⟨kept_eq, kept_eq, kept_eq, kept_eq, kept_eq, kept_eq, kept_eq, kept_eq, kept_eq, kept_eq, kept_eq, kept_eq, trivial⟩
    case rgS =>
      intro V
      refine rgGoals_cons 1 (by intro v; simp only [Act.put, List.setIfInBounds_toArray, List.set_cons_zero, List.set_cons_succ]; exact rfl) rfl (fun w hC hd K hK => ?_) ?_
      · clear hd
        go_simp; exact hK _ _ (Below.refl _ _) rfl
      refine rgGoals_cons 2 (by intro v; simp only [Act.put, List.setIfInBounds_toArray, List.set_cons_zero, List.set_cons_succ]; exact rfl) rfl (fun w hC hd K hK => ?_) ?_
      · clear hd
        go_simp; exact hK _ _ (Below.refl _ _) rfl
      refine rgGoals_cons 3 (by intro v; simp only [Act.put, List.setIfInBounds_toArray, List.set_cons_zero, List.set_cons_succ]; exact rfl) rfl (fun w hC hd K hK => ?_) ?_
      · obtain ⟨h1, _⟩ := hd
        replace h1 : V 1 = .pointer (some ⟨b, 0, none⟩) := h1
        simp only [h1] at hK
        go_simp; exact hK _ _ (Below.refl _ _) rfl
      refine rgGoals_cons 4 (by intro v; simp only [Act.put, List.setIfInBounds_toArray, List.set_cons_zero, List.set_cons_succ]; exact rfl) rfl (fun w hC hd K hK => ?_) ?_
      · obtain ⟨h2, _⟩ := hd
        replace h2 : V 2 = .pointer (some ⟨b, 0, none⟩) := h2
        simp only [h2] at hK
        go_simp; exact hK _ _ (Below.refl _ _) rfl
      refine rgGoals_cons 5 (by intro v; simp only [Act.put, List.setIfInBounds_toArray, List.set_cons_zero, List.set_cons_succ]; exact rfl) rfl (fun w hC hd K hK => ?_) ?_
      · obtain ⟨h3, _⟩ := hd
        replace h3 : V 3 = .pointer (some ⟨b, 1, none⟩) := h3
        simp only [h3] at hK
        have f1 := (hC.cell (p := ⟨b, 1, none⟩) hb2).trans d1
        go_simp; exact hK _ _ (Below.refl _ _) rfl
      refine rgGoals_cons 6 (by intro v; simp only [Act.put, List.setIfInBounds_toArray, List.set_cons_zero, List.set_cons_succ]; exact rfl) rfl (fun w hC hd K hK => ?_) ?_
      · clear hd
        go_simp; exact hK _ _ (Below.refl _ _) rfl
      refine rgGoals_cons 7 (by intro v; simp only [Act.put, List.setIfInBounds_toArray, List.set_cons_zero, List.set_cons_succ]; exact rfl) rfl (fun w hC hd K hK => ?_) ?_
      · obtain ⟨h5, _⟩ := hd
        replace h5 : V 5 = .pointer (some ⟨b, 0, none⟩) := h5
        simp only [h5] at hK
        go_simp; exact hK _ _ (Below.refl _ _) rfl
      refine rgGoals_cons 8 (by intro v; simp only [Act.put, List.setIfInBounds_toArray, List.set_cons_zero, List.set_cons_succ]; exact rfl) rfl (fun w hC hd K hK => ?_) ?_
      · obtain ⟨h6, _⟩ := hd
        replace h6 : V 6 = .pointer (some ⟨b, 0, none⟩) := h6
        simp only [h6] at hK
        go_simp; exact hK _ _ (Below.refl _ _) rfl
      refine rgGoals_cons 9 (by intro v; simp only [Act.put, List.setIfInBounds_toArray, List.set_cons_zero, List.set_cons_succ]; exact rfl) rfl (fun w hC hd K hK => ?_) ?_
      · obtain ⟨h7, _⟩ := hd
        replace h7 : V 7 = .pointer (some ⟨b, 1, none⟩) := h7
        simp only [h7] at hK
        have f1 := (hC.cell (p := ⟨b, 1, none⟩) hb2).trans d1
        go_simp; exact hK _ _ (Below.refl _ _) rfl
      refine rgGoals_cons 10 (by intro v; simp only [Act.put, List.setIfInBounds_toArray, List.set_cons_zero, List.set_cons_succ]; exact rfl) rfl (fun w hC hd K hK => ?_) ?_
      · obtain ⟨h8, _⟩ := hd
        replace h8 : V 8 = .slice (some ⟨g, 0, none⟩) (m + 1) mc := h8
        simp only [h8] at hK
        go_simp; exact hK _ _ (Below.refl _ _) (by push_cast; rfl)
      refine rgGoals_cons 11 (by intro v; simp only [Act.put, List.setIfInBounds_toArray, List.set_cons_zero, List.set_cons_succ]; exact rfl) rfl (fun w hC hd K hK => ?_) ?_
      · obtain ⟨h9, _⟩ := hd
        replace h9 : V 9 = .int .i64 (m + 1) := h9
        simp only [h9] at hK
        go_simp; exact hK _ _ (Below.refl _ _) (by first | rfl | (congr 1; rw [wrap_i64_def]; omega))
      refine rgGoals_cons 12 (by intro v; simp only [Act.put, List.setIfInBounds_toArray, List.set_cons_zero, List.set_cons_succ]; exact rfl) rfl (fun w hC hd K hK => ?_) ?_
      · obtain ⟨h4, h10, _⟩ := hd
        replace h4 : V 4 = .slice (some ⟨g, 0, none⟩) (m + 1) mc := h4
        replace h10 : V 10 = .int .i64 m := h10
        simp only [h4, h10] at hK
        have hle : m ≤ mc := by omega
        go_simp; exact hK _ _ (Below.refl _ _) rfl
      trivial
    case rgC => exact fun w1 w3 h1 h2 => below_ext h1 (Nat.le_refl _) h2
    case rg0 => exact (Below.refl _ _).drew
    case rgQ =>
      intro V w3 hC3 hp
      have h0 : V 0 = .pointer (some ⟨b, 0, none⟩) := postsHold_at hp 0 rfl
      have h11 : V 11 = .slice (some ⟨g, 0, none⟩) m mc := postsHold_at hp 11 rfl
      simp only [List.take_succ_cons, List.take_zero, List.drop_succ_cons, List.drop_zero, putAll, Act.put, List.setIfInBounds_toArray, List.set_cons_zero, List.set_cons_succ]
      simp only [Nat.reduceAdd, h0, h11]
      have c0w := (hC3.cell (p := ⟨b, 0, none⟩) hb2).trans d0
      have z0w := (hC3.frozen (p := ⟨b, 0, none⟩) hb2).trans x0
      have c1w := (hC3.cell (p := ⟨b, 1, none⟩) hb2).trans d1
      have z1w := (hC3.frozen (p := ⟨b, 1, none⟩) hb2).trans x1
      obtain ⟨r1, r2⟩ := (H2.out.ext hC3).cutM (m := m) (mc := mc) (ma := some ⟨g, 0, none⟩) (by rw [Hmm.out]; exact c1w) (by rw [Hmm.out]; omega) (by rw [Hmm.out]; omega)
      rw [show (M0 ++ [(q : Int)]).take m = M0 by rw [← Hm.out]; simp] at r1
      have hbw : Below base w (w3.setCell ⟨b, 1, none⟩ (.slice (some ⟨g, 0, none⟩) m mc)) := ((HC.out.mono hbase).trans (hC3.mono (Nat.le_trans hbase HC.out.size))).setCell (p := ⟨b, 1, none⟩) hbb _
      have hfw := hid (((JFr.of_below HC.out).trans (JFr.of_below hC3)).trans r2)
      have R1 := hid r1
      have hszw : w.heap.size ≤ (w3.setCell ⟨b, 1, none⟩ (.slice (some ⟨g, 0, none⟩) m mc)).heap.size := hbw.size
      clear r1 r2 hp h0 h11 d0 x0 d1 x1 hb2 hC3
      generalize V 0 = U0, V 1 = U1, V 2 = U2, V 3 = U3, V 4 = U4, V 5 = U5, V 6 = U6, V 7 = U7, V 8 = U8, V 9 = U9, V 10 = U10
      clear V
      go_wp2
      generalize w3.setCell ⟨b, 1, none⟩ (.slice (some ⟨g, 0, none⟩) m mc) = W at *
      have hq6 := Hq.out
      obtain ⟨la9, lc9, ma9, mc9, p0, p1, p2, g0, g1, g2, hb9, _, hblk9, hl9, hm9, hlc9, hmc9⟩ := R1.out.open
      obtain ⟨la8, lc8, he8, _, hrow8⟩ := slice_of_own hl9
      simp at he8
      obtain ⟨rfl, rfl⟩ := he8
      have Hrow := hid hrow8
      clear hrow8 hblk9 hl9 hm9 c0w z0w c1w z1w hmc9 hg
      have HL := hid (outE_succ L)
      go_loopw [5, 6] (fun s iv wr => ∃ p k : Nat, p + k = L.length ∧ q ≤ p ∧ iv = .int .i64 ((p : Int) - 1) ∧ wr.ownsRow W.heap.size 54 4 s k (flatE (outE L k)) ∧ Below W.heap.size W wr) (fun _ iv _ => (intOf iv + 1).toNat)
      case atStart =>
        refine ⟨L.length, 0, rfl, hq6, ?_, by rw [outE_zero]; exact World.ownsRow_nil _ _ _ _, Below.refl _ _⟩
        congr 1
        try (rw [wrap_i64_def]; omega)
      case round =>
        obtain ⟨p, k, hpk, hqp, rfl, hown, hbr⟩ := hrel
        have hszr := hbr.size
        obtain ⟨sa, sc, rfl, -, -⟩ := slice_of_own hown
        by_cases hlt : q < p
        · obtain ⟨p', rfl⟩ : ∃ p', p = p' + 1 := ⟨p - 1, by omega⟩
          have hpl : p' < L.length := by omega
          obtain ⟨gl, rfl, _, hgl, hcl⟩ := Hrow.out (by omega)
          rw [show ((p' + 1 : Nat) : Int) - 1 = (p' : Int) by omega]
          have e0 := (hbr.cell (p := ⟨gl, p' * 4, none⟩) hgl).trans ((hcl (p' * 4) (by omega)).trans (flatE_at L p' 0 hpl (by omega)))
          have e1 := (hbr.cell (p := ⟨gl, p' * 4 + 1, none⟩) hgl).trans ((hcl (p' * 4 + 1) (by omega)).trans (flatE_at L p' 1 hpl (by omega)))
          have e2 := (hbr.cell (p := ⟨gl, p' * 4 + 2, none⟩) hgl).trans ((hcl (p' * 4 + 2) (by omega)).trans (flatE_at L p' 2 hpl (by omega)))
          have e3 := (hbr.cell (p := ⟨gl, p' * 4 + 3, none⟩) hgl).trans ((hcl (p' * 4 + 3) (by omega)).trans (flatE_at L p' 3 hpl (by omega)))
          have hsucc := HL.out k (by omega)
          rw [show L.length - 1 - k = p' by omega] at hsucc
          rcases hE : eAt L p' with ⟨E1, E2, E3, E4⟩
          rw [hE] at e0 e1 e2 e3 hsucc
          replace e0 : wr.cell? ⟨gl, p' * 4, none⟩ = some (.int .i64 E1) := e0
          replace e1 : wr.cell? ⟨gl, p' * 4 + 1, none⟩ = some (.int .i64 E2) := e1
          replace e2 : wr.cell? ⟨gl, p' * 4 + 2, none⟩ = some (.int .u64 E3) := e2
          replace e3 : wr.cell? ⟨gl, p' * 4 + 3, none⟩ = some (.string E4) := e3
          have Hsucc := hid hsucc
          have r0 := (hbr.cell (p := ⟨b, 0, none⟩) hb9).trans p0
          have Hown := hid hown
          have tge : decide ((p' : Int) ≥ q) = true := decide_eq_true (by omega)
          clear hsucc hown hE
          go_wp2_with (at_builtin; refine wpList_pushs Try.underlying61 infoE rfl (by decide) (by decide) Hown.out hszr (by omega) rfl rfl rfl rfl rfl (by intro u hu; simp at hu; rcases hu with rfl | rfl | rfl | rfl <;> rfl) ?_; intro v' w' hown' hb' hlt')
          go_roundw
          case rel =>
            refine ⟨p', k + 1, by omega, by omega, by first | rfl | (congr 1; unfold wrap64; omega) | (congr 1; rw [wrap_i64_def]; omega), ?_, hbr.trans hb'⟩
            rw [Hsucc.out, flatE_append]
            exact hown'
          case measure => simp [intOf]; try omega
        · obtain rfl : p = q := by omega
          have tge : decide ((p : Int) - 1 ≥ p) = false := decide_eq_false (by omega)
          have r0 := (hbr.cell (p := ⟨b, 0, none⟩) hb9).trans p0
          have s0 := (hbr.frozen (p := ⟨b, 0, none⟩) hb9).trans g0
          have hle9 : p ≤ lc9 := by omega
          have hRr := R1.out.ext hbr
          obtain ⟨t1, t2⟩ := hRr.cutL0 (m := p) (lc := lc9) (la := la9) r0 (by omega)
          have T1 := hid t1
          have T2 := hid t2
          have hne : ∀ gg, (Value.slice sa k sc).ownBlock = some gg → gg ≠ b := by
            intro gg hgg
            have := (hown.lt gg hgg).1
            omega
          have Hown := hid (ownsRow_other hown ⟨b, 0, none⟩ (.slice la9 p lc9) (fun h => (hne b h) rfl))
          have hkk : k = L.length - p := by omega
          clear t1 t2 hown hRr hne
          go_wp2
          go_ret2
          refine ⟨⟨_, rfl, ?_⟩, T1.out, (hbw.trans (hbr.mono (Nat.le_trans hbase hszw))).setCell (p := ⟨b, 0, none⟩) hbb _, (hfw.out.trans (JFr.of_below hbr)).trans T2.out⟩
          rw [← hkk]
          exact ownsRow_mono Hown.out hszw
end Go.Proofs.Ytmcmickgllffoaa
