/- What is proved here: sorted parts of a list and how symMerge joins them: plain. -/
import Derived.Test.YtbllifhcfgjdlaaGgV
namespace Go.Proofs.Ytbllifhcfgjdlaa
open Go.RowKit FltT
set_option linter.unusedVariables false
set_option linter.unusedSimpArgs false
def KK (l : List Nat) (i : Nat) : Int := keyN (l.getD i 0)
def Srt (l : List Nat) (p q : Nat) : Prop := ∀ i j, p ≤ i → i ≤ j → j < q → KK l i ≤ KK l j
/-- l' is l with its part [p, q) put into another order -/
structure MG (p q : Nat) (l l' : List Nat) : Prop where
  perm : l'.Perm l
  out : ∀ i, i < p ∨ q ≤ i → l'.getD i 0 = l.getD i 0
  ins : ∀ i, p ≤ i → i < q → ∃ k, p ≤ k ∧ k < q ∧ l'.getD i 0 = l.getD k 0
theorem MG.len {p q : Nat} {l l' : List Nat} (h : MG p q l l') : l'.length = l.length := h.perm.length_eq
theorem MG.allW {p q : Nat} {l l' : List Nat} (h : MG p q l l') (hW : allW l) : allW l' := fun x hx => hW x (h.perm.mem_iff.1 hx)
theorem MG.refl (p q : Nat) (l : List Nat) : MG p q l l := ⟨List.Perm.refl _, fun _ _ => rfl, fun i h1 h2 => ⟨i, h1, h2, rfl⟩⟩
theorem MG.trans {p q : Nat} {l l' l'' : List Nat} (h : MG p q l l') (h2 : MG p q l' l'') : MG p q l l'' :=
  ⟨h2.perm.trans h.perm, fun i hi => by rw [h2.out i hi, h.out i hi], fun i h3 h4 => by
    obtain ⟨k, k1, k2, e⟩ := h2.ins i h3 h4
    obtain ⟨k', k3, k4, e'⟩ := h.ins k k1 k2
    exact ⟨k', k3, k4, by rw [e, e']⟩⟩
theorem MG.mono {p q a b : Nat} {l l' : List Nat} (h : MG a b l l') (h1 : p ≤ a) (h2 : b ≤ q) : MG p q l l' :=
  ⟨h.perm, fun i hi => h.out i (by omega), fun i h3 h4 => by
    by_cases hi : a ≤ i ∧ i < b
    · obtain ⟨k, k1, k2, e⟩ := h.ins i hi.1 hi.2
      exact ⟨k, by omega, by omega, e⟩
    · exact ⟨i, h3, h4, h.out i (by omega)⟩⟩
theorem MG.of_via {τ : Nat → Nat} {p q : Nat} {l l' : List Nat} (h : Via τ l l') (h1 : ∀ i, i < p ∨ q ≤ i → τ i = i) (h2 : ∀ i, p ≤ i → i < q → p ≤ τ i ∧ τ i < q) : MG p q l l' :=
  ⟨h.perm, fun i hi => by rw [h.at', h1 i hi], fun i h3 h4 => ⟨τ i, (h2 i h3 h4).1, (h2 i h3 h4).2, h.at' i⟩⟩
theorem Via.kk {τ : Nat → Nat} {l l' : List Nat} (h : Via τ l l') (i : Nat) : KK l' i = KK l (τ i) := by unfold KK; rw [h.at']
theorem MG.kk {p q : Nat} {l l' : List Nat} (h : MG p q l l') {i : Nat} (hi : i < p ∨ q ≤ i) : KK l' i = KK l i := by unfold KK; rw [h.out i hi]
theorem MG.srt {p q a b : Nat} {l l' : List Nat} (h : MG p q l l') (hs : Srt l a b) (hd : b ≤ p ∨ q ≤ a) : Srt l' a b := by
  intro i j h1 h2 h3
  rw [h.kk (by omega), h.kk (by omega)]
  exact hs i j h1 h2 h3
/-- the element at p goes to t -/
def shlT (p t k : Nat) : Nat := if p ≤ k ∧ k < t then k + 1 else if k = t then p else k
theorem shl_zero (p k : Nat) : id k = shlT p p k := by
  unfold shlT
  rw [if_neg (by omega)]
  split
  · rename_i h; rw [h]; rfl
  · rfl
theorem shl_step {p t : Nat} (h : p ≤ t) (k : Nat) : shlT p t (swpT t (t + 1) k) = shlT p (t + 1) k := by
  unfold shlT swpT
  repeat' split
  all_goals omega
/-- the element at m goes down to t -/
def shrT (m t k : Nat) : Nat := if k = t then m else if t < k ∧ k ≤ m then k - 1 else k
theorem shr_zero (m k : Nat) : id k = shrT m m k := by
  unfold shrT
  split
  · rename_i h; rw [h]; rfl
  · rw [if_neg (by omega)]; rfl
theorem shr_step {m t : Nat} (h0 : 0 < t) (h : t ≤ m) (k : Nat) : shrT m t (swpT t (t - 1) k) = shrT m (t - 1) k := by
  unfold shrT swpT
  repeat' split
  all_goals omega
theorem merge_left {l cur : List Nat} {p q i : Nat} (hi : p + 1 ≤ i) (hiq : i ≤ q) (hs : Srt l (p + 1) q) (hlo : ∀ x, p + 1 ≤ x → x < i → KK l x < KK l p) (hhi : ∀ x, i ≤ x → x < q → ¬ KK l x < KK l p) (hv : Via (shlT p (i - 1)) l cur) : MG p q l cur ∧ Srt cur p q := by
  refine ⟨MG.of_via hv (fun x hx => ?_) (fun x h1 h2 => ?_), fun x y h1 h2 h3 => ?_⟩
  · unfold shlT; repeat' split
    all_goals omega
  · unfold shlT; repeat' split
    all_goals omega
  · rw [hv.kk, hv.kk]
    by_cases c1 : x < i - 1
    · rw [show shlT p (i - 1) x = x + 1 by unfold shlT; rw [if_pos ⟨h1, c1⟩]]
      by_cases c2 : y < i - 1
      · rw [show shlT p (i - 1) y = y + 1 by unfold shlT; rw [if_pos ⟨by omega, c2⟩]]
        exact hs _ _ (by omega) (by omega) (by omega)
      · by_cases c3 : y = i - 1
        · rw [show shlT p (i - 1) y = p by unfold shlT; rw [if_neg (by omega), if_pos c3]]
          have := hlo (x + 1) (by omega) (by omega); omega
        · rw [show shlT p (i - 1) y = y by unfold shlT; rw [if_neg (by omega), if_neg c3]]
          exact hs _ _ (by omega) (by omega) (by omega)
    · by_cases c3 : x = i - 1
      · rw [show shlT p (i - 1) x = p by unfold shlT; rw [if_neg (by omega), if_pos c3]]
        by_cases c4 : y = i - 1
        · rw [show shlT p (i - 1) y = p by unfold shlT; rw [if_neg (by omega), if_pos c4]]; exact Int.le_refl _
        · rw [show shlT p (i - 1) y = y by unfold shlT; rw [if_neg (by omega), if_neg c4]]
          have := hhi y (by omega) (by omega); omega
      · rw [show shlT p (i - 1) x = x by unfold shlT; rw [if_neg (by omega), if_neg c3], show shlT p (i - 1) y = y by unfold shlT; rw [if_neg (by omega), if_neg (by omega)]]
        exact hs _ _ (by omega) (by omega) (by omega)
theorem merge_right {l cur : List Nat} {p m i : Nat} (hi : p ≤ i) (him : i ≤ m) (hs : Srt l p m) (hlo : ∀ x, p ≤ x → x < i → ¬ KK l m < KK l x) (hhi : ∀ x, i ≤ x → x < m → KK l m < KK l x) (hv : Via (shrT m i) l cur) : MG p (m + 1) l cur ∧ Srt cur p (m + 1) := by
  refine ⟨MG.of_via hv (fun x hx => ?_) (fun x h1 h2 => ?_), fun x y h1 h2 h3 => ?_⟩
  · unfold shrT; repeat' split
    all_goals omega
  · unfold shrT; repeat' split
    all_goals omega
  · rw [hv.kk, hv.kk]
    by_cases c1 : x < i
    · rw [show shrT m i x = x by unfold shrT; rw [if_neg (by omega), if_neg (by omega)]]
      by_cases c2 : y < i
      · rw [show shrT m i y = y by unfold shrT; rw [if_neg (by omega), if_neg (by omega)]]
        exact hs _ _ (by omega) (by omega) (by omega)
      · by_cases c3 : y = i
        · rw [show shrT m i y = m by unfold shrT; rw [if_pos c3]]
          have := hlo x (by omega) (by omega); omega
        · rw [show shrT m i y = y - 1 by unfold shrT; rw [if_neg c3, if_pos (by omega)]]
          exact hs _ _ (by omega) (by omega) (by omega)
    · by_cases c3 : x = i
      · rw [show shrT m i x = m by unfold shrT; rw [if_pos c3]]
        by_cases c4 : y = i
        · rw [show shrT m i y = m by unfold shrT; rw [if_pos c4]]; exact Int.le_refl _
        · rw [show shrT m i y = y - 1 by unfold shrT; rw [if_neg c4, if_pos (by omega)]]
          have := hhi (y - 1) (by omega) (by omega); omega
      · rw [show shrT m i x = x - 1 by unfold shrT; rw [if_neg c3, if_pos (by omega)], show shrT m i y = y - 1 by unfold shrT; rw [if_neg (by omega), if_pos (by omega)]]
        exact hs _ _ (by omega) (by omega) (by omega)
/-- what stands behind the rotation -/
structure MidR (p s mid e q : Nat) (l cur : List Nat) : Prop where
  mg : MG p q l cur
  s1 : Srt cur p s
  s2 : Srt cur s mid
  s3 : Srt cur mid e
  s4 : Srt cur e q
  cross : ∀ x y, p ≤ x → x < mid → mid ≤ y → y < q → KK cur x ≤ KK cur y
theorem merge_mid {l cur : List Nat} {p m q mid st hi s : Nat} (hpm : p < m) (hmq : m < q) (h1 : p ≤ st) (h2 : hi ≤ m) (h3 : hi ≤ mid) (h4 : mid + m ≤ st + q) (h5 : st = p ∨ mid + m = st + q) (h6 : hi = m ∨ hi = mid) (hmid : p ≤ mid) (hs1 : st ≤ s) (hs2 : s ≤ hi)
    (ha : Srt l p m) (hb : Srt l m q) (hlo : ∀ c, st ≤ c → c < s → KK l c ≤ KK l (mid + m - 1 - c)) (hhi : ∀ c, s ≤ c → c < hi → KK l (mid + m - 1 - c) < KK l c) (hv : Via (rot s m (mid + m - s)) l cur) : MidR p s mid (mid + m - s) q l cur := by
  have r1 : ∀ x, x < s → KK cur x = KK l x := fun x hx => by rw [hv.kk]; unfold rot; rw [if_pos hx]
  have r2 : ∀ x, s ≤ x → x < mid → KK cur x = KK l (x + (m - s)) := fun x hx hx2 => by rw [hv.kk]; unfold rot; rw [if_neg (by omega), if_pos (by omega)]
  have r3 : ∀ x, mid ≤ x → x < mid + m - s → KK cur x = KK l (x - (mid - s)) := fun x hx hx2 => by rw [hv.kk]; unfold rot; rw [if_neg (by omega), if_neg (by omega), if_pos hx2, show mid + m - s - m = mid - s by omega]
  have r4 : ∀ x, mid + m - s ≤ x → KK cur x = KK l x := fun x hx => by rw [hv.kk]; unfold rot; rw [if_neg (by omega), if_neg (by omega), if_neg (by omega)]
  refine ⟨MG.of_via hv (fun x hx => ?_) (fun x c1 c2 => ?_), fun x y c1 c2 c3 => ?_, fun x y c1 c2 c3 => ?_, fun x y c1 c2 c3 => ?_, fun x y c1 c2 c3 => ?_, fun x y c1 c2 c3 c4 => ?_⟩
  · unfold rot; repeat' split
    all_goals omega
  · unfold rot; repeat' split
    all_goals omega
  · rw [r1 x (by omega), r1 y (by omega)]; exact ha _ _ c1 c2 (by omega)
  · rw [r2 x (by omega) (by omega), r2 y (by omega) (by omega)]; exact hb _ _ (by omega) (by omega) (by omega)
  · rw [r3 x (by omega) (by omega), r3 y (by omega) (by omega)]; exact ha _ _ (by omega) (by omega) (by omega)
  · rw [r4 x (by omega), r4 y (by omega)]; exact hb _ _ (by omega) (by omega) (by omega)
  · by_cases d1 : x < s
    · rw [r1 x d1]
      by_cases d2 : y < mid + m - s
      · rw [r3 y c3 d2]; exact ha _ _ c1 (by omega) (by omega)
      · rw [r4 y (by omega)]
        -- x in [p, s), y in [e, q)
        have hst : st < s := by omega
        have k1 := hlo (s - 1) (by omega) (by omega)
        have k2 := ha x (s - 1) c1 (by omega) (by omega)
        have k3 := hb (mid + m - 1 - (s - 1)) y (by omega) (by omega) c4
        omega
    · rw [r2 x (by omega) c2]
      by_cases d2 : y < mid + m - s
      · rw [r3 y c3 d2]
        have hsh : s < hi := by omega
        have k1 := hhi s (Nat.le_refl _) hsh
        have k2 := hb (x + (m - s)) (mid + m - 1 - s) (by omega) (by omega) (by omega)
        have k3 := ha s (y - (mid - s)) (by omega) (by omega) (by omega)
        omega
      · rw [r4 y (by omega)]; exact hb _ _ (by omega) (by omega) c4
theorem MidR.left {p s mid e q : Nat} {l cur : List Nat} (h : MidR p s mid e q l cur) (hs : ¬ (p < s ∧ s < mid)) (h1 : p ≤ s) (h2 : s ≤ mid) : Srt cur p mid := by
  by_cases c : s = p
  · have := h.s2; rw [c] at this; exact this
  · have := h.s1; rw [show s = mid by omega] at this; exact this
theorem MidR.right {p s mid e q : Nat} {l cur : List Nat} (h : MidR p s mid e q l cur) (hs : ¬ (mid < e ∧ e < q)) (h1 : mid ≤ e) (h2 : e ≤ q) : Srt cur mid q := by
  by_cases c : e = mid
  · have := h.s4; rw [c] at this; exact this
  · have := h.s3; rw [show e = q by omega] at this; exact this
theorem merge_end {p s mid e q : Nat} {l cur cur2 cur3 : List Nat} (h : MidR p s mid e q l cur) (hp : p ≤ mid) (hq : mid ≤ q) (h2 : MG p mid cur cur2) (hs2 : Srt cur2 p mid) (h3 : MG mid q cur2 cur3) (hs3 : Srt cur3 mid q) : MG p q l cur3 ∧ Srt cur3 p q := by
  refine ⟨h.mg.trans ((h2.mono (Nat.le_refl _) hq).trans (h3.mono hp (Nat.le_refl _))), fun x y c1 c2 c3 => ?_⟩
  by_cases d1 : mid ≤ x
  · exact hs3 x y d1 c2 c3
  · by_cases d2 : mid ≤ y
    · rw [h3.kk (by omega)]
      obtain ⟨kx, a1, a2, a3⟩ := h2.ins x c1 (by omega)
      obtain ⟨ky, b1, b2, b3⟩ := h3.ins y d2 c3
      have e1 : KK cur2 x = KK cur kx := by unfold KK; rw [a3]
      have e2 : KK cur3 y = KK cur2 ky := by unfold KK; rw [b3]
      rw [e1, e2, h2.kk (by omega)]
      exact h.cross kx ky a1 a2 b1 b2
    · rw [h3.kk (by omega), h3.kk (by omega)]
      exact hs2 x y c1 c2 (by omega)
theorem rot_id {a m b : Nat} (h : m ≤ a ∨ b ≤ m) (h1 : a ≤ m) (h2 : m ≤ b) (k : Nat) : rot a m b k = k := by
  unfold rot
  repeat' split
  all_goals omega
theorem half_shr (x : Nat) : Int.fdiv ((x : Nat) : Int) (2 ^ (min 1 IntKind.u64.bits)) = ((x / 2 : Nat) : Int) := by
  show Int.fdiv ((x : Nat) : Int) 2 = _
  rw [Int.fdiv_eq_ediv_of_nonneg _ (by decide)]
  omega
theorem ord_kk {l : List Nat} {i j : Nat} : (ordN (l.getD i 0) (l.getD j 0) < 0) = (KK l i < KK l j) := propext (ord_key _ _).1
end Go.Proofs.Ytbllifhcfgjdlaa
