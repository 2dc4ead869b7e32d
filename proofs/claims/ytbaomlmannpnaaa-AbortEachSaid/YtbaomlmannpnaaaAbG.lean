/- What is proved here: what the law's own functions plain and awake come to. -/
import Derived.Test.YtbaomlmannpnaaaAbE
import Derived.Test.YtbaomlmannpnaaaKit3
namespace Go.Proofs.Ytbaomlmannpnaaa
open Go.RowKit
set_option linter.unusedVariables false
set_option linter.unusedSimpArgs false

/-- The lowest bits of a number. -/
def maskI (x m : Int) : Int := bits .and .i64 x m

theorem maskI_63 (x : Int) : 0 ≤ maskI x 63 ∧ maskI x 63 ≤ 63 := by
  have h : (BitVec.ofInt 64 x &&& BitVec.ofInt 64 63).toNat ≤ 63 := by
    rw [BitVec.toNat_and]; exact Nat.le_trans Nat.and_le_right (by decide)
  have e : maskI x 63 = IntKind.i64.wrap ((BitVec.ofInt 64 x &&& BitVec.ofInt 64 63).toNat : Int) := rfl
  rw [e, wrap_i64_def]
  omega

theorem wrap_mask (x : Int) : IntKind.i64.wrap (1 + maskI x 63) = 1 + maskI x 63 := by
  obtain ⟨h, k⟩ := maskI_63 x
  rw [wrap_i64_def]
  omega

/-- Plain steps. -/
def plF (g : Nat → St) : Nat → St := fun j => ((g j).1, 1 + maskI (g j).2.1 63, maskI (g j).2.2 1023)

theorem plF_ne (g : Nat → St) (j : Nat) : (plF g j).2.1 ≠ 0 := by
  have := maskI_63 (g j).2.1
  show 1 + maskI (g j).2.1 63 ≠ 0
  omega

def cells3 (g : Nat → St) (n : Nat) : List Value := (List.range n).flatMap fun j => [.int .i64 (g j).1, .int .i64 (g j).2.1, .int .i64 (g j).2.2]

theorem cells3_succ (g : Nat → St) (n : Nat) : cells3 g (n + 1) = cells3 g n ++ [.int .i64 (g n).1, .int .i64 (g n).2.1, .int .i64 (g n).2.2] := by
  simp [cells3, List.range_succ]

theorem cells3_length (g : Nat → St) (n : Nat) : (cells3 g n).length = n * 3 := by
  induction n with
  | zero => rfl
  | succ n ih => rw [cells3_succ, List.length_append, ih]; simp; omega

theorem cells3_at (g : Nat → St) (n j : Nat) (h : j < n) : (cells3 g n)[j * 3]? = some (.int .i64 (g j).1) ∧ (cells3 g n)[j * 3 + 1]? = some (.int .i64 (g j).2.1) ∧ (cells3 g n)[j * 3 + 2]? = some (.int .i64 (g j).2.2) := by
  induction n with
  | zero => omega
  | succ n ih =>
    rw [cells3_succ]
    by_cases hj : j < n
    · obtain ⟨h0, h1, h2⟩ := ih hj
      have hl := cells3_length g n
      refine ⟨(List.getElem?_append_left (by omega)).trans h0, (List.getElem?_append_left (by omega)).trans h1, (List.getElem?_append_left (by omega)).trans h2⟩
    · have hjn : j = n := by omega
      subst hjn
      have hl := cells3_length g j
      refine ⟨?_, ?_, ?_⟩
      · rw [List.getElem?_append_right (by omega), hl, show j * 3 - j * 3 = 0 by omega]; rfl
      · rw [List.getElem?_append_right (by omega), hl, show j * 3 + 1 - j * 3 = 1 by omega]; rfl
      · rw [List.getElem?_append_right (by omega), hl, show j * 3 + 2 - j * 3 = 2 by omega]; rfl

theorem StR.of_own {w : World} {base e n : Nat} {v : Value} {g : Nat → St} (h : w.ownsRow base e 3 v n (cells3 g n)) :
    ∃ a cap, v = .slice a n cap ∧ n ≤ cap ∧ StR w a n g ∧ ∀ x, a = some x → base ≤ x.block ∧ x.block < w.heap.size := by
  obtain ⟨h1, h2⟩ := h
  rcases h2 with ⟨rfl, h0⟩ | ⟨b, cap, cur, hv, hb, hg, hc, _, _, ht⟩
  · subst h0
    exact ⟨none, 0, rfl, Nat.le_refl _, fun j hj => absurd hj (by omega), fun x hx => by cases hx⟩
  · have hlt := (Array.getElem?_eq_some_iff.1 hg).1
    have at' : ∀ j, j < n * 3 → w.cell? ⟨b, j, none⟩ = (cells3 g n)[j]? := by
      intro j hj
      rw [cell_of_row w b j cur e (0, 0) hg, ← ht, List.getElem?_take, if_pos hj]
      simp
    refine ⟨some ⟨b, 0, none⟩, cap, hv, hc, ?_, fun x hx => by cases hx; exact ⟨hb, hlt⟩⟩
    intro j hj
    obtain ⟨k0, k1, k2⟩ := cells3_at g n j hj
    refine ⟨b, 0, rfl, ?_, ?_, ?_, hlt⟩
    · rw [Nat.zero_add, at' _ (by omega)]; exact k0
    · rw [Nat.zero_add, at' _ (by omega)]; exact k1
    · rw [Nat.zero_add, at' _ (by omega)]; exact k2

theorem info64 : (Try.prog.info? 64).map (fun i => (i.zero, i.size, i.bytes)) = some (some (.agg #[.int .i64 0, .int .i64 0, .int .i64 0]), 3, 24) := by kernel_rfl

-- DEFS
def postsPl (n cap i b off : Nat) (u3 : Value) (g : Nat → St) (top : Nat) : List (Value → World → Prop) := [
    fun x _ => x = u3,
    fun x _ => x = .slice (some ⟨b, off, none⟩) n cap,
    fun x _ => x = .int .i64 i,
    fun x _ => x = .pointer (some ⟨b, off + i * 3, none⟩),
    fun x _ => x = .pointer (some ⟨b, off + i * 3, none⟩),
    fun x _ => x = .int .i64 (g i).1,
    fun x _ => x = .slice (some ⟨b, off, none⟩) n cap,
    fun x _ => x = .int .i64 i,
    fun x _ => x = .pointer (some ⟨b, off + i * 3, none⟩),
    fun x _ => x = .pointer (some ⟨b, off + i * 3 + 1, none⟩),
    fun x _ => x = .int .i64 (g i).2.1,
    fun x _ => x = .int .i64 (maskI (g i).2.1 63),
    fun x _ => x = .int .i64 (1 + maskI (g i).2.1 63),
    fun x _ => x = .slice (some ⟨b, off, none⟩) n cap,
    fun x _ => x = .int .i64 i,
    fun x _ => x = .pointer (some ⟨b, off + i * 3, none⟩),
    fun x _ => x = .pointer (some ⟨b, off + i * 3 + 2, none⟩),
    fun x _ => x = .int .i64 (g i).2.2,
    fun x _ => x = .int .i64 (maskI (g i).2.2 1023),
    fun x _ => x = .agg #[.int .i64 (g i).1, .int .i64 (1 + maskI (g i).2.1 63), .int .i64 (maskI (g i).2.2 1023)],
    fun v w => NewB top v #[.int .i64 (g i).1, .int .i64 (1 + maskI (g i).2.1 63), .int .i64 (maskI (g i).2.2 1023)] 64 w]
-- END DEFS
set_option maxHeartbeats 4000000 in
set_option maxRecDepth 100000 in
theorem plain_any (a : Option Addr) (n cap : Nat) (g : Nat → St) (w : World) (hlc : n ≤ cap) (hn : n ≤ 1000000) (hr : StR w a n g) :
    Calls Try.prog 11 #[.slice a n cap] w fun e w' => ∃ a' c', e = .returned (.slice a' n c') ∧ n ≤ c' ∧ StR w' a' n (plF g) ∧ (∀ x, a' = some x → w.heap.size ≤ x.block ∧ x.block < w'.heap.size) ∧ Below w.heap.size w w' := by
  have Hr := hid hr; clear hr
  go_enter Try.func11, Try.ntmps11
  go_wp2
  go_loopw [3, 4] (fun v iv wr => ∃ i : Nat, iv = .int .i64 i ∧ i ≤ n ∧ wr.ownsRow w.heap.size 64 3 v i (cells3 (plF g) i) ∧ Below w.heap.size w wr) (fun _ iv _ => n - (intOf iv).toNat)
  case atStart => exact ⟨0, rfl, Nat.zero_le _, World.ownsRow_nil _ _ _ _, Below.refl _ _⟩
  case round =>
    obtain ⟨i, rfl, hi, hown, hb⟩ := hrel
    by_cases hin : i < n
    · obtain ⟨b, off, rfl, c1, c2, c3, hbw⟩ := (Hr.out.ext hb) i hin
      have hsz := hb.size
      go_wp2
      -- REGION
      refine wp_region_rg_tail 21 (fun w' => Below wr.heap.size wr w') (fun w w' => Below w.heap.size w w') (postsPl n cap i b off u3 g wr.heap.size)
          [[], [], [], [1, 2], [3], [4], [], [], [6, 7], [8], [9], [10], [11], [], [], [13, 14], [15], [16], [17], [5, 12, 18], [19], [], []]
          34 (by kernel_rfl) rfl (by kernel_rfl) rfl ?rg0 ?rgC ?rgP ?rgS ?rgQ
      case rgP => exact ⟨kept_eq, kept_eq, kept_eq, kept_eq, kept_eq, kept_eq, kept_eq, kept_eq, kept_eq, kept_eq, kept_eq, kept_eq, kept_eq, kept_eq, kept_eq, kept_eq, kept_eq, kept_eq, kept_eq, kept_eq, newB_kept, trivial⟩
      case rgS =>
        intro V
        refine rgGoals_cons 1 (by intro v; simp only [Act.put, List.setIfInBounds_toArray, List.set_cons_zero, List.set_cons_succ]; exact rfl) rfl (fun w hC hd K hK => ?_) ?_
        · clear hd
          go_simp; exact hK _ _ (Below.refl _ _) rfl
        refine rgGoals_cons 2 (by intro v; simp only [Act.put, List.setIfInBounds_toArray, List.set_cons_zero, List.set_cons_succ]; exact rfl) rfl (fun w hC hd K hK => ?_) ?_
        · clear hd
          go_simp; exact hK _ _ (Below.refl _ _) rfl
        refine rgGoals_cons 3 (by intro v; simp only [Act.put, List.setIfInBounds_toArray, List.set_cons_zero, List.set_cons_succ]; exact rfl) rfl (fun w hC hd K hK => ?_) ?_
        · clear hd
          go_simp; exact hK _ _ (Below.refl _ _) rfl
        refine rgGoals_cons 4 (by intro v; simp only [Act.put, List.setIfInBounds_toArray, List.set_cons_zero, List.set_cons_succ]; exact rfl) rfl (fun w hC hd K hK => ?_) ?_
        · obtain ⟨h1, h2, _⟩ := hd
          replace h1 : V 1 = .slice (some ⟨b, off, none⟩) n cap := h1
          replace h2 : V 2 = .int .i64 i := h2
          simp only [h1, h2] at hK
          go_simp; exact hK _ _ (Below.refl _ _) rfl
        refine rgGoals_cons 5 (by intro v; simp only [Act.put, List.setIfInBounds_toArray, List.set_cons_zero, List.set_cons_succ]; exact rfl) rfl (fun w hC hd K hK => ?_) ?_
        · obtain ⟨h3, _⟩ := hd
          replace h3 : V 3 = .pointer (some ⟨b, off + i * 3, none⟩) := h3
          simp only [h3] at hK
          go_simp; exact hK _ _ (Below.refl _ _) rfl
        refine rgGoals_cons 6 (by intro v; simp only [Act.put, List.setIfInBounds_toArray, List.set_cons_zero, List.set_cons_succ]; exact rfl) rfl (fun w hC hd K hK => ?_) ?_
        · obtain ⟨h4, _⟩ := hd
          replace h4 : V 4 = .pointer (some ⟨b, off + i * 3, none⟩) := h4
          simp only [h4] at hK
          have e1 := (hC.cell (p := ⟨b, off + i * 3, none⟩) hbw).trans c1
          go_simp; exact hK _ _ (Below.refl _ _) rfl
        refine rgGoals_cons 7 (by intro v; simp only [Act.put, List.setIfInBounds_toArray, List.set_cons_zero, List.set_cons_succ]; exact rfl) rfl (fun w hC hd K hK => ?_) ?_
        · clear hd
          go_simp; exact hK _ _ (Below.refl _ _) rfl
        refine rgGoals_cons 8 (by intro v; simp only [Act.put, List.setIfInBounds_toArray, List.set_cons_zero, List.set_cons_succ]; exact rfl) rfl (fun w hC hd K hK => ?_) ?_
        · clear hd
          go_simp; exact hK _ _ (Below.refl _ _) rfl
        refine rgGoals_cons 9 (by intro v; simp only [Act.put, List.setIfInBounds_toArray, List.set_cons_zero, List.set_cons_succ]; exact rfl) rfl (fun w hC hd K hK => ?_) ?_
        · obtain ⟨h6, h7, _⟩ := hd
          replace h6 : V 6 = .slice (some ⟨b, off, none⟩) n cap := h6
          replace h7 : V 7 = .int .i64 i := h7
          simp only [h6, h7] at hK
          go_simp; exact hK _ _ (Below.refl _ _) rfl
        refine rgGoals_cons 10 (by intro v; simp only [Act.put, List.setIfInBounds_toArray, List.set_cons_zero, List.set_cons_succ]; exact rfl) rfl (fun w hC hd K hK => ?_) ?_
        · obtain ⟨h8, _⟩ := hd
          replace h8 : V 8 = .pointer (some ⟨b, off + i * 3, none⟩) := h8
          simp only [h8] at hK
          go_simp; exact hK _ _ (Below.refl _ _) rfl
        refine rgGoals_cons 11 (by intro v; simp only [Act.put, List.setIfInBounds_toArray, List.set_cons_zero, List.set_cons_succ]; exact rfl) rfl (fun w hC hd K hK => ?_) ?_
        · obtain ⟨h9, _⟩ := hd
          replace h9 : V 9 = .pointer (some ⟨b, off + i * 3 + 1, none⟩) := h9
          simp only [h9] at hK
          have e1 := (hC.cell (p := ⟨b, off + i * 3 + 1, none⟩) hbw).trans c2
          go_simp; exact hK _ _ (Below.refl _ _) rfl
        refine rgGoals_cons 12 (by intro v; simp only [Act.put, List.setIfInBounds_toArray, List.set_cons_zero, List.set_cons_succ]; exact rfl) rfl (fun w hC hd K hK => ?_) ?_
        · obtain ⟨h10, _⟩ := hd
          replace h10 : V 10 = .int .i64 (g i).2.1 := h10
          simp only [h10] at hK
          go_simp; exact hK _ _ (Below.refl _ _) rfl
        refine rgGoals_cons 13 (by intro v; simp only [Act.put, List.setIfInBounds_toArray, List.set_cons_zero, List.set_cons_succ]; exact rfl) rfl (fun w hC hd K hK => ?_) ?_
        · obtain ⟨h11, _⟩ := hd
          replace h11 : V 11 = .int .i64 (maskI (g i).2.1 63) := h11
          simp only [h11] at hK
          have e1 := wrap_mask (g i).2.1
          go_simp; exact hK _ _ (Below.refl _ _) (by first | rfl | (rw [← e1]; rfl))
        refine rgGoals_cons 14 (by intro v; simp only [Act.put, List.setIfInBounds_toArray, List.set_cons_zero, List.set_cons_succ]; exact rfl) rfl (fun w hC hd K hK => ?_) ?_
        · clear hd
          go_simp; exact hK _ _ (Below.refl _ _) rfl
        refine rgGoals_cons 15 (by intro v; simp only [Act.put, List.setIfInBounds_toArray, List.set_cons_zero, List.set_cons_succ]; exact rfl) rfl (fun w hC hd K hK => ?_) ?_
        · clear hd
          go_simp; exact hK _ _ (Below.refl _ _) rfl
        refine rgGoals_cons 16 (by intro v; simp only [Act.put, List.setIfInBounds_toArray, List.set_cons_zero, List.set_cons_succ]; exact rfl) rfl (fun w hC hd K hK => ?_) ?_
        · obtain ⟨h13, h14, _⟩ := hd
          replace h13 : V 13 = .slice (some ⟨b, off, none⟩) n cap := h13
          replace h14 : V 14 = .int .i64 i := h14
          simp only [h13, h14] at hK
          go_simp; exact hK _ _ (Below.refl _ _) rfl
        refine rgGoals_cons 17 (by intro v; simp only [Act.put, List.setIfInBounds_toArray, List.set_cons_zero, List.set_cons_succ]; exact rfl) rfl (fun w hC hd K hK => ?_) ?_
        · obtain ⟨h15, _⟩ := hd
          replace h15 : V 15 = .pointer (some ⟨b, off + i * 3, none⟩) := h15
          simp only [h15] at hK
          go_simp; exact hK _ _ (Below.refl _ _) rfl
        refine rgGoals_cons 18 (by intro v; simp only [Act.put, List.setIfInBounds_toArray, List.set_cons_zero, List.set_cons_succ]; exact rfl) rfl (fun w hC hd K hK => ?_) ?_
        · obtain ⟨h16, _⟩ := hd
          replace h16 : V 16 = .pointer (some ⟨b, off + i * 3 + 2, none⟩) := h16
          simp only [h16] at hK
          have e1 := (hC.cell (p := ⟨b, off + i * 3 + 2, none⟩) hbw).trans c3
          go_simp; exact hK _ _ (Below.refl _ _) rfl
        refine rgGoals_cons 19 (by intro v; simp only [Act.put, List.setIfInBounds_toArray, List.set_cons_zero, List.set_cons_succ]; exact rfl) rfl (fun w hC hd K hK => ?_) ?_
        · obtain ⟨h17, _⟩ := hd
          replace h17 : V 17 = .int .i64 (g i).2.2 := h17
          simp only [h17] at hK
          go_simp; exact hK _ _ (Below.refl _ _) rfl
        refine rgGoals_cons 20 (by intro v; simp only [Act.put, List.setIfInBounds_toArray, List.set_cons_zero, List.set_cons_succ]; exact rfl) rfl (fun w hC hd K hK => ?_) ?_
        · obtain ⟨h5, h12, h18, _⟩ := hd
          replace h5 : V 5 = .int .i64 (g i).1 := h5
          replace h12 : V 12 = .int .i64 (1 + maskI (g i).2.1 63) := h12
          replace h18 : V 18 = .int .i64 (maskI (g i).2.2 1023) := h18
          simp only [h5, h12, h18] at hK
          go_simp; exact hK _ _ (Below.refl _ _) rfl
        refine rgGoals_cons 21 (by intro v; simp only [Act.put, List.setIfInBounds_toArray, List.set_cons_zero, List.set_cons_succ]; exact rfl) rfl (fun w hC hd K hK => ?_) ?_
        · obtain ⟨h19, _⟩ := hd
          replace h19 : V 19 = .agg #[.int .i64 (g i).1, .int .i64 (1 + maskI (g i).2.1 63), .int .i64 (maskI (g i).2.2 1023)] := h19
          simp only [h19] at hK
          go_simp; exact hK _ _ ((Below.refl _ _).alloc (Nat.le_refl _) _) ⟨_, rfl, hC.size, heap_alloc_last _ _⟩
        trivial
      -- END REGION
      case rgC => exact fun w w' h1 h2 => below_ext h1 (Nat.le_refl _) h2
      case rg0 => exact (Below.refl _ _).drew
      case rgQ =>
        intro V w2 hC hp
        have h0 : V 0 = u3 := postsHold_at hp 0 rfl
        obtain ⟨k, h20, hk1, hk2⟩ := postsHold_at hp 20 rfl
        replace h20 : V 20 = .slice (some ⟨k, 0, none⟩) 1 1 := h20
        simp only [List.take_succ_cons, List.take_zero, List.drop_succ_cons, List.drop_zero, putAll, Act.put, List.setIfInBounds_toArray, List.set_cons_zero, List.set_cons_succ]
        simp only [Nat.reduceAdd, h20, h0]
        refine wpList_pushAt Try.underlying24 info64 rfl (by decide) (by decide) (ownsRow_ext hown hC) hk2 (Nat.le_trans hsz hC.size) (by omega) rfl rfl rfl rfl rfl (by intro u hu; simp at hu; rcases hu with rfl | rfl | rfl <;> rfl) ?_
        intro v' w' hown' hb'
        go_wp2
        go_roundw
        case rel =>
          refine ⟨i + 1, by go_num, by omega, ?_, (hb.trans (hC.mono hsz)).trans hb'⟩
          rw [cells3_succ]
          exact hown'
        case measure => simp [intOf]; omega
    · obtain rfl : i = n := by omega
      obtain ⟨a', c', rfl, h1, h2, h3⟩ := StR.of_own hown
      go_wp2
      go_ret
      exact ⟨_, _, rfl, h1, h2, h3, hb⟩
theorem enter37 (args : Array Value) (w : World) : (callFunc 37 args).run Try.prog w = .ok (.enter 37 args) w := enterOf Try.func37 (by kernel_rfl) rfl args w
theorem enter39 (args : Array Value) (w : World) : (callFunc 39 args).run Try.prog w = .ok (.enter 39 args) w := enterOf Try.func39 (by kernel_rfl) rfl args w

set_option maxRecDepth 100000 in
theorem in39 (w : World) : Calls Try.prog 39 #[] w fun e w' => e = endOf (2, 3) ∧ w' = w := by
  go_enter Try.func39, Try.ntmps39
  go_wp2_with fail
  refine (now_any _ _ _).mono ?_
  rintro ev w' ⟨rfl, rfl⟩
  exact ⟨rfl, rfl, rfl⟩

theorem out_pure (k : FuncId) (cap : Array Value) (w : World) (s : Int × Int) (hs : s.1 = 0 → s.2 = 0)
    (hin : ∀ (args : Array Value) (w : World), (callFunc k args).run Try.prog w = .ok (.enter k args) w)
    (hc : Calls Try.prog k cap (w.alloc (.cells zstop 27)) fun e w' => e = endOf s ∧ Below (w.heap.size + 1) (w.alloc (.cells zstop 27)) w') :
    Calls Try.prog 15 #[.func (.func k) #[] cap] w fun e w' => e = .returned (.agg #[.int .i64 s.1, .int .i64 s.2]) ∧ Below w.heap.size w w' := by
  refine (out_end k cap w (fun _ => True) s hs (w.heap.size + 1) (by omega) hin (hc.mono ?_)).mono ?_
  · rintro e w' ⟨rfl, hb⟩; exact ⟨rfl, Ran.of _ hb, trivial⟩
  · rintro e w' ⟨rfl, w1, -, hr, hb⟩
    have h1 := hr.below (Nat.le_refl _)
    have h2 : Below w.heap.size w w1 := ((Below.refl _ w).alloc (Nat.le_refl _) _).trans (h1.mono (Nat.le_succ _))
    exact ⟨rfl, h2.trans hb⟩

theorem out39 (w : World) : Calls Try.prog 15 #[.func (.func 39) #[] #[]] w fun e w' => e = .returned (.agg #[.int .i64 2, .int .i64 3]) ∧ Below w.heap.size w w' :=
  out_pure _ _ w (2, 3) (by decide) enter39 ((in39 _).mono (by rintro e w' ⟨rfl, rfl⟩; exact ⟨rfl, Below.refl _ _⟩))

set_option maxRecDepth 100000 in
theorem in37 (w : World) : Calls Try.prog 37 #[] w fun e w' => e = endOf (2, 13) ∧ Below w.heap.size w w' := by
  go_enter Try.func37, Try.ntmps37
  go_wp2_with fail
  refine (within_any _ _ 10 2 3 _ _ (out39 _)).mono ?_
  rintro ev w' ⟨rfl, w1, h1, h2⟩
  exact ⟨rfl, by simp [endOf, wrap64], h1.trans (h2.mono h1.size)⟩

set_option maxRecDepth 100000 in
theorem awake_any (w : World) : Calls Try.prog 9 #[] w fun e w' => e = .returned (.bool true) ∧ Below w.heap.size w w' := by
  go_enter Try.func9, Try.ntmps9
  go_wp2_with fail
  refine (out_pure _ _ _ (2, 13) (by decide) enter37 ((in37 _).mono (by rintro e w' ⟨rfl, hb⟩; exact ⟨rfl, by simpa using hb⟩))).mono ?_
  rintro ev w' ⟨rfl, hb⟩
  go_wp2
  go_ret
  exact ⟨rfl, hb⟩
end Go.Proofs.Ytbaomlmannpnaaa
