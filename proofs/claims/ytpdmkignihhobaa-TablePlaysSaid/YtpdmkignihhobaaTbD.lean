/- What is proved here: the other functions of a table, and the document's own lists. -/
import Derived.Test.YtpdmkignihhobaaTbB
import Derived.Test.YtpdmkignihhobaaKit2
namespace Go.Proofs.Ytpdmkignihhobaa
open Go.RowKit
set_option linter.unusedVariables false
set_option linter.unusedSimpArgs false

/-- An element. -/
def atL (L : List Int) (j : Nat) : Int := L.getD j 0

/-- A slice that holds a list of numbers, to be read. -/
def RdL (w : World) (a : Option Addr) (c : Nat) (L : List Int) : Prop := L.length ≤ c ∧ ∀ j, j < L.length → ∃ b off, a = some ⟨b, off, none⟩ ∧ w.cell? ⟨b, off + j, none⟩ = some (.int .i64 (atL L j)) ∧ b < w.heap.size

theorem RdL.ext {w w' : World} {a : Option Addr} {c : Nat} {L : List Int} (h : RdL w a c L) (hb : Below w.heap.size w w') : RdL w' a c L := by
  refine ⟨h.1, fun j hj => ?_⟩
  obtain ⟨b, off, ha, hc, hl⟩ := h.2 j hj
  exact ⟨b, off, ha, (hb.cell (p := ⟨b, off + j, none⟩) hl).trans hc, Nat.lt_of_lt_of_le hl hb.size⟩

theorem RdL.of_own {w : World} {base e : Nat} {v : Value} {L : List Int} (h : w.ownsRow base e 1 v L.length (L.map (Value.int .i64))) : ∃ a c, v = .slice a L.length c ∧ RdL w a c L := by
  obtain ⟨a, c, rfl, hc, hj⟩ := ownsRow_shape h
  refine ⟨a, c, rfl, hc, fun j hjl => ?_⟩
  obtain ⟨g, rfl, c1, _, _, c4⟩ := hj j hjl
  exact ⟨g, 0, rfl, by rw [Nat.zero_add, c1]; simp [atL, hjl], c4⟩

theorem RdL.src {w : World} {a : Option Addr} {c : Nat} {L : List Int} (h : RdL w a c L) : SrcV w a L.length (L.map (Value.int .i64)) := by
  refine ⟨by simp, fun j u hu => ?_⟩
  have hlt : j < (L.map (Value.int .i64)).length := (List.getElem?_eq_some_iff.1 hu).1
  rw [List.length_map] at hlt
  obtain ⟨b, off, ha, hc, hl⟩ := h.2 j hlt
  refine ⟨b, off, ha, ?_, hl⟩
  rw [hc]
  rw [List.getElem?_map, List.getElem?_eq_getElem hlt] at hu
  simp at hu
  rw [← hu]
  unfold atL
  rw [List.getD_eq_getElem?_getD, List.getElem?_eq_getElem hlt]
  rfl

theorem RdL.nil (w : World) : RdL w none 0 [] := ⟨Nat.le_refl _, fun j hj => absurd hj (by simp)⟩

/-- The document's list of a length. -/
def sizeL (L : List Int) (n : Nat) : List Int := (List.range n).map fun j => if j < L.length then atL L j else -1

theorem sizeL_length (L : List Int) (n : Nat) : (sizeL L n).length = n := by simp [sizeL]
theorem sizeL_succ (L : List Int) (n : Nat) : sizeL L (n + 1) = sizeL L n ++ [if n < L.length then atL L n else -1] := by simp [sizeL, List.range_succ]

set_option maxHeartbeats 1000000 in
set_option maxRecDepth 100000 in
theorem size_any (a : Option Addr) (c : Nat) (L : List Int) (n : Nat) (w : World) (hn : n ≤ 2000000) (hL : L.length ≤ 2000000) (h : RdL w a c L) :
    Calls Try.prog 55 #[.slice a L.length c, .int .i64 n] w fun e w' => ∃ s, e = .returned s ∧ w'.ownsRow w.heap.size 3 1 s n ((sizeL L n).map (Value.int .i64)) ∧ Below w.heap.size w w' := by
  have H := hid h; clear h
  go_enter Try.func55, Try.ntmps55
  go_wp2
  go_loopw [5, 6] (fun s i wr => ∃ k : Nat, i = .int .i64 k ∧ k ≤ n ∧ wr.ownsRow w.heap.size 3 1 s k ((sizeL L k).map (Value.int .i64)) ∧ Below w.heap.size w wr) (fun _ i _ => n - (intOf i).toNat)
  case atStart => exact ⟨0, rfl, Nat.zero_le _, World.ownsRow_nil _ _ _ _, Below.refl _ _⟩
  case round =>
    obtain ⟨k, rfl, hk, hown, hb⟩ := hrel
    have hsz := hb.size
    by_cases hkn : k < n
    · by_cases hkl : k < L.length
      · obtain ⟨b, off, rfl, hc, hlt⟩ := (H.out.ext hb).2 k hkl
        have e := sizeL_succ L k
        rw [if_pos hkl] at e
        have He := hid e; clear e
        go_wp2_with (at_builtin; refine wpList_push Try.underlying54 info3 rfl (by decide) hown hsz (by omega) rfl rfl rfl rfl rfl ?_; intro v' w' hown' hb' hlt')
        go_roundw
        case rel => exact ⟨k + 1, by go_num, by omega, by rw [He.out, List.map_append]; exact hown', hb.trans hb'⟩
        case measure => simp [intOf]; omega
      · have e := sizeL_succ L k
        rw [if_neg hkl] at e
        have He := hid e; clear e
        have t : decide ((k : Int) < L.length) = false := by simp; omega
        go_wp2_with (at_builtin; refine wpList_push Try.underlying54 info3 rfl (by decide) hown hsz (by omega) rfl rfl rfl rfl rfl ?_; intro v' w' hown' hb' hlt')
        go_roundw
        case rel => exact ⟨k + 1, by go_num, by omega, by rw [He.out, List.map_append]; exact hown', hb.trans hb'⟩
        case measure => simp [intOf]; omega
    · obtain rfl : k = n := by omega
      go_wp2
      go_ret
      exact ⟨_, rfl, hown, hb⟩

theorem sizeL_self (L : List Int) : sizeL L L.length = L := by
  apply List.ext_getElem?
  intro j
  by_cases hj : j < L.length
  · simp [sizeL, atL, hj]
  · simp [sizeL, hj]

set_option maxHeartbeats 1000000 in
set_option maxRecDepth 100000 in
theorem refSet_any (a : Option Addr) (c : Nat) (L : List Int) (i : Nat) (f : Int) (w : World) (hi : i < L.length) (hL : L.length ≤ 2000000) (h : RdL w a c L) :
    Calls Try.prog 56 #[.slice a L.length c, .int .i64 i, .int .i64 f] w fun e w' => ∃ s, e = .returned s ∧ w'.ownsRow w.heap.size 3 1 s L.length ((L.set i f).map (Value.int .i64)) ∧ Below w.heap.size w w' := by
  have H := hid (size_any a c L L.length w hL hL h); clear h
  go_enter Try.func56, Try.ntmps56
  go_wp2_with fail
  refine H.out.mono ?_
  rintro e w1 ⟨s, rfl, hown, hb⟩
  rw [sizeL_self] at hown
  obtain ⟨g, cap, rfl, h1, h2, h3, h4⟩ := ownsRow_some hown (by omega)
  have k1 : w1.cell? ⟨g, i, none⟩ = some (.int .i64 (atL L i)) := by rw [h4 i hi]; simp [atL, hi]
  have k2 := hown.frozenAt i
  have Hown := hid hown; clear hown h4
  go_wp2
  go_ret
  obtain ⟨s1, s2⟩ := Hown.out.stored i (.int .i64 f)
  refine ⟨_, rfl, ?_, hb.setCell (p := ⟨g, i, none⟩) h1 _⟩
  rw [List.map_set]
  exact s1

set_option maxHeartbeats 1000000 in
set_option maxRecDepth 100000 in
theorem same_any (a1 a2 : Option Addr) (c1 c2 : Nat) (L1 L2 : List Int) (w : World) (hL : L1.length ≤ 2000000) (h1 : RdL w a1 c1 L1) (h2 : RdL w a2 c2 L2) :
    Calls Try.prog 59 #[.slice a1 L1.length c1, .slice a2 L2.length c2] w fun e w' => e = .returned (.bool (decide (L1 = L2))) ∧ Below w.heap.size w w' := by
  have H1 := hid h1; clear h1
  have H2 := hid h2; clear h2
  by_cases hlen : L1.length = L2.length
  · have tl : ((L1.length : Int) != L2.length) = false := by simp [hlen]
    have Hlen := hid hlen; clear hlen
    go_enter Try.func59, Try.ntmps59
    go_wp2
    go_loopw [5] (fun i wr => ∃ k : Nat, i = .int .i64 k ∧ k ≤ L1.length ∧ Hid (∀ j, j < k → atL L1 j = atL L2 j) ∧ Below w.heap.size w wr) (fun i _ => L1.length - (intOf i).toNat)
    case atStart => exact ⟨0, rfl, Nat.zero_le _, fun j hj => absurd hj (by omega), Below.refl _ _⟩
    case round =>
      obtain ⟨k, rfl, hk, Hk, hb⟩ := hrel
      by_cases hkn : k < L1.length
      · obtain ⟨b1, o1, rfl, d1, l1⟩ := (H1.out.ext hb).2 k hkn
        have hk2 : k < L2.length := by have := Hlen.out; omega
        obtain ⟨b2, o2, rfl, d2, l2⟩ := (H2.out.ext hb).2 k hk2
        go_wp2
        go_quiet (fail)
        by_cases he : atL L1 k = atL L2 k
        · have te : (atL L1 k != atL L2 k) = false := by simp only [he, bne_self_eq_false]
          have He := hid he; clear he
          go_wp2
          go_roundw
          case rel =>
            refine ⟨k + 1, by go_num, by omega, fun j hj => ?_, below_drewN hb _⟩
            by_cases hjk : j = k
            · subst hjk; exact He.out
            · exact Hk.out j (by omega)
          case measure => simp [intOf]; omega
        · have te : (atL L1 k != atL L2 k) = true := by simp only [bne_iff_ne, ne_eq]; exact he
          have He := hid he; clear he
          go_wp2
          go_ret
          refine ⟨?_, below_drewN hb _⟩
          rw [decide_eq_false (fun h => He.out (by rw [h]))]
          rfl
      · obtain rfl : k = L1.length := by omega
        go_wp2
        go_ret
        refine ⟨?_, hb⟩
        have heq : L1 = L2 := ?_
        · rw [decide_eq_true heq]; rfl
        apply List.ext_getElem?
        intro j
        by_cases hj : j < L1.length
        · have hj2 : j < L2.length := by have := Hlen.out; omega
          have := Hk.out j hj
          unfold atL at this
          rw [List.getD_eq_getElem?_getD, List.getD_eq_getElem?_getD, List.getElem?_eq_getElem hj, List.getElem?_eq_getElem hj2] at this
          rw [List.getElem?_eq_getElem hj, List.getElem?_eq_getElem hj2]
          simpa using this
        · have hj2 : ¬ j < L2.length := by have := Hlen.out; omega
          rw [List.getElem?_eq_none (by omega), List.getElem?_eq_none (by omega)]
  · have tl : ((L1.length : Int) != L2.length) = true := by simp; omega
    have Hlen := hid hlen; clear hlen
    go_enter Try.func59, Try.ntmps59
    go_wp2
    go_ret
    refine ⟨?_, Below.refl _ _⟩
    rw [decide_eq_false (fun h => Hlen.out (by rw [h]))]
    rfl

/-- Where a number lies. -/
def findL (L : List Int) (f : Int) (n : Nat) : List Int := ((List.range n).filter fun j => atL L j == f).map Int.ofNat

theorem findL_yes (L : List Int) (f : Int) (n : Nat) (h : atL L n = f) : findL L f (n + 1) = findL L f n ++ [(n : Int)] := by
  unfold findL
  rw [List.range_succ, List.filter_append, List.map_append]
  simp [h]
theorem findL_no (L : List Int) (f : Int) (n : Nat) (h : atL L n ≠ f) : findL L f (n + 1) = findL L f n := by
  unfold findL
  rw [List.range_succ, List.filter_append, List.map_append]
  simp [h]
theorem findL_le (L : List Int) (f : Int) (n : Nat) : (findL L f n).length ≤ n := by
  unfold findL
  rw [List.length_map]
  exact Nat.le_trans (List.length_filter_le _ _) (by simp)

set_option maxHeartbeats 1000000 in
set_option maxRecDepth 100000 in
theorem refFind_any (a : Option Addr) (c : Nat) (L : List Int) (f : Int) (w : World) (hL : L.length ≤ 2000000) (h : RdL w a c L) :
    Calls Try.prog 62 #[.slice a L.length c, .int .i64 f] w fun e w' => ∃ s, e = .returned s ∧ w'.ownsRow w.heap.size 3 1 s (findL L f L.length).length ((findL L f L.length).map (Value.int .i64)) ∧ Below w.heap.size w w' := by
  have H := hid h; clear h
  go_enter Try.func62, Try.ntmps62
  go_wp2
  go_loopw [5, 6] (fun s i wr => ∃ k : Nat, i = .int .i64 k ∧ k ≤ L.length ∧ wr.ownsRow w.heap.size 3 1 s (findL L f k).length ((findL L f k).map (Value.int .i64)) ∧ Below w.heap.size w wr) (fun _ i _ => L.length - (intOf i).toNat)
  case atStart => exact ⟨0, rfl, Nat.zero_le _, World.ownsRow_nil _ _ _ _, Below.refl _ _⟩
  case round =>
    obtain ⟨k, rfl, hk, hown, hb⟩ := hrel
    have hsz := hb.size
    have hle := findL_le L f k
    by_cases hkn : k < L.length
    · obtain ⟨b, off, rfl, hc, hlt⟩ := (H.out.ext hb).2 k hkn
      by_cases he : atL L k = f
      · have e := findL_yes L f k he
        have te : (atL L k == f) = true := by simp only [he, beq_self_eq_true]
        have He := hid e; clear e he
        go_wp2_with (at_builtin; refine wpList_push Try.underlying54 info3 rfl (by decide) hown hsz (by omega) rfl rfl rfl rfl rfl ?_; intro v' w' hown' hb' hlt')
        go_roundw
        case rel => exact ⟨k + 1, by go_num, by omega, by rw [He.out, List.map_append, List.length_append]; exact hown', hb.trans hb'⟩
        case measure => simp [intOf]; omega
      · have e := findL_no L f k he
        have te : (atL L k == f) = false := by simp only [beq_eq_false_iff_ne, ne_eq]; exact he
        have He := hid e; clear e he
        go_wp2
        go_roundw
        case rel => exact ⟨k + 1, by go_num, by omega, by rw [He.out]; exact hown, hb⟩
        case measure => simp [intOf]; omega
    · obtain rfl : k = L.length := by omega
      go_wp2
      go_ret
      exact ⟨_, rfl, hown, hb⟩
end Go.Proofs.Ytpdmkignihhobaa
