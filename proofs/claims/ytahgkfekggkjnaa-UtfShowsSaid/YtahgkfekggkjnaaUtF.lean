/- What is proved here: what Show, of the program and of the document, comes to. -/
import Derived.Test.YtahgkfekggkjnaaUtE
import Derived.Test.YtahgkfekggkjnaaKit2
import Derived.Test.YtahgkfekggkjnaaUtP
namespace Go.Proofs.Ytahgkfekggkjnaa
open Go.RowKit
set_option linter.unusedVariables false
set_option linter.unusedSimpArgs false

theorem info8 : (Try.prog.info? 5).map (fun i => (i.zero, i.size, i.bytes)) = some (some (.int .u8 0), 1, 1) := by kernel_rfl

/-- Bytes as cells. -/
def bv (l : List Nat) : List Value := (l.map fun (x : Nat) => (x : Int)).map (Value.int .u8)
theorem bv_length (l : List Nat) : (bv l).length = l.length := by simp [bv]
theorem bv_app (l m : List Nat) : bv (l ++ m) = bv l ++ bv m := by simp [bv]
theorem bv_one (l : List Nat) : ∀ u ∈ bv l, u.oneCell' = true := oneCell_ints

set_option maxRecDepth 100000 in
theorem digit_any (n : Nat) (h : n < 16) (w : World) : Calls Try.prog 60 #[.int .u8 n] w fun e w' => e = .returned (.int .u8 (digN n)) ∧ w = w' := by
  unfold digN
  by_cases h1 : n < 10
  · rw [if_pos h1]
    have t : decide ((n : Int) < 10) = true := by simp; omega
    go_enter Try.func60, Try.ntmps60
    go_wp2
    go_ret
    exact ⟨by simp, rfl⟩
  · rw [if_neg h1]
    have t : decide ((n : Int) < 10) = false := by simp; omega
    go_enter Try.func60, Try.ntmps60
    go_wp2
    go_ret
    exact ⟨by simp; omega, rfl⟩

theorem show_end {w : World} {base e k n : Nat} {v : Value} {l : List Nat} (hall : l.take k = l) (h : w.ownsRow base e 1 v n (bv (34 :: (l.take k).flatMap sh) ++ [.int .u8 34])) : w.ownsRow base e 1 v n (((showL l).map fun (x : Nat) => (x : Int)).map (Value.int .u8)) := by
  rw [hall] at h
  have : ((showL l).map fun (x : Nat) => (x : Int)).map (Value.int .u8) = bv (34 :: l.flatMap sh) ++ [.int .u8 34] := by
    show bv (showL l) = _
    unfold showL
    rw [← List.cons_append, bv_app]
    rfl
  rw [this]; exact h
theorem and15 (y : Nat) (h : y < 256) : bits BinOp.and .u8 (y : Int) 15 = ((y % 16 : Nat) : Int) := (and_fin ⟨y, h⟩).2.1

set_option maxHeartbeats 1000000 in
set_option maxRecDepth 100000 in
theorem show_any (s : ByteArray) (w : World) (hs : s.size ≤ 1000000) : Calls Try.prog 17 #[.string s] w fun e w' => e = .returned (.string (strN (showL (bl s)))) ∧ Below w.heap.size w w' := by
  have hll := bl_length s
  have hlt := bl_lt s
  obtain ⟨l, hl⟩ : ∃ l, bl s = l := ⟨_, rfl⟩
  have hby : ∀ j (h : j < s.size), (s[j]'h).toNat = l.getD j 0 := by
    intro j h
    have h2 : j < s.data.toList.length := by rw [Array.length_toList]; exact h
    rw [← hl, bl_getD s j h, List.getD_eq_getElem?_getD, List.getElem?_eq_getElem h2]
    rfl
  rw [hl] at hll hlt ⊢
  have Hby := hid hby
  have hlt0 : ∀ j, l.getD j 0 < 256 := by
    intro j
    by_cases hj : j < l.length
    · rw [List.getD_eq_getElem?_getD, List.getElem?_eq_getElem hj]; exact hlt _ (List.getElem_mem hj)
    · rw [List.getD_eq_getElem?_getD, List.getElem?_eq_none (by omega)]; simp
  have Hlt0 := hid hlt0
  have hbel := (Below.refl w.heap.size w).alloc (Nat.le_refl _) (.cells #[.int .u8 34] 5)
  have hn0 := ownsRow_new (base := w.heap.size) (cs := [.int .u8 34]) (heap_last w (.cells #[.int .u8 34] 5)) (Nat.le_refl _) (by simp [maxLen])
  have Hbel := hid hbel; have Hn0 := hid hn0
  clear hl hby hlt hlt0 hbel hn0
  go_enter Try.func17, Try.ntmps17
  go_wp2
  go_loopw [3, 4, 5, 9] (fun v _ _ i wr => ∃ k : Nat, i = .int .i64 k ∧ k ≤ s.size ∧ Hid (wr.ownsRow w.heap.size 5 1 v (1 + ((l.take k).flatMap sh).length) (bv (34 :: (l.take k).flatMap sh))) ∧ Below w.heap.size w wr) (fun _ _ _ i _ => s.size - (intOf i).toNat)
  case atStart => exact ⟨0, rfl, Nat.zero_le _, Hn0, Hbel.out⟩
  case round =>
    obtain ⟨k, rfl, hk, Ho, hb⟩ := hrel
    have hsz := hb.size
    have hfl := flat_len (l.take k)
    have htk : (l.take k).length ≤ k := List.length_take_le _ _
    by_cases hks : k < s.size
    · have hy := Hby.out k hks
      have hylt := Hlt0.out k
      have hft := flat_take l k (by omega)
      generalize l.getD k 0 = y at *
      have Hft := hid hft
      have Hy := hid hylt
      clear hft
      by_cases hsh : 32 ≤ y ∧ y ≤ 126 ∧ y ≠ 34 ∧ y ≠ 92
      · have hshy : sh y = [y] := if_pos hsh
        obtain ⟨q1, q2, q3, q4⟩ := hsh
        have t1 : decide (32 ≤ (y : Int)) = true := by simp; omega
        have t2 : decide ((y : Int) ≤ 126) = true := by simp; omega
        have t3 : ((y : Int) != 34) = true := by simp; omega
        have t4 : ((y : Int) != 92) = true := by simp; omega
        have Hsh := hid hshy
        clear q1 q2 q3 q4 hshy
        go_wp2_with (at_builtin; refine wpList_push Try.underlying86 info8 rfl (by decide) Ho.out hsz (by omega) rfl rfl rfl rfl rfl ?_; intro v' w' hown' hb' hlt'; have Hown := hid hown'; clear hown')
        go_roundw
        case rel =>
          refine ⟨k + 1, by go_num, by omega, ?_, hb.trans hb'⟩
          have h1 := Hown.out
          show World.ownsRow _ _ _ _ _ _ _
          rw [Hft.out, Hsh.out, List.length_append, ← List.cons_append, bv_app]
          exact h1
        case measure => simp [intOf]; omega
      · have hshy : sh y = [92, digN (y / 16), digN (y % 16)] := if_neg hsh
        have e15 : bits BinOp.and .u8 (y : Int) 15 = ((y % 16 : Nat) : Int) := and15 y hylt
        have E4 : Hid ((y : Int) / 16 = ((y / 16 : Nat) : Int)) := hid (by omega)
        have E5 : Hid (((y % 16 : Nat) : Int) = (y : Int) % 16) := hid (by omega)
        have Hsh := hid hshy
        have d1 := fun w => digit_any (y / 16) (by omega) w
        have d2 := fun w => digit_any (y % 16) (by omega) w
        have D1 := hid d1; have D2 := hid d2
        clear d1 d2 hshy
        rcases (by omega : y < 32 ∨ (32 ≤ y ∧ 126 < y) ∨ y = 34 ∨ y = 92) with q | q | q | q
        · have t1 : decide (32 ≤ (y : Int)) = false := by simp; omega
          clear q hsh
          go_wp2_with fail
          rw [E4.out]
          refine (D1.out _).mono ?_
          rintro e w1 ⟨rfl, rfl⟩
          go_wp2_with fail
          refine (D2.out _).mono ?_
          rintro e w1 ⟨rfl, rfl⟩
          have hnb := heap_last wr (.cells #[.int .u8 92, .int .u8 (digN (y / 16)), .int .u8 (digN (y % 16))] 5)
          have hsrc := src_new (cs := bv [92, digN (y / 16), digN (y % 16)]) hnb
          have Hs := hid hsrc
          have Ho2 := hid (Ho.out.alloc (.cells #[.int .u8 92, .int .u8 (digN (y / 16)), .int .u8 (digN (y % 16))] 5))
          have hbel := (Below.refl wr.heap.size wr).alloc (Nat.le_refl _) (.cells #[.int .u8 92, .int .u8 (digN (y / 16)), .int .u8 (digN (y % 16))] 5)
          have Hbl := hid (hb.trans (hbel.mono hsz))
          have Hsz2 : Hid (w.heap.size ≤ (wr.alloc (.cells #[.int .u8 92, .int .u8 (digN (y / 16)), .int .u8 (digN (y % 16))] 5)).heap.size) := hid (by simp; omega)
          clear hnb hsrc hbel
          generalize digN (y / 16) = z1 at *
          generalize digN (y % 16) = z2 at *
          go_wp2_with (at_builtin; go_loud (refine wpList_apps Try.underlying86 info8 rfl (by decide) Ho2.out Hsz2.out Hs.out (bv_one _) (by rw [bv_length]; simp only [List.length_cons, List.length_nil]; omega) (by intro _ h; cases h) rfl rfl rfl rfl ?_; intro v' w' hown' hb' hlt'; have Hown := hid hown'; clear hown'))
          go_roundw
          case rel =>
            refine ⟨k + 1, by go_num, by omega, ?_, Hbl.out.trans hb'⟩
            have h1 := Hown.out
            show World.ownsRow _ _ _ _ _ _ _
            rw [Hft.out, Hsh.out, List.length_append, ← List.cons_append, bv_app]
            exact h1
          case measure => simp [intOf]; omega
        · have t1 : decide (32 ≤ (y : Int)) = true := by simp; omega
          have t2 : decide ((y : Int) ≤ 126) = false := by simp; omega
          clear q hsh
          go_wp2_with fail
          rw [E4.out]
          refine (D1.out _).mono ?_
          rintro e w1 ⟨rfl, rfl⟩
          go_wp2_with fail
          refine (D2.out _).mono ?_
          rintro e w1 ⟨rfl, rfl⟩
          have hnb := heap_last wr (.cells #[.int .u8 92, .int .u8 (digN (y / 16)), .int .u8 (digN (y % 16))] 5)
          have hsrc := src_new (cs := bv [92, digN (y / 16), digN (y % 16)]) hnb
          have Hs := hid hsrc
          have Ho2 := hid (Ho.out.alloc (.cells #[.int .u8 92, .int .u8 (digN (y / 16)), .int .u8 (digN (y % 16))] 5))
          have hbel := (Below.refl wr.heap.size wr).alloc (Nat.le_refl _) (.cells #[.int .u8 92, .int .u8 (digN (y / 16)), .int .u8 (digN (y % 16))] 5)
          have Hbl := hid (hb.trans (hbel.mono hsz))
          have Hsz2 : Hid (w.heap.size ≤ (wr.alloc (.cells #[.int .u8 92, .int .u8 (digN (y / 16)), .int .u8 (digN (y % 16))] 5)).heap.size) := hid (by simp; omega)
          clear hnb hsrc hbel
          generalize digN (y / 16) = z1 at *
          generalize digN (y % 16) = z2 at *
          go_wp2_with (at_builtin; go_loud (refine wpList_apps Try.underlying86 info8 rfl (by decide) Ho2.out Hsz2.out Hs.out (bv_one _) (by rw [bv_length]; simp only [List.length_cons, List.length_nil]; omega) (by intro _ h; cases h) rfl rfl rfl rfl ?_; intro v' w' hown' hb' hlt'; have Hown := hid hown'; clear hown'))
          go_roundw
          case rel =>
            refine ⟨k + 1, by go_num, by omega, ?_, Hbl.out.trans hb'⟩
            have h1 := Hown.out
            show World.ownsRow _ _ _ _ _ _ _
            rw [Hft.out, Hsh.out, List.length_append, ← List.cons_append, bv_app]
            exact h1
          case measure => simp [intOf]; omega
        · have t1 : decide (32 ≤ (y : Int)) = true := by simp; omega
          have t2 : decide ((y : Int) ≤ 126) = true := by simp; omega
          have t3 : ((y : Int) != 34) = false := by simp; omega
          clear q hsh
          go_wp2_with fail
          rw [E4.out]
          refine (D1.out _).mono ?_
          rintro e w1 ⟨rfl, rfl⟩
          go_wp2_with fail
          refine (D2.out _).mono ?_
          rintro e w1 ⟨rfl, rfl⟩
          have hnb := heap_last wr (.cells #[.int .u8 92, .int .u8 (digN (y / 16)), .int .u8 (digN (y % 16))] 5)
          have hsrc := src_new (cs := bv [92, digN (y / 16), digN (y % 16)]) hnb
          have Hs := hid hsrc
          have Ho2 := hid (Ho.out.alloc (.cells #[.int .u8 92, .int .u8 (digN (y / 16)), .int .u8 (digN (y % 16))] 5))
          have hbel := (Below.refl wr.heap.size wr).alloc (Nat.le_refl _) (.cells #[.int .u8 92, .int .u8 (digN (y / 16)), .int .u8 (digN (y % 16))] 5)
          have Hbl := hid (hb.trans (hbel.mono hsz))
          have Hsz2 : Hid (w.heap.size ≤ (wr.alloc (.cells #[.int .u8 92, .int .u8 (digN (y / 16)), .int .u8 (digN (y % 16))] 5)).heap.size) := hid (by simp; omega)
          clear hnb hsrc hbel
          generalize digN (y / 16) = z1 at *
          generalize digN (y % 16) = z2 at *
          go_wp2_with (at_builtin; go_loud (refine wpList_apps Try.underlying86 info8 rfl (by decide) Ho2.out Hsz2.out Hs.out (bv_one _) (by rw [bv_length]; simp only [List.length_cons, List.length_nil]; omega) (by intro _ h; cases h) rfl rfl rfl rfl ?_; intro v' w' hown' hb' hlt'; have Hown := hid hown'; clear hown'))
          go_roundw
          case rel =>
            refine ⟨k + 1, by go_num, by omega, ?_, Hbl.out.trans hb'⟩
            have h1 := Hown.out
            show World.ownsRow _ _ _ _ _ _ _
            rw [Hft.out, Hsh.out, List.length_append, ← List.cons_append, bv_app]
            exact h1
          case measure => simp [intOf]; omega
        · have t1 : decide (32 ≤ (y : Int)) = true := by simp; omega
          have t2 : decide ((y : Int) ≤ 126) = true := by simp; omega
          have t3 : ((y : Int) != 34) = true := by simp; omega
          have t4 : ((y : Int) != 92) = false := by simp; omega
          clear q hsh
          go_wp2_with fail
          rw [E4.out]
          refine (D1.out _).mono ?_
          rintro e w1 ⟨rfl, rfl⟩
          go_wp2_with fail
          refine (D2.out _).mono ?_
          rintro e w1 ⟨rfl, rfl⟩
          have hnb := heap_last wr (.cells #[.int .u8 92, .int .u8 (digN (y / 16)), .int .u8 (digN (y % 16))] 5)
          have hsrc := src_new (cs := bv [92, digN (y / 16), digN (y % 16)]) hnb
          have Hs := hid hsrc
          have Ho2 := hid (Ho.out.alloc (.cells #[.int .u8 92, .int .u8 (digN (y / 16)), .int .u8 (digN (y % 16))] 5))
          have hbel := (Below.refl wr.heap.size wr).alloc (Nat.le_refl _) (.cells #[.int .u8 92, .int .u8 (digN (y / 16)), .int .u8 (digN (y % 16))] 5)
          have Hbl := hid (hb.trans (hbel.mono hsz))
          have Hsz2 : Hid (w.heap.size ≤ (wr.alloc (.cells #[.int .u8 92, .int .u8 (digN (y / 16)), .int .u8 (digN (y % 16))] 5)).heap.size) := hid (by simp; omega)
          clear hnb hsrc hbel
          generalize digN (y / 16) = z1 at *
          generalize digN (y % 16) = z2 at *
          go_wp2_with (at_builtin; go_loud (refine wpList_apps Try.underlying86 info8 rfl (by decide) Ho2.out Hsz2.out Hs.out (bv_one _) (by rw [bv_length]; simp only [List.length_cons, List.length_nil]; omega) (by intro _ h; cases h) rfl rfl rfl rfl ?_; intro v' w' hown' hb' hlt'; have Hown := hid hown'; clear hown'))
          go_roundw
          case rel =>
            refine ⟨k + 1, by go_num, by omega, ?_, Hbl.out.trans hb'⟩
            have h1 := Hown.out
            show World.ownsRow _ _ _ _ _ _ _
            rw [Hft.out, Hsh.out, List.length_append, ← List.cons_append, bv_app]
            exact h1
          case measure => simp [intOf]; omega
    · obtain rfl : k = s.size := by omega
      have hall : l.take s.size = l := List.take_of_length_le (by omega)
      have Hall := hid hall
      clear hall
      go_wp2_with (at_builtin; go_loud (refine wpList_push Try.underlying86 info8 rfl (by decide) Ho.out hsz (by omega) rfl rfl rfl rfl rfl ?_; intro v' w' hown' hb' hlt'; have hfin := show_end Hall.out hown'; have hc := conv_row (dst := 9) Try.underlying86 Try.underlying5 Try.underlying9 hfin; clear hfin hown'))
      go_ret
      exact ⟨rfl, hb.trans hb'⟩
end Go.Proofs.Ytahgkfekggkjnaa
