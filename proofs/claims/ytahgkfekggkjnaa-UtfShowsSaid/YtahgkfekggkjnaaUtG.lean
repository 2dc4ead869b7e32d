/- What is proved here: the laws UtfNames and UtfSigns, walked. -/
import Derived.Test.YtahgkfekggkjnaaUtF
namespace Go.Proofs.Ytahgkfekggkjnaa
open Go.RowKit
set_option linter.unusedVariables false
set_option linter.unusedSimpArgs false

set_option maxRecDepth 100000 in
theorem awake03_any (w : World) : Calls Try.prog 16 #[] w fun e w' => e = .returned (.bool true) ∧ Below w.heap.size w w' := by
  have hv : strN (showL (bl ⟨#[97, 10, 34]⟩)) = ⟨#[34, 97, 92, 48, 97, 92, 50, 50, 34]⟩ := by decide +kernel
  have hq : ((strN (showL (bl ⟨#[97, 10, 34]⟩))).toList == [34, 97, 92, 48, 97, 92, 50, 50, 34]) = true := by rw [hv, ByteArray.toList_eq]; rfl
  clear hv
  have hs := show_any ⟨#[97, 10, 34]⟩ w (by decide)
  generalize strN (showL (bl ⟨#[97, 10, 34]⟩)) = x at *
  have Hs := hid hs
  have Hq := hid hq
  clear hs hq
  go_enter Try.func16, Try.ntmps16
  go_wp2_with fail
  refine Hs.out.mono ?_
  rintro e w' ⟨rfl, hb⟩
  go_wp2
  go_ret
  exact ⟨ret_bool Hq.out, hb⟩

theorem bl_drop (s : ByteArray) (n : Nat) : bl (s.extract n s.size) = (bl s).drop n := by
  unfold bl
  rw [← List.map_drop]
  congr 1
  rw [ByteArray.data_extract, Array.toList_extract, List.extract_eq_take_drop]
  rw [List.take_of_length_le]
  rw [List.length_drop, Array.length_toList]
  exact Nat.le_refl _

theorem size_drop (s : ByteArray) (n : Nat) : (s.extract n s.size).size = s.size - n := by rw [← bl_length, bl_drop, List.length_drop, bl_length]

set_option maxHeartbeats 1000000 in
set_option maxRecDepth 100000 in
theorem refCount_any (s : ByteArray) (w : World) (hs : s.size ≤ 1000000) : Calls Try.prog 35 #[.string s] w fun e w' => e = .returned (.int .i64 (cnt (bl s))) ∧ Below w.heap.size w w' := by
  go_enter Try.func35, Try.ntmps35
  go_wp2
  go_loopw [0, 3, 4, 5] (fun v k _ _ wr => ∃ (r : ByteArray) (q : Nat), v = .string r ∧ r.size + q ≤ s.size ∧ k = .int .i64 q ∧ Below w.heap.size w wr ∧ Hid (cnt (bl s) = if cnt (bl r) < 0 then -1 else cnt (bl r) + q)) (fun v _ _ _ _ => lenOfV v)
  case atStart => exact ⟨s, 0, rfl, by simp, rfl, Below.refl _ _, hid (by have := cnt_ge (bl s); split <;> omega)⟩
  case round =>
    obtain ⟨r, q, rfl, hle, rfl, hb, He⟩ := hrel
    have hbl := bl_length r
    by_cases h0 : r.size = 0
    · have he := He.out
      have hr0 : bl r = [] := List.eq_nil_of_length_eq_zero (by omega)
      rw [hr0, show cnt [] = 0 from rfl, if_neg (by omega)] at he
      have Hres : Hid (cnt (bl s) = q) := hid (by rw [he]; omega)
      have hre : r = ⟨#[]⟩ := by
        cases r with
        | mk a => rw [Array.eq_empty_of_size_eq_zero h0]
      clear hr0 he h0 He
      subst hre
      go_wp2
      go_ret
      exact ⟨ret_i64 Hres.out.symm, hb⟩
    · have t' : decide ((0 : Int) < r.size) = true := decide_eq_true (by omega)
      have hne : bl r ≠ [] := fun e => h0 (by rw [← hbl, e]; rfl)
      have hsnd := first_snd (bl r)
      have hbd := bl_drop r (firstP (bl r)).2
      have hsd := size_drop r (firstP (bl r)).2
      have Hf := hid (refFirst_any r wr (by omega))
      have Hbad := hid (fun h => cnt_bad hne h)
      have Hst := hid (fun h => cnt_step hne h)
      clear hne
      rw [hbl] at hsnd
      obtain ⟨p, hp⟩ : ∃ p, firstP (bl r) = p := ⟨_, rfl⟩
      rw [hp] at Hf Hbad Hst hsnd hbd hsd
      obtain ⟨v, n⟩ := p
      simp only at Hf Hbad Hst hsnd hbd hsd
      have Hbd := hid hbd; have Hsd := hid hsd
      clear hp hbd hsd hbl
      go_wp2_with fail
      refine Hf.out.mono ?_
      rintro e w1 ⟨rfl, hb1⟩
      by_cases hn : n = 0
      · subst hn
        have he := He.out
        rw [Hbad.out rfl, if_pos (by omega)] at he
        have Hres := hid he
        clear he
        go_wp2
        go_ret
        exact ⟨ret_i64 Hres.out.symm, hb.trans (hb1.mono hb.size)⟩
      · have t2 : ((n : Int) == 0) = false := beq_eq_false_iff_ne.2 (by omega)
        have hst := Hst.out hn
        have He2 : Hid (cnt (bl s) = if cnt (bl (r.extract n r.size)) < 0 then -1 else cnt (bl (r.extract n r.size)) + (q + 1 : Nat)) := by
          have he := He.out
          rw [hst] at he
          have := cnt_ge ((bl r).drop n)
          show _ = _
          rw [he, Hbd.out]
          by_cases q1 : cnt ((bl r).drop n) < 0
          · simp [q1]
          · simp [q1]; omega
        have hnr : (n : Int) ≤ r.size := by omega
        clear hst Hst Hbad
        go_wp2
        go_roundw
        case rel => exact ⟨_, q + 1, rfl, by rw [Hsd.out]; omega, by go_num, hb.trans (hb1.mono hb.size), He2⟩
        case measure => simp only [lenOfV]; rw [Hsd.out]; omega

/-- What Check answers. -/
def checkF (s : ByteArray) : Int := if 200 < s.size then 13 else if 0 ≤ cnt (bl s) then 0 else 4

set_option maxHeartbeats 1000000 in
set_option maxRecDepth 100000 in
theorem check_any (s : ByteArray) (w : World) (hs : s.size ≤ 1000000) : Calls Try.prog 34 #[.string s] w fun e w' => e = .returned (.int .i64 (checkF s)) ∧ Below w.heap.size w w' := by
  have hcv := fun w => Lib.run_convert_string_bytes (P := Try.prog) w 9 86 5 s Try.underlying9 Try.underlying86 Try.underlying5
  have hr := right_any (bl s) _ _ (left_bytes w s) (by rw [bl_length]; omega)
  have hB := below_bytes w s
  unfold checkF
  by_cases h1 : 200 < s.size
  · rw [if_pos h1]
    have t : decide ((s.size : Int) > 200) = true := by simp; omega
    clear hcv hr hB
    go_enter Try.func34, Try.ntmps34
    go_wp2
    go_ret
    exact ⟨rfl, Below.refl _ _⟩
  · rw [if_neg h1]
    have t : decide ((s.size : Int) > 200) = false := by simp; omega
    have Hr := hid hr; have HB := hid hB
    clear hr hB h1
    by_cases h2 : 0 ≤ cnt (bl s)
    · rw [if_pos h2]
      have Hd := hid (decide_eq_true h2)
      clear h2
      go_enter Try.func34, Try.ntmps34
      go_wp2_with fail
      refine Hr.out.mono ?_
      rintro e w1 ⟨rfl, rfl⟩
      rw [Hd.out]
      go_wp2
      go_ret
      exact ⟨rfl, HB.out⟩
    · rw [if_neg h2]
      have Hd := hid (decide_eq_false h2)
      clear h2
      go_enter Try.func34, Try.ntmps34
      go_wp2_with fail
      refine Hr.out.mono ?_
      rintro e w1 ⟨rfl, rfl⟩
      rw [Hd.out]
      go_wp2
      go_ret
      exact ⟨rfl, HB.out⟩

set_option maxHeartbeats 1000000 in
set_option maxRecDepth 100000 in
theorem names_any (s : ByteArray) (m : Nat) (w : World) (hs : s.size ≤ maxLen) (hm : m < 256) : Calls Try.prog 8 #[.string s, .int .u8 m] w fun e w' => e = .returned (.bool true) ∧ Below w.heap.size w w' := by
  unfold maxLen at hs
  go_enter Try.func8, Try.ntmps8
  go_wp2_with fail
  refine (awake03_any w).mono ?_
  rintro e w1 ⟨rfl, hb1⟩
  by_cases h1 : 300 < s.size
  · have t : decide ((s.size : Int) > 300) = true := by simp; omega
    go_wp2
    go_ret
    exact ⟨rfl, hb1⟩
  · have t : decide ((s.size : Int) > 300) = false := by simp; omega
    go_wp2
    go_loop [5, 6] (fun v i => ∃ (t : ByteArray) (k : Nat), v = .string t ∧ i = .int .i64 k ∧ k ≤ 8 ∧ t.size = (k + 1) * s.size) (fun _ i => 8 - (intOf i).toNat)
    case atStart => exact ⟨s, 0, rfl, rfl, by omega, by omega⟩
    case round =>
      obtain ⟨t, k, rfl, rfl, hk, ht⟩ := hrel
      have hmt : (m : Int).tmod 8 = (m : Int) % 8 := Int.tmod_eq_emod_of_nonneg (by omega)
      have hts : (k + 1) * s.size ≤ 9 * 300 := Nat.mul_le_mul (by omega) (by omega)
      have hts2 : t.size ≤ 2700 := by omega
      have hcat : ¬ 9223372036854775807 < t.size + s.size := by omega
      have Ht := hid ht
      clear ht hts
      by_cases hkm : (k : Int) < (m : Int) % 8
      · have t3 : decide ((k : Int) < (m : Int) % 8) = true := by simp; omega
        go_wp2
        go_round
        case rel => exact ⟨_, k + 1, rfl, by go_num, by omega, by rw [ByteArray.size_append, Ht.out, Nat.succ_mul (k + 1)]⟩
        case measure => simp [intOf]; omega
      · have t3 : decide ((k : Int) < (m : Int) % 8) = false := by simp; omega
        have hc := check_any t w1 (by omega)
        have hrc := fun w => refCount_any t w (by omega)
        have Hc := hid hc; have Hrc := hid hrc
        clear hc hrc hcat
        obtain ⟨z, hz⟩ : ∃ z, checkF t = z := ⟨_, rfl⟩
        rw [hz] at Hc
        unfold checkF at hz
        by_cases h2 : 200 < t.size
        · rw [if_pos h2] at hz
          subst hz
          have t4 : decide ((t.size : Int) > 200) = true := decide_eq_true (by omega)
          go_wp2_with fail
          refine Hc.out.mono ?_
          rintro e w2 ⟨rfl, hb2⟩
          go_wp2
          go_ret
          exact ⟨rfl, hb1.trans (hb2.mono hb1.size)⟩
        · rw [if_neg h2] at hz
          have t4 : decide ((t.size : Int) > 200) = false := decide_eq_false (by omega)
          by_cases h3 : 0 ≤ cnt (bl t)
          · rw [if_pos h3] at hz
            subst hz
            have t5 : decide (0 ≤ cnt (bl t)) = true := decide_eq_true h3
            clear h3 h2
            go_wp2_with fail
            refine Hc.out.mono ?_
            rintro e w2 ⟨rfl, hb2⟩
            go_wp2_with fail
            refine (Hrc.out _).mono ?_
            rintro e w3 ⟨rfl, hb3⟩
            go_wp2
            go_ret
            exact ⟨rfl, hb1.trans ((hb2.mono hb1.size).trans (hb3.mono (Nat.le_trans hb1.size hb2.size)))⟩
          · rw [if_neg h3] at hz
            subst hz
            have t5 : decide (0 ≤ cnt (bl t)) = false := decide_eq_false h3
            clear h3 h2
            go_wp2_with fail
            refine Hc.out.mono ?_
            rintro e w2 ⟨rfl, hb2⟩
            go_wp2_with fail
            refine (Hrc.out _).mono ?_
            rintro e w3 ⟨rfl, hb3⟩
            go_wp2
            go_ret
            exact ⟨rfl, hb1.trans ((hb2.mono hb1.size).trans (hb3.mono (Nat.le_trans hb1.size hb2.size)))⟩

theorem below_step {w a b : World} (h1 : Below w.heap.size w a) (h2 : Below a.heap.size a b) : Below w.heap.size w b := h1.trans (h2.mono h1.size)

theorem first_fst_lt (l : List Nat) (h : ∀ x ∈ l, x < 256) : (firstP l).1 < 33554432 := by
  rw [← firstQ_eq]
  unfold firstQ
  have ha : l.getD 0 0 < 256 := by
    by_cases hl : 0 < l.length
    · rw [List.getD_eq_getElem?_getD, List.getElem?_eq_getElem hl]; exact h _ (List.getElem_mem hl)
    · rw [List.getD_eq_getElem?_getD, List.getElem?_eq_none (by omega)]; simp
  have hv := vK_lt l ha
  have hn : (clsN (l.getD 0 0)).toNat ≤ 3 := by have := cls_cases (l.getD 0 0); omega
  have hb := hv (clsN (l.getD 0 0)).toNat
  have hp : 64 ^ (clsN (l.getD 0 0)).toNat ≤ 64 ^ 3 := Nat.pow_le_pow_right (by decide) hn
  have hb2 : vK l (clsN (l.getD 0 0)).toNat < 33554432 := by omega
  by_cases h1 : l = []
  · rw [if_pos h1]; decide
  · rw [if_neg h1]
    by_cases h2 : clsN (l.getD 0 0) < 0 ∨ (l.length : Int) ≤ clsN (l.getD 0 0)
    · rw [if_pos h2]; decide
    · rw [if_neg h2]
      by_cases h3 : follB l (clsN (l.getD 0 0)).toNat = false
      · rw [if_pos h3]; decide
      · rw [if_neg h3]
        by_cases h4 : clsN (l.getD 0 0) = 2 ∧ (vK l 2 < 2048 ∨ vK l 2 / 2048 = 27)
        · rw [if_pos h4]; decide
        · rw [if_neg h4]
          by_cases h5 : clsN (l.getD 0 0) = 3 ∧ (vK l 3 < 65536 ∨ 1114111 < vK l 3)
          · rw [if_pos h5]; decide
          · rw [if_neg h5]; exact hb2

theorem bl_app (a b : ByteArray) : bl (a ++ b) = bl a ++ bl b := by
  unfold bl
  rw [← List.map_append]
  rw [ByteArray.data_append, Array.toList_append]

theorem encS_cases (c : Int) : encS c = ⟨#[]⟩ ∨ (0 ≤ c ∧ bl (encS c) = encB c.toNat ∧ encB c.toNat ≠ []) := by
  unfold encS
  by_cases h : c < 0
  · rw [if_pos h]; exact .inl rfl
  · rw [if_neg h]
    by_cases h2 : encB c.toNat = []
    · rw [h2]; exact .inl rfl
    · exact .inr ⟨by omega, bl_strN _ (encB_lt _), h2⟩

theorem encS_size (c : Int) : (encS c).size ≤ 4 := by
  rcases encS_cases c with h | ⟨_, h, _⟩
  · rw [h]; decide
  · rw [← bl_length, h]
    rcases encB_cases c.toNat with ⟨e, g⟩ | ⟨e, g⟩ | ⟨e, g⟩ | ⟨e, g⟩ | ⟨e, g⟩ <;> rw [e] <;> simp

set_option maxHeartbeats 4000000 in
set_option maxRecDepth 100000 in
theorem signs_any (s : ByteArray) (c : Int) (w : World) (hs : s.size ≤ maxLen) (hc1 : -2147483648 ≤ c) (hc2 : c ≤ 2147483647) : Calls Try.prog 9 #[.string s, .int .i32 c] w fun e w' => e = .returned (.bool true) ∧ Below w.heap.size w w' := by
  unfold maxLen at hs
  go_enter Try.func9, Try.ntmps9
  go_wp2_with fail
  refine (awake03_any w).mono ?_
  rintro e w1 ⟨rfl, hb1⟩
  by_cases h1 : 1000 < s.size
  · have t : decide ((s.size : Int) > 1000) = true := decide_eq_true (by omega)
    go_wp2
    go_ret
    exact ⟨rfl, hb1⟩
  · have t : decide ((s.size : Int) > 1000) = false := decide_eq_false (by omega)
    have hcv := fun w => Lib.run_convert_string_bytes (P := Try.prog) w 9 86 5 s Try.underlying9 Try.underlying86 Try.underlying5
    have hL := fun w => left_bytes w s
    have hB := fun w => below_bytes w s
    have hF := fun w => refFirst_any s w (by omega)
    have hC := fun w => refCount_any s w (by omega)
    have hK := fun w => count_any s w (by omega)
    have hR := fun w => right_any (bl s) _ _ (left_bytes w s) (by rw [bl_length]; omega)
    have hfst : ∀ w, Calls Try.prog 36 #[.slice (some ⟨w.heap.size, 0, none⟩) s.size (grownCap w s.size 0 5)] (Lib.bytesWorld w 5 s) fun e w' => e = .returned (.tuple #[.int .i32 (firstP (bl s)).1, .int .i64 (firstP (bl s)).2]) ∧ Lib.bytesWorld w 5 s = w' := fun w => by
      obtain ⟨a, c, e, h1, h2, h3⟩ := left_bytes w s
      have := first_any (bl s) a c (Lib.bytesWorld w 5 s) h3 h1 h2 (by rw [bl_length]; omega)
      rw [← e] at this
      exact this
    have HF := hid hF; have HC := hid hC; have HK := hid hK; have HR := hid hR; have Hfst := hid hfst; have HB := hid hB
    clear hF hC hK hR hfst hL hB
    go_wp2_with fail
    refine (Hfst.out _).mono ?_
    rintro e w2 ⟨rfl, rfl⟩
    go_wp2_with fail
    refine (HF.out _).mono ?_
    rintro e w2 ⟨rfl, hb2⟩
    go_wp2_with fail
    refine (HC.out _).mono ?_
    rintro e w3 ⟨rfl, hb3⟩
    have hfl := first_fst_lt (bl s) (bl_lt s)
    have HL0 : Hid (∃ x n q, (firstP (bl s)).1 = x ∧ (firstP (bl s)).2 = n ∧ cnt (bl s) = q) := hid ⟨_, _, _, rfl, rfl, rfl⟩
    generalize (firstP (bl s)).1 = x at *
    generalize (firstP (bl s)).2 = n at *
    generalize cnt (bl s) = q at *
    clear HL0
    have Hbw := hid (below_step (below_step (below_step hb1 (HB.out w1)) hb2) hb3)
    clear hb2 hb3 hb1
    go_wp2_with fail
    refine (HK.out _).mono ?_
    rintro e w4 ⟨rfl, hb4⟩
    have Hb4 := hid hb4
    clear hb4
    go_wp2_with fail
    refine (HR.out _).mono ?_
    rintro e w5 ⟨rfl, rfl⟩
    go_wp2_with fail
    refine (refBytes_any c _ (by omega) (by omega)).mono ?_
    rintro e w5 ⟨rfl, hb5⟩
    have hsz := encS_size c
    have hcase := encS_cases c
    have hfin := first_enc c.toNat (bl s)
    have Hbw5 := hid (below_step (below_step (below_step Hbw.out Hb4.out) (HB.out w4)) hb5)
    generalize encS c = b at *
    have hcat : ¬ 9223372036854775807 < b.size + s.size := by omega
    have hcv2 := fun w => Lib.run_convert_string_bytes (P := Try.prog) w 9 86 5 (b ++ s) Try.underlying9 Try.underlying86 Try.underlying5
    have hbs : (b ++ s).size = b.size + s.size := ByteArray.size_append
    have Hfst2 : Hid (Calls Try.prog 36 #[.slice (some ⟨w5.heap.size, 0, none⟩) (b.size + s.size) (grownCap w5 (b.size + s.size) 0 5)] (Lib.bytesWorld w5 5 (b ++ s)) fun e w' => e = .returned (.tuple #[.int .i32 (firstP (bl (b ++ s))).1, .int .i64 (firstP (bl (b ++ s))).2]) ∧ Lib.bytesWorld w5 5 (b ++ s) = w') := by
      obtain ⟨a, c, e, h1, h2, h3⟩ := left_bytes w5 (b ++ s)
      have := first_any (bl (b ++ s)) a c (Lib.bytesWorld w5 5 (b ++ s)) h3 h1 h2 (by rw [bl_length]; omega)
      rw [← e, hbs] at this
      exact this
    have Hbw6 := hid (below_step Hbw5.out (below_bytes w5 (b ++ s)))
    have Hbs := hid hbs
    have Hcase := hid hcase
    have Hfin := hid hfin
    clear hb5 hbs hcase hfin
    go_wp2_with fail
    refine Hfst2.out.mono ?_
    rintro e w6 ⟨rfl, rfl⟩
    clear Hfst2 hcv hcv2 hcat
    generalize Lib.bytesWorld w5 5 (b ++ s) = w6 at *
    rcases Hcase.out with h | ⟨hc0, h1, h2⟩
    · generalize (firstP (bl (b ++ s))).1 = p1
      generalize (firstP (bl (b ++ s))).2 = p2
      clear Hcase Hfin
      subst h
      go_wp2
      go_ret
      exact ⟨rfl, Hbw6.out⟩
    · have hf := Hfin.out h2
      rw [← h1, ← bl_app] at hf
      obtain ⟨m, rfl⟩ := Int.eq_ofNat_of_zero_le hc0
      rw [Int.toNat_natCast] at hf h1 h2
      have hbl : (bl b).length = b.size := bl_length b
      rw [hbl] at hf
      have hb0 : b.toList.isEmpty = false := by
        rw [ByteArray.toList_eq]
        cases hh : b.data.toList with
        | nil => exact absurd (by rw [← h1]; unfold bl; rw [hh]; rfl) h2
        | cons x xs => rfl
      have hb1 : (b.toList = []) = False := by
        rw [List.isEmpty_eq_false_iff] at hb0
        simpa using hb0
      rw [hf]
      clear hf h1 h2 hbl Hcase Hfin
      go_wp2
      go_ret
      exact ⟨rfl, Hbw6.out⟩
end Go.Proofs.Ytahgkfekggkjnaa
