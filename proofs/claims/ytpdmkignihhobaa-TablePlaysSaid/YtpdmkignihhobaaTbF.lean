/- What is proved here: the law TablePlays, walked. -/
import Derived.Test.YtpdmkignihhobaaTbE
import Derived.Deep.DeepCutAuto
import Derived.Deep.CutBlock
namespace Go.Proofs.Ytpdmkignihhobaa
open Go.RowKit
set_option linter.unusedVariables false
set_option linter.unusedSimpArgs false

/-- Rows of three numbers. -/
def RdT (w : World) (a : Option Addr) (n : Nat) (g : Nat → Int × Int × Int) : Prop := ∀ j, j < n → ∃ b off, a = some ⟨b, off, none⟩ ∧ w.cell? ⟨b, off + j * 3, none⟩ = some (.int .i64 (g j).1) ∧ w.cell? ⟨b, off + j * 3 + 1, none⟩ = some (.int .i64 (g j).2.1) ∧ w.cell? ⟨b, off + j * 3 + 2, none⟩ = some (.int .i64 (g j).2.2) ∧ b < w.heap.size

theorem RdT.ext {w w' : World} {a : Option Addr} {n : Nat} {g : Nat → Int × Int × Int} (h : RdT w a n g) (hb : Below w.heap.size w w') : RdT w' a n g := by
  intro j hj
  obtain ⟨b, off, ha, h0, h1, h2, hl⟩ := h j hj
  exact ⟨b, off, ha, (hb.cell (p := ⟨b, off + j * 3, none⟩) hl).trans h0, (hb.cell (p := ⟨b, off + j * 3 + 1, none⟩) hl).trans h1, (hb.cell (p := ⟨b, off + j * 3 + 2, none⟩) hl).trans h2, Nat.lt_of_lt_of_le hl hb.size⟩

theorem sizeL_more (L : List Int) (k : Nat) : sizeL L (L.length + k) = L ++ List.replicate k (-1) := by
  apply List.ext_getElem?
  intro j
  by_cases hj : j < L.length
  · rw [List.getElem?_append_left hj]; simp [sizeL, atL, hj, show j < L.length + k by omega]
  · rw [List.getElem?_append_right (by omega)]
    by_cases hk : j < L.length + k
    · simp [sizeL, hj, hk, show j - L.length < k by omega]
    · simp [sizeL, hk, show ¬ (j - L.length < k) by omega]

theorem sizeL_nil (n : Nat) : sizeL [] n = List.replicate n (-1) := by
  have := sizeL_more [] n
  simpa using this

/-- The walked list beside a table: it lies apart from it. -/
def Beside (base b : Nat) (w : World) (s : Value) (L : List Int) : Prop := w.ownsRow base 3 1 s L.length (L.map (Value.int .i64)) ∧ ∀ g, s.ownBlock = some g → slotB w b ≠ some g

theorem TabR.slot_lt {base : Nat} {w : World} {b : Nat} {L : List Int} {most : Int} (h : TabR base w b L most) : ∀ g, slotB w b = some g → g < w.heap.size := by
  obtain ⟨h1, v, h2, h3⟩ := h
  intro g hg
  have : slotB w b = v.ownBlock := by unfold slotB; rw [cell_of_row w b 0 _ _ _ h2]; rfl
  rw [this] at hg
  exact (h3.lt g hg).2

/-- A table turns, the list stays. -/
theorem Beside.fr {base b : Nat} {w w' : World} {s : Value} {L L0 : List Int} {most : Int} (h : Beside base b w s L) (ht : TabR base w b L0 most) (hf : TabFr b w w') : Beside base b w' s L := by
  obtain ⟨h1, h2⟩ := h
  obtain ⟨_, v, hb, _⟩ := ht
  have hne := ownBlock_ne h1 hb (by decide)
  refine ⟨?_, fun g hg => ?_⟩
  · refine ⟨h1.1, ?_⟩
    rcases h1.2 with hn | ⟨g, cap, cur, rfl, hbb, hg, rest⟩
    · exact .inl hn
    · exact .inr ⟨g, cap, cur, rfl, hbb, (hf.1 g (Array.getElem?_eq_some_iff.1 hg).1 (fun h => hne (by rw [← h]; rfl)) (h2 g rfl)).trans hg, rest⟩
  · intro hs
    have hlt := (h1.lt g hg).2
    rcases hf.2.1 g hs with h3 | h3
    · exact h2 g hg h3
    · omega

/-- A new list, beside the table. -/
theorem Beside.new {base b : Nat} {w w' : World} {s : Value} {L L0 : List Int} {most : Int} (h : w'.ownsRow w.heap.size 3 1 s L.length (L.map (Value.int .i64))) (hbase : base ≤ w.heap.size) (ht : TabR base w b L0 most) (hb : Below w.heap.size w w') : Beside base b w' s L := by
  refine ⟨ownsRow_mono h hbase, fun g hg hs => ?_⟩
  have h1 := (h.lt g hg).1
  have hbl : b < w.heap.size := by obtain ⟨_, v, h2, _⟩ := ht; exact (Array.getElem?_eq_some_iff.1 h2).1
  have : slotB w' b = slotB w b := by unfold slotB; rw [hb.cell (p := ⟨b, 0, none⟩) hbl]
  rw [this] at hs
  have := ht.slot_lt g hs
  omega

theorem Beside.ext {base b : Nat} {w w' : World} {s : Value} {L L0 : List Int} {most : Int} (h : Beside base b w s L) (ht : TabR base w b L0 most) (hb : Below w.heap.size w w') : Beside base b w' s L := by
  refine ⟨ownsRow_ext h.1 hb, fun g hg hs => ?_⟩
  have hbl : b < w.heap.size := by obtain ⟨_, v, h2, _⟩ := ht; exact (Array.getElem?_eq_some_iff.1 h2).1
  have : slotB w' b = slotB w b := by unfold slotB; rw [hb.cell (p := ⟨b, 0, none⟩) hbl]
  rw [this] at hs
  exact h.2 g hg hs

set_option maxHeartbeats 4000000 in
set_option maxRecDepth 100000 in
theorem plays_any (size most : Int) (a : Option Addr) (n cap : Nat) (g : Nat → Int × Int × Int) (w : World) (hlc : n ≤ cap) (hr : RdT w a n g) :
    Calls Try.prog 9 #[.int .i64 size, .int .i64 most, .slice a n cap] w fun e w' => e = .returned (.bool true) ∧ Below w.heap.size w w' := by
  have Hr := hid hr; clear hr
  go_enter Try.func9, Try.ntmps9
  go_wp2_with fail
  refine (awake_any _).mono ?_
  rintro ev w1 ⟨rfl, hb1⟩
  by_cases hn : n ≤ 60
  · have t : decide ((n : Int) > 60) = false := by simp; omega
    have Hnw := hid (new_any size most w1 w.heap.size hb1.size)
    go_wp2_with fail
    refine Hnw.out.mono ?_
    rintro ev w2 ⟨hnew, hb2⟩
    have hb12 := hb1.trans hb2
    by_cases hbad : size < 0 ∨ most < size ∨ most > 1048576
    · rw [if_pos hbad] at hnew
      obtain ⟨rfl, rfl⟩ := hnew
      by_cases h0 : size < 0
      · have t0 : decide (size < 0) = true := by simp [h0]
        go_wp2
        go_ret
        exact ⟨rfl, hb12⟩
      · have t0 : decide (size < 0) = false := by simp; omega
        by_cases h1 : most < size
        · have t1 : decide (most < size) = true := by simp [h1]
          go_wp2
          go_ret
          exact ⟨rfl, hb12⟩
        · have t1 : decide (most < size) = false := by simp; omega
          have t2 : decide (most > 1048576) = true := by simp; omega
          go_wp2
          go_ret
          exact ⟨rfl, hb12⟩
    · rw [if_neg hbad] at hnew
      obtain ⟨b, rfl, hbw, ht⟩ := hnew
      have t0 : decide (size < 0) = false := by simp; omega
      have t1 : decide (most < size) = false := by simp; omega
      have t2 : decide (most > 1048576) = false := by simp; omega
      have hpos : 0 ≤ size ∧ size ≤ most ∧ most ≤ 1048576 := by omega
      clear hbad
      by_cases h100 : size > 100
      · have t3 : decide (size > 100) = true := by simp [h100]
        have Hl := hid (len_any _ b _ most w2 ht)
        have hsz : ((List.replicate size.toNat (-1 : Int)).length : Int) = size := by simp; omega
        rw [hsz] at Hl
        go_wp2_with fail
        refine Hl.out.mono ?_
        rintro ev w3 ⟨rfl, rfl⟩
        go_wp2
        go_ret
        exact ⟨rfl, hb12⟩
      · have t3 : decide (size > 100) = false := by simp; omega
        obtain ⟨sz, rfl⟩ := Int.eq_ofNat_of_zero_le hpos.1
        rw [show ((sz : Nat) : Int).toNat = sz from rfl, ← sizeL_nil sz] at ht
        have Hm := hid (most_any _ b _ most w2 ht)
        have Hsz := hid (size_any none 0 [] sz w2 (by omega) (by simp) (RdL.nil w2))
        have Ht := hid ht; clear ht
        go_wp2_with fail
        refine Hm.out.mono ?_
        rintro ev w3 ⟨rfl, rfl⟩
        go_wp2_with fail
        refine Hsz.out.mono ?_
        rintro ev w3 ⟨s, rfl, hs, hb3⟩
        have hbs : Beside w.heap.size b w3 s (sizeL [] sz) := Beside.new (by rw [sizeL_length]; exact hs) hb12.size Ht.out hb3
        have Hbs := hid hbs; clear hbs
        have Ht3 := hid (Ht.out.ext hb3)
        have hb13 := hb12.trans (hb3.mono hb12.size)
        have hle0 : (sizeL [] sz).length ≤ 100 := by rw [sizeL_length]; omega
        generalize sizeL [] sz = L0 at *
        clear hs hb3 Ht Hm Hsz Hnw
        go_wp2
        go_loopw [9, 10] (fun s iv wr => ∃ (i : Nat) (L : List Int), iv = .int .i64 i ∧ i ≤ n ∧ Hid (Beside w.heap.size b wr s L) ∧ Hid (TabR w.heap.size wr b L most) ∧ Below w.heap.size w wr ∧ L.length ≤ 100 + 50 * i) (fun _ iv _ => n - (intOf iv).toNat)
        case atStart => exact ⟨0, L0, rfl, Nat.zero_le _, Hbs, Ht3, hb13, by omega⟩
        case round =>
          obtain ⟨i, L, rfl, hi, Hb, Ht, hbk, hlen⟩ := hrel
          by_cases hin : i < n
          · obtain ⟨ba, off, rfl, c0, c1, c2, hlt⟩ := (Hr.out.ext hbk) i hin
            generalize (g i).1 = kd at c0
            generalize (g i).2.1 = x at c1
            generalize (g i).2.2 = y at c2
            go_wp2
            go_quiet (fail)
            have hq : Below wr.heap.size wr (wr.drewN nq) := below_drewN (Below.refl _ _) nq
            have k0 := (hq.cell (p := ⟨ba, off + i * 3, none⟩) hlt).trans c0
            have Hb2 := hid (Hb.out.ext Ht.out hq)
            have Ht2 := hid (Ht.out.ext hq)
            have hbq := hbk.trans (hq.mono hbk.size)
            have hltq := Nat.lt_of_lt_of_le hlt hq.size
            generalize wr.drewN nq = wq at hq k0 Hb2 Ht2 hbq hltq ⊢
            clear c0 c1 c2 Hb Ht hbk hq hlt
            go_upto_block 2 with fail
            go_cut [9] (fun s wx => ∃ L', Beside w.heap.size b wx s L' ∧ TabR w.heap.size wx b L' most ∧ Below w.heap.size w wx ∧ L'.length ≤ 100 + 50 * (i + 1))
            case first =>
              obtain ⟨hbe, hbs2⟩ := Hb2.out
              have hL2 : L.length ≤ 2000000 := by omega
              have hlS : L.length ≤ 100 + 50 * (i + 1) := by omega
              by_cases k0' : kd = 0
              · subst k0'
                have Hset := hid (set_any w.heap.size b L most x y wq hL2 Ht2.out)
                as_aux_lemma =>
                  go_wp2_with fail
                  refine Hset.out.mono ?_
                  rintro ev w4 ⟨rfl, ht4, hb4, hf4⟩
                  have Hb4 := hid (Hb2.out.fr Ht2.out hf4)
                  have hb4' := hbq.trans hb4
                  unfold setE setL at *
                  by_cases hx : x < 0 ∨ (L.length : Int) ≤ x
                  · rw [if_pos hx]
                    rw [if_pos hx] at ht4
                    have Ht4 := hid ht4; clear ht4
                    obtain ⟨sa, sc, rfl, hrd⟩ := RdL.of_own hbe
                    clear hrd hbe hbs2 hf4
                    by_cases hx0 : x < 0
                    · have tx : decide (x < 0) = true := by simp [hx0]
                      go_wp2_with fail
                      go_meet
                      exact ⟨L, Hb4.out, Ht4.out, hb4', hlS⟩
                    · have tx : decide (x < 0) = false := by simp; omega
                      have tx1 : decide (x ≥ (L.length : Int)) = true := by simp; omega
                      go_wp2_with fail
                      go_meet
                      exact ⟨L, Hb4.out, Ht4.out, hb4', hlS⟩
                  · rw [if_neg hx]
                    rw [if_neg hx] at ht4
                    obtain ⟨q, rfl⟩ := Int.eq_ofNat_of_zero_le (show 0 ≤ x by omega)
                    have hq : q < L.length := by omega
                    have tx : decide ((q : Int) < 0) = false := by simp
                    have tx1 : decide ((q : Int) ≥ (L.length : Int)) = false := by simp; omega
                    by_cases hy : y < -1
                    · rw [if_pos hy]
                      rw [if_pos hy] at ht4
                      have Ht4 := hid ht4; clear ht4
                      have ty : decide (y < -1) = true := by simp [hy]
                      obtain ⟨sa, sc, rfl, hrd⟩ := RdL.of_own hbe
                      clear hrd hbe hbs2 hf4 hx
                      go_wp2_with fail
                      go_meet
                      exact ⟨L, Hb4.out, Ht4.out, hb4', hlS⟩
                    · rw [if_neg hy]
                      rw [if_neg hy] at ht4
                      have Ht4 := hid ht4; clear ht4
                      have ty : decide (y < -1) = false := by simp; omega
                      obtain ⟨sa, sc, rfl, -⟩ := RdL.of_own hbe
                      obtain ⟨sa', sc', he', hrd⟩ := RdL.of_own Hb4.out.1
                      cases he'
                      have Hrs := hid (refSet_any sa sc L q y w4 hq hL2 hrd)
                      clear hrd hbe hbs2 hf4 hx hy
                      go_wp2_with fail
                      refine Hrs.out.mono ?_
                      rintro ev w5 ⟨s5, rfl, hs5, hb5⟩
                      have hlen5 : (L.set q y).length = L.length := by simp
                      have hlen5' : (L.set q y).length ≤ 100 + 50 * (i + 1) := by rw [hlen5]; exact hlS
                      have Hb5 := hid (Beside.new (b := b) (L := L.set q y) (by rw [hlen5]; exact hs5) hb4'.size Ht4.out hb5)
                      have Ht5 := hid (Ht4.out.ext hb5)
                      clear hs5
                      have hb5' := hb4'.trans (hb5.mono hb4'.size)
                      go_wp2_with fail
                      go_meet
                      exact ⟨L.set q y, Hb5.out, Ht5.out, hb5', hlen5'⟩
              · have q0 : (kd == 0) = false := by simp [k0']
                by_cases k1' : kd = 1
                · subst k1'
                  obtain ⟨sa, sc, rfl, hrd⟩ := RdL.of_own hbe
                  have hrdq := hid hrd
                  clear hrd hbe hbs2
                  have hw1 : wrap64 (most - L.length) = most - L.length := by unfold wrap64; omega
                  by_cases hbig : 50 < x ∧ x ≤ most - L.length
                  · have tx : decide (x > 50) = true := by simp; omega
                    have tx1 : decide (x ≤ most - L.length) = true := by simp; omega
                    clear q0 k0'
                    go_wp2
                    go_ret
                    exact ⟨rfl, hbq⟩
                  · have Hg := hid (grow_any w.heap.size b L most x wq hL2 (by omega) (by omega) Ht2.out hbq.size)
                    by_cases hok : 0 ≤ x ∧ x ≤ most - L.length
                    · rw [if_pos hok, decide_eq_true hok] at Hg
                      obtain ⟨m, rfl⟩ := Int.eq_ofNat_of_zero_le hok.1
                      rw [Int.toNat_natCast] at Hg
                      have hm50 : m ≤ 50 := by omega
                      have hlM : L.length + m ≤ 100 + 50 * (i + 1) := by omega
                      have hlM2 : L.length + m ≤ 2000000 := by omega
                      have tx : decide ((m : Int) > 50) = false := by simp; omega
                      have tx0 : decide ((m : Int) ≥ 0) = true := by simp
                      have tx1 : decide ((m : Int) ≤ most - L.length) = true := by simp; omega
                      have hwl : wrap64 ((L.length : Int) + m) = L.length + m := by unfold wrap64; omega
                      have hbb := hid hbig; clear hbig hok q0 k0'
                      go_wp2_with fail
                      refine Hg.out.mono ?_
                      rintro ev w4 ⟨rfl, ht4, hb4, hf4⟩
                      have Hb4 := hid (Hb2.out.fr Ht2.out hf4)
                      have hb4' := hbq.trans hb4
                      obtain ⟨sa', sc', he', hrd⟩ := RdL.of_own Hb4.out.1
                      cases he'
                      have hsz := size_any sa sc L (L.length + m) w4 hlM2 hL2 hrd
                      push_cast at hsz
                      have Hsz := hid hsz
                      have Ht4 := hid ht4
                      clear hrd hsz ht4 hf4
                      as_aux_lemma =>
                        go_wp2_with fail
                        refine Hsz.out.mono ?_
                        rintro ev w5 ⟨s5, rfl, hs5, hb5⟩
                        rw [sizeL_more] at hs5
                        have hlen5 : (L ++ List.replicate m (-1 : Int)).length = L.length + m := by simp
                        have hlen5' : (L ++ List.replicate m (-1 : Int)).length ≤ 100 + 50 * (i + 1) := by rw [hlen5]; exact hlM
                        have Hb5 := hid (Beside.new (b := b) (L := L ++ List.replicate m (-1)) (by rw [hlen5]; exact hs5) hb4'.size Ht4.out hb5)
                        have Ht5 := hid (Ht4.out.ext hb5)
                        clear hs5
                        have hb5' := hb4'.trans (hb5.mono hb4'.size)
                        go_wp2_with fail
                        go_meet
                        exact ⟨_, Hb5.out, Ht5.out, hb5', hlen5'⟩
                    · rw [if_neg hok, decide_eq_false hok] at Hg
                      have hbb := hid hbig; clear hbig q0 k0'
                      by_cases hx0 : x < 0
                      · have tx : decide (x > 50) = false := by simp; omega
                        have tx0 : decide (x ≥ 0) = false := by simp; omega
                        clear hok
                        as_aux_lemma =>
                          go_wp2_with fail
                          refine Hg.out.mono ?_
                          rintro ev w4 ⟨rfl, ht4, hb4, hf4⟩
                          have Hb4 := hid (Hb2.out.fr Ht2.out hf4)
                          have Ht4 := hid ht4
                          have hb4' := hbq.trans hb4
                          clear ht4 hf4
                          go_wp2_with fail
                          go_meet
                          exact ⟨L, Hb4.out, Ht4.out, hb4', hlS⟩
                      · have tx0 : decide (x ≥ 0) = true := by simp; omega
                        have tx1 : decide (x ≤ most - L.length) = false := by simp; omega
                        clear hok
                        as_aux_lemma =>
                          go_wp2_with fail
                          all_goals
                            refine Hg.out.mono ?_
                            rintro ev w4 ⟨rfl, ht4, hb4, hf4⟩
                            have Hb4 := hid (Hb2.out.fr Ht2.out hf4)
                            have Ht4 := hid ht4
                            have hb4' := hbq.trans hb4
                            clear ht4 hf4
                            go_wp2_with fail
                            go_meet
                            exact ⟨L, Hb4.out, Ht4.out, hb4', hlS⟩
                · have q1 : (kd == 1) = false := by simp [k1']
                  by_cases k2' : kd = 2
                  · subst k2'
                    obtain ⟨sa, sc, rfl, hrd⟩ := RdL.of_own hbe
                    clear hrd hbe hbs2 q0 q1 k0' k1'
                    have Hc := hid (cut_any w.heap.size b L most x wq hbq.size hL2 Ht2.out)
                    by_cases hok : 0 ≤ x ∧ x < L.length
                    · rw [if_pos hok] at Hc
                      obtain ⟨m, rfl⟩ := Int.eq_ofNat_of_zero_le hok.1
                      rw [Int.toNat_natCast] at Hc
                      have hmL : m < L.length := by omega
                      have hlM : m ≤ 100 + 50 * (i + 1) := by omega
                      have hlM2 : m ≤ 2000000 := by omega
                      have tx0 : decide ((m : Int) ≥ 0) = true := by simp
                      have tx1 : decide ((m : Int) < L.length) = true := by simp; omega
                      clear hok
                      as_aux_lemma =>
                        go_wp2_with fail
                        refine Hc.out.mono ?_
                        rintro ev w4 ⟨rfl, ht4, hb4, hf4⟩
                        have Hb4 := hid (Hb2.out.fr Ht2.out hf4)
                        have hb4' := hbq.trans hb4
                        obtain ⟨sa', sc', he', hrd⟩ := RdL.of_own Hb4.out.1
                        cases he'
                        have Hsz := hid (size_any sa sc L m w4 hlM2 hL2 hrd)
                        have Ht4 := hid ht4
                        clear hrd ht4 hf4
                        go_wp2_with fail
                        refine Hsz.out.mono ?_
                        rintro ev w5 ⟨s5, rfl, hs5, hb5⟩
                        have hlen5 : (sizeL L m).length = m := sizeL_length L m
                        have hlen5' : (sizeL L m).length ≤ 100 + 50 * (i + 1) := by rw [hlen5]; exact hlM
                        have Hb5 := hid (Beside.new (b := b) (L := sizeL L m) (by rw [hlen5]; exact hs5) hb4'.size Ht4.out hb5)
                        have Ht5 := hid (Ht4.out.ext hb5)
                        clear hs5
                        have hb5' := hb4'.trans (hb5.mono hb4'.size)
                        go_wp2_with fail
                        go_meet
                        exact ⟨_, Hb5.out, Ht5.out, hb5', hlen5'⟩
                    · rw [if_neg hok] at Hc
                      by_cases hx0 : x < 0
                      · have tx0 : decide (x ≥ 0) = false := by simp; omega
                        clear hok
                        as_aux_lemma =>
                          go_wp2_with fail
                          refine Hc.out.mono ?_
                          rintro ev w4 ⟨rfl, ht4, hb4, hf4⟩
                          have Hb4 := hid (Hb2.out.fr Ht2.out hf4)
                          have Ht4 := hid ht4
                          have hb4' := hbq.trans hb4
                          clear ht4 hf4
                          go_wp2_with fail
                          go_meet
                          exact ⟨L, Hb4.out, Ht4.out, hb4', hlS⟩
                      · have tx0 : decide (x ≥ 0) = true := by simp; omega
                        have tx1 : decide (x < (L.length : Int)) = false := by simp; omega
                        clear hok
                        as_aux_lemma =>
                          go_wp2_with fail
                          refine Hc.out.mono ?_
                          rintro ev w4 ⟨rfl, ht4, hb4, hf4⟩
                          have Hb4 := hid (Hb2.out.fr Ht2.out hf4)
                          have Ht4 := hid ht4
                          have hb4' := hbq.trans hb4
                          clear ht4 hf4
                          go_wp2_with fail
                          go_meet
                          exact ⟨L, Hb4.out, Ht4.out, hb4', hlS⟩
                  · have q2 : (kd == 2) = false := by simp [k2']
                    clear k0' k1' k2' hbe hbs2
                    as_aux_lemma =>
                      go_wp2_with fail
                      go_meet
                      exact ⟨L, Hb2.out, Ht2.out, hbq, hlS⟩
            case rest =>
              as_aux_lemma =>
                obtain ⟨L', hB', hT', hbx, hlen'⟩ := hcut
                have hL2' : L'.length ≤ 2000000 := by omega
                have HB := hid hB'
                have HT := hid hT'
                obtain ⟨sa, sc, rfl, hrd⟩ := RdL.of_own hB'.1
                have Hrd := hid hrd
                clear hrd hB' hT' Hb2 Ht2 k0
                have Hl := hid (len_any _ b L' most wc HT.out)
                have Hli := hid (list_any _ b L' most wc hL2' HT.out)
                go_wp2_with fail
                refine Hl.out.mono ?_
                rintro ev w4 ⟨rfl, rfl⟩
                go_wp2_with fail
                refine Hli.out.mono ?_
                rintro ev w4 ⟨s4, rfl, hs4, hb4⟩
                obtain ⟨a4, c4, rfl, hr4⟩ := RdL.of_own hs4
                have Hsm := hid (same_any a4 sa c4 sc L' L' w4 hL2' hr4 (Hrd.out.ext hb4))
                rw [decide_eq_true rfl] at Hsm
                clear hr4 hs4 Hl Hli
                go_wp2_with fail
                refine Hsm.out.mono ?_
                rintro ev w5 ⟨rfl, hb5⟩
                have hb45 : Below wc.heap.size wc w5 := hb4.trans (hb5.mono hb4.size)
                have Hf := hid (find_any _ b L' most y w5 hL2' (HT.out.ext hb45))
                clear Hsm
                go_wp2_with fail
                refine Hf.out.mono ?_
                rintro ev w6 ⟨s6, rfl, hs6, hb6⟩
                have hb46 : Below wc.heap.size wc w6 := hb45.trans (hb6.mono hb45.size)
                have Hf2 := hid (refFind_any sa sc L' y w6 hL2' (Hrd.out.ext hb46))
                have Hs6 := hid hs6
                clear Hf hs6
                go_wp2_with fail
                refine Hf2.out.mono ?_
                rintro ev w7 ⟨s7, rfl, hs7, hb7⟩
                obtain ⟨a7, c7, rfl, hr7⟩ := RdL.of_own hs7
                obtain ⟨a6, c6, rfl, hr6⟩ := RdL.of_own (ownsRow_ext Hs6.out hb7)
                have hfl : (findL L' y L'.length).length ≤ 2000000 := Nat.le_trans (findL_le _ _ _) hL2'
                have Hsm := hid (same_any a6 a7 c6 c7 _ _ w7 hfl hr6 hr7)
                rw [decide_eq_true rfl] at Hsm
                clear hr6 hr7 hs7 Hf2 Hs6
                go_wp2_with fail
                refine Hsm.out.mono ?_
                rintro ev w8 ⟨rfl, hb8⟩
                have hb48 : Below wc.heap.size wc w8 := (hb46.trans (hb7.mono hb46.size)).trans (hb8.mono (Nat.le_trans hb46.size hb7.size))
                have HB8 := hid (HB.out.ext HT.out hb48)
                have HT8 := hid (HT.out.ext hb48)
                clear Hsm HB HT Hrd
                go_wp2
                go_roundw
                case rel => exact ⟨i + 1, L', by go_num, by omega, HB8, HT8, hbx.trans (hb48.mono hbx.size), hlen'⟩
                case measure => simp [intOf]; omega
          · obtain rfl : i = n := by omega
            go_wp2
            go_ret
            exact ⟨rfl, hbk⟩
  · have t : decide ((n : Int) > 60) = true := by simp; omega
    go_wp2
    go_ret
    exact ⟨rfl, hb1⟩
end Go.Proofs.Ytpdmkignihhobaa
