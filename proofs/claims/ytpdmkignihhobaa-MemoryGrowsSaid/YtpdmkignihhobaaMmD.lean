/- What is proved here: the law MemoryGrows, walked. -/
import Derived.Test.YtpdmkignihhobaaMmC
namespace Go.Proofs.Ytpdmkignihhobaa
open Go.RowKit
set_option linter.unusedVariables false
set_option linter.unusedSimpArgs false

theorem over_mem {L M : List Int} {k : Nat} (hL : ∀ x ∈ L, 0 ≤ x ∧ x < 256) (hM : ∀ x ∈ M, 0 ≤ x ∧ x < 256) : ∀ x ∈ over L k M, 0 ≤ x ∧ x < 256 := by
  intro x hx
  unfold over at hx
  simp only [List.mem_append] at hx
  rcases hx with h | h | h
  · exact hL x (List.mem_of_mem_take h)
  · exact hM x h
  · exact hL x (List.mem_of_mem_drop h)

theorem zeros_mem (n : Nat) : ∀ x ∈ List.replicate n (0 : Int), 0 ≤ x ∧ x < 256 := by intro x hx; rw [List.eq_of_mem_replicate hx]; omega
theorem app_mem {L M : List Int} (hL : ∀ x ∈ L, 0 ≤ x ∧ x < 256) (hM : ∀ x ∈ M, 0 ≤ x ∧ x < 256) : ∀ x ∈ L ++ M, 0 ≤ x ∧ x < 256 := by
  intro x hx
  rcases List.mem_append.1 hx with h | h
  · exact hL x h
  · exact hM x h

theorem sum_more (L : List Int) (n : Nat) : sumF (L ++ List.replicate n 0) 0 = sumF L 0 := by rw [sumF_append, sumF_zeros]; omega

theorem over_app_mid (L R M : List Int) (k : Nat) (h : k + M.length ≤ L.length) : ((over L k M ++ R).drop k).take M.length = M := by
  have hl : (over L k M).length = L.length := over_length L k M h
  rw [List.drop_append_of_le_length (by omega), List.take_append_of_le_length (by rw [List.length_drop]; omega)]
  exact over_mid L M k h

theorem over_app_low (L M : List Int) (k : Nat) : (over L (L.length + k) M).take L.length = L := by
  unfold over
  rw [List.take_of_length_le (show L.length ≤ L.length + k by omega), List.take_append_of_le_length (Nat.le_refl _), List.take_length]

theorem over_app_low2 (L R M : List Int) (k : Nat) : (over (L ++ R) (L.length + k) M).take L.length = L := by
  unfold over
  rw [List.take_append_of_le_length (by simp), List.take_take, Nat.min_eq_left (by omega), List.take_append_of_le_length (Nat.le_refl _), List.take_length]

set_option maxHeartbeats 4000000 in
set_option maxRecDepth 100000 in
theorem mgrows_any (a0 : Option Addr) (c0 p q : Nat) (M : List Int) (w : World) (hp : p < 65536) (hq : q < 256) (hs0 : SrcV w a0 M.length (M.map (Value.int .u8))) (hM : ∀ x ∈ M, 0 ≤ x ∧ x < 256) :
    Calls Try.prog 5 #[.slice a0 M.length c0, .int .u16 p, .int .u8 q] w fun e w' => e = .returned (.bool true) ∧ Below w.heap.size w w' := by
  have Hs0 := hid hs0; have HM := hid hM
  clear hs0 hM
  go_enter Try.func5, Try.ntmps5
  go_wp2_with fail
  refine (awake26_any _).mono ?_
  rintro e w1 ⟨rfl, hb1⟩
  have hz1 := hb1.size
  by_cases h0 : M.length ≤ 200
  · by_cases h1 : M.length = 0
    · have t0 : decide ((M.length : Int) > 200) = false := by simp; omega
      have t1 : ((M.length : Int) == 0) = true := by simp [h1]
      have H1 := hid h1
      clear h1 h0
      go_wp2
      go_ret
      exact ⟨rfl, hb1⟩
    · have t0 : decide ((M.length : Int) > 200) = false := by simp; omega
      have t1 : ((M.length : Int) == 0) = false := beq_eq_false_iff_ne.2 (by omega)
      go_wp2_with fail
      refine (mnew_any 1 4 w1 w1.heap.size (Nat.le_refl _) (by omega) (by omega) (by omega)).mono ?_
      rintro e w2 ⟨⟨b, rfl, hbb0, hm⟩, hb2⟩
      have hz2 := hb2.size
      have hl : (List.replicate (1 * 65536) (0 : Int)).length = 65536 := List.length_replicate ..
      have hby := zeros_mem (1 * 65536)
      generalize List.replicate (1 * 65536) (0 : Int) = L0 at *
      have hw0 : IntKind.u64.wrap (65536 - (M.length : Int)) = 65536 - M.length := wrap_u64 (by omega) (by omega)
      have hxr : ∃ x : Nat, (p : Int) % (65536 - (M.length : Int)) = x ∧ x + M.length < 65536 := ⟨p % (65536 - M.length), by
        rw [show (65536 - (M.length : Int)) = ((65536 - M.length : Nat) : Int) by omega]; rfl, by have := Nat.mod_lt p (show 65536 - M.length > 0 by omega); generalize p % (65536 - M.length) = r at *; omega⟩
      obtain ⟨x, hx, hxl⟩ := hxr
      have hxt : (p : Int).tmod (65536 - (M.length : Int)) = x := by rw [Int.tmod_eq_emod_of_nonneg (by omega)]; exact hx
      have hfit : fitsB L0 x M.length = true := by simp [fitsB, hl]; omega
      have hwr := write_any w1.heap.size b x L0 M 4 a0 c0 w2 (by omega) (by omega) (by omega) (Hs0.out.ext (hb1.trans (hb2.mono hz1))) hm
      rw [hfit, if_pos rfl, if_pos rfl] at hwr
      have hl1 : (over L0 x M).length = 65536 := (over_length _ _ _ (by omega)).trans hl
      have hby1 := over_mem (k := x) hby HM.out
      have hmid := fun R => over_app_mid L0 R M x (by omega)
      have Hwr := hid hwr
      obtain ⟨n, hn, hn3⟩ : ∃ n : Nat, (q : Int) % 3 + 1 = n ∧ (1 ≤ n ∧ n ≤ 3) := ⟨q % 3 + 1, by omega, by omega⟩
      have hqt : (q : Int).tmod 3 = (q : Int) % 3 := Int.tmod_eq_emod_of_nonneg (by omega)
      generalize over L0 x M = L1 at *
      have Hl1 := hid hl1; have Hby1 := hid hby1; have Hmid := hid hmid
      have Hx := hid hx; have Hn := hid hn
      clear hl hby hfit hm hwr hl1 hby1 hmid
      have hu8 : IntKind.u8.wrap ((q : Int) % 3) = (q : Int) % 3 := by unfold IntKind.wrap; simp [IntKind.bits, IntKind.signed]; omega
      have hw64 : IntKind.u64.wrap ((q : Int) % 3 + 1) = (q : Int) % 3 + 1 := wrap_u64 (by omega) (by omega)
      go_wp2_with fail
      refine Hwr.out.mono ?_
      rintro e w3 ⟨rfl, hm3, hb3, -⟩
      have hz3 := hb3.size
      have hl1 := Hl1.out
      have Hsm := hid (sum_any w1.heap.size b L1 4 w3 (by omega) Hby1.out hm3)
      have hgr : growsB L1 4 n = true := by simp [growsB, hl1]; omega
      have hg := grow_any w1.heap.size b n L1 4 w3 (by omega) (by omega) (by omega) (by omega) (by omega) hm3
      rw [hgr, if_pos rfl, if_pos rfl] at hg
      have hpg : (L1.length : Int) / 65536 = 1 := by omega
      have Hg := hid hg
      clear hl1 hm3 hgr hg
      go_wp2_with fail
      refine Hsm.out.mono ?_
      rintro e w4 ⟨rfl, rfl⟩
      go_wp2_with fail
      refine Hg.out.mono ?_
      rintro e w4 ⟨rfl, hm4, hb4, -⟩
      have hz4 := hb4.size
      rw [hpg]
      have hl1 := Hl1.out
      have hl2 : (L1 ++ List.replicate (n * 65536) (0 : Int)).length = 65536 + n * 65536 := by simp [hl1]
      have hby2 := app_mem Hby1.out (zeros_mem (n * 65536))
      have hsum2 := sum_more L1 (n * 65536)
      have hmid2 := Hmid.out (List.replicate (n * 65536) (0 : Int))
      have hlow : (over (L1 ++ List.replicate (n * 65536) (0 : Int)) (65536 + x) M).take 65536 = L1 := by
        have := over_app_low2 L1 (List.replicate (n * 65536) (0 : Int)) M x
        rw [hl1] at this; exact this
      generalize L1 ++ List.replicate (n * 65536) (0 : Int) = L2 at *
      have hrd := read_ok w1.heap.size b x M.length L2 4 w4 (by omega) (by omega) (by omega) (by omega) hm4
      rw [hmid2] at hrd
      have Hrd := hid hrd
      have Hm4 := hid hm4
      have Hl2 := hid hl2; have Hby2 := hid hby2; have Hsum2 := hid hsum2; have Hlow := hid hlow
      clear hl1 hm4 hl2 hby2 hsum2 hmid2 hlow hrd hpg
      go_wp2_with fail
      refine Hrd.out.mono ?_
      rintro e w5 ⟨⟨s, rfl, ho5⟩, hb5⟩
      have hz5 := hb5.size
      have hc1 := conv_row (dst := 9) Try.underlying39 Try.underlying5 Try.underlying9 ho5
      have Hbw5 := hid ((hb1.trans (hb2.mono hz1)).trans ((hb3.mono (show w.heap.size ≤ w1.heap.size by omega)).trans ((hb4.mono (show w.heap.size ≤ w1.heap.size by omega)).trans (hb5.mono (show w.heap.size ≤ w4.heap.size by omega)))))
      have hc2 := conv_src (c := c0) (dst := 9) Try.underlying39 Try.underlying5 Try.underlying9 (Hs0.out.ext Hbw5.out)
      have Hm5 := hid (Hm4.out.ext hb5)
      have hl2 := Hl2.out
      have Hsm2 := hid (sum_any w1.heap.size b L2 4 w5 (by omega) Hby2.out Hm5.out)
      have hfit2 : fitsB L2 (65536 + x) M.length = true := by simp [fitsB, hl2]; omega
      have hwr2 := write_any w1.heap.size b (65536 + x) L2 M 4 a0 c0 w5 (by omega) (by omega) (by omega) (Hs0.out.ext Hbw5.out) Hm5.out
      rw [hfit2, if_pos rfl, if_pos rfl] at hwr2
      have hl3 : (over L2 (65536 + x) M).length = 65536 + n * 65536 := (over_length _ _ _ (by omega)).trans hl2
      generalize over L2 (65536 + x) M = L3 at *
      have Hl3 := hid hl3
      have hwx : IntKind.u64.wrap (65536 + (x : Int)) = ((65536 + x : Nat) : Int) := by rw [wrap_u64 (by omega) (by omega)]; omega
      have Hwr2 := hid hwr2
      clear hl2 hfit2 hwr2 hl3 ho5
      go_wp2_with fail
      refine Hsm2.out.mono ?_
      rintro e w6 ⟨rfl, rfl⟩
      rw [Hsum2.out]
      go_wp2_with fail
      refine Hwr2.out.mono ?_
      rintro e w6 ⟨rfl, hm6, hb6, -⟩
      have hz6 := hb6.size
      have hl3 := Hl3.out
      have hsh := shrink_any w1.heap.size b 1 L3 4 w6 (by omega) (by omega) hm6
      have hsl : shrinkL L3 1 = L1 := by
        unfold shrinkL
        rw [if_pos (by omega)]
        exact Hlow.out
      rw [hsl] at hsh
      have Hsh := hid hsh
      clear hl3 hsh hsl hm6 hc1 hc2
      go_wp2_with fail
      refine Hsh.out.mono ?_
      rintro e w7 ⟨rfl, hm7, hb7, -⟩
      have hz7 := hb7.size
      have hl1 := Hl1.out
      have Hrb := hid (read_bad w1.heap.size b 65536 1 L1 4 w7 (by omega) (by omega) (by omega) (by omega) hm7)
      have hgr : growsB L1 4 1 = true := by simp [growsB, hl1]
      have hg := grow_any w1.heap.size b 1 L1 4 w7 (by omega) (by omega) (by omega) (by omega) (by omega) hm7
      rw [hgr, if_pos rfl, if_pos rfl] at hg
      have Hg2 := hid hg
      clear hl1 hm7 hgr hg
      go_wp2_with fail
      refine Hrb.out.mono ?_
      rintro e w8 ⟨rfl, rfl⟩
      go_wp2_with fail
      refine Hg2.out.mono ?_
      rintro e w8 ⟨rfl, hm8, hb8, -⟩
      have hl1 := Hl1.out
      have hl5 : (L1 ++ List.replicate (1 * 65536) (0 : Int)).length = 65536 + 65536 := by rw [List.length_append, hl1, List.length_replicate]
      have hby5 := app_mem Hby1.out (zeros_mem (1 * 65536))
      have hsum5 := sum_more L1 (1 * 65536)
      generalize L1 ++ List.replicate (1 * 65536) (0 : Int) = L5 at *
      have Hsm5 := hid (sum_any w1.heap.size b L5 4 w8 (by omega) hby5 hm8)
      have Hsum5 := hid hsum5
      clear hl1 hl5 hby5 hsum5 hm8
      go_wp2_with fail
      refine Hsm5.out.mono ?_
      rintro e w9 ⟨rfl, rfl⟩
      rw [Hsum5.out]
      go_wp2
      go_ret
      exact ⟨rfl, Hbw5.out.trans ((hb6.mono (by omega)).trans ((hb7.mono (by omega)).trans (hb8.mono (by omega))))⟩
  · have t0 : decide ((M.length : Int) > 200) = true := by simp; omega
    go_wp2
    go_ret
    exact ⟨rfl, hb1⟩
end Go.Proofs.Ytpdmkignihhobaa
