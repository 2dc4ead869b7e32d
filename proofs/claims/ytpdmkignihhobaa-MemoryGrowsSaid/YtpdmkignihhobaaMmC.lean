/- What is proved here: the laws MemoryBack and MemoryGrows, walked. -/
import Derived.Test.YtpdmkignihhobaaMmB
namespace Go.Proofs.Ytpdmkignihhobaa
open Go.RowKit
set_option linter.unusedVariables false
set_option linter.unusedSimpArgs false

theorem conv_src {P : Program} {w : World} {src dst e : TypeId} (hs : P.underlying src = some (.slice e)) (he : P.underlying e = some (.int .u8)) (hd : P.underlying dst = some .string) {a : Option Addr} {n c : Nat} {xs : List Int}
    (h : SrcV w a n (xs.map (Value.int .u8))) : (convert src dst (.slice a n c)).run P w = .ok (.string (strOfNums xs)) w := by
  have hl : xs.length = n := by have := h.1; simpa using this
  cases hxs : xs with
  | nil =>
    subst hxs
    simp at hl; subst hl
    cases a with
    | none => exact run_convert_bytes_nil w src e hs he 0 c dst hd
    | some ad =>
      have hq : (convert src dst (.slice (some ad) 0 c)).run P w = .ok (.string (strOfNums [])) w := by
        rw [run_convert_bytes_string w src dst e _ 0 c hs he hd]
        have hl0 : (loadCells ad 0).run P w = .ok #[] w := by
          have := run_loadCells_list (P := P) w ad [] (fun j v hj => by simp at hj)
          simpa using this
        simp [Conv.bytesToString, hl0, strOfNums]
        rfl
      exact hq
  | cons x xs' =>
    rw [← hxs]
    obtain ⟨b, off, rfl, _, _⟩ := h.2 0 (.int .u8 x) (by rw [hxs]; rfl)
    refine run_convert_bytes_arg w src e hs he b off n c xs hl (fun i hi => ?_) dst hd
    obtain ⟨b', off', ha, hc, _⟩ := h.2 i (.int .u8 (xs.getD i 0)) (by simp [hl, hi])
    simp at ha
    obtain ⟨rfl, rfl⟩ := ha
    exact hc

set_option maxHeartbeats 400000 in
set_option maxRecDepth 100000 in
theorem awake26_any (w : World) : Calls Try.prog 22 #[] w fun e w' => e = .returned (.bool true) ∧ Below w.heap.size w w' := by
  go_enter Try.func22, Try.ntmps22
  go_wp2_with fail
  refine (mnew_any 1 2 w w.heap.size (Nat.le_refl _) (by omega) (by omega) (by omega)).mono ?_
  rintro e w1 ⟨⟨b, rfl, hb0, hm⟩, hb1⟩
  have hz := hb1.size
  have hl : (List.replicate (1 * 65536) (0 : Int)).length = 65536 := List.length_replicate ..
  generalize List.replicate (1 * 65536) (0 : Int) = L at *
  have f1 : growsB L 2 2 = false := by simp [growsB, hl]
  have f2 : growsB L 2 1 = true := by simp [growsB, hl]
  have HL := hid hl
  have Hm := hid hm
  have hg := hid (grow_any w.heap.size b 2 L 2 w1 (by omega) (by omega) (by omega) (by omega) (by omega) hm)
  clear hl hm
  go_wp2_with fail
  refine hg.out.mono ?_
  rw [f1]
  rintro e w2 ⟨rfl, hm2, hb2, -⟩
  have hz2 := hb2.size
  have hl2 := HL.out
  have hg2 := hid (grow_any w.heap.size b 1 L 2 w2 (by omega) (by omega) (by omega) (by omega) (by omega) hm2)
  have hpg : (L.length : Int) / 65536 = 1 := by omega
  clear hm2 hl2
  go_wp2_with fail
  refine hg2.out.mono ?_
  rw [f2, if_pos rfl, hpg]
  rintro e w3 ⟨rfl, hm3, hb3, -⟩
  have Hm3 := hid hm3
  clear hm3
  go_wp2
  go_ret
  exact ⟨rfl, (hb1.trans hb2).trans hb3⟩

def postsMB (y z gN cN gA cA : Nat) (a1 : Option Addr) (c1 : Nat) (Mb L1 : List Int) : List (Value → World → Prop) := [
    fun x _ => x = .slice (some ⟨gN, 0, none⟩) 65536 cN,
    fun x _ => x = .int .u64 y,
    fun x _ => x = .int .u64 z,
    fun v w => ∃ ad c, v = .slice ad (z - y) c ∧ SrcV w ad (z - y) ((Mb).map (Value.int .u8)),
    fun x _ => x = .string (strOfNums Mb),
    fun x _ => x = .slice a1 Mb.length c1,
    fun x _ => x = .string (strOfNums Mb),
    fun x _ => x = .bool true,
    fun x _ => x = .bool true,
    fun x _ => x = .slice (some ⟨gN, 0, none⟩) 65536 cN,
    fun x _ => x = .int .u64 y,
    fun v w => ∃ ad c, v = .slice ad (y) c ∧ SrcV w ad (y) ((L1.take y).map (Value.int .u8)),
    fun x _ => x = .string (strOfNums (L1.take y)),
    fun x _ => x = .slice (some ⟨gA, 0, none⟩) 65536 cA,
    fun x _ => x = .int .u64 y,
    fun v w => ∃ ad c, v = .slice ad (y) c ∧ SrcV w ad (y) ((L1.take y).map (Value.int .u8)),
    fun x _ => x = .string (strOfNums (L1.take y)),
    fun x _ => x = .bool true,
    fun x _ => x = .bool true,
    fun x _ => x = .bool true,
    fun x _ => x = .slice (some ⟨gN, 0, none⟩) 65536 cN,
    fun x _ => x = .int .u64 z,
    fun v w => ∃ ad c, v = .slice ad (65536 - z) c ∧ SrcV w ad (65536 - z) ((L1.drop z).map (Value.int .u8)),
    fun x _ => x = .string (strOfNums (L1.drop z)),
    fun x _ => x = .slice (some ⟨gA, 0, none⟩) 65536 cA,
    fun x _ => x = .int .u64 z,
    fun v w => ∃ ad c, v = .slice ad (65536 - z) c ∧ SrcV w ad (65536 - z) ((L1.drop z).map (Value.int .u8)),
    fun x _ => x = .string (strOfNums (L1.drop z)),
    fun x _ => x = .bool true,
    fun x _ => x = .bool true,
    fun x _ => x = .bool true]

theorem MemR.dataB_lt {base : Nat} {w : World} {b : Nat} {L : List Int} {most : Int} (h : MemR base w b L most) : b < w.heap.size ∧ ∃ g, dataB w b = some g ∧ g < w.heap.size ∧ w.cell? ⟨b, 0, none⟩ = some (.slice (some ⟨g, 0, none⟩) L.length ((match w.cell? ⟨b, 0, none⟩ with | some (.slice _ _ c) => c | _ => 0))) := by
  obtain ⟨g, cap, c0, c1, z0, z1, hb, hbb, hlc, hg, hbg, hgb, hblk, hown⟩ := h.open
  exact ⟨hb, g, by unfold dataB; rw [c0]; rfl, hg, by rw [c0]⟩

theorem ownsRow_memfr {w w' : World} {base e k n b : Nat} {v : Value} {xs : List Value} (h : w.ownsRow base e k v n xs) (hf : MemFr b w w') (hne : ∀ g, v.ownBlock = some g → g ≠ b ∧ dataB w b ≠ some g) : w'.ownsRow base e k v n xs := by
  refine ⟨h.1, ?_⟩
  rcases h.2 with hn | ⟨g, cap, cur, rfl, hb, hg, rest⟩
  · exact .inl hn
  · obtain ⟨h1, h2⟩ := hne g rfl
    exact .inr ⟨g, cap, cur, rfl, hb, (hf.1 g (Array.getElem?_eq_some_iff.1 hg).1 h1 h2).trans hg, rest⟩

theorem dataB_ext {w w' : World} {b : Nat} (hb : b < w.heap.size) (h : Below w.heap.size w w') : dataB w' b = dataB w b := by
  unfold dataB
  rw [h.cell (p := ⟨b, 0, none⟩) hb]

/-- A row read lately is none of the memory's. -/
theorem new_row_ne {base b : Nat} {L : List Int} {most : Int} {w w' : World} {g n cap e : Nat} {xs : List Value} (h : MemR base w b L most) (hb : Below w.heap.size w w') (ho : w'.ownsRow w.heap.size e 1 (.slice (some ⟨g, 0, none⟩) n cap) n xs) : ∀ g', (Value.slice (some ⟨g, 0, none⟩) n cap).ownBlock = some g' → g' ≠ b ∧ dataB w' b ≠ some g' := by
  intro g' hg'
  have hge := (ho.lt g' hg').1
  obtain ⟨h1, q, h2, h3, _⟩ := h.dataB_lt
  refine ⟨by omega, ?_⟩
  rw [dataB_ext h1 hb, h2]
  intro e
  have : q = g' := by simpa using e
  omega

theorem over_mid (L M : List Int) (k : Nat) (h : k + M.length ≤ L.length) : ((over L k M).drop k).take M.length = M := by
  unfold over
  have : (L.take k).length = k := by simp; omega
  rw [List.drop_append_of_le_length (by omega), List.drop_of_length_le (by omega), List.nil_append, List.take_append_of_le_length (Nat.le_refl _), List.take_length]
theorem over_low (L M : List Int) (k : Nat) (h : k + M.length ≤ L.length) : (over L k M).take k = L.take k := by
  unfold over
  have : (L.take k).length = k := by simp; omega
  rw [List.take_append_of_le_length (by omega), List.take_of_length_le (by omega)]
theorem over_high (L M : List Int) (k : Nat) (h : k + M.length ≤ L.length) : (over L k M).drop (k + M.length) = L.drop (k + M.length) := by
  unfold over
  have : (L.take k).length = k := by simp; omega
  rw [← List.append_assoc, List.drop_append, List.drop_of_length_le (by simp; omega), List.nil_append]
  simp; omega

set_option maxHeartbeats 4000000 in
set_option maxRecDepth 100000 in
theorem mback_any (a0 a1 : Option Addr) (c0 c1 x y : Nat) (Ma Mb : List Int) (w : World) (hx : x < 65536) (hy : y < 65536) (hs0 : SrcV w a0 Ma.length (Ma.map (Value.int .u8))) (hs1 : SrcV w a1 Mb.length (Mb.map (Value.int .u8))) :
    Calls Try.prog 4 #[.slice a0 Ma.length c0, .slice a1 Mb.length c1, .agg #[.int .u16 x, .int .u16 y]] w fun e w' => e = .returned (.bool true) ∧ Below w.heap.size w w' := by
  have Hs0 := hid hs0; have Hs1 := hid hs1
  clear hs0 hs1
  go_enter Try.func4, Try.ntmps4
  go_wp2_with fail
  obtain ⟨W0, hW0, hz0, hb0, d0⟩ := allocs1 w #[.int .u16 x, .int .u16 y] 41
  rw [← hW0]; clear hW0
  refine (awake26_any _).mono ?_
  rintro e w1 ⟨rfl, hb1⟩
  have hz1 := hb1.size
  by_cases h0 : Ma.length ≤ 200
  · by_cases h1 : Mb.length ≤ 200
    · have t0 : decide ((Ma.length : Int) > 200) = false := by simp; omega
      have t1 : decide ((Mb.length : Int) > 200) = false := by simp; omega
      have D0 := hid ((hb1.block _ (by omega)).trans d0)
      clear d0
      go_wp2_with fail
      refine (mnew_any 1 1 w1 w1.heap.size (Nat.le_refl _) (by omega) (by omega) (by omega)).mono ?_
      rintro e w2 ⟨⟨b, rfl, hbb0, hm⟩, hb2⟩
      have hz2 := hb2.size
      have hrow := (hb2.block w.heap.size (by omega)).trans D0.out
      have k0 := fun n => cell_of_row (w2.drewN n) _ 0 _ _ _ hrow
      have k1 := fun n => cell_of_row (w2.drewN n) _ 1 _ _ _ hrow
      have hl : (List.replicate (1 * 65536) (0 : Int)).length = 65536 := List.length_replicate ..
      have hsum := sumF_zeros (1 * 65536) 0
      have hby : ∀ x ∈ List.replicate (1 * 65536) (0 : Int), 0 ≤ x ∧ x < 256 := by intro x hx; rw [List.eq_of_mem_replicate hx]; omega
      generalize List.replicate (1 * 65536) (0 : Int) = L0 at *
      have Hm := hid hm
      have Hl := hid hl
      have Hsum := hid hsum
      have Hby := hid hby
      clear hrow hm hl hsum hby
      go_wp2
      go_quiet (fail)
      clear k0 k1
      have hb2' := below_drewN hb2 nq
      have Hm' : Hid (MemR w1.heap.size (w2.drewN nq) b L0 1) := Hm.out
      have hz2' : w2.heap.size = (w2.drewN nq).heap.size := rfl
      clear Hm hb2
      generalize w2.drewN nq = w3 at *
      have hbw : Below w.heap.size w w3 := (hb0.trans (hb1.mono (by omega))).trans (hb2'.mono (by omega))
      have Hbw := hid hbw
      clear hbw
      have hl := Hl.out
      have hw0 : IntKind.u64.wrap (Ma.length : Int) = Ma.length := wrap_u64 (by omega) (by omega)
      have hw1 : IntKind.u64.wrap (Mb.length : Int) = Mb.length := wrap_u64 (by omega) (by omega)
      have hx0 : IntKind.u64.wrap ((x : Int) + Ma.length) = x + Ma.length := wrap_u64 (by omega) (by omega)
      have Hwr := hid (write_any w1.heap.size b x L0 Ma 1 a0 c0 w3 (by omega) (by omega) (by omega) (Hs0.out.ext (Hbw.out)) Hm'.out)
      have hcu : Hid (∀ u : Nat, u < 65536 → IntKind.u64.wrap (u : Int) = u) := hid (fun u hu => wrap_u64 (by omega) (by omega))
      clear hl
      go_wp2_with fail
      refine Hwr.out.mono ?_
      cases hf : fitsB L0 x Ma.length with
      | false =>
        simp only [Bool.false_eq_true, if_false]
        rintro e w4 ⟨rfl, hm4, hb4, -⟩
        have hl := Hl.out
        have hgt : decide ((x : Int) + Ma.length > 65536) = true := by
          simp [fitsB, hl] at hf; simp; omega
        have Hsm := hid (sum_any w1.heap.size b L0 1 w4 (by omega) Hby.out hm4)
        clear hf hl hm4
        go_wp2_with fail
        refine Hsm.out.mono ?_
        rintro e w5 ⟨rfl, rfl⟩
        rw [Hsum.out]
        go_wp2
        go_ret
        exact ⟨rfl, Hbw.out.trans (hb4.mono (by omega))⟩
      | true =>
        simp only [if_true]
        rintro e w4 ⟨rfl, hm4, hb4, -⟩
        have hl := Hl.out
        obtain ⟨hf1, hf2⟩ : x ≤ L0.length ∧ Ma.length ≤ L0.length - x := by simpa [fitsB] using hf
        have hl1 : (over L0 x Ma).length = 65536 := (over_length _ _ _ (by omega)).trans hl
        generalize over L0 x Ma = L1 at *
        have Hl1 := hid hl1
        have hbw4 := Hbw.out.trans (hb4.mono (show w.heap.size ≤ w1.heap.size by omega))
        have Hbw4 := hid hbw4
        have hz4 := hb4.size
        have Hrd := hid (read_ok w1.heap.size b 0 65536 L1 1 w4 (by omega) (by omega) (by omega) (by omega) hm4)
        have Hm4 := hid hm4
        clear hf hf1 hf2 hl hl1 hbw4 hm4
        go_wp2_with fail
        refine Hrd.out.mono ?_
        rintro e w5 ⟨⟨s, rfl, ho5⟩, hb5⟩
        have hz5 := hb5.size
        have hl1 := Hl1.out
        rw [List.drop_zero, List.take_of_length_le (by omega)] at ho5
        obtain ⟨gA, cA, rfl, -, -, hcA, -⟩ := ownsRow_some ho5 (by omega)
        have hm5 := Hm4.out.ext hb5
        have hne5 := new_row_ne Hm4.out hb5 ho5
        have Ho5 := hid ho5
        have Hm5 := hid hm5
        have Hne5 := hid hne5
        have Hwr2 := hid (write_any w1.heap.size b y L1 Mb 1 a1 c1 w5 (by omega) (by omega) (by omega) ((Hs1.out.ext Hbw4.out).ext hb5) hm5)
        have hx1 : IntKind.u64.wrap ((y : Int) + Mb.length) = ((y + Mb.length : Nat) : Int) := by rw [wrap_u64 (by omega) (by omega)]; omega
        have Hbw5 := hid (Hbw4.out.trans (hb5.mono (show w.heap.size ≤ w4.heap.size by omega)))
        clear hl1 hne5 ho5 hm5
        go_wp2_with fail
        refine Hwr2.out.mono ?_
        cases hf : fitsB L1 y Mb.length with
        | false =>
          simp only [Bool.false_eq_true, if_false]
          rintro e w6 ⟨rfl, hm6, hb6, -⟩
          have hl := Hl1.out
          have hgt : decide (((y + Mb.length : Nat) : Int) > 65536) = true := by
            simp [fitsB, hl] at hf; simp; omega
          clear hf hl hm6
          generalize y + Mb.length = z at *
          go_wp2
          go_ret
          exact ⟨rfl, Hbw5.out.trans (hb6.mono (by omega))⟩
        | true =>
          simp only [if_true]
          rintro e w6 ⟨rfl, hm6, hb6, hfr6⟩
          have hl := Hl1.out
          obtain ⟨hf1, hf2⟩ : y ≤ L1.length ∧ Mb.length ≤ L1.length - y := by simpa [fitsB] using hf
          have hfit : y + Mb.length ≤ L1.length := by omega
          have hl2 : (over L1 y Mb).length = 65536 := (over_length _ _ _ hfit).trans hl
          have E3 := hid (show (((over L1 y Mb).map (Value.int .u8)).drop y).take (y + Mb.length - y) = Mb.map (Value.int .u8) by
            rw [← List.map_drop, ← List.map_take, show y + Mb.length - y = Mb.length by omega, over_mid _ _ _ hfit])
          have E11 := hid (show (((over L1 y Mb).map (Value.int .u8)).drop 0).take y = (L1.take y).map (Value.int .u8) by
            rw [List.drop_zero, ← List.map_take, over_low _ _ _ hfit])
          have E15 := hid (show ((L1.map (Value.int .u8)).drop 0).take y = (L1.take y).map (Value.int .u8) by
            rw [List.drop_zero, ← List.map_take])
          have E22 := hid (show (((over L1 y Mb).map (Value.int .u8)).drop (y + Mb.length)).take (65536 - (y + Mb.length)) = (L1.drop (y + Mb.length)).map (Value.int .u8) by
            rw [← List.map_drop, over_high _ _ _ hfit, List.take_of_length_le (by simp; omega)])
          have E26 := hid (show ((L1.map (Value.int .u8)).drop (y + Mb.length)).take (65536 - (y + Mb.length)) = (L1.drop (y + Mb.length)).map (Value.int .u8) by
            rw [← List.map_drop, List.take_of_length_le (by simp; omega)])
          generalize over L1 y Mb = L2 at *
          have Hl2 := hid hl2
          have hz6 := hb6.size
          have ho6 := ownsRow_memfr Ho5.out hfr6 Hne5.out
          have Hrd2 := hid (read_ok w1.heap.size b 0 65536 L2 1 w6 (by omega) (by omega) (by omega) (by omega) hm6)
          have Hbw6 := hid (Hbw5.out.trans (hb6.mono (show w.heap.size ≤ w1.heap.size by omega)))
          have Ho6 := hid ho6
          have hyz : y ≤ y + Mb.length := by omega
          have hz65 : y + Mb.length ≤ 65536 := by omega
          generalize hz : y + Mb.length = z at *
          have HZ := hid hz
          clear hf hf1 hf2 hl hl2 hm6 hfr6 ho6 hfit hz
          go_wp2_with fail
          refine Hrd2.out.mono ?_
          rintro e w7 ⟨⟨s, rfl, ho7⟩, hb7⟩
          have hl2 := Hl2.out
          rw [List.drop_zero, List.take_of_length_le (by omega)] at ho7
          obtain ⟨gN, cN, rfl, -, -, hcN, -⟩ := ownsRow_some ho7 (by omega)
          have HoN := hid ho7
          have HoA := hid (ownsRow_ext Ho6.out hb7)
          have Hbw7 := hid (Hbw6.out.trans (hb7.mono (show w.heap.size ≤ w6.heap.size by omega)))
          have HsB := hid (Hs1.out.ext Hbw7.out)
          have hgt : decide ((z : Int) > 65536) = false := by simp; omega
          clear hl2 ho7
          go_wp2
          generalize w7 = wC at *
          refine wp_region_rg (fun w' => Below wC.heap.size wC w') (fun w w' => Below w.heap.size w w') (postsMB y z gN cN gA cA a1 c1 Mb L1)
              [[], [], [], [0, 1, 2], [3], [], [5], [4, 6], [7], [8], [8], [8, 9, 10], [8, 11], [8], [8], [8, 13, 14], [8, 15], [8, 12, 16], [8, 17], [8, 18], [19], [19], [19, 20, 21], [19, 22], [19], [19], [19, 24, 25], [19, 26], [19, 23, 27], [19, 28], [0, 1, 2, 3, 4, 5, 6, 7, 8, 9, 10, 11, 12, 13, 14, 15, 16, 17, 18, 19, 20, 21, 22, 23, 24, 25, 26, 27, 28, 29]]
              130 (by kernel_rfl) rfl (by kernel_rfl) rfl ?rg0 ?rgC ?rgP ?rgS ?rgQ
          case rgP => exact ⟨kept_eq, kept_eq, kept_eq, fun v w w' ⟨ad, c, h1, h2⟩ hb => ⟨ad, c, h1, h2.ext hb⟩, kept_eq, kept_eq, kept_eq, kept_eq, kept_eq, kept_eq, kept_eq, fun v w w' ⟨ad, c, h1, h2⟩ hb => ⟨ad, c, h1, h2.ext hb⟩, kept_eq, kept_eq, kept_eq, fun v w w' ⟨ad, c, h1, h2⟩ hb => ⟨ad, c, h1, h2.ext hb⟩, kept_eq, kept_eq, kept_eq, kept_eq, kept_eq, kept_eq, fun v w w' ⟨ad, c, h1, h2⟩ hb => ⟨ad, c, h1, h2.ext hb⟩, kept_eq, kept_eq, kept_eq, fun v w w' ⟨ad, c, h1, h2⟩ hb => ⟨ad, c, h1, h2.ext hb⟩, kept_eq, kept_eq, kept_eq, kept_eq, trivial⟩
          case rgS =>
            intro V
            refine rgGoals_cons 1 (by intro v; simp only [Act.put, List.setIfInBounds_toArray, List.set_cons_zero, List.set_cons_succ]; exact rfl) rfl (fun w hC hd K hK => ?_) ?_
            · clear hd
              go_simp; exact hK _ _ (Below.refl _ _) rfl
            refine rgGoals_cons 2 (by intro v; simp only [Act.put, List.setIfInBounds_toArray, List.set_cons_zero, List.set_cons_succ]; exact rfl) rfl (fun w hC hd K hK => ?_) ?_
            · clear hd
              go_simp; exact hK _ _ (Below.refl _ _) rfl
            refine rgGoals_cons 3 (by intro v; simp only [Act.put, List.setIfInBounds_toArray, List.set_cons_zero, List.set_cons_succ]; exact rfl) rfl (fun w hC hd K hK => ?_) ?_
            · clear hd
              go_simp; exact hK _ _ (Below.refl _ _) rfl
            refine rgGoals_cons 4 (by intro v; simp only [Act.put, List.setIfInBounds_toArray, List.set_cons_zero, List.set_cons_succ]; exact rfl) rfl (fun w hC hd K hK => ?_) ?_
            · obtain ⟨h0, h1, h2, _⟩ := hd
              replace h0 : V 0 = .slice (some ⟨gN, 0, none⟩) 65536 cN := h0
              replace h1 : V 1 = .int .u64 y := h1
              replace h2 : V 2 = .int .u64 z := h2
              simp only [h0, h1, h2] at hK
              have ho := ownsRow_ext HoN.out hC
              have hs := src_cut (k := y) (n := (z - y)) ho (by omega)
              rw [E3.out] at hs
              have hn0 : cN = y → (z - y) = 0 := by omega
              have HS := hid hs; have HN := hid hn0
              clear hs hn0 ho
              by_cases hck : cN = y
              · have hz := HN.out hck
                have hs := HS.out
                have hnil := hs.1
                rw [hz] at hnil
                have HL := hid (List.eq_nil_of_length_eq_zero hnil)
                clear hs hnil
                have hle : (z : Nat) ≤ cN := by omega
                have hle3 : z ≤ y := by omega
                have hle4 : (z : Int) ≤ 65536 := by omega
                subst hck
                go_simp
                first
                | refine hK (.slice (some ⟨gN, 0, none⟩) 0 0) _ (Below.refl _ _) ⟨some ⟨gN, 0, none⟩, 0, by rw [hz], ?_⟩
                | refine hK _ _ (Below.refl _ _) ⟨_, _, rfl, ?_⟩
                rw [HL.out, hz]; exact src_none _ _
              · have hle : (z : Nat) ≤ cN := by omega
                have hle4 : (z : Int) ≤ 65536 := by omega
                go_simp
                exact hK _ _ (Below.refl _ _) ⟨_, _, rfl, HS.out⟩
            refine rgGoals_cons 5 (by intro v; simp only [Act.put, List.setIfInBounds_toArray, List.set_cons_zero, List.set_cons_succ]; exact rfl) rfl (fun w hC hd K hK => ?_) ?_
            · obtain ⟨h3, _⟩ := hd
              replace h3 : (fun v w => ∃ ad c, v = .slice ad (z - y) c ∧ SrcV w ad (z - y) ((Mb).map (Value.int .u8))) (V 3) w := h3; dsimp only at h3
              obtain ⟨ad, c, e1, e2⟩ := h3
              simp only [e1] at hK ⊢
              have hc := conv_src (c := c) (dst := 9) Try.underlying39 Try.underlying5 Try.underlying9 e2
              go_simp; exact hK _ _ (Below.refl _ _) rfl
            refine rgGoals_cons 6 (by intro v; simp only [Act.put, List.setIfInBounds_toArray, List.set_cons_zero, List.set_cons_succ]; exact rfl) rfl (fun w hC hd K hK => ?_) ?_
            · clear hd
              go_simp; exact hK _ _ (Below.refl _ _) rfl
            refine rgGoals_cons 7 (by intro v; simp only [Act.put, List.setIfInBounds_toArray, List.set_cons_zero, List.set_cons_succ]; exact rfl) rfl (fun w hC hd K hK => ?_) ?_
            · obtain ⟨h5, _⟩ := hd
              replace h5 : V 5 = .slice a1 Mb.length c1 := h5
              simp only [h5] at hK
              have hc := conv_src (c := c1) (dst := 9) Try.underlying39 Try.underlying5 Try.underlying9 (HsB.out.ext hC)
              go_simp; exact hK _ _ (Below.refl _ _) rfl
            refine rgGoals_cons 8 (by intro v; simp only [Act.put, List.setIfInBounds_toArray, List.set_cons_zero, List.set_cons_succ]; exact rfl) rfl (fun w hC hd K hK => ?_) ?_
            · obtain ⟨h4, h6, _⟩ := hd
              replace h4 : V 4 = .string (strOfNums Mb) := h4
              replace h6 : V 6 = .string (strOfNums Mb) := h6
              simp only [h4, h6] at hK
              go_simp; exact hK _ _ (Below.refl _ _) rfl
            refine rgGoals_cons 9 (by intro v; simp only [Act.put, List.setIfInBounds_toArray, List.set_cons_zero, List.set_cons_succ]; exact rfl) rfl (fun w hC hd K hK => ?_) ?_
            · obtain ⟨h7, _⟩ := hd
              replace h7 : V 7 = .bool true := h7
              simp only [h7] at hK
              go_simp; exact hK _ _ (Below.refl _ _) rfl
            refine rgGoals_cons 10 (by intro v; simp only [Act.put, List.setIfInBounds_toArray, List.set_cons_zero, List.set_cons_succ]; exact rfl) rfl (fun w hC hd K hK => ?_) ?_
            · obtain ⟨h8, _⟩ := hd
              replace h8 : V 8 = .bool true := h8
              simp only [h8] at hK
              go_simp; exact hK _ _ (Below.refl _ _) rfl
            refine rgGoals_cons 11 (by intro v; simp only [Act.put, List.setIfInBounds_toArray, List.set_cons_zero, List.set_cons_succ]; exact rfl) rfl (fun w hC hd K hK => ?_) ?_
            · obtain ⟨h8, _⟩ := hd
              replace h8 : V 8 = .bool true := h8
              simp only [h8] at hK
              go_simp; exact hK _ _ (Below.refl _ _) rfl
            refine rgGoals_cons 12 (by intro v; simp only [Act.put, List.setIfInBounds_toArray, List.set_cons_zero, List.set_cons_succ]; exact rfl) rfl (fun w hC hd K hK => ?_) ?_
            · obtain ⟨h8, h9, h10, _⟩ := hd
              replace h8 : V 8 = .bool true := h8
              replace h9 : V 9 = .slice (some ⟨gN, 0, none⟩) 65536 cN := h9
              replace h10 : V 10 = .int .u64 y := h10
              simp only [h8, h9, h10] at hK
              have ho := ownsRow_ext HoN.out hC
              have hs := src_cut (k := 0) (n := y) ho (by omega)
              rw [E11.out] at hs
              have HS := hid hs
              clear hs ho
              have hle : (y : Nat) ≤ cN := by omega
              go_simp
              exact hK _ _ (Below.refl _ _) ⟨_, _, rfl, HS.out⟩
            refine rgGoals_cons 13 (by intro v; simp only [Act.put, List.setIfInBounds_toArray, List.set_cons_zero, List.set_cons_succ]; exact rfl) rfl (fun w hC hd K hK => ?_) ?_
            · obtain ⟨h8, h11, _⟩ := hd
              replace h8 : V 8 = .bool true := h8
              replace h11 : (fun v w => ∃ ad c, v = .slice ad (y) c ∧ SrcV w ad (y) ((L1.take y).map (Value.int .u8))) (V 11) w := h11; dsimp only at h11
              simp only [h8] at hK
              obtain ⟨ad, c, e1, e2⟩ := h11
              simp only [e1] at hK ⊢
              have hc := conv_src (c := c) (dst := 9) Try.underlying39 Try.underlying5 Try.underlying9 e2
              go_simp; exact hK _ _ (Below.refl _ _) rfl
            refine rgGoals_cons 14 (by intro v; simp only [Act.put, List.setIfInBounds_toArray, List.set_cons_zero, List.set_cons_succ]; exact rfl) rfl (fun w hC hd K hK => ?_) ?_
            · obtain ⟨h8, _⟩ := hd
              replace h8 : V 8 = .bool true := h8
              simp only [h8] at hK
              go_simp; exact hK _ _ (Below.refl _ _) rfl
            refine rgGoals_cons 15 (by intro v; simp only [Act.put, List.setIfInBounds_toArray, List.set_cons_zero, List.set_cons_succ]; exact rfl) rfl (fun w hC hd K hK => ?_) ?_
            · obtain ⟨h8, _⟩ := hd
              replace h8 : V 8 = .bool true := h8
              simp only [h8] at hK
              go_simp; exact hK _ _ (Below.refl _ _) rfl
            refine rgGoals_cons 16 (by intro v; simp only [Act.put, List.setIfInBounds_toArray, List.set_cons_zero, List.set_cons_succ]; exact rfl) rfl (fun w hC hd K hK => ?_) ?_
            · obtain ⟨h8, h13, h14, _⟩ := hd
              replace h8 : V 8 = .bool true := h8
              replace h13 : V 13 = .slice (some ⟨gA, 0, none⟩) 65536 cA := h13
              replace h14 : V 14 = .int .u64 y := h14
              simp only [h8, h13, h14] at hK
              have ho := ownsRow_ext HoA.out hC
              have hs := src_cut (k := 0) (n := y) ho (by omega)
              rw [E15.out] at hs
              have HS := hid hs
              clear hs ho
              have hle : (y : Nat) ≤ cA := by omega
              go_simp
              exact hK _ _ (Below.refl _ _) ⟨_, _, rfl, HS.out⟩
            refine rgGoals_cons 17 (by intro v; simp only [Act.put, List.setIfInBounds_toArray, List.set_cons_zero, List.set_cons_succ]; exact rfl) rfl (fun w hC hd K hK => ?_) ?_
            · obtain ⟨h8, h15, _⟩ := hd
              replace h8 : V 8 = .bool true := h8
              replace h15 : (fun v w => ∃ ad c, v = .slice ad (y) c ∧ SrcV w ad (y) ((L1.take y).map (Value.int .u8))) (V 15) w := h15; dsimp only at h15
              simp only [h8] at hK
              obtain ⟨ad, c, e1, e2⟩ := h15
              simp only [e1] at hK ⊢
              have hc := conv_src (c := c) (dst := 9) Try.underlying39 Try.underlying5 Try.underlying9 e2
              go_simp; exact hK _ _ (Below.refl _ _) rfl
            refine rgGoals_cons 18 (by intro v; simp only [Act.put, List.setIfInBounds_toArray, List.set_cons_zero, List.set_cons_succ]; exact rfl) rfl (fun w hC hd K hK => ?_) ?_
            · obtain ⟨h8, h12, h16, _⟩ := hd
              replace h8 : V 8 = .bool true := h8
              replace h12 : V 12 = .string (strOfNums (L1.take y)) := h12
              replace h16 : V 16 = .string (strOfNums (L1.take y)) := h16
              simp only [h8, h12, h16] at hK
              go_simp; exact hK _ _ (Below.refl _ _) rfl
            refine rgGoals_cons 19 (by intro v; simp only [Act.put, List.setIfInBounds_toArray, List.set_cons_zero, List.set_cons_succ]; exact rfl) rfl (fun w hC hd K hK => ?_) ?_
            · obtain ⟨h8, h17, _⟩ := hd
              replace h8 : V 8 = .bool true := h8
              replace h17 : V 17 = .bool true := h17
              simp only [h8, h17] at hK
              go_simp; exact hK _ _ (Below.refl _ _) rfl
            refine rgGoals_cons 20 (by intro v; simp only [Act.put, List.setIfInBounds_toArray, List.set_cons_zero, List.set_cons_succ]; exact rfl) rfl (fun w hC hd K hK => ?_) ?_
            · obtain ⟨h8, h18, _⟩ := hd
              replace h8 : V 8 = .bool true := h8
              replace h18 : V 18 = .bool true := h18
              simp only [h8, h18] at hK
              go_simp; exact hK _ _ (Below.refl _ _) rfl
            refine rgGoals_cons 21 (by intro v; simp only [Act.put, List.setIfInBounds_toArray, List.set_cons_zero, List.set_cons_succ]; exact rfl) rfl (fun w hC hd K hK => ?_) ?_
            · obtain ⟨h19, _⟩ := hd
              replace h19 : V 19 = .bool true := h19
              simp only [h19] at hK
              go_simp; exact hK _ _ (Below.refl _ _) rfl
            refine rgGoals_cons 22 (by intro v; simp only [Act.put, List.setIfInBounds_toArray, List.set_cons_zero, List.set_cons_succ]; exact rfl) rfl (fun w hC hd K hK => ?_) ?_
            · obtain ⟨h19, _⟩ := hd
              replace h19 : V 19 = .bool true := h19
              simp only [h19] at hK
              go_simp; exact hK _ _ (Below.refl _ _) rfl
            refine rgGoals_cons 23 (by intro v; simp only [Act.put, List.setIfInBounds_toArray, List.set_cons_zero, List.set_cons_succ]; exact rfl) rfl (fun w hC hd K hK => ?_) ?_
            · obtain ⟨h19, h20, h21, _⟩ := hd
              replace h19 : V 19 = .bool true := h19
              replace h20 : V 20 = .slice (some ⟨gN, 0, none⟩) 65536 cN := h20
              replace h21 : V 21 = .int .u64 z := h21
              simp only [h19, h20, h21] at hK
              have ho := ownsRow_ext HoN.out hC
              have hs := src_cut (k := z) (n := (65536 - z)) ho (by omega)
              rw [E22.out] at hs
              have hn0 : cN = z → (65536 - z) = 0 := by omega
              have HS := hid hs; have HN := hid hn0
              clear hs hn0 ho
              by_cases hck : cN = z
              · have hz := HN.out hck
                have hs := HS.out
                have hnil := hs.1
                rw [hz] at hnil
                have HL := hid (List.eq_nil_of_length_eq_zero hnil)
                clear hs hnil
                have hle : (z : Nat) ≤ cN := by omega
                have hle3 : z ≤ z := by omega
                have hle4 : (z : Int) ≤ 65536 := by omega
                subst hck
                go_simp
                first
                | refine hK (.slice (some ⟨gN, 0, none⟩) 0 0) _ (Below.refl _ _) ⟨some ⟨gN, 0, none⟩, 0, by rw [hz], ?_⟩
                | refine hK _ _ (Below.refl _ _) ⟨_, _, rfl, ?_⟩
                rw [HL.out, hz]; exact src_none _ _
              · have hle : (z : Nat) ≤ cN := by omega
                have hle4 : (z : Int) ≤ 65536 := by omega
                go_simp
                exact hK _ _ (Below.refl _ _) ⟨_, _, rfl, HS.out⟩
            refine rgGoals_cons 24 (by intro v; simp only [Act.put, List.setIfInBounds_toArray, List.set_cons_zero, List.set_cons_succ]; exact rfl) rfl (fun w hC hd K hK => ?_) ?_
            · obtain ⟨h19, h22, _⟩ := hd
              replace h19 : V 19 = .bool true := h19
              replace h22 : (fun v w => ∃ ad c, v = .slice ad (65536 - z) c ∧ SrcV w ad (65536 - z) ((L1.drop z).map (Value.int .u8))) (V 22) w := h22; dsimp only at h22
              simp only [h19] at hK
              obtain ⟨ad, c, e1, e2⟩ := h22
              simp only [e1] at hK ⊢
              have hc := conv_src (c := c) (dst := 9) Try.underlying39 Try.underlying5 Try.underlying9 e2
              go_simp; exact hK _ _ (Below.refl _ _) rfl
            refine rgGoals_cons 25 (by intro v; simp only [Act.put, List.setIfInBounds_toArray, List.set_cons_zero, List.set_cons_succ]; exact rfl) rfl (fun w hC hd K hK => ?_) ?_
            · obtain ⟨h19, _⟩ := hd
              replace h19 : V 19 = .bool true := h19
              simp only [h19] at hK
              go_simp; exact hK _ _ (Below.refl _ _) rfl
            refine rgGoals_cons 26 (by intro v; simp only [Act.put, List.setIfInBounds_toArray, List.set_cons_zero, List.set_cons_succ]; exact rfl) rfl (fun w hC hd K hK => ?_) ?_
            · obtain ⟨h19, _⟩ := hd
              replace h19 : V 19 = .bool true := h19
              simp only [h19] at hK
              go_simp; exact hK _ _ (Below.refl _ _) rfl
            refine rgGoals_cons 27 (by intro v; simp only [Act.put, List.setIfInBounds_toArray, List.set_cons_zero, List.set_cons_succ]; exact rfl) rfl (fun w hC hd K hK => ?_) ?_
            · obtain ⟨h19, h24, h25, _⟩ := hd
              replace h19 : V 19 = .bool true := h19
              replace h24 : V 24 = .slice (some ⟨gA, 0, none⟩) 65536 cA := h24
              replace h25 : V 25 = .int .u64 z := h25
              simp only [h19, h24, h25] at hK
              have ho := ownsRow_ext HoA.out hC
              have hs := src_cut (k := z) (n := (65536 - z)) ho (by omega)
              rw [E26.out] at hs
              have hn0 : cA = z → (65536 - z) = 0 := by omega
              have HS := hid hs; have HN := hid hn0
              clear hs hn0 ho
              by_cases hck : cA = z
              · have hz := HN.out hck
                have hs := HS.out
                have hnil := hs.1
                rw [hz] at hnil
                have HL := hid (List.eq_nil_of_length_eq_zero hnil)
                clear hs hnil
                have hle : (z : Nat) ≤ cA := by omega
                have hle3 : z ≤ z := by omega
                have hle4 : (z : Int) ≤ 65536 := by omega
                subst hck
                go_simp
                first
                | refine hK (.slice (some ⟨gA, 0, none⟩) 0 0) _ (Below.refl _ _) ⟨some ⟨gA, 0, none⟩, 0, by rw [hz], ?_⟩
                | refine hK _ _ (Below.refl _ _) ⟨_, _, rfl, ?_⟩
                rw [HL.out, hz]; exact src_none _ _
              · have hle : (z : Nat) ≤ cA := by omega
                have hle4 : (z : Int) ≤ 65536 := by omega
                go_simp
                exact hK _ _ (Below.refl _ _) ⟨_, _, rfl, HS.out⟩
            refine rgGoals_cons 28 (by intro v; simp only [Act.put, List.setIfInBounds_toArray, List.set_cons_zero, List.set_cons_succ]; exact rfl) rfl (fun w hC hd K hK => ?_) ?_
            · obtain ⟨h19, h26, _⟩ := hd
              replace h19 : V 19 = .bool true := h19
              replace h26 : (fun v w => ∃ ad c, v = .slice ad (65536 - z) c ∧ SrcV w ad (65536 - z) ((L1.drop z).map (Value.int .u8))) (V 26) w := h26; dsimp only at h26
              simp only [h19] at hK
              obtain ⟨ad, c, e1, e2⟩ := h26
              simp only [e1] at hK ⊢
              have hc := conv_src (c := c) (dst := 9) Try.underlying39 Try.underlying5 Try.underlying9 e2
              go_simp; exact hK _ _ (Below.refl _ _) rfl
            refine rgGoals_cons 29 (by intro v; simp only [Act.put, List.setIfInBounds_toArray, List.set_cons_zero, List.set_cons_succ]; exact rfl) rfl (fun w hC hd K hK => ?_) ?_
            · obtain ⟨h19, h23, h27, _⟩ := hd
              replace h19 : V 19 = .bool true := h19
              replace h23 : V 23 = .string (strOfNums (L1.drop z)) := h23
              replace h27 : V 27 = .string (strOfNums (L1.drop z)) := h27
              simp only [h19, h23, h27] at hK
              go_simp; exact hK _ _ (Below.refl _ _) rfl
            refine rgGoals_cons 30 (by intro v; simp only [Act.put, List.setIfInBounds_toArray, List.set_cons_zero, List.set_cons_succ]; exact rfl) rfl (fun w hC hd K hK => ?_) ?_
            · obtain ⟨h19, h28, _⟩ := hd
              replace h19 : V 19 = .bool true := h19
              replace h28 : V 28 = .bool true := h28
              simp only [h19, h28] at hK
              go_simp; exact hK _ _ (Below.refl _ _) rfl
            refine rgGoals_cons 31 (by intro v; simp only [Act.put, List.setIfInBounds_toArray, List.set_cons_zero, List.set_cons_succ]; exact rfl) rfl (fun w hC hd K hK => ?_) ?_
            · obtain ⟨h0, h1, h2, h3, h4, h5, h6, h7, h8, h9, h10, h11, h12, h13, h14, h15, h16, h17, h18, h19, h20, h21, h22, h23, h24, h25, h26, h27, h28, h29, _⟩ := hd
              replace h0 : V 0 = .slice (some ⟨gN, 0, none⟩) 65536 cN := h0
              replace h1 : V 1 = .int .u64 y := h1
              replace h2 : V 2 = .int .u64 z := h2
              replace h3 : (fun v w => ∃ ad c, v = .slice ad (z - y) c ∧ SrcV w ad (z - y) ((Mb).map (Value.int .u8))) (V 3) w := h3; dsimp only at h3
              replace h4 : V 4 = .string (strOfNums Mb) := h4
              replace h5 : V 5 = .slice a1 Mb.length c1 := h5
              replace h6 : V 6 = .string (strOfNums Mb) := h6
              replace h7 : V 7 = .bool true := h7
              replace h8 : V 8 = .bool true := h8
              replace h9 : V 9 = .slice (some ⟨gN, 0, none⟩) 65536 cN := h9
              replace h10 : V 10 = .int .u64 y := h10
              replace h11 : (fun v w => ∃ ad c, v = .slice ad (y) c ∧ SrcV w ad (y) ((L1.take y).map (Value.int .u8))) (V 11) w := h11; dsimp only at h11
              replace h12 : V 12 = .string (strOfNums (L1.take y)) := h12
              replace h13 : V 13 = .slice (some ⟨gA, 0, none⟩) 65536 cA := h13
              replace h14 : V 14 = .int .u64 y := h14
              replace h15 : (fun v w => ∃ ad c, v = .slice ad (y) c ∧ SrcV w ad (y) ((L1.take y).map (Value.int .u8))) (V 15) w := h15; dsimp only at h15
              replace h16 : V 16 = .string (strOfNums (L1.take y)) := h16
              replace h17 : V 17 = .bool true := h17
              replace h18 : V 18 = .bool true := h18
              replace h19 : V 19 = .bool true := h19
              replace h20 : V 20 = .slice (some ⟨gN, 0, none⟩) 65536 cN := h20
              replace h21 : V 21 = .int .u64 z := h21
              replace h22 : (fun v w => ∃ ad c, v = .slice ad (65536 - z) c ∧ SrcV w ad (65536 - z) ((L1.drop z).map (Value.int .u8))) (V 22) w := h22; dsimp only at h22
              replace h23 : V 23 = .string (strOfNums (L1.drop z)) := h23
              replace h24 : V 24 = .slice (some ⟨gA, 0, none⟩) 65536 cA := h24
              replace h25 : V 25 = .int .u64 z := h25
              replace h26 : (fun v w => ∃ ad c, v = .slice ad (65536 - z) c ∧ SrcV w ad (65536 - z) ((L1.drop z).map (Value.int .u8))) (V 26) w := h26; dsimp only at h26
              replace h27 : V 27 = .string (strOfNums (L1.drop z)) := h27
              replace h28 : V 28 = .bool true := h28
              replace h29 : V 29 = .bool true := h29
              simp only [h0, h1, h2, h4, h5, h6, h7, h8, h9, h10, h12, h13, h14, h16, h17, h18, h19, h20, h21, h23, h24, h25, h27, h28, h29] at hK
              go_simp; exact hK _ _ (Below.refl _ _) rfl
            trivial
          case rg0 => exact below_drewN (Below.refl _ _) 1
          case rgC => intro u v h1 h2; exact h1.trans (h2.mono h1.size)
          case rgQ =>
            intro V u hu hp
            have h30 : V 30 = .bool true := postsHold_at hp 30 rfl
            simp only [putAll, Act.put, List.setIfInBounds_toArray, List.set_cons_zero, List.set_cons_succ]
            simp only [Nat.reduceAdd, h30]
            have HC := hid hu
            clear hu hp h30
            go_wp2
            go_ret
            exact ⟨rfl, Hbw7.out.trans (HC.out.mono Hbw7.out.size)⟩
    · have t1 : decide ((Mb.length : Int) > 200) = true := by simp; omega
      have t0 : decide ((Ma.length : Int) > 200) = false := by simp; omega
      go_wp2
      go_ret
      exact ⟨rfl, hb0.trans (hb1.mono (by omega))⟩
  · have t0 : decide ((Ma.length : Int) > 200) = true := by simp; omega
    go_wp2
    go_ret
    exact ⟨rfl, hb0.trans (hb1.mono (by omega))⟩
end Go.Proofs.Ytpdmkignihhobaa
