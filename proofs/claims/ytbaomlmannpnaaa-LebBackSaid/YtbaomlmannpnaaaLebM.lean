/- What is proved here: the walk of the statement LebBack. -/
import Derived.Test.YtbaomlmannpnaaaLebH
import Derived.Test.YtbaomlmannpnaaaLebF
import Derived.Test.YtbaomlmannpnaaaLebL
import Derived.Test.YtbaomlmannpnaaaKit2
namespace Go.Proofs.Ytbaomlmannpnaaa
open Go.RowKit
set_option linter.unusedVariables false
set_option linter.unusedSimpArgs false

theorem start0 {len n : Nat} (hn1 : 1 ≤ n) (hn2 : n ≤ 64) : startB len 0 n = true := by
  unfold startB rightB; simp; omega

theorem readUint_is {a : Option Addr} {len cap n : Nat} {F : Nat → Int} {x k e : Int} {w : World} (hn1 : 1 ≤ n) (hn2 : n ≤ 64) (hlc : len ≤ cap) (hl : len ≤ 1000000) (hrd : RdB w a len F) (h : readU F 0 len n = (x, k, e)) :
    Calls Try.prog 34 #[.slice a len cap, .int .i64 0, .int .i64 n] w fun ed w' => w = w' ∧ ed = .returned (.tuple #[.int .u64 x, .int .i64 k, .int .i64 e]) := by
  refine (readUint_any a len cap 0 n F w hlc hl hrd).mono fun ed w' ⟨h1, h2⟩ => ⟨h1, ?_⟩
  rw [h2, start0 hn1 hn2]
  have hF : (fun j => F (Int.toNat 0 + j)) = F := funext fun j => by simp
  rw [hF]
  simp only [Int.toNat_zero, Int.ofNat_zero, Nat.sub_zero, h, if_true]

theorem readInt_is {a : Option Addr} {len cap n : Nat} {F : Nat → Int} {x k e : Int} {w : World} (hn1 : 1 ≤ n) (hn2 : n ≤ 64) (hlc : len ≤ cap) (hl : len ≤ 1000000) (hrd : RdB w a len F) (h : readI F 0 len n = (x, k, e)) :
    Calls Try.prog 35 #[.slice a len cap, .int .i64 0, .int .i64 n] w fun ed w' => w = w' ∧ ed = .returned (.tuple #[.int .i64 x, .int .i64 k, .int .i64 e]) := by
  refine (readInt_any a len cap 0 n F w hlc hl hrd).mono fun ed w' ⟨h1, h2⟩ => ⟨h1, ?_⟩
  rw [h2, start0 hn1 hn2]
  have hF : (fun j => F (Int.toNat 0 + j)) = F := funext fun j => by simp
  rw [hF]
  simp only [Int.toNat_zero, Int.ofNat_zero, Nat.sub_zero, h, if_true]

theorem rdB_row {w : World} {base n : Nat} {v : Value} {l : List Int} (h : w.ownsRow base 5 1 v n (l.map (Value.int .u8))) (hb : ∀ j, 0 ≤ l.getD j 0 ∧ l.getD j 0 < 256) :
    ∃ a c, v = .slice a n c ∧ n ≤ c ∧ RdB w a n (fun j => l.getD j 0) := by
  have hlen : l.length = n := by have := h.1; simpa using this
  rcases Nat.eq_zero_or_pos n with h0 | hn
  · subst h0
    rcases h.2 with ⟨rfl, _⟩ | ⟨g, c, cur, rfl, _, _, hc, _⟩
    · exact ⟨none, 0, rfl, Nat.le_refl _, fun j hj => absurd hj (by omega)⟩
    · exact ⟨_, c, rfl, hc, fun j hj => absurd hj (by omega)⟩
  · obtain ⟨g, c, rfl, _, hg, hc, hcell⟩ := ownsRow_some h hn
    refine ⟨_, c, rfl, hc, fun j hj => ⟨g, 0, rfl, ?_, (hb j).1, (hb j).2, hg⟩⟩
    rw [Nat.zero_add, hcell j hj, List.getElem?_map]
    simp [List.getD_eq_getElem?_getD, List.getElem?_eq_getElem (show j < l.length by omega)]

theorem RdB.less {w : World} {a : Option Addr} {n m : Nat} {f : Nat → Int} (h : RdB w a n f) (hm : m ≤ n) : RdB w a m f := fun j hj => h j (by omega)

theorem rdB_src {w : World} {a : Option Addr} {n : Nat} {f : Nat → Int} (h : RdB w a n f) : SrcV w a n (((List.range n).map f).map (Value.int .u8)) := by
  refine ⟨by simp, fun j u hj => ?_⟩
  have hlt : j < n := by have := (List.getElem?_eq_some_iff.1 hj).1; simpa using this
  obtain ⟨b, off, ha, hc, _, _, hl⟩ := h j hlt
  refine ⟨b, off, ha, ?_, hl⟩
  rw [hc]
  simp [hlt] at hj
  rw [← hj]

theorem rdB_open2 {w : World} {x : Addr} {len cap : Nat} {zs : List Int} (hl : len ≤ cap) (hz : zs.length = cap) (hc : ∀ i, i < zs.length → w.cell? (x.add i) = some (.int .u8 (zs.getD i 0))) (hw : ∀ n ∈ zs, (Lit.int .u8 n).wf = true) :
    ∃ f : Nat → Int, len ≤ cap ∧ RdB w (some x) len f ∧ ∀ j, 0 ≤ f j ∧ f j < 256 := by
  have hb : ∀ j, 0 ≤ zs.getD j 0 ∧ zs.getD j 0 < 256 := fun j => by
    by_cases h : j < zs.length
    · have := hw (zs.getD j 0) (by rw [List.getD_eq_getElem?_getD, List.getElem?_eq_getElem h]; simp)
      simp [Lit.wf, IntKind.min, IntKind.max, IntKind.signed, IntKind.bits] at this
      simp; omega
    · rw [List.getD_eq_getElem?_getD, List.getElem?_eq_none (by omega)]; simp
  refine ⟨fun j => zs.getD j 0, hl, fun j hj => ?_, fun j => hb j⟩
  have h := hc j (by omega)
  have hs : x.spot = none := by
    have h0 := hc 0 (by omega)
    rw [show x.add 0 = x from rfl] at h0
    unfold World.cell? at h0
    split at h0
    · cases hsp : x.spot with
      | none => rfl
      | some _ => simp [hsp] at h0
    · cases h0
  obtain ⟨b, off, sp⟩ := x
  simp only at hs; subst hs
  refine ⟨b, off, rfl, ?_, (hb j).1, (hb j).2, ?_⟩
  · have e : (⟨b, off, none⟩ : Addr).add j = ⟨b, off + j, none⟩ := by unfold Addr.add; split <;> simp_all
    rw [← e]; exact h
  · have := World.block_lt_of_cell? w _ h
    have e : (⟨b, off, none⟩ : Addr).add j = ⟨b, off + j, none⟩ := by unfold Addr.add; split <;> simp_all
    rw [e] at this; exact this

theorem x_form (v e : Nat) (he : e ≤ 63) : ∃ x : Nat, IntKind.u64.wrap ((v : Int) * 2 ^ e) / 2 ^ e = x ∧ x < 2 ^ (64 - e) := by
  have e1 : (v : Int) * 2 ^ e = ((v * 2 ^ e : Nat) : Int) := by simp
  have e2 : (2 : Int) ^ e = ((2 ^ e : Nat) : Int) := by simp
  refine ⟨v * 2 ^ e % 18446744073709551616 / 2 ^ e, ?_, ?_⟩
  · rw [wrap_u64_def, e1, e2, Int.natCast_ediv, Int.natCast_emod]; rfl
  · rw [Nat.div_lt_iff_lt_mul (Nat.two_pow_pos e), ← Nat.pow_add, show 64 - e + e = 64 from by omega]
    exact Nat.mod_lt _ (by decide)

theorem y_form (z : Int) (e : Nat) (he : e ≤ 63) : -(2 ^ (63 - e)) ≤ wrap64 z / 2 ^ e ∧ wrap64 z / 2 ^ e < 2 ^ (63 - e) := by
  have h1 : -9223372036854775808 ≤ wrap64 z ∧ wrap64 z < 9223372036854775808 := by unfold wrap64; omega
  have hp : (2 : Int) ^ (63 - e) * 2 ^ e = 9223372036854775808 := by rw [← Int.pow_add, show 63 - e + e = 63 from by omega]; rfl
  have hpos : (0 : Int) < 2 ^ e := Int.pow_pos (by decide)
  constructor
  · exact Int.le_ediv_of_mul_le hpos (by rw [Int.neg_mul, hp]; exact h1.1)
  · exact Int.ediv_lt_of_lt_mul hpos (by rw [hp]; exact h1.2)

theorem or128_last {c : Int} (h0 : 0 ≤ c) (h1 : c < 128) : bits BinOp.or .u8 c 128 = c + 128 := by
  have := or128i c
  rw [Int.emod_eq_of_lt h0 (by omega)] at this
  rw [this, Int.emod_eq_of_lt h0 h1]

theorem uL_last : ∀ (m x : Nat), x ≤ m → (uL x).getD ((uL x).length - 1) 0 < 128
  | m, x, hm => by
    by_cases h : x < 128
    · rw [uL_low h]; simp; omega
    · rw [uL_high h]
      have hp := uL_pos (x / 128)
      have := uL_last (m - 1) (x / 128) (by omega)
      simp only [List.length_cons, Nat.add_sub_cancel]
      rw [show (uL (x / 128)).length = (uL (x / 128)).length - 1 + 1 from by omega, List.getD_cons_succ]
      exact this
termination_by m => m
decreasing_by omega

set_option maxHeartbeats 4000000 in
set_option maxRecDepth 100000 in
theorem lebBack_walk (v : Nat) (hv : v < 2 ^ 64) (bt : Nat) (hbt : bt < 256) (a : Option Addr) (len cap : Nat) (f : Nat → Int) (w : World) (hlc : len ≤ cap) (hnil : a = none → cap = 0) (hrd : RdB w a len f) (hf : ∀ j, 0 ≤ f j ∧ f j < 256) :
    Calls Try.prog 8 #[.int .u64 v, .int .u8 bt, .slice a len cap] w fun e w' => e = .returned (.bool true) ∧ Below w.heap.size w w' := by
  by_cases hlen : 100 < len
  · go_enter Try.func8, Try.ntmps8
    go_wp2_with fail
    refine (awake02_any _).mono ?_
    rintro e w1 ⟨rfl, hb⟩
    go_wp2
    go_ret
    exact ⟨rfl, hb⟩
  · have hlen' : len ≤ 100 := by omega
    have Hrd := hid hrd; clear hrd
    have Hf := hid hf; clear hf
    have Hv := hid hv; clear hv
    go_enter Try.func8, Try.ntmps8
    go_wp2_with fail
    refine (awake02_any _).mono ?_
    rintro e w1 ⟨rfl, hb⟩
    go_wp2_with fail
    obtain ⟨n, hn⟩ : ∃ n, 1 + bt % 64 = n := ⟨_, rfl⟩
    have hn1 : 1 ≤ n := by omega
    have hn2 : n ≤ 64 := by omega
    obtain ⟨x, hx, hxl⟩ := x_form v (64 - n) (by omega)
    have hy := y_form (wrap64 v * 2 ^ (64 - n)) (64 - n) (by omega)
    rw [show 64 - (64 - n) = n from by omega] at hxl
    rw [show 63 - (64 - n) = n - 1 from by omega] at hy
    generalize hyv : wrap64 (wrap64 v * 2 ^ (64 - n)) / 2 ^ (64 - n) = y at hy
    obtain ⟨hy1, hy2⟩ := hy
    have hxlt : x < 2 ^ 64 := Nat.lt_of_lt_of_le hxl (Nat.pow_le_pow_right (by decide) hn2)
    have hp63 : (2 : Int) ^ (n - 1) ≤ 2 ^ 63 := by exact_mod_cast Nat.pow_le_pow_right (n := 2) (by decide) (show n - 1 ≤ 63 by omega)
    have HX := hid hx; clear hx
    have HY := hid hyv; clear hyv
    have HN := hid hn; clear hn
    have HXL := hid hxl; clear hxl
    have HXT := hid hxlt; clear hxlt
    have HY1 := hid hy1; clear hy1
    have HY2 := hid hy2; clear hy2
    have HP := hid hp63; clear hp63
    simp only [HN.out, HX.out]
    refine (uint_any x HXT.out _).mono ?_
    rintro e w2 ⟨s1, rfl, own1, hb2⟩
    go_wp2_with fail
    rw [HY.out]
    refine (int_any y (by have := HP.out; have := HY1.out; omega) (by have := HP.out; have := HY2.out; omega) _).mono ?_
    rintro e w3 ⟨s2, rfl, own2, hb3⟩
    have hsz2 := hb2.size
    have hsz3 := hb3.size
    have own1 := ownsRow_ext own1 hb3
    obtain ⟨a1, c1, rfl, src1⟩ := SrcV.of_row own1
    obtain ⟨a2, c2, rfl, src2⟩ := SrcV.of_row own2
    obtain ⟨g1, c1', he1, hbg1, hg1, hc1, _⟩ := ownsRow_some own1 (uL_pos x)
    simp only [Value.slice.injEq, true_and] at he1
    obtain ⟨rfl, rfl⟩ := he1
    have hp1 := uL_pos x
    have hp2 := sL_pos y
    have HNi : Hid ((1 : Int) + (bt : Int) % 64 = n) := by have := HN.out; simp only [Hid]; omega
    rw [HNi.out]
    -- the first number, with more behind it
    have hmore : ((List.range len).map f).length = len := by simp
    have hL1 : (uL x).length ≤ 10 := by have := uL_most n hn1 hn2 HXL.out; omega
    have hL2 : (sL y).length ≤ 10 := by have := sL_most n hn1 hn2 HY1.out HY2.out; omega
    have own0 : (w3.alloc (.cells #[] 5)).ownsRow w3.heap.size 5 1 (.slice (some ⟨w3.heap.size, 0, none⟩) 0 0) 0 [] := World.ownsRow_made _ _ _ (Nat.le_refl _) (by decide) rfl
    have hba : Below w3.heap.size w3 (w3.alloc (.cells #[] 5)) := (Below.refl _ _).alloc (Nat.le_refl _) _
    obtain ⟨v4, w4, run4, own4, hb4, _⟩ := appends_run (P := Try.prog) (c := c1) Try.underlying45 Try.info5 rfl (by decide) own0 (by simp) (src1.ext hba) oneCell_ints (by omega) (by omega)
    have hb04 := hba.trans hb4
    have hrd3 := ((Hrd.out.ext hb).ext hb2).ext hb3
    obtain ⟨v5, w5, run5, own5, hb5, _⟩ := appends_run (P := Try.prog) (c := cap) Try.underlying45 Try.info5 rfl (by decide) own4 (by have := hb04.size; omega) (rdB_src (hrd3.ext hb04)) oneCell_ints (by omega) (fun _ h => hnil h)
    have hb05 := hb04.trans hb5
    simp only [List.nil_append, ← List.map_append, Nat.zero_add] at own5
    obtain ⟨a5, c5, rfl, hc5, rd5⟩ := rdB_row own5 (fun j => by
      rw [List.getD_eq_getElem?_getD]
      by_cases h : j < (uL x).length
      · rw [List.getElem?_append_left h, ← List.getD_eq_getElem?_getD]; exact uL_bound x x (Nat.le_refl _) j
      · rw [List.getElem?_append_right (by omega)]
        by_cases h2 : j - (uL x).length < len
        · simp [h2]; exact Hf.out _
        · rw [List.getElem?_eq_none (by simp; omega)]; simp)
    have hRU := readUint_is (w := w5) hn1 hn2 hc5 (by omega) rd5 (readU_back (fun j => (uL x ++ (List.range len).map f).getD j 0) n hn1 hn2 HXL.out (fun j hj => by simp [List.getD_eq_getElem?_getD, List.getElem?_append_left hj]) (by omega))
    have HRU := hid hRU; clear hRU
    have tok1 : True := trivial
    have tok2 : True := trivial
    have HB05 := hid hb05; clear hb05 hba hb4 hb5 hb04
    have HRD3 := hid hrd3; clear hrd3
    have R4 := hid run4; clear run4
    have R5 := hid run5; clear run5
    go_wp2_with (at_builtin; first | (have _t := tok1; refine wpList_app R4.out rfl rfl rfl rfl ?_; clear tok1) | (have _t := tok2; refine wpList_app R5.out rfl rfl rfl rfl ?_; clear tok2))
    refine HRU.out.mono ?_
    rintro e w' ⟨rfl, rfl⟩
    have hb35 := HB05.out
    as_aux_lemma =>
      -- the second number, with more behind it
      have own0b : (w5.alloc (.cells #[] 5)).ownsRow w5.heap.size 5 1 (.slice (some ⟨w5.heap.size, 0, none⟩) 0 0) 0 [] := World.ownsRow_made _ _ _ (Nat.le_refl _) (by decide) rfl
      have hbb : Below w5.heap.size w5 (w5.alloc (.cells #[] 5)) := (Below.refl _ _).alloc (Nat.le_refl _) _
      obtain ⟨v6, w6, run6, own6, hb6, _⟩ := appends_run (P := Try.prog) (c := c2) Try.underlying45 Try.info5 rfl (by decide) own0b (by simp) ((src2.ext hb35).ext hbb) oneCell_ints (by omega) (by omega)
      have hb56 := hbb.trans hb6
      obtain ⟨v7, w7, run7, own7, hb7, _⟩ := appends_run (P := Try.prog) (c := cap) Try.underlying45 Try.info5 rfl (by decide) own6 (by have := hb56.size; omega) (rdB_src ((HRD3.out.ext hb35).ext hb56)) oneCell_ints (by omega) (fun _ h => hnil h)
      have hb57 := hb56.trans hb7
      simp only [List.nil_append, ← List.map_append, Nat.zero_add] at own7
      obtain ⟨a7, c7, rfl, hc7, rd7⟩ := rdB_row own7 (fun j => by
        rw [List.getD_eq_getElem?_getD]
        by_cases h : j < (sL y).length
        · rw [List.getElem?_append_left h, ← List.getD_eq_getElem?_getD]; exact sL_bound y.natAbs y (Nat.le_refl _) j
        · rw [List.getElem?_append_right (by omega)]
          by_cases h2 : j - (sL y).length < len
          · simp [h2]; exact Hf.out _
          · rw [List.getElem?_eq_none (by simp; omega)]; simp)
      have hRI := readInt_is (w := w7) hn1 hn2 hc7 (by omega) rd7 (readI_back (fun j => (sL y ++ (List.range len).map f).getD j 0) n hn1 hn2 HY1.out HY2.out (fun j hj => by simp [List.getD_eq_getElem?_getD, List.getElem?_append_left hj]) (by omega))
      have HRI := hid hRI; clear hRI
      have tok1 : True := trivial
      have tok2 : True := trivial
      have HB57 := hid hb57; clear hb57 hbb hb6 hb7 hb56
      have HB35 := hid hb35; clear hb35
      have R6 := hid run6; clear run6
      have R7 := hid run7; clear run7
      go_wp2_with (at_builtin; first | (have _t := tok1; refine wpList_app R6.out rfl rfl rfl rfl ?_; clear tok1) | (have _t := tok2; refine wpList_app R7.out rfl rfl rfl rfl ?_; clear tok2))
      refine HRI.out.mono ?_
      rintro e w' ⟨rfl, rfl⟩
      as_aux_lemma =>
        -- the tests, and a longer form of the first number
        have hm : mostN n = ((n + 6) / 7 : Nat) := by unfold mostN rightB; rw [if_pos (by simp; omega)]; omega
        have hM1 := uL_most n hn1 hn2 HXL.out
        have hM2 := sL_most n hn1 hn2 HY1.out HY2.out
        generalize hMM : (n + 6) / 7 = M at *
        have t1 : (((uL x).length : Int) == 0) = false := by rw [beq_eq_false_iff_ne]; omega
        have t2 : decide ((M : Int) < (uL x).length) = false := by simp; omega
        have t3 : decide (M < (uL x).length) = false := by simp; omega
        have t4 : decide (M < (sL y).length) = false := by simp; omega
        have own0c : (w7.alloc (.cells #[] 5)).ownsRow w7.heap.size 5 1 (.slice (some ⟨w7.heap.size, 0, none⟩) 0 0) 0 [] := World.ownsRow_made _ _ _ (Nat.le_refl _) (by decide) rfl
        have hbc : Below w7.heap.size w7 (w7.alloc (.cells #[] 5)) := (Below.refl _ _).alloc (Nat.le_refl _) _
        obtain ⟨v8, w8, run8, own8, hb8, _⟩ := appends_run (P := Try.prog) (c := c1) Try.underlying45 Try.info5 rfl (by decide) own0c (by simp) (((src1.ext HB35.out).ext HB57.out).ext hbc) oneCell_ints (by omega) (by omega)
        have HB78 := hid (hbc.trans hb8); clear hbc hb8
        simp only [List.nil_append, Nat.zero_add] at own8
        have R8 := hid run8; clear run8
        have HMM := hid hMM; clear hMM
        have hsz8 := HB78.out.size
        clear own4 own5 own6 own7 own0 own0b own0c rd5 rd7 R4 R5 R6 R7 HRU HRI src2 own2 hmore
        obtain ⟨g8, c8, rfl, hbg8, hg8, hc8, hcell8⟩ := ownsRow_some own8 (by omega)
        have own1w := ownsRow_ext (ownsRow_ext (ownsRow_ext own1 HB35.out) HB57.out) HB78.out
        have hback : ∀ F : Nat → Int, (∀ j, j < (uL x).length → F j = (uL x).getD j 0) → ∀ av, (uL x).length ≤ av → readU F 0 av n = ((x : Int), ((uL x).length : Int), 0) := fun F hF av hav => readU_back F n hn1 hn2 HXL.out hF hav
        have Hback := hid hback; clear hback
        have Hbel : Hid (Below w.heap.size w w8) := by
          have h1 := (HB35.out.trans (HB57.out.mono HB35.out.size)).trans (HB78.out.mono (HB35.out.trans (HB57.out.mono HB35.out.size)).size)
          exact hb.trans ((hb2.trans ((hb3.trans (h1.mono hb3.size)).mono hb2.size)).mono hb.size)
        have Hg17 : Hid (g1 < w7.heap.size) := by have h1 := HB35.out.size; have h2 := HB57.out.size; simp only [Hid]; omega
        have Hw7 : Hid (w.heap.size ≤ w7.heap.size) := by have h1 := HB35.out.size; have h2 := HB57.out.size; have h3 := hb.size; simp only [Hid]; omega
        clear HB35 HB57 HB78 own1 src1 Hrd HRD3 HY1 HY2 HP HB05 hb hb2 hb3 hsz2 hsz3 hlc hnil Hf hbt hlen' hlen hL2 HX HY HNi HN hp2 hM2
        by_cases hlt : (uL x).length < M
        · as_aux_lemma =>
            have hcl := hcell8 ((uL x).length - 1) (by omega)
            rw [List.getElem?_map, List.getElem?_eq_getElem (by omega)] at hcl
            have hce : (uL x)[(uL x).length - 1] = (uL x).getD ((uL x).length - 1) 0 := by rw [List.getD_eq_getElem?_getD, List.getElem?_eq_getElem (by omega)]; rfl
            have hc0 := (uL_bound x x (Nat.le_refl _) ((uL x).length - 1)).1
            have hc1' := uL_last x x (Nat.le_refl _)
            simp only [Option.map_some, hce] at hcl
            generalize hcc : (uL x).getD ((uL x).length - 1) 0 = cc at *
            clear hce
            have hfr := own8.frozenAt ((uL x).length - 1)
            obtain ⟨own9, hgr⟩ := own8.stored ((uL x).length - 1) (.int .u8 (bits BinOp.or .u8 cc 128))
            have Hcc := hid hcc; clear hcc
            have tok1 : True := trivial
            have hset : w7.heap.size ≤ (w8.setCell ⟨g8, (uL x).length - 1, none⟩ (.int .u8 (bits BinOp.or .u8 cc 128))).heap.size := by have := hgr.size; omega
            have Hset : Hid (Below w7.heap.size w8 (w8.setCell ⟨g8, (uL x).length - 1, none⟩ (.int .u8 (bits BinOp.or .u8 cc 128)))) := (Below.refl _ _).setCell hbg8 _
            obtain ⟨v9, w9, run9, own10, hb9, _⟩ := push_run (P := Try.prog) (u := .int .u8 0) Try.underlying45 Try.info5 rfl (by decide) own9 rfl (by omega) hset
            have hss : (w8.setCell ⟨g8, (uL x).length - 1, none⟩ (.int .u8 (bits BinOp.or .u8 cc 128))).heap.size = w8.heap.size := by simp [World.setCell]
            rw [hss] at run9
            have R9 := hid run9; clear run9 hss
            have Hb9 := hid (Hset.out.trans hb9)
            have Hb9s := hid hb9.size; clear hb9 hset hgr
            rw [or128_last hc0 hc1'] at own10
            have elng : (((uL x).map (Value.int .u8)).set ((uL x).length - 1) (.int .u8 (cc + 128)) ++ [.int .u8 0]) = (lng (uL x)).map (Value.int .u8) := by
              unfold lng; rw [Hcc.out]; simp [List.map_set]
            rw [elng] at own10
            clear elng
            have hlb : ∀ j, 0 ≤ (lng (uL x)).getD j 0 ∧ (lng (uL x)).getD j 0 < 256 := fun j => by
              have hu := uL_bound x x (Nat.le_refl _)
              have hl := uL_last x x (Nat.le_refl _)
              unfold lng
              by_cases h : j < (uL x).length
              · rw [List.getD_eq_getElem?_getD, List.getElem?_append_left (by simpa using h), List.getElem?_set]
                by_cases h2 : (uL x).length - 1 = j
                · rw [if_pos h2, if_pos (by omega)]; simp only [Option.getD_some]; have := (hu ((uL x).length - 1)).1; omega
                · rw [if_neg h2, ← List.getD_eq_getElem?_getD]; exact hu j
              · rw [List.getD_eq_getElem?_getD, List.getElem?_append_right (by simp; omega)]
                by_cases h2 : j = (uL x).length
                · subst h2; simp
                · rw [List.getElem?_eq_none (by simp; omega)]; simp
            obtain ⟨a9, c9, rfl, hc9, rd9⟩ := rdB_row own10 hlb
            have rd9 := hid rd9
            have HL := readUint_is (w := w9) hn1 hn2 hc9 (by omega) rd9.out (readU_long hn1 hn2 HXL.out (fun j _ => rfl) (by omega) (by have := HMM.out; omega))
            have HL := hid HL
            have hb89 : Below w7.heap.size w8 w9 := Hb9.out
            have own1z : w9.ownsRow w1.heap.size 5 1 (.slice (some ⟨g1, 0, none⟩) (uL x).length c1) (uL x).length ((uL x).map (Value.int .u8)) := by
              obtain ⟨q1, q2⟩ := own1w
              refine ⟨q1, ?_⟩
              rcases q2 with ⟨h, _⟩ | ⟨g, c, cur, hv, hbg, hh, r⟩
              · cases h
              · simp only [Value.slice.injEq, Option.some.injEq, Addr.mk.injEq, true_and, and_true] at hv
                obtain ⟨rfl, rfl⟩ := hv
                exact .inr ⟨g1, c1, cur, rfl, hbg, (hb89.block g1 Hg17.out).trans hh, r⟩
            obtain ⟨a1', c1'', he1, _, rd1⟩ := rdB_row own1z (uL_bound x x (Nat.le_refl _))
            simp only [Value.slice.injEq, true_and] at he1
            obtain ⟨rfl, rfl⟩ := he1
            have HS := readUint_is (w := w9) (len := (uL x).length - 1) (cap := c1) hn1 hn2 (by omega) (by omega) (rd1.less (by omega)) (readU_short hn1 hn2 HXL.out (fun j _ => rfl))
            have HS := hid HS
            clear rd1 own1z own10 own9
            have HBZ : Hid (Below w.heap.size w w9) := Hbel.out.trans (Hb9.out.mono Hw7.out)
            go_wp2_with (first | (go_at_call 32; refine (most_any _ _).mono ?_; rintro e w' ⟨rfl, rfl⟩) | (at_builtin; have _t := tok1; refine wpList_app R8.out rfl rfl rfl rfl ?_; clear tok1) | (at_builtin; refine wpList_app R9.out rfl rfl rfl rfl ?_))
            refine HL.out.mono ?_
            rintro e w' ⟨rfl, rfl⟩
            go_wp2_with fail
            refine HS.out.mono ?_
            rintro e w' ⟨rfl, rfl⟩
            go_wp2
            go_ret
            exact ⟨rfl, HBZ.out⟩
        · as_aux_lemma =>
            have hge : M ≤ (uL x).length := by omega
            obtain ⟨a9, c9, he9, hc9, rd9⟩ := rdB_row own8 (uL_bound x x (Nat.le_refl _))
            simp only [Value.slice.injEq, true_and] at he9
            obtain ⟨rfl, rfl⟩ := he9
            have HL := hid (readUint_is (w := w8) hn1 hn2 hc9 (by omega) rd9 (Hback.out _ (fun j _ => rfl) _ (Nat.le_refl _)))
            obtain ⟨a1', c1'', he1, _, rd1⟩ := rdB_row own1w (uL_bound x x (Nat.le_refl _))
            simp only [Value.slice.injEq, true_and] at he1
            obtain ⟨rfl, rfl⟩ := he1
            have HS := hid (readUint_is (w := w8) (len := (uL x).length - 1) (cap := c1) hn1 hn2 (by omega) (by omega) (rd1.less (by omega)) (readU_short hn1 hn2 HXL.out (fun j _ => rfl)))
            clear rd1 rd9 own1w own8
            go_wp2_with (first | (go_at_call 32; refine (most_any _ _).mono ?_; rintro e w' ⟨rfl, rfl⟩) | (at_builtin; refine wpList_app R8.out rfl rfl rfl rfl ?_))
            refine HL.out.mono ?_
            rintro e w' ⟨rfl, rfl⟩
            go_wp2_with fail
            refine HS.out.mono ?_
            rintro e w' ⟨rfl, rfl⟩
            go_wp2
            go_ret
            exact ⟨rfl, Hbel.out⟩
end Go.Proofs.Ytbaomlmannpnaaa
