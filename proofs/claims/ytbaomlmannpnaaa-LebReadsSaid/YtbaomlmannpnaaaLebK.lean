/- What is proved here: the walk of the statement LebReads. -/
import Derived.Test.YtbaomlmannpnaaaLebI
import Derived.Test.YtbaomlmannpnaaaLebJ
import Derived.Test.YtbaomlmannpnaaaLebF
namespace Go.Proofs.Ytbaomlmannpnaaa
open Go.RowKit
set_option linter.unusedVariables false
set_option linter.unusedSimpArgs false

set_option maxHeartbeats 1000000 in
set_option maxRecDepth 100000 in
theorem refRead_no (a : Option Addr) (len cap : Nat) (at0 bits : Int) (sign : Bool) (w : World) (h : startB len at0 bits = false) :
    Calls Try.prog 36 #[.slice a len cap, .int .i64 at0, .int .i64 bits, .bool sign] w fun e w' => w = w' ∧ e = .returned (.tuple #[.int .u64 0, .int .i64 0, .int .i64 1]) := by
  have hc : bits < 1 ∨ (1 ≤ bits ∧ 64 < bits) ∨ (1 ≤ bits ∧ bits ≤ 64 ∧ at0 < 0) ∨ (1 ≤ bits ∧ bits ≤ 64 ∧ 0 ≤ at0 ∧ len < at0) := by
    unfold startB rightB at h
    by_cases h1 : 1 ≤ bits
    · by_cases h2 : bits ≤ 64
      · by_cases h3 : 0 ≤ at0
        · by_cases h4 : at0 ≤ len
          · simp [h1, h2, h3, h4] at h
          · omega
        · omega
      · omega
    · omega
  clear h
  rcases hc with h | ⟨h1, h⟩ | ⟨h1, h2, h⟩ | ⟨h1, h2, h3, h⟩
  all_goals
    go_enter Try.func36, Try.ntmps36
    go_wp2
    go_ret3
    exact ⟨rfl, rfl⟩

/-- What the program and the document say of the same bytes. -/
theorem same_reads (F : Nat → Int) (hF : ∀ j, 0 ≤ F j) (at' avail bits : Nat) (hb1 : 1 ≤ bits) (hb2 : bits ≤ 64) :
    refRd F at' avail bits false = readU F at' avail bits ∧
    (refRd F at' avail bits true).2 = (readI F at' avail bits).2 ∧ IntKind.i64.wrap (refRd F at' avail bits true).1 = (readI F at' avail bits).1 := by
  have hm : (mostN bits).toNat = (bits + 6) / 7 := by unfold mostN rightB; rw [if_pos (by simp; omega)]; omega
  unfold refRd readU readI
  obtain ⟨n, er, hs⟩ : ∃ n er, scanG F avail 1 (mostN bits).toNat = (n, er) := ⟨_, _, rfl⟩
  rw [hs]
  simp only
  by_cases her : er = 0
  · subst her
    obtain ⟨h1, h2, h3, h4⟩ := scan_ok _ _ _ _ _ hs
    simp only [ne_eq, not_true_eq_false, if_false]
    obtain ⟨u1, u2⟩ := plainU F hF n bits h1 hb1 hb2
    obtain ⟨s1, s2⟩ := plainS F hF n bits h1 hb1 hb2 (by omega)
    rw [show topB F n bits false = false from rfl]
    have hc1 : ((bits : Int) < 7 * (n : Int)) ↔ bits < 7 * n := by omega
    rw [Int.toNat_natCast]
    constructor
    · cases h : badB F n bits false with
      | true => have := u1.1 h; rw [if_pos rfl, if_pos ⟨hc1.2 this.1, this.2⟩]
      | false =>
        rw [if_neg (by simp), if_neg (fun hh => by rw [u1.2 ⟨hc1.1 hh.1, hh.2⟩] at h; cases h), u2 h]
    · cases h : badB F n bits (topB F n bits true) with
      | true => have := s1.1 h; rw [if_pos rfl, if_pos ⟨hc1.2 this.1, this.2⟩]; exact ⟨rfl, rfl⟩
      | false =>
        rw [if_neg (by simp), if_neg (fun hh => by rw [s1.2 ⟨hc1.1 hh.1, hh.2⟩] at h; cases h)]
        obtain ⟨e1, e2, e3⟩ := s2 h
        refine ⟨rfl, ?_⟩
        simp only
        rw [e1, wrap_i64_def]
        generalize sx (numX F n) (7 * n) = y at *
        omega
  · simp only [ne_eq, her, not_false_eq_true, if_true, true_and]
    rfl

set_option maxHeartbeats 1000000 in
set_option maxRecDepth 100000 in
theorem lebReads_walk (a : Option Addr) (len cap : Nat) (at0 bits : Int) (f : Nat → Int) (w : World) (hlc : len ≤ cap) (hrd : RdB w a len f) (hf : ∀ j, 0 ≤ f j) :
    Calls Try.prog 7 #[.slice a len cap, .int .i64 at0, .int .i64 bits] w fun e w' => e = .returned (.bool true) ∧ Below w.heap.size w w' := by
  by_cases hlen : 1000 < len
  · go_enter Try.func7, Try.ntmps7
    go_wp2_with fail
    refine (awake02_any _).mono ?_
    rintro e w1 ⟨rfl, hb⟩
    go_wp2
    go_ret
    exact ⟨rfl, hb⟩
  · have hlen' : len ≤ 1000 := by omega
    have hcm : len ≤ 1000000 := by omega
    have Hrd := hid hrd; clear hrd
    have Hf := hid hf; clear hf
    cases hst : startB len at0 bits with
    | false =>
      have Hst := hid hst; clear hst
      go_enter Try.func7, Try.ntmps7
      go_wp2_with fail
      refine (awake02_any _).mono ?_
      rintro e w1 ⟨rfl, hb⟩
      go_wp2_with fail
      refine (readUint_any a len cap at0 bits f _ hlc hcm (Hrd.out.ext hb)).mono ?_
      rintro e w2 ⟨rfl, rfl⟩
      rw [Hst.out]
      go_wp2_with fail
      refine (readInt_any a len cap at0 bits f _ hlc hcm (Hrd.out.ext hb)).mono ?_
      rintro e w2 ⟨rfl, rfl⟩
      rw [Hst.out]
      go_wp2_with fail
      refine (refRead_no a len cap at0 bits false _ Hst.out).mono ?_
      rintro e w2 ⟨rfl, rfl⟩
      go_wp2_with fail
      refine (refRead_no a len cap at0 bits true _ Hst.out).mono ?_
      rintro e w2 ⟨rfl, rfl⟩
      go_wp2
      go_ret
      exact ⟨rfl, hb⟩
    | true =>
      have hs : (rightB bits = true ∧ 0 ≤ at0) ∧ at0 ≤ len := by simpa [startB] using hst
      obtain ⟨⟨hr, h0⟩, hle⟩ := hs
      have hb12 : 1 ≤ bits ∧ bits ≤ 64 := by simpa [rightB] using hr
      obtain ⟨at', rfl⟩ := Int.eq_ofNat_of_zero_le h0
      obtain ⟨bt, rfl⟩ := Int.eq_ofNat_of_zero_le (show 0 ≤ bits by omega)
      have hb1 : 1 ≤ bt := by omega
      have hb2 : bt ≤ 64 := by omega
      obtain ⟨e1, e2, e3⟩ := same_reads (fun j => f (at' + j)) (fun j => Hf.out _) at' (len - at') bt hb1 hb2
      have hU := readUint_any a len cap at' bt f
      have hI := readInt_any a len cap at' bt f
      simp only [Int.toNat_natCast] at hU hI
      have hR0 := refRead_yes a len cap at' bt false f
      have hR1 := refRead_yes a len cap at' bt true f
      rw [e1] at hR0
      generalize refRd (fun j => f (at' + j)) at' (len - at') bt true = R1 at *
      generalize readU (fun j => f (at' + j)) at' (len - at') bt = U at *
      generalize readI (fun j => f (at' + j)) at' (len - at') bt = I at *
      obtain ⟨r1, r2, r3⟩ := R1
      obtain ⟨u1, u2, u3⟩ := U
      obtain ⟨i1, i2, i3⟩ := I
      simp only [Prod.mk.injEq] at e2 e3
      obtain ⟨rfl, rfl⟩ := e2
      have HU := hid hU; clear hU
      have HI := hid hI; clear hI
      have HR0 := hid hR0; clear hR0
      have HR1 := hid hR1; clear hR1
      have Hst := hid hst; clear hst e1 hr
      go_enter Try.func7, Try.ntmps7
      go_wp2_with fail
      refine (awake02_any _).mono ?_
      rintro e w1 ⟨rfl, hb⟩
      go_wp2_with fail
      refine (HU.out _ hlc hcm (Hrd.out.ext hb)).mono ?_
      rintro e w2 ⟨rfl, rfl⟩
      rw [Hst.out]
      go_wp2_with fail
      refine (HI.out _ hlc hcm (Hrd.out.ext hb)).mono ?_
      rintro e w2 ⟨rfl, rfl⟩
      rw [Hst.out]
      go_wp2_with fail
      refine (HR0.out _ hb1 hb2 (by omega) hlc hcm (Hrd.out.ext hb)).mono ?_
      rintro e w2 ⟨rfl, hb2'⟩
      go_wp2_with fail
      refine (HR1.out _ hb1 hb2 (by omega) hlc hcm ((Hrd.out.ext hb).ext hb2')).mono ?_
      rintro e w3 ⟨rfl, hb3⟩
      go_wp2
      go_ret
      exact ⟨rfl, hb.trans ((hb2'.trans (hb3.mono hb2'.size)).mono hb.size)⟩
end Go.Proofs.Ytbaomlmannpnaaa
