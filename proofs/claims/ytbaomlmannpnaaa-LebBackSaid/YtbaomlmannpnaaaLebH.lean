/- What is proved here: what ReadInt of the package leb comes to. -/
import Derived.Test.YtbaomlmannpnaaaLebG
namespace Go.Proofs.Ytbaomlmannpnaaa
open Go.RowKit
set_option linter.unusedVariables false
set_option linter.unusedSimpArgs false

/-- A number of b bits with a sign. -/
def sx (X b : Nat) : Int := if 2 ^ (b - 1) ≤ X then (X : Int) - 2 ^ b else X

def readI (f : Nat → Int) (at' avail : Nat) (bits : Int) : Int × Int × Int :=
  let r := scanG f avail 1 (mostN bits).toNat
  if r.2 ≠ 0 then (0, 0, r.2)
  else if bits < 7 * r.1 ∧ 2 ^ (bits.toNat - 1) ≤ numX f r.1 ∧ numX f r.1 < 2 ^ (7 * r.1) - 2 ^ (bits.toNat - 1) then (0, 0, 3)
  else (sx (numX f r.1) (7 * r.1), at' + r.1, 0)

theorem wrap64_eq (n : Int) : IntKind.i64.wrap n = wrap64 n := by
  rw [wrap_i64_def]; unfold wrap64; split <;> omega
theorem ofInt_wrap (n : Nat) (z : Int) (h : z % 18446744073709551616 = n % 18446744073709551616) : BitVec.ofInt 64 z = BitVec.ofNat 64 n := by
  apply BitVec.eq_of_toNat_eq
  simp only [BitVec.toNat_ofInt, BitVec.toNat_ofNat]
  have : (2 : Nat) ^ 64 = 18446744073709551616 := by decide
  omega
theorem wrap64_mod (n : Int) : wrap64 n % 18446744073709551616 = n % 18446744073709551616 := by unfold wrap64; omega
theorem i64_or (X Y : Nat) : bits BinOp.or .i64 (wrap64 X) (wrap64 Y) = wrap64 ((X % 2 ^ 64 ||| Y % 2 ^ 64 : Nat)) := by
  show IntKind.i64.wrap (((BitVec.ofInt 64 (wrap64 X) ||| BitVec.ofInt 64 (wrap64 Y)).toNat : Nat) : Int) = _
  rw [ofInt_wrap X _ (wrap64_mod _), ofInt_wrap Y _ (wrap64_mod _), wrap64_eq]
  simp only [BitVec.toNat_or, BitVec.toNat_ofNat]

theorem orI {X k : Nat} {c : Int} (hX : X < 128 ^ k) (hk : k ≤ 9) (h0 : 0 ≤ c) (h1 : c < 256) :
    bits BinOp.or .i64 (wrap64 X) (wrap64 (wrap64 (bits BinOp.and .u8 c 127) * 2 ^ (7 * k))) = wrap64 ((X + (c % 128).toNat * 128 ^ k : Nat)) := by
  have e1 : bits BinOp.and .u8 c 127 = ((c % 128).toNat : Nat) := by
    have := and127i c
    rw [Int.emod_eq_of_lt h0 h1] at this
    rw [this]; omega
  have h7 : 128 ^ k ≤ 128 ^ 9 := Nat.pow_le_pow_right (by decide) hk
  have h8 : (128 : Nat) ^ 9 = 9223372036854775808 := by decide
  have e0 : wrap64 (((c % 128).toNat : Nat) : Int) = ((c % 128).toNat : Nat) := by unfold wrap64; omega
  have e2 : (((c % 128).toNat : Nat) : Int) * 2 ^ (7 * k) = (((c % 128).toNat * 2 ^ (7 * k) : Nat) : Int) := by simp
  rw [e1, e0, e2, i64_or, Nat.mod_eq_of_lt (show X < 2 ^ 64 by omega), or_group hX hk]
  generalize X + (c % 128).toNat * 128 ^ k = Z
  unfold wrap64; omega

theorem sext {X b : Nat} (h1 : 1 ≤ b) (h2 : b < 64) (hX : X < 2 ^ b) : wrap64 (wrap64 X * 2 ^ (64 - b)) / 2 ^ (64 - b) = sx X b := by
  have hp : (2 : Nat) ^ b ≤ 2 ^ 63 := Nat.pow_le_pow_right (by decide) (by omega)
  have e0 : wrap64 (X : Int) = X := by unfold wrap64; omega
  rw [e0]
  have hb1 : (2 : Nat) ^ b = 2 * 2 ^ (b - 1) := by rw [← Nat.pow_succ']; congr 1; omega
  have hpp : 2 ^ (b - 1) * 2 ^ (64 - b) = 2 ^ 63 := by rw [← Nat.pow_add]; congr 1; omega
  have e1 : (X : Int) * 2 ^ (64 - b) = ((X * 2 ^ (64 - b) : Nat) : Int) := by simp
  have hpos : (0 : Int) < 2 ^ (64 - b) := Int.pow_pos (by decide)
  unfold sx
  have hXp : X * 2 ^ (64 - b) < 2 * 2 ^ 63 := by
    rw [← hpp, ← Nat.mul_assoc, ← hb1]; exact Nat.mul_lt_mul_of_pos_right hX (Nat.two_pow_pos _)
  split
  · rename_i h
    have hge := Nat.mul_le_mul_right (2 ^ (64 - b)) h
    rw [hpp] at hge
    have e2 : wrap64 ((X : Int) * 2 ^ (64 - b)) = ((X : Int) - 2 ^ b) * 2 ^ (64 - b) := by
      have e3 : (2 : Int) ^ b * 2 ^ (64 - b) = 18446744073709551616 := by rw [← Int.pow_add, show b + (64 - b) = 64 from by omega]; rfl
      rw [Int.sub_mul, e3, e1]; unfold wrap64; omega
    rw [e2, Int.mul_ediv_cancel _ (by omega)]
  · rename_i h
    have hlt : X * 2 ^ (64 - b) < 2 ^ 63 := by
      rw [← hpp]; exact Nat.mul_lt_mul_of_pos_right (by omega) (Nat.two_pow_pos _)
    have e2 : wrap64 ((X : Int) * 2 ^ (64 - b)) = (X : Int) * 2 ^ (64 - b) := by rw [e1]; unfold wrap64; omega
    rw [e2, Int.mul_ediv_cancel _ (by omega)]

theorem top_fin : ∀ t : Fin 6, ∀ c : Fin 128, (c.val / 2 ^ t.val = 127 / 2 ^ t.val) ↔ 128 ≤ c.val + 2 ^ t.val := by decide +kernel

/-- What the bits that are too many say. -/
theorem over_sign {A k : Nat} {c bits : Int} (hk : 1 ≤ k) (h1 : bits < 7 * k) (h2 : 7 * k < bits + 7) (hb : 1 ≤ bits) (hA : A < 128 ^ (k - 1)) (h0 : 0 ≤ c) (hc : c < 128) :
    (c / 2 ^ (6 - (7 * k - bits)).toNat = 0 ↔ ¬ 2 ^ (bits.toNat - 1) ≤ A + (c % 128).toNat * 128 ^ (k - 1)) ∧
    ((c / 2 ^ (6 - (7 * k - bits)).toNat != 127 / 2 ^ (6 - (7 * k - bits)).toNat) = true ↔ A + (c % 128).toNat * 128 ^ (k - 1) < 2 ^ (7 * k) - 2 ^ (bits.toNat - 1)) := by
  obtain ⟨c, rfl⟩ := Int.eq_ofNat_of_zero_le h0
  obtain ⟨t, ht⟩ : ∃ t : Nat, bits = 7 * (k - 1 : Nat) + t + 1 := ⟨(bits - 7 * (k - 1 : Nat) - 1).toNat, by omega⟩
  have e1 : 6 - (7 * (k : Int) - bits) = t := by omega
  have e2 : bits.toNat - 1 = 7 * (k - 1) + t := by omega
  have e3 : ((c : Int) % 128).toNat = c := by omega
  have ht5 : t ≤ 5 := by omega
  rw [e1, e2, e3, top_test hA, Int.toNat_natCast]
  have e4 : (c : Int) / 2 ^ t = ((c / 2 ^ t : Nat) : Int) := by simp
  have e5 : (127 : Int) / 2 ^ t = ((127 / 2 ^ t : Nat) : Int) := by simp
  constructor
  · rw [e4, Nat.not_le, ← Nat.div_eq_zero_iff_lt (Nat.two_pow_pos t)]
    omega
  · rw [e4, e5, bne_iff_ne]
    have hf := top_fin ⟨t, by omega⟩ ⟨c, by omega⟩
    simp only at hf
    have h7 := top_test (A := A) (c := c + 2 ^ t) (s := 7) hA
    rw [show 7 * (k - 1) + 7 = 7 * k from by omega] at h7
    have hpow : 2 ^ (7 * (k - 1) + t) = 2 ^ t * 128 ^ (k - 1) := by rw [Nat.pow_add, ← pow128, Nat.mul_comm]
    have hle : 2 ^ t * 128 ^ (k - 1) ≤ 2 ^ (7 * k) := by
      rw [← hpow]; exact Nat.pow_le_pow_right (by decide) (by omega)
    rw [hpow]
    rw [Nat.add_mul] at h7
    have : (2 : Nat) ^ 7 = 128 := rfl
    constructor
    · intro h
      have : ¬ 128 ≤ c + 2 ^ t := fun hh => h (by rw [hf.2 hh])
      omega
    · intro h hh
      have := hf.1 (by omega)
      omega

theorem sx70 {X : Nat} {bits : Int} (h1 : 1 ≤ bits) (h2 : bits ≤ 64) (hX : X < 2 ^ 70) (h : X < 2 ^ (bits.toNat - 1) ∨ 2 ^ 70 - 2 ^ (bits.toNat - 1) ≤ X) : wrap64 X = sx X 70 := by
  have hp : (2 : Nat) ^ (bits.toNat - 1) ≤ 2 ^ 63 := Nat.pow_le_pow_right (by decide) (by omega)
  have e : (2 : Nat) ^ 70 = 1180591620717411303424 := by decide
  have e' : (2 : Int) ^ 70 = 1180591620717411303424 := by decide
  have e2 : (2 : Nat) ^ (70 - 1) = 590295810358705651712 := by decide
  unfold sx wrap64
  rw [e2, e']
  rw [e] at h hX
  split <;> omega

set_option maxHeartbeats 1000000 in
set_option maxRecDepth 100000 in
theorem readInt_any (a : Option Addr) (len cap : Nat) (at0 bits : Int) (f : Nat → Int) (w : World) (hlc : len ≤ cap) (hcm : len ≤ 1000000) (hrd : RdB w a len f) :
    Calls Try.prog 35 #[.slice a len cap, .int .i64 at0, .int .i64 bits] w fun e w' => w = w' ∧ e = .returned (.tuple (if startB len at0 bits then
      #[.int .i64 (readI (fun j => f (at0.toNat + j)) at0.toNat (len - at0.toNat) bits).1, .int .i64 (readI (fun j => f (at0.toNat + j)) at0.toNat (len - at0.toNat) bits).2.1, .int .i64 (readI (fun j => f (at0.toNat + j)) at0.toNat (len - at0.toNat) bits).2.2] else #[.int .i64 0, .int .i64 0, .int .i64 1])) := by
  cases hst : startB len at0 bits with
  | false =>
    have Hst := hid hst; clear hst
    go_enter Try.func35, Try.ntmps35
    go_wp2_with fail
    refine (start_any a len cap at0 bits _).mono ?_
    rintro e w' ⟨rfl, rfl⟩
    rw [Hst.out]
    go_wp2
    go_ret3
    exact ⟨rfl, rfl⟩
  | true =>
    have hs : (rightB bits = true ∧ 0 ≤ at0) ∧ at0 ≤ len := by simpa [startB] using hst
    obtain ⟨⟨hr, h0⟩, hle⟩ := hs
    obtain ⟨at', rfl⟩ := Int.eq_ofNat_of_zero_le h0
    simp only [Int.toNat_natCast]
    have hle' : at' ≤ len := by omega
    have hb : 1 ≤ bits ∧ bits ≤ 64 := by simpa [rightB] using hr
    have hm : mostN bits = (bits + 6) / 7 := by simp [mostN, hr]
    obtain ⟨hb1, hb2⟩ := hb
    have hM10 : (mostN bits).toNat ≤ 10 := by omega
    have Hm := hid hm; clear hm
    have Hst := hid hst; clear hst
    have Hr := hid hr; clear hr
    have hg := group50_any a len cap at' bits f w Hr.out hle' hlc hcm hrd
    have HM10 := hid hM10; clear hM10
    have Hrd := hid hrd; clear hrd
    have HU : Hid (readI (fun j => f (at' + j)) at' (len - at') bits = readI (fun j => f (at' + j)) at' (len - at') bits) := rfl
    generalize hU : readI (fun j => f (at' + j)) at' (len - at') bits = U at HU ⊢
    unfold readI at hU
    obtain ⟨m, er, hscan⟩ : ∃ m er, scanG (fun j => f (at' + j)) (len - at') 1 (mostN bits).toNat = (m, er) := ⟨_, _, rfl⟩
    rw [hscan] at hg hU
    simp only at hU
    by_cases her : er = 0
    · subst her
      have hsc := scan_ok _ _ _ _ _ hscan
      obtain ⟨hm1, hm2, hm3, hm4⟩ := hsc
      have hm10 : m ≤ 10 := by have := HM10.out; omega
      simp only [ne_eq, not_true_eq_false, if_false] at hU
      have HU' := hid hU; clear hU HU
      have Hsc := hid hscan; clear hscan
      go_enter Try.func35, Try.ntmps35
      go_wp2_with fail
      refine (start_any a len cap at' bits _).mono ?_
      rintro e w' ⟨rfl, rfl⟩
      rw [Hst.out]
      go_wp2_with fail
      refine hg.mono ?_
      rintro e w' ⟨rfl, s, rfl, _, hs⟩
      obtain ⟨b, off, rfl, rfl⟩ := hs rfl
      clear hg hs
      go_wp2
      go_loop [11, 35] (fun v i => ∃ k : Nat, i = .int .i64 k ∧ k ≤ m ∧ v = .int .i64 (wrap64 (numX (fun j => f (at' + j)) k))) (fun _ i => m - (intOf i).toNat)
      case atStart => exact ⟨0, rfl, by omega, by simp [numX, wrap64]⟩
      case round =>
        obtain ⟨k, rfl, hk, rfl⟩ := hrel
        by_cases hkm : k < m
        · obtain ⟨b', off', hab, hc, h0, h1, hbw⟩ := Hrd.out (at' + k) (by omega)
          simp only [Option.some.injEq, Addr.mk.injEq] at hab
          obtain ⟨rfl, rfl, _⟩ := hab
          rw [← Nat.add_assoc] at hc
          have hk9 : k ≤ 9 := by omega
          have hX := numX_lt (fun j => f (at' + j)) k
          have HX := hid hX; clear hX
          have hstep : numX (fun j => f (at' + j)) (k + 1) = numX (fun j => f (at' + j)) k + (f (at' + k) % 128).toNat * 128 ^ k := rfl
          have Hstep := hid hstep; clear hstep
          generalize numX (fun j => f (at' + j)) k = X at *
          go_wp2
          go_round
          case rel => exact ⟨k + 1, by go_num, by omega, by rw [orI HX.out hk9 h0 h1, Hstep.out]⟩
          case measure => simp [intOf]; omega
        · obtain rfl : k = m := by omega
          obtain ⟨b', off', hab, hc, h0, h1, hbw⟩ := Hrd.out (at' + (k - 1)) (by omega)
          simp only [Option.some.injEq, Addr.mk.injEq] at hab
          obtain ⟨rfl, rfl, _⟩ := hab
          rw [← Nat.add_assoc] at hc
          have HK : Hid (k = k - 1 + 1) := by simp only [Hid]; omega
          have hnum : numX (fun j => f (at' + j)) k = numX (fun j => f (at' + j)) (k - 1) + (f (at' + (k - 1)) % 128).toNat * 128 ^ (k - 1) := by
            conv => lhs; rw [HK.out]
            rfl
          have hlt := numX_lt (fun j => f (at' + j)) (k - 1)
          have HN := hid hnum; clear hnum
          have HL := hid hlt; clear hlt
          have hb7 : 7 * (k : Int) < bits + 7 := by have := Hm.out; omega
          have hbound := numX_lt (fun j => f (at' + j)) k
          rw [pow128] at hbound
          have HB := hid hbound; clear hbound
          by_cases hov : bits < 7 * k
          · have hiff := over_sign (A := numX (fun j => f (at' + j)) (k - 1)) (c := f (at' + (k - 1))) hm1 hov hb7 hb1 HL.out h0 hm4
            rw [← HN.out] at hiff
            have HI := hid hiff; clear hiff
            have fin : ∀ v : Int, (bits < 7 * k ∧ 2 ^ (bits.toNat - 1) ≤ numX (fun j => f (at' + j)) k ∧ numX (fun j => f (at' + j)) k < 2 ^ (7 * k) - 2 ^ (bits.toNat - 1) → False) → v = sx (numX (fun j => f (at' + j)) k) (7 * k) → (v, (at' + k : Int), (0 : Int)) = U := by
              intro v h hv
              have e := HU'.out
              rw [if_neg h] at e
              rw [← e, hv]
            have Hf := hid fin; clear fin
            have Hk := hid hm10
            by_cases h64 : k ≤ 9
            · by_cases hT : f (at' + (k - 1)) / 2 ^ (6 - (7 * (k : Int) - bits)).toNat = 0
              · have HT := hid (HI.out.1.1 hT)
                go_wp2
                go_ret3
                refine ⟨rfl, ?_⟩
                rw [← Hf.out _ (fun h => HT.out h.2.1) (sext (by omega) (by omega) HB.out)]
                rfl
              · cases hT2 : (f (at' + (k - 1)) / 2 ^ (6 - (7 * (k : Int) - bits)).toNat != 127 / 2 ^ (6 - (7 * (k : Int) - bits)).toNat)
                · have HT := hid (fun h => Bool.false_ne_true (hT2.symm.trans (HI.out.2.2 h)))
                  go_wp2
                  go_ret3
                  refine ⟨rfl, ?_⟩
                  rw [← Hf.out _ (fun h => HT.out h.2.2) (sext (by omega) (by omega) HB.out)]
                  rfl
                · have HT := hid (HI.out.2.1 hT2)
                  have HT1 := hid (fun h => hT (HI.out.1.2 h))
                  go_wp2
                  go_ret3
                  have e := HU'.out
                  rw [if_pos ⟨hov, Classical.not_not.1 HT1.out, HT.out⟩] at e
                  exact ⟨rfl, by rw [← e]; rfl⟩
            · obtain rfl : k = 10 := by omega
              by_cases hT : f (at' + 9) / 2 ^ (6 - (70 - bits)).toNat = 0
              · have HT := hid (HI.out.1.1 hT)
                go_wp2
                go_ret3
                refine ⟨rfl, ?_⟩
                rw [← Hf.out _ (fun h => HT.out h.2.1) (sx70 hb1 hb2 HB.out (.inl (Nat.lt_of_not_le HT.out)))]
                rfl
              · cases hT2 : (f (at' + 9) / 2 ^ (6 - (70 - bits)).toNat != 127 / 2 ^ (6 - (70 - bits)).toNat)
                · have HT := hid (fun h => Bool.false_ne_true (hT2.symm.trans (HI.out.2.2 h)))
                  go_wp2
                  go_ret3
                  refine ⟨rfl, ?_⟩
                  rw [← Hf.out _ (fun h => HT.out h.2.2) (sx70 hb1 hb2 HB.out (.inr (Nat.le_of_not_lt HT.out)))]
                  rfl
                · have HT := hid (HI.out.2.1 hT2)
                  have HT1 := hid (fun h => hT (HI.out.1.2 h))
                  go_wp2
                  go_ret3
                  have e := HU'.out
                  rw [if_pos ⟨hov, Classical.not_not.1 HT1.out, HT.out⟩] at e
                  exact ⟨rfl, by rw [← e]; rfl⟩
          · have hk9 : k ≤ 9 := by omega
            have hlt64 : 7 * (k : Int) < 64 := by omega
            go_wp2
            go_ret3
            have e := HU'.out
            rw [if_neg (fun h => absurd h.1 (by omega))] at e
            refine ⟨rfl, ?_⟩
            rw [← e, ← sext (by omega) (by omega) HB.out]
            rfl
    · have HU' := hid hU; clear hU HU
      have Hsc := hid hscan; clear hscan
      go_enter Try.func35, Try.ntmps35
      go_wp2_with fail
      refine (start_any a len cap at' bits _).mono ?_
      rintro e w' ⟨rfl, rfl⟩
      rw [Hst.out]
      go_wp2_with fail
      refine hg.mono ?_
      rintro e w' ⟨rfl, s, rfl, hs, _⟩
      obtain rfl := hs her
      clear hg hs
      go_wp2
      go_ret3
      have e := HU'.out
      rw [if_pos her] at e
      exact ⟨rfl, by rw [← e]; rfl⟩
end Go.Proofs.Ytbaomlmannpnaaa
