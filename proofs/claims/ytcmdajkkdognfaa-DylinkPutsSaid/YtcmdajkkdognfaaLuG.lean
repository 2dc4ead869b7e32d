/- What is proved here: what the functions of the package leb that read numbers come to. -/
import Derived.Test.YtcmdajkkdognfaaLuA
import Derived.Laws.BitsAllLaws
namespace Go.Proofs.Ytcmdajkkdognfaa
open Go.RowKit
set_option linter.unusedVariables false
set_option linter.unusedSimpArgs false

/-- The first n bytes of a slice read as f says. -/
def RdB (w : World) (a : Option Addr) (n : Nat) (f : Nat → Int) : Prop := ∀ j, j < n → ∃ b off, a = some ⟨b, off, none⟩ ∧ w.cell? ⟨b, off + j, none⟩ = some (.int .u8 (f j)) ∧ 0 ≤ f j ∧ f j < 256 ∧ b < w.heap.size

theorem RdB.ext {w w' : World} {a : Option Addr} {n : Nat} {f : Nat → Int} (h : RdB w a n f) (hb : Below w.heap.size w w') : RdB w' a n f := by
  intro j hj
  obtain ⟨b, off, ha, hc, h0, h1, hl⟩ := h j hj
  exact ⟨b, off, ha, (hb.cell (p := ⟨b, off + j, none⟩) hl).trans hc, h0, h1, Nat.lt_of_lt_of_le hl hb.size⟩

theorem rdB_open {w : World} {x : Addr} {len cap : Nat} {zs : List Int} (hl : len ≤ cap) (hz : zs.length = cap) (hc : ∀ i, i < zs.length → w.cell? (x.add i) = some (.int .u8 (zs.getD i 0))) (hw : ∀ n ∈ zs, (Lit.int .u8 n).wf = true) :
    ∃ f : Nat → Int, len ≤ cap ∧ RdB w (some x) len f ∧ ∀ j, 0 ≤ f j := by
  have hb : ∀ j, 0 ≤ zs.getD j 0 ∧ zs.getD j 0 < 256 := fun j => by
    by_cases h : j < zs.length
    · have := hw (zs.getD j 0) (by rw [List.getD_eq_getElem?_getD, List.getElem?_eq_getElem h]; simp)
      simp [Lit.wf, IntKind.min, IntKind.max, IntKind.signed, IntKind.bits] at this
      simp; omega
    · rw [List.getD_eq_getElem?_getD, List.getElem?_eq_none (by omega)]; simp
  refine ⟨fun j => zs.getD j 0, hl, fun j hj => ?_, fun j => (hb j).1⟩
  have h := hc j (by omega)
  have hs : x.spot = none := by
    have h0 := hc 0 (by omega)
    rw [show x.add 0 = x from rfl] at h0
    unfold World.cell? at h0
    split at h0
    · cases hsp : x.spot with
      | none => rfl
      | some _ => simp [hsp] at h0
    · cases h0
  obtain ⟨b, off, sp⟩ := x
  simp only at hs; subst hs
  refine ⟨b, off, rfl, ?_, (hb j).1, (hb j).2, ?_⟩
  · have e : (⟨b, off, none⟩ : Addr).add j = ⟨b, off + j, none⟩ := by unfold Addr.add; split <;> simp_all
    rw [← e]; exact h
  · have := World.block_lt_of_cell? w _ h
    have e : (⟨b, off, none⟩ : Addr).add j = ⟨b, off + j, none⟩ := by unfold Addr.add; split <;> simp_all
    rw [e] at this; exact this

/-- Where the last byte of a number stands, or why there is none. -/
def scanG (f : Nat → Int) (avail : Nat) (n : Nat) : Nat → Nat × Int
  | 0 => (0, 3)
  | k + 1 => if avail < n then (0, 2) else if f (n - 1) < 128 then (n, 0) else scanG f avail (n + 1) k

def startB (len : Nat) (at' bits : Int) : Bool := rightB bits && decide (0 ≤ at') && decide (at' ≤ len)

set_option maxRecDepth 100000 in
theorem start_any (a : Option Addr) (len cap : Nat) (at' bits : Int) (w : World) : Calls Try.prog 166 #[.slice a len cap, .int .i64 at', .int .i64 bits] w fun e w' => e = .returned (.bool (startB len at' bits)) ∧ w = w' := by
  cases hr : rightB bits with
  | false =>
    have he : startB len at' bits = false := by simp [startB, hr]
    have Hr := hid hr; clear hr
    have He := hid he; clear he
    go_enter Try.func166, Try.ntmps166
    go_wp2_with fail
    refine (right_any bits _).mono ?_
    rintro e w' ⟨rfl, rfl⟩
    rw [Hr.out]
    go_wp2
    go_ret
    exact ⟨by rw [He.out]; rfl, rfl⟩
  | true =>
    by_cases h1 : 0 ≤ at'
    · by_cases h2 : at' ≤ len
      · have he : startB len at' bits = true := by simp [startB, hr, h1, h2]
        have Hr := hid hr; clear hr
        have He := hid he; clear he
        go_enter Try.func166, Try.ntmps166
        go_wp2_with fail
        refine (right_any bits _).mono ?_
        rintro e w' ⟨rfl, rfl⟩
        rw [Hr.out]
        go_wp2
        go_ret
        exact ⟨by rw [He.out]; simp [h2], rfl⟩
      · have he : startB len at' bits = false := by simp [startB, hr, h1, h2]
        have Hr := hid hr; clear hr
        have He := hid he; clear he
        go_enter Try.func166, Try.ntmps166
        go_wp2_with fail
        refine (right_any bits _).mono ?_
        rintro e w' ⟨rfl, rfl⟩
        rw [Hr.out]
        go_wp2
        go_ret
        exact ⟨by rw [He.out]; simp [h2]; try omega, rfl⟩
    · have he : startB len at' bits = false := by simp [startB, hr, h1]
      have h1' : at' < 0 := by omega
      have Hr := hid hr; clear hr
      have He := hid he; clear he
      go_enter Try.func166, Try.ntmps166
      go_wp2_with fail
      refine (right_any bits _).mono ?_
      rintro e w' ⟨rfl, rfl⟩
      rw [Hr.out]
      go_wp2
      go_ret
      exact ⟨by rw [He.out]; simp; try omega, rfl⟩

def GroupPost (a : Option Addr) (cap at' : Nat) (r : Nat × Int) (w : World) (e : Ending) (w' : World) : Prop :=
  w = w' ∧ ∃ s, e = .returned (.tuple #[s, .int .i64 r.2]) ∧ (r.2 ≠ 0 → s = .slice none 0 0) ∧ (r.2 = 0 → ∃ b off, a = some ⟨b, off, none⟩ ∧ s = .slice (some ⟨b, off + at', none⟩) r.1 (cap - at'))

set_option maxHeartbeats 400000 in
set_option maxRecDepth 100000 in
theorem group50_any (a : Option Addr) (len cap at' : Nat) (bits : Int) (f : Nat → Int) (w : World) (hr : rightB bits = true) (hat : at' ≤ len) (hlc : len ≤ cap) (hcm : len ≤ 1000000) (hrd : RdB w a len f) :
    Calls Try.prog 167 #[.slice a len cap, .int .i64 at', .int .i64 bits] w (GroupPost a cap at' (scanG (fun j => f (at' + j)) (len - at') 1 (mostN bits).toNat) w) := by
  have hb : 1 ≤ bits ∧ bits ≤ 64 := by simpa [rightB] using hr
  have hm : mostN bits = (bits + 6) / 7 := by simp [mostN, hr]
  have Hr := hid hr; clear hr
  obtain ⟨M, hM⟩ : ∃ M : Nat, mostN bits = M := ⟨((bits + 6) / 7).toNat, by rw [hm]; omega⟩
  have hM10 : M ≤ 10 := by omega
  rw [hM]; simp only [Int.toNat_natCast]
  have HM := hid hM; clear hM hm
  obtain ⟨hb1, hb2⟩ := hb
  have Hrd := hid hrd; clear hrd
  go_enter Try.func167, Try.ntmps167
  go_wp2
  go_loop [8] (fun x => ∃ n k : Nat, x = .int .i64 n ∧ 1 ≤ n ∧ n + k ≤ M + 1 ∧ M + 1 ≤ n + k ∧ Hid (scanG (fun j => f (at' + j)) (len - at') 1 M = scanG (fun j => f (at' + j)) (len - at') n k)) (fun x => (11 - intOf x).toNat)
  case atStart => exact ⟨1, M, rfl, by omega, by omega, by omega, rfl⟩
  case round =>
    obtain ⟨n, k, rfl, hn, hk1, hk2, Hs⟩ := hrel
    cases k with
    | zero =>
      have hgt : M < n := by omega
      go_wp2_with fail
      refine (most_any bits _).mono ?_
      rintro e w' ⟨rfl, rfl⟩
      rw [HM.out]
      go_wp2
      go_ret2
      refine ⟨rfl, .slice none 0 0, ?_, fun _ => rfl, fun h => ?_⟩
      · rw [Hs.out]; rfl
      · rw [Hs.out] at h; simp [scanG] at h
    | succ k =>
      have hle : n ≤ M := by omega
      by_cases hav : len - at' < n
      · have hs : scanG (fun j => f (at' + j)) (len - at') n (k + 1) = (0, 2) := by rw [scanG, if_pos hav]
        have Hs2 := hid (Hs.out.trans hs); clear hs
        go_wp2_with fail
        refine (most_any bits _).mono ?_
        rintro e w' ⟨rfl, rfl⟩
        rw [HM.out]
        go_wp2
        go_ret2
        refine ⟨rfl, .slice none 0 0, ?_, fun _ => rfl, fun h => ?_⟩
        · rw [Hs2.out]; rfl
        · rw [Hs2.out] at h; simp at h
      · have hj : at' + (n - 1) < len := by omega
        obtain ⟨b, off, rfl, hc, h0, h1, hbw⟩ := Hrd.out (at' + (n - 1)) hj
        have e1 : at' + (n - 1) = at' + n - 1 := by omega
        rw [e1] at hc
        have HE := hid e1; clear e1
        by_cases hlt : f (at' + (n - 1)) < 128
        · have hs : scanG (fun j => f (at' + j)) (len - at') n (k + 1) = (n, 0) := by rw [scanG, if_neg hav, if_pos hlt]
          have Hs2 := hid (Hs.out.trans hs); clear hs
          rw [HE.out] at hlt h0 h1
          go_wp2_with fail
          refine (most_any bits _).mono ?_
          rintro e w' ⟨rfl, rfl⟩
          rw [HM.out]
          go_wp2
          go_ret2
          refine ⟨rfl, _, ?_, fun h => ?_, fun _ => ⟨b, off, rfl, rfl⟩⟩
          · rw [Hs2.out]; simp
          · rw [Hs2.out] at h; simp at h
        · have hs : scanG (fun j => f (at' + j)) (len - at') n (k + 1) = scanG (fun j => f (at' + j)) (len - at') (n + 1) k := by rw [scanG, if_neg hav, if_neg hlt]
          have Hs2 := hid (Hs.out.trans hs); clear hs
          rw [HE.out] at hlt h0 h1
          go_wp2_with fail
          refine (most_any bits _).mono ?_
          rintro e w' ⟨rfl, rfl⟩
          rw [HM.out]
          go_wp2
          go_round
          case rel => exact ⟨n + 1, k, by go_num, by omega, by omega, by omega, Hs2.out⟩
          case measure => simp [intOf]; omega

theorem scan_ok (f : Nat → Int) (avail : Nat) : ∀ k n m, scanG f avail n k = (m, 0) → n ≤ m ∧ m < n + k ∧ m ≤ avail ∧ f (m - 1) < 128
  | 0, n, m, h => by simp [scanG] at h
  | k + 1, n, m, h => by
    rw [scanG] at h
    split at h
    · simp at h
    · split at h
      · rename_i h1 h2
        simp at h; subst h
        exact ⟨by omega, by omega, by omega, h2⟩
      · have := scan_ok f avail k (n + 1) m h
        exact ⟨by omega, by omega, this.2.2⟩

/-- The number that n groups of seven bits stand for. -/
def numX (f : Nat → Int) : Nat → Nat
  | 0 => 0
  | n + 1 => numX f n + (f n % 128).toNat * 128 ^ n
theorem numX_lt (f : Nat → Int) : ∀ n, numX f n < 128 ^ n
  | 0 => by simp [numX]
  | n + 1 => by
    have h1 := numX_lt f n
    have h2 : (f n % 128).toNat ≤ 127 := by omega
    have h3 : (f n % 128).toNat * 128 ^ n ≤ 127 * 128 ^ n := Nat.mul_le_mul_right _ h2
    rw [numX, Nat.pow_succ]; omega

theorem or_add {X Y s : Nat} (hX : X < 2 ^ s) : X ||| (Y * 2 ^ s) = X + Y * 2 ^ s := by
  rw [Nat.or_comm, Nat.mul_comm Y, ← Nat.two_pow_add_eq_or_of_lt hX, Nat.add_comm]

theorem mul_mod64 (y s : Nat) (hs : s ≤ 64) : y * 2 ^ s % 2 ^ 64 = y % 2 ^ (64 - s) * 2 ^ s := by
  have : (2 : Nat) ^ 64 = 2 ^ (64 - s) * 2 ^ s := by rw [← Nat.pow_add]; congr 1; omega
  rw [this, Nat.mul_mod_mul_right]

theorem pow128 (k : Nat) : 128 ^ k = 2 ^ (7 * k) := by rw [Nat.pow_mul]

/-- One group of seven bits more: the sum below 2^64. -/
theorem or_group {X k y : Nat} (hX : X < 128 ^ k) (hk : k ≤ 9) : X ||| (y * 2 ^ (7 * k) % 2 ^ 64) = (X + y * 128 ^ k) % 2 ^ 64 := by
  rw [pow128] at hX ⊢
  rw [mul_mod64 y _ (by omega), or_add hX]
  have h1 : X + y * 2 ^ (7 * k) = X + y % 2 ^ (64 - 7 * k) * 2 ^ (7 * k) + 2 ^ 64 * (y / 2 ^ (64 - 7 * k)) := by
    have e : (2 : Nat) ^ 64 = 2 ^ (64 - 7 * k) * 2 ^ (7 * k) := by rw [← Nat.pow_add]; congr 1; omega
    have := Nat.div_add_mod y (2 ^ (64 - 7 * k))
    calc X + y * 2 ^ (7 * k) = X + (2 ^ (64 - 7 * k) * (y / 2 ^ (64 - 7 * k)) + y % 2 ^ (64 - 7 * k)) * 2 ^ (7 * k) := by rw [this]
      _ = _ := by rw [e, Nat.add_mul]; simp only [Nat.mul_assoc, Nat.mul_comm, Nat.mul_left_comm]; omega
  rw [h1, Nat.add_mul_mod_self_left]
  refine (Nat.mod_eq_of_lt ?_).symm
  have h2 : y % 2 ^ (64 - 7 * k) + 1 ≤ 2 ^ (64 - 7 * k) := Nat.mod_lt _ (Nat.two_pow_pos _)
  have h3 := Nat.mul_le_mul_right (2 ^ (7 * k)) h2
  have e : (2 : Nat) ^ 64 = 2 ^ (64 - 7 * k) * 2 ^ (7 * k) := by rw [← Nat.pow_add]; congr 1; omega
  rw [e]
  rw [Nat.add_mul] at h3
  omega

theorem orU {X k : Nat} {c : Int} (hX : X < 128 ^ k) (hk : k ≤ 9) (h0 : 0 ≤ c) (h1 : c < 256) :
    bits BinOp.or .u64 ((X : Int) % 18446744073709551616) (IntKind.u64.wrap (IntKind.u64.wrap (bits BinOp.and .u8 c 127) * 2 ^ (7 * k))) = (((X + (c % 128).toNat * 128 ^ k) % 18446744073709551616 : Nat) : Int) := by
  have e1 : bits BinOp.and .u8 c 127 = ((c % 128).toNat : Nat) := by
    have := and127i c
    rw [Int.emod_eq_of_lt h0 h1] at this
    rw [this]; omega
  have h7 : 128 ^ k ≤ 128 ^ 9 := Nat.pow_le_pow_right (by decide) hk
  have h8 : (128 : Nat) ^ 9 = 9223372036854775808 := by decide
  have e0 : IntKind.u64.wrap (((c % 128).toNat : Nat) : Int) = ((c % 128).toNat : Nat) := wrap_u64 (by omega) (by omega)
  rw [e1, e0, wrap_u64_def]
  have e2 : (((c % 128).toNat : Nat) : Int) * 2 ^ (7 * k) % 18446744073709551616 = (((c % 128).toNat * 2 ^ (7 * k) % 2 ^ 64 : Nat) : Int) := by simp
  have e3 : (X : Int) % 18446744073709551616 = (X : Nat) := by omega
  rw [e2, e3, u64_or_nat _ _ (by omega) (Nat.mod_lt _ (by decide)), or_group hX hk]

theorem top_test {A c j s : Nat} (hA : A < 128 ^ j) : 2 ^ (7 * j + s) ≤ A + c * 128 ^ j ↔ 2 ^ s ≤ c := by
  rw [Nat.pow_add, ← pow128, Nat.mul_comm]
  constructor
  · intro h
    apply Nat.le_of_lt_succ
    apply Nat.lt_of_mul_lt_mul_right (a := 128 ^ j)
    rw [Nat.succ_mul]; omega
  · intro h
    have := Nat.mul_le_mul_right (128 ^ j) h
    omega

theorem over_iff {A k : Nat} {c bits : Int} (hk : 1 ≤ k) (h1 : bits < 7 * k) (h2 : 7 * k < bits + 7) (hA : A < 128 ^ (k - 1)) (h0 : 0 ≤ c) (hc : c < 128) :
    (c / 2 ^ (7 - (7 * k - bits)).toNat != 0) = true ↔ 2 ^ bits.toNat ≤ A + (c % 128).toNat * 128 ^ (k - 1) := by
  obtain ⟨c, rfl⟩ := Int.eq_ofNat_of_zero_le h0
  obtain ⟨s, hs⟩ : ∃ s : Nat, bits = 7 * (k - 1 : Nat) + s := ⟨(bits - 7 * (k - 1 : Nat)).toNat, by omega⟩
  have e1 : 7 - (7 * (k : Int) - bits) = s := by omega
  have e2 : bits.toNat = 7 * (k - 1) + s := by omega
  have e3 : ((c : Int) % 128).toNat = c := by omega
  rw [e1, e2, e3, top_test hA, Int.toNat_natCast]
  have e4 : (c : Int) / 2 ^ s = ((c / 2 ^ s : Nat) : Int) := by simp
  rw [e4, bne_iff_ne, ← Nat.not_lt, ← Nat.div_eq_zero_iff_lt (Nat.two_pow_pos s)]
  omega

theorem numX_mod {X : Nat} {b : Nat} (h : X < 2 ^ b) (hb : b ≤ 64) : X % 18446744073709551616 = X := by
  apply Nat.mod_eq_of_lt
  have := Nat.pow_le_pow_right (n := 2) (by decide) hb
  have h2 : (2 : Nat) ^ 64 = 18446744073709551616 := by decide
  omega

def readU (f : Nat → Int) (at' avail : Nat) (bits : Int) : Int × Int × Int :=
  let r := scanG f avail 1 (mostN bits).toNat
  if r.2 ≠ 0 then (0, 0, r.2)
  else if bits < 7 * r.1 ∧ 2 ^ bits.toNat ≤ numX f r.1 then (0, 0, 3)
  else ((numX f r.1 : Int), at' + r.1, 0)

set_option maxHeartbeats 1000000 in
set_option maxRecDepth 100000 in
theorem readUint_any (a : Option Addr) (len cap : Nat) (at0 bits : Int) (f : Nat → Int) (w : World) (hlc : len ≤ cap) (hcm : len ≤ 1000000) (hrd : RdB w a len f) :
    Calls Try.prog 161 #[.slice a len cap, .int .i64 at0, .int .i64 bits] w fun e w' => w = w' ∧ e = .returned (.tuple (if startB len at0 bits then
      #[.int .u64 (readU (fun j => f (at0.toNat + j)) at0.toNat (len - at0.toNat) bits).1, .int .i64 (readU (fun j => f (at0.toNat + j)) at0.toNat (len - at0.toNat) bits).2.1, .int .i64 (readU (fun j => f (at0.toNat + j)) at0.toNat (len - at0.toNat) bits).2.2] else #[.int .u64 0, .int .i64 0, .int .i64 1])) := by
  cases hst : startB len at0 bits with
  | false =>
    have Hst := hid hst; clear hst
    go_enter Try.func161, Try.ntmps161
    go_wp2_with fail
    refine (start_any a len cap at0 bits _).mono ?_
    rintro e w' ⟨rfl, rfl⟩
    rw [Hst.out]
    go_wp2
    go_ret3
    exact ⟨rfl, rfl⟩
  | true =>
    have hs : (rightB bits = true ∧ 0 ≤ at0) ∧ at0 ≤ len := by simpa [startB] using hst
    obtain ⟨⟨hr, h0⟩, hle⟩ := hs
    obtain ⟨at', rfl⟩ := Int.eq_ofNat_of_zero_le h0
    simp only [Int.toNat_natCast]
    have hle' : at' ≤ len := by omega
    have hb : 1 ≤ bits ∧ bits ≤ 64 := by simpa [rightB] using hr
    have hm : mostN bits = (bits + 6) / 7 := by simp [mostN, hr]
    obtain ⟨hb1, hb2⟩ := hb
    have hM10 : (mostN bits).toNat ≤ 10 := by omega
    have Hm := hid hm; clear hm
    have Hst := hid hst; clear hst
    have Hr := hid hr; clear hr
    have hg := group50_any a len cap at' bits f w Hr.out hle' hlc hcm hrd
    have HM10 := hid hM10; clear hM10
    have Hrd := hid hrd; clear hrd
    have HU : Hid (readU (fun j => f (at' + j)) at' (len - at') bits = readU (fun j => f (at' + j)) at' (len - at') bits) := rfl
    generalize hU : readU (fun j => f (at' + j)) at' (len - at') bits = U at HU ⊢
    unfold readU at hU
    obtain ⟨m, er, hscan⟩ : ∃ m er, scanG (fun j => f (at' + j)) (len - at') 1 (mostN bits).toNat = (m, er) := ⟨_, _, rfl⟩
    rw [hscan] at hg hU
    simp only at hU
    by_cases her : er = 0
    · subst her
      have hsc := scan_ok _ _ _ _ _ hscan
      obtain ⟨hm1, hm2, hm3, hm4⟩ := hsc
      have hm10 : m ≤ 10 := by have := HM10.out; omega
      simp only [ne_eq, not_true_eq_false, if_false] at hU
      have HU' := hid hU; clear hU HU
      have Hsc := hid hscan; clear hscan
      go_enter Try.func161, Try.ntmps161
      go_wp2_with fail
      refine (start_any a len cap at' bits _).mono ?_
      rintro e w' ⟨rfl, rfl⟩
      rw [Hst.out]
      go_wp2_with fail
      refine hg.mono ?_
      rintro e w' ⟨rfl, s, rfl, _, hs⟩
      obtain ⟨b, off, rfl, rfl⟩ := hs rfl
      clear hg hs
      go_wp2
      go_loop [11, 32] (fun v i => ∃ k : Nat, i = .int .i64 k ∧ k ≤ m ∧ v = .int .u64 ((numX (fun j => f (at' + j)) k % 18446744073709551616 : Nat) : Int)) (fun _ i => m - (intOf i).toNat)
      case atStart => exact ⟨0, rfl, by omega, rfl⟩
      case round =>
        obtain ⟨k, rfl, hk, rfl⟩ := hrel
        by_cases hkm : k < m
        · obtain ⟨b', off', hab, hc, h0, h1, hbw⟩ := Hrd.out (at' + k) (by omega)
          simp only [Option.some.injEq, Addr.mk.injEq] at hab
          obtain ⟨rfl, rfl, _⟩ := hab
          rw [← Nat.add_assoc] at hc
          have hk9 : k ≤ 9 := by omega
          have hX := numX_lt (fun j => f (at' + j)) k
          have HX := hid hX; clear hX
          have hstep : numX (fun j => f (at' + j)) (k + 1) = numX (fun j => f (at' + j)) k + (f (at' + k) % 128).toNat * 128 ^ k := rfl
          have Hstep := hid hstep; clear hstep
          generalize numX (fun j => f (at' + j)) k = X at *
          go_wp2
          go_round
          case rel => exact ⟨k + 1, by go_num, by omega, by rw [orU HX.out hk9 h0 h1, Hstep.out]⟩
          case measure => simp [intOf]; omega
        · obtain rfl : k = m := by omega
          obtain ⟨b', off', hab, hc, h0, h1, hbw⟩ := Hrd.out (at' + (k - 1)) (by omega)
          simp only [Option.some.injEq, Addr.mk.injEq] at hab
          obtain ⟨rfl, rfl, _⟩ := hab
          rw [← Nat.add_assoc] at hc
          have HK : Hid (k = k - 1 + 1) := by simp only [Hid]; omega
          have hnum : numX (fun j => f (at' + j)) k = numX (fun j => f (at' + j)) (k - 1) + (f (at' + (k - 1)) % 128).toNat * 128 ^ (k - 1) := by
            conv => lhs; rw [HK.out]
            rfl
          have hlt := numX_lt (fun j => f (at' + j)) (k - 1)
          have HN := hid hnum; clear hnum
          have HL := hid hlt; clear hlt
          have hb7 : 7 * (k : Int) < bits + 7 := by have := Hm.out; omega
          by_cases hov : bits < 7 * k
          · have hiff := over_iff (A := numX (fun j => f (at' + j)) (k - 1)) (c := f (at' + (k - 1))) hm1 hov hb7 HL.out h0 hm4
            rw [← HN.out] at hiff
            have HI := hid hiff; clear hiff
            cases hT : (f (at' + (k - 1)) / 2 ^ (7 - (7 * (k : Int) - bits)).toNat != 0)
            · have HT := hid (fun h => Bool.false_ne_true (hT.symm.trans (HI.out.2 h)))
              go_wp2
              go_ret3
              have e := HU'.out
              rw [if_neg (fun h => HT.out h.2)] at e
              refine ⟨rfl, ?_⟩
              rw [← e]
              have hm := numX_mod (Nat.lt_of_not_le HT.out) (by omega)
              have hm' : (numX (fun j => f (at' + j)) k : Int) % 18446744073709551616 = numX (fun j => f (at' + j)) k := by omega
              simp [hm']
            · have HT := hid (HI.out.1 hT)
              go_wp2
              go_ret3
              have e := HU'.out
              rw [if_pos ⟨hov, HT.out⟩] at e
              exact ⟨rfl, by rw [← e]; rfl⟩
          · go_wp2
            go_ret3
            have e := HU'.out
            rw [if_neg (fun h => absurd h.1 (by omega))] at e
            refine ⟨rfl, ?_⟩
            rw [← e]
            have hlt := numX_lt (fun j => f (at' + j)) k
            rw [pow128] at hlt
            have hm := numX_mod hlt (by omega)
            have hm' : (numX (fun j => f (at' + j)) k : Int) % 18446744073709551616 = numX (fun j => f (at' + j)) k := by omega
            simp [hm']
    · have HU' := hid hU; clear hU HU
      have Hsc := hid hscan; clear hscan
      go_enter Try.func161, Try.ntmps161
      go_wp2_with fail
      refine (start_any a len cap at' bits _).mono ?_
      rintro e w' ⟨rfl, rfl⟩
      rw [Hst.out]
      go_wp2_with fail
      refine hg.mono ?_
      rintro e w' ⟨rfl, s, rfl, hs, _⟩
      obtain rfl := hs her
      clear hg hs
      go_wp2
      go_ret3
      have e := HU'.out
      rw [if_pos her] at e
      exact ⟨rfl, by rw [← e]; rfl⟩
end Go.Proofs.Ytcmdajkkdognfaa
