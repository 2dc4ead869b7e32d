/- What is proved here: what the document's function for reading a number comes to. -/
import Derived.Test.YtbaomlmannpnaaaLebI0
import Derived.Deep.DeepCutAuto
namespace Go.Proofs.Ytbaomlmannpnaaa
open Go.RowKit
set_option linter.unusedVariables false
set_option linter.unusedSimpArgs false

set_option maxHeartbeats 2000000 in
set_option maxRecDepth 100000 in
theorem refRead_yes (a : Option Addr) (len cap at' : Nat) (bits : Nat) (sign : Bool) (f : Nat → Int) (w : World) (hb1 : 1 ≤ bits) (hb2 : bits ≤ 64) (hat : at' ≤ len) (hlc : len ≤ cap) (hcm : len ≤ 1000000) (hrd : RdB w a len f) :
    Calls Try.prog 36 #[.slice a len cap, .int .i64 at', .int .i64 bits, .bool sign] w (ReadPost w (refRd (fun j => f (at' + j)) at' (len - at') bits sign)) := by
  have hm : mostN bits = (bits + 6) / 7 := by unfold mostN rightB; rw [if_pos (by simp; omega)]
  obtain ⟨M, hM⟩ : ∃ M : Nat, mostN bits = M := ⟨((bits + 6) / 7), by rw [hm]; omega⟩
  have hM10 : M ≤ 10 := by omega
  have hM7 : 7 * M < bits + 7 := by omega
  have Hrd := hid hrd; clear hrd
  obtain ⟨U, hU⟩ : ∃ U, refRd (fun j => f (at' + j)) at' (len - at') bits sign = U := ⟨_, rfl⟩
  rw [hU]
  unfold refRd at hU
  rw [hM, Int.toNat_natCast] at hU
  have HU := hid hU; clear hU hm
  have HM := hid hM; clear hM
  have Hat := hid hat
  have g1 : decide ((bits : Int) < 1) = false := by simp; omega
  have g2 : decide (64 < (bits : Int)) = false := by simp; omega
  have g3 : decide ((at' : Int) < 0) = false := by simp
  have g4 : decide (len < at') = false := by simp; omega
  go_enter Try.func36, Try.ntmps36
  go_wp2
  go_loopw [11, 12] (fun s x wr => ∃ n : Nat, x = .int .i64 n ∧ n ≤ M ∧ Hid (scanG (fun j => f (at' + j)) (len - at') 1 M = scanG (fun j => f (at' + j)) (len - at') (n + 1) (M - n)) ∧ wr.ownsRow w.heap.size 4 1 s (7 * n) ((lstB (fun j => f (at' + j)) (7 * n)).map Value.bool) ∧ Below w.heap.size w wr) (fun _ x _ => (11 - intOf x).toNat)
  case atStart => exact ⟨0, rfl, by omega, rfl, World.ownsRow_nil _ _ _ _, Below.refl _ _⟩
  case round =>
    obtain ⟨n, rfl, hn, Hs, hown, hb⟩ := hrel
    obtain ⟨wo, rfl⟩ : ∃ wo : World, wo = wr := ⟨_, rfl⟩
    have hsz := hb.size
    by_cases hnM : n = M
    · have hge : M ≤ n := by omega
      have hs : scanG (fun j => f (at' + j)) (len - at') 1 M = (0, 3) := by rw [Hs.out, hnM, Nat.sub_self]; rfl
      have HS := hid hs; clear hs hnM
      go_wp2_with fail
      refine (refMost_any bits _).mono ?_
      rintro e w' ⟨rfl, rfl⟩
      rw [HM.out]
      go_wp2
      go_ret3
      have e := HU.out
      rw [HS.out] at e
      refine ⟨?_, hb⟩
      rw [← e]; rfl
    · have hlt : n < M := by omega
      by_cases hav : len - at' < n + 1
      · have hs : scanG (fun j => f (at' + j)) (len - at') 1 M = (0, 2) := by
          rw [Hs.out, show M - n = (M - n - 1) + 1 from by omega, scanG, if_pos hav]
        have HS := hid hs; clear hs
        go_wp2_with fail
        refine (refMost_any bits _).mono ?_
        rintro e w' ⟨rfl, rfl⟩
        rw [HM.out]
        go_wp2
        go_ret3
        have e := HU.out
        rw [HS.out] at e
        refine ⟨?_, hb⟩
        rw [← e]; rfl
      · obtain ⟨b, off, rfl, hc, h0, h1, hbw⟩ := Hrd.out (at' + n) (by omega)
        have hc := (hb.cell (p := ⟨b, off + (at' + n), none⟩) hbw).trans hc
        have hstep : scanG (fun j => f (at' + j)) (len - at') (n + 1) (M - n) = if f (at' + n) < 128 then (n + 1, 0) else scanG (fun j => f (at' + j)) (len - at') (n + 1 + 1) (M - (n + 1)) := by
          rw [show M - n = (M - (n + 1)) + 1 from by omega, scanG, if_neg hav]; rfl
        have Hstep := hid (Hs.out.trans hstep); clear hstep
        have g5 : decide ((len : Int) ≤ at' + n) = false := by simp; omega
        have g6 : decide (M ≤ n) = false := by simp; omega
        go_wp2_with fail
        refine (refMost_any bits _).mono ?_
        rintro e w' ⟨rfl, rfl⟩
        rw [HM.out]
        go_wp2
        go_loopw [11, 14] (fun s x wr => ∃ k : Nat, x = .int .i64 k ∧ k ≤ 7 ∧ wr.ownsRow w.heap.size 4 1 s (7 * n + k) ((lstB (fun j => f (at' + j)) (7 * n + k)).map Value.bool) ∧ Below w.heap.size w wr) (fun _ x _ => 7 - (intOf x).toNat)
        case atStart => exact ⟨0, rfl, by omega, hown, hb⟩
        case round =>
          obtain ⟨k, rfl, hk, hown, hb⟩ := hrel
          have hsz := hb.size
          by_cases hk7 : k < 7
          · go_wp2_with (at_builtin; refine wpList_push Try.underlying67 Try.info4 rfl (by decide) hown hsz (by omega) rfl rfl rfl rfl rfl ?_; intro v' w' hown' hb' hlt')
            go_roundw
            case rel =>
              refine ⟨k + 1, by go_num, by omega, ?_, hb.trans hb'⟩
              have e : bitB (fun j => f (at' + j)) (7 * n + k) = ((f (at' + n) / 2 ^ k).tmod 2 == 1) := bitB_at _ n k hk7 h0
              rw [show 7 * n + (k + 1) = 7 * n + k + 1 from by omega, lstB_succ, List.map_append, e]
              exact hown'
            case measure => simp [intOf]; omega
          · obtain rfl : k = 7 := by omega
            by_cases hlast : f (at' + n) < 128
            · obtain ⟨g, cap', rfl, hbg, hgw, hcap, hcell⟩ := ownsRow_some hown (by omega)
              have hsc : scanG (fun j => f (at' + j)) (len - at') 1 M = (n + 1, 0) := by have := Hstep.out; rw [if_pos hlast] at this; exact this
              have Hsc := hid hsc; clear hsc
              have hcell' : ∀ j, j < 7 * n + 7 → wr.cell? ⟨g, j, none⟩ = some (.bool (bitB (fun j => f (at' + j)) j)) := fun j hj => (hcell j hj).trans (lstB_get _ hj)
              have Hcell := hid hcell'; clear hcell hcell' hown
              obtain ⟨top, htop⟩ : ∃ top, topB (fun j => f (at' + j)) (n + 1) bits sign = top := ⟨_, rfl⟩
              have Htop := hid htop
              have hc1 : wr.cell? ⟨g, bits - 1, none⟩ = some (.bool (bitB (fun j => f (at' + j)) (bits - 1))) ∨ 7 * n + 7 < bits := by
                by_cases h : bits ≤ 7 * n + 7
                · exact .inl (Hcell.out _ (by omega))
                · exact .inr (by omega)
              have hc2 := Hcell.out ((7 * (n : Int) + 7).toNat - 1) (by omega)
              have hi2 : (7 * (n : Int) + 7).toNat - 1 = 7 * n + 7 - 1 := by omega
              rw [hi2] at hc2
              have ht1 : bits ≤ 7 * n + 7 → sign = true → bitB (fun j => f (at' + j)) (bits - 1) = top := fun h h' => by rw [← htop, h']; unfold topB; rw [show min bits (7 * (n + 1)) = bits from by omega]; simp
              have ht2 : 7 * n + 7 ≤ bits → sign = true → bitB (fun j => f (at' + j)) (7 * n + 7 - 1) = top := fun h h' => by rw [← htop, h']; unfold topB; rw [show min bits (7 * (n + 1)) = 7 * n + 7 from by omega]; simp
              have ht0 : sign = false → false = top := fun h => by rw [← htop, h]; rfl
              have hmin : bits ≤ 7 * n + 7 ∨ 7 * n + 7 < bits := by omega
              clear hi2 htop
              have hN : 7 * n + 7 < bits + 7 := by omega
              have hU := HU.out
              rw [Hsc.out] at hU
              simp only [ne_eq, not_true_eq_false, if_false] at hU
              unfold badB at hU
              obtain ⟨IS, HIS⟩ : ∃ IS : Nat → Bool, Hid (isB (fun j => f (at' + j)) (n + 1) bits (topB (fun j => f (at' + j)) (n + 1) bits sign) = IS) := ⟨_, rfl⟩
              obtain ⟨NB, HNB⟩ : ∃ NB : Nat → Bool, Hid ((fun i => bitB (fun j => f (at' + j)) i != topB (fun j => f (at' + j)) (n + 1) bits sign) = NB) := ⟨_, rfl⟩
              obtain ⟨BB, HBB⟩ : ∃ BB : Nat → Bool, Hid (bitB (fun j => f (at' + j)) = BB) := ⟨_, rfl⟩
              rw [HIS.out, HNB.out] at hU
              have HU2 := hid hU; clear hU
              have HISv : Hid (∀ j, IS j = if bits ≤ j then top else if j < 7 * n + 7 then BB j else top) := fun j => by rw [← HIS.out, ← HBB.out]; unfold isB; rw [Htop.out]; rfl
              have HNBv : Hid (∀ j, NB j = (BB j != top)) := fun j => by rw [← HNB.out, ← HBB.out]; simp only [Htop.out]
              have Hcl : Hid (∀ j, j < 7 * n + 7 → wr.cell? ⟨g, j, none⟩ = some (.bool (BB j))) := fun j hj => by rw [← HBB.out]; exact Hcell.out j hj
              clear HU HIS HNB Hsc
              have hcases : (sign = false ∧ top = false) ∨ (sign = true ∧ bits ≤ 7 * n + 7 ∧ wr.cell? ⟨g, bits - 1, none⟩ = some (.bool top)) ∨ (sign = true ∧ 7 * n + 7 < bits ∧ wr.cell? ⟨g, 7 * n + 6, none⟩ = some (.bool top)) := by
                cases hsg : sign with
                | false => exact .inl ⟨rfl, (ht0 hsg).symm⟩
                | true =>
                  rcases hmin with h | h
                  · rcases hc1 with h1 | h1
                    · exact .inr (.inl ⟨rfl, h, by rw [h1, ht1 h hsg]⟩)
                    · omega
                  · exact .inr (.inr ⟨rfl, h, by rw [show 7 * n + 6 = 7 * n + 7 - 1 from by omega, hc2, ht2 (by omega) hsg]⟩)
              clear hc1 hc2 ht1 ht2 ht0 hmin
              go_upto_region 16 with fail
              go_cut [15] (fun t wx => t = .bool top ∧ wx = wr)
              case first =>
                rcases hcases with ⟨rfl, rfl⟩ | ⟨rfl, hmin, hct⟩ | ⟨rfl, hmin, hct⟩
                all_goals
                  go_wp2_with fail
                  go_meet
                  exact ⟨rfl, rfl⟩
              case rest =>
                obtain ⟨rfl, rfl⟩ := hcut
                clear hcases
                obtain ⟨L, hL1, hL3, hL2, HL, hLi⟩ : ∃ L : Nat, 64 ≤ L ∧ L ≤ 100 ∧ 7 * n + 7 ≤ L ∧ Hid (L = 64 ∨ L = 7 * n + 7) ∧ (if (64 : Int) < 7 * n + 7 then 7 * (n : Int) + 7 else 64) = L := by
                  by_cases h : 64 < 7 * n + 7
                  · exact ⟨7 * n + 7, by omega, by omega, by omega, .inr rfl, by rw [if_pos (by omega)]; simp⟩
                  · exact ⟨64, by omega, by omega, by omega, .inl rfl, by rw [if_neg (by omega)]; simp⟩
                go_wp2
                go_loop [8, 9, 10, 16, 17] (fun _ _ _ v i => ∃ k : Nat, i = .int .i64 k ∧ k ≤ L ∧ v = .int .u64 (valB IS (min k 64) : Nat) ∧ Hid (anyFrom NB bits (min k (7 * n + 7) - bits) = false)) (fun _ _ _ _ i => L - (intOf i).toNat)
                case atStart => exact ⟨0, rfl, by omega, rfl, by simp [Hid, anyFrom]⟩
                case round =>
                  obtain ⟨k, rfl, hk, rfl, Hno⟩ := hrel
                  by_cases hkL : k < L
                  · have hrel : ∀ V : Int, (k < 64 → V = valB IS k + (IS k).toNat * 2 ^ k) → (64 ≤ k → V = valB IS 64) → (bits ≤ k → k < 7 * n + 7 → NB k = false) →
                        ((∃ k' : Nat, Value.int .i64 ((k : Int) + 1) = .int .i64 k' ∧ k' ≤ L ∧ Value.int .u64 V = .int .u64 (valB IS (min k' 64) : Nat) ∧ Hid (anyFrom NB bits (min k' (7 * n + 7) - bits) = false)) ∧ L - (intOf (.int .i64 ((k : Int) + 1))).toNat < L - (intOf (.int .i64 k)).toNat) := by
                      intro V h1 h2 h3
                      refine ⟨⟨k + 1, by simp, by omega, ?_, ?_⟩, by simp [intOf]; omega⟩
                      · by_cases h : k < 64
                        · rw [h1 h, show min (k + 1) 64 = k + 1 from by omega, valB]; simp
                        · rw [h2 (by omega), show min (k + 1) 64 = 64 from by omega]
                      · show anyFrom NB bits _ = false
                        have hno := Hno.out
                        by_cases hb : bits ≤ k ∧ k < 7 * n + 7
                        · rw [show min (k + 1) (7 * n + 7) - bits = (min k (7 * n + 7) - bits) + 1 from by omega, anyFrom, hno, show bits + (min k (7 * n + 7) - bits) = k from by omega, h3 hb.1 hb.2]; rfl
                        · rw [show min (k + 1) (7 * n + 7) - bits = min k (7 * n + 7) - bits from by omega]; exact hno
                    have Hrel := hid hrel; clear hrel
                    have hbad : bits ≤ k → k < 7 * n + 7 → NB k = true → ((0 : Int), (0 : Int), (3 : Int)) = U := by
                      intro h1 h2 h3
                      have e := HU2.out
                      rw [anyFrom_true NB bits (7 * (n + 1) - bits) (k - bits) (by omega) (by rw [show bits + (k - bits) = k from by omega]; exact h3)] at e
                      exact e
                    have Hbad := hid hbad; clear hbad
                    have hvlt := valB_lt IS k
                    have hvlt64 : k < 64 → valB IS k < 9223372036854775808 := fun h => by have := Nat.pow_le_pow_right (n := 2) (by decide) (show k ≤ 63 by omega); have h2 : (2 : Nat) ^ 63 = 9223372036854775808 := (by decide); omega
                    have hIS := HISv.out k
                    have hNB := HNBv.out k
                    have hcl := Hcl.out k
                    generalize hisv : IS k = isv at *
                    generalize hnb : NB k = nb at *
                    have Hnb := hid hnb; clear hnb
                    have Hisv := hid hisv; clear hisv
                    have Hvl := hid hvlt; clear hvlt
                    have Hvl64 := hid hvlt64; clear hvlt64
                    have HNB := hid hNB; clear hNB
                    have hadd : k < 64 → IntKind.u64.wrap ((valB IS (min k 64) : Nat) + IntKind.u64.wrap (2 ^ k)) = (valB IS k : Int) + 2 ^ k := fun h => by
                      have h1 := Hvl64.out h
                      have h2 := Nat.pow_le_pow_right (n := 2) (by decide) (show k ≤ 63 by omega)
                      have h3 : (2 : Nat) ^ 63 = 9223372036854775808 := (by decide)
                      have e : (2 : Int) ^ k = ((2 ^ k : Nat) : Int) := by simp
                      rw [show min k 64 = k from by omega, e]
                      generalize 2 ^ k = p at *
                      rw [wrap_u64 (n := (p : Int)) (by omega) (by omega), wrap_u64 (by omega) (by omega)]
                    have Hadd := hid hadd; clear hadd
                    have hkeep : (64 ≤ k ∨ isv = false) → ∀ V : Int, V = (valB IS (min k 64) : Nat) → (k < 64 → V = valB IS k + isv.toNat * 2 ^ k) ∧ (64 ≤ k → V = valB IS 64) := fun h V hV => by
                      refine ⟨fun h1 => ?_, fun h1 => by rw [hV, show min k 64 = 64 from by omega]⟩
                      rw [hV]
                      rcases h with h | h
                      · omega
                      · rw [h, show min k 64 = k from by omega]; simp
                    have Hkeep := hid hkeep; clear hkeep
                    have hk64' : 64 ≤ k → k < 7 * n + 7 := by have := HL.out; omega
                    have Hk64' := hid hk64'; clear hk64'
                    clear hb1 hat hlc hcm hM10 hM7 HM h0 h1 hbw hcap hN hL1 hL2 HL hk hn hlt hav hnM hk7 hlast hbg hgw hsz Hs hown hc Hstep Hrd
                    by_cases hkn : k < 7 * n + 7
                    · have hcl := hcl hkn
                      generalize hx : BB k = x at *
                      clear hx
                      by_cases hbk : bits ≤ k
                      · rw [if_pos hbk] at hIS
                        obtain rfl := hIS
                        cases hnb : (x == isv)
                        case true =>
                          have HN := hid (HNB.out.trans (by simp only [bne, hnb]; rfl : (x != isv) = false))
                          by_cases hk64 : k < 64
                          · cases isv
                            · go_wp2
                              have hr := Hrel.out _ (Hkeep.out (by simp) _ rfl).1 (Hkeep.out (by simp) _ rfl).2 (fun _ _ => HN.out)
                              first | exact hr | (refine ⟨?_, hr.2⟩; (repeat apply Exists.intro); refine ⟨hr.1, ?_⟩; repeat' (first | rfl | apply And.intro))
                            · go_wp2
                              have hr := Hrel.out (IntKind.u64.wrap ((valB IS (min k 64) : Nat) + IntKind.u64.wrap (2 ^ k))) (fun h => by rw [Hadd.out h]; simp) (fun h => by omega) (fun _ _ => HN.out)
                              first | exact hr | (refine ⟨?_, hr.2⟩; (repeat apply Exists.intro); refine ⟨hr.1, ?_⟩; repeat' (first | rfl | apply And.intro))
                          · go_wp2
                            have hr := Hrel.out _ (Hkeep.out (.inl (by omega)) _ rfl).1 (Hkeep.out (.inl (by omega)) _ rfl).2 (fun _ _ => HN.out)
                            first | exact hr | (refine ⟨?_, hr.2⟩; (repeat apply Exists.intro); refine ⟨hr.1, ?_⟩; repeat' (first | rfl | apply And.intro))
                        case false =>
                          have HN := hid (Hbad.out hbk hkn (HNB.out.trans (by simp only [bne, hnb]; rfl : (x != isv) = true)))
                          go_wp2
                          go_ret3
                          refine ⟨?_, hb⟩
                          rw [← HN.out]; rfl
                      · rw [if_neg hbk, if_pos hkn] at hIS
                        obtain rfl := hIS
                        have hk64 : k < 64 := by omega
                        cases isv
                        · go_wp2
                          have hr := Hrel.out _ (Hkeep.out (by simp) _ rfl).1 (Hkeep.out (by simp) _ rfl).2 (fun h _ => by omega)
                          first | exact hr | (refine ⟨?_, hr.2⟩; (repeat apply Exists.intro); refine ⟨hr.1, ?_⟩; repeat' (first | rfl | apply And.intro))
                        · go_wp2
                          have hr := Hrel.out (IntKind.u64.wrap ((valB IS (min k 64) : Nat) + IntKind.u64.wrap (2 ^ k))) (fun h => by rw [Hadd.out h]; simp) (fun h => by omega) (fun h _ => by omega)
                          first | exact hr | (refine ⟨?_, hr.2⟩; (repeat apply Exists.intro); refine ⟨hr.1, ?_⟩; repeat' (first | rfl | apply And.intro))
                    · have hk64 : k < 64 := Nat.lt_of_not_le (fun h => hkn (Hk64'.out h))
                      clear hcl
                      have hIS' : isv = top := by rw [hIS]; split <;> (try split) <;> rfl
                      clear hIS
                      obtain rfl := hIS'
                      have hkn' : 7 * (n : Int) + 7 ≤ k := by omega
                      clear hkn
                      by_cases hbk : bits ≤ k
                      all_goals
                        cases isv
                        · go_wp2
                          have hr := Hrel.out _ (Hkeep.out (by simp) _ rfl).1 (Hkeep.out (by simp) _ rfl).2 (fun _ h => absurd h (by omega))
                          first | exact hr | (refine ⟨?_, hr.2⟩; (repeat apply Exists.intro); refine ⟨hr.1, ?_⟩; repeat' (first | rfl | apply And.intro))
                        · go_wp2
                          have hr := Hrel.out (IntKind.u64.wrap ((valB IS (min k 64) : Nat) + IntKind.u64.wrap (2 ^ k))) (fun h => by rw [Hadd.out h]; simp) (fun h => by omega) (fun _ h => absurd h (by omega))
                          first | exact hr | (refine ⟨?_, hr.2⟩; (repeat apply Exists.intro); refine ⟨hr.1, ?_⟩; repeat' (first | rfl | apply And.intro))
                  · obtain rfl : k = L := by omega
                    go_wp2
                    go_ret3
                    have hno := Hno.out
                    rw [show min k (7 * n + 7) = 7 * (n + 1) from by omega] at hno
                    have e := HU2.out
                    rw [hno] at e
                    refine ⟨?_, hb⟩
                    rw [← e]
                    simp
            · go_wp2
              go_roundw
              case rel => exact ⟨n + 1, by go_num, by omega, by have := Hstep.out; rw [if_neg hlast] at this; exact this, by simpa [Nat.mul_add] using hown, hb⟩
              case measure => simp [intOf]; omega
end Go.Proofs.Ytbaomlmannpnaaa
