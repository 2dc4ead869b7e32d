/- What is proved here: the ranks that are of the unit interval: plain. -/
import Derived.Test.YtbllifhcfgjdlaaGgZ
import Derived.Test.YtbllifhcfgjdlaaGgJ
import Derived.Test.YtbllifhcfgjdlaaGgE
namespace Go.Proofs.Ytbllifhcfgjdlaa
open Go.RowKit FltT
set_option linter.unusedVariables false
set_option linter.unusedSimpArgs false
def goodQ (x : Nat) : Bool := (ford x 0 == some .gt || ford x 0 == some .eq) && (ford x 4607182418800017408 == some .lt || ford x 4607182418800017408 == some .eq)
theorem ford_nan {x y : Nat} (h : isNan x) : ford x y = none := order_nanL h
theorem ford_some {x y : Nat} (hx : ¬ isNan x) (hy : frung y < 9218868437227405312) : ∃ o, ford x y = some o := by
  unfold isNan at hx
  unfold ford
  by_cases h : frung x = 9218868437227405312
  · exact ⟨_, order_infL h hy⟩
  · exact ⟨_, order_fin (by omega) hy⟩
theorem refQ (x : Nat) : ((decide (kindN x = 0) || (ford x 0 == some .lt)) || (ford x 4607182418800017408 == some .gt)) = !goodQ x := by
  unfold goodQ
  by_cases h : isNan x
  · rw [ford_nan h, ford_nan h, nan_kind.2 h]; rfl
  · have hk : ¬ kindN x = 0 := fun e => h (nan_kind.1 e)
    obtain ⟨o1, e1⟩ := ford_some (y := 0) h (by decide)
    obtain ⟨o2, e2⟩ := ford_some (y := 4607182418800017408) h (by decide)
    rw [e1, e2, decide_eq_false hk]
    cases o1 <;> cases o2 <;> rfl
theorem goodQ_unit {x : Nat} (h : goodQ x = true) : frung x ≤ 4607182418800017408 ∧ (fneg x = false ∨ frung x = 0) := by
  unfold goodQ at h
  rw [Bool.and_eq_true] at h
  have h1 : ¬ isNan x := fun hn => by rw [ford_nan hn] at h; simp at h
  have h2 : fneg x = false ∨ frung x = 0 := by
    by_cases h0 : frung x = 0
    · exact .inr h0
    · have a := h.1
      rw [fgtz, fzero, decide_eq_false h0, Bool.or_false, decide_eq_true_eq] at a
      exact .inl a.2.2
  refine ⟨?_, h2⟩
  by_cases h0 : frung x = 0
  · omega
  · have hs : fneg x = false := by rcases h2 with a | a; exact a; exact absurd a h0
    have b := h.2
    by_cases hi : frung x = 9218868437227405312
    · exfalso
      unfold ford at b
      rw [order_infL hi (by decide), hs] at b
      simp at b
    · unfold isNan at h1
      unfold ford at b
      rw [order_pos (by omega) (by decide) hs (by decide)] at b
      rw [show frung 4607182418800017408 = 4607182418800017408 from by decide] at b
      unfold compare at b
      simp only [instOrdNat, compareOfLessAndEq] at b
      by_cases c : frung x < 4607182418800017408
      · omega
      · rw [if_neg c] at b
        by_cases c2 : frung x = 4607182418800017408
        · omega
        · rw [if_neg c2] at b; simp at b
/-- what Rank answers -/
def RankF (l : List Nat) (x r : Nat) : Prop := r < 18446744073709551616 ∧ (if l.length = 0 ∨ goodQ x = false then isNan r else ∃ (l' : List Nat) (k t : Nat), l'.Perm l ∧ SrtL l' ∧ floatBits .mul .f64 x (floatOfInt .f64 (((l.length - 1 : Nat) : Nat) : Int)) = some t ∧ floatToIntVal .f64 t .i64 = some ((k : Nat) : Int) ∧ k < l.length ∧ r = l'.getD k 0)
theorem rank_tell {l : List Nat} {x r s : Nat} (hW : allW l) (h : RankF l x r) (h' : RankF l x s) : sameB r s = true := by
  by_cases c : l.length = 0 ∨ goodQ x = false
  · have a := h.2; have b := h'.2
    rw [if_pos c] at a b
    exact same_nan a b
  · have a := h.2; have b := h'.2
    rw [if_neg c] at a b
    obtain ⟨l1, k1, t1, p1, s1, m1, f1, q1, e1⟩ := a
    obtain ⟨l2, k2, t2, p2, s2, m2, f2, q2, e2⟩ := b
    obtain rfl : t1 = t2 := Option.some.inj (m1.symm.trans m2)
    have hk : (k1 : Int) = k2 := Option.some.inj (f1.symm.trans f2)
    obtain rfl : k1 = k2 := by omega
    rw [e1, e2]
    exact rank_same hW s1 s2 p1 p2 q1
theorem clone_gen (a : Option Addr) (c : Nat) (l : List Nat) (w : World) (hl : RdS 1 vFlt w a l) (h0 : 0 < l.length) (hlen : l.length ≤ 100) : Calls Try.prog 32 #[(.slice a l.length c)] w fun e w' => ∃ v, e = .returned v ∧ Row 1 vFlt 22 w.heap.size w' v l ∧ Below w.heap.size w w' := by
  obtain ⟨b, off, rfl, _⟩ := RdS.at hl (getD_at 0 h0)
  exact clone_any _ c l w hl h0 hlen
end Go.Proofs.Ytbllifhcfgjdlaa
