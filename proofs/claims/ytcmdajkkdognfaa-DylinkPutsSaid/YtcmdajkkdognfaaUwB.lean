/- What is proved here: what Right, Count and the document's Bytes, First, Count come to. -/
import Derived.Test.YtcmdajkkdognfaaUwA
namespace Go.Proofs.Ytcmdajkkdognfaa.Ut
open Go.RowKit
set_option linter.unusedVariables false
set_option linter.unusedSimpArgs false

theorem ret_bool {a b : Bool} (h : a = b) : Ending.returned (.bool a) = .returned (.bool b) := by rw [h]
theorem ret_i64 {a b : Int} (h : a = b) : Ending.returned (.int .i64 a) = .returned (.int .i64 b) := by rw [h]

def lenOfV : Value → Nat
  | .slice _ n _ => n
  | .string s => s.size
  | _ => 0

/-- The state of the bytes that are left. -/
def LeftN (w : World) (v : Value) (r : List Nat) : Prop := ∃ a c, v = .slice a r.length c ∧ RdN w a r ∧ r.length ≤ c ∧ ∀ x ∈ r, x < 256

theorem LeftN.cut {w : World} {a : Option Addr} {c b off : Nat} {r : List Nat} {n : Nat} (ha : a = some ⟨b, off, none⟩) (hr : RdN w a r) (hc : r.length ≤ c) (hx : ∀ x ∈ r, x < 256) (hn : n ≤ r.length) :
    (¬ c = n → LeftN w (.slice (some ⟨b, off + n, none⟩) (r.length - n) (c - n)) (r.drop n)) ∧ (c = n → ∀ a', LeftN w (.slice a' 0 0) (r.drop n)) := by
  refine ⟨fun h => ⟨_, c - n, by rw [List.length_drop], fun j hj => ?_, by rw [List.length_drop]; omega, fun x hxm => hx x (List.mem_of_mem_drop hxm)⟩, fun h a' => ?_⟩
  · rw [List.length_drop] at hj
    obtain ⟨b', off', e, hcell, hb⟩ := hr (n + j) (by omega)
    rw [ha] at e
    simp at e
    obtain ⟨rfl, rfl⟩ := e
    refine ⟨b, off + n, rfl, ?_, hb⟩
    rw [Nat.add_assoc, hcell]
    simp [List.getD_eq_getElem?_getD, List.getElem?_drop]
  · have : r.drop n = [] := List.drop_eq_nil_of_le (by omega)
    rw [this]
    exact ⟨a', 0, rfl, fun j hj => absurd hj (by simp), Nat.le_refl _, fun x h => by cases h⟩

theorem rdN_some {w : World} {a : Option Addr} {r : List Nat} (hr : RdN w a r) (h : 0 < r.length) : ∃ b off, a = some ⟨b, off, none⟩ := by
  obtain ⟨b, off, e, _⟩ := hr 0 h
  exact ⟨b, off, e⟩

set_option maxHeartbeats 1000000 in
set_option maxRecDepth 100000 in
theorem right_any (l : List Nat) (v : Value) (w : World) (h : LeftN w v l) (hlm : l.length ≤ 9223372036854775807) : Calls Try.prog 147 #[v] w fun e w' => e = .returned (.bool (decide (0 ≤ cnt l))) ∧ w = w' := by
  obtain ⟨a, c, rfl, hr, hc, hx⟩ := h
  have H0 : Hid (LeftN w (.slice a l.length c) l) := hid ⟨a, c, rfl, hr, hc, hx⟩
  clear hr hc hx
  go_enter Try.func147, Try.ntmps147
  go_wp2
  go_loop [0, 3, 4] (fun s _ _ => ∃ r : List Nat, Hid (LeftN w s r) ∧ r.length ≤ l.length ∧ Hid (decide (0 ≤ cnt l) = decide (0 ≤ cnt r))) (fun s _ _ => lenOfV s)
  case atStart => exact ⟨l, H0, Nat.le_refl _, hid rfl⟩
  case round =>
    obtain ⟨r, HL, hle, He⟩ := hrel
    obtain ⟨a', c', rfl, hr, hc, hx⟩ := HL.out
    clear HL
    by_cases h0 : r.length = 0
    · have he := He.out
      have hr0 : r = [] := List.eq_nil_of_length_eq_zero h0
      rw [hr0, show decide (0 ≤ cnt []) = true from rfl] at he
      have Hres := hid he
      have t : decide ((r.length : Int) > 0) = false := by simp; omega
      have t' : decide ((0 : Int) < r.length) = false := by simp; omega
      clear hr hx hr0 he
      go_wp2
      go_ret
      exact ⟨ret_bool Hres.out.symm, rfl⟩
    · have t' : decide ((0 : Int) < r.length) = true := by simp; omega
      have hne : r ≠ [] := fun e => h0 (by rw [e]; rfl)
      obtain ⟨b, off, ha⟩ := rdN_some hr (by omega)
      have hsnd := first_snd r
      have Hcut := hid (LeftN.cut (n := (firstP r).2) ha hr hc hx hsnd)
      have Hf := hid (first_any r a' c' w hx hr hc (by omega))
      have Hbad := hid (fun h => cnt_bad hne h)
      have Hst := hid (fun h => cnt_step hne h)
      subst ha
      clear hr hx hne
      obtain ⟨p, hp⟩ : ∃ p, firstP r = p := ⟨_, rfl⟩
      rw [hp] at Hcut Hf Hbad Hst hsnd
      obtain ⟨v, n⟩ := p
      simp only at Hcut Hf Hbad Hst hsnd
      clear hp
      go_wp2_with fail
      refine Hf.out.mono ?_
      rintro e w' ⟨rfl, rfl⟩
      by_cases hn : n = 0
      · subst hn
        have he := He.out
        rw [Hbad.out rfl] at he
        rw [show decide (0 ≤ (-1 : Int)) = false from rfl] at he
        have Hres := hid he
        clear he
        go_wp2
        go_ret
        exact ⟨ret_bool Hres.out.symm, rfl⟩
      · have t2 : ((n : Int) == 0) = false := beq_eq_false_iff_ne.2 (by omega)
        have hst := Hst.out hn
        have he2 : decide (0 ≤ cnt r) = decide (0 ≤ cnt (r.drop n)) := by
          rw [hst]
          have := cnt_ge (r.drop n)
          by_cases q : cnt (r.drop n) < 0
          · rw [if_pos q]; simp; omega
          · rw [if_neg q]; simp; omega
        have He2 : Hid (decide (0 ≤ cnt l) = decide (0 ≤ cnt (r.drop n))) := hid (He.out.trans he2)
        have Hlen : Hid ((r.drop n).length ≤ l.length) := hid (by rw [List.length_drop]; omega)
        clear hst he2 Hst Hbad
        by_cases hcn : c' = n
        · have hc2 := Hcut.out.2 hcn
          have Hc2 := hid hc2
          have hrn : r.length - n = 0 := by omega
          clear hc2
          subst hcn
          go_wp2
          go_round
          case rel => exact ⟨_, hid (Hc2.out _), Hlen.out, He2⟩
          case measure => simp [lenOfV]; omega
        · have Hc2 := hid (Hcut.out.1 hcn)
          go_wp2
          go_round
          case rel => exact ⟨_, hid Hc2.out, Hlen.out, He2⟩
          case measure => simp [lenOfV]; omega
end Go.Proofs.Ytcmdajkkdognfaa.Ut
