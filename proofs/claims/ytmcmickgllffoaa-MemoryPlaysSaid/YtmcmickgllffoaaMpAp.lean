/- What is proved here: a memory: parts. -/
import Derived.Test.YtmcmickgllffoaaMoBp
import Derived.Test.YtmcmickgllffoaaCwJp
import Derived.Test.YtmcmickgllffoaaSxTp
namespace Go.Proofs.Ytmcmickgllffoaa
open Go.RowKit
set_option linter.unusedVariables false
set_option linter.unusedSimpArgs false
set_option maxHeartbeats 400000 in
set_option maxRecDepth 100000 in
theorem awake26_any (w : World) : Calls Try.prog 56 #[] w fun e w' => e = .returned (.bool true) ∧ Below w.heap.size w w' := by
  go_enter Try.func56, Try.ntmps56
  go_wp2_with fail
  refine (mnew_any 1 2 w w.heap.size (Nat.le_refl _) (by omega) (by omega) (by omega)).mono ?_
  rintro e w1 ⟨⟨b, rfl, hb0, hm⟩, hb1⟩
  have hz := hb1.size
  have hl : (List.replicate (1 * 65536) (0 : Int)).length = 65536 := List.length_replicate ..
  generalize List.replicate (1 * 65536) (0 : Int) = L at *
  have f1 : growsB L 2 2 = false := by simp [growsB, hl]
  have f2 : growsB L 2 1 = true := by simp [growsB, hl]
  have HL := hid hl
  have Hm := hid hm
  have hg := hid (grow_any w.heap.size b 2 L 2 w1 (by omega) (by omega) (by omega) (by omega) (by omega) hm)
  clear hl hm
  go_wp2_with fail
  refine hg.out.mono ?_
  rw [f1]
  rintro e w2 ⟨rfl, hm2, hb2, -⟩
  have hz2 := hb2.size
  have hl2 := HL.out
  have hg2 := hid (grow_any w.heap.size b 1 L 2 w2 (by omega) (by omega) (by omega) (by omega) (by omega) hm2)
  have hpg : (L.length : Int) / 65536 = 1 := by omega
  clear hm2 hl2
  go_wp2_with fail
  refine hg2.out.mono ?_
  rw [f2, if_pos rfl, hpg]
  rintro e w3 ⟨rfl, hm3, hb3, -⟩
  have Hm3 := hid hm3
  clear hm3
  go_wp2
  go_ret
  exact ⟨rfl, (hb1.trans hb2).trans hb3⟩

abbrev MCe := Int × Int
def zCe : MCe := (0, 0)
def vCe : MCe → List Value := fun y => [.int .i64 y.1, .int .u8 y.2]
theorem oneCe : ∀ x, ∀ u ∈ vCe x, u.oneCell' = true := by
  intro x u hu
  simp only [vCe, List.mem_cons, List.not_mem_nil, or_false] at hu
  rcases hu with rfl | rfl <;> rfl
theorem r_agindex {P : Program} {L : List (Nat × Value)} {w : World} {d : Option Tmp} {ty : TypeId} {ps : String} {af : Array Edge} {g : Option (Nat × Bool)} {xt e nn : Nat} {x i : Operand} {k : IntKind} {I : Int} {j : Nat} {cs : Array Value} {v : Value} (hx : evO L x = some (.agg cs)) (hi : evO L i = some (.int k I)) (ht : P.underlying xt = some (.array nn e)) (he : P.plainKey e = true) (hs : (P.info? e).map (fun i => i.size) = some 1) (hj : I = j) (hlt : j < nn) (hc : cs[j]? = some v) :
    Runs P L ⟨d, .index xt x i, ty, ps, af, g⟩ w v w := by
  intro ρ hρ
  obtain ⟨ie, hie, hes⟩ : ∃ ie, P.info? e = some ie ∧ ie.size = 1 := by
    cases hh : P.info? e with
    | none => rw [hh] at hs; cases hs
    | some ie => rw [hh] at hs; exact ⟨ie, rfl, by simpa using hs⟩
  have hr : (0 : Int) ≤ I ∧ I < (nn : Int) := by omega
  have hp := run_part_plain (w := w) he hc
  subst hj
  simp [execOp, hρ x _ hx, hρ i _ hi, Instr.index, asIntOf, run_underlying ht, hr, sizeOf, typeInfo, hie, hes, hp]
  intro hz
  omega
/-- Where an access is, and whether it is there. -/
def plP (b o n s : Nat) : Nat × Bool := (b % 4294967296 + o % 4294967296, decide (b % 4294967296 + o % 4294967296 ≤ s ∧ n ≤ s - (b % 4294967296 + o % 4294967296)))
theorem plB {a b : Bool} (h : a = b) {x : Int} {w w' : World} {e : Ending} (h2 : e = .returned (.tuple #[.int .u64 x, .bool a]) ∧ Below w.heap.size w w') : e = .returned (.tuple #[.int .u64 x, .bool b]) ∧ Below w.heap.size w w' := by subst h; exact h2

set_option maxHeartbeats 1000000 in
set_option maxRecDepth 100000 in
theorem place_any (b o n s : Nat) (w : World) (hb0 : b < 18446744073709551616) (ho0 : o < 18446744073709551616) (hn0 : n ≤ 1000000) (hs0 : s ≤ 16777216) : Calls Try.prog 94 #[(.int .u64 ((b : Nat) : Int)), (.int .u64 ((o : Nat) : Int)), (.int .i64 ((n : Nat) : Int)), (.int .u64 ((s : Nat) : Int))] w fun e w' => e = .returned (.tuple #[.int .u64 (((plP b o n s).1 : Nat) : Int), .bool (plP b o n s).2]) ∧ Below w.heap.size w w' := by
  refine sx_enter (L := [(0, (.int .u64 ((b : Nat) : Int))), (1, (.int .u64 ((o : Nat) : Int))), (2, (.int .i64 ((n : Nat) : Int))), (3, (.int .u64 ((s : Nat) : Int)))]) Try.func94 rfl rfl rfl rfl (fun fa hf => ?_)
  have hb : Below w.heap.size w w := Below.refl _ _
  refine wp_seq_k (fun K1 hK1 => ?_)
  refine wp_region_lit ?_
  refine sqv hf (r_assign rfl) rfl rfl rfl ?_; clear hf fa; intro fa hf
  refine sqv hf (r_assign rfl) rfl rfl rfl ?_; clear hf fa; intro fa hf
  apply wpList_nil
  (try simp only [Exit.then, Exit.inBlock, ↓reduceIte, Nat.reduceEqDiff])
  refine hK1 _ _ ?_
  refine wp_seq_k (fun K2 hK2 => ?_)
  refine wp_region_lit ?_
  refine sqv hf (r_move rfl) rfl rfl rfl ?_; clear hf fa; intro fa hf
  refine sqv hf (r_conv (C := (((b % 4294967296) : Nat) : Int)) rfl Try.underlying26 Try.underlying144 (by rw [IntKind.wrap_u32]; omega)) rfl rfl rfl ?_; clear hf fa; intro fa hf
  refine sqv hf (r_conv (C := (((b % 4294967296) : Nat) : Int)) rfl Try.underlying144 Try.underlying26 (by rw [IntKind.wrap_u64]; omega)) rfl rfl rfl ?_; clear hf fa; intro fa hf
  refine sqv hf (r_move rfl) rfl rfl rfl ?_; clear hf fa; intro fa hf
  refine sqv hf (r_conv (C := (((o % 4294967296) : Nat) : Int)) rfl Try.underlying26 Try.underlying144 (by rw [IntKind.wrap_u32]; omega)) rfl rfl rfl ?_; clear hf fa; intro fa hf
  refine sqv hf (r_conv (C := (((o % 4294967296) : Nat) : Int)) rfl Try.underlying144 Try.underlying26 (by rw [IntKind.wrap_u64]; omega)) rfl rfl rfl ?_; clear hf fa; intro fa hf
  refine sqv hf (r_add (C := (((b % 4294967296 + o % 4294967296) : Nat) : Int)) rfl rfl (by rw [IntKind.wrap_u64]; omega)) rfl rfl rfl ?_; clear hf fa; intro fa hf
  refine sqv hf (r_assign rfl) rfl rfl rfl ?_; clear hf fa; intro fa hf
  apply wpList_nil
  (try simp only [Exit.then, Exit.inBlock, ↓reduceIte, Nat.reduceEqDiff])
  refine hK2 _ _ ?_
  refine wp_seq_k (fun K3 hK3 => ?_)
  refine wp_region_lit ?_
  refine sqv hf (r_move rfl) rfl rfl rfl ?_; clear hf fa; intro fa hf
  refine sqv hf (r_move rfl) rfl rfl rfl ?_; clear hf fa; intro fa hf
  refine sqv hf (r_ge rfl rfl) rfl rfl rfl ?_; clear hf fa; intro fa hf
  refine sqv hf (r_move rfl) rfl rfl rfl ?_; clear hf fa; intro fa hf
  refine sqgT (act := (decide ((0 : Int) ≤ ((n : Nat) : Int)))) (ag := true) (c := (decide ((0 : Int) ≤ ((n : Nat) : Int)))) (v := (.int .u64 (((b % 4294967296 + o % 4294967296) : Nat) : Int))) hf rfl rfl rfl (fun hact => (r_move rfl)) rfl rfl ?_; clear hf fa; intro fa hf
  refine sqgT (act := (decide ((0 : Int) ≤ ((n : Nat) : Int)))) (ag := true) (c := (decide ((0 : Int) ≤ ((n : Nat) : Int)))) (v := (.int .u64 ((s : Nat) : Int))) hf rfl rfl rfl (fun hact => (r_move rfl)) rfl rfl ?_; clear hf fa; intro fa hf
  refine sqgT (act := (decide ((0 : Int) ≤ ((n : Nat) : Int)))) (ag := true) (c := (decide ((0 : Int) ≤ ((n : Nat) : Int)))) (v := (.bool (decide ((((b % 4294967296 + o % 4294967296) : Nat) : Int) ≤ ((s : Nat) : Int))))) hf rfl rfl rfl (fun hact => (r_le (gb_ev hact rfl) (gb_ev hact rfl))) rfl rfl ?_; clear hf fa; intro fa hf
  refine sqv hf (r_pickA (b := (decide ((0 : Int) ≤ ((n : Nat) : Int)))) (e := (decide ((((b % 4294967296 + o % 4294967296) : Nat) : Int) ≤ ((s : Nat) : Int)))) rfl rfl rfl) rfl rfl rfl ?_; clear hf fa; intro fa hf
  refine sqv hf (r_move rfl) rfl rfl rfl ?_; clear hf fa; intro fa hf
  refine sqgT (act := ((decide ((0 : Int) ≤ ((n : Nat) : Int))) && (decide ((((b % 4294967296 + o % 4294967296) : Nat) : Int) ≤ ((s : Nat) : Int))))) (ag := true) (c := ((decide ((0 : Int) ≤ ((n : Nat) : Int))) && (decide ((((b % 4294967296 + o % 4294967296) : Nat) : Int) ≤ ((s : Nat) : Int))))) (v := (.int .i64 ((n : Nat) : Int))) hf rfl rfl rfl (fun hact => (r_move rfl)) rfl rfl ?_; clear hf fa; intro fa hf
  refine sqgT (act := ((decide ((0 : Int) ≤ ((n : Nat) : Int))) && (decide ((((b % 4294967296 + o % 4294967296) : Nat) : Int) ≤ ((s : Nat) : Int))))) (ag := true) (c := ((decide ((0 : Int) ≤ ((n : Nat) : Int))) && (decide ((((b % 4294967296 + o % 4294967296) : Nat) : Int) ≤ ((s : Nat) : Int))))) (v := (.int .u64 ((n : Nat) : Int))) hf rfl rfl rfl (fun hact => (by have hact0 := hact; (try simp only [Bool.and_eq_true, Bool.not_eq_true', Bool.or_eq_false_iff, Bool.or_eq_true, Bool.and_eq_false_iff, ne_eq, decide_eq_true_eq, decide_eq_false_iff_not] at hact0); exact (r_conv (C := ((n : Nat) : Int)) (gb_ev hact rfl) Try.underlying3 Try.underlying26 (by rw [IntKind.wrap_u64]; omega)))) rfl rfl ?_; clear hf fa; intro fa hf
  refine sqgT (act := ((decide ((0 : Int) ≤ ((n : Nat) : Int))) && (decide ((((b % 4294967296 + o % 4294967296) : Nat) : Int) ≤ ((s : Nat) : Int))))) (ag := true) (c := ((decide ((0 : Int) ≤ ((n : Nat) : Int))) && (decide ((((b % 4294967296 + o % 4294967296) : Nat) : Int) ≤ ((s : Nat) : Int))))) (v := (.int .u64 ((s : Nat) : Int))) hf rfl rfl rfl (fun hact => (r_move rfl)) rfl rfl ?_; clear hf fa; intro fa hf
  refine sqgT (act := ((decide ((0 : Int) ≤ ((n : Nat) : Int))) && (decide ((((b % 4294967296 + o % 4294967296) : Nat) : Int) ≤ ((s : Nat) : Int))))) (ag := true) (c := ((decide ((0 : Int) ≤ ((n : Nat) : Int))) && (decide ((((b % 4294967296 + o % 4294967296) : Nat) : Int) ≤ ((s : Nat) : Int))))) (v := (.int .u64 (((b % 4294967296 + o % 4294967296) : Nat) : Int))) hf rfl rfl rfl (fun hact => (r_move rfl)) rfl rfl ?_; clear hf fa; intro fa hf
  refine sqgT (act := ((decide ((0 : Int) ≤ ((n : Nat) : Int))) && (decide ((((b % 4294967296 + o % 4294967296) : Nat) : Int) ≤ ((s : Nat) : Int))))) (ag := true) (c := ((decide ((0 : Int) ≤ ((n : Nat) : Int))) && (decide ((((b % 4294967296 + o % 4294967296) : Nat) : Int) ≤ ((s : Nat) : Int))))) (v := (.int .u64 (((s : Nat) : Int) - (((b % 4294967296 + o % 4294967296) : Nat) : Int)))) hf rfl rfl rfl (fun hact => (by have hact0 := hact; (try simp only [Bool.and_eq_true, Bool.not_eq_true', Bool.or_eq_false_iff, Bool.or_eq_true, Bool.and_eq_false_iff, ne_eq, decide_eq_true_eq, decide_eq_false_iff_not] at hact0); exact (r_sub (C := (((s : Nat) : Int) - (((b % 4294967296 + o % 4294967296) : Nat) : Int))) (gb_ev hact rfl) (gb_ev hact rfl) (by rw [IntKind.wrap_u64]; omega)))) rfl rfl ?_; clear hf fa; intro fa hf
  refine sqgT (act := ((decide ((0 : Int) ≤ ((n : Nat) : Int))) && (decide ((((b % 4294967296 + o % 4294967296) : Nat) : Int) ≤ ((s : Nat) : Int))))) (ag := true) (c := ((decide ((0 : Int) ≤ ((n : Nat) : Int))) && (decide ((((b % 4294967296 + o % 4294967296) : Nat) : Int) ≤ ((s : Nat) : Int))))) (v := (.bool (decide (((n : Nat) : Int) ≤ (((s : Nat) : Int) - (((b % 4294967296 + o % 4294967296) : Nat) : Int)))))) hf rfl rfl rfl (fun hact => (r_le (gb_ev hact rfl) (gb_ev hact rfl))) rfl rfl ?_; clear hf fa; intro fa hf
  refine sqv hf (r_pickA (b := ((decide ((0 : Int) ≤ ((n : Nat) : Int))) && (decide ((((b % 4294967296 + o % 4294967296) : Nat) : Int) ≤ ((s : Nat) : Int))))) (e := (decide (((n : Nat) : Int) ≤ (((s : Nat) : Int) - (((b % 4294967296 + o % 4294967296) : Nat) : Int))))) rfl rfl rfl) rfl rfl rfl ?_; clear hf fa; intro fa hf
  refine sqv hf (r_assign rfl) rfl rfl rfl ?_; clear hf fa; intro fa hf
  refine sqv hf (r_assign rfl) rfl rfl rfl ?_; clear hf fa; intro fa hf
  apply wpList_nil
  (try simp only [Exit.then, Exit.inBlock, ↓reduceIte, Nat.reduceEqDiff])
  refine hK3 _ _ ?_
  refine wp_ret ?_
  (try simp only [Exit.then, Exit.inBlock])
  refine ret2 hf rfl rfl rfl ?_
  exact plB (a := (((decide ((0 : Int) ≤ ((n : Nat) : Int))) && (decide ((((b % 4294967296 + o % 4294967296) : Nat) : Int) ≤ ((s : Nat) : Int)))) && (decide (((n : Nat) : Int) ≤ (((s : Nat) : Int) - (((b % 4294967296 + o % 4294967296) : Nat) : Int)))))) (by unfold plP; rw [Bool.eq_iff_iff]; simp only [Bool.and_eq_true, decide_eq_true_eq]; omega) ⟨by unfold plP; rfl, hb⟩

set_option maxHeartbeats 1000000 in
set_option maxRecDepth 100000 in
theorem rplace_any (b o n s : Nat) (w : World) (hb0 : b < 18446744073709551616) (ho0 : o < 18446744073709551616) (hn0 : n ≤ 1000000) (hs0 : s ≤ 16777216) : Calls Try.prog 91 #[(.int .u64 ((b : Nat) : Int)), (.int .u64 ((o : Nat) : Int)), (.int .i64 ((n : Nat) : Int)), (.int .u64 ((s : Nat) : Int))] w fun e w' => e = .returned (.tuple #[.int .u64 (((plP b o n s).1 : Nat) : Int), .bool (plP b o n s).2]) ∧ Below w.heap.size w w' := by
  refine sx_enter (L := [(0, (.int .u64 ((b : Nat) : Int))), (1, (.int .u64 ((o : Nat) : Int))), (2, (.int .i64 ((n : Nat) : Int))), (3, (.int .u64 ((s : Nat) : Int)))]) Try.func91 rfl rfl rfl rfl (fun fa hf => ?_)
  have hb : Below w.heap.size w w := Below.refl _ _
  refine wp_seq_k (fun K1 hK1 => ?_)
  refine wp_region_lit ?_
  refine sqv hf (r_assign rfl) rfl rfl rfl ?_; clear hf fa; intro fa hf
  refine sqv hf (r_assign rfl) rfl rfl rfl ?_; clear hf fa; intro fa hf
  apply wpList_nil
  (try simp only [Exit.then, Exit.inBlock, ↓reduceIte, Nat.reduceEqDiff])
  refine hK1 _ _ ?_
  refine wp_seq_k (fun K2 hK2 => ?_)
  refine wp_region_lit ?_
  refine sqv hf (r_move rfl) rfl rfl rfl ?_; clear hf fa; intro fa hf
  refine sqdt hf (d_callB (vs := [(.int .u64 ((b : Nat) : Int)), (.int .i64 (32 : Int))]) rfl Try.func74 (by kernel_rfl) (by kernel_rfl) (low32_any b _ (by omega))) rfl rfl rfl ?_; clear hf fa; rintro fa _ w1 ⟨rfl, he1⟩ hf
  replace hb := hb.trans (Below.mono he1 hb.size)
  refine sqv hf (r_move rfl) rfl rfl rfl ?_; clear hf fa; intro fa hf
  refine sqdt hf (d_callB (vs := [(.int .u64 ((o : Nat) : Int)), (.int .i64 (32 : Int))]) rfl Try.func74 (by kernel_rfl) (by kernel_rfl) (low32_any o _ (by omega))) rfl rfl rfl ?_; clear hf fa; rintro fa _ w2 ⟨rfl, he2⟩ hf
  replace hb := hb.trans (Below.mono he2 hb.size)
  refine sqv hf (r_add (C := (((b % 4294967296 + o % 4294967296) : Nat) : Int)) rfl rfl (by rw [IntKind.wrap_u64]; omega)) rfl rfl rfl ?_; clear hf fa; intro fa hf
  refine sqv hf (r_assign rfl) rfl rfl rfl ?_; clear hf fa; intro fa hf
  apply wpList_nil
  (try simp only [Exit.then, Exit.inBlock, ↓reduceIte, Nat.reduceEqDiff])
  refine hK2 _ _ ?_
  refine wp_seq_k (fun K3 hK3 => ?_)
  refine wp_region_lit ?_
  refine sqv hf (r_move rfl) rfl rfl rfl ?_; clear hf fa; intro fa hf
  refine sqv hf (r_move rfl) rfl rfl rfl ?_; clear hf fa; intro fa hf
  refine sqv hf (r_ge rfl rfl) rfl rfl rfl ?_; clear hf fa; intro fa hf
  refine sqv hf (r_move rfl) rfl rfl rfl ?_; clear hf fa; intro fa hf
  refine sqgT (act := (decide ((0 : Int) ≤ ((n : Nat) : Int)))) (ag := true) (c := (decide ((0 : Int) ≤ ((n : Nat) : Int)))) (v := (.int .u64 (((b % 4294967296 + o % 4294967296) : Nat) : Int))) hf rfl rfl rfl (fun hact => (r_move rfl)) rfl rfl ?_; clear hf fa; intro fa hf
  refine sqgT (act := (decide ((0 : Int) ≤ ((n : Nat) : Int)))) (ag := true) (c := (decide ((0 : Int) ≤ ((n : Nat) : Int)))) (v := (.int .u64 ((s : Nat) : Int))) hf rfl rfl rfl (fun hact => (r_move rfl)) rfl rfl ?_; clear hf fa; intro fa hf
  refine sqgT (act := (decide ((0 : Int) ≤ ((n : Nat) : Int)))) (ag := true) (c := (decide ((0 : Int) ≤ ((n : Nat) : Int)))) (v := (.bool (decide ((((b % 4294967296 + o % 4294967296) : Nat) : Int) ≤ ((s : Nat) : Int))))) hf rfl rfl rfl (fun hact => (r_le (gb_ev hact rfl) (gb_ev hact rfl))) rfl rfl ?_; clear hf fa; intro fa hf
  refine sqv hf (r_pickA (b := (decide ((0 : Int) ≤ ((n : Nat) : Int)))) (e := (decide ((((b % 4294967296 + o % 4294967296) : Nat) : Int) ≤ ((s : Nat) : Int)))) rfl rfl rfl) rfl rfl rfl ?_; clear hf fa; intro fa hf
  refine sqv hf (r_move rfl) rfl rfl rfl ?_; clear hf fa; intro fa hf
  refine sqgT (act := ((decide ((0 : Int) ≤ ((n : Nat) : Int))) && (decide ((((b % 4294967296 + o % 4294967296) : Nat) : Int) ≤ ((s : Nat) : Int))))) (ag := true) (c := ((decide ((0 : Int) ≤ ((n : Nat) : Int))) && (decide ((((b % 4294967296 + o % 4294967296) : Nat) : Int) ≤ ((s : Nat) : Int))))) (v := (.int .i64 ((n : Nat) : Int))) hf rfl rfl rfl (fun hact => (r_move rfl)) rfl rfl ?_; clear hf fa; intro fa hf
  refine sqgT (act := ((decide ((0 : Int) ≤ ((n : Nat) : Int))) && (decide ((((b % 4294967296 + o % 4294967296) : Nat) : Int) ≤ ((s : Nat) : Int))))) (ag := true) (c := ((decide ((0 : Int) ≤ ((n : Nat) : Int))) && (decide ((((b % 4294967296 + o % 4294967296) : Nat) : Int) ≤ ((s : Nat) : Int))))) (v := (.int .u64 ((n : Nat) : Int))) hf rfl rfl rfl (fun hact => (by have hact0 := hact; (try simp only [Bool.and_eq_true, Bool.not_eq_true', Bool.or_eq_false_iff, Bool.or_eq_true, Bool.and_eq_false_iff, ne_eq, decide_eq_true_eq, decide_eq_false_iff_not] at hact0); exact (r_conv (C := ((n : Nat) : Int)) (gb_ev hact rfl) Try.underlying3 Try.underlying26 (by rw [IntKind.wrap_u64]; omega)))) rfl rfl ?_; clear hf fa; intro fa hf
  refine sqgT (act := ((decide ((0 : Int) ≤ ((n : Nat) : Int))) && (decide ((((b % 4294967296 + o % 4294967296) : Nat) : Int) ≤ ((s : Nat) : Int))))) (ag := true) (c := ((decide ((0 : Int) ≤ ((n : Nat) : Int))) && (decide ((((b % 4294967296 + o % 4294967296) : Nat) : Int) ≤ ((s : Nat) : Int))))) (v := (.int .u64 ((s : Nat) : Int))) hf rfl rfl rfl (fun hact => (r_move rfl)) rfl rfl ?_; clear hf fa; intro fa hf
  refine sqgT (act := ((decide ((0 : Int) ≤ ((n : Nat) : Int))) && (decide ((((b % 4294967296 + o % 4294967296) : Nat) : Int) ≤ ((s : Nat) : Int))))) (ag := true) (c := ((decide ((0 : Int) ≤ ((n : Nat) : Int))) && (decide ((((b % 4294967296 + o % 4294967296) : Nat) : Int) ≤ ((s : Nat) : Int))))) (v := (.int .u64 (((b % 4294967296 + o % 4294967296) : Nat) : Int))) hf rfl rfl rfl (fun hact => (r_move rfl)) rfl rfl ?_; clear hf fa; intro fa hf
  refine sqgT (act := ((decide ((0 : Int) ≤ ((n : Nat) : Int))) && (decide ((((b % 4294967296 + o % 4294967296) : Nat) : Int) ≤ ((s : Nat) : Int))))) (ag := true) (c := ((decide ((0 : Int) ≤ ((n : Nat) : Int))) && (decide ((((b % 4294967296 + o % 4294967296) : Nat) : Int) ≤ ((s : Nat) : Int))))) (v := (.int .u64 (((s : Nat) : Int) - (((b % 4294967296 + o % 4294967296) : Nat) : Int)))) hf rfl rfl rfl (fun hact => (by have hact0 := hact; (try simp only [Bool.and_eq_true, Bool.not_eq_true', Bool.or_eq_false_iff, Bool.or_eq_true, Bool.and_eq_false_iff, ne_eq, decide_eq_true_eq, decide_eq_false_iff_not] at hact0); exact (r_sub (C := (((s : Nat) : Int) - (((b % 4294967296 + o % 4294967296) : Nat) : Int))) (gb_ev hact rfl) (gb_ev hact rfl) (by rw [IntKind.wrap_u64]; omega)))) rfl rfl ?_; clear hf fa; intro fa hf
  refine sqgT (act := ((decide ((0 : Int) ≤ ((n : Nat) : Int))) && (decide ((((b % 4294967296 + o % 4294967296) : Nat) : Int) ≤ ((s : Nat) : Int))))) (ag := true) (c := ((decide ((0 : Int) ≤ ((n : Nat) : Int))) && (decide ((((b % 4294967296 + o % 4294967296) : Nat) : Int) ≤ ((s : Nat) : Int))))) (v := (.bool (decide (((n : Nat) : Int) ≤ (((s : Nat) : Int) - (((b % 4294967296 + o % 4294967296) : Nat) : Int)))))) hf rfl rfl rfl (fun hact => (r_le (gb_ev hact rfl) (gb_ev hact rfl))) rfl rfl ?_; clear hf fa; intro fa hf
  refine sqv hf (r_pickA (b := ((decide ((0 : Int) ≤ ((n : Nat) : Int))) && (decide ((((b % 4294967296 + o % 4294967296) : Nat) : Int) ≤ ((s : Nat) : Int))))) (e := (decide (((n : Nat) : Int) ≤ (((s : Nat) : Int) - (((b % 4294967296 + o % 4294967296) : Nat) : Int))))) rfl rfl rfl) rfl rfl rfl ?_; clear hf fa; intro fa hf
  refine sqv hf (r_assign rfl) rfl rfl rfl ?_; clear hf fa; intro fa hf
  refine sqv hf (r_assign rfl) rfl rfl rfl ?_; clear hf fa; intro fa hf
  apply wpList_nil
  (try simp only [Exit.then, Exit.inBlock, ↓reduceIte, Nat.reduceEqDiff])
  refine hK3 _ _ ?_
  refine wp_ret ?_
  (try simp only [Exit.then, Exit.inBlock])
  refine ret2 hf rfl rfl rfl ?_
  exact plB (a := (((decide ((0 : Int) ≤ ((n : Nat) : Int))) && (decide ((((b % 4294967296 + o % 4294967296) : Nat) : Int) ≤ ((s : Nat) : Int)))) && (decide (((n : Nat) : Int) ≤ (((s : Nat) : Int) - (((b % 4294967296 + o % 4294967296) : Nat) : Int)))))) (by unfold plP; rw [Bool.eq_iff_iff]; simp only [Bool.and_eq_true, decide_eq_true_eq]; omega) ⟨by unfold plP; rfl, hb⟩

def inP (ln : Nat) (at' : Nat) (n : Int) : Bool := decide (0 ≤ n ∧ at' ≤ ln ∧ n ≤ ((ln : Nat) : Int) - ((at' : Nat) : Int))
theorem boolB {a b : Bool} (h : a = b) {w w' : World} {e : Ending} (h2 : e = .returned (.bool a) ∧ Below w.heap.size w w') : e = .returned (.bool b) ∧ Below w.heap.size w w' := by subst h; exact h2

set_option maxHeartbeats 1000000 in
set_option maxRecDepth 100000 in
theorem rin_any (ln : Nat) (mo : Int) (ca : Option Addr) (C : List MCe) (cc : Nat) (w : World) (hC : RdS 2 vCe w ca C) (hln : ln ≤ 16777216) (hCl : C.length ≤ 1000000) (k : Nat) (n : Int) (hk : k < 18446744073709551616) (hn : -9223372036854775808 ≤ n ∧ n < 9223372036854775808) : Calls Try.prog 78 #[(.agg #[(.int .i64 ((ln : Nat) : Int)), (.int .i64 mo), (.slice ca C.length cc)]), (.int .u64 ((k : Nat) : Int)), (.int .i64 n)] w fun e w' => e = .returned (.bool (inP ln k n)) ∧ Below w.heap.size w w' := by
  refine sx_enter (L := [(0, (.agg #[(.int .i64 ((ln : Nat) : Int)), (.int .i64 mo), (.slice ca C.length cc)])), (1, (.int .u64 ((k : Nat) : Int))), (2, (.int .i64 n))]) Try.func78 rfl rfl rfl rfl (fun fa hf => ?_)
  have hb : Below w.heap.size w w := Below.refl _ _
  refine wp_seq_k (fun K1 hK1 => ?_)
  refine wp_region_lit ?_
  refine sqdt hf (d_box (cs := #[(.int .i64 ((ln : Nat) : Int)), (.int .i64 mo), (.slice ca C.length cc)]) rfl rfl) rfl rfl rfl ?_; clear hf fa; rintro fa _ w1 ⟨b1, rfl, hle1, hk1, he1⟩ hf
  have hBb1 : w.heap.size ≤ b1 := Nat.le_trans hb.size hle1
  replace hb := hb.trans (Below.mono he1 hb.size)
  refine sqv hf (r_assign rfl) rfl rfl rfl ?_; clear hf fa; intro fa hf
  apply wpList_nil
  (try simp only [Exit.then, Exit.inBlock, ↓reduceIte, Nat.reduceEqDiff])
  refine hK1 _ _ ?_
  refine wp_seq_k (fun K2 hK2 => ?_)
  refine wp_region_lit ?_
  refine sqv hf (r_move rfl) rfl rfl rfl ?_; clear hf fa; intro fa hf
  refine sqv hf (r_ge rfl rfl) rfl rfl rfl ?_; clear hf fa; intro fa hf
  refine sqv hf (r_move rfl) rfl rfl rfl ?_; clear hf fa; intro fa hf
  refine sqgT (act := (decide ((0 : Int) ≤ n))) (ag := true) (c := (decide ((0 : Int) ≤ n))) (v := (.int .u64 ((k : Nat) : Int))) hf rfl rfl rfl (fun hact => (r_move rfl)) rfl rfl ?_; clear hf fa; intro fa hf
  refine sqgT (act := (decide ((0 : Int) ≤ n))) (ag := true) (c := (decide ((0 : Int) ≤ n))) (v := (.pointer (some ⟨b1, 0, none⟩))) hf rfl rfl rfl (fun hact => (r_fa rfl Try.underlying111 (f := 0) (q := 0) rfl (by kernel_rfl) rfl)) rfl rfl ?_; clear hf fa; intro fa hf
  refine sqgT (act := (decide ((0 : Int) ≤ n))) (ag := true) (c := (decide ((0 : Int) ≤ n))) (v := (.int .i64 ((ln : Nat) : Int))) hf rfl rfl rfl (fun hact => (r_load (v := (.int .i64 ((ln : Nat) : Int))) (gb_ev hact rfl) Try.underlying3 rfl (cell_blk hk1 rfl))) rfl rfl ?_; clear hf fa; intro fa hf
  refine sqgT (act := (decide ((0 : Int) ≤ n))) (ag := true) (c := (decide ((0 : Int) ≤ n))) (v := (.int .u64 ((ln : Nat) : Int))) hf rfl rfl rfl (fun hact => (by have hact0 := hact; (try simp only [Bool.and_eq_true, Bool.not_eq_true', Bool.or_eq_false_iff, Bool.or_eq_true, Bool.and_eq_false_iff, ne_eq, decide_eq_true_eq, decide_eq_false_iff_not] at hact0); exact (r_conv (C := ((ln : Nat) : Int)) (gb_ev hact rfl) Try.underlying3 Try.underlying26 (by rw [IntKind.wrap_u64]; omega)))) rfl rfl ?_; clear hf fa; intro fa hf
  refine sqgT (act := (decide ((0 : Int) ≤ n))) (ag := true) (c := (decide ((0 : Int) ≤ n))) (v := (.bool (decide (((k : Nat) : Int) ≤ ((ln : Nat) : Int))))) hf rfl rfl rfl (fun hact => (r_le (gb_ev hact rfl) (gb_ev hact rfl))) rfl rfl ?_; clear hf fa; intro fa hf
  refine sqv hf (r_pickA (b := (decide ((0 : Int) ≤ n))) (e := (decide (((k : Nat) : Int) ≤ ((ln : Nat) : Int)))) rfl rfl rfl) rfl rfl rfl ?_; clear hf fa; intro fa hf
  refine sqv hf (r_move rfl) rfl rfl rfl ?_; clear hf fa; intro fa hf
  refine sqgT (act := ((decide ((0 : Int) ≤ n)) && (decide (((k : Nat) : Int) ≤ ((ln : Nat) : Int))))) (ag := true) (c := ((decide ((0 : Int) ≤ n)) && (decide (((k : Nat) : Int) ≤ ((ln : Nat) : Int))))) (v := (.int .i64 n)) hf rfl rfl rfl (fun hact => (r_move rfl)) rfl rfl ?_; clear hf fa; intro fa hf
  refine sqgT (act := ((decide ((0 : Int) ≤ n)) && (decide (((k : Nat) : Int) ≤ ((ln : Nat) : Int))))) (ag := true) (c := ((decide ((0 : Int) ≤ n)) && (decide (((k : Nat) : Int) ≤ ((ln : Nat) : Int))))) (v := (.int .u64 n)) hf rfl rfl rfl (fun hact => (by have hact0 := hact; (try simp only [Bool.and_eq_true, Bool.not_eq_true', Bool.or_eq_false_iff, Bool.or_eq_true, Bool.and_eq_false_iff, ne_eq, decide_eq_true_eq, decide_eq_false_iff_not] at hact0); exact (r_conv (C := n) (gb_ev hact rfl) Try.underlying3 Try.underlying26 (by rw [IntKind.wrap_u64]; omega)))) rfl rfl ?_; clear hf fa; intro fa hf
  refine sqgT (act := ((decide ((0 : Int) ≤ n)) && (decide (((k : Nat) : Int) ≤ ((ln : Nat) : Int))))) (ag := true) (c := ((decide ((0 : Int) ≤ n)) && (decide (((k : Nat) : Int) ≤ ((ln : Nat) : Int))))) (v := (.pointer (some ⟨b1, 0, none⟩))) hf rfl rfl rfl (fun hact => (r_fa rfl Try.underlying111 (f := 0) (q := 0) rfl (by kernel_rfl) rfl)) rfl rfl ?_; clear hf fa; intro fa hf
  refine sqgT (act := ((decide ((0 : Int) ≤ n)) && (decide (((k : Nat) : Int) ≤ ((ln : Nat) : Int))))) (ag := true) (c := ((decide ((0 : Int) ≤ n)) && (decide (((k : Nat) : Int) ≤ ((ln : Nat) : Int))))) (v := (.int .i64 ((ln : Nat) : Int))) hf rfl rfl rfl (fun hact => (r_load (v := (.int .i64 ((ln : Nat) : Int))) (gb_ev hact rfl) Try.underlying3 rfl (cell_blk hk1 rfl))) rfl rfl ?_; clear hf fa; intro fa hf
  refine sqgT (act := ((decide ((0 : Int) ≤ n)) && (decide (((k : Nat) : Int) ≤ ((ln : Nat) : Int))))) (ag := true) (c := ((decide ((0 : Int) ≤ n)) && (decide (((k : Nat) : Int) ≤ ((ln : Nat) : Int))))) (v := (.int .u64 ((ln : Nat) : Int))) hf rfl rfl rfl (fun hact => (by have hact0 := hact; (try simp only [Bool.and_eq_true, Bool.not_eq_true', Bool.or_eq_false_iff, Bool.or_eq_true, Bool.and_eq_false_iff, ne_eq, decide_eq_true_eq, decide_eq_false_iff_not] at hact0); exact (r_conv (C := ((ln : Nat) : Int)) (gb_ev hact rfl) Try.underlying3 Try.underlying26 (by rw [IntKind.wrap_u64]; omega)))) rfl rfl ?_; clear hf fa; intro fa hf
  refine sqgT (act := ((decide ((0 : Int) ≤ n)) && (decide (((k : Nat) : Int) ≤ ((ln : Nat) : Int))))) (ag := true) (c := ((decide ((0 : Int) ≤ n)) && (decide (((k : Nat) : Int) ≤ ((ln : Nat) : Int))))) (v := (.int .u64 ((k : Nat) : Int))) hf rfl rfl rfl (fun hact => (r_move rfl)) rfl rfl ?_; clear hf fa; intro fa hf
  refine sqgT (act := ((decide ((0 : Int) ≤ n)) && (decide (((k : Nat) : Int) ≤ ((ln : Nat) : Int))))) (ag := true) (c := ((decide ((0 : Int) ≤ n)) && (decide (((k : Nat) : Int) ≤ ((ln : Nat) : Int))))) (v := (.int .u64 (((ln : Nat) : Int) - ((k : Nat) : Int)))) hf rfl rfl rfl (fun hact => (by have hact0 := hact; (try simp only [Bool.and_eq_true, Bool.not_eq_true', Bool.or_eq_false_iff, Bool.or_eq_true, Bool.and_eq_false_iff, ne_eq, decide_eq_true_eq, decide_eq_false_iff_not] at hact0); exact (r_sub (C := (((ln : Nat) : Int) - ((k : Nat) : Int))) (gb_ev hact rfl) (gb_ev hact rfl) (by rw [IntKind.wrap_u64]; omega)))) rfl rfl ?_; clear hf fa; intro fa hf
  refine sqgT (act := ((decide ((0 : Int) ≤ n)) && (decide (((k : Nat) : Int) ≤ ((ln : Nat) : Int))))) (ag := true) (c := ((decide ((0 : Int) ≤ n)) && (decide (((k : Nat) : Int) ≤ ((ln : Nat) : Int))))) (v := (.bool (decide (n ≤ (((ln : Nat) : Int) - ((k : Nat) : Int)))))) hf rfl rfl rfl (fun hact => (r_le (gb_ev hact rfl) (gb_ev hact rfl))) rfl rfl ?_; clear hf fa; intro fa hf
  refine sqv hf (r_pickA (b := ((decide ((0 : Int) ≤ n)) && (decide (((k : Nat) : Int) ≤ ((ln : Nat) : Int))))) (e := (decide (n ≤ (((ln : Nat) : Int) - ((k : Nat) : Int))))) rfl rfl rfl) rfl rfl rfl ?_; clear hf fa; intro fa hf
  refine sqv hf (r_assign rfl) rfl rfl rfl ?_; clear hf fa; intro fa hf
  apply wpList_nil
  (try simp only [Exit.then, Exit.inBlock, ↓reduceIte, Nat.reduceEqDiff])
  refine hK2 _ _ ?_
  refine wp_ret ?_
  (try simp only [Exit.then, Exit.inBlock])
  refine ret1 hf rfl rfl ?_
  exact boolB (a := (((decide ((0 : Int) ≤ n)) && (decide (((k : Nat) : Int) ≤ ((ln : Nat) : Int)))) && (decide (n ≤ (((ln : Nat) : Int) - ((k : Nat) : Int)))))) (by unfold inP; rw [Bool.eq_iff_iff]; simp only [Bool.and_eq_true, decide_eq_true_eq]; omega) ⟨rfl, hb⟩

/-- What the cells say of a place: the last one counts. -/
def atP (C : List MCe) (i : Int) : Int := C.foldl (fun v c => if c.1 = i then c.2 else v) 0
theorem atP_snoc (C : List MCe) (c : MCe) (i : Int) : atP (C ++ [c]) i = if c.1 = i then c.2 else atP C i := by unfold atP; rw [List.foldl_append]; rfl
theorem atP_take {C : List MCe} {j : Nat} {c : MCe} (h : C[j]? = some c) (i : Int) : atP (C.take (j + 1)) i = if c.1 = i then c.2 else atP (C.take j) i := by
  rw [List.take_add_one, h]
  exact atP_snoc _ _ _

set_option maxHeartbeats 1000000 in
set_option maxRecDepth 100000 in
theorem rat_any (ln : Nat) (mo : Int) (ca : Option Addr) (C : List MCe) (cc : Nat) (w : World) (hC : RdS 2 vCe w ca C) (hln : ln ≤ 16777216) (hCl : C.length ≤ 1000000) (i : Int) : Calls Try.prog 89 #[(.agg #[(.int .i64 ((ln : Nat) : Int)), (.int .i64 mo), (.slice ca C.length cc)]), (.int .i64 i)] w fun e w' => e = .returned (.int .u8 (atP C i)) ∧ Below w.heap.size w w' := by
  refine sx_enter (L := [(0, (.agg #[(.int .i64 ((ln : Nat) : Int)), (.int .i64 mo), (.slice ca C.length cc)])), (1, (.int .i64 i))]) Try.func89 rfl rfl rfl rfl (fun fa hf => ?_)
  have hb : Below w.heap.size w w := Below.refl _ _
  refine wp_seq_k (fun K1 hK1 => ?_)
  refine wp_region_lit ?_
  refine sqdt hf (d_box (cs := #[(.int .i64 ((ln : Nat) : Int)), (.int .i64 mo), (.slice ca C.length cc)]) rfl rfl) rfl rfl rfl ?_; clear hf fa; rintro fa _ w1 ⟨b1, rfl, hle1, hk1, he1⟩ hf
  have hBb1 : w.heap.size ≤ b1 := Nat.le_trans hb.size hle1
  replace hb := hb.trans (Below.mono he1 hb.size)
  refine sqv hf (r_assign rfl) rfl rfl rfl ?_; clear hf fa; intro fa hf
  apply wpList_nil
  (try simp only [Exit.then, Exit.inBlock, ↓reduceIte, Nat.reduceEqDiff])
  refine hK1 _ _ ?_
  refine wp_seq_k (fun K2 hK2 => ?_)
  refine wp_seq_k (fun K3 hK3 => ?_)
  refine wp_region_lit ?_
  refine sqv hf (r_fa rfl Try.underlying111 (f := 2) (q := 2) rfl (by kernel_rfl) rfl) rfl rfl rfl ?_; clear hf fa; intro fa hf
  refine sqv hf (r_load (v := (.slice ca C.length cc)) rfl Try.underlying109 rfl (cell_blk hk1 rfl)) rfl rfl rfl ?_; clear hf fa; intro fa hf
  refine sqv hf (r_lensl rfl Try.underlying109) rfl rfl rfl ?_; clear hf fa; intro fa hf
  refine sqv hf (r_sub (C := (((C.length : Nat) : Int) - (1 : Int))) rfl rfl (by rw [IntKind.wrap_i64]; omega)) rfl rfl rfl ?_; clear hf fa; intro fa hf
  refine sqv hf (r_assign rfl) rfl rfl rfl ?_; clear hf fa; intro fa hf
  apply wpList_nil
  (try simp only [Exit.then, Exit.inBlock, ↓reduceIte, Nat.reduceEqDiff])
  refine hK3 _ _ ?_
  refine wp_block ?_
  refine wp_loop_k (fun mq fa wr => ∃ (j : Nat), mq = j ∧ Fr 28 fa [(1, (.int .i64 i)), (2, (.pointer (some ⟨b1, 0, none⟩))), (5, (.int .i64 (((j : Nat) : Int) - (1 : Int))))] ∧ Below w.heap.size w wr ∧ wr.heap[b1]? = some (.cells #[(.int .i64 ((ln : Nat) : Int)), (.int .i64 mo), (.slice ca C.length cc)] 111 (0, 0)) ∧ (j ≤ C.length) ∧ (atP C i = atP (C.take j) i)) ?_ ?_
  · skip
    exact ⟨_, C.length, rfl, hf.sub ⟨rfl, rfl, rfl, trivial⟩, hb, hk1, Nat.le_refl _, by rw [List.take_length]⟩
  · skip
    clear hf fa; intro mq1 fa w2 hI KL1 hKL1
    clear hb
    clear hk1
    obtain ⟨j, hmq1, hf, hb, hkb1, hj, hat⟩ := hI
    refine wp_seq_k (fun K4 hK4 => ?_)
    refine wp_seq_k (fun K5 hK5 => ?_)
    refine wp_region_lit ?_
    refine sqv hf (r_move rfl) rfl rfl rfl ?_; clear hf fa; intro fa hf
    refine sqv hf (r_ge rfl rfl) rfl rfl rfl ?_; clear hf fa; intro fa hf
    apply wpList_nil
    (try simp only [Exit.then, Exit.inBlock, ↓reduceIte, Nat.reduceEqDiff])
    refine hK5 _ _ ?_
    refine wp_cond_split (t := (decide ((0 : Int) ≤ (((j : Nat) : Int) - (1 : Int))))) (hf.ev rfl) (fun hqt11_1 => ?_) (fun hqt11_1 => ?_)
    · have hqt11_1b := hqt11_1
      try simp only [decide_eq_true_eq, Bool.and_eq_true, Bool.or_eq_true, Bool.not_eq_true', decide_eq_false_iff_not, ne_eq, Bool.not_eq_true] at hqt11_1
      refine wp_skip ?_
      (try simp only [Exit.then, Exit.inBlock, ↓reduceIte, Nat.reduceEqDiff])
      refine hK4 _ _ ?_
      refine wp_seq_k (fun K6 hK6 => ?_)
      refine wp_block ?_
      refine wp_seq_k (fun K7 hK7 => ?_)
      obtain ⟨y, hy⟩ : ∃ x, C[j - 1]? = some x := ⟨_, List.getElem?_eq_getElem (by omega)⟩
      have hj1 := atP_take hy i
      rw [show j - 1 + 1 = j by omega] at hj1
      refine wp_region_lit ?_
      refine sqv hf (r_fa rfl Try.underlying111 (f := 2) (q := 2) rfl (by kernel_rfl) rfl) rfl rfl rfl ?_; clear hf fa; intro fa hf
      refine sqv hf (r_load (v := (.slice ca C.length cc)) rfl Try.underlying109 rfl (cell_blk hkb1 rfl)) rfl rfl rfl ?_; clear hf fa; intro fa hf
      refine sqv hf (r_move rfl) rfl rfl rfl ?_; clear hf fa; intro fa hf
      have hy1 : (C)[(j - 1)]? = some y := hy
      obtain ⟨ab1, aoff1, hat1, hlb1, hel1⟩ := RdS.at hC hy1
      refine sqv hf (r_ixa (sz := 2) (j := (j - 1)) (evAt rfl hat1) rfl Try.underlying109 (by kernel_rfl) (by omega) (by omega) rfl) rfl rfl rfl ?_; clear hf fa; intro fa hf
      refine sqv hf (r_fa rfl Try.underlying162 (f := 0) (q := (aoff1 + (j - 1) * 2)) rfl (by kernel_rfl) rfl) rfl rfl rfl ?_; clear hf fa; intro fa hf
      refine sqv hf (r_load (v := (.int .i64 y.1)) rfl Try.underlying3 rfl (cellsAt_cell (cellsAt_below hel1 hb hlb1) (i := 0) rfl rfl)) rfl rfl rfl ?_; clear hf fa; intro fa hf
      refine sqv hf (r_move rfl) rfl rfl rfl ?_; clear hf fa; intro fa hf
      refine sqv hf (r_eq rfl rfl) rfl rfl rfl ?_; clear hf fa; intro fa hf
      apply wpList_nil
      (try simp only [Exit.then, Exit.inBlock, ↓reduceIte, Nat.reduceEqDiff])
      refine hK7 _ _ ?_
      refine wp_cond_split (t := (decide (y.1 = i))) (hf.ev rfl) (fun hqt21_1 => ?_) (fun hqt21_1 => ?_)
      · have hqt21_1b := hqt21_1
        try simp only [decide_eq_true_eq, Bool.and_eq_true, Bool.or_eq_true, Bool.not_eq_true', decide_eq_false_iff_not, ne_eq, Bool.not_eq_true] at hqt21_1
        refine wp_seq_k (fun K8 hK8 => ?_)
        refine wp_region_lit ?_
        refine sqv hf (r_fa rfl Try.underlying111 (f := 2) (q := 2) rfl (by kernel_rfl) rfl) rfl rfl rfl ?_; clear hf fa; intro fa hf
        refine sqv hf (r_load (v := (.slice ca C.length cc)) rfl Try.underlying109 rfl (cell_blk hkb1 rfl)) rfl rfl rfl ?_; clear hf fa; intro fa hf
        refine sqv hf (r_move rfl) rfl rfl rfl ?_; clear hf fa; intro fa hf
        refine sqv hf (r_ixa (sz := 2) (j := (j - 1)) (evAt rfl hat1) rfl Try.underlying109 (by kernel_rfl) (by omega) (by omega) rfl) rfl rfl rfl ?_; clear hf fa; intro fa hf
        refine sqv hf (r_fa rfl Try.underlying162 (f := 1) (q := ((aoff1 + (j - 1) * 2) + 1)) rfl (by kernel_rfl) rfl) rfl rfl rfl ?_; clear hf fa; intro fa hf
        refine sqv hf (r_load (v := (.int .u8 y.2)) rfl Try.underlying5 rfl (cellsAt_cell (cellsAt_below hel1 hb hlb1) (i := 1) rfl rfl)) rfl rfl rfl ?_; clear hf fa; intro fa hf
        refine sqv hf (r_assign rfl) rfl rfl rfl ?_; clear hf fa; intro fa hf
        apply wpList_nil
        (try simp only [Exit.then, Exit.inBlock, ↓reduceIte, Nat.reduceEqDiff])
        refine hK8 _ _ ?_
        refine wp_ret ?_
        (try simp only [Exit.then, Exit.inBlock])
        refine ret1 hf rfl rfl ?_
        have hD : atP C i = y.2 := by rw [hat, hj1, if_pos (by have h := hqt21_1; first | exact h | simpa using h)]
        rw [hD]; exact ⟨rfl, hb⟩
      · have hqt21_1b := hqt21_1
        replace hqt21_1 := Bool.eq_false_iff.1 hqt21_1
        try simp only [ne_eq, decide_eq_true_eq, Bool.and_eq_true, Bool.or_eq_true, Bool.not_eq_true', decide_eq_false_iff_not] at hqt21_1
        refine wp_skip ?_
        (try simp only [Exit.then, Exit.inBlock, ↓reduceIte, Nat.reduceEqDiff])
        refine hK6 _ _ ?_
        refine wp_region_lit ?_
        refine sqv hf (r_move rfl) rfl rfl rfl ?_; clear hf fa; intro fa hf
        refine sqv hf (r_sub (C := ((((j : Nat) : Int) - (1 : Int)) - (1 : Int))) rfl rfl (by rw [IntKind.wrap_i64]; omega)) rfl rfl rfl ?_; clear hf fa; intro fa hf
        refine sqv hf (r_assign rfl) rfl rfl rfl ?_; clear hf fa; intro fa hf
        apply wpList_nil
        (try simp only [Exit.then, Exit.inBlock, ↓reduceIte, Nat.reduceEqDiff])
        refine hKL1 _ _ _ (by omega) ⟨(j - 1), rfl, hf.sub ⟨rfl, rfl, (some_int (by first | rfl | omega)), trivial⟩, hb, hkb1, by omega, by rw [hat, hj1, if_neg (by have h := hqt21_1; first | exact h | simpa using h)]⟩
    · have hqt11_1b := hqt11_1
      replace hqt11_1 := Bool.eq_false_iff.1 hqt11_1
      try simp only [ne_eq, decide_eq_true_eq, Bool.and_eq_true, Bool.or_eq_true, Bool.not_eq_true', decide_eq_false_iff_not] at hqt11_1
      refine wp_exit ?_
      (try simp only [Exit.then, Exit.inBlock, ↓reduceIte, Nat.reduceEqDiff])
      refine hK2 _ _ ?_
      refine wp_seq_k (fun K9 hK9 => ?_)
      refine wp_region_lit ?_
      refine sqv hf (r_assign rfl) rfl rfl rfl ?_; clear hf fa; intro fa hf
      apply wpList_nil
      (try simp only [Exit.then, Exit.inBlock, ↓reduceIte, Nat.reduceEqDiff])
      refine hK9 _ _ ?_
      refine wp_ret ?_
      (try simp only [Exit.then, Exit.inBlock])
      refine ret1 hf rfl rfl ?_
      have hD : atP C i = 0 := by rw [hat, show j = 0 by omega]; rfl
      rw [hD]; exact ⟨rfl, hb⟩

def rdF (C : List MCe) (k : Nat) : Nat → List Int
  | 0 => []
  | n + 1 => rdF C k n ++ [atP C (((k : Nat) : Int) + ((n : Nat) : Int))]
theorem rdF_len (C : List MCe) (k : Nat) : ∀ n, (rdF C k n).length = n
  | 0 => rfl
  | n + 1 => by rw [rdF, List.length_append, rdF_len C k n]; rfl
theorem rdF_at (C : List MCe) (k : Nat) : ∀ (n i : Nat), i < n → (rdF C k n)[i]? = some (atP C (((k + i : Nat)) : Int))
  | 0, i, h => by omega
  | n + 1, i, h => by
    rw [rdF]
    by_cases hi : i < n
    · rw [List.getElem?_append_left (by rw [rdF_len]; exact hi)]
      exact rdF_at C k n i hi
    · have e : i = n := by omega
      subst e
      rw [List.getElem?_append_right (by rw [rdF_len]; exact Nat.le_refl _), rdF_len, Nat.sub_self]
      rfl

set_option maxHeartbeats 1000000 in
set_option maxRecDepth 100000 in
theorem rread26 (ln : Nat) (mo : Int) (ca : Option Addr) (C : List MCe) (cc : Nat) (w : World) (hC : RdS 2 vCe w ca C) (hln : ln ≤ 16777216) (hCl : C.length ≤ 1000000) (k n : Nat) (hk : k ≤ 16777216) (hn : n ≤ 1000000) : Calls Try.prog 81 #[(.agg #[(.int .i64 ((ln : Nat) : Int)), (.int .i64 mo), (.slice ca C.length cc)]), (.int .u64 ((k : Nat) : Int)), (.int .i64 ((n : Nat) : Int))] w fun e w' => e = .returned (.string (strOfNums (rdF C k n))) ∧ Below w.heap.size w w' := by
  have hr0 : (rdF C k 0).length = 0 := rfl
  refine sx_enter (L := [(0, (.agg #[(.int .i64 ((ln : Nat) : Int)), (.int .i64 mo), (.slice ca C.length cc)])), (1, (.int .u64 ((k : Nat) : Int))), (2, (.int .i64 ((n : Nat) : Int)))]) Try.func81 rfl rfl rfl rfl (fun fa hf => ?_)
  have hb : Below w.heap.size w w := Below.refl _ _
  refine wp_seq_k (fun K1 hK1 => ?_)
  refine wp_region_lit ?_
  refine sqdt hf (d_box (cs := #[(.int .i64 ((ln : Nat) : Int)), (.int .i64 mo), (.slice ca C.length cc)]) rfl rfl) rfl rfl rfl ?_; clear hf fa; rintro fa _ w1 ⟨b1, rfl, hle1, hk1, he1⟩ hf
  have hBb1 : w.heap.size ≤ b1 := Nat.le_trans hb.size hle1
  replace hb := hb.trans (Below.mono he1 hb.size)
  refine sqv hf (r_assign rfl) rfl rfl rfl ?_; clear hf fa; intro fa hf
  apply wpList_nil
  (try simp only [Exit.then, Exit.inBlock, ↓reduceIte, Nat.reduceEqDiff])
  refine hK1 _ _ ?_
  refine wp_seq_k (fun K2 hK2 => ?_)
  refine wp_region_lit ?_
  refine sqv hf (r_assign rfl) rfl rfl rfl ?_; clear hf fa; intro fa hf
  apply wpList_nil
  (try simp only [Exit.then, Exit.inBlock, ↓reduceIte, Nat.reduceEqDiff])
  refine hK2 _ _ ?_
  refine wp_seq_k (fun K3 hK3 => ?_)
  refine wp_seq_k (fun K4 hK4 => ?_)
  refine wp_region_lit ?_
  refine sqv hf (r_assign rfl) rfl rfl rfl ?_; clear hf fa; intro fa hf
  apply wpList_nil
  (try simp only [Exit.then, Exit.inBlock, ↓reduceIte, Nat.reduceEqDiff])
  refine hK4 _ _ ?_
  refine wp_block ?_
  refine wp_loop_k (fun mq fa wr => ∃ (i : Nat) (roa : Option Addr) (roc : Nat), mq = n - i ∧ Fr 25 fa [(1, (.int .u64 ((k : Nat) : Int))), (2, (.int .i64 ((n : Nat) : Int))), (3, (.pointer (some ⟨b1, 0, none⟩))), (8, (.int .i64 ((i : Nat) : Int))), (7, (.slice roa (((rdF C k i)).length) roc))] ∧ Below w.heap.size w wr ∧ Row 1 (vInt .u8) 5 (w.heap.size) wr (.slice roa (((rdF C k i)).length) roc) (rdF C k i) ∧ wr.heap[b1]? = some (.cells #[(.int .i64 ((ln : Nat) : Int)), (.int .i64 mo), (.slice ca C.length cc)] 111 (0, 0)) ∧ (i ≤ n)) ?_ ?_
  · skip
    exact ⟨_, 0, none, 0, rfl, hf.sub ⟨rfl, rfl, rfl, (some_int (by first | rfl | omega)), (some_sl (by first | omega | (simp only [List.length_append, List.length_cons, List.length_nil]; omega) | (simp <;> omega)) rfl), trivial⟩, hb, Row.nil, hk1, by omega⟩
  · skip
    clear hf fa; intro mq1 fa w2 hI KL1 hKL1
    clear hb
    clear hk1
    obtain ⟨i, roa, roc, hmq1, hf, hb, hro, hkb1, hi⟩ := hI
    have hcro := Row.caps hro
    have hol := rdF_len C k i
    refine wp_seq_k (fun K5 hK5 => ?_)
    refine wp_seq_k (fun K6 hK6 => ?_)
    refine wp_region_lit ?_
    refine sqv hf (r_move rfl) rfl rfl rfl ?_; clear hf fa; intro fa hf
    refine sqv hf (r_move rfl) rfl rfl rfl ?_; clear hf fa; intro fa hf
    refine sqv hf (r_lt rfl rfl) rfl rfl rfl ?_; clear hf fa; intro fa hf
    apply wpList_nil
    (try simp only [Exit.then, Exit.inBlock, ↓reduceIte, Nat.reduceEqDiff])
    refine hK6 _ _ ?_
    refine wp_cond_split (t := (decide (((i : Nat) : Int) < ((n : Nat) : Int)))) (hf.ev rfl) (fun hqt11_1 => ?_) (fun hqt11_1 => ?_)
    · have hqt11_1b := hqt11_1
      try simp only [decide_eq_true_eq, Bool.and_eq_true, Bool.or_eq_true, Bool.not_eq_true', decide_eq_false_iff_not, ne_eq, Bool.not_eq_true] at hqt11_1
      refine wp_skip ?_
      (try simp only [Exit.then, Exit.inBlock, ↓reduceIte, Nat.reduceEqDiff])
      refine hK5 _ _ ?_
      refine wp_seq_k (fun K7 hK7 => ?_)
      refine wp_block ?_
      refine wp_region_lit ?_
      refine sqv hf (r_move rfl) rfl rfl rfl ?_; clear hf fa; intro fa hf
      refine sqv hf (r_loadA (cs := [(.int .i64 ((ln : Nat) : Int)), (.int .i64 mo), (.slice ca C.length cc)]) rfl Try.underlying111 rfl (by kernel_rfl) (cellsAt_blk hkb1)) rfl rfl rfl ?_; clear hf fa; intro fa hf
      refine sqv hf (r_move rfl) rfl rfl rfl ?_; clear hf fa; intro fa hf
      refine sqv hf (r_conv (C := ((k : Nat) : Int)) rfl Try.underlying26 Try.underlying3 (by rw [IntKind.wrap_i64]; omega)) rfl rfl rfl ?_; clear hf fa; intro fa hf
      refine sqv hf (r_move rfl) rfl rfl rfl ?_; clear hf fa; intro fa hf
      refine sqv hf (r_add (C := (((k : Nat) : Int) + ((i : Nat) : Int))) rfl rfl (by rw [IntKind.wrap_i64]; omega)) rfl rfl rfl ?_; clear hf fa; intro fa hf
      refine sqdt hf (d_callB (vs := [(.agg #[(.int .i64 ((ln : Nat) : Int)), (.int .i64 mo), (.slice ca C.length cc)]), (.int .i64 (((k : Nat) : Int) + ((i : Nat) : Int)))]) rfl Try.func89 (by kernel_rfl) (by kernel_rfl) (rat_any ln mo ca C cc _ (RdS.ext hC hb) hln hCl (((k : Nat) : Int) + ((i : Nat) : Int)))) rfl rfl rfl ?_; clear hf fa; rintro fa _ w3 ⟨rfl, he2⟩ hf
      replace hkb1 := blk_ext hkb1 he2
      replace hro := Row.ext hro he2
      replace hb := hb.trans (Below.mono he2 hb.size)
      refine sqdt hf (d_bslice (z := (.int .u8 (0 : Int))) (sz := 1) (vs := [(0, (.int .u8 ((atP C (((k : Nat) : Int) + ((i : Nat) : Int))))))]) (cs := #[(.int .u8 ((atP C (((k : Nat) : Int) + ((i : Nat) : Int)))))]) rfl Try.underlying84 (by kernel_rfl) rfl (by kernel_rfl)) rfl rfl rfl ?_; clear hf fa; rintro fa _ w4 ⟨b2, rfl, hle2, hk2, he3⟩ hf
      have hBb2 : w.heap.size ≤ b2 := Nat.le_trans hb.size hle2
      have : b1 < b2 := Nat.lt_of_lt_of_le (blk_lt hkb1) hle2
      have hnr1 : (Value.slice roa ((((rdF C k i)).length)) roc).ownBlock ≠ some b2 := fun hq => by have := (Row.lt hro _ hq).2; omega
      have hnl1 : ∀ q, (Value.slice roa ((((rdF C k i)).length)) roc).ownBlock = some q → q < b2 := fun q hq => Nat.lt_of_lt_of_le (Row.lt hro q hq).2 hle2
      replace hkb1 := blk_ext hkb1 he3
      replace hro := Row.ext hro he3
      replace hb := hb.trans (Below.mono he3 hb.size)
      have hs1 := Row.rd (by intros; rfl) (Row.of_new (k := 1) (V := (vInt .u8)) (l := [((atP C (((k : Nat) : Int) + ((i : Nat) : Int))))]) hk2 (Nat.le_refl _) rfl rfl (Nat.le_of_ble_eq_true rfl))
      refine sqdt hf (d_append (V := (vInt .u8)) (k := 1) (e := 5) (bytes := 1) (z := (.int .u8 (0 : Int))) (news := [((atP C (((k : Nat) : Int) + ((i : Nat) : Int))))]) (base := w.heap.size) (by intros; rfl) (by intro x u hu; simp only [vInt, List.mem_singleton] at hu; subst hu; rfl) rfl rfl Try.underlying84 (by kernel_rfl) rfl rfl rfl hro hs1 rfl (fun h => by cases h) (by first | omega | (simp only [List.length_cons, List.length_nil, List.length_append, nums_len]; omega)) (by have := hb.size; omega)) rfl rfl rfl ?_; clear hf fa; rintro fa v w5 ⟨hr1, hg1⟩ hf; obtain ⟨ra1, rc1, rfl, hcrc1, hmrc1⟩ := Row.slice hr1
      replace hkb1 := blk_row' hkb1 hg1 (Row.ne_type hro hkb1 rfl)
      replace hb := hb.trans (row_below hro hg1 hb.size (by have := hb.size; omega))
      refine sqv hf (r_assign rfl) rfl rfl rfl ?_; clear hf fa; intro fa hf
      apply wpList_nil
      (try simp only [Exit.then, Exit.inBlock, ↓reduceIte, Nat.reduceEqDiff])
      refine hK7 _ _ ?_
      refine wp_region_lit ?_
      refine sqv hf (r_move rfl) rfl rfl rfl ?_; clear hf fa; intro fa hf
      refine sqv hf (r_add (C := (((i : Nat) : Int) + (1 : Int))) rfl rfl (by rw [IntKind.wrap_i64]; omega)) rfl rfl rfl ?_; clear hf fa; intro fa hf
      refine sqv hf (r_assign rfl) rfl rfl rfl ?_; clear hf fa; intro fa hf
      apply wpList_nil
      (try simp only [Exit.then, Exit.inBlock, ↓reduceIte, Nat.reduceEqDiff])
      have hol2 := rdF_len C k (i + 1)
      refine hKL1 _ _ _ (by omega) ⟨(i + 1), ra1, rc1, rfl, hf.sub ⟨rfl, rfl, rfl, (some_int (by first | rfl | omega)), (some_sl (by first | omega | (simp only [List.length_append, List.length_cons, List.length_nil]; omega) | (simp <;> omega)) rfl), trivial⟩, hb, (Row.relen hr1), hkb1, by omega⟩
    · have hqt11_1b := hqt11_1
      replace hqt11_1 := Bool.eq_false_iff.1 hqt11_1
      try simp only [ne_eq, decide_eq_true_eq, Bool.and_eq_true, Bool.or_eq_true, Bool.not_eq_true', decide_eq_false_iff_not] at hqt11_1
      refine wp_exit ?_
      (try simp only [Exit.then, Exit.inBlock, ↓reduceIte, Nat.reduceEqDiff])
      refine hK3 _ _ ?_
      refine wp_seq_k (fun K8 hK8 => ?_)
      refine wp_region_lit ?_
      refine sqv hf (r_move rfl) rfl rfl rfl ?_; clear hf fa; intro fa hf
      refine sqv hf (r_rowstr rfl Try.underlying84 Try.underlying5 Try.underlying9 hro) rfl rfl rfl ?_; clear hf fa; intro fa hf
      refine sqv hf (r_assign rfl) rfl rfl rfl ?_; clear hf fa; intro fa hf
      apply wpList_nil
      (try simp only [Exit.then, Exit.inBlock, ↓reduceIte, Nat.reduceEqDiff])
      refine hK8 _ _ ?_
      refine wp_ret ?_
      (try simp only [Exit.then, Exit.inBlock])
      refine ret1 hf rfl rfl ?_
      obtain rfl : i = n := by omega
      exact ⟨rfl, hb⟩

theorem filter_snoc {C : List MCe} {j : Nat} {c : MCe} (p : MCe → Bool) (h : C[j]? = some c) : (C.take (j + 1)).filter p = (C.take j).filter p ++ (if p c = true then [c] else []) := by
  rw [List.take_add_one, h, List.filter_append]
  cases hp : p c <;> simp [hp]
theorem filter_yes {C : List MCe} {j : Nat} {c : MCe} {p : MCe → Bool} (h : C[j]? = some c) (hp : p c = true) : (C.take (j + 1)).filter p = (C.take j).filter p ++ [c] := by rw [filter_snoc p h, if_pos hp]
theorem filter_no {C : List MCe} {j : Nat} {c : MCe} {p : MCe → Bool} (h : C[j]? = some c) (hp : p c = false) : (C.take j).filter p = (C.take (j + 1)).filter p := by rw [filter_snoc p h, if_neg (by rw [hp]; decide), List.append_nil]
theorem filter_len (C : List MCe) (p : MCe → Bool) (j : Nat) : ((C.take j).filter p).length ≤ j := Nat.le_trans (List.length_filter_le _ _) (by rw [List.length_take]; omega)
def szQ (n : Int) : MCe → Bool := fun c => decide (c.1 < n)
def wrQ (k n : Nat) : MCe → Bool := fun c => decide (c.1 < ((k : Nat) : Int)) || decide (c.1 ≥ ((k : Nat) : Int) + ((n : Nat) : Int))

theorem crowE2 {α : Type} {k e base n c : Nat} {V : α → List Value} {w : World} {a : Option Addr} {l l' : List α} (h : Row k V e base w (.slice a n c) l) (he : l' = l ∨ l = l') : Row k V e base w (.slice a l'.length c) l' := by
  rcases he with he | he
  · subst he; exact h.relen
  · subst he; exact h.relen

set_option maxHeartbeats 1000000 in
set_option maxRecDepth 100000 in
theorem rsize_any (ln : Nat) (mo : Int) (ca : Option Addr) (C : List MCe) (cc : Nat) (w : World) (hC : RdS 2 vCe w ca C) (hln : ln ≤ 16777216) (hCl : C.length ≤ 1000000) (n : Int) (hn : 0 ≤ n) : Calls Try.prog 82 #[(.agg #[(.int .i64 ((ln : Nat) : Int)), (.int .i64 mo), (.slice ca C.length cc)]), (.int .i64 n)] w fun e w' => ∃ x, e = .returned x ∧ ∃ va vc, x = .agg #[.int .i64 n, .int .i64 mo, .slice va (C.filter (szQ n)).length vc] ∧ Row 2 vCe 162 w.heap.size w' (.slice va (C.filter (szQ n)).length vc) (C.filter (szQ n)) ∧ Below w.heap.size w w' := by
  have hf0 : ((C.take 0).filter (szQ n)).length = 0 := rfl
  refine sx_enter (L := [(0, (.agg #[(.int .i64 ((ln : Nat) : Int)), (.int .i64 mo), (.slice ca C.length cc)])), (1, (.int .i64 n))]) Try.func82 rfl rfl rfl rfl (fun fa hf => ?_)
  have hb : Below w.heap.size w w := Below.refl _ _
  refine wp_seq_k (fun K1 hK1 => ?_)
  refine wp_region_lit ?_
  refine sqdt hf (d_box (cs := #[(.int .i64 ((ln : Nat) : Int)), (.int .i64 mo), (.slice ca C.length cc)]) rfl rfl) rfl rfl rfl ?_; clear hf fa; rintro fa _ w1 ⟨b1, rfl, hle1, hk1, he1⟩ hf
  have hBb1 : w.heap.size ≤ b1 := Nat.le_trans hb.size hle1
  replace hb := hb.trans (Below.mono he1 hb.size)
  refine sqdt hf (d_alloc (z := (.agg #[(.int .i64 (0 : Int)), (.int .i64 (0 : Int)), (.slice none 0 0)])) (cs := #[(.int .i64 (0 : Int)), (.int .i64 (0 : Int)), (.slice none 0 0)]) (by kernel_rfl) rfl) rfl rfl rfl ?_; clear hf fa; rintro fa _ w2 ⟨b2, rfl, hle2, hk2, he2⟩ hf
  have hBb2 : w.heap.size ≤ b2 := Nat.le_trans hb.size hle2
  have : b1 < b2 := Nat.lt_of_lt_of_le (blk_lt hk1) hle2
  replace hk1 := blk_ext hk1 he2
  replace hb := hb.trans (Below.mono he2 hb.size)
  apply wpList_nil
  (try simp only [Exit.then, Exit.inBlock, ↓reduceIte, Nat.reduceEqDiff])
  refine hK1 _ _ ?_
  refine wp_seq_k (fun K2 hK2 => ?_)
  refine wp_region_lit ?_
  refine sqv hf (r_assign rfl) rfl rfl rfl ?_; clear hf fa; intro fa hf
  apply wpList_nil
  (try simp only [Exit.then, Exit.inBlock, ↓reduceIte, Nat.reduceEqDiff])
  refine hK2 _ _ ?_
  refine wp_seq_k (fun K3 hK3 => ?_)
  refine wp_seq_k (fun K4 hK4 => ?_)
  refine wp_region_lit ?_
  refine sqv hf (r_assign rfl) rfl rfl rfl ?_; clear hf fa; intro fa hf
  apply wpList_nil
  (try simp only [Exit.then, Exit.inBlock, ↓reduceIte, Nat.reduceEqDiff])
  refine hK4 _ _ ?_
  refine wp_block ?_
  refine wp_loop_k (fun mq fa wr => ∃ (i : Nat) (roa : Option Addr) (roc : Nat), mq = C.length - i ∧ Fr 35 fa [(1, (.int .i64 n)), (2, (.pointer (some ⟨b1, 0, none⟩))), (4, (.pointer (some ⟨b2, 0, none⟩))), (6, (.int .i64 ((i : Nat) : Int))), (5, (.slice roa ((((C.take i).filter (szQ n))).length) roc))] ∧ Below w.heap.size w wr ∧ Row 2 vCe 162 (w.heap.size) wr (.slice roa ((((C.take i).filter (szQ n))).length) roc) ((C.take i).filter (szQ n)) ∧ wr.heap[b1]? = some (.cells #[(.int .i64 ((ln : Nat) : Int)), (.int .i64 mo), (.slice ca C.length cc)] 111 (0, 0)) ∧ wr.heap[b2]? = some (.cells #[(.int .i64 (0 : Int)), (.int .i64 (0 : Int)), (.slice none 0 0)] 111 (0, 0)) ∧ (i ≤ C.length)) ?_ ?_
  · skip
    exact ⟨_, 0, none, 0, rfl, hf.sub ⟨rfl, rfl, rfl, (some_int (by first | rfl | omega)), (some_sl (by first | omega | (simp only [List.length_append, List.length_cons, List.length_nil]; omega) | (simp <;> omega)) rfl), trivial⟩, hb, Row.nil, hk1, hk2, by omega⟩
  · skip
    clear hf fa; intro mq1 fa w3 hI KL1 hKL1
    clear hb
    clear hk1
    clear hk2
    obtain ⟨i, roa, roc, hmq1, hf, hb, hro, hkb1, hkb2, hi⟩ := hI
    have hcro := Row.caps hro
    have hfl := filter_len C (szQ n) i
    refine wp_seq_k (fun K5 hK5 => ?_)
    refine wp_seq_k (fun K6 hK6 => ?_)
    refine wp_region_lit ?_
    refine sqv hf (r_move rfl) rfl rfl rfl ?_; clear hf fa; intro fa hf
    refine sqv hf (r_fa rfl Try.underlying111 (f := 2) (q := 2) rfl (by kernel_rfl) rfl) rfl rfl rfl ?_; clear hf fa; intro fa hf
    refine sqv hf (r_load (v := (.slice ca C.length cc)) rfl Try.underlying109 rfl (cell_blk hkb1 rfl)) rfl rfl rfl ?_; clear hf fa; intro fa hf
    refine sqv hf (r_lensl rfl Try.underlying109) rfl rfl rfl ?_; clear hf fa; intro fa hf
    refine sqv hf (r_lt rfl rfl) rfl rfl rfl ?_; clear hf fa; intro fa hf
    apply wpList_nil
    (try simp only [Exit.then, Exit.inBlock, ↓reduceIte, Nat.reduceEqDiff])
    refine hK6 _ _ ?_
    refine wp_cond_split (t := (decide (((i : Nat) : Int) < ((C.length : Nat) : Int)))) (hf.ev rfl) (fun hqt11_1 => ?_) (fun hqt11_1 => ?_)
    · have hqt11_1b := hqt11_1
      try simp only [decide_eq_true_eq, Bool.and_eq_true, Bool.or_eq_true, Bool.not_eq_true', decide_eq_false_iff_not, ne_eq, Bool.not_eq_true] at hqt11_1
      refine wp_skip ?_
      (try simp only [Exit.then, Exit.inBlock, ↓reduceIte, Nat.reduceEqDiff])
      refine hK5 _ _ ?_
      refine wp_seq_k (fun K7 hK7 => ?_)
      refine wp_block ?_
      refine wp_seq_k (fun K8 hK8 => ?_)
      obtain ⟨y, hy⟩ : ∃ x, C[i]? = some x := ⟨_, List.getElem?_eq_getElem (by omega)⟩
      refine wp_region_lit ?_
      refine sqv hf (r_fa rfl Try.underlying111 (f := 2) (q := 2) rfl (by kernel_rfl) rfl) rfl rfl rfl ?_; clear hf fa; intro fa hf
      refine sqv hf (r_load (v := (.slice ca C.length cc)) rfl Try.underlying109 rfl (cell_blk hkb1 rfl)) rfl rfl rfl ?_; clear hf fa; intro fa hf
      refine sqv hf (r_move rfl) rfl rfl rfl ?_; clear hf fa; intro fa hf
      have hy1 : (C)[i]? = some y := hy
      obtain ⟨ab1, aoff1, hat1, hlb1, hel1⟩ := RdS.at hC hy1
      refine sqv hf (r_ixa (sz := 2) (j := i) (evAt rfl hat1) rfl Try.underlying109 (by kernel_rfl) rfl (by omega) rfl) rfl rfl rfl ?_; clear hf fa; intro fa hf
      refine sqv hf (r_fa rfl Try.underlying162 (f := 0) (q := (aoff1 + i * 2)) rfl (by kernel_rfl) rfl) rfl rfl rfl ?_; clear hf fa; intro fa hf
      refine sqv hf (r_load (v := (.int .i64 y.1)) rfl Try.underlying3 rfl (cellsAt_cell (cellsAt_below hel1 hb hlb1) (i := 0) rfl rfl)) rfl rfl rfl ?_; clear hf fa; intro fa hf
      refine sqv hf (r_move rfl) rfl rfl rfl ?_; clear hf fa; intro fa hf
      refine sqv hf (r_lt rfl rfl) rfl rfl rfl ?_; clear hf fa; intro fa hf
      apply wpList_nil
      (try simp only [Exit.then, Exit.inBlock, ↓reduceIte, Nat.reduceEqDiff])
      refine hK8 _ _ ?_
      refine wp_cond_split (t := (decide (y.1 < n))) (hf.ev rfl) (fun hqt21_1 => ?_) (fun hqt21_1 => ?_)
      · have hqt21_1b := hqt21_1
        try simp only [decide_eq_true_eq, Bool.and_eq_true, Bool.or_eq_true, Bool.not_eq_true', decide_eq_false_iff_not, ne_eq, Bool.not_eq_true] at hqt21_1
        refine wp_region_lit ?_
        refine sqv hf (r_move rfl) rfl rfl rfl ?_; clear hf fa; intro fa hf
        refine sqv hf (r_fa rfl Try.underlying111 (f := 2) (q := 2) rfl (by kernel_rfl) rfl) rfl rfl rfl ?_; clear hf fa; intro fa hf
        refine sqv hf (r_load (v := (.slice ca C.length cc)) rfl Try.underlying109 rfl (cell_blk hkb1 rfl)) rfl rfl rfl ?_; clear hf fa; intro fa hf
        refine sqv hf (r_move rfl) rfl rfl rfl ?_; clear hf fa; intro fa hf
        refine sqv hf (r_ixa (sz := 2) (j := i) (evAt rfl hat1) rfl Try.underlying109 (by kernel_rfl) rfl (by omega) rfl) rfl rfl rfl ?_; clear hf fa; intro fa hf
        refine sqv hf (r_loadA (cs := [(.int .i64 y.1), (.int .u8 y.2)]) rfl Try.underlying162 rfl (by kernel_rfl) (cellsAt_below hel1 hb hlb1)) rfl rfl rfl ?_; clear hf fa; intro fa hf
        refine sqdt hf (d_bslice (z := (.agg #[(.int .i64 (0 : Int)), (.int .u8 (0 : Int))])) (sz := 2) (vs := [(0, (.agg #[(.int .i64 y.1), (.int .u8 y.2)]))]) (cs := #[(.int .i64 y.1), (.int .u8 y.2)]) rfl Try.underlying109 (by kernel_rfl) rfl (by kernel_rfl)) rfl rfl rfl ?_; clear hf fa; rintro fa _ w4 ⟨b3, rfl, hle3, hk3, he3⟩ hf
        have hBb3 : w.heap.size ≤ b3 := Nat.le_trans hb.size hle3
        have : b1 < b3 := Nat.lt_of_lt_of_le (blk_lt hkb1) hle3
        have : b2 < b3 := Nat.lt_of_lt_of_le (blk_lt hkb2) hle3
        have hnr1 : (Value.slice roa (((((C.take i).filter (szQ n))).length)) roc).ownBlock ≠ some b3 := fun hq => by have := (Row.lt hro _ hq).2; omega
        have hnl1 : ∀ q, (Value.slice roa (((((C.take i).filter (szQ n))).length)) roc).ownBlock = some q → q < b3 := fun q hq => Nat.lt_of_lt_of_le (Row.lt hro q hq).2 hle3
        replace hkb1 := blk_ext hkb1 he3
        replace hkb2 := blk_ext hkb2 he3
        replace hro := Row.ext hro he3
        replace hb := hb.trans (Below.mono he3 hb.size)
        have hs1 := Row.rd (by intros; rfl) (Row.of_new (k := 2) (V := vCe) (l := [y]) hk3 (Nat.le_refl _) rfl rfl (Nat.le_of_ble_eq_true rfl))
        refine sqdt hf (d_append (V := vCe) (k := 2) (e := 162) (bytes := 16) (z := (.agg #[(.int .i64 (0 : Int)), (.int .u8 (0 : Int))])) (news := [y]) (base := w.heap.size) (by intros; rfl) (by exact oneCe) rfl rfl Try.underlying109 (by kernel_rfl) rfl rfl rfl hro hs1 rfl (fun h => by cases h) (by first | omega | (simp only [List.length_cons, List.length_nil, List.length_append, nums_len]; omega)) (by have := hb.size; omega)) rfl rfl rfl ?_; clear hf fa; rintro fa v w5 ⟨hr1, hg1⟩ hf; obtain ⟨ra1, rc1, rfl, hcrc1, hmrc1⟩ := Row.slice hr1
        replace hkb1 := blk_row' hkb1 hg1 (Row.ne_type hro hkb1 rfl)
        replace hkb2 := blk_row' hkb2 hg1 (Row.ne_type hro hkb2 rfl)
        replace hb := hb.trans (row_below hro hg1 hb.size (by have := hb.size; omega))
        refine sqv hf (r_assign rfl) rfl rfl rfl ?_; clear hf fa; intro fa hf
        apply wpList_nil
        (try simp only [Exit.then, Exit.inBlock, ↓reduceIte, Nat.reduceEqDiff])
        refine hK7 _ _ ?_
        refine wp_region_lit ?_
        refine sqv hf (r_move rfl) rfl rfl rfl ?_; clear hf fa; intro fa hf
        refine sqv hf (r_add (C := (((i : Nat) : Int) + (1 : Int))) rfl rfl (by rw [IntKind.wrap_i64]; omega)) rfl rfl rfl ?_; clear hf fa; intro fa hf
        refine sqv hf (r_assign rfl) rfl rfl rfl ?_; clear hf fa; intro fa hf
        apply wpList_nil
        (try simp only [Exit.then, Exit.inBlock, ↓reduceIte, Nat.reduceEqDiff])
        have hst := filter_yes (C := C) (j := i) (p := (szQ n)) hy (by have h := hqt21_1; unfold szQ; first | simpa using h | (simp; omega))
        have hsl := congrArg List.length hst
        try simp only [List.length_append, List.length_cons, List.length_nil] at hsl
        refine hKL1 _ _ _ (by omega) ⟨(i + 1), ra1, rc1, rfl, hf.sub ⟨rfl, rfl, rfl, (some_int (by first | rfl | omega)), (some_sl (by first | omega | (simp only [List.length_append, List.length_cons, List.length_nil]; omega) | (simp <;> omega)) rfl), trivial⟩, hb, (crowE2 hr1 (by first | exact .inl hst | exact .inr hst)), hkb1, hkb2, by omega⟩
      · have hqt21_1b := hqt21_1
        replace hqt21_1 := Bool.eq_false_iff.1 hqt21_1
        try simp only [ne_eq, decide_eq_true_eq, Bool.and_eq_true, Bool.or_eq_true, Bool.not_eq_true', decide_eq_false_iff_not] at hqt21_1
        refine wp_skip ?_
        (try simp only [Exit.then, Exit.inBlock, ↓reduceIte, Nat.reduceEqDiff])
        refine hK7 _ _ ?_
        refine wp_region_lit ?_
        refine sqv hf (r_move rfl) rfl rfl rfl ?_; clear hf fa; intro fa hf
        refine sqv hf (r_add (C := (((i : Nat) : Int) + (1 : Int))) rfl rfl (by rw [IntKind.wrap_i64]; omega)) rfl rfl rfl ?_; clear hf fa; intro fa hf
        refine sqv hf (r_assign rfl) rfl rfl rfl ?_; clear hf fa; intro fa hf
        apply wpList_nil
        (try simp only [Exit.then, Exit.inBlock, ↓reduceIte, Nat.reduceEqDiff])
        have hst := filter_no (C := C) (j := i) (p := (szQ n)) hy (by have h := hqt21_1; unfold szQ; first | simpa using h | (simp; omega))
        have hsl := congrArg List.length hst
        try simp only [List.length_append, List.length_cons, List.length_nil] at hsl
        refine hKL1 _ _ _ (by omega) ⟨(i + 1), roa, roc, rfl, hf.sub ⟨rfl, rfl, rfl, (some_int (by first | rfl | omega)), (some_sl (by first | omega | (simp only [List.length_append, List.length_cons, List.length_nil]; omega) | (simp <;> omega)) rfl), trivial⟩, hb, (crowE2 hro (by first | exact .inl hst | exact .inr hst)), hkb1, hkb2, by omega⟩
    · have hqt11_1b := hqt11_1
      replace hqt11_1 := Bool.eq_false_iff.1 hqt11_1
      try simp only [ne_eq, decide_eq_true_eq, Bool.and_eq_true, Bool.or_eq_true, Bool.not_eq_true', decide_eq_false_iff_not] at hqt11_1
      refine wp_exit ?_
      (try simp only [Exit.then, Exit.inBlock, ↓reduceIte, Nat.reduceEqDiff])
      refine hK3 _ _ ?_
      refine wp_seq_k (fun K9 hK9 => ?_)
      refine wp_region_lit ?_
      refine sqv hf (r_move rfl) rfl rfl rfl ?_; clear hf fa; intro fa hf
      refine sqv hf (r_fa rfl Try.underlying111 (f := 1) (q := 1) rfl (by kernel_rfl) rfl) rfl rfl rfl ?_; clear hf fa; intro fa hf
      refine sqv hf (r_load (v := (.int .i64 mo)) rfl Try.underlying3 rfl (cell_blk hkb1 rfl)) rfl rfl rfl ?_; clear hf fa; intro fa hf
      refine sqv hf (r_move rfl) rfl rfl rfl ?_; clear hf fa; intro fa hf
      refine sqv hf (r_build (vs := [(0, (.int .i64 n)), (1, (.int .i64 mo)), (2, (.slice roa ((((C.take i).filter (szQ n))).length) roc))]) (cs := #[(.int .i64 n), (.int .i64 mo), (.slice roa ((((C.take i).filter (szQ n))).length) roc)]) rfl (fun _ => by kernel_rfl)) rfl rfl rfl ?_; clear hf fa; intro fa hf
      refine sqn hf (d_storeK (T := 111) (v := (.agg #[(.int .i64 n), (.int .i64 mo), (.slice roa ((((C.take i).filter (szQ n))).length) roc)])) (cs := #[(.int .i64 (0 : Int)), (.int .i64 (0 : Int)), (.slice none 0 0)]) (cs' := #[(.int .i64 n), (.int .i64 mo), (.slice roa ((((C.take i).filter (szQ n))).length) roc)]) rfl rfl (by kernel_rfl) (by kernel_rfl) hkb2 (by kernel_rfl) (by kernel_rfl)) rfl rfl ?_; clear hf fa; rintro fa _ w6 ⟨hk4, hg2⟩ hf
      replace hkb1 := blk_grown hkb1 hg2 (by omega)
      replace hro := Row.grown hro hg2 (Row.ne_type hro hkb2 rfl)
      replace hb := hb.trans (grown_below hg2 hb.size hBb2)
      apply wpList_nil
      (try simp only [Exit.then, Exit.inBlock, ↓reduceIte, Nat.reduceEqDiff])
      refine hK9 _ _ ?_
      refine wp_ret ?_
      (try simp only [Exit.then, Exit.inBlock])
      refine retC hf rfl rfl hk4 Try.underlying111 rfl (by kernel_rfl) ?_
      have hz := hro
      have hkk : C.take i = C := List.take_of_length_le (by omega)
      rw [hkk] at hz ⊢
      exact ⟨_, rfl, _, _, rfl, hz, hb⟩

def newC (k : Nat) (s : ByteArray) : Nat → List MCe
  | 0 => []
  | n + 1 => newC k s n ++ [((((k : Nat) : Int) + ((n : Nat) : Int)), ((sbt s n : Nat) : Int))]
theorem newC_len (k : Nat) (s : ByteArray) : ∀ n, (newC k s n).length = n
  | 0 => rfl
  | n + 1 => by rw [newC, List.length_append, newC_len k s n]; rfl
theorem newC_step (A : List MCe) (k : Nat) (s : ByteArray) (n : Nat) : (A ++ newC k s n) ++ [((((k : Nat) : Int) + ((n : Nat) : Int)), ((sbt s n : Nat) : Int))] = A ++ newC k s (n + 1) := by rw [List.append_assoc]; rfl

set_option maxHeartbeats 1000000 in
set_option maxRecDepth 100000 in
theorem rwrite_any (ln : Nat) (mo : Int) (ca : Option Addr) (C : List MCe) (cc : Nat) (w : World) (hC : RdS 2 vCe w ca C) (hln : ln ≤ 16777216) (hCl : C.length ≤ 1000000) (k : Nat) (s : ByteArray) (hk : k ≤ 16777216) (hs : s.size ≤ 1000000) : Calls Try.prog 79 #[(.agg #[(.int .i64 ((ln : Nat) : Int)), (.int .i64 mo), (.slice ca C.length cc)]), (.int .u64 ((k : Nat) : Int)), (.string s)] w fun e w' => ∃ x, e = .returned x ∧ ∃ va vc, x = .agg #[.int .i64 ((ln : Nat) : Int), .int .i64 mo, .slice va (C.filter (wrQ k s.size) ++ newC k s s.size).length vc] ∧ Row 2 vCe 162 w.heap.size w' (.slice va (C.filter (wrQ k s.size) ++ newC k s s.size).length vc) (C.filter (wrQ k s.size) ++ newC k s s.size) ∧ Below w.heap.size w w' := by
  have hf0 : ((C.take 0).filter (wrQ k s.size)).length = 0 := rfl
  have hn0 : (newC k s 0).length = 0 := rfl
  refine sx_enter (L := [(0, (.agg #[(.int .i64 ((ln : Nat) : Int)), (.int .i64 mo), (.slice ca C.length cc)])), (1, (.int .u64 ((k : Nat) : Int))), (2, (.string s))]) Try.func79 rfl rfl rfl rfl (fun fa hf => ?_)
  have hb : Below w.heap.size w w := Below.refl _ _
  refine wp_seq_k (fun K1 hK1 => ?_)
  refine wp_region_lit ?_
  refine sqdt hf (d_box (cs := #[(.int .i64 ((ln : Nat) : Int)), (.int .i64 mo), (.slice ca C.length cc)]) rfl rfl) rfl rfl rfl ?_; clear hf fa; rintro fa _ w1 ⟨b1, rfl, hle1, hk1, he1⟩ hf
  have hBb1 : w.heap.size ≤ b1 := Nat.le_trans hb.size hle1
  replace hb := hb.trans (Below.mono he1 hb.size)
  refine sqdt hf (d_alloc (z := (.agg #[(.int .i64 (0 : Int)), (.int .i64 (0 : Int)), (.slice none 0 0)])) (cs := #[(.int .i64 (0 : Int)), (.int .i64 (0 : Int)), (.slice none 0 0)]) (by kernel_rfl) rfl) rfl rfl rfl ?_; clear hf fa; rintro fa _ w2 ⟨b2, rfl, hle2, hk2, he2⟩ hf
  have hBb2 : w.heap.size ≤ b2 := Nat.le_trans hb.size hle2
  have : b1 < b2 := Nat.lt_of_lt_of_le (blk_lt hk1) hle2
  replace hk1 := blk_ext hk1 he2
  replace hb := hb.trans (Below.mono he2 hb.size)
  apply wpList_nil
  (try simp only [Exit.then, Exit.inBlock, ↓reduceIte, Nat.reduceEqDiff])
  refine hK1 _ _ ?_
  refine wp_seq_k (fun K2 hK2 => ?_)
  refine wp_region_lit ?_
  refine sqv hf (r_assign rfl) rfl rfl rfl ?_; clear hf fa; intro fa hf
  apply wpList_nil
  (try simp only [Exit.then, Exit.inBlock, ↓reduceIte, Nat.reduceEqDiff])
  refine hK2 _ _ ?_
  refine wp_seq_k (fun K3 hK3 => ?_)
  refine wp_seq_k (fun K4 hK4 => ?_)
  refine wp_region_lit ?_
  refine sqv hf (r_assign rfl) rfl rfl rfl ?_; clear hf fa; intro fa hf
  apply wpList_nil
  (try simp only [Exit.then, Exit.inBlock, ↓reduceIte, Nat.reduceEqDiff])
  refine hK4 _ _ ?_
  refine wp_block ?_
  refine wp_loop_k (fun mq fa wr => ∃ (i : Nat) (roa : Option Addr) (roc : Nat), mq = C.length - i ∧ Fr 68 fa [(1, (.int .u64 ((k : Nat) : Int))), (2, (.string s)), (3, (.pointer (some ⟨b1, 0, none⟩))), (6, (.pointer (some ⟨b2, 0, none⟩))), (8, (.int .i64 ((i : Nat) : Int))), (7, (.slice roa ((((C.take i).filter (wrQ k s.size))).length) roc))] ∧ Below w.heap.size w wr ∧ Row 2 vCe 162 (w.heap.size) wr (.slice roa ((((C.take i).filter (wrQ k s.size))).length) roc) ((C.take i).filter (wrQ k s.size)) ∧ wr.heap[b1]? = some (.cells #[(.int .i64 ((ln : Nat) : Int)), (.int .i64 mo), (.slice ca C.length cc)] 111 (0, 0)) ∧ wr.heap[b2]? = some (.cells #[(.int .i64 (0 : Int)), (.int .i64 (0 : Int)), (.slice none 0 0)] 111 (0, 0)) ∧ (i ≤ C.length)) ?_ ?_
  · skip
    exact ⟨_, 0, none, 0, rfl, hf.sub ⟨rfl, rfl, rfl, rfl, (some_int (by first | rfl | omega)), (some_sl (by first | omega | (simp only [List.length_append, List.length_cons, List.length_nil]; omega) | (simp <;> omega)) rfl), trivial⟩, hb, Row.nil, hk1, hk2, by omega⟩
  · skip
    clear hf fa; intro mq1 fa w3 hI KL1 hKL1
    clear hb
    clear hk1
    clear hk2
    obtain ⟨i, roa, roc, hmq1, hf, hb, hro, hkb1, hkb2, hi⟩ := hI
    have hcro := Row.caps hro
    have hfl := filter_len C (wrQ k s.size) i
    refine wp_seq_k (fun K5 hK5 => ?_)
    refine wp_seq_k (fun K6 hK6 => ?_)
    refine wp_region_lit ?_
    refine sqv hf (r_move rfl) rfl rfl rfl ?_; clear hf fa; intro fa hf
    refine sqv hf (r_fa rfl Try.underlying111 (f := 2) (q := 2) rfl (by kernel_rfl) rfl) rfl rfl rfl ?_; clear hf fa; intro fa hf
    refine sqv hf (r_load (v := (.slice ca C.length cc)) rfl Try.underlying109 rfl (cell_blk hkb1 rfl)) rfl rfl rfl ?_; clear hf fa; intro fa hf
    refine sqv hf (r_lensl rfl Try.underlying109) rfl rfl rfl ?_; clear hf fa; intro fa hf
    refine sqv hf (r_lt rfl rfl) rfl rfl rfl ?_; clear hf fa; intro fa hf
    apply wpList_nil
    (try simp only [Exit.then, Exit.inBlock, ↓reduceIte, Nat.reduceEqDiff])
    refine hK6 _ _ ?_
    refine wp_cond_split (t := (decide (((i : Nat) : Int) < ((C.length : Nat) : Int)))) (hf.ev rfl) (fun hqt14_1 => ?_) (fun hqt14_1 => ?_)
    · have hqt14_1b := hqt14_1
      try simp only [decide_eq_true_eq, Bool.and_eq_true, Bool.or_eq_true, Bool.not_eq_true', decide_eq_false_iff_not, ne_eq, Bool.not_eq_true] at hqt14_1
      refine wp_skip ?_
      (try simp only [Exit.then, Exit.inBlock, ↓reduceIte, Nat.reduceEqDiff])
      refine hK5 _ _ ?_
      refine wp_seq_k (fun K7 hK7 => ?_)
      refine wp_block ?_
      refine wp_seq_k (fun K8 hK8 => ?_)
      obtain ⟨y, hy⟩ : ∃ x, C[i]? = some x := ⟨_, List.getElem?_eq_getElem (by omega)⟩
      refine wp_region_lit ?_
      refine sqv hf (r_fa rfl Try.underlying111 (f := 2) (q := 2) rfl (by kernel_rfl) rfl) rfl rfl rfl ?_; clear hf fa; intro fa hf
      refine sqv hf (r_load (v := (.slice ca C.length cc)) rfl Try.underlying109 rfl (cell_blk hkb1 rfl)) rfl rfl rfl ?_; clear hf fa; intro fa hf
      refine sqv hf (r_move rfl) rfl rfl rfl ?_; clear hf fa; intro fa hf
      have hy1 : (C)[i]? = some y := hy
      obtain ⟨ab1, aoff1, hat1, hlb1, hel1⟩ := RdS.at hC hy1
      refine sqv hf (r_ixa (sz := 2) (j := i) (evAt rfl hat1) rfl Try.underlying109 (by kernel_rfl) rfl (by omega) rfl) rfl rfl rfl ?_; clear hf fa; intro fa hf
      refine sqv hf (r_fa rfl Try.underlying162 (f := 0) (q := (aoff1 + i * 2)) rfl (by kernel_rfl) rfl) rfl rfl rfl ?_; clear hf fa; intro fa hf
      refine sqv hf (r_load (v := (.int .i64 y.1)) rfl Try.underlying3 rfl (cellsAt_cell (cellsAt_below hel1 hb hlb1) (i := 0) rfl rfl)) rfl rfl rfl ?_; clear hf fa; intro fa hf
      refine sqv hf (r_move rfl) rfl rfl rfl ?_; clear hf fa; intro fa hf
      refine sqv hf (r_conv (C := ((k : Nat) : Int)) rfl Try.underlying26 Try.underlying3 (by rw [IntKind.wrap_i64]; omega)) rfl rfl rfl ?_; clear hf fa; intro fa hf
      refine sqv hf (r_lt rfl rfl) rfl rfl rfl ?_; clear hf fa; intro fa hf
      refine sqv hf (r_move rfl) rfl rfl rfl ?_; clear hf fa; intro fa hf
      refine sqgF (act := (!(decide (y.1 < ((k : Nat) : Int))))) (ag := true) (c := (decide (y.1 < ((k : Nat) : Int)))) (v := (.pointer (some ⟨b1, 2, none⟩))) hf rfl rfl rfl (fun hact => (r_fa rfl Try.underlying111 (f := 2) (q := 2) rfl (by kernel_rfl) rfl)) rfl rfl ?_; clear hf fa; intro fa hf
      refine sqgF (act := (!(decide (y.1 < ((k : Nat) : Int))))) (ag := true) (c := (decide (y.1 < ((k : Nat) : Int)))) (v := (.slice ca C.length cc)) hf rfl rfl rfl (fun hact => (r_load (v := (.slice ca C.length cc)) (gb_ev hact rfl) Try.underlying109 rfl (cell_blk hkb1 rfl))) rfl rfl ?_; clear hf fa; intro fa hf
      refine sqgF (act := (!(decide (y.1 < ((k : Nat) : Int))))) (ag := true) (c := (decide (y.1 < ((k : Nat) : Int)))) (v := (.int .i64 ((i : Nat) : Int))) hf rfl rfl rfl (fun hact => (r_move rfl)) rfl rfl ?_; clear hf fa; intro fa hf
      refine sqgF (act := (!(decide (y.1 < ((k : Nat) : Int))))) (ag := true) (c := (decide (y.1 < ((k : Nat) : Int)))) (v := (.pointer (some ⟨ab1, (aoff1 + i * 2), none⟩))) hf rfl rfl rfl (fun hact => (by have hact0 := hact; (try simp only [Bool.and_eq_true, Bool.not_eq_true', Bool.or_eq_false_iff, Bool.or_eq_true, Bool.and_eq_false_iff, ne_eq, decide_eq_true_eq, decide_eq_false_iff_not] at hact0); exact (r_ixa (sz := 2) (j := i) (evAt (gb_ev hact rfl) hat1) (gb_ev hact rfl) Try.underlying109 (by kernel_rfl) rfl (by omega) rfl))) rfl rfl ?_; clear hf fa; intro fa hf
      refine sqgF (act := (!(decide (y.1 < ((k : Nat) : Int))))) (ag := true) (c := (decide (y.1 < ((k : Nat) : Int)))) (v := (.pointer (some ⟨ab1, (aoff1 + i * 2), none⟩))) hf rfl rfl rfl (fun hact => (r_fa (gb_ev hact rfl) Try.underlying162 (f := 0) (q := (aoff1 + i * 2)) rfl (by kernel_rfl) rfl)) rfl rfl ?_; clear hf fa; intro fa hf
      refine sqgF (act := (!(decide (y.1 < ((k : Nat) : Int))))) (ag := true) (c := (decide (y.1 < ((k : Nat) : Int)))) (v := (.int .i64 y.1)) hf rfl rfl rfl (fun hact => (r_load (v := (.int .i64 y.1)) (gb_ev hact rfl) Try.underlying3 rfl (cellsAt_cell (cellsAt_below hel1 hb hlb1) (i := 0) rfl rfl))) rfl rfl ?_; clear hf fa; intro fa hf
      refine sqgF (act := (!(decide (y.1 < ((k : Nat) : Int))))) (ag := true) (c := (decide (y.1 < ((k : Nat) : Int)))) (v := (.int .u64 ((k : Nat) : Int))) hf rfl rfl rfl (fun hact => (r_move rfl)) rfl rfl ?_; clear hf fa; intro fa hf
      refine sqgF (act := (!(decide (y.1 < ((k : Nat) : Int))))) (ag := true) (c := (decide (y.1 < ((k : Nat) : Int)))) (v := (.int .i64 ((k : Nat) : Int))) hf rfl rfl rfl (fun hact => (by have hact0 := hact; (try simp only [Bool.and_eq_true, Bool.not_eq_true', Bool.or_eq_false_iff, Bool.or_eq_true, Bool.and_eq_false_iff, ne_eq, decide_eq_true_eq, decide_eq_false_iff_not] at hact0); exact (r_conv (C := ((k : Nat) : Int)) (gb_ev hact rfl) Try.underlying26 Try.underlying3 (by rw [IntKind.wrap_i64]; omega)))) rfl rfl ?_; clear hf fa; intro fa hf
      refine sqgF (act := (!(decide (y.1 < ((k : Nat) : Int))))) (ag := true) (c := (decide (y.1 < ((k : Nat) : Int)))) (v := (.string s)) hf rfl rfl rfl (fun hact => (r_move rfl)) rfl rfl ?_; clear hf fa; intro fa hf
      refine sqgF (act := (!(decide (y.1 < ((k : Nat) : Int))))) (ag := true) (c := (decide (y.1 < ((k : Nat) : Int)))) (v := (.int .i64 ((s.size : Nat) : Int))) hf rfl rfl rfl (fun hact => (r_lens (gb_ev hact rfl) Try.underlying9)) rfl rfl ?_; clear hf fa; intro fa hf
      refine sqgF (act := (!(decide (y.1 < ((k : Nat) : Int))))) (ag := true) (c := (decide (y.1 < ((k : Nat) : Int)))) (v := (.int .i64 (((k : Nat) : Int) + ((s.size : Nat) : Int)))) hf rfl rfl rfl (fun hact => (by have hact0 := hact; (try simp only [Bool.and_eq_true, Bool.not_eq_true', Bool.or_eq_false_iff, Bool.or_eq_true, Bool.and_eq_false_iff, ne_eq, decide_eq_true_eq, decide_eq_false_iff_not] at hact0); exact (r_add (C := (((k : Nat) : Int) + ((s.size : Nat) : Int))) (gb_ev hact rfl) (gb_ev hact rfl) (by rw [IntKind.wrap_i64]; omega)))) rfl rfl ?_; clear hf fa; intro fa hf
      refine sqgF (act := (!(decide (y.1 < ((k : Nat) : Int))))) (ag := true) (c := (decide (y.1 < ((k : Nat) : Int)))) (v := (.bool (decide ((((k : Nat) : Int) + ((s.size : Nat) : Int)) ≤ y.1)))) hf rfl rfl rfl (fun hact => (r_ge (gb_ev hact rfl) (gb_ev hact rfl))) rfl rfl ?_; clear hf fa; intro fa hf
      refine sqv hf (r_pickO (b := (decide (y.1 < ((k : Nat) : Int)))) (e := (decide ((((k : Nat) : Int) + ((s.size : Nat) : Int)) ≤ y.1))) rfl rfl rfl) rfl rfl rfl ?_; clear hf fa; intro fa hf
      apply wpList_nil
      (try simp only [Exit.then, Exit.inBlock, ↓reduceIte, Nat.reduceEqDiff])
      refine hK8 _ _ ?_
      refine wp_cond_split (t := ((decide (y.1 < ((k : Nat) : Int))) || (decide ((((k : Nat) : Int) + ((s.size : Nat) : Int)) ≤ y.1)))) (hf.ev rfl) (fun hqt39_1 => ?_) (fun hqt39_1 => ?_)
      · have hqt39_1b := hqt39_1
        try simp only [decide_eq_true_eq, Bool.and_eq_true, Bool.or_eq_true, Bool.not_eq_true', decide_eq_false_iff_not, ne_eq, Bool.not_eq_true] at hqt39_1
        refine wp_region_lit ?_
        refine sqv hf (r_move rfl) rfl rfl rfl ?_; clear hf fa; intro fa hf
        refine sqv hf (r_fa rfl Try.underlying111 (f := 2) (q := 2) rfl (by kernel_rfl) rfl) rfl rfl rfl ?_; clear hf fa; intro fa hf
        refine sqv hf (r_load (v := (.slice ca C.length cc)) rfl Try.underlying109 rfl (cell_blk hkb1 rfl)) rfl rfl rfl ?_; clear hf fa; intro fa hf
        refine sqv hf (r_move rfl) rfl rfl rfl ?_; clear hf fa; intro fa hf
        refine sqv hf (r_ixa (sz := 2) (j := i) (evAt rfl hat1) rfl Try.underlying109 (by kernel_rfl) rfl (by omega) rfl) rfl rfl rfl ?_; clear hf fa; intro fa hf
        refine sqv hf (r_loadA (cs := [(.int .i64 y.1), (.int .u8 y.2)]) rfl Try.underlying162 rfl (by kernel_rfl) (cellsAt_below hel1 hb hlb1)) rfl rfl rfl ?_; clear hf fa; intro fa hf
        refine sqdt hf (d_bslice (z := (.agg #[(.int .i64 (0 : Int)), (.int .u8 (0 : Int))])) (sz := 2) (vs := [(0, (.agg #[(.int .i64 y.1), (.int .u8 y.2)]))]) (cs := #[(.int .i64 y.1), (.int .u8 y.2)]) rfl Try.underlying109 (by kernel_rfl) rfl (by kernel_rfl)) rfl rfl rfl ?_; clear hf fa; rintro fa _ w4 ⟨b3, rfl, hle3, hk3, he3⟩ hf
        have hBb3 : w.heap.size ≤ b3 := Nat.le_trans hb.size hle3
        have : b1 < b3 := Nat.lt_of_lt_of_le (blk_lt hkb1) hle3
        have : b2 < b3 := Nat.lt_of_lt_of_le (blk_lt hkb2) hle3
        have hnr1 : (Value.slice roa (((((C.take i).filter (wrQ k s.size))).length)) roc).ownBlock ≠ some b3 := fun hq => by have := (Row.lt hro _ hq).2; omega
        have hnl1 : ∀ q, (Value.slice roa (((((C.take i).filter (wrQ k s.size))).length)) roc).ownBlock = some q → q < b3 := fun q hq => Nat.lt_of_lt_of_le (Row.lt hro q hq).2 hle3
        replace hkb1 := blk_ext hkb1 he3
        replace hkb2 := blk_ext hkb2 he3
        replace hro := Row.ext hro he3
        replace hb := hb.trans (Below.mono he3 hb.size)
        have hs1 := Row.rd (by intros; rfl) (Row.of_new (k := 2) (V := vCe) (l := [y]) hk3 (Nat.le_refl _) rfl rfl (Nat.le_of_ble_eq_true rfl))
        refine sqdt hf (d_append (V := vCe) (k := 2) (e := 162) (bytes := 16) (z := (.agg #[(.int .i64 (0 : Int)), (.int .u8 (0 : Int))])) (news := [y]) (base := w.heap.size) (by intros; rfl) (by exact oneCe) rfl rfl Try.underlying109 (by kernel_rfl) rfl rfl rfl hro hs1 rfl (fun h => by cases h) (by first | omega | (simp only [List.length_cons, List.length_nil, List.length_append, nums_len]; omega)) (by have := hb.size; omega)) rfl rfl rfl ?_; clear hf fa; rintro fa v w5 ⟨hr1, hg1⟩ hf; obtain ⟨ra1, rc1, rfl, hcrc1, hmrc1⟩ := Row.slice hr1
        replace hkb1 := blk_row' hkb1 hg1 (Row.ne_type hro hkb1 rfl)
        replace hkb2 := blk_row' hkb2 hg1 (Row.ne_type hro hkb2 rfl)
        replace hb := hb.trans (row_below hro hg1 hb.size (by have := hb.size; omega))
        refine sqv hf (r_assign rfl) rfl rfl rfl ?_; clear hf fa; intro fa hf
        apply wpList_nil
        (try simp only [Exit.then, Exit.inBlock, ↓reduceIte, Nat.reduceEqDiff])
        refine hK7 _ _ ?_
        refine wp_region_lit ?_
        refine sqv hf (r_move rfl) rfl rfl rfl ?_; clear hf fa; intro fa hf
        refine sqv hf (r_add (C := (((i : Nat) : Int) + (1 : Int))) rfl rfl (by rw [IntKind.wrap_i64]; omega)) rfl rfl rfl ?_; clear hf fa; intro fa hf
        refine sqv hf (r_assign rfl) rfl rfl rfl ?_; clear hf fa; intro fa hf
        apply wpList_nil
        (try simp only [Exit.then, Exit.inBlock, ↓reduceIte, Nat.reduceEqDiff])
        have hst := filter_yes (C := C) (j := i) (p := (wrQ k s.size)) hy (by have h := hqt39_1; unfold wrQ; first | simpa using h | (simp; omega))
        have hsl := congrArg List.length hst
        try simp only [List.length_append, List.length_cons, List.length_nil] at hsl
        refine hKL1 _ _ _ (by omega) ⟨(i + 1), ra1, rc1, rfl, hf.sub ⟨rfl, rfl, rfl, rfl, (some_int (by first | rfl | omega)), (some_sl (by first | omega | (simp only [List.length_append, List.length_cons, List.length_nil]; omega) | (simp <;> omega)) rfl), trivial⟩, hb, (crowE2 hr1 (by first | exact .inl hst | exact .inr hst)), hkb1, hkb2, by omega⟩
      · have hqt39_1b := hqt39_1
        replace hqt39_1 := Bool.eq_false_iff.1 hqt39_1
        try simp only [ne_eq, decide_eq_true_eq, Bool.and_eq_true, Bool.or_eq_true, Bool.not_eq_true', decide_eq_false_iff_not] at hqt39_1
        refine wp_skip ?_
        (try simp only [Exit.then, Exit.inBlock, ↓reduceIte, Nat.reduceEqDiff])
        refine hK7 _ _ ?_
        refine wp_region_lit ?_
        refine sqv hf (r_move rfl) rfl rfl rfl ?_; clear hf fa; intro fa hf
        refine sqv hf (r_add (C := (((i : Nat) : Int) + (1 : Int))) rfl rfl (by rw [IntKind.wrap_i64]; omega)) rfl rfl rfl ?_; clear hf fa; intro fa hf
        refine sqv hf (r_assign rfl) rfl rfl rfl ?_; clear hf fa; intro fa hf
        apply wpList_nil
        (try simp only [Exit.then, Exit.inBlock, ↓reduceIte, Nat.reduceEqDiff])
        have hst := filter_no (C := C) (j := i) (p := (wrQ k s.size)) hy (by have h := hqt39_1; unfold wrQ; first | simpa using h | (simp; omega))
        have hsl := congrArg List.length hst
        try simp only [List.length_append, List.length_cons, List.length_nil] at hsl
        refine hKL1 _ _ _ (by omega) ⟨(i + 1), roa, roc, rfl, hf.sub ⟨rfl, rfl, rfl, rfl, (some_int (by first | rfl | omega)), (some_sl (by first | omega | (simp only [List.length_append, List.length_cons, List.length_nil]; omega) | (simp <;> omega)) rfl), trivial⟩, hb, (crowE2 hro (by first | exact .inl hst | exact .inr hst)), hkb1, hkb2, by omega⟩
    · have hqt14_1b := hqt14_1
      replace hqt14_1 := Bool.eq_false_iff.1 hqt14_1
      try simp only [ne_eq, decide_eq_true_eq, Bool.and_eq_true, Bool.or_eq_true, Bool.not_eq_true', decide_eq_false_iff_not] at hqt14_1
      refine wp_exit ?_
      (try simp only [Exit.then, Exit.inBlock, ↓reduceIte, Nat.reduceEqDiff])
      refine hK3 _ _ ?_
      refine wp_seq_k (fun K9 hK9 => ?_)
      refine wp_seq_k (fun K10 hK10 => ?_)
      have hl2 : ((C.take i).filter (wrQ k s.size)).length = (C.filter (wrQ k s.size) ++ newC k s 0).length := by rw [List.take_of_length_le (by omega), newC, List.append_nil]
      refine wp_region_lit ?_
      refine sqv hf (r_assign rfl) rfl rfl rfl ?_; clear hf fa; intro fa hf
      apply wpList_nil
      (try simp only [Exit.then, Exit.inBlock, ↓reduceIte, Nat.reduceEqDiff])
      refine hK10 _ _ ?_
      refine wp_block ?_
      refine wp_loop_k (fun mq fa wr => ∃ (m : Nat) (rpa : Option Addr) (rpc : Nat), mq = s.size - m ∧ Fr 68 fa [(1, (.int .u64 ((k : Nat) : Int))), (2, (.string s)), (3, (.pointer (some ⟨b1, 0, none⟩))), (6, (.pointer (some ⟨b2, 0, none⟩))), (9, (.int .i64 ((m : Nat) : Int))), (7, (.slice rpa (((C.filter (wrQ k s.size) ++ newC k s m)).length) rpc))] ∧ Below w.heap.size w wr ∧ Row 2 vCe 162 (w.heap.size) wr (.slice rpa (((C.filter (wrQ k s.size) ++ newC k s m)).length) rpc) (C.filter (wrQ k s.size) ++ newC k s m) ∧ wr.heap[b1]? = some (.cells #[(.int .i64 ((ln : Nat) : Int)), (.int .i64 mo), (.slice ca C.length cc)] 111 (0, 0)) ∧ wr.heap[b2]? = some (.cells #[(.int .i64 (0 : Int)), (.int .i64 (0 : Int)), (.slice none 0 0)] 111 (0, 0)) ∧ (m ≤ s.size)) ?_ ?_
      · skip
        exact ⟨_, 0, roa, roc, rfl, hf.sub ⟨rfl, rfl, rfl, rfl, (some_int (by first | rfl | omega)), (some_sl (by first | omega | (simp only [List.length_append, List.length_cons, List.length_nil]; omega) | (simp <;> omega)) rfl), trivial⟩, hb, (crowE2 hro (.inl (by rw [List.take_of_length_le (by omega)]; exact List.append_nil _))), hkb1, hkb2, by omega⟩
      · skip
        clear hf fa; intro mq2 fa w6 hI KL2 hKL2
        clear hb
        clear hkb1
        clear hkb2
        clear hro
        obtain ⟨m, rpa, rpc, hmq2, hf, hb, hrp, hkb1, hkb2, hm2⟩ := hI
        have hcrp := Row.caps hrp
        have hnl := newC_len k s m
        have hfl3 : (C.filter (wrQ k s.size)).length ≤ C.length := List.length_filter_le _ _
        have hap : (C.filter (wrQ k s.size) ++ newC k s m).length = (C.filter (wrQ k s.size)).length + m := by rw [List.length_append, hnl]
        refine wp_seq_k (fun K11 hK11 => ?_)
        refine wp_seq_k (fun K12 hK12 => ?_)
        refine wp_region_lit ?_
        refine sqv hf (r_move rfl) rfl rfl rfl ?_; clear hf fa; intro fa hf
        refine sqv hf (r_move rfl) rfl rfl rfl ?_; clear hf fa; intro fa hf
        refine sqv hf (r_lens rfl Try.underlying9) rfl rfl rfl ?_; clear hf fa; intro fa hf
        refine sqv hf (r_lt rfl rfl) rfl rfl rfl ?_; clear hf fa; intro fa hf
        apply wpList_nil
        (try simp only [Exit.then, Exit.inBlock, ↓reduceIte, Nat.reduceEqDiff])
        refine hK12 _ _ ?_
        refine wp_cond_split (t := (decide (((m : Nat) : Int) < ((s.size : Nat) : Int)))) (hf.ev rfl) (fun hqt51_1 => ?_) (fun hqt51_1 => ?_)
        · have hqt51_1b := hqt51_1
          try simp only [decide_eq_true_eq, Bool.and_eq_true, Bool.or_eq_true, Bool.not_eq_true', decide_eq_false_iff_not, ne_eq, Bool.not_eq_true] at hqt51_1
          refine wp_skip ?_
          (try simp only [Exit.then, Exit.inBlock, ↓reduceIte, Nat.reduceEqDiff])
          refine hK11 _ _ ?_
          refine wp_seq_k (fun K13 hK13 => ?_)
          refine wp_block ?_
          refine wp_region_lit ?_
          refine sqv hf (r_move rfl) rfl rfl rfl ?_; clear hf fa; intro fa hf
          refine sqv hf (r_move rfl) rfl rfl rfl ?_; clear hf fa; intro fa hf
          refine sqv hf (r_conv (C := ((k : Nat) : Int)) rfl Try.underlying26 Try.underlying3 (by rw [IntKind.wrap_i64]; omega)) rfl rfl rfl ?_; clear hf fa; intro fa hf
          refine sqv hf (r_move rfl) rfl rfl rfl ?_; clear hf fa; intro fa hf
          refine sqv hf (r_add (C := (((k : Nat) : Int) + ((m : Nat) : Int))) rfl rfl (by rw [IntKind.wrap_i64]; omega)) rfl rfl rfl ?_; clear hf fa; intro fa hf
          refine sqv hf (r_move rfl) rfl rfl rfl ?_; clear hf fa; intro fa hf
          refine sqv hf (r_move rfl) rfl rfl rfl ?_; clear hf fa; intro fa hf
          refine sqv hf (r_sindexD (j := m) rfl rfl Try.underlying9 rfl (by omega)) rfl rfl rfl ?_; clear hf fa; intro fa hf
          refine sqv hf (r_build (vs := [(0, (.int .i64 (((k : Nat) : Int) + ((m : Nat) : Int)))), (1, (.int .u8 ((sbt s m : Nat) : Int)))]) (cs := #[(.int .i64 (((k : Nat) : Int) + ((m : Nat) : Int))), (.int .u8 ((sbt s m : Nat) : Int))]) rfl (fun _ => by kernel_rfl)) rfl rfl rfl ?_; clear hf fa; intro fa hf
          refine sqdt hf (d_bslice (z := (.agg #[(.int .i64 (0 : Int)), (.int .u8 (0 : Int))])) (sz := 2) (vs := [(0, (.agg #[(.int .i64 (((k : Nat) : Int) + ((m : Nat) : Int))), (.int .u8 ((sbt s m : Nat) : Int))]))]) (cs := #[(.int .i64 (((k : Nat) : Int) + ((m : Nat) : Int))), (.int .u8 ((sbt s m : Nat) : Int))]) rfl Try.underlying109 (by kernel_rfl) rfl (by kernel_rfl)) rfl rfl rfl ?_; clear hf fa; rintro fa _ w7 ⟨b4, rfl, hle4, hk4, he4⟩ hf
          have hBb4 : w.heap.size ≤ b4 := Nat.le_trans hb.size hle4
          have : b1 < b4 := Nat.lt_of_lt_of_le (blk_lt hkb1) hle4
          have : b2 < b4 := Nat.lt_of_lt_of_le (blk_lt hkb2) hle4
          have hnr2 : (Value.slice rpa ((((C.filter (wrQ k s.size) ++ newC k s m)).length)) rpc).ownBlock ≠ some b4 := fun hq => by have := (Row.lt hrp _ hq).2; omega
          have hnl2 : ∀ q, (Value.slice rpa ((((C.filter (wrQ k s.size) ++ newC k s m)).length)) rpc).ownBlock = some q → q < b4 := fun q hq => Nat.lt_of_lt_of_le (Row.lt hrp q hq).2 hle4
          replace hkb1 := blk_ext hkb1 he4
          replace hkb2 := blk_ext hkb2 he4
          replace hrp := Row.ext hrp he4
          replace hb := hb.trans (Below.mono he4 hb.size)
          have hs2 := Row.rd (by intros; rfl) (Row.of_new (k := 2) (V := vCe) (l := [(((((k : Nat) : Int) + ((m : Nat) : Int)), ((sbt s m : Nat) : Int)) : MCe)]) hk4 (Nat.le_refl _) rfl rfl (Nat.le_of_ble_eq_true rfl))
          refine sqdt hf (d_append (V := vCe) (k := 2) (e := 162) (bytes := 16) (z := (.agg #[(.int .i64 (0 : Int)), (.int .u8 (0 : Int))])) (news := [(((((k : Nat) : Int) + ((m : Nat) : Int)), ((sbt s m : Nat) : Int)) : MCe)]) (base := w.heap.size) (by intros; rfl) (by exact oneCe) rfl rfl Try.underlying109 (by kernel_rfl) rfl rfl rfl hrp hs2 rfl (fun h => by cases h) (by first | omega | (simp only [List.length_cons, List.length_nil, List.length_append, nums_len]; omega)) (by have := hb.size; omega)) rfl rfl rfl ?_; clear hf fa; rintro fa v w8 ⟨hr2, hg2⟩ hf; obtain ⟨ra2, rc2, rfl, hcrc2, hmrc2⟩ := Row.slice hr2
          replace hkb1 := blk_row' hkb1 hg2 (Row.ne_type hrp hkb1 rfl)
          replace hkb2 := blk_row' hkb2 hg2 (Row.ne_type hrp hkb2 rfl)
          replace hb := hb.trans (row_below hrp hg2 hb.size (by have := hb.size; omega))
          refine sqv hf (r_assign rfl) rfl rfl rfl ?_; clear hf fa; intro fa hf
          apply wpList_nil
          (try simp only [Exit.then, Exit.inBlock, ↓reduceIte, Nat.reduceEqDiff])
          refine hK13 _ _ ?_
          refine wp_region_lit ?_
          refine sqv hf (r_move rfl) rfl rfl rfl ?_; clear hf fa; intro fa hf
          refine sqv hf (r_add (C := (((m : Nat) : Int) + (1 : Int))) rfl rfl (by rw [IntKind.wrap_i64]; omega)) rfl rfl rfl ?_; clear hf fa; intro fa hf
          refine sqv hf (r_assign rfl) rfl rfl rfl ?_; clear hf fa; intro fa hf
          apply wpList_nil
          (try simp only [Exit.then, Exit.inBlock, ↓reduceIte, Nat.reduceEqDiff])
          have hnl2 := newC_len k s (m + 1)
          have hst := newC_step (C.filter (wrQ k s.size)) k s m
          have hsl := congrArg List.length hst
          simp only [List.length_append, List.length_cons, List.length_nil] at hsl
          refine hKL2 _ _ _ (by omega) ⟨(m + 1), ra2, rc2, rfl, hf.sub ⟨rfl, rfl, rfl, rfl, (some_int (by first | rfl | omega)), (some_sl (by first | omega | (simp only [List.length_append, List.length_cons, List.length_nil]; omega) | (simp <;> omega)) rfl), trivial⟩, hb, (crowE2 hr2 (.inr hst)), hkb1, hkb2, by omega⟩
        · have hqt51_1b := hqt51_1
          replace hqt51_1 := Bool.eq_false_iff.1 hqt51_1
          try simp only [ne_eq, decide_eq_true_eq, Bool.and_eq_true, Bool.or_eq_true, Bool.not_eq_true', decide_eq_false_iff_not] at hqt51_1
          refine wp_exit ?_
          (try simp only [Exit.then, Exit.inBlock, ↓reduceIte, Nat.reduceEqDiff])
          refine hK9 _ _ ?_
          refine wp_seq_k (fun K14 hK14 => ?_)
          refine wp_region_lit ?_
          refine sqv hf (r_move rfl) rfl rfl rfl ?_; clear hf fa; intro fa hf
          refine sqv hf (r_fa rfl Try.underlying111 (f := 2) (q := 2) rfl (by kernel_rfl) rfl) rfl rfl rfl ?_; clear hf fa; intro fa hf
          refine sqn hf (d_storeK (T := 111) (v := (.slice rpa (((C.filter (wrQ k s.size) ++ newC k s m)).length) rpc)) (cs := #[(.int .i64 ((ln : Nat) : Int)), (.int .i64 mo), (.slice ca C.length cc)]) (cs' := #[(.int .i64 ((ln : Nat) : Int)), (.int .i64 mo), (.slice rpa (((C.filter (wrQ k s.size) ++ newC k s m)).length) rpc)]) rfl rfl (by kernel_rfl) (by kernel_rfl) hkb1 (by kernel_rfl) (by kernel_rfl)) rfl rfl ?_; clear hf fa; rintro fa _ w9 ⟨hk5, hg3⟩ hf
          replace hkb2 := blk_grown hkb2 hg3 (by omega)
          replace hrp := Row.grown hrp hg3 (Row.ne_type hrp hkb1 rfl)
          replace hb := hb.trans (grown_below hg3 hb.size hBb1)
          apply wpList_nil
          (try simp only [Exit.then, Exit.inBlock, ↓reduceIte, Nat.reduceEqDiff])
          refine hK14 _ _ ?_
          refine wp_seq_k (fun K15 hK15 => ?_)
          refine wp_region_lit ?_
          refine sqv hf (r_loadA (cs := [(.int .i64 ((ln : Nat) : Int)), (.int .i64 mo), (.slice rpa (((C.filter (wrQ k s.size) ++ newC k s m)).length) rpc)]) rfl Try.underlying111 rfl (by kernel_rfl) (cellsAt_blk hk5)) rfl rfl rfl ?_; clear hf fa; intro fa hf
          refine sqn hf (d_storeK (T := 111) (v := (.agg #[(.int .i64 ((ln : Nat) : Int)), (.int .i64 mo), (.slice rpa (((C.filter (wrQ k s.size) ++ newC k s m)).length) rpc)])) (cs := #[(.int .i64 (0 : Int)), (.int .i64 (0 : Int)), (.slice none 0 0)]) (cs' := #[(.int .i64 ((ln : Nat) : Int)), (.int .i64 mo), (.slice rpa (((C.filter (wrQ k s.size) ++ newC k s m)).length) rpc)]) rfl rfl (by kernel_rfl) (by kernel_rfl) hkb2 (by kernel_rfl) (by kernel_rfl)) rfl rfl ?_; clear hf fa; rintro fa _ w10 ⟨hk6, hg4⟩ hf
          replace hk5 := blk_grown hk5 hg4 (by omega)
          replace hrp := Row.grown hrp hg4 (Row.ne_type hrp hkb2 rfl)
          replace hb := hb.trans (grown_below hg4 hb.size hBb2)
          apply wpList_nil
          (try simp only [Exit.then, Exit.inBlock, ↓reduceIte, Nat.reduceEqDiff])
          refine hK15 _ _ ?_
          refine wp_ret ?_
          (try simp only [Exit.then, Exit.inBlock])
          refine retC hf rfl rfl hk6 Try.underlying111 rfl (by kernel_rfl) ?_
          obtain rfl : m = s.size := by omega
          exact ⟨_, rfl, _, _, rfl, hrp, hb⟩
end Go.Proofs.Ytmcmickgllffoaa
