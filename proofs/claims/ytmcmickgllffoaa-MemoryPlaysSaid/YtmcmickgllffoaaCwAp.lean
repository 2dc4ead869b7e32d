/- What is proved here: the instructions of a memory. -/
import Derived.Test.YtmcmickgllffoaaCvNp
import Derived.Test.YtmcmickgllffoaaSxGp
import Derived.Test.YtmcmickgllffoaaSxKp
namespace Go.Proofs.Ytmcmickgllffoaa
open Go.RowKit
set_option linter.unusedVariables false
set_option linter.unusedSimpArgs false
/-- The names of the instructions from 28 to 3e. -/
def namesL : List ByteArray := [⟨#[105, 51, 50, 46, 108, 111, 97, 100]⟩, ⟨#[105, 54, 52, 46, 108, 111, 97, 100]⟩, ⟨#[]⟩, ⟨#[]⟩, ⟨#[105, 51, 50, 46, 108, 111, 97, 100, 56, 95, 115]⟩, ⟨#[105, 51, 50, 46, 108, 111, 97, 100, 56, 95, 117]⟩, ⟨#[105, 51, 50, 46, 108, 111, 97, 100, 49, 54, 95, 115]⟩, ⟨#[105, 51, 50, 46, 108, 111, 97, 100, 49, 54, 95, 117]⟩, ⟨#[105, 54, 52, 46, 108, 111, 97, 100, 56, 95, 115]⟩, ⟨#[105, 54, 52, 46, 108, 111, 97, 100, 56, 95, 117]⟩, ⟨#[105, 54, 52, 46, 108, 111, 97, 100, 49, 54, 95, 115]⟩, ⟨#[105, 54, 52, 46, 108, 111, 97, 100, 49, 54, 95, 117]⟩, ⟨#[105, 54, 52, 46, 108, 111, 97, 100, 51, 50, 95, 115]⟩, ⟨#[105, 54, 52, 46, 108, 111, 97, 100, 51, 50, 95, 117]⟩, ⟨#[105, 51, 50, 46, 115, 116, 111, 114, 101]⟩, ⟨#[105, 54, 52, 46, 115, 116, 111, 114, 101]⟩, ⟨#[]⟩, ⟨#[]⟩, ⟨#[105, 51, 50, 46, 115, 116, 111, 114, 101, 56]⟩, ⟨#[105, 51, 50, 46, 115, 116, 111, 114, 101, 49, 54]⟩, ⟨#[105, 54, 52, 46, 115, 116, 111, 114, 101, 56]⟩, ⟨#[105, 54, 52, 46, 115, 116, 111, 114, 101, 49, 54]⟩, ⟨#[105, 54, 52, 46, 115, 116, 111, 114, 101, 51, 50]⟩]
def nameO (op : Nat) : ByteArray := namesL.getD (op - 40) ⟨#[]⟩
theorem nameO_at {op : Nat} (h : op - 40 < 23) : namesL[op - 40]? = some (nameO op) := by
  unfold nameO
  exact getD_at (l := namesL) (j := op - 40) _ h
theorem nameO_two {op : Nat} (h : ¬ nameO op = ⟨#[]⟩) : 2 ≤ (nameO op).size := by
  by_cases hk : op - 40 < 23
  · have : ∀ j : Fin 23, namesL.getD j.val ⟨#[]⟩ = ⟨#[]⟩ ∨ 2 ≤ (namesL.getD j.val ⟨#[]⟩).size := by decide +kernel
    rcases this ⟨op - 40, hk⟩ with h2 | h2
    · exact absurd h2 h
    · exact h2
  · exfalso; apply h; unfold nameO
    rw [List.getD_eq_getElem?_getD, List.getElem?_eq_none (by show 23 ≤ op - 40; omega)]; rfl
theorem nameO_le (op : Nat) : (nameO op).size ≤ 20 := by
  by_cases hk : op - 40 < 23
  · have : ∀ j : Fin 23, (namesL.getD j.val ⟨#[]⟩).size ≤ 20 := by decide +kernel
    exact this ⟨op - 40, hk⟩
  · unfold nameO
    rw [List.getD_eq_getElem?_getD, List.getElem?_eq_none (by show 23 ≤ op - 40; omega)]; decide

def memP (op : Nat) : (ByteArray × Int × ByteArray × ByteArray × Bool × Unit) :=
  bif (decide (((op : Nat) : Int) = (63 : Int))) then (⟨#[109, 101, 109, 111, 114, 121, 46, 115, 105, 122, 101]⟩, (9 : Int), ⟨#[]⟩, ⟨#[127]⟩, false, ())
  else bif (decide (((op : Nat) : Int) = (64 : Int))) then (⟨#[109, 101, 109, 111, 114, 121, 46, 103, 114, 111, 119]⟩, (9 : Int), ⟨#[127]⟩, ⟨#[127]⟩, false, ())
  else bif (decide (op < 40 ∨ 62 < op)) then (⟨#[]⟩, (0 : Int), ⟨#[]⟩, ⟨#[]⟩, false, ())
  else bif (decide ((nameO op) = ⟨#[]⟩)) then (⟨#[]⟩, (0 : Int), ⟨#[]⟩, ⟨#[]⟩, false, ())
  else bif (decide (((sbt (nameO op) 1 : Nat) : Int) = (51 : Int))) then bif (decide (((op : Nat) : Int) < (54 : Int))) then ((nameO op), (8 : Int), ⟨#[127]⟩, ⟨#[127]⟩, false, ())
  else ((nameO op), (8 : Int), (⟨#[127]⟩ ++ ⟨#[127]⟩), ⟨#[]⟩, false, ())
  else bif (decide (((op : Nat) : Int) < (54 : Int))) then ((nameO op), (8 : Int), ⟨#[127]⟩, ⟨#[126]⟩, false, ())
  else ((nameO op), (8 : Int), (⟨#[127]⟩ ++ ⟨#[126]⟩), ⟨#[]⟩, false, ())

set_option maxHeartbeats 1000000 in
set_option maxRecDepth 100000 in
theorem mem_any (op : Nat) (w : World) (hop : op < 256) : Calls Try.prog 86 #[(.int .u8 ((op : Nat) : Int))] w fun e w' => e = .returned (.agg #[(.string (memP op).1), (.int .i64 ((memP op).2.1)), (.string (memP op).2.2.1), (.string (memP op).2.2.2.1), (.bool (memP op).2.2.2.2.1)]) ∧ Below w.heap.size w w' := by
  refine sx_enter (L := [(0, (.int .u8 ((op : Nat) : Int)))]) Try.func86 rfl rfl rfl rfl (fun fa hf => ?_)
  have hb : Below w.heap.size w w := Below.refl _ _
  refine wp_seq_k (fun K1 hK1 => ?_)
  refine wp_region_lit ?_
  refine sqdt hf (d_alloc (z := (.agg #[(.string ⟨#[]⟩), (.int .i64 (0 : Int)), (.string ⟨#[]⟩), (.string ⟨#[]⟩), (.bool false)])) (cs := #[(.string ⟨#[]⟩), (.int .i64 (0 : Int)), (.string ⟨#[]⟩), (.string ⟨#[]⟩), (.bool false)]) (by kernel_rfl) rfl) rfl rfl rfl ?_; clear hf fa; rintro fa _ w1 ⟨b1, rfl, hle1, hk1, he1⟩ hf
  have hBb1 : w.heap.size ≤ b1 := Nat.le_trans hb.size hle1
  replace hb := hb.trans (Below.mono he1 hb.size)
  apply wpList_nil
  (try simp only [Exit.then, Exit.inBlock, ↓reduceIte, Nat.reduceEqDiff])
  refine hK1 _ _ ?_
  refine wp_seq_k (fun K2 hK2 => ?_)
  refine wp_region_lit ?_
  refine sqv hf (r_build (vs := [(0, (.string ⟨#[105, 51, 50, 46, 108, 111, 97, 100]⟩)), (1, (.string ⟨#[105, 54, 52, 46, 108, 111, 97, 100]⟩)), (2, (.string ⟨#[]⟩)), (3, (.string ⟨#[]⟩)), (4, (.string ⟨#[105, 51, 50, 46, 108, 111, 97, 100, 56, 95, 115]⟩)), (5, (.string ⟨#[105, 51, 50, 46, 108, 111, 97, 100, 56, 95, 117]⟩)), (6, (.string ⟨#[105, 51, 50, 46, 108, 111, 97, 100, 49, 54, 95, 115]⟩)), (7, (.string ⟨#[105, 51, 50, 46, 108, 111, 97, 100, 49, 54, 95, 117]⟩)), (8, (.string ⟨#[105, 54, 52, 46, 108, 111, 97, 100, 56, 95, 115]⟩)), (9, (.string ⟨#[105, 54, 52, 46, 108, 111, 97, 100, 56, 95, 117]⟩)), (10, (.string ⟨#[105, 54, 52, 46, 108, 111, 97, 100, 49, 54, 95, 115]⟩)), (11, (.string ⟨#[105, 54, 52, 46, 108, 111, 97, 100, 49, 54, 95, 117]⟩)), (12, (.string ⟨#[105, 54, 52, 46, 108, 111, 97, 100, 51, 50, 95, 115]⟩)), (13, (.string ⟨#[105, 54, 52, 46, 108, 111, 97, 100, 51, 50, 95, 117]⟩)), (14, (.string ⟨#[105, 51, 50, 46, 115, 116, 111, 114, 101]⟩)), (15, (.string ⟨#[105, 54, 52, 46, 115, 116, 111, 114, 101]⟩)), (16, (.string ⟨#[]⟩)), (17, (.string ⟨#[]⟩)), (18, (.string ⟨#[105, 51, 50, 46, 115, 116, 111, 114, 101, 56]⟩)), (19, (.string ⟨#[105, 51, 50, 46, 115, 116, 111, 114, 101, 49, 54]⟩)), (20, (.string ⟨#[105, 54, 52, 46, 115, 116, 111, 114, 101, 56]⟩)), (21, (.string ⟨#[105, 54, 52, 46, 115, 116, 111, 114, 101, 49, 54]⟩)), (22, (.string ⟨#[105, 54, 52, 46, 115, 116, 111, 114, 101, 51, 50]⟩))]) (cs := #[(.string ⟨#[105, 51, 50, 46, 108, 111, 97, 100]⟩), (.string ⟨#[105, 54, 52, 46, 108, 111, 97, 100]⟩), (.string ⟨#[]⟩), (.string ⟨#[]⟩), (.string ⟨#[105, 51, 50, 46, 108, 111, 97, 100, 56, 95, 115]⟩), (.string ⟨#[105, 51, 50, 46, 108, 111, 97, 100, 56, 95, 117]⟩), (.string ⟨#[105, 51, 50, 46, 108, 111, 97, 100, 49, 54, 95, 115]⟩), (.string ⟨#[105, 51, 50, 46, 108, 111, 97, 100, 49, 54, 95, 117]⟩), (.string ⟨#[105, 54, 52, 46, 108, 111, 97, 100, 56, 95, 115]⟩), (.string ⟨#[105, 54, 52, 46, 108, 111, 97, 100, 56, 95, 117]⟩), (.string ⟨#[105, 54, 52, 46, 108, 111, 97, 100, 49, 54, 95, 115]⟩), (.string ⟨#[105, 54, 52, 46, 108, 111, 97, 100, 49, 54, 95, 117]⟩), (.string ⟨#[105, 54, 52, 46, 108, 111, 97, 100, 51, 50, 95, 115]⟩), (.string ⟨#[105, 54, 52, 46, 108, 111, 97, 100, 51, 50, 95, 117]⟩), (.string ⟨#[105, 51, 50, 46, 115, 116, 111, 114, 101]⟩), (.string ⟨#[105, 54, 52, 46, 115, 116, 111, 114, 101]⟩), (.string ⟨#[]⟩), (.string ⟨#[]⟩), (.string ⟨#[105, 51, 50, 46, 115, 116, 111, 114, 101, 56]⟩), (.string ⟨#[105, 51, 50, 46, 115, 116, 111, 114, 101, 49, 54]⟩), (.string ⟨#[105, 54, 52, 46, 115, 116, 111, 114, 101, 56]⟩), (.string ⟨#[105, 54, 52, 46, 115, 116, 111, 114, 101, 49, 54]⟩), (.string ⟨#[105, 54, 52, 46, 115, 116, 111, 114, 101, 51, 50]⟩)]) rfl (fun _ => by kernel_rfl)) rfl rfl rfl ?_; clear hf fa; intro fa hf
  refine sqdt hf (d_alloc (z := (.agg #[(.string ⟨#[]⟩), (.string ⟨#[]⟩), (.string ⟨#[]⟩), (.string ⟨#[]⟩), (.string ⟨#[]⟩), (.string ⟨#[]⟩), (.string ⟨#[]⟩), (.string ⟨#[]⟩), (.string ⟨#[]⟩), (.string ⟨#[]⟩), (.string ⟨#[]⟩), (.string ⟨#[]⟩), (.string ⟨#[]⟩), (.string ⟨#[]⟩), (.string ⟨#[]⟩), (.string ⟨#[]⟩), (.string ⟨#[]⟩), (.string ⟨#[]⟩), (.string ⟨#[]⟩), (.string ⟨#[]⟩), (.string ⟨#[]⟩), (.string ⟨#[]⟩), (.string ⟨#[]⟩)])) (cs := #[(.string ⟨#[]⟩), (.string ⟨#[]⟩), (.string ⟨#[]⟩), (.string ⟨#[]⟩), (.string ⟨#[]⟩), (.string ⟨#[]⟩), (.string ⟨#[]⟩), (.string ⟨#[]⟩), (.string ⟨#[]⟩), (.string ⟨#[]⟩), (.string ⟨#[]⟩), (.string ⟨#[]⟩), (.string ⟨#[]⟩), (.string ⟨#[]⟩), (.string ⟨#[]⟩), (.string ⟨#[]⟩), (.string ⟨#[]⟩), (.string ⟨#[]⟩), (.string ⟨#[]⟩), (.string ⟨#[]⟩), (.string ⟨#[]⟩), (.string ⟨#[]⟩), (.string ⟨#[]⟩)]) (by kernel_rfl) rfl) rfl rfl rfl ?_; clear hf fa; rintro fa _ w2 ⟨b2, rfl, hle2, hk2, he2⟩ hf
  have hBb2 : w.heap.size ≤ b2 := Nat.le_trans hb.size hle2
  have : b1 < b2 := Nat.lt_of_lt_of_le (blk_lt hk1) hle2
  replace hk1 := blk_ext hk1 he2
  replace hb := hb.trans (Below.mono he2 hb.size)
  refine sqn hf (d_storeK (T := 178) (v := (.agg #[(.string ⟨#[105, 51, 50, 46, 108, 111, 97, 100]⟩), (.string ⟨#[105, 54, 52, 46, 108, 111, 97, 100]⟩), (.string ⟨#[]⟩), (.string ⟨#[]⟩), (.string ⟨#[105, 51, 50, 46, 108, 111, 97, 100, 56, 95, 115]⟩), (.string ⟨#[105, 51, 50, 46, 108, 111, 97, 100, 56, 95, 117]⟩), (.string ⟨#[105, 51, 50, 46, 108, 111, 97, 100, 49, 54, 95, 115]⟩), (.string ⟨#[105, 51, 50, 46, 108, 111, 97, 100, 49, 54, 95, 117]⟩), (.string ⟨#[105, 54, 52, 46, 108, 111, 97, 100, 56, 95, 115]⟩), (.string ⟨#[105, 54, 52, 46, 108, 111, 97, 100, 56, 95, 117]⟩), (.string ⟨#[105, 54, 52, 46, 108, 111, 97, 100, 49, 54, 95, 115]⟩), (.string ⟨#[105, 54, 52, 46, 108, 111, 97, 100, 49, 54, 95, 117]⟩), (.string ⟨#[105, 54, 52, 46, 108, 111, 97, 100, 51, 50, 95, 115]⟩), (.string ⟨#[105, 54, 52, 46, 108, 111, 97, 100, 51, 50, 95, 117]⟩), (.string ⟨#[105, 51, 50, 46, 115, 116, 111, 114, 101]⟩), (.string ⟨#[105, 54, 52, 46, 115, 116, 111, 114, 101]⟩), (.string ⟨#[]⟩), (.string ⟨#[]⟩), (.string ⟨#[105, 51, 50, 46, 115, 116, 111, 114, 101, 56]⟩), (.string ⟨#[105, 51, 50, 46, 115, 116, 111, 114, 101, 49, 54]⟩), (.string ⟨#[105, 54, 52, 46, 115, 116, 111, 114, 101, 56]⟩), (.string ⟨#[105, 54, 52, 46, 115, 116, 111, 114, 101, 49, 54]⟩), (.string ⟨#[105, 54, 52, 46, 115, 116, 111, 114, 101, 51, 50]⟩)])) (cs := #[(.string ⟨#[]⟩), (.string ⟨#[]⟩), (.string ⟨#[]⟩), (.string ⟨#[]⟩), (.string ⟨#[]⟩), (.string ⟨#[]⟩), (.string ⟨#[]⟩), (.string ⟨#[]⟩), (.string ⟨#[]⟩), (.string ⟨#[]⟩), (.string ⟨#[]⟩), (.string ⟨#[]⟩), (.string ⟨#[]⟩), (.string ⟨#[]⟩), (.string ⟨#[]⟩), (.string ⟨#[]⟩), (.string ⟨#[]⟩), (.string ⟨#[]⟩), (.string ⟨#[]⟩), (.string ⟨#[]⟩), (.string ⟨#[]⟩), (.string ⟨#[]⟩), (.string ⟨#[]⟩)]) (cs' := #[(.string ⟨#[105, 51, 50, 46, 108, 111, 97, 100]⟩), (.string ⟨#[105, 54, 52, 46, 108, 111, 97, 100]⟩), (.string ⟨#[]⟩), (.string ⟨#[]⟩), (.string ⟨#[105, 51, 50, 46, 108, 111, 97, 100, 56, 95, 115]⟩), (.string ⟨#[105, 51, 50, 46, 108, 111, 97, 100, 56, 95, 117]⟩), (.string ⟨#[105, 51, 50, 46, 108, 111, 97, 100, 49, 54, 95, 115]⟩), (.string ⟨#[105, 51, 50, 46, 108, 111, 97, 100, 49, 54, 95, 117]⟩), (.string ⟨#[105, 54, 52, 46, 108, 111, 97, 100, 56, 95, 115]⟩), (.string ⟨#[105, 54, 52, 46, 108, 111, 97, 100, 56, 95, 117]⟩), (.string ⟨#[105, 54, 52, 46, 108, 111, 97, 100, 49, 54, 95, 115]⟩), (.string ⟨#[105, 54, 52, 46, 108, 111, 97, 100, 49, 54, 95, 117]⟩), (.string ⟨#[105, 54, 52, 46, 108, 111, 97, 100, 51, 50, 95, 115]⟩), (.string ⟨#[105, 54, 52, 46, 108, 111, 97, 100, 51, 50, 95, 117]⟩), (.string ⟨#[105, 51, 50, 46, 115, 116, 111, 114, 101]⟩), (.string ⟨#[105, 54, 52, 46, 115, 116, 111, 114, 101]⟩), (.string ⟨#[]⟩), (.string ⟨#[]⟩), (.string ⟨#[105, 51, 50, 46, 115, 116, 111, 114, 101, 56]⟩), (.string ⟨#[105, 51, 50, 46, 115, 116, 111, 114, 101, 49, 54]⟩), (.string ⟨#[105, 54, 52, 46, 115, 116, 111, 114, 101, 56]⟩), (.string ⟨#[105, 54, 52, 46, 115, 116, 111, 114, 101, 49, 54]⟩), (.string ⟨#[105, 54, 52, 46, 115, 116, 111, 114, 101, 51, 50]⟩)]) rfl rfl (by kernel_rfl) (by kernel_rfl) hk2 (by kernel_rfl) (by kernel_rfl)) rfl rfl ?_; clear hf fa; rintro fa _ w3 ⟨hk3, hg1⟩ hf
  replace hk1 := blk_grown hk1 hg1 (by omega)
  replace hb := hb.trans (grown_below hg1 hb.size hBb2)
  apply wpList_nil
  (try simp only [Exit.then, Exit.inBlock, ↓reduceIte, Nat.reduceEqDiff])
  refine hK2 _ _ ?_
  refine wp_seq_k (fun K3 hK3 => ?_)
  refine wp_block ?_
  refine wp_seq_k (fun K4 hK4 => ?_)
  refine wp_region_lit ?_
  refine sqv hf (r_move rfl) rfl rfl rfl ?_; clear hf fa; intro fa hf
  refine sqv hf (r_eq rfl rfl) rfl rfl rfl ?_; clear hf fa; intro fa hf
  refine sqv hf (r_assign rfl) rfl rfl rfl ?_; clear hf fa; intro fa hf
  apply wpList_nil
  (try simp only [Exit.then, Exit.inBlock, ↓reduceIte, Nat.reduceEqDiff])
  refine hK4 _ _ ?_
  refine wp_cond_split (t := (decide (((op : Nat) : Int) = (63 : Int)))) (hf.ev rfl) (fun hqt7_1 => ?_) (fun hqt7_1 => ?_)
  · have hqt7_1b := hqt7_1
    try simp only [decide_eq_true_eq, Bool.and_eq_true, Bool.or_eq_true, Bool.not_eq_true', decide_eq_false_iff_not, ne_eq, Bool.not_eq_true] at hqt7_1
    refine wp_seq_k (fun K5 hK5 => ?_)
    refine wp_region_lit ?_
    refine sqv hf (r_build (vs := [(0, (.string ⟨#[109, 101, 109, 111, 114, 121, 46, 115, 105, 122, 101]⟩)), (1, (.int .i64 (9 : Int))), (3, (.string ⟨#[127]⟩))]) (cs := #[(.string ⟨#[109, 101, 109, 111, 114, 121, 46, 115, 105, 122, 101]⟩), (.int .i64 (9 : Int)), (.string ⟨#[]⟩), (.string ⟨#[127]⟩), (.bool false)]) rfl (fun _ => by kernel_rfl)) rfl rfl rfl ?_; clear hf fa; intro fa hf
    refine sqn hf (d_storeK (T := 165) (v := (.agg #[(.string ⟨#[109, 101, 109, 111, 114, 121, 46, 115, 105, 122, 101]⟩), (.int .i64 (9 : Int)), (.string ⟨#[]⟩), (.string ⟨#[127]⟩), (.bool false)])) (cs := #[(.string ⟨#[]⟩), (.int .i64 (0 : Int)), (.string ⟨#[]⟩), (.string ⟨#[]⟩), (.bool false)]) (cs' := #[(.string ⟨#[109, 101, 109, 111, 114, 121, 46, 115, 105, 122, 101]⟩), (.int .i64 (9 : Int)), (.string ⟨#[]⟩), (.string ⟨#[127]⟩), (.bool false)]) rfl rfl (by kernel_rfl) (by kernel_rfl) hk1 (by kernel_rfl) (by kernel_rfl)) rfl rfl ?_; clear hf fa; rintro fa _ w4 ⟨hk4, hg2⟩ hf
    replace hk3 := blk_grown hk3 hg2 (by omega)
    replace hb := hb.trans (grown_below hg2 hb.size hBb1)
    apply wpList_nil
    (try simp only [Exit.then, Exit.inBlock, ↓reduceIte, Nat.reduceEqDiff])
    refine hK5 _ _ ?_
    refine wp_ret ?_
    (try simp only [Exit.then, Exit.inBlock])
    refine retC hf rfl rfl hk4 Try.underlying165 rfl (by kernel_rfl) ?_
    refine ⟨?_, hb⟩; unfold memP; rw [hqt7_1b]; (try rfl)
  · have hqt7_1b := hqt7_1
    replace hqt7_1 := Bool.eq_false_iff.1 hqt7_1
    try simp only [ne_eq, decide_eq_true_eq, Bool.and_eq_true, Bool.or_eq_true, Bool.not_eq_true', decide_eq_false_iff_not] at hqt7_1
    refine wp_seq_k (fun K6 hK6 => ?_)
    refine wp_region_lit ?_
    refine sqv hf (r_move rfl) rfl rfl rfl ?_; clear hf fa; intro fa hf
    refine sqv hf (r_eq rfl rfl) rfl rfl rfl ?_; clear hf fa; intro fa hf
    refine sqv hf (r_assign rfl) rfl rfl rfl ?_; clear hf fa; intro fa hf
    apply wpList_nil
    (try simp only [Exit.then, Exit.inBlock, ↓reduceIte, Nat.reduceEqDiff])
    refine hK6 _ _ ?_
    refine wp_cond_split (t := (decide (((op : Nat) : Int) = (64 : Int)))) (hf.ev rfl) (fun hqt11_1 => ?_) (fun hqt11_1 => ?_)
    · have hqt11_1b := hqt11_1
      try simp only [decide_eq_true_eq, Bool.and_eq_true, Bool.or_eq_true, Bool.not_eq_true', decide_eq_false_iff_not, ne_eq, Bool.not_eq_true] at hqt11_1
      refine wp_seq_k (fun K7 hK7 => ?_)
      refine wp_region_lit ?_
      refine sqv hf (r_build (vs := [(0, (.string ⟨#[109, 101, 109, 111, 114, 121, 46, 103, 114, 111, 119]⟩)), (1, (.int .i64 (9 : Int))), (2, (.string ⟨#[127]⟩)), (3, (.string ⟨#[127]⟩))]) (cs := #[(.string ⟨#[109, 101, 109, 111, 114, 121, 46, 103, 114, 111, 119]⟩), (.int .i64 (9 : Int)), (.string ⟨#[127]⟩), (.string ⟨#[127]⟩), (.bool false)]) rfl (fun _ => by kernel_rfl)) rfl rfl rfl ?_; clear hf fa; intro fa hf
      refine sqn hf (d_storeK (T := 165) (v := (.agg #[(.string ⟨#[109, 101, 109, 111, 114, 121, 46, 103, 114, 111, 119]⟩), (.int .i64 (9 : Int)), (.string ⟨#[127]⟩), (.string ⟨#[127]⟩), (.bool false)])) (cs := #[(.string ⟨#[]⟩), (.int .i64 (0 : Int)), (.string ⟨#[]⟩), (.string ⟨#[]⟩), (.bool false)]) (cs' := #[(.string ⟨#[109, 101, 109, 111, 114, 121, 46, 103, 114, 111, 119]⟩), (.int .i64 (9 : Int)), (.string ⟨#[127]⟩), (.string ⟨#[127]⟩), (.bool false)]) rfl rfl (by kernel_rfl) (by kernel_rfl) hk1 (by kernel_rfl) (by kernel_rfl)) rfl rfl ?_; clear hf fa; rintro fa _ w5 ⟨hk5, hg3⟩ hf
      replace hk3 := blk_grown hk3 hg3 (by omega)
      replace hb := hb.trans (grown_below hg3 hb.size hBb1)
      apply wpList_nil
      (try simp only [Exit.then, Exit.inBlock, ↓reduceIte, Nat.reduceEqDiff])
      refine hK7 _ _ ?_
      refine wp_ret ?_
      (try simp only [Exit.then, Exit.inBlock])
      refine retC hf rfl rfl hk5 Try.underlying165 rfl (by kernel_rfl) ?_
      refine ⟨?_, hb⟩; unfold memP; rw [hqt7_1b, hqt11_1b]; (try rfl)
    · have hqt11_1b := hqt11_1
      replace hqt11_1 := Bool.eq_false_iff.1 hqt11_1
      try simp only [ne_eq, decide_eq_true_eq, Bool.and_eq_true, Bool.or_eq_true, Bool.not_eq_true', decide_eq_false_iff_not] at hqt11_1
      refine wp_seq_k (fun K8 hK8 => ?_)
      skip
      by_cases hsp1 : op < 40 ∨ 62 < op
      · have hsp1b : decide (op < 40 ∨ 62 < op) = true := decide_eq_true hsp1
        skip
        refine wp_region_lit ?_
        refine sqv hf (r_move rfl) rfl rfl rfl ?_; clear hf fa; intro fa hf
        refine sqv hf (r_lt rfl rfl) rfl rfl rfl ?_; clear hf fa; intro fa hf
        refine sqv hf (r_move rfl) rfl rfl rfl ?_; clear hf fa; intro fa hf
        refine sqgF (act := (!(decide (((op : Nat) : Int) < (40 : Int))))) (ag := true) (c := (decide (((op : Nat) : Int) < (40 : Int)))) (v := (.int .u8 ((op : Nat) : Int))) hf rfl rfl rfl (fun hact => (r_move rfl)) rfl rfl ?_; clear hf fa; intro fa hf
        refine sqgF (act := (!(decide (((op : Nat) : Int) < (40 : Int))))) (ag := true) (c := (decide (((op : Nat) : Int) < (40 : Int)))) (v := (.bool (decide ((62 : Int) < ((op : Nat) : Int))))) hf rfl rfl rfl (fun hact => (r_gt (gb_ev hact rfl) rfl)) rfl rfl ?_; clear hf fa; intro fa hf
        refine sqv hf (Runs.veq (r_pickO (b := (decide (((op : Nat) : Int) < (40 : Int)))) (e := (decide ((62 : Int) < ((op : Nat) : Int)))) rfl rfl rfl) (congrArg Value.bool (show _ = true from (by have h := hsp1; simp; omega)))) rfl rfl rfl ?_; clear hf fa; intro fa hf
        refine sqv hf (r_move rfl) rfl rfl rfl ?_; clear hf fa; intro fa hf
        refine sqgF (act := false) (ag := true) (c := true) (v := .bool false) hf rfl rfl rfl (fun hact => by cases hact) rfl rfl ?_; clear hf fa; intro fa hf
        refine sqgF (act := false) (ag := true) (c := true) (v := .bool false) hf rfl rfl rfl (fun hact => by cases hact) rfl rfl ?_; clear hf fa; intro fa hf
        refine sqgF (act := false) (ag := true) (c := true) (v := .bool false) hf rfl rfl rfl (fun hact => by cases hact) rfl rfl ?_; clear hf fa; intro fa hf
        refine sqgF (act := false) (ag := true) (c := true) (v := .bool false) hf rfl rfl rfl (fun hact => by cases hact) rfl rfl ?_; clear hf fa; intro fa hf
        refine sqgF (act := false) (ag := true) (c := true) (v := .bool false) hf rfl rfl rfl (fun hact => by cases hact) rfl rfl ?_; clear hf fa; intro fa hf
        refine sqv hf (r_pick (b := true) rfl rfl rfl rfl) rfl rfl rfl ?_; clear hf fa; intro fa hf
        refine sqv hf (r_assign rfl) rfl rfl rfl ?_; clear hf fa; intro fa hf
        apply wpList_nil
        (try simp only [Exit.then, Exit.inBlock, ↓reduceIte, Nat.reduceEqDiff])
        refine hK8 _ _ ?_
        refine wp_cond_true (hf.ev rfl) ?_
        refine wp_seq_k (fun K9 hK9 => ?_)
        refine wp_region_lit ?_
        refine sqv hf (r_build (vs := []) (cs := #[(.string ⟨#[]⟩), (.int .i64 (0 : Int)), (.string ⟨#[]⟩), (.string ⟨#[]⟩), (.bool false)]) rfl (fun _ => by kernel_rfl)) rfl rfl rfl ?_; clear hf fa; intro fa hf
        refine sqn hf (d_storeK (T := 165) (v := (.agg #[(.string ⟨#[]⟩), (.int .i64 (0 : Int)), (.string ⟨#[]⟩), (.string ⟨#[]⟩), (.bool false)])) (cs := #[(.string ⟨#[]⟩), (.int .i64 (0 : Int)), (.string ⟨#[]⟩), (.string ⟨#[]⟩), (.bool false)]) (cs' := #[(.string ⟨#[]⟩), (.int .i64 (0 : Int)), (.string ⟨#[]⟩), (.string ⟨#[]⟩), (.bool false)]) rfl rfl (by kernel_rfl) (by kernel_rfl) hk1 (by kernel_rfl) (by kernel_rfl)) rfl rfl ?_; clear hf fa; rintro fa _ w6 ⟨hk6, hg4⟩ hf
        replace hk3 := blk_grown hk3 hg4 (by omega)
        replace hb := hb.trans (grown_below hg4 hb.size hBb1)
        apply wpList_nil
        (try simp only [Exit.then, Exit.inBlock, ↓reduceIte, Nat.reduceEqDiff])
        refine hK9 _ _ ?_
        refine wp_ret ?_
        (try simp only [Exit.then, Exit.inBlock])
        refine retC hf rfl rfl hk6 Try.underlying165 rfl (by kernel_rfl) ?_
        refine ⟨?_, hb⟩; unfold memP; rw [hqt7_1b, hqt11_1b, hsp1b]; (try rfl)
      · have hsp1b : decide (op < 40 ∨ 62 < op) = false := decide_eq_false hsp1
        have hr1 := Row.of_new (k := 1) (V := vStr) (l := [⟨#[105, 51, 50, 46, 108, 111, 97, 100]⟩, ⟨#[105, 54, 52, 46, 108, 111, 97, 100]⟩, ⟨#[]⟩, ⟨#[]⟩, ⟨#[105, 51, 50, 46, 108, 111, 97, 100, 56, 95, 115]⟩, ⟨#[105, 51, 50, 46, 108, 111, 97, 100, 56, 95, 117]⟩, ⟨#[105, 51, 50, 46, 108, 111, 97, 100, 49, 54, 95, 115]⟩, ⟨#[105, 51, 50, 46, 108, 111, 97, 100, 49, 54, 95, 117]⟩, ⟨#[105, 54, 52, 46, 108, 111, 97, 100, 56, 95, 115]⟩, ⟨#[105, 54, 52, 46, 108, 111, 97, 100, 56, 95, 117]⟩, ⟨#[105, 54, 52, 46, 108, 111, 97, 100, 49, 54, 95, 115]⟩, ⟨#[105, 54, 52, 46, 108, 111, 97, 100, 49, 54, 95, 117]⟩, ⟨#[105, 54, 52, 46, 108, 111, 97, 100, 51, 50, 95, 115]⟩, ⟨#[105, 54, 52, 46, 108, 111, 97, 100, 51, 50, 95, 117]⟩, ⟨#[105, 51, 50, 46, 115, 116, 111, 114, 101]⟩, ⟨#[105, 54, 52, 46, 115, 116, 111, 114, 101]⟩, ⟨#[]⟩, ⟨#[]⟩, ⟨#[105, 51, 50, 46, 115, 116, 111, 114, 101, 56]⟩, ⟨#[105, 51, 50, 46, 115, 116, 111, 114, 101, 49, 54]⟩, ⟨#[105, 54, 52, 46, 115, 116, 111, 114, 101, 56]⟩, ⟨#[105, 54, 52, 46, 115, 116, 111, 114, 101, 49, 54]⟩, ⟨#[105, 54, 52, 46, 115, 116, 111, 114, 101, 51, 50]⟩]) (base := w.heap.size) hk3 (by omega) rfl rfl (Nat.le_of_ble_eq_true rfl)
        skip
        refine wp_region_lit ?_
        refine sqv hf (r_move rfl) rfl rfl rfl ?_; clear hf fa; intro fa hf
        refine sqv hf (r_lt rfl rfl) rfl rfl rfl ?_; clear hf fa; intro fa hf
        refine sqv hf (r_move rfl) rfl rfl rfl ?_; clear hf fa; intro fa hf
        refine sqgF (act := (!(decide (((op : Nat) : Int) < (40 : Int))))) (ag := true) (c := (decide (((op : Nat) : Int) < (40 : Int)))) (v := (.int .u8 ((op : Nat) : Int))) hf rfl rfl rfl (fun hact => (r_move rfl)) rfl rfl ?_; clear hf fa; intro fa hf
        refine sqgF (act := (!(decide (((op : Nat) : Int) < (40 : Int))))) (ag := true) (c := (decide (((op : Nat) : Int) < (40 : Int)))) (v := (.bool (decide ((62 : Int) < ((op : Nat) : Int))))) hf rfl rfl rfl (fun hact => (r_gt (gb_ev hact rfl) rfl)) rfl rfl ?_; clear hf fa; intro fa hf
        refine sqv hf (Runs.veq (r_pickO (b := (decide (((op : Nat) : Int) < (40 : Int)))) (e := (decide ((62 : Int) < ((op : Nat) : Int)))) rfl rfl rfl) (congrArg Value.bool (show _ = false from (by have h := hsp1; simp; omega)))) rfl rfl rfl ?_; clear hf fa; intro fa hf
        refine sqv hf (r_move rfl) rfl rfl rfl ?_; clear hf fa; intro fa hf
        refine sqgd (act := true) (g := 6) (want := false) (ag := true) (c := false) hf (by rfl) (by rfl) rfl (fun _ =>  Runs.does (R := fun vq wq => vq = (.int .u8 ((op : Nat) : Int)) ∧ w3 = wq) (r_move rfl) ⟨rfl, rfl⟩) (fun h => by cases h) rfl ?_; clear hf fa; rintro fa _ _ ⟨rfl, rfl⟩ hf
        change Fr _ _ ((23, (.int .u8 ((op : Nat) : Int))) :: _) at hf
        refine sqgd (act := true) (g := 6) (want := false) (ag := true) (c := false) hf (by rfl) (by rfl) rfl (fun _ =>  Runs.does (R := fun vq wq => vq = (.int .u8 (((op - 40) : Nat) : Int)) ∧ w3 = wq) (r_sub (C := (((op - 40) : Nat) : Int)) rfl rfl (by rw [IntKind.wrap_u8]; omega)) ⟨rfl, rfl⟩) (fun h => by cases h) rfl ?_; clear hf fa; rintro fa _ _ ⟨rfl, rfl⟩ hf
        change Fr _ _ ((24, (.int .u8 (((op - 40) : Nat) : Int))) :: _) at hf
        have hy1 : ([⟨#[105, 51, 50, 46, 108, 111, 97, 100]⟩, ⟨#[105, 54, 52, 46, 108, 111, 97, 100]⟩, ⟨#[]⟩, ⟨#[]⟩, ⟨#[105, 51, 50, 46, 108, 111, 97, 100, 56, 95, 115]⟩, ⟨#[105, 51, 50, 46, 108, 111, 97, 100, 56, 95, 117]⟩, ⟨#[105, 51, 50, 46, 108, 111, 97, 100, 49, 54, 95, 115]⟩, ⟨#[105, 51, 50, 46, 108, 111, 97, 100, 49, 54, 95, 117]⟩, ⟨#[105, 54, 52, 46, 108, 111, 97, 100, 56, 95, 115]⟩, ⟨#[105, 54, 52, 46, 108, 111, 97, 100, 56, 95, 117]⟩, ⟨#[105, 54, 52, 46, 108, 111, 97, 100, 49, 54, 95, 115]⟩, ⟨#[105, 54, 52, 46, 108, 111, 97, 100, 49, 54, 95, 117]⟩, ⟨#[105, 54, 52, 46, 108, 111, 97, 100, 51, 50, 95, 115]⟩, ⟨#[105, 54, 52, 46, 108, 111, 97, 100, 51, 50, 95, 117]⟩, ⟨#[105, 51, 50, 46, 115, 116, 111, 114, 101]⟩, ⟨#[105, 54, 52, 46, 115, 116, 111, 114, 101]⟩, ⟨#[]⟩, ⟨#[]⟩, ⟨#[105, 51, 50, 46, 115, 116, 111, 114, 101, 56]⟩, ⟨#[105, 51, 50, 46, 115, 116, 111, 114, 101, 49, 54]⟩, ⟨#[105, 54, 52, 46, 115, 116, 111, 114, 101, 56]⟩, ⟨#[105, 54, 52, 46, 115, 116, 111, 114, 101, 49, 54]⟩, ⟨#[105, 54, 52, 46, 115, 116, 111, 114, 101, 51, 50]⟩])[((op - 40))]? = some (nameO op) := (nameO_at (by omega))
        have hel1 := RdS.at (Row.rd (by intros; rfl) hr1) hy1
        obtain ⟨_, _, hab, hlr1, hel1⟩ := hel1
        cases hab
        refine sqgd (act := true) (g := 6) (want := false) (ag := true) (c := false) hf (by rfl) (by rfl) rfl (fun _ =>  Runs.does (R := fun vq wq => vq = (.pointer (some ⟨b2, (0 + ((op - 40)) * 1), none⟩)) ∧ w3 = wq) (r_ixp (sz := 1) (j := ((op - 40))) (nn := 23) rfl rfl Try.underlying178 (by kernel_rfl) rfl (by omega) rfl) ⟨rfl, rfl⟩) (fun h => by cases h) rfl ?_; clear hf fa; rintro fa _ _ ⟨rfl, rfl⟩ hf
        change Fr _ _ ((25, (.pointer (some ⟨b2, (0 + ((op - 40)) * 1), none⟩))) :: _) at hf
        refine sqgd (act := true) (g := 6) (want := false) (ag := true) (c := false) hf (by rfl) (by rfl) rfl (fun _ =>  Runs.does (R := fun vq wq => vq = (.string (nameO op)) ∧ w3 = wq) (r_load (v := (.string (nameO op))) rfl Try.underlying9 rfl (cellsAt_cell hel1 (i := 0) rfl rfl)) ⟨rfl, rfl⟩) (fun h => by cases h) rfl ?_; clear hf fa; rintro fa _ _ ⟨rfl, rfl⟩ hf
        change Fr _ _ ((26, (.string (nameO op))) :: _) at hf
        refine sqgd (act := true) (g := 6) (want := false) (ag := true) (c := false) hf (by rfl) (by rfl) rfl (fun _ =>  Runs.does (R := fun vq wq => vq = (.bool (decide ((nameO op) = ⟨#[]⟩))) ∧ w3 = wq) (r_seq rfl rfl) ⟨rfl, rfl⟩) (fun h => by cases h) rfl ?_; clear hf fa; rintro fa _ _ ⟨rfl, rfl⟩ hf
        change Fr _ _ ((27, (.bool (decide ((nameO op) = ⟨#[]⟩)))) :: _) at hf
        refine sqv hf (r_pick (b := false) rfl rfl rfl rfl) rfl rfl rfl ?_; clear hf fa; intro fa hf
        refine sqv hf (r_assign rfl) rfl rfl rfl ?_; clear hf fa; intro fa hf
        apply wpList_nil
        (try simp only [Exit.then, Exit.inBlock, ↓reduceIte, Nat.reduceEqDiff])
        refine hK8 _ _ ?_
        refine wp_cond_split (t := (decide ((nameO op) = ⟨#[]⟩))) (hf.ev rfl) (fun hqt15_2 => ?_) (fun hqt15_2 => ?_)
        · have hqt15_2b := hqt15_2
          try simp only [decide_eq_true_eq, Bool.and_eq_true, Bool.or_eq_true, Bool.not_eq_true', decide_eq_false_iff_not, ne_eq, Bool.not_eq_true] at hqt15_2
          refine wp_seq_k (fun K10 hK10 => ?_)
          refine wp_region_lit ?_
          refine sqv hf (r_build (vs := []) (cs := #[(.string ⟨#[]⟩), (.int .i64 (0 : Int)), (.string ⟨#[]⟩), (.string ⟨#[]⟩), (.bool false)]) rfl (fun _ => by kernel_rfl)) rfl rfl rfl ?_; clear hf fa; intro fa hf
          refine sqn hf (d_storeK (T := 165) (v := (.agg #[(.string ⟨#[]⟩), (.int .i64 (0 : Int)), (.string ⟨#[]⟩), (.string ⟨#[]⟩), (.bool false)])) (cs := #[(.string ⟨#[]⟩), (.int .i64 (0 : Int)), (.string ⟨#[]⟩), (.string ⟨#[]⟩), (.bool false)]) (cs' := #[(.string ⟨#[]⟩), (.int .i64 (0 : Int)), (.string ⟨#[]⟩), (.string ⟨#[]⟩), (.bool false)]) rfl rfl (by kernel_rfl) (by kernel_rfl) hk1 (by kernel_rfl) (by kernel_rfl)) rfl rfl ?_; clear hf fa; rintro fa _ w7 ⟨hk7, hg5⟩ hf
          replace hr1 := Row.grown hr1 hg5 (Row.ne_type hr1 hk1 rfl)
          replace hb := hb.trans (grown_below hg5 hb.size hBb1)
          apply wpList_nil
          (try simp only [Exit.then, Exit.inBlock, ↓reduceIte, Nat.reduceEqDiff])
          refine hK10 _ _ ?_
          refine wp_ret ?_
          (try simp only [Exit.then, Exit.inBlock])
          refine retC hf rfl rfl hk7 Try.underlying165 rfl (by kernel_rfl) ?_
          refine ⟨?_, hb⟩; unfold memP; rw [hqt7_1b, hqt11_1b, hsp1b, hqt15_2b]; (try rfl)
        · have hqt15_2b := hqt15_2
          replace hqt15_2 := Bool.eq_false_iff.1 hqt15_2
          try simp only [ne_eq, decide_eq_true_eq, Bool.and_eq_true, Bool.or_eq_true, Bool.not_eq_true', decide_eq_false_iff_not] at hqt15_2
          refine wp_skip ?_
          (try simp only [Exit.then, Exit.inBlock, ↓reduceIte, Nat.reduceEqDiff])
          refine hK3 _ _ ?_
          refine wp_seq_k (fun K11 hK11 => ?_)
          have hn2 : 2 ≤ (nameO op).size := nameO_two (by have h := hqt15_2; exact h)
          have hn20 := nameO_le op
          refine wp_region_lit ?_
          refine sqv hf (r_move rfl) rfl rfl rfl ?_; clear hf fa; intro fa hf
          refine sqv hf (r_sub (C := (((op - 40) : Nat) : Int)) rfl rfl (by rw [IntKind.wrap_u8]; omega)) rfl rfl rfl ?_; clear hf fa; intro fa hf
          have hy2 : ([⟨#[105, 51, 50, 46, 108, 111, 97, 100]⟩, ⟨#[105, 54, 52, 46, 108, 111, 97, 100]⟩, ⟨#[]⟩, ⟨#[]⟩, ⟨#[105, 51, 50, 46, 108, 111, 97, 100, 56, 95, 115]⟩, ⟨#[105, 51, 50, 46, 108, 111, 97, 100, 56, 95, 117]⟩, ⟨#[105, 51, 50, 46, 108, 111, 97, 100, 49, 54, 95, 115]⟩, ⟨#[105, 51, 50, 46, 108, 111, 97, 100, 49, 54, 95, 117]⟩, ⟨#[105, 54, 52, 46, 108, 111, 97, 100, 56, 95, 115]⟩, ⟨#[105, 54, 52, 46, 108, 111, 97, 100, 56, 95, 117]⟩, ⟨#[105, 54, 52, 46, 108, 111, 97, 100, 49, 54, 95, 115]⟩, ⟨#[105, 54, 52, 46, 108, 111, 97, 100, 49, 54, 95, 117]⟩, ⟨#[105, 54, 52, 46, 108, 111, 97, 100, 51, 50, 95, 115]⟩, ⟨#[105, 54, 52, 46, 108, 111, 97, 100, 51, 50, 95, 117]⟩, ⟨#[105, 51, 50, 46, 115, 116, 111, 114, 101]⟩, ⟨#[105, 54, 52, 46, 115, 116, 111, 114, 101]⟩, ⟨#[]⟩, ⟨#[]⟩, ⟨#[105, 51, 50, 46, 115, 116, 111, 114, 101, 56]⟩, ⟨#[105, 51, 50, 46, 115, 116, 111, 114, 101, 49, 54]⟩, ⟨#[105, 54, 52, 46, 115, 116, 111, 114, 101, 56]⟩, ⟨#[105, 54, 52, 46, 115, 116, 111, 114, 101, 49, 54]⟩, ⟨#[105, 54, 52, 46, 115, 116, 111, 114, 101, 51, 50]⟩])[((op - 40))]? = some (nameO op) := (nameO_at (by omega))
          have hel2 := RdS.at (Row.rd (by intros; rfl) hr1) hy2
          obtain ⟨_, _, hab, hlr2, hel2⟩ := hel2
          cases hab
          refine sqv hf (r_ixp (sz := 1) (j := ((op - 40))) (nn := 23) rfl rfl Try.underlying178 (by kernel_rfl) rfl (by omega) rfl) rfl rfl rfl ?_; clear hf fa; intro fa hf
          refine sqv hf (r_load (v := (.string (nameO op))) rfl Try.underlying9 rfl (cellsAt_cell hel2 (i := 0) rfl rfl)) rfl rfl rfl ?_; clear hf fa; intro fa hf
          refine sqv hf (r_build (vs := [(0, (.string (nameO op))), (1, (.int .i64 (8 : Int))), (2, (.string ⟨#[127]⟩))]) (cs := #[(.string (nameO op)), (.int .i64 (8 : Int)), (.string ⟨#[127]⟩), (.string ⟨#[]⟩), (.bool false)]) rfl (fun _ => by kernel_rfl)) rfl rfl rfl ?_; clear hf fa; intro fa hf
          refine sqdt hf (d_alloc (z := (.agg #[(.string ⟨#[]⟩), (.int .i64 (0 : Int)), (.string ⟨#[]⟩), (.string ⟨#[]⟩), (.bool false)])) (cs := #[(.string ⟨#[]⟩), (.int .i64 (0 : Int)), (.string ⟨#[]⟩), (.string ⟨#[]⟩), (.bool false)]) (by kernel_rfl) rfl) rfl rfl rfl ?_; clear hf fa; rintro fa _ w8 ⟨b3, rfl, hle3, hk8, he3⟩ hf
          have hBb3 : w.heap.size ≤ b3 := Nat.le_trans hb.size hle3
          have : b1 < b3 := Nat.lt_of_lt_of_le (blk_lt hk1) hle3
          have : b2 < b3 := Nat.lt_of_lt_of_le (Row.lt hr1 _ rfl).2 hle3
          replace hk1 := blk_ext hk1 he3
          replace hr1 := Row.ext hr1 he3
          replace hb := hb.trans (Below.mono he3 hb.size)
          refine sqn hf (d_storeK (T := 165) (v := (.agg #[(.string (nameO op)), (.int .i64 (8 : Int)), (.string ⟨#[127]⟩), (.string ⟨#[]⟩), (.bool false)])) (cs := #[(.string ⟨#[]⟩), (.int .i64 (0 : Int)), (.string ⟨#[]⟩), (.string ⟨#[]⟩), (.bool false)]) (cs' := #[(.string (nameO op)), (.int .i64 (8 : Int)), (.string ⟨#[127]⟩), (.string ⟨#[]⟩), (.bool false)]) rfl rfl (by kernel_rfl) (by kernel_rfl) hk8 (by kernel_rfl) (by kernel_rfl)) rfl rfl ?_; clear hf fa; rintro fa _ w9 ⟨hk9, hg6⟩ hf
          replace hk1 := blk_grown hk1 hg6 (by omega)
          replace hr1 := Row.grown hr1 hg6 (Row.ne_type hr1 hk8 rfl)
          replace hb := hb.trans (grown_below hg6 hb.size hBb3)
          apply wpList_nil
          (try simp only [Exit.then, Exit.inBlock, ↓reduceIte, Nat.reduceEqDiff])
          refine hK11 _ _ ?_
          refine wp_seq_k (fun K12 hK12 => ?_)
          refine wp_region_lit ?_
          refine sqv hf (r_assign rfl) rfl rfl rfl ?_; clear hf fa; intro fa hf
          apply wpList_nil
          (try simp only [Exit.then, Exit.inBlock, ↓reduceIte, Nat.reduceEqDiff])
          refine hK12 _ _ ?_
          refine wp_seq_k (fun K13 hK13 => ?_)
          refine wp_seq_k (fun K14 hK14 => ?_)
          refine wp_region_lit ?_
          refine sqv hf (r_fa rfl Try.underlying165 (f := 0) (q := 0) rfl (by kernel_rfl) rfl) rfl rfl rfl ?_; clear hf fa; intro fa hf
          refine sqv hf (r_load (v := (.string (nameO op))) rfl Try.underlying9 rfl (cell_blk hk9 rfl)) rfl rfl rfl ?_; clear hf fa; intro fa hf
          refine sqv hf (r_sindexD (j := 1) rfl rfl Try.underlying9 rfl (by omega)) rfl rfl rfl ?_; clear hf fa; intro fa hf
          refine sqv hf (r_eq rfl rfl) rfl rfl rfl ?_; clear hf fa; intro fa hf
          apply wpList_nil
          (try simp only [Exit.then, Exit.inBlock, ↓reduceIte, Nat.reduceEqDiff])
          refine hK14 _ _ ?_
          refine wp_cond_split (t := (decide (((sbt (nameO op) 1 : Nat) : Int) = (51 : Int)))) (hf.ev rfl) (fun hqt38_1 => ?_) (fun hqt38_1 => ?_)
          · have hqt38_1b := hqt38_1
            try simp only [decide_eq_true_eq, Bool.and_eq_true, Bool.or_eq_true, Bool.not_eq_true', decide_eq_false_iff_not, ne_eq, Bool.not_eq_true] at hqt38_1
            refine wp_region_lit ?_
            refine sqv hf (r_assign rfl) rfl rfl rfl ?_; clear hf fa; intro fa hf
            apply wpList_nil
            (try simp only [Exit.then, Exit.inBlock, ↓reduceIte, Nat.reduceEqDiff])
            refine hK13 _ _ ?_
            refine wp_seq_k (fun K15 hK15 => ?_)
            refine wp_seq_k (fun K16 hK16 => ?_)
            refine wp_region_lit ?_
            refine sqv hf (r_move rfl) rfl rfl rfl ?_; clear hf fa; intro fa hf
            refine sqv hf (r_lt rfl rfl) rfl rfl rfl ?_; clear hf fa; intro fa hf
            apply wpList_nil
            (try simp only [Exit.then, Exit.inBlock, ↓reduceIte, Nat.reduceEqDiff])
            refine hK16 _ _ ?_
            refine wp_cond_split (t := (decide (((op : Nat) : Int) < (54 : Int)))) (hf.ev rfl) (fun hqt40_1 => ?_) (fun hqt40_1 => ?_)
            · have hqt40_1b := hqt40_1
              try simp only [decide_eq_true_eq, Bool.and_eq_true, Bool.or_eq_true, Bool.not_eq_true', decide_eq_false_iff_not, ne_eq, Bool.not_eq_true] at hqt40_1
              refine wp_region_lit ?_
              refine sqv hf (r_move rfl) rfl rfl rfl ?_; clear hf fa; intro fa hf
              refine sqv hf (r_fa rfl Try.underlying165 (f := 3) (q := 3) rfl (by kernel_rfl) rfl) rfl rfl rfl ?_; clear hf fa; intro fa hf
              refine sqn hf (d_storeK (T := 165) (v := (.string ⟨#[127]⟩)) (cs := #[(.string (nameO op)), (.int .i64 (8 : Int)), (.string ⟨#[127]⟩), (.string ⟨#[]⟩), (.bool false)]) (cs' := #[(.string (nameO op)), (.int .i64 (8 : Int)), (.string ⟨#[127]⟩), (.string ⟨#[127]⟩), (.bool false)]) rfl rfl (by kernel_rfl) (by kernel_rfl) hk9 (by kernel_rfl) (by kernel_rfl)) rfl rfl ?_; clear hf fa; rintro fa _ w10 ⟨hk10, hg7⟩ hf
              replace hk1 := blk_grown hk1 hg7 (by omega)
              replace hr1 := Row.grown hr1 hg7 (Row.ne_type hr1 hk9 rfl)
              replace hb := hb.trans (grown_below hg7 hb.size hBb3)
              apply wpList_nil
              (try simp only [Exit.then, Exit.inBlock, ↓reduceIte, Nat.reduceEqDiff])
              refine hK15 _ _ ?_
              refine wp_seq_k (fun K17 hK17 => ?_)
              refine wp_region_lit ?_
              refine sqv hf (r_loadA (cs := [(.string (nameO op)), (.int .i64 (8 : Int)), (.string ⟨#[127]⟩), (.string ⟨#[127]⟩), (.bool false)]) rfl Try.underlying165 rfl (by kernel_rfl) (cellsAt_blk hk10)) rfl rfl rfl ?_; clear hf fa; intro fa hf
              refine sqn hf (d_storeK (T := 165) (v := (.agg #[(.string (nameO op)), (.int .i64 (8 : Int)), (.string ⟨#[127]⟩), (.string ⟨#[127]⟩), (.bool false)])) (cs := #[(.string ⟨#[]⟩), (.int .i64 (0 : Int)), (.string ⟨#[]⟩), (.string ⟨#[]⟩), (.bool false)]) (cs' := #[(.string (nameO op)), (.int .i64 (8 : Int)), (.string ⟨#[127]⟩), (.string ⟨#[127]⟩), (.bool false)]) rfl rfl (by kernel_rfl) (by kernel_rfl) hk1 (by kernel_rfl) (by kernel_rfl)) rfl rfl ?_; clear hf fa; rintro fa _ w11 ⟨hk11, hg8⟩ hf
              replace hk10 := blk_grown hk10 hg8 (by omega)
              replace hr1 := Row.grown hr1 hg8 (Row.ne_type hr1 hk1 rfl)
              replace hb := hb.trans (grown_below hg8 hb.size hBb1)
              apply wpList_nil
              (try simp only [Exit.then, Exit.inBlock, ↓reduceIte, Nat.reduceEqDiff])
              refine hK17 _ _ ?_
              refine wp_ret ?_
              (try simp only [Exit.then, Exit.inBlock])
              refine retC hf rfl rfl hk11 Try.underlying165 rfl (by kernel_rfl) ?_
              refine ⟨?_, hb⟩; unfold memP; rw [hqt7_1b, hqt11_1b, hsp1b, hqt15_2b, hqt38_1b, hqt40_1b]; (try rfl)
            · have hqt40_1b := hqt40_1
              replace hqt40_1 := Bool.eq_false_iff.1 hqt40_1
              try simp only [ne_eq, decide_eq_true_eq, Bool.and_eq_true, Bool.or_eq_true, Bool.not_eq_true', decide_eq_false_iff_not] at hqt40_1
              refine wp_region_lit ?_
              refine sqv hf (r_fa rfl Try.underlying165 (f := 2) (q := 2) rfl (by kernel_rfl) rfl) rfl rfl rfl ?_; clear hf fa; intro fa hf
              refine sqv hf (r_load (v := (.string ⟨#[127]⟩)) rfl Try.underlying9 rfl (cell_blk hk9 rfl)) rfl rfl rfl ?_; clear hf fa; intro fa hf
              refine sqv hf (r_move rfl) rfl rfl rfl ?_; clear hf fa; intro fa hf
              refine sqv hf (r_sadd rfl rfl (by have : ((⟨#[127]⟩) : ByteArray).size = 1 := rfl; have : ((⟨#[127]⟩) : ByteArray).size = 1 := rfl; omega)) rfl rfl rfl ?_; clear hf fa; intro fa hf
              refine sqv hf (r_fa rfl Try.underlying165 (f := 2) (q := 2) rfl (by kernel_rfl) rfl) rfl rfl rfl ?_; clear hf fa; intro fa hf
              refine sqn hf (d_storeK (T := 165) (v := (.string (⟨#[127]⟩ ++ ⟨#[127]⟩))) (cs := #[(.string (nameO op)), (.int .i64 (8 : Int)), (.string ⟨#[127]⟩), (.string ⟨#[]⟩), (.bool false)]) (cs' := #[(.string (nameO op)), (.int .i64 (8 : Int)), (.string (⟨#[127]⟩ ++ ⟨#[127]⟩)), (.string ⟨#[]⟩), (.bool false)]) rfl rfl (by kernel_rfl) (by kernel_rfl) hk9 (by kernel_rfl) (by kernel_rfl)) rfl rfl ?_; clear hf fa; rintro fa _ w12 ⟨hk12, hg9⟩ hf
              replace hk1 := blk_grown hk1 hg9 (by omega)
              replace hr1 := Row.grown hr1 hg9 (Row.ne_type hr1 hk9 rfl)
              replace hb := hb.trans (grown_below hg9 hb.size hBb3)
              apply wpList_nil
              (try simp only [Exit.then, Exit.inBlock, ↓reduceIte, Nat.reduceEqDiff])
              refine hK15 _ _ ?_
              refine wp_seq_k (fun K18 hK18 => ?_)
              refine wp_region_lit ?_
              refine sqv hf (r_loadA (cs := [(.string (nameO op)), (.int .i64 (8 : Int)), (.string (⟨#[127]⟩ ++ ⟨#[127]⟩)), (.string ⟨#[]⟩), (.bool false)]) rfl Try.underlying165 rfl (by kernel_rfl) (cellsAt_blk hk12)) rfl rfl rfl ?_; clear hf fa; intro fa hf
              refine sqn hf (d_storeK (T := 165) (v := (.agg #[(.string (nameO op)), (.int .i64 (8 : Int)), (.string (⟨#[127]⟩ ++ ⟨#[127]⟩)), (.string ⟨#[]⟩), (.bool false)])) (cs := #[(.string ⟨#[]⟩), (.int .i64 (0 : Int)), (.string ⟨#[]⟩), (.string ⟨#[]⟩), (.bool false)]) (cs' := #[(.string (nameO op)), (.int .i64 (8 : Int)), (.string (⟨#[127]⟩ ++ ⟨#[127]⟩)), (.string ⟨#[]⟩), (.bool false)]) rfl rfl (by kernel_rfl) (by kernel_rfl) hk1 (by kernel_rfl) (by kernel_rfl)) rfl rfl ?_; clear hf fa; rintro fa _ w13 ⟨hk13, hg10⟩ hf
              replace hk12 := blk_grown hk12 hg10 (by omega)
              replace hr1 := Row.grown hr1 hg10 (Row.ne_type hr1 hk1 rfl)
              replace hb := hb.trans (grown_below hg10 hb.size hBb1)
              apply wpList_nil
              (try simp only [Exit.then, Exit.inBlock, ↓reduceIte, Nat.reduceEqDiff])
              refine hK18 _ _ ?_
              refine wp_ret ?_
              (try simp only [Exit.then, Exit.inBlock])
              refine retC hf rfl rfl hk13 Try.underlying165 rfl (by kernel_rfl) ?_
              refine ⟨?_, hb⟩; unfold memP; rw [hqt7_1b, hqt11_1b, hsp1b, hqt15_2b, hqt38_1b, hqt40_1b]; (try rfl)
          · have hqt38_1b := hqt38_1
            replace hqt38_1 := Bool.eq_false_iff.1 hqt38_1
            try simp only [ne_eq, decide_eq_true_eq, Bool.and_eq_true, Bool.or_eq_true, Bool.not_eq_true', decide_eq_false_iff_not] at hqt38_1
            refine wp_skip ?_
            (try simp only [Exit.then, Exit.inBlock, ↓reduceIte, Nat.reduceEqDiff])
            refine hK13 _ _ ?_
            refine wp_seq_k (fun K19 hK19 => ?_)
            refine wp_seq_k (fun K20 hK20 => ?_)
            refine wp_region_lit ?_
            refine sqv hf (r_move rfl) rfl rfl rfl ?_; clear hf fa; intro fa hf
            refine sqv hf (r_lt rfl rfl) rfl rfl rfl ?_; clear hf fa; intro fa hf
            apply wpList_nil
            (try simp only [Exit.then, Exit.inBlock, ↓reduceIte, Nat.reduceEqDiff])
            refine hK20 _ _ ?_
            refine wp_cond_split (t := (decide (((op : Nat) : Int) < (54 : Int)))) (hf.ev rfl) (fun hqt40_2 => ?_) (fun hqt40_2 => ?_)
            · have hqt40_2b := hqt40_2
              try simp only [decide_eq_true_eq, Bool.and_eq_true, Bool.or_eq_true, Bool.not_eq_true', decide_eq_false_iff_not, ne_eq, Bool.not_eq_true] at hqt40_2
              refine wp_region_lit ?_
              refine sqv hf (r_move rfl) rfl rfl rfl ?_; clear hf fa; intro fa hf
              refine sqv hf (r_fa rfl Try.underlying165 (f := 3) (q := 3) rfl (by kernel_rfl) rfl) rfl rfl rfl ?_; clear hf fa; intro fa hf
              refine sqn hf (d_storeK (T := 165) (v := (.string ⟨#[126]⟩)) (cs := #[(.string (nameO op)), (.int .i64 (8 : Int)), (.string ⟨#[127]⟩), (.string ⟨#[]⟩), (.bool false)]) (cs' := #[(.string (nameO op)), (.int .i64 (8 : Int)), (.string ⟨#[127]⟩), (.string ⟨#[126]⟩), (.bool false)]) rfl rfl (by kernel_rfl) (by kernel_rfl) hk9 (by kernel_rfl) (by kernel_rfl)) rfl rfl ?_; clear hf fa; rintro fa _ w14 ⟨hk14, hg11⟩ hf
              replace hk1 := blk_grown hk1 hg11 (by omega)
              replace hr1 := Row.grown hr1 hg11 (Row.ne_type hr1 hk9 rfl)
              replace hb := hb.trans (grown_below hg11 hb.size hBb3)
              apply wpList_nil
              (try simp only [Exit.then, Exit.inBlock, ↓reduceIte, Nat.reduceEqDiff])
              refine hK19 _ _ ?_
              refine wp_seq_k (fun K21 hK21 => ?_)
              refine wp_region_lit ?_
              refine sqv hf (r_loadA (cs := [(.string (nameO op)), (.int .i64 (8 : Int)), (.string ⟨#[127]⟩), (.string ⟨#[126]⟩), (.bool false)]) rfl Try.underlying165 rfl (by kernel_rfl) (cellsAt_blk hk14)) rfl rfl rfl ?_; clear hf fa; intro fa hf
              refine sqn hf (d_storeK (T := 165) (v := (.agg #[(.string (nameO op)), (.int .i64 (8 : Int)), (.string ⟨#[127]⟩), (.string ⟨#[126]⟩), (.bool false)])) (cs := #[(.string ⟨#[]⟩), (.int .i64 (0 : Int)), (.string ⟨#[]⟩), (.string ⟨#[]⟩), (.bool false)]) (cs' := #[(.string (nameO op)), (.int .i64 (8 : Int)), (.string ⟨#[127]⟩), (.string ⟨#[126]⟩), (.bool false)]) rfl rfl (by kernel_rfl) (by kernel_rfl) hk1 (by kernel_rfl) (by kernel_rfl)) rfl rfl ?_; clear hf fa; rintro fa _ w15 ⟨hk15, hg12⟩ hf
              replace hk14 := blk_grown hk14 hg12 (by omega)
              replace hr1 := Row.grown hr1 hg12 (Row.ne_type hr1 hk1 rfl)
              replace hb := hb.trans (grown_below hg12 hb.size hBb1)
              apply wpList_nil
              (try simp only [Exit.then, Exit.inBlock, ↓reduceIte, Nat.reduceEqDiff])
              refine hK21 _ _ ?_
              refine wp_ret ?_
              (try simp only [Exit.then, Exit.inBlock])
              refine retC hf rfl rfl hk15 Try.underlying165 rfl (by kernel_rfl) ?_
              refine ⟨?_, hb⟩; unfold memP; rw [hqt7_1b, hqt11_1b, hsp1b, hqt15_2b, hqt38_1b, hqt40_2b]; (try rfl)
            · have hqt40_2b := hqt40_2
              replace hqt40_2 := Bool.eq_false_iff.1 hqt40_2
              try simp only [ne_eq, decide_eq_true_eq, Bool.and_eq_true, Bool.or_eq_true, Bool.not_eq_true', decide_eq_false_iff_not] at hqt40_2
              refine wp_region_lit ?_
              refine sqv hf (r_fa rfl Try.underlying165 (f := 2) (q := 2) rfl (by kernel_rfl) rfl) rfl rfl rfl ?_; clear hf fa; intro fa hf
              refine sqv hf (r_load (v := (.string ⟨#[127]⟩)) rfl Try.underlying9 rfl (cell_blk hk9 rfl)) rfl rfl rfl ?_; clear hf fa; intro fa hf
              refine sqv hf (r_move rfl) rfl rfl rfl ?_; clear hf fa; intro fa hf
              refine sqv hf (r_sadd rfl rfl (by have : ((⟨#[127]⟩) : ByteArray).size = 1 := rfl; have : ((⟨#[126]⟩) : ByteArray).size = 1 := rfl; omega)) rfl rfl rfl ?_; clear hf fa; intro fa hf
              refine sqv hf (r_fa rfl Try.underlying165 (f := 2) (q := 2) rfl (by kernel_rfl) rfl) rfl rfl rfl ?_; clear hf fa; intro fa hf
              refine sqn hf (d_storeK (T := 165) (v := (.string (⟨#[127]⟩ ++ ⟨#[126]⟩))) (cs := #[(.string (nameO op)), (.int .i64 (8 : Int)), (.string ⟨#[127]⟩), (.string ⟨#[]⟩), (.bool false)]) (cs' := #[(.string (nameO op)), (.int .i64 (8 : Int)), (.string (⟨#[127]⟩ ++ ⟨#[126]⟩)), (.string ⟨#[]⟩), (.bool false)]) rfl rfl (by kernel_rfl) (by kernel_rfl) hk9 (by kernel_rfl) (by kernel_rfl)) rfl rfl ?_; clear hf fa; rintro fa _ w16 ⟨hk16, hg13⟩ hf
              replace hk1 := blk_grown hk1 hg13 (by omega)
              replace hr1 := Row.grown hr1 hg13 (Row.ne_type hr1 hk9 rfl)
              replace hb := hb.trans (grown_below hg13 hb.size hBb3)
              apply wpList_nil
              (try simp only [Exit.then, Exit.inBlock, ↓reduceIte, Nat.reduceEqDiff])
              refine hK19 _ _ ?_
              refine wp_seq_k (fun K22 hK22 => ?_)
              refine wp_region_lit ?_
              refine sqv hf (r_loadA (cs := [(.string (nameO op)), (.int .i64 (8 : Int)), (.string (⟨#[127]⟩ ++ ⟨#[126]⟩)), (.string ⟨#[]⟩), (.bool false)]) rfl Try.underlying165 rfl (by kernel_rfl) (cellsAt_blk hk16)) rfl rfl rfl ?_; clear hf fa; intro fa hf
              refine sqn hf (d_storeK (T := 165) (v := (.agg #[(.string (nameO op)), (.int .i64 (8 : Int)), (.string (⟨#[127]⟩ ++ ⟨#[126]⟩)), (.string ⟨#[]⟩), (.bool false)])) (cs := #[(.string ⟨#[]⟩), (.int .i64 (0 : Int)), (.string ⟨#[]⟩), (.string ⟨#[]⟩), (.bool false)]) (cs' := #[(.string (nameO op)), (.int .i64 (8 : Int)), (.string (⟨#[127]⟩ ++ ⟨#[126]⟩)), (.string ⟨#[]⟩), (.bool false)]) rfl rfl (by kernel_rfl) (by kernel_rfl) hk1 (by kernel_rfl) (by kernel_rfl)) rfl rfl ?_; clear hf fa; rintro fa _ w17 ⟨hk17, hg14⟩ hf
              replace hk16 := blk_grown hk16 hg14 (by omega)
              replace hr1 := Row.grown hr1 hg14 (Row.ne_type hr1 hk1 rfl)
              replace hb := hb.trans (grown_below hg14 hb.size hBb1)
              apply wpList_nil
              (try simp only [Exit.then, Exit.inBlock, ↓reduceIte, Nat.reduceEqDiff])
              refine hK22 _ _ ?_
              refine wp_ret ?_
              (try simp only [Exit.then, Exit.inBlock])
              refine retC hf rfl rfl hk17 Try.underlying165 rfl (by kernel_rfl) ?_
              refine ⟨?_, hb⟩; unfold memP; rw [hqt7_1b, hqt11_1b, hsp1b, hqt15_2b, hqt38_1b, hqt40_2b]; (try rfl)
end Go.Proofs.Ytmcmickgllffoaa
