/- What is proved here: the kinds of operations: words and forms, by the program and by the document. What is proved here: which operations may be, by the program and by the document. -/
import Derived.Test.YtpalmpfkliepfaaOpLinesMgAC
namespace Go.Proofs.Ytpalmpfkliepfaa
open Go.RowKit Ut
set_option linter.unusedVariables false
set_option linter.unusedSimpArgs false
def wordS (k : Int) : ByteArray := if k = 1 then ⟨#[97, 100, 100]⟩ else if k = 2 then ⟨#[108, 111, 97, 100]⟩ else if k = 3 then ⟨#[117, 110, 108, 111, 97, 100]⟩ else if k = 4 then ⟨#[115, 119, 97, 112]⟩ else if k = 5 then ⟨#[99, 97, 108, 108]⟩ else if k = 6 then ⟨#[108, 111, 111, 107, 117, 112]⟩ else if k = 7 then ⟨#[99, 111, 117, 110, 116]⟩ else if k = 8 then ⟨#[112, 101, 101, 107]⟩ else if k = 9 then ⟨#[108, 105, 115, 116]⟩ else ⟨#[]⟩
def formS (k : Int) : ByteArray := if k = 1 then ⟨#[115, 100]⟩ else if k = 2 then ⟨#[115]⟩ else if k = 3 then ⟨#[110]⟩ else if k = 4 then ⟨#[110, 115, 110, 115]⟩ else if k = 5 then ⟨#[110, 115, 97]⟩ else if k = 6 then ⟨#[110, 115]⟩ else if k = 7 then ⟨#[110]⟩ else if k = 8 then ⟨#[110, 110]⟩ else if k = 9 then ⟨#[]⟩ else ⟨#[]⟩
theorem form_cases (k : Int) : ((k < 1 ∨ 9 < k) ∧ wordS k = ⟨#[]⟩ ∧ formS k = ⟨#[]⟩) ∨ k = 1 ∨ k = 2 ∨ k = 3 ∨ k = 4 ∨ k = 5 ∨ k = 6 ∨ k = 7 ∨ k = 8 ∨ k = 9 := by
  by_cases h : k < 1 ∨ 9 < k
  · left
    refine ⟨h, ?_, ?_⟩
    · unfold wordS; rw [if_neg (by omega), if_neg (by omega), if_neg (by omega), if_neg (by omega), if_neg (by omega), if_neg (by omega), if_neg (by omega), if_neg (by omega), if_neg (by omega)]
    · unfold formS; rw [if_neg (by omega), if_neg (by omega), if_neg (by omega), if_neg (by omega), if_neg (by omega), if_neg (by omega), if_neg (by omega), if_neg (by omega), if_neg (by omega)]
  · right; omega
theorem word_len (k : Int) : (wordS k).size ≤ 6 ∧ (formS k).size ≤ 4 := by
  rcases form_cases k with ⟨_, h1, h2⟩ | rfl | rfl | rfl | rfl | rfl | rfl | rfl | rfl | rfl
  · rw [h1, h2]; decide
  all_goals decide

theorem form_no (k : Int) (h : k < 1 ∨ 9 < k) : wordS k = ⟨#[]⟩ := by rcases form_cases k with ⟨_, h1, _⟩ | h2; exact h1; omega
theorem formf_no (k : Int) (h : k < 1 ∨ 9 < k) : formS k = ⟨#[]⟩ := by rcases form_cases k with ⟨_, _, h1⟩ | h2; exact h1; omega

def vPair (x : ByteArray × ByteArray) : List Value := [.string x.1, .string x.2]
theorem form_row (k : Int) (h : 1 ≤ k ∧ k ≤ 9) : ([((⟨#[]⟩ : ByteArray), (⟨#[]⟩ : ByteArray)), ((⟨#[97, 100, 100]⟩ : ByteArray), (⟨#[115, 100]⟩ : ByteArray)), ((⟨#[108, 111, 97, 100]⟩ : ByteArray), (⟨#[115]⟩ : ByteArray)), ((⟨#[117, 110, 108, 111, 97, 100]⟩ : ByteArray), (⟨#[110]⟩ : ByteArray)), ((⟨#[115, 119, 97, 112]⟩ : ByteArray), (⟨#[110, 115, 110, 115]⟩ : ByteArray)), ((⟨#[99, 97, 108, 108]⟩ : ByteArray), (⟨#[110, 115, 97]⟩ : ByteArray)), ((⟨#[108, 111, 111, 107, 117, 112]⟩ : ByteArray), (⟨#[110, 115]⟩ : ByteArray)), ((⟨#[99, 111, 117, 110, 116]⟩ : ByteArray), (⟨#[110]⟩ : ByteArray)), ((⟨#[112, 101, 101, 107]⟩ : ByteArray), (⟨#[110, 110]⟩ : ByteArray)), ((⟨#[108, 105, 115, 116]⟩ : ByteArray), (⟨#[]⟩ : ByteArray))] : List (ByteArray × ByteArray))[(k).toNat]? = some (wordS k, formS k) ∧ ([(⟨#[]⟩ : ByteArray), (⟨#[97, 100, 100]⟩ : ByteArray), (⟨#[108, 111, 97, 100]⟩ : ByteArray), (⟨#[117, 110, 108, 111, 97, 100]⟩ : ByteArray), (⟨#[115, 119, 97, 112]⟩ : ByteArray), (⟨#[99, 97, 108, 108]⟩ : ByteArray), (⟨#[108, 111, 111, 107, 117, 112]⟩ : ByteArray), (⟨#[99, 111, 117, 110, 116]⟩ : ByteArray), (⟨#[112, 101, 101, 107]⟩ : ByteArray), (⟨#[108, 105, 115, 116]⟩ : ByteArray)] : List ByteArray)[(k).toNat]? = some (wordS k) ∧ ([(⟨#[]⟩ : ByteArray), (⟨#[115, 100]⟩ : ByteArray), (⟨#[115]⟩ : ByteArray), (⟨#[110]⟩ : ByteArray), (⟨#[110, 115, 110, 115]⟩ : ByteArray), (⟨#[110, 115, 97]⟩ : ByteArray), (⟨#[110, 115]⟩ : ByteArray), (⟨#[110]⟩ : ByteArray), (⟨#[110, 110]⟩ : ByteArray), (⟨#[]⟩ : ByteArray)] : List ByteArray)[(k).toNat]? = some (formS k) := by
  rcases form_cases k with ⟨h0, _, _⟩ | rfl | rfl | rfl | rfl | rfl | rfl | rfl | rfl | rfl
  · omega
  all_goals exact ⟨rfl, rfl, rfl⟩

set_option maxHeartbeats 1000000 in
set_option maxRecDepth 100000 in
theorem form_any (k : Int) (w : World) : Calls Try.prog 17 #[(.int .i64 k)] w fun e w' => e = .returned (.tuple #[.string (wordS k), .string (formS k)]) ∧ Below w.heap.size w w' := by
  refine sx_enter (L := [(0, (.int .i64 k))]) Try.func17 rfl rfl rfl rfl (fun fa hf => ?_)
  have hb : Below w.heap.size w w := Below.refl _ _
  refine wp_seq_k (fun K1 hK1 => ?_)
  refine wp_region_lit ?_
  refine sqv hf (r_assign rfl) rfl rfl rfl ?_; clear hf fa; intro fa hf
  refine sqv hf (r_assign rfl) rfl rfl rfl ?_; clear hf fa; intro fa hf
  apply wpList_nil
  (try simp only [Exit.then, Exit.inBlock, ↓reduceIte, Nat.reduceEqDiff])
  refine hK1 _ _ ?_
  refine wp_seq_k (fun K2 hK2 => ?_)
  refine wp_region_lit ?_
  refine sqv hf (r_build (vs := [(0, (.string ⟨#[97, 100, 100]⟩)), (1, (.string ⟨#[115, 100]⟩))]) (cs := #[(.string ⟨#[97, 100, 100]⟩), (.string ⟨#[115, 100]⟩)]) rfl (fun _ => by kernel_rfl)) rfl rfl rfl ?_; clear hf fa; intro fa hf
  refine sqv hf (r_build (vs := [(0, (.string ⟨#[108, 111, 97, 100]⟩)), (1, (.string ⟨#[115]⟩))]) (cs := #[(.string ⟨#[108, 111, 97, 100]⟩), (.string ⟨#[115]⟩)]) rfl (fun _ => by kernel_rfl)) rfl rfl rfl ?_; clear hf fa; intro fa hf
  refine sqv hf (r_build (vs := [(0, (.string ⟨#[117, 110, 108, 111, 97, 100]⟩)), (1, (.string ⟨#[110]⟩))]) (cs := #[(.string ⟨#[117, 110, 108, 111, 97, 100]⟩), (.string ⟨#[110]⟩)]) rfl (fun _ => by kernel_rfl)) rfl rfl rfl ?_; clear hf fa; intro fa hf
  refine sqv hf (r_build (vs := [(0, (.string ⟨#[115, 119, 97, 112]⟩)), (1, (.string ⟨#[110, 115, 110, 115]⟩))]) (cs := #[(.string ⟨#[115, 119, 97, 112]⟩), (.string ⟨#[110, 115, 110, 115]⟩)]) rfl (fun _ => by kernel_rfl)) rfl rfl rfl ?_; clear hf fa; intro fa hf
  refine sqv hf (r_build (vs := [(0, (.string ⟨#[99, 97, 108, 108]⟩)), (1, (.string ⟨#[110, 115, 97]⟩))]) (cs := #[(.string ⟨#[99, 97, 108, 108]⟩), (.string ⟨#[110, 115, 97]⟩)]) rfl (fun _ => by kernel_rfl)) rfl rfl rfl ?_; clear hf fa; intro fa hf
  refine sqv hf (r_build (vs := [(0, (.string ⟨#[108, 111, 111, 107, 117, 112]⟩)), (1, (.string ⟨#[110, 115]⟩))]) (cs := #[(.string ⟨#[108, 111, 111, 107, 117, 112]⟩), (.string ⟨#[110, 115]⟩)]) rfl (fun _ => by kernel_rfl)) rfl rfl rfl ?_; clear hf fa; intro fa hf
  refine sqv hf (r_build (vs := [(0, (.string ⟨#[99, 111, 117, 110, 116]⟩)), (1, (.string ⟨#[110]⟩))]) (cs := #[(.string ⟨#[99, 111, 117, 110, 116]⟩), (.string ⟨#[110]⟩)]) rfl (fun _ => by kernel_rfl)) rfl rfl rfl ?_; clear hf fa; intro fa hf
  refine sqv hf (r_build (vs := [(0, (.string ⟨#[112, 101, 101, 107]⟩)), (1, (.string ⟨#[110, 110]⟩))]) (cs := #[(.string ⟨#[112, 101, 101, 107]⟩), (.string ⟨#[110, 110]⟩)]) rfl (fun _ => by kernel_rfl)) rfl rfl rfl ?_; clear hf fa; intro fa hf
  refine sqv hf (r_build (vs := [(0, (.string ⟨#[108, 105, 115, 116]⟩)), (1, (.string ⟨#[]⟩))]) (cs := #[(.string ⟨#[108, 105, 115, 116]⟩), (.string ⟨#[]⟩)]) rfl (fun _ => by kernel_rfl)) rfl rfl rfl ?_; clear hf fa; intro fa hf
  refine sqv hf (r_build (vs := [(1, (.agg #[(.string ⟨#[97, 100, 100]⟩), (.string ⟨#[115, 100]⟩)])), (2, (.agg #[(.string ⟨#[108, 111, 97, 100]⟩), (.string ⟨#[115]⟩)])), (3, (.agg #[(.string ⟨#[117, 110, 108, 111, 97, 100]⟩), (.string ⟨#[110]⟩)])), (4, (.agg #[(.string ⟨#[115, 119, 97, 112]⟩), (.string ⟨#[110, 115, 110, 115]⟩)])), (5, (.agg #[(.string ⟨#[99, 97, 108, 108]⟩), (.string ⟨#[110, 115, 97]⟩)])), (6, (.agg #[(.string ⟨#[108, 111, 111, 107, 117, 112]⟩), (.string ⟨#[110, 115]⟩)])), (7, (.agg #[(.string ⟨#[99, 111, 117, 110, 116]⟩), (.string ⟨#[110]⟩)])), (8, (.agg #[(.string ⟨#[112, 101, 101, 107]⟩), (.string ⟨#[110, 110]⟩)])), (9, (.agg #[(.string ⟨#[108, 105, 115, 116]⟩), (.string ⟨#[]⟩)]))]) (cs := #[(.string ⟨#[]⟩), (.string ⟨#[]⟩), (.string ⟨#[97, 100, 100]⟩), (.string ⟨#[115, 100]⟩), (.string ⟨#[108, 111, 97, 100]⟩), (.string ⟨#[115]⟩), (.string ⟨#[117, 110, 108, 111, 97, 100]⟩), (.string ⟨#[110]⟩), (.string ⟨#[115, 119, 97, 112]⟩), (.string ⟨#[110, 115, 110, 115]⟩), (.string ⟨#[99, 97, 108, 108]⟩), (.string ⟨#[110, 115, 97]⟩), (.string ⟨#[108, 111, 111, 107, 117, 112]⟩), (.string ⟨#[110, 115]⟩), (.string ⟨#[99, 111, 117, 110, 116]⟩), (.string ⟨#[110]⟩), (.string ⟨#[112, 101, 101, 107]⟩), (.string ⟨#[110, 110]⟩), (.string ⟨#[108, 105, 115, 116]⟩), (.string ⟨#[]⟩)]) rfl (fun _ => by kernel_rfl)) rfl rfl rfl ?_; clear hf fa; intro fa hf
  refine sqdt hf (d_alloc (z := (.agg #[(.string ⟨#[]⟩), (.string ⟨#[]⟩), (.string ⟨#[]⟩), (.string ⟨#[]⟩), (.string ⟨#[]⟩), (.string ⟨#[]⟩), (.string ⟨#[]⟩), (.string ⟨#[]⟩), (.string ⟨#[]⟩), (.string ⟨#[]⟩), (.string ⟨#[]⟩), (.string ⟨#[]⟩), (.string ⟨#[]⟩), (.string ⟨#[]⟩), (.string ⟨#[]⟩), (.string ⟨#[]⟩), (.string ⟨#[]⟩), (.string ⟨#[]⟩), (.string ⟨#[]⟩), (.string ⟨#[]⟩)])) (cs := #[(.string ⟨#[]⟩), (.string ⟨#[]⟩), (.string ⟨#[]⟩), (.string ⟨#[]⟩), (.string ⟨#[]⟩), (.string ⟨#[]⟩), (.string ⟨#[]⟩), (.string ⟨#[]⟩), (.string ⟨#[]⟩), (.string ⟨#[]⟩), (.string ⟨#[]⟩), (.string ⟨#[]⟩), (.string ⟨#[]⟩), (.string ⟨#[]⟩), (.string ⟨#[]⟩), (.string ⟨#[]⟩), (.string ⟨#[]⟩), (.string ⟨#[]⟩), (.string ⟨#[]⟩), (.string ⟨#[]⟩)]) (by kernel_rfl) rfl) rfl rfl rfl ?_; clear hf fa; rintro fa _ w1 ⟨b1, rfl, hle1, hk1, he1⟩ hf
  have hBb1 : w.heap.size ≤ b1 := Nat.le_trans hb.size hle1
  replace hb := hb.trans (Below.mono he1 hb.size)
  refine sqn hf (d_storeK (T := 109) (v := (.agg #[(.string ⟨#[]⟩), (.string ⟨#[]⟩), (.string ⟨#[97, 100, 100]⟩), (.string ⟨#[115, 100]⟩), (.string ⟨#[108, 111, 97, 100]⟩), (.string ⟨#[115]⟩), (.string ⟨#[117, 110, 108, 111, 97, 100]⟩), (.string ⟨#[110]⟩), (.string ⟨#[115, 119, 97, 112]⟩), (.string ⟨#[110, 115, 110, 115]⟩), (.string ⟨#[99, 97, 108, 108]⟩), (.string ⟨#[110, 115, 97]⟩), (.string ⟨#[108, 111, 111, 107, 117, 112]⟩), (.string ⟨#[110, 115]⟩), (.string ⟨#[99, 111, 117, 110, 116]⟩), (.string ⟨#[110]⟩), (.string ⟨#[112, 101, 101, 107]⟩), (.string ⟨#[110, 110]⟩), (.string ⟨#[108, 105, 115, 116]⟩), (.string ⟨#[]⟩)])) (cs := #[(.string ⟨#[]⟩), (.string ⟨#[]⟩), (.string ⟨#[]⟩), (.string ⟨#[]⟩), (.string ⟨#[]⟩), (.string ⟨#[]⟩), (.string ⟨#[]⟩), (.string ⟨#[]⟩), (.string ⟨#[]⟩), (.string ⟨#[]⟩), (.string ⟨#[]⟩), (.string ⟨#[]⟩), (.string ⟨#[]⟩), (.string ⟨#[]⟩), (.string ⟨#[]⟩), (.string ⟨#[]⟩), (.string ⟨#[]⟩), (.string ⟨#[]⟩), (.string ⟨#[]⟩), (.string ⟨#[]⟩)]) (cs' := #[(.string ⟨#[]⟩), (.string ⟨#[]⟩), (.string ⟨#[97, 100, 100]⟩), (.string ⟨#[115, 100]⟩), (.string ⟨#[108, 111, 97, 100]⟩), (.string ⟨#[115]⟩), (.string ⟨#[117, 110, 108, 111, 97, 100]⟩), (.string ⟨#[110]⟩), (.string ⟨#[115, 119, 97, 112]⟩), (.string ⟨#[110, 115, 110, 115]⟩), (.string ⟨#[99, 97, 108, 108]⟩), (.string ⟨#[110, 115, 97]⟩), (.string ⟨#[108, 111, 111, 107, 117, 112]⟩), (.string ⟨#[110, 115]⟩), (.string ⟨#[99, 111, 117, 110, 116]⟩), (.string ⟨#[110]⟩), (.string ⟨#[112, 101, 101, 107]⟩), (.string ⟨#[110, 110]⟩), (.string ⟨#[108, 105, 115, 116]⟩), (.string ⟨#[]⟩)]) rfl rfl (by kernel_rfl) (by kernel_rfl) hk1 (by kernel_rfl) (by kernel_rfl)) rfl rfl ?_; clear hf fa; rintro fa _ w2 ⟨hk2, hg1⟩ hf
  replace hb := hb.trans (grown_below hg1 hb.size hBb1)
  apply wpList_nil
  (try simp only [Exit.then, Exit.inBlock, ↓reduceIte, Nat.reduceEqDiff])
  refine hK2 _ _ ?_
  refine wp_seq_k (fun K3 hK3 => ?_)
  refine wp_seq_k (fun K4 hK4 => ?_)
  refine wp_region_lit ?_
  refine sqv hf (r_move rfl) rfl rfl rfl ?_; clear hf fa; intro fa hf
  refine sqv hf (r_lt rfl rfl) rfl rfl rfl ?_; clear hf fa; intro fa hf
  refine sqv hf (r_move rfl) rfl rfl rfl ?_; clear hf fa; intro fa hf
  refine sqgF (act := (!(decide (k < (1 : Int))))) (ag := true) (c := (decide (k < (1 : Int)))) (v := (.int .i64 k)) hf rfl rfl rfl (fun hact => (r_move rfl)) rfl rfl ?_; clear hf fa; intro fa hf
  refine sqgF (act := (!(decide (k < (1 : Int))))) (ag := true) (c := (decide (k < (1 : Int)))) (v := (.bool (decide ((10 : Int) ≤ k)))) hf rfl rfl rfl (fun hact => (r_ge (gb_ev hact rfl) rfl)) rfl rfl ?_; clear hf fa; intro fa hf
  refine sqv hf (r_pickO (b := (decide (k < (1 : Int)))) (e := (decide ((10 : Int) ≤ k))) rfl rfl rfl) rfl rfl rfl ?_; clear hf fa; intro fa hf
  apply wpList_nil
  (try simp only [Exit.then, Exit.inBlock, ↓reduceIte, Nat.reduceEqDiff])
  refine hK4 _ _ ?_
  refine wp_cond_split (t := ((decide (k < (1 : Int))) || (decide ((10 : Int) ≤ k)))) (hf.ev rfl) (fun hqt20_1 => ?_) (fun hqt20_1 => ?_)
  · have hqt20_1b := hqt20_1
    try simp only [decide_eq_true_eq, Bool.and_eq_true, Bool.or_eq_true, Bool.not_eq_true', decide_eq_false_iff_not, ne_eq, Bool.not_eq_true] at hqt20_1
    refine wp_seq_k (fun K5 hK5 => ?_)
    refine wp_region_lit ?_
    refine sqv hf (r_assign rfl) rfl rfl rfl ?_; clear hf fa; intro fa hf
    refine sqv hf (r_assign rfl) rfl rfl rfl ?_; clear hf fa; intro fa hf
    apply wpList_nil
    (try simp only [Exit.then, Exit.inBlock, ↓reduceIte, Nat.reduceEqDiff])
    refine hK5 _ _ ?_
    refine wp_ret ?_
    (try simp only [Exit.then, Exit.inBlock])
    refine ret2 hf rfl rfl rfl ?_
    rw [form_no k (by have h := hqt20_1; omega), formf_no k (by have h := hqt20_1; omega)]; exact ⟨rfl, hb⟩
  · have hqt20_1b := hqt20_1
    replace hqt20_1 := Bool.eq_false_iff.1 hqt20_1
    try simp only [ne_eq, decide_eq_true_eq, Bool.and_eq_true, Bool.or_eq_true, Bool.not_eq_true', decide_eq_false_iff_not] at hqt20_1
    refine wp_skip ?_
    (try simp only [Exit.then, Exit.inBlock, ↓reduceIte, Nat.reduceEqDiff])
    refine hK3 _ _ ?_
    refine wp_seq_k (fun K6 hK6 => ?_)
    have hkk : 1 ≤ k ∧ k ≤ 9 := by have h := hqt20_1; omega
    have hr1 := Row.of_new (k := 2) (V := vPair) (l := [((⟨#[]⟩ : ByteArray), (⟨#[]⟩ : ByteArray)), ((⟨#[97, 100, 100]⟩ : ByteArray), (⟨#[115, 100]⟩ : ByteArray)), ((⟨#[108, 111, 97, 100]⟩ : ByteArray), (⟨#[115]⟩ : ByteArray)), ((⟨#[117, 110, 108, 111, 97, 100]⟩ : ByteArray), (⟨#[110]⟩ : ByteArray)), ((⟨#[115, 119, 97, 112]⟩ : ByteArray), (⟨#[110, 115, 110, 115]⟩ : ByteArray)), ((⟨#[99, 97, 108, 108]⟩ : ByteArray), (⟨#[110, 115, 97]⟩ : ByteArray)), ((⟨#[108, 111, 111, 107, 117, 112]⟩ : ByteArray), (⟨#[110, 115]⟩ : ByteArray)), ((⟨#[99, 111, 117, 110, 116]⟩ : ByteArray), (⟨#[110]⟩ : ByteArray)), ((⟨#[112, 101, 101, 107]⟩ : ByteArray), (⟨#[110, 110]⟩ : ByteArray)), ((⟨#[108, 105, 115, 116]⟩ : ByteArray), (⟨#[]⟩ : ByteArray))]) (base := w.heap.size) hk2 (by omega) rfl rfl (Nat.le_of_ble_eq_true rfl)
    skip
    have hy1 : ([((⟨#[]⟩ : ByteArray), (⟨#[]⟩ : ByteArray)), ((⟨#[97, 100, 100]⟩ : ByteArray), (⟨#[115, 100]⟩ : ByteArray)), ((⟨#[108, 111, 97, 100]⟩ : ByteArray), (⟨#[115]⟩ : ByteArray)), ((⟨#[117, 110, 108, 111, 97, 100]⟩ : ByteArray), (⟨#[110]⟩ : ByteArray)), ((⟨#[115, 119, 97, 112]⟩ : ByteArray), (⟨#[110, 115, 110, 115]⟩ : ByteArray)), ((⟨#[99, 97, 108, 108]⟩ : ByteArray), (⟨#[110, 115, 97]⟩ : ByteArray)), ((⟨#[108, 111, 111, 107, 117, 112]⟩ : ByteArray), (⟨#[110, 115]⟩ : ByteArray)), ((⟨#[99, 111, 117, 110, 116]⟩ : ByteArray), (⟨#[110]⟩ : ByteArray)), ((⟨#[112, 101, 101, 107]⟩ : ByteArray), (⟨#[110, 110]⟩ : ByteArray)), ((⟨#[108, 105, 115, 116]⟩ : ByteArray), (⟨#[]⟩ : ByteArray))])[(k).toNat]? = some (wordS k, formS k) := (form_row k hkk).1
    have hel1 := RdS.at (Row.rd (by intros; rfl) hr1) hy1
    obtain ⟨_, _, hab, hlr1, hel1⟩ := hel1
    cases hab
    have hy2 : ([((⟨#[]⟩ : ByteArray), (⟨#[]⟩ : ByteArray)), ((⟨#[97, 100, 100]⟩ : ByteArray), (⟨#[115, 100]⟩ : ByteArray)), ((⟨#[108, 111, 97, 100]⟩ : ByteArray), (⟨#[115]⟩ : ByteArray)), ((⟨#[117, 110, 108, 111, 97, 100]⟩ : ByteArray), (⟨#[110]⟩ : ByteArray)), ((⟨#[115, 119, 97, 112]⟩ : ByteArray), (⟨#[110, 115, 110, 115]⟩ : ByteArray)), ((⟨#[99, 97, 108, 108]⟩ : ByteArray), (⟨#[110, 115, 97]⟩ : ByteArray)), ((⟨#[108, 111, 111, 107, 117, 112]⟩ : ByteArray), (⟨#[110, 115]⟩ : ByteArray)), ((⟨#[99, 111, 117, 110, 116]⟩ : ByteArray), (⟨#[110]⟩ : ByteArray)), ((⟨#[112, 101, 101, 107]⟩ : ByteArray), (⟨#[110, 110]⟩ : ByteArray)), ((⟨#[108, 105, 115, 116]⟩ : ByteArray), (⟨#[]⟩ : ByteArray))])[(k).toNat]? = some (wordS k, formS k) := (form_row k hkk).1
    have hel2 := RdS.at (Row.rd (by intros; rfl) hr1) hy2
    obtain ⟨_, _, hab, hlr2, hel2⟩ := hel2
    cases hab
    refine wp_region_un (fun wq => Below w2.heap.size w2 wq) (fun w w' => Below w.heap.size w w')
      (fun V => [(fun x _ => x = (.int .i64 k)), (fun x _ => x = (.pointer (some ⟨b1, (0 + (k).toNat * 2), none⟩))), (fun x _ => x = (.pointer (some ⟨b1, (0 + (k).toNat * 2), none⟩))), (fun x _ => x = (.string (wordS k))), (fun x _ => x = (.int .i64 k)), (fun x _ => x = (.pointer (some ⟨b1, (0 + (k).toNat * 2), none⟩))), (fun x _ => x = (.pointer (some ⟨b1, ((0 + (k).toNat * 2) + 1), none⟩))), (fun x _ => x = (.string (formS k))), (fun x _ => x = (.string (wordS k))), (fun x _ => x = (.string (formS k)))])
      []
      [[], [0], [1], [2], [], [4], [5], [6], [0, 1, 2, 3], [0, 1, 2, 3, 4, 5, 6, 7, 8]]
      hf (by kernel_rfl) (by kernel_rfl) (fun _ => rfl) ((Below.refl _ _).drew) (fun a b h1 h2 => h1.trans (h2.mono h1.size)) (fun _ _ h => h.size) (fun V => ⟨kept_eq, kept_eq, kept_eq, kept_eq, kept_eq, kept_eq, kept_eq, kept_eq, kept_eq, kept_eq, trivial⟩) (fun _ _ _ _ _ => rfl) ?_ ?_
    · skip
      intro V
      refine ⟨fun wu0 hC hd => ?_, ?_⟩
      · clear hd
        replace hb := hb.trans (hC.mono hb.size)
        replace hr1 := Row.ext hr1 hC
        exact Runs.does (r_move rfl) ⟨Below.refl _ _, rfl, nofr rfl⟩
      refine ⟨fun wu1 hC hd => ?_, ?_⟩
      · obtain ⟨h0, _⟩ := hd
        skip
        replace h0 : V 0 = (.int .i64 k) := h0
        replace hb := hb.trans (hC.mono hb.size)
        replace hr1 := Row.ext hr1 hC
        exact Runs.does (r_ixp (sz := 2) (j := (k).toNat) (nn := 10) rfl (congrArg some h0) Try.underlying109 (by kernel_rfl) (by omega) (by omega) rfl) ⟨Below.refl _ _, rfl, nofr rfl⟩
      refine ⟨fun wu2 hC hd => ?_, ?_⟩
      · obtain ⟨h1, _⟩ := hd
        skip
        replace h1 : V 1 = (.pointer (some ⟨b1, (0 + (k).toNat * 2), none⟩)) := h1
        replace hb := hb.trans (hC.mono hb.size)
        replace hr1 := Row.ext hr1 hC
        exact Runs.does (r_ixp (sz := 1) (j := 0) (nn := 2) (q := (0 + (k).toNat * 2)) (congrArg some h1) rfl Try.underlying108 (by kernel_rfl) rfl (by decide) rfl) ⟨Below.refl _ _, rfl, nofr rfl⟩
      refine ⟨fun wu3 hC hd => ?_, ?_⟩
      · obtain ⟨h2, _⟩ := hd
        skip
        replace h2 : V 2 = (.pointer (some ⟨b1, (0 + (k).toNat * 2), none⟩)) := h2
        replace hb := hb.trans (hC.mono hb.size)
        replace hr1 := Row.ext hr1 hC
        exact Runs.does (r_load (v := (.string (wordS k))) (congrArg some h2) Try.underlying9 rfl (cellsAt_cell (cellsAt_below hel1 hC hlr1) (i := 0) rfl rfl)) ⟨Below.refl _ _, rfl, nofr rfl⟩
      refine ⟨fun wu4 hC hd => ?_, ?_⟩
      · clear hd
        replace hb := hb.trans (hC.mono hb.size)
        replace hr1 := Row.ext hr1 hC
        exact Runs.does (r_move rfl) ⟨Below.refl _ _, rfl, nofr rfl⟩
      refine ⟨fun wu5 hC hd => ?_, ?_⟩
      · obtain ⟨h4, _⟩ := hd
        skip
        replace h4 : V 4 = (.int .i64 k) := h4
        replace hb := hb.trans (hC.mono hb.size)
        replace hr1 := Row.ext hr1 hC
        exact Runs.does (r_ixp (sz := 2) (j := (k).toNat) (nn := 10) rfl (congrArg some h4) Try.underlying109 (by kernel_rfl) (by omega) (by omega) rfl) ⟨Below.refl _ _, rfl, nofr rfl⟩
      refine ⟨fun wu6 hC hd => ?_, ?_⟩
      · obtain ⟨h5, _⟩ := hd
        skip
        replace h5 : V 5 = (.pointer (some ⟨b1, (0 + (k).toNat * 2), none⟩)) := h5
        replace hb := hb.trans (hC.mono hb.size)
        replace hr1 := Row.ext hr1 hC
        exact Runs.does (r_ixp (sz := 1) (j := 1) (nn := 2) (q := ((0 + (k).toNat * 2) + 1)) (congrArg some h5) rfl Try.underlying108 (by kernel_rfl) rfl (by decide) rfl) ⟨Below.refl _ _, rfl, nofr rfl⟩
      refine ⟨fun wu7 hC hd => ?_, ?_⟩
      · obtain ⟨h6, _⟩ := hd
        skip
        replace h6 : V 6 = (.pointer (some ⟨b1, ((0 + (k).toNat * 2) + 1), none⟩)) := h6
        replace hb := hb.trans (hC.mono hb.size)
        replace hr1 := Row.ext hr1 hC
        exact Runs.does (r_load (v := (.string (formS k))) (congrArg some h6) Try.underlying9 rfl (cellsAt_cell (cellsAt_below hel2 hC hlr2) (i := 1) rfl rfl)) ⟨Below.refl _ _, rfl, nofr rfl⟩
      refine ⟨fun wu8 hC hd => ?_, ?_⟩
      · obtain ⟨h0, h1, h2, h3, _⟩ := hd
        skip
        skip
        skip
        skip
        replace h0 : V 0 = (.int .i64 k) := h0
        replace h1 : V 1 = (.pointer (some ⟨b1, (0 + (k).toNat * 2), none⟩)) := h1
        replace h2 : V 2 = (.pointer (some ⟨b1, (0 + (k).toNat * 2), none⟩)) := h2
        replace h3 : V 3 = (.string (wordS k)) := h3
        replace hb := hb.trans (hC.mono hb.size)
        replace hr1 := Row.ext hr1 hC
        exact Runs.does (r_assign (congrArg some h3)) ⟨Below.refl _ _, rfl, nofr rfl⟩
      refine ⟨fun wu9 hC hd => ?_, ?_⟩
      · obtain ⟨h0, h1, h2, h3, h4, h5, h6, h7, h8, _⟩ := hd
        skip
        skip
        skip
        skip
        skip
        skip
        skip
        skip
        skip
        replace h0 : V 0 = (.int .i64 k) := h0
        replace h1 : V 1 = (.pointer (some ⟨b1, (0 + (k).toNat * 2), none⟩)) := h1
        replace h2 : V 2 = (.pointer (some ⟨b1, (0 + (k).toNat * 2), none⟩)) := h2
        replace h3 : V 3 = (.string (wordS k)) := h3
        replace h4 : V 4 = (.int .i64 k) := h4
        replace h5 : V 5 = (.pointer (some ⟨b1, (0 + (k).toNat * 2), none⟩)) := h5
        replace h6 : V 6 = (.pointer (some ⟨b1, ((0 + (k).toNat * 2) + 1), none⟩)) := h6
        replace h7 : V 7 = (.string (formS k)) := h7
        replace h8 : V 8 = (.string (wordS k)) := h8
        replace hb := hb.trans (hC.mono hb.size)
        replace hr1 := Row.ext hr1 hC
        exact Runs.does (r_assign (congrArg some h7)) ⟨Below.refl _ _, rfl, nofr rfl⟩
      trivial
    · skip
      clear hf fa; intro V w3 fa he2 hp hnb hf
      have hv0 : V 0 = (.int .i64 k) := postsHold_at hp 0 rfl
      have hv1 : V 1 = (.pointer (some ⟨b1, (0 + (k).toNat * 2), none⟩)) := postsHold_at hp 1 rfl
      have hv2 : V 2 = (.pointer (some ⟨b1, (0 + (k).toNat * 2), none⟩)) := postsHold_at hp 2 rfl
      have hv3 : V 3 = (.string (wordS k)) := postsHold_at hp 3 rfl
      have hv4 : V 4 = (.int .i64 k) := postsHold_at hp 4 rfl
      have hv5 : V 5 = (.pointer (some ⟨b1, (0 + (k).toNat * 2), none⟩)) := postsHold_at hp 5 rfl
      have hv6 : V 6 = (.pointer (some ⟨b1, ((0 + (k).toNat * 2) + 1), none⟩)) := postsHold_at hp 6 rfl
      have hv7 : V 7 = (.string (formS k)) := postsHold_at hp 7 rfl
      have hv8 : V 8 = (.string (wordS k)) := postsHold_at hp 8 rfl
      have hv9 : V 9 = (.string (formS k)) := postsHold_at hp 9 rfl
      simp only [List.take_succ_cons, List.take_zero, insAll, ins, hv0, hv1, hv2, hv3, hv4, hv5, hv6, hv7, hv8, hv9] at hf
      clear hp hnb hv0 hv1 hv2 hv3 hv4 hv5 hv6 hv7 hv8 hv9
      replace hr1 := Row.ext hr1 he2
      replace hb := hb.trans (Below.mono he2 hb.size)
      (try simp only [Exit.then, Exit.inBlock, ↓reduceIte, Nat.reduceEqDiff])
      refine hK6 _ _ ?_
      refine wp_ret ?_
      (try simp only [Exit.then, Exit.inBlock])
      refine ret2 hf rfl rfl rfl ?_
      exact ⟨rfl, hb⟩

set_option maxHeartbeats 1000000 in
set_option maxRecDepth 100000 in
theorem rform_any (k : Int) (w : World) : Calls Try.prog 18 #[(.int .i64 k)] w fun e w' => e = .returned (.tuple #[.string (wordS k), .string (formS k)]) ∧ Below w.heap.size w w' := by
  refine sx_enter (L := [(0, (.int .i64 k))]) Try.func18 rfl rfl rfl rfl (fun fa hf => ?_)
  have hb : Below w.heap.size w w := Below.refl _ _
  refine wp_seq_k (fun K1 hK1 => ?_)
  refine wp_region_lit ?_
  refine sqv hf (r_assign rfl) rfl rfl rfl ?_; clear hf fa; intro fa hf
  refine sqv hf (r_assign rfl) rfl rfl rfl ?_; clear hf fa; intro fa hf
  apply wpList_nil
  (try simp only [Exit.then, Exit.inBlock, ↓reduceIte, Nat.reduceEqDiff])
  refine hK1 _ _ ?_
  refine wp_seq_k (fun K2 hK2 => ?_)
  refine wp_region_lit ?_
  refine sqdt hf (d_bslice (z := (.string ⟨#[]⟩)) (sz := 1) (vs := [(0, (.string ⟨#[]⟩)), (1, (.string ⟨#[97, 100, 100]⟩)), (2, (.string ⟨#[108, 111, 97, 100]⟩)), (3, (.string ⟨#[117, 110, 108, 111, 97, 100]⟩)), (4, (.string ⟨#[115, 119, 97, 112]⟩)), (5, (.string ⟨#[99, 97, 108, 108]⟩)), (6, (.string ⟨#[108, 111, 111, 107, 117, 112]⟩)), (7, (.string ⟨#[99, 111, 117, 110, 116]⟩)), (8, (.string ⟨#[112, 101, 101, 107]⟩)), (9, (.string ⟨#[108, 105, 115, 116]⟩))]) (cs := #[(.string ⟨#[]⟩), (.string ⟨#[97, 100, 100]⟩), (.string ⟨#[108, 111, 97, 100]⟩), (.string ⟨#[117, 110, 108, 111, 97, 100]⟩), (.string ⟨#[115, 119, 97, 112]⟩), (.string ⟨#[99, 97, 108, 108]⟩), (.string ⟨#[108, 111, 111, 107, 117, 112]⟩), (.string ⟨#[99, 111, 117, 110, 116]⟩), (.string ⟨#[112, 101, 101, 107]⟩), (.string ⟨#[108, 105, 115, 116]⟩)]) rfl Try.underlying32 (by kernel_rfl) rfl (by kernel_rfl)) rfl rfl rfl ?_; clear hf fa; rintro fa _ w1 ⟨b1, rfl, hle1, hk1, he1⟩ hf
  have hBb1 : w.heap.size ≤ b1 := Nat.le_trans hb.size hle1
  replace hb := hb.trans (Below.mono he1 hb.size)
  refine sqv hf (r_assign rfl) rfl rfl rfl ?_; clear hf fa; intro fa hf
  apply wpList_nil
  (try simp only [Exit.then, Exit.inBlock, ↓reduceIte, Nat.reduceEqDiff])
  refine hK2 _ _ ?_
  refine wp_seq_k (fun K3 hK3 => ?_)
  refine wp_region_lit ?_
  refine sqdt hf (d_bslice (z := (.string ⟨#[]⟩)) (sz := 1) (vs := [(0, (.string ⟨#[]⟩)), (1, (.string ⟨#[115, 100]⟩)), (2, (.string ⟨#[115]⟩)), (3, (.string ⟨#[110]⟩)), (4, (.string ⟨#[110, 115, 110, 115]⟩)), (5, (.string ⟨#[110, 115, 97]⟩)), (6, (.string ⟨#[110, 115]⟩)), (7, (.string ⟨#[110]⟩)), (8, (.string ⟨#[110, 110]⟩)), (9, (.string ⟨#[]⟩))]) (cs := #[(.string ⟨#[]⟩), (.string ⟨#[115, 100]⟩), (.string ⟨#[115]⟩), (.string ⟨#[110]⟩), (.string ⟨#[110, 115, 110, 115]⟩), (.string ⟨#[110, 115, 97]⟩), (.string ⟨#[110, 115]⟩), (.string ⟨#[110]⟩), (.string ⟨#[110, 110]⟩), (.string ⟨#[]⟩)]) rfl Try.underlying32 (by kernel_rfl) rfl (by kernel_rfl)) rfl rfl rfl ?_; clear hf fa; rintro fa _ w2 ⟨b2, rfl, hle2, hk2, he2⟩ hf
  have hBb2 : w.heap.size ≤ b2 := Nat.le_trans hb.size hle2
  have : b1 < b2 := Nat.lt_of_lt_of_le (blk_lt hk1) hle2
  replace hk1 := blk_ext hk1 he2
  replace hb := hb.trans (Below.mono he2 hb.size)
  refine sqv hf (r_assign rfl) rfl rfl rfl ?_; clear hf fa; intro fa hf
  apply wpList_nil
  (try simp only [Exit.then, Exit.inBlock, ↓reduceIte, Nat.reduceEqDiff])
  refine hK3 _ _ ?_
  refine wp_seq_k (fun K4 hK4 => ?_)
  refine wp_seq_k (fun K5 hK5 => ?_)
  refine wp_region_lit ?_
  refine sqv hf (r_move rfl) rfl rfl rfl ?_; clear hf fa; intro fa hf
  refine sqv hf (r_lt rfl rfl) rfl rfl rfl ?_; clear hf fa; intro fa hf
  refine sqv hf (r_move rfl) rfl rfl rfl ?_; clear hf fa; intro fa hf
  refine sqgF (act := (!(decide (k < (1 : Int))))) (ag := true) (c := (decide (k < (1 : Int)))) (v := (.int .i64 k)) hf rfl rfl rfl (fun hact => (r_move rfl)) rfl rfl ?_; clear hf fa; intro fa hf
  refine sqgF (act := (!(decide (k < (1 : Int))))) (ag := true) (c := (decide (k < (1 : Int)))) (v := (.bool (decide ((9 : Int) < k)))) hf rfl rfl rfl (fun hact => (r_gt (gb_ev hact rfl) rfl)) rfl rfl ?_; clear hf fa; intro fa hf
  refine sqv hf (r_pickO (b := (decide (k < (1 : Int)))) (e := (decide ((9 : Int) < k))) rfl rfl rfl) rfl rfl rfl ?_; clear hf fa; intro fa hf
  apply wpList_nil
  (try simp only [Exit.then, Exit.inBlock, ↓reduceIte, Nat.reduceEqDiff])
  refine hK5 _ _ ?_
  refine wp_cond_split (t := ((decide (k < (1 : Int))) || (decide ((9 : Int) < k)))) (hf.ev rfl) (fun hqt13_1 => ?_) (fun hqt13_1 => ?_)
  · have hqt13_1b := hqt13_1
    try simp only [decide_eq_true_eq, Bool.and_eq_true, Bool.or_eq_true, Bool.not_eq_true', decide_eq_false_iff_not, ne_eq, Bool.not_eq_true] at hqt13_1
    refine wp_seq_k (fun K6 hK6 => ?_)
    refine wp_region_lit ?_
    refine sqv hf (r_assign rfl) rfl rfl rfl ?_; clear hf fa; intro fa hf
    refine sqv hf (r_assign rfl) rfl rfl rfl ?_; clear hf fa; intro fa hf
    apply wpList_nil
    (try simp only [Exit.then, Exit.inBlock, ↓reduceIte, Nat.reduceEqDiff])
    refine hK6 _ _ ?_
    refine wp_ret ?_
    (try simp only [Exit.then, Exit.inBlock])
    refine ret2 hf rfl rfl rfl ?_
    rw [form_no k (by have h := hqt13_1; omega), formf_no k (by have h := hqt13_1; omega)]; exact ⟨rfl, hb⟩
  · have hqt13_1b := hqt13_1
    replace hqt13_1 := Bool.eq_false_iff.1 hqt13_1
    try simp only [ne_eq, decide_eq_true_eq, Bool.and_eq_true, Bool.or_eq_true, Bool.not_eq_true', decide_eq_false_iff_not] at hqt13_1
    refine wp_skip ?_
    (try simp only [Exit.then, Exit.inBlock, ↓reduceIte, Nat.reduceEqDiff])
    refine hK4 _ _ ?_
    refine wp_seq_k (fun K7 hK7 => ?_)
    have hkk : 1 ≤ k ∧ k ≤ 9 := by have h := hqt13_1; omega
    have hr1 := Row.of_new (k := 1) (V := vStr) (l := [(⟨#[]⟩ : ByteArray), (⟨#[97, 100, 100]⟩ : ByteArray), (⟨#[108, 111, 97, 100]⟩ : ByteArray), (⟨#[117, 110, 108, 111, 97, 100]⟩ : ByteArray), (⟨#[115, 119, 97, 112]⟩ : ByteArray), (⟨#[99, 97, 108, 108]⟩ : ByteArray), (⟨#[108, 111, 111, 107, 117, 112]⟩ : ByteArray), (⟨#[99, 111, 117, 110, 116]⟩ : ByteArray), (⟨#[112, 101, 101, 107]⟩ : ByteArray), (⟨#[108, 105, 115, 116]⟩ : ByteArray)]) (base := w.heap.size) hk1 (by omega) rfl rfl (Nat.le_of_ble_eq_true rfl)
    have hr2 := Row.of_new (k := 1) (V := vStr) (l := [(⟨#[]⟩ : ByteArray), (⟨#[115, 100]⟩ : ByteArray), (⟨#[115]⟩ : ByteArray), (⟨#[110]⟩ : ByteArray), (⟨#[110, 115, 110, 115]⟩ : ByteArray), (⟨#[110, 115, 97]⟩ : ByteArray), (⟨#[110, 115]⟩ : ByteArray), (⟨#[110]⟩ : ByteArray), (⟨#[110, 110]⟩ : ByteArray), (⟨#[]⟩ : ByteArray)]) (base := w.heap.size) hk2 (by omega) rfl rfl (Nat.le_of_ble_eq_true rfl)
    skip
    have hy1 : ([(⟨#[]⟩ : ByteArray), (⟨#[97, 100, 100]⟩ : ByteArray), (⟨#[108, 111, 97, 100]⟩ : ByteArray), (⟨#[117, 110, 108, 111, 97, 100]⟩ : ByteArray), (⟨#[115, 119, 97, 112]⟩ : ByteArray), (⟨#[99, 97, 108, 108]⟩ : ByteArray), (⟨#[108, 111, 111, 107, 117, 112]⟩ : ByteArray), (⟨#[99, 111, 117, 110, 116]⟩ : ByteArray), (⟨#[112, 101, 101, 107]⟩ : ByteArray), (⟨#[108, 105, 115, 116]⟩ : ByteArray)])[(k).toNat]? = some (wordS k) := (form_row k hkk).2.1
    have hel1 := RdS.at (Row.rd (by intros; rfl) hr1) hy1
    obtain ⟨_, _, hab, hlr1, hel1⟩ := hel1
    cases hab
    have hy2 : ([(⟨#[]⟩ : ByteArray), (⟨#[115, 100]⟩ : ByteArray), (⟨#[115]⟩ : ByteArray), (⟨#[110]⟩ : ByteArray), (⟨#[110, 115, 110, 115]⟩ : ByteArray), (⟨#[110, 115, 97]⟩ : ByteArray), (⟨#[110, 115]⟩ : ByteArray), (⟨#[110]⟩ : ByteArray), (⟨#[110, 110]⟩ : ByteArray), (⟨#[]⟩ : ByteArray)])[(k).toNat]? = some (formS k) := (form_row k hkk).2.2
    have hel2 := RdS.at (Row.rd (by intros; rfl) hr2) hy2
    obtain ⟨_, _, hab, hlr2, hel2⟩ := hel2
    cases hab
    refine wp_region_un (fun wq => Below w2.heap.size w2 wq) (fun w w' => Below w.heap.size w w')
      (fun V => [(fun x _ => x = (.slice (some ⟨b1, 0, none⟩) 10 10)), (fun x _ => x = (.int .i64 k)), (fun x _ => x = (.pointer (some ⟨b1, (0 + (k).toNat * 1), none⟩))), (fun x _ => x = (.string (wordS k))), (fun x _ => x = (.slice (some ⟨b2, 0, none⟩) 10 10)), (fun x _ => x = (.int .i64 k)), (fun x _ => x = (.pointer (some ⟨b2, (0 + (k).toNat * 1), none⟩))), (fun x _ => x = (.string (formS k))), (fun x _ => x = (.string (wordS k))), (fun x _ => x = (.string (formS k)))])
      []
      [[], [], [0, 1], [2], [], [], [4, 5], [6], [0, 1, 2, 3], [0, 1, 2, 3, 4, 5, 6, 7, 8]]
      hf (by kernel_rfl) (by kernel_rfl) (fun _ => rfl) ((Below.refl _ _).drew) (fun a b h1 h2 => h1.trans (h2.mono h1.size)) (fun _ _ h => h.size) (fun V => ⟨kept_eq, kept_eq, kept_eq, kept_eq, kept_eq, kept_eq, kept_eq, kept_eq, kept_eq, kept_eq, trivial⟩) (fun _ _ _ _ _ => rfl) ?_ ?_
    · skip
      intro V
      refine ⟨fun wu0 hC hd => ?_, ?_⟩
      · clear hd
        replace hb := hb.trans (hC.mono hb.size)
        replace hr1 := Row.ext hr1 hC
        replace hr2 := Row.ext hr2 hC
        exact Runs.does (r_move rfl) ⟨Below.refl _ _, rfl, nofr rfl⟩
      refine ⟨fun wu1 hC hd => ?_, ?_⟩
      · clear hd
        replace hb := hb.trans (hC.mono hb.size)
        replace hr1 := Row.ext hr1 hC
        replace hr2 := Row.ext hr2 hC
        exact Runs.does (r_move rfl) ⟨Below.refl _ _, rfl, nofr rfl⟩
      refine ⟨fun wu2 hC hd => ?_, ?_⟩
      · obtain ⟨h0, h1, _⟩ := hd
        skip
        skip
        replace h0 : V 0 = (.slice (some ⟨b1, 0, none⟩) 10 10) := h0
        replace h1 : V 1 = (.int .i64 k) := h1
        replace hb := hb.trans (hC.mono hb.size)
        replace hr1 := Row.ext hr1 hC
        replace hr2 := Row.ext hr2 hC
        exact Runs.does (r_ixa (sz := 1) (j := (k).toNat) (congrArg some h0) (congrArg some h1) Try.underlying32 (by kernel_rfl) (by omega) (by omega) rfl) ⟨Below.refl _ _, rfl, nofr rfl⟩
      refine ⟨fun wu3 hC hd => ?_, ?_⟩
      · obtain ⟨h2, _⟩ := hd
        skip
        replace h2 : V 2 = (.pointer (some ⟨b1, (0 + (k).toNat * 1), none⟩)) := h2
        replace hb := hb.trans (hC.mono hb.size)
        replace hr1 := Row.ext hr1 hC
        replace hr2 := Row.ext hr2 hC
        exact Runs.does (r_load (v := (.string (wordS k))) (congrArg some h2) Try.underlying9 rfl (cellsAt_cell (cellsAt_below hel1 hC hlr1) (i := 0) rfl rfl)) ⟨Below.refl _ _, rfl, nofr rfl⟩
      refine ⟨fun wu4 hC hd => ?_, ?_⟩
      · clear hd
        replace hb := hb.trans (hC.mono hb.size)
        replace hr1 := Row.ext hr1 hC
        replace hr2 := Row.ext hr2 hC
        exact Runs.does (r_move rfl) ⟨Below.refl _ _, rfl, nofr rfl⟩
      refine ⟨fun wu5 hC hd => ?_, ?_⟩
      · clear hd
        replace hb := hb.trans (hC.mono hb.size)
        replace hr1 := Row.ext hr1 hC
        replace hr2 := Row.ext hr2 hC
        exact Runs.does (r_move rfl) ⟨Below.refl _ _, rfl, nofr rfl⟩
      refine ⟨fun wu6 hC hd => ?_, ?_⟩
      · obtain ⟨h4, h5, _⟩ := hd
        skip
        skip
        replace h4 : V 4 = (.slice (some ⟨b2, 0, none⟩) 10 10) := h4
        replace h5 : V 5 = (.int .i64 k) := h5
        replace hb := hb.trans (hC.mono hb.size)
        replace hr1 := Row.ext hr1 hC
        replace hr2 := Row.ext hr2 hC
        exact Runs.does (r_ixa (sz := 1) (j := (k).toNat) (congrArg some h4) (congrArg some h5) Try.underlying32 (by kernel_rfl) (by omega) (by omega) rfl) ⟨Below.refl _ _, rfl, nofr rfl⟩
      refine ⟨fun wu7 hC hd => ?_, ?_⟩
      · obtain ⟨h6, _⟩ := hd
        skip
        replace h6 : V 6 = (.pointer (some ⟨b2, (0 + (k).toNat * 1), none⟩)) := h6
        replace hb := hb.trans (hC.mono hb.size)
        replace hr1 := Row.ext hr1 hC
        replace hr2 := Row.ext hr2 hC
        exact Runs.does (r_load (v := (.string (formS k))) (congrArg some h6) Try.underlying9 rfl (cellsAt_cell (cellsAt_below hel2 hC hlr2) (i := 0) rfl rfl)) ⟨Below.refl _ _, rfl, nofr rfl⟩
      refine ⟨fun wu8 hC hd => ?_, ?_⟩
      · obtain ⟨h0, h1, h2, h3, _⟩ := hd
        skip
        skip
        skip
        skip
        replace h0 : V 0 = (.slice (some ⟨b1, 0, none⟩) 10 10) := h0
        replace h1 : V 1 = (.int .i64 k) := h1
        replace h2 : V 2 = (.pointer (some ⟨b1, (0 + (k).toNat * 1), none⟩)) := h2
        replace h3 : V 3 = (.string (wordS k)) := h3
        replace hb := hb.trans (hC.mono hb.size)
        replace hr1 := Row.ext hr1 hC
        replace hr2 := Row.ext hr2 hC
        exact Runs.does (r_assign (congrArg some h3)) ⟨Below.refl _ _, rfl, nofr rfl⟩
      refine ⟨fun wu9 hC hd => ?_, ?_⟩
      · obtain ⟨h0, h1, h2, h3, h4, h5, h6, h7, h8, _⟩ := hd
        skip
        skip
        skip
        skip
        skip
        skip
        skip
        skip
        skip
        replace h0 : V 0 = (.slice (some ⟨b1, 0, none⟩) 10 10) := h0
        replace h1 : V 1 = (.int .i64 k) := h1
        replace h2 : V 2 = (.pointer (some ⟨b1, (0 + (k).toNat * 1), none⟩)) := h2
        replace h3 : V 3 = (.string (wordS k)) := h3
        replace h4 : V 4 = (.slice (some ⟨b2, 0, none⟩) 10 10) := h4
        replace h5 : V 5 = (.int .i64 k) := h5
        replace h6 : V 6 = (.pointer (some ⟨b2, (0 + (k).toNat * 1), none⟩)) := h6
        replace h7 : V 7 = (.string (formS k)) := h7
        replace h8 : V 8 = (.string (wordS k)) := h8
        replace hb := hb.trans (hC.mono hb.size)
        replace hr1 := Row.ext hr1 hC
        replace hr2 := Row.ext hr2 hC
        exact Runs.does (r_assign (congrArg some h7)) ⟨Below.refl _ _, rfl, nofr rfl⟩
      trivial
    · skip
      clear hf fa; intro V w3 fa he3 hp hnb hf
      have hv0 : V 0 = (.slice (some ⟨b1, 0, none⟩) 10 10) := postsHold_at hp 0 rfl
      have hv1 : V 1 = (.int .i64 k) := postsHold_at hp 1 rfl
      have hv2 : V 2 = (.pointer (some ⟨b1, (0 + (k).toNat * 1), none⟩)) := postsHold_at hp 2 rfl
      have hv3 : V 3 = (.string (wordS k)) := postsHold_at hp 3 rfl
      have hv4 : V 4 = (.slice (some ⟨b2, 0, none⟩) 10 10) := postsHold_at hp 4 rfl
      have hv5 : V 5 = (.int .i64 k) := postsHold_at hp 5 rfl
      have hv6 : V 6 = (.pointer (some ⟨b2, (0 + (k).toNat * 1), none⟩)) := postsHold_at hp 6 rfl
      have hv7 : V 7 = (.string (formS k)) := postsHold_at hp 7 rfl
      have hv8 : V 8 = (.string (wordS k)) := postsHold_at hp 8 rfl
      have hv9 : V 9 = (.string (formS k)) := postsHold_at hp 9 rfl
      simp only [List.take_succ_cons, List.take_zero, insAll, ins, hv0, hv1, hv2, hv3, hv4, hv5, hv6, hv7, hv8, hv9] at hf
      clear hp hnb hv0 hv1 hv2 hv3 hv4 hv5 hv6 hv7 hv8 hv9
      replace hr1 := Row.ext hr1 he3
      replace hr2 := Row.ext hr2 he3
      replace hb := hb.trans (Below.mono he3 hb.size)
      (try simp only [Exit.then, Exit.inBlock, ↓reduceIte, Nat.reduceEqDiff])
      refine hK7 _ _ ?_
      refine wp_ret ?_
      (try simp only [Exit.then, Exit.inBlock])
      refine ret2 hf rfl rfl rfl ?_
      exact ⟨rfl, hb⟩

def kindR (s : ByteArray) : Nat → Nat → Int
  | 0, _ => 0
  | f + 1, k => if wordS k = s then k else kindR s f (k + 1)
def kindP (s : ByteArray) : Int := kindR s 9 1

set_option maxHeartbeats 1000000 in
set_option maxRecDepth 100000 in
theorem kind_any (s : ByteArray) (w : World) : Calls Try.prog 20 #[(.string s)] w fun e w' => e = .returned (.int .i64 (kindP s)) ∧ Below w.heap.size w w' := by
  refine sx_enter (L := [(0, (.string s))]) Try.func20 rfl rfl rfl rfl (fun fa hf => ?_)
  have hb : Below w.heap.size w w := Below.refl _ _
  refine wp_seq_k (fun K1 hK1 => ?_)
  refine wp_region_lit ?_
  refine sqv hf (r_assign rfl) rfl rfl rfl ?_; clear hf fa; intro fa hf
  apply wpList_nil
  (try simp only [Exit.then, Exit.inBlock, ↓reduceIte, Nat.reduceEqDiff])
  refine hK1 _ _ ?_
  refine wp_seq_k (fun K2 hK2 => ?_)
  refine wp_seq_k (fun K3 hK3 => ?_)
  refine wp_region_lit ?_
  refine sqv hf (r_assign rfl) rfl rfl rfl ?_; clear hf fa; intro fa hf
  apply wpList_nil
  (try simp only [Exit.then, Exit.inBlock, ↓reduceIte, Nat.reduceEqDiff])
  refine hK3 _ _ ?_
  refine wp_block ?_
  refine wp_loop_k (fun mq fa wr => ∃ (k : Nat), mq = 10 - k ∧ Fr 19 fa [(0, (.string s)), (3, (.int .i64 ((k : Nat) : Int)))] ∧ Below w.heap.size w wr ∧ (k ≤ 10) ∧ (1 ≤ k) ∧ (kindP s = kindR s (10 - k) k)) ?_ ?_
  · skip
    exact ⟨_, 1, rfl, hf.sub ⟨rfl, (some_int (by first | rfl | omega)), trivial⟩, hb, by omega, by omega, rfl⟩
  · skip
    clear hf fa; intro mq1 fa w1 hI KL1 hKL1
    clear hb
    obtain ⟨k, hmq1, hf, hb, hk, hk1, Hs⟩ := hI
    refine wp_seq_k (fun K4 hK4 => ?_)
    refine wp_seq_k (fun K5 hK5 => ?_)
    refine wp_region_lit ?_
    refine sqv hf (r_move rfl) rfl rfl rfl ?_; clear hf fa; intro fa hf
    refine sqv hf (r_lt rfl rfl) rfl rfl rfl ?_; clear hf fa; intro fa hf
    apply wpList_nil
    (try simp only [Exit.then, Exit.inBlock, ↓reduceIte, Nat.reduceEqDiff])
    refine hK5 _ _ ?_
    refine wp_cond_split (t := (decide (((k : Nat) : Int) < (10 : Int)))) (hf.ev rfl) (fun hqt7_1 => ?_) (fun hqt7_1 => ?_)
    · have hqt7_1b := hqt7_1
      try simp only [decide_eq_true_eq, Bool.and_eq_true, Bool.or_eq_true, Bool.not_eq_true', decide_eq_false_iff_not, ne_eq, Bool.not_eq_true] at hqt7_1
      refine wp_skip ?_
      (try simp only [Exit.then, Exit.inBlock, ↓reduceIte, Nat.reduceEqDiff])
      refine hK4 _ _ ?_
      refine wp_seq_k (fun K6 hK6 => ?_)
      refine wp_block ?_
      refine wp_seq_k (fun K7 hK7 => ?_)
      refine wp_region_lit ?_
      refine sqv hf (r_move rfl) rfl rfl rfl ?_; clear hf fa; intro fa hf
      refine sqdt hf (d_callB (vs := [(.int .i64 ((k : Nat) : Int))]) rfl Try.func17 (by kernel_rfl) (by kernel_rfl) (form_any ((k : Nat) : Int) _)) rfl rfl rfl ?_; clear hf fa; rintro fa _ w2 ⟨rfl, he1⟩ hf
      replace hb := hb.trans (Below.mono he1 hb.size)
      refine sqv hf (r_move rfl) rfl rfl rfl ?_; clear hf fa; intro fa hf
      refine sqv hf (r_extract rfl (i := 0) rfl) rfl rfl rfl ?_; clear hf fa; intro fa hf
      refine sqv hf (r_extract rfl (i := 1) rfl) rfl rfl rfl ?_; clear hf fa; intro fa hf
      refine sqv hf (r_assign rfl) rfl rfl rfl ?_; clear hf fa; intro fa hf
      refine sqv hf (r_assign rfl) rfl rfl rfl ?_; clear hf fa; intro fa hf
      apply wpList_nil
      (try simp only [Exit.then, Exit.inBlock, ↓reduceIte, Nat.reduceEqDiff])
      refine hK7 _ _ ?_
      refine wp_seq_k (fun K8 hK8 => ?_)
      refine wp_region_lit ?_
      refine sqv hf (r_move rfl) rfl rfl rfl ?_; clear hf fa; intro fa hf
      refine sqv hf (r_move rfl) rfl rfl rfl ?_; clear hf fa; intro fa hf
      refine sqv hf (r_seq rfl rfl) rfl rfl rfl ?_; clear hf fa; intro fa hf
      apply wpList_nil
      (try simp only [Exit.then, Exit.inBlock, ↓reduceIte, Nat.reduceEqDiff])
      refine hK8 _ _ ?_
      refine wp_cond_split (t := (decide ((wordS ((k : Nat) : Int)) = s))) (hf.ev rfl) (fun hqt17_1 => ?_) (fun hqt17_1 => ?_)
      · have hqt17_1b := hqt17_1
        try simp only [decide_eq_true_eq, Bool.and_eq_true, Bool.or_eq_true, Bool.not_eq_true', decide_eq_false_iff_not, ne_eq, Bool.not_eq_true] at hqt17_1
        refine wp_seq_k (fun K9 hK9 => ?_)
        refine wp_region_lit ?_
        refine sqv hf (r_move rfl) rfl rfl rfl ?_; clear hf fa; intro fa hf
        refine sqv hf (r_assign rfl) rfl rfl rfl ?_; clear hf fa; intro fa hf
        apply wpList_nil
        (try simp only [Exit.then, Exit.inBlock, ↓reduceIte, Nat.reduceEqDiff])
        refine hK9 _ _ ?_
        refine wp_ret ?_
        (try simp only [Exit.then, Exit.inBlock])
        refine ret1 hf rfl rfl ?_
        refine ⟨?_, hb⟩; rw [Hs, show 10 - k = (10 - (k + 1)) + 1 by omega, kindR, if_pos hqt17_1]
      · have hqt17_1b := hqt17_1
        replace hqt17_1 := Bool.eq_false_iff.1 hqt17_1
        try simp only [ne_eq, decide_eq_true_eq, Bool.and_eq_true, Bool.or_eq_true, Bool.not_eq_true', decide_eq_false_iff_not] at hqt17_1
        refine wp_skip ?_
        (try simp only [Exit.then, Exit.inBlock, ↓reduceIte, Nat.reduceEqDiff])
        refine hK6 _ _ ?_
        refine wp_region_lit ?_
        refine sqv hf (r_move rfl) rfl rfl rfl ?_; clear hf fa; intro fa hf
        refine sqv hf (r_add (C := (((k : Nat) : Int) + (1 : Int))) rfl rfl (by rw [IntKind.wrap_i64]; omega)) rfl rfl rfl ?_; clear hf fa; intro fa hf
        refine sqv hf (r_assign rfl) rfl rfl rfl ?_; clear hf fa; intro fa hf
        apply wpList_nil
        (try simp only [Exit.then, Exit.inBlock, ↓reduceIte, Nat.reduceEqDiff])
        refine hKL1 _ _ _ (by omega) ⟨(k + 1), rfl, hf.sub ⟨rfl, (some_int (by first | rfl | omega)), trivial⟩, hb, by omega, by omega, (by rw [Hs, show 10 - k = (10 - (k + 1)) + 1 by omega, kindR, if_neg hqt17_1])⟩
    · have hqt7_1b := hqt7_1
      replace hqt7_1 := Bool.eq_false_iff.1 hqt7_1
      try simp only [ne_eq, decide_eq_true_eq, Bool.and_eq_true, Bool.or_eq_true, Bool.not_eq_true', decide_eq_false_iff_not] at hqt7_1
      refine wp_exit ?_
      (try simp only [Exit.then, Exit.inBlock, ↓reduceIte, Nat.reduceEqDiff])
      refine hK2 _ _ ?_
      refine wp_seq_k (fun K10 hK10 => ?_)
      refine wp_region_lit ?_
      refine sqv hf (r_assign rfl) rfl rfl rfl ?_; clear hf fa; intro fa hf
      apply wpList_nil
      (try simp only [Exit.then, Exit.inBlock, ↓reduceIte, Nat.reduceEqDiff])
      refine hK10 _ _ ?_
      refine wp_ret ?_
      (try simp only [Exit.then, Exit.inBlock])
      refine ret1 hf rfl rfl ?_
      refine ⟨?_, hb⟩; rw [Hs, show 10 - k = 0 by omega, kindR]

set_option maxHeartbeats 1000000 in
set_option maxRecDepth 100000 in
theorem rcount_any (s : ByteArray) (c : Nat) (w : World) (hs : s.size ≤ 100000) : Calls Try.prog 50 #[(.string s), (.int .u8 ((c : Nat) : Int))] w fun e w' => e = .returned (.int .i64 ((cntB s c : Nat) : Int)) ∧ Below w.heap.size w w' := by
  refine sx_enter (L := [(0, (.string s)), (1, (.int .u8 ((c : Nat) : Int)))]) Try.func50 rfl rfl rfl rfl (fun fa hf => ?_)
  have hb : Below w.heap.size w w := Below.refl _ _
  refine wp_seq_k (fun K1 hK1 => ?_)
  refine wp_region_lit ?_
  refine sqv hf (r_assign rfl) rfl rfl rfl ?_; clear hf fa; intro fa hf
  apply wpList_nil
  (try simp only [Exit.then, Exit.inBlock, ↓reduceIte, Nat.reduceEqDiff])
  refine hK1 _ _ ?_
  refine wp_seq_k (fun K2 hK2 => ?_)
  refine wp_region_lit ?_
  refine sqv hf (r_assign rfl) rfl rfl rfl ?_; clear hf fa; intro fa hf
  apply wpList_nil
  (try simp only [Exit.then, Exit.inBlock, ↓reduceIte, Nat.reduceEqDiff])
  refine hK2 _ _ ?_
  refine wp_seq_k (fun K3 hK3 => ?_)
  refine wp_seq_k (fun K4 hK4 => ?_)
  refine wp_region_lit ?_
  refine sqv hf (r_assign rfl) rfl rfl rfl ?_; clear hf fa; intro fa hf
  apply wpList_nil
  (try simp only [Exit.then, Exit.inBlock, ↓reduceIte, Nat.reduceEqDiff])
  refine hK4 _ _ ?_
  refine wp_block ?_
  refine wp_loop_k (fun mq fa wr => ∃ (k : Nat) (n : Nat), mq = s.size - k ∧ Fr 21 fa [(0, (.string s)), (1, (.int .u8 ((c : Nat) : Int))), (5, (.int .i64 ((n : Nat) : Int))), (6, (.int .i64 ((k : Nat) : Int)))] ∧ Below w.heap.size w wr ∧ (k ≤ s.size) ∧ (n = ((bl s).take k).count c)) ?_ ?_
  · skip
    exact ⟨_, 0, 0, rfl, hf.sub ⟨rfl, rfl, (some_int (by first | rfl | omega)), (some_int (by first | rfl | omega)), trivial⟩, hb, by omega, rfl⟩
  · skip
    clear hf fa; intro mq1 fa w1 hI KL1 hKL1
    clear hb
    obtain ⟨k, n, hmq1, hf, hb, hk, Hn⟩ := hI
    have hnk : n ≤ k := by rw [Hn]; exact Nat.le_trans List.count_le_length (by rw [List.length_take]; omega)
    refine wp_seq_k (fun K5 hK5 => ?_)
    refine wp_seq_k (fun K6 hK6 => ?_)
    refine wp_region_lit ?_
    refine sqv hf (r_move rfl) rfl rfl rfl ?_; clear hf fa; intro fa hf
    refine sqv hf (r_move rfl) rfl rfl rfl ?_; clear hf fa; intro fa hf
    refine sqv hf (r_lens rfl Try.underlying9) rfl rfl rfl ?_; clear hf fa; intro fa hf
    refine sqv hf (r_lt rfl rfl) rfl rfl rfl ?_; clear hf fa; intro fa hf
    apply wpList_nil
    (try simp only [Exit.then, Exit.inBlock, ↓reduceIte, Nat.reduceEqDiff])
    refine hK6 _ _ ?_
    refine wp_cond_split (t := (decide (((k : Nat) : Int) < ((s.size : Nat) : Int)))) (hf.ev rfl) (fun hqt10_1 => ?_) (fun hqt10_1 => ?_)
    · have hqt10_1b := hqt10_1
      try simp only [decide_eq_true_eq, Bool.and_eq_true, Bool.or_eq_true, Bool.not_eq_true', decide_eq_false_iff_not, ne_eq, Bool.not_eq_true] at hqt10_1
      refine wp_skip ?_
      (try simp only [Exit.then, Exit.inBlock, ↓reduceIte, Nat.reduceEqDiff])
      refine hK5 _ _ ?_
      refine wp_seq_k (fun K7 hK7 => ?_)
      refine wp_block ?_
      refine wp_seq_k (fun K8 hK8 => ?_)
      refine wp_region_lit ?_
      refine sqv hf (r_move rfl) rfl rfl rfl ?_; clear hf fa; intro fa hf
      refine sqv hf (r_move rfl) rfl rfl rfl ?_; clear hf fa; intro fa hf
      refine sqv hf (r_sindexD (j := k) rfl rfl Try.underlying9 rfl (by omega)) rfl rfl rfl ?_; clear hf fa; intro fa hf
      refine sqv hf (r_move rfl) rfl rfl rfl ?_; clear hf fa; intro fa hf
      refine sqv hf (r_eq rfl rfl) rfl rfl rfl ?_; clear hf fa; intro fa hf
      apply wpList_nil
      (try simp only [Exit.then, Exit.inBlock, ↓reduceIte, Nat.reduceEqDiff])
      refine hK8 _ _ ?_
      refine wp_cond_split (t := (decide (((sbt s k : Nat) : Int) = ((c : Nat) : Int)))) (hf.ev rfl) (fun hqt17_1 => ?_) (fun hqt17_1 => ?_)
      · have hqt17_1b := hqt17_1
        try simp only [decide_eq_true_eq, Bool.and_eq_true, Bool.or_eq_true, Bool.not_eq_true', decide_eq_false_iff_not, ne_eq, Bool.not_eq_true] at hqt17_1
        refine wp_region_lit ?_
        refine sqv hf (r_move rfl) rfl rfl rfl ?_; clear hf fa; intro fa hf
        refine sqv hf (r_add (C := (((n : Nat) : Int) + (1 : Int))) rfl rfl (by rw [IntKind.wrap_i64]; omega)) rfl rfl rfl ?_; clear hf fa; intro fa hf
        refine sqv hf (r_assign rfl) rfl rfl rfl ?_; clear hf fa; intro fa hf
        apply wpList_nil
        (try simp only [Exit.then, Exit.inBlock, ↓reduceIte, Nat.reduceEqDiff])
        refine hK7 _ _ ?_
        refine wp_region_lit ?_
        refine sqv hf (r_move rfl) rfl rfl rfl ?_; clear hf fa; intro fa hf
        refine sqv hf (r_add (C := (((k : Nat) : Int) + (1 : Int))) rfl rfl (by rw [IntKind.wrap_i64]; omega)) rfl rfl rfl ?_; clear hf fa; intro fa hf
        refine sqv hf (r_assign rfl) rfl rfl rfl ?_; clear hf fa; intro fa hf
        apply wpList_nil
        (try simp only [Exit.then, Exit.inBlock, ↓reduceIte, Nat.reduceEqDiff])
        refine hKL1 _ _ _ (by omega) ⟨(k + 1), (n + 1), rfl, hf.sub ⟨rfl, rfl, (some_int (by first | rfl | omega)), (some_int (by first | rfl | omega)), trivial⟩, hb, by omega, (by rw [bl_take (by omega), List.count_append, ← Hn, List.count_singleton]; rw [if_pos (by simp; omega)])⟩
      · have hqt17_1b := hqt17_1
        replace hqt17_1 := Bool.eq_false_iff.1 hqt17_1
        try simp only [ne_eq, decide_eq_true_eq, Bool.and_eq_true, Bool.or_eq_true, Bool.not_eq_true', decide_eq_false_iff_not] at hqt17_1
        refine wp_skip ?_
        (try simp only [Exit.then, Exit.inBlock, ↓reduceIte, Nat.reduceEqDiff])
        refine hK7 _ _ ?_
        refine wp_region_lit ?_
        refine sqv hf (r_move rfl) rfl rfl rfl ?_; clear hf fa; intro fa hf
        refine sqv hf (r_add (C := (((k : Nat) : Int) + (1 : Int))) rfl rfl (by rw [IntKind.wrap_i64]; omega)) rfl rfl rfl ?_; clear hf fa; intro fa hf
        refine sqv hf (r_assign rfl) rfl rfl rfl ?_; clear hf fa; intro fa hf
        apply wpList_nil
        (try simp only [Exit.then, Exit.inBlock, ↓reduceIte, Nat.reduceEqDiff])
        refine hKL1 _ _ _ (by omega) ⟨(k + 1), n, rfl, hf.sub ⟨rfl, rfl, rfl, (some_int (by first | rfl | omega)), trivial⟩, hb, by omega, (by rw [bl_take (by omega), List.count_append, ← Hn, List.count_singleton]; rw [if_neg (by simp; omega)]; rfl)⟩
    · have hqt10_1b := hqt10_1
      replace hqt10_1 := Bool.eq_false_iff.1 hqt10_1
      try simp only [ne_eq, decide_eq_true_eq, Bool.and_eq_true, Bool.or_eq_true, Bool.not_eq_true', decide_eq_false_iff_not] at hqt10_1
      refine wp_exit ?_
      (try simp only [Exit.then, Exit.inBlock, ↓reduceIte, Nat.reduceEqDiff])
      refine hK3 _ _ ?_
      refine wp_seq_k (fun K9 hK9 => ?_)
      refine wp_region_lit ?_
      refine sqv hf (r_move rfl) rfl rfl rfl ?_; clear hf fa; intro fa hf
      refine sqv hf (r_assign rfl) rfl rfl rfl ?_; clear hf fa; intro fa hf
      apply wpList_nil
      (try simp only [Exit.then, Exit.inBlock, ↓reduceIte, Nat.reduceEqDiff])
      refine hK9 _ _ ?_
      refine wp_ret ?_
      (try simp only [Exit.then, Exit.inBlock])
      refine ret1 hf rfl rfl ?_
      refine ⟨?_, hb⟩; unfold cntB; rw [Hn, List.take_of_length_le (by rw [bl_length]; omega)]
end Go.Proofs.Ytpalmpfkliepfaa

namespace Go.Proofs.Ytpalmpfkliepfaa
open Go.RowKit Ut
set_option linter.unusedVariables false
set_option linter.unusedSimpArgs false
/-- What an operation has beside its kind: numbers, names, values, bytes. -/
structure PSt where
  N : List Int
  S : List ByteArray
  A : List MVal
  D : List Nat
def OpF (w : World) (st : PSt) (aN aS aA aD : Option Addr) : Prop := RdS 1 (vInt .i64) w aN st.N ∧ RdS 1 vStr w aS st.S ∧ RdS 2 vMVal w aA st.A ∧ RdS 1 (vInt .u8) w aD (nI st.D)
theorem OpF.ext {w w' : World} {st : PSt} {aN aS aA aD : Option Addr} (h : OpF w st aN aS aA aD) (hb : Below w.heap.size w w') : OpF w' st aN aS aA aD := ⟨RdS.ext h.1 hb, RdS.ext h.2.1 hb, RdS.ext h.2.2.1 hb, RdS.ext h.2.2.2 hb⟩
def RngV (v : MVal) : Prop := (0 ≤ v.1 ∧ v.1 < 256) ∧ (0 ≤ v.2.1 ∧ v.2.1 < 18446744073709551616)
structure OpB (st : PSt) : Prop where
  n : ∀ x ∈ st.N, inI x
  s : ∀ x ∈ st.S, x.size ≤ 100000
  a : ∀ x ∈ st.A, RngV x
  d : ∀ x ∈ st.D, x < 256
  nl : st.N.length ≤ 1000000
  sl : st.S.length ≤ 1000000
  al : st.A.length ≤ 1000000
  dl : st.D.length ≤ 1000000
def Head (k : Int) (st : PSt) : Prop := ¬ wordS k = ⟨#[]⟩ ∧ st.N.length = cntB (formS k) 110 ∧ st.S.length = cntB (formS k) 115 ∧ st.D.length ≤ 4096 ∧ st.A.length ≤ 20 ∧
  (0 < st.D.length → posB (formS k) 100 < (formS k).size) ∧ (0 < st.A.length → posB (formS k) 97 < (formS k).size)
instance (k : Int) (st : PSt) : Decidable (Head k st) := by unfold Head; infer_instance
def rightP (k : Int) (st : PSt) : Bool := decide (Head k st) && st.S.all (fun s => decide (checkF s = 0)) && st.A.all vrightP
theorem right_head {k : Int} {st : PSt} (h : ¬ Head k st) : rightP k st = false := by unfold rightP; rw [decide_eq_false h]; rfl
theorem right_badS {k : Int} {st : PSt} {j : Nat} {y : ByteArray} (h : st.S[j]? = some y) (hn : ¬ checkF y = 0) : rightP k st = false := by
  cases hr : rightP k st with
  | false => rfl
  | true =>
    unfold rightP at hr
    simp only [Bool.and_eq_true, List.all_eq_true, decide_eq_true_eq] at hr
    exact absurd (hr.1.2 y (List.mem_of_getElem? h)) hn
theorem right_badA {k : Int} {st : PSt} {j : Nat} {y : MVal} (h : st.A[j]? = some y) (hn : vrightP y = false) : rightP k st = false := by
  cases hr : rightP k st with
  | false => rfl
  | true =>
    unfold rightP at hr
    simp only [Bool.and_eq_true, List.all_eq_true, decide_eq_true_eq] at hr
    rw [hr.2 y (List.mem_of_getElem? h)] at hn; cases hn
theorem right_yes {k : Int} {st : PSt} (h : Head k st) (hS : ∀ s ∈ st.S, checkF s = 0) (hA : ∀ v ∈ st.A, vrightP v = true) : rightP k st = true := by
  unfold rightP
  simp only [Bool.and_eq_true, List.all_eq_true, decide_eq_true_eq]
  exact ⟨⟨h, hS⟩, hA⟩
theorem right_split {k : Int} {st : PSt} (h : rightP k st = true) : Head k st ∧ (∀ s ∈ st.S, checkF s = 0) ∧ (∀ v ∈ st.A, vrightP v = true) := by
  unfold rightP at h
  simp only [Bool.and_eq_true, List.all_eq_true, decide_eq_true_eq] at h
  exact ⟨h.1.1, h.1.2, h.2⟩
theorem all_snoc {α : Type} {p : α → Prop} {l : List α} {j : Nat} {y : α} (h : ∀ x ∈ l.take j, p x) (hy : l[j]? = some y) (hp : p y) : ∀ x ∈ l.take (j + 1), p x := by
  rw [List.take_add_one, hy]
  intro x hx
  rcases List.mem_append.1 hx with hx | hx
  · exact h x hx
  · simp only [Option.toList, List.mem_singleton] at hx; subst hx; exact hp
theorem all_end {α : Type} {p : α → Prop} {l : List α} {j : Nat} (h : ∀ x ∈ l.take j, p x) (hj : l.length ≤ j) : ∀ x ∈ l, p x := by rwa [List.take_of_length_le hj] at h
theorem form_cnt (k : Int) : cntB (formS k) 100 = (if posB (formS k) 100 < (formS k).size then 1 else 0) ∧ cntB (formS k) 97 = (if posB (formS k) 97 < (formS k).size then 1 else 0) ∧ cntB (formS k) 110 ≤ 4 ∧ cntB (formS k) 115 ≤ 4 ∧ cntB (formS k) 100 ≤ 1 ∧ cntB (formS k) 97 ≤ 1 := by
  rcases form_cases k with ⟨_, h1, h2⟩ | rfl | rfl | rfl | rfl | rfl | rfl | rfl | rfl | rfl
  · rw [h2]; decide
  all_goals decide
theorem check_iff (s : ByteArray) : checkF s = 0 ↔ s.size ≤ 200 ∧ 0 ≤ cnt (bl s) := by
  unfold checkF
  by_cases h : 200 < s.size
  · rw [if_pos h]; omega
  · rw [if_neg h]; split <;> omega
theorem nv_bool {t : Int} {x b : Bool} (h : (decide (t ≠ 0) || !x) = b) : (decide (t = 0) && x) = !b := by
  by_cases h2 : t = 0 <;> cases x <;> simp [h2] at h ⊢ <;> subst h <;> rfl
set_option maxHeartbeats 1000000 in
set_option maxRecDepth 100000 in
theorem right_any (k : Int) (st : PSt) (aN aS aA aD : Option Addr) (cN cS cA cD : Nat) (w : World) (hF : OpF w st aN aS aA aD) (hB : OpB st) : Calls Try.prog 19 #[(.agg #[(.int .i64 k), (.slice aN st.N.length cN), (.slice aS st.S.length cS), (.slice aA st.A.length cA), (.slice aD st.D.length cD)])] w fun e w' => e = .returned (.bool (rightP k st)) ∧ Below w.heap.size w w' := by
  have hwl := word_len k
  have hsl := hB.sl
  have hal := hB.al
  have hdl := hB.dl
  have hnl := hB.nl
  have hfc := form_cnt k
  refine sx_enter (L := [(0, (.agg #[(.int .i64 k), (.slice aN st.N.length cN), (.slice aS st.S.length cS), (.slice aA st.A.length cA), (.slice aD st.D.length cD)]))]) Try.func19 rfl rfl rfl rfl (fun fa hf => ?_)
  have hb : Below w.heap.size w w := Below.refl _ _
  refine wp_seq_k (fun K1 hK1 => ?_)
  refine wp_region_lit ?_
  refine sqdt hf (d_box (cs := #[(.int .i64 k), (.slice aN st.N.length cN), (.slice aS st.S.length cS), (.slice aA st.A.length cA), (.slice aD st.D.length cD)]) rfl rfl) rfl rfl rfl ?_; clear hf fa; rintro fa _ w1 ⟨b1, rfl, hle1, hk1, he1⟩ hf
  have hBb1 : w.heap.size ≤ b1 := Nat.le_trans hb.size hle1
  replace hb := hb.trans (Below.mono he1 hb.size)
  refine sqv hf (r_assign rfl) rfl rfl rfl ?_; clear hf fa; intro fa hf
  apply wpList_nil
  (try simp only [Exit.then, Exit.inBlock, ↓reduceIte, Nat.reduceEqDiff])
  refine hK1 _ _ ?_
  refine wp_seq_k (fun K2 hK2 => ?_)
  refine wp_region_lit ?_
  refine sqv hf (r_fa rfl Try.underlying45 (f := 0) (q := 0) rfl (by kernel_rfl) rfl) rfl rfl rfl ?_; clear hf fa; intro fa hf
  refine sqv hf (r_load (v := (.int .i64 k)) rfl Try.underlying3 rfl (cell_blk hk1 rfl)) rfl rfl rfl ?_; clear hf fa; intro fa hf
  refine sqdt hf (d_callB (vs := [(.int .i64 k)]) rfl Try.func17 (by kernel_rfl) (by kernel_rfl) (form_any k _)) rfl rfl rfl ?_; clear hf fa; rintro fa _ w2 ⟨rfl, he2⟩ hf
  replace hk1 := blk_ext hk1 he2
  replace hb := hb.trans (Below.mono he2 hb.size)
  refine sqv hf (r_move rfl) rfl rfl rfl ?_; clear hf fa; intro fa hf
  refine sqv hf (r_extract rfl (i := 0) rfl) rfl rfl rfl ?_; clear hf fa; intro fa hf
  refine sqv hf (r_extract rfl (i := 1) rfl) rfl rfl rfl ?_; clear hf fa; intro fa hf
  refine sqv hf (r_assign rfl) rfl rfl rfl ?_; clear hf fa; intro fa hf
  refine sqv hf (r_assign rfl) rfl rfl rfl ?_; clear hf fa; intro fa hf
  apply wpList_nil
  (try simp only [Exit.then, Exit.inBlock, ↓reduceIte, Nat.reduceEqDiff])
  refine hK2 _ _ ?_
  refine wp_seq_k (fun K3 hK3 => ?_)
  refine wp_seq_k (fun K4 hK4 => ?_)
  obtain ⟨c1, hc1⟩ : ∃ b, decide (wordS k = ⟨#[]⟩) = b := ⟨_, rfl⟩
  obtain ⟨c2, hc2⟩ : ∃ b, decide (((st.N.length : Nat) : Int) ≠ ((cntB (formS k) 110 : Nat) : Int)) = b := ⟨_, rfl⟩
  obtain ⟨c3, hc3⟩ : ∃ b, decide (((st.S.length : Nat) : Int) ≠ ((cntB (formS k) 115 : Nat) : Int)) = b := ⟨_, rfl⟩
  refine wp_region_un (fun wq => Below w2.heap.size w2 wq) (fun w w' => Below w.heap.size w w')
    (fun V => [(fun x _ => x = (.string (wordS k))), (fun x _ => x = (.bool c1)), (fun x _ => x = (.bool c1)), (fun x _ => x = (gb (!c1) (.pointer (some ⟨b1, 1, none⟩)))), (fun x _ => x = (gb (!c1) (.slice aN st.N.length cN))), (fun x _ => x = (gb (!c1) (.int .i64 ((st.N.length : Nat) : Int)))), (fun x _ => x = (gb (!c1) (.string (formS k)))), (fun x _ => x = (gb (!c1) (.int .i64 (((cntB (formS k) 110) : Nat) : Int)))), (fun x _ => x = (gb (!c1) (.bool c2))), (fun x _ => x = (.bool (c1 || c2))), (fun x _ => x = (.bool (c1 || c2))), (fun x _ => x = (gb (!(c1 || c2)) (.pointer (some ⟨b1, 2, none⟩)))), (fun x _ => x = (gb (!(c1 || c2)) (.slice aS st.S.length cS))), (fun x _ => x = (gb (!(c1 || c2)) (.int .i64 ((st.S.length : Nat) : Int)))), (fun x _ => x = (gb (!(c1 || c2)) (.string (formS k)))), (fun x _ => x = (gb (!(c1 || c2)) (.int .i64 (((cntB (formS k) 115) : Nat) : Int)))), (fun x _ => x = (gb (!(c1 || c2)) (.bool c3))), (fun x _ => x = (.bool ((c1 || c2) || c3)))])
    []
    [[], [0], [1], [2], [2, 3], [2, 4], [2], [2, 6], [2, 5, 7], [2, 8], [7, 9], [10], [10, 11], [10, 12], [10], [10, 14], [10, 13, 15], [10, 16]]
    hf (by kernel_rfl) (by kernel_rfl) (fun _ => rfl) ((Below.refl _ _).drew) (fun a b h1 h2 => h1.trans (h2.mono h1.size)) (fun _ _ h => h.size) (fun V => ⟨kept_eq, kept_eq, kept_eq, kept_eq, kept_eq, kept_eq, kept_eq, kept_eq, kept_eq, kept_eq, kept_eq, kept_eq, kept_eq, kept_eq, kept_eq, kept_eq, kept_eq, kept_eq, trivial⟩) (fun _ _ _ _ _ => rfl) ?_ ?_
  · skip
    intro V
    refine ⟨fun wu0 hC hd => ?_, ?_⟩
    · clear hd
      replace hb := hb.trans (hC.mono hb.size)
      replace hk1 := blk_ext hk1 hC
      exact Runs.does (r_move rfl) ⟨Below.refl _ _, rfl, nofr rfl⟩
    refine ⟨fun wu1 hC hd => ?_, ?_⟩
    · obtain ⟨h0, _⟩ := hd
      skip
      replace h0 : V 0 = (.string (wordS k)) := h0
      replace hb := hb.trans (hC.mono hb.size)
      replace hk1 := blk_ext hk1 hC
      exact Runs.does (Runs.veq (r_seq (congrArg some h0) rfl) (congrArg Value.bool (show _ = c1 from hc1))) ⟨Below.refl _ _, rfl, nofr rfl⟩
    refine ⟨fun wu2 hC hd => ?_, ?_⟩
    · obtain ⟨h1, _⟩ := hd
      skip
      replace h1 : V 1 = (.bool c1) := h1
      replace hb := hb.trans (hC.mono hb.size)
      replace hk1 := blk_ext hk1 hC
      exact Runs.does (r_move (congrArg some h1)) ⟨Below.refl _ _, rfl, nofr rfl⟩
    refine ⟨fun wu3 hC hd => ?_, ?_⟩
    · obtain ⟨h2, _⟩ := hd
      skip
      replace h2 : V 2 = (.bool c1) := h2
      replace hb := hb.trans (hC.mono hb.size)
      replace hk1 := blk_ext hk1 hC
      refine ⟨true, c1, congrArg some h2, fun hact => ?_, fun hact => ?_⟩
      · replace hact : (!c1) = true := by simpa using hact
        refine Runs.does (v := (.pointer (some ⟨b1, 1, none⟩))) (r_fa rfl Try.underlying45 (f := 1) (q := 1) rfl (by kernel_rfl) rfl) ⟨Below.refl _ _, ?_, nofr rfl⟩
        show _ = gb _ _; rw [hact]; rfl
      · replace hact : (!c1) = false := by simpa using hact
        refine ⟨Below.refl _ _, ?_, nofr rfl⟩
        show _ = gb _ _; rw [hact]; rfl
    refine ⟨fun wu4 hC hd => ?_, ?_⟩
    · obtain ⟨h2, h3, _⟩ := hd
      skip
      skip
      replace h2 : V 2 = (.bool c1) := h2
      replace h3 : V 3 = (gb (!c1) (.pointer (some ⟨b1, 1, none⟩))) := h3
      replace hb := hb.trans (hC.mono hb.size)
      replace hk1 := blk_ext hk1 hC
      refine ⟨true, c1, congrArg some h2, fun hact => ?_, fun hact => ?_⟩
      · replace hact : (!c1) = true := by simpa using hact
        refine Runs.does (v := (.slice aN st.N.length cN)) (r_load (v := (.slice aN st.N.length cN)) (gb_ev hact (congrArg some h3)) Try.underlying41 rfl (cell_blk hk1 rfl)) ⟨Below.refl _ _, ?_, nofr rfl⟩
        show _ = gb _ _; rw [hact]; rfl
      · replace hact : (!c1) = false := by simpa using hact
        refine ⟨Below.refl _ _, ?_, nofr rfl⟩
        show _ = gb _ _; rw [hact]; rfl
    refine ⟨fun wu5 hC hd => ?_, ?_⟩
    · obtain ⟨h2, h4, _⟩ := hd
      skip
      skip
      replace h2 : V 2 = (.bool c1) := h2
      replace h4 : V 4 = (gb (!c1) (.slice aN st.N.length cN)) := h4
      replace hb := hb.trans (hC.mono hb.size)
      replace hk1 := blk_ext hk1 hC
      refine ⟨true, c1, congrArg some h2, fun hact => ?_, fun hact => ?_⟩
      · replace hact : (!c1) = true := by simpa using hact
        refine Runs.does (v := (.int .i64 ((st.N.length : Nat) : Int))) (r_lensl (gb_ev hact (congrArg some h4)) Try.underlying41) ⟨Below.refl _ _, ?_, nofr rfl⟩
        show _ = gb _ _; rw [hact]; rfl
      · replace hact : (!c1) = false := by simpa using hact
        refine ⟨Below.refl _ _, ?_, nofr rfl⟩
        show _ = gb _ _; rw [hact]; rfl
    refine ⟨fun wu6 hC hd => ?_, ?_⟩
    · obtain ⟨h2, _⟩ := hd
      skip
      replace h2 : V 2 = (.bool c1) := h2
      replace hb := hb.trans (hC.mono hb.size)
      replace hk1 := blk_ext hk1 hC
      refine ⟨true, c1, congrArg some h2, fun hact => ?_, fun hact => ?_⟩
      · replace hact : (!c1) = true := by simpa using hact
        refine Runs.does (v := (.string (formS k))) (r_move rfl) ⟨Below.refl _ _, ?_, nofr rfl⟩
        show _ = gb _ _; rw [hact]; rfl
      · replace hact : (!c1) = false := by simpa using hact
        refine ⟨Below.refl _ _, ?_, nofr rfl⟩
        show _ = gb _ _; rw [hact]; rfl
    refine ⟨fun wu7 hC hd => ?_, ?_⟩
    · obtain ⟨h2, h6, _⟩ := hd
      skip
      skip
      replace h2 : V 2 = (.bool c1) := h2
      replace h6 : V 6 = (gb (!c1) (.string (formS k))) := h6
      replace hb := hb.trans (hC.mono hb.size)
      replace hk1 := blk_ext hk1 hC
      refine ⟨true, c1, congrArg some h2, fun hact => ?_, fun hact => ?_⟩
      · replace hact : (!c1) = true := by simpa using hact
        refine Does.mono (d_callS (vs := [(.string (formS k)), (.string ⟨#[110]⟩)]) (cons_ev (gb_ev hact (congrArg some h6)) (cons_ev rfl rfl)) Try.func54 (by kernel_rfl) (by kernel_rfl) (count_any (formS k) 110 _)) (fun _ _ h => ⟨h.2 ▸ Below.refl _ _, ?_, nofr rfl⟩)
        show _ = gb _ _; rw [hact]; exact h.1
      · replace hact : (!c1) = false := by simpa using hact
        refine ⟨Below.refl _ _, ?_, nofr rfl⟩
        show _ = gb _ _; rw [hact]; rfl
    refine ⟨fun wu8 hC hd => ?_, ?_⟩
    · obtain ⟨h2, h5, h7, _⟩ := hd
      skip
      skip
      skip
      replace h2 : V 2 = (.bool c1) := h2
      replace h5 : V 5 = (gb (!c1) (.int .i64 ((st.N.length : Nat) : Int))) := h5
      replace h7 : V 7 = (gb (!c1) (.int .i64 (((cntB (formS k) 110) : Nat) : Int))) := h7
      replace hb := hb.trans (hC.mono hb.size)
      replace hk1 := blk_ext hk1 hC
      refine ⟨true, c1, congrArg some h2, fun hact => ?_, fun hact => ?_⟩
      · replace hact : (!c1) = true := by simpa using hact
        refine Runs.does (v := (.bool c2)) (Runs.veq (r_ne (gb_ev hact (congrArg some h5)) (gb_ev hact (congrArg some h7))) (congrArg Value.bool (show _ = c2 from hc2))) ⟨Below.refl _ _, ?_, nofr rfl⟩
        show _ = gb _ _; rw [hact]; rfl
      · replace hact : (!c1) = false := by simpa using hact
        refine ⟨Below.refl _ _, ?_, nofr rfl⟩
        show _ = gb _ _; rw [hact]; rfl
    refine ⟨fun wu9 hC hd => ?_, ?_⟩
    · obtain ⟨h2, h8, _⟩ := hd
      skip
      skip
      replace h2 : V 2 = (.bool c1) := h2
      replace h8 : V 8 = (gb (!c1) (.bool c2)) := h8
      replace hb := hb.trans (hC.mono hb.size)
      replace hk1 := blk_ext hk1 hC
      exact Runs.does (r_pickO (b := c1) (e := c2) (congrArg some h2) rfl (congrArg some h8)) ⟨Below.refl _ _, rfl, nofr rfl⟩
    refine ⟨fun wu10 hC hd => ?_, ?_⟩
    · obtain ⟨h7, h9, _⟩ := hd
      skip
      skip
      replace h7 : V 7 = (gb (!c1) (.int .i64 (((cntB (formS k) 110) : Nat) : Int))) := h7
      replace h9 : V 9 = (.bool (c1 || c2)) := h9
      replace hb := hb.trans (hC.mono hb.size)
      replace hk1 := blk_ext hk1 hC
      exact Runs.does (r_move (congrArg some h9)) ⟨Below.refl _ _, rfl, nofr rfl⟩
    refine ⟨fun wu11 hC hd => ?_, ?_⟩
    · obtain ⟨h10, _⟩ := hd
      skip
      replace h10 : V 10 = (.bool (c1 || c2)) := h10
      replace hb := hb.trans (hC.mono hb.size)
      replace hk1 := blk_ext hk1 hC
      refine ⟨true, (c1 || c2), congrArg some h10, fun hact => ?_, fun hact => ?_⟩
      · replace hact : (!(c1 || c2)) = true := by simpa using hact
        refine Runs.does (v := (.pointer (some ⟨b1, 2, none⟩))) (r_fa rfl Try.underlying45 (f := 2) (q := 2) rfl (by kernel_rfl) rfl) ⟨Below.refl _ _, ?_, nofr rfl⟩
        show _ = gb _ _; rw [hact]; rfl
      · replace hact : (!(c1 || c2)) = false := by simpa using hact
        refine ⟨Below.refl _ _, ?_, nofr rfl⟩
        show _ = gb _ _; rw [hact]; rfl
    refine ⟨fun wu12 hC hd => ?_, ?_⟩
    · obtain ⟨h10, h11, _⟩ := hd
      skip
      skip
      replace h10 : V 10 = (.bool (c1 || c2)) := h10
      replace h11 : V 11 = (gb (!(c1 || c2)) (.pointer (some ⟨b1, 2, none⟩))) := h11
      replace hb := hb.trans (hC.mono hb.size)
      replace hk1 := blk_ext hk1 hC
      refine ⟨true, (c1 || c2), congrArg some h10, fun hact => ?_, fun hact => ?_⟩
      · replace hact : (!(c1 || c2)) = true := by simpa using hact
        refine Runs.does (v := (.slice aS st.S.length cS)) (r_load (v := (.slice aS st.S.length cS)) (gb_ev hact (congrArg some h11)) Try.underlying32 rfl (cell_blk hk1 rfl)) ⟨Below.refl _ _, ?_, nofr rfl⟩
        show _ = gb _ _; rw [hact]; rfl
      · replace hact : (!(c1 || c2)) = false := by simpa using hact
        refine ⟨Below.refl _ _, ?_, nofr rfl⟩
        show _ = gb _ _; rw [hact]; rfl
    refine ⟨fun wu13 hC hd => ?_, ?_⟩
    · obtain ⟨h10, h12, _⟩ := hd
      skip
      skip
      replace h10 : V 10 = (.bool (c1 || c2)) := h10
      replace h12 : V 12 = (gb (!(c1 || c2)) (.slice aS st.S.length cS)) := h12
      replace hb := hb.trans (hC.mono hb.size)
      replace hk1 := blk_ext hk1 hC
      refine ⟨true, (c1 || c2), congrArg some h10, fun hact => ?_, fun hact => ?_⟩
      · replace hact : (!(c1 || c2)) = true := by simpa using hact
        refine Runs.does (v := (.int .i64 ((st.S.length : Nat) : Int))) (r_lensl (gb_ev hact (congrArg some h12)) Try.underlying32) ⟨Below.refl _ _, ?_, nofr rfl⟩
        show _ = gb _ _; rw [hact]; rfl
      · replace hact : (!(c1 || c2)) = false := by simpa using hact
        refine ⟨Below.refl _ _, ?_, nofr rfl⟩
        show _ = gb _ _; rw [hact]; rfl
    refine ⟨fun wu14 hC hd => ?_, ?_⟩
    · obtain ⟨h10, _⟩ := hd
      skip
      replace h10 : V 10 = (.bool (c1 || c2)) := h10
      replace hb := hb.trans (hC.mono hb.size)
      replace hk1 := blk_ext hk1 hC
      refine ⟨true, (c1 || c2), congrArg some h10, fun hact => ?_, fun hact => ?_⟩
      · replace hact : (!(c1 || c2)) = true := by simpa using hact
        refine Runs.does (v := (.string (formS k))) (r_move rfl) ⟨Below.refl _ _, ?_, nofr rfl⟩
        show _ = gb _ _; rw [hact]; rfl
      · replace hact : (!(c1 || c2)) = false := by simpa using hact
        refine ⟨Below.refl _ _, ?_, nofr rfl⟩
        show _ = gb _ _; rw [hact]; rfl
    refine ⟨fun wu15 hC hd => ?_, ?_⟩
    · obtain ⟨h10, h14, _⟩ := hd
      skip
      skip
      replace h10 : V 10 = (.bool (c1 || c2)) := h10
      replace h14 : V 14 = (gb (!(c1 || c2)) (.string (formS k))) := h14
      replace hb := hb.trans (hC.mono hb.size)
      replace hk1 := blk_ext hk1 hC
      refine ⟨true, (c1 || c2), congrArg some h10, fun hact => ?_, fun hact => ?_⟩
      · replace hact : (!(c1 || c2)) = true := by simpa using hact
        refine Does.mono (d_callS (vs := [(.string (formS k)), (.string ⟨#[115]⟩)]) (cons_ev (gb_ev hact (congrArg some h14)) (cons_ev rfl rfl)) Try.func54 (by kernel_rfl) (by kernel_rfl) (count_any (formS k) 115 _)) (fun _ _ h => ⟨h.2 ▸ Below.refl _ _, ?_, nofr rfl⟩)
        show _ = gb _ _; rw [hact]; exact h.1
      · replace hact : (!(c1 || c2)) = false := by simpa using hact
        refine ⟨Below.refl _ _, ?_, nofr rfl⟩
        show _ = gb _ _; rw [hact]; rfl
    refine ⟨fun wu16 hC hd => ?_, ?_⟩
    · obtain ⟨h10, h13, h15, _⟩ := hd
      skip
      skip
      skip
      replace h10 : V 10 = (.bool (c1 || c2)) := h10
      replace h13 : V 13 = (gb (!(c1 || c2)) (.int .i64 ((st.S.length : Nat) : Int))) := h13
      replace h15 : V 15 = (gb (!(c1 || c2)) (.int .i64 (((cntB (formS k) 115) : Nat) : Int))) := h15
      replace hb := hb.trans (hC.mono hb.size)
      replace hk1 := blk_ext hk1 hC
      refine ⟨true, (c1 || c2), congrArg some h10, fun hact => ?_, fun hact => ?_⟩
      · replace hact : (!(c1 || c2)) = true := by simpa using hact
        refine Runs.does (v := (.bool c3)) (Runs.veq (r_ne (gb_ev hact (congrArg some h13)) (gb_ev hact (congrArg some h15))) (congrArg Value.bool (show _ = c3 from hc3))) ⟨Below.refl _ _, ?_, nofr rfl⟩
        show _ = gb _ _; rw [hact]; rfl
      · replace hact : (!(c1 || c2)) = false := by simpa using hact
        refine ⟨Below.refl _ _, ?_, nofr rfl⟩
        show _ = gb _ _; rw [hact]; rfl
    refine ⟨fun wu17 hC hd => ?_, ?_⟩
    · obtain ⟨h10, h16, _⟩ := hd
      skip
      skip
      replace h10 : V 10 = (.bool (c1 || c2)) := h10
      replace h16 : V 16 = (gb (!(c1 || c2)) (.bool c3)) := h16
      replace hb := hb.trans (hC.mono hb.size)
      replace hk1 := blk_ext hk1 hC
      exact Runs.does (r_pickO (b := (c1 || c2)) (e := c3) (congrArg some h10) rfl (congrArg some h16)) ⟨Below.refl _ _, rfl, nofr rfl⟩
    trivial
  · skip
    clear hf fa; intro V w3 fa he3 hp hnb hf
    have hv0 : V 0 = (.string (wordS k)) := postsHold_at hp 0 rfl
    have hv1 : V 1 = (.bool c1) := postsHold_at hp 1 rfl
    have hv2 : V 2 = (.bool c1) := postsHold_at hp 2 rfl
    have hv3 : V 3 = (gb (!c1) (.pointer (some ⟨b1, 1, none⟩))) := postsHold_at hp 3 rfl
    have hv4 : V 4 = (gb (!c1) (.slice aN st.N.length cN)) := postsHold_at hp 4 rfl
    have hv5 : V 5 = (gb (!c1) (.int .i64 ((st.N.length : Nat) : Int))) := postsHold_at hp 5 rfl
    have hv6 : V 6 = (gb (!c1) (.string (formS k))) := postsHold_at hp 6 rfl
    have hv7 : V 7 = (gb (!c1) (.int .i64 (((cntB (formS k) 110) : Nat) : Int))) := postsHold_at hp 7 rfl
    have hv8 : V 8 = (gb (!c1) (.bool c2)) := postsHold_at hp 8 rfl
    have hv9 : V 9 = (.bool (c1 || c2)) := postsHold_at hp 9 rfl
    have hv10 : V 10 = (.bool (c1 || c2)) := postsHold_at hp 10 rfl
    have hv11 : V 11 = (gb (!(c1 || c2)) (.pointer (some ⟨b1, 2, none⟩))) := postsHold_at hp 11 rfl
    have hv12 : V 12 = (gb (!(c1 || c2)) (.slice aS st.S.length cS)) := postsHold_at hp 12 rfl
    have hv13 : V 13 = (gb (!(c1 || c2)) (.int .i64 ((st.S.length : Nat) : Int))) := postsHold_at hp 13 rfl
    have hv14 : V 14 = (gb (!(c1 || c2)) (.string (formS k))) := postsHold_at hp 14 rfl
    have hv15 : V 15 = (gb (!(c1 || c2)) (.int .i64 (((cntB (formS k) 115) : Nat) : Int))) := postsHold_at hp 15 rfl
    have hv16 : V 16 = (gb (!(c1 || c2)) (.bool c3)) := postsHold_at hp 16 rfl
    have hv17 : V 17 = (.bool ((c1 || c2) || c3)) := postsHold_at hp 17 rfl
    simp only [List.take_succ_cons, List.take_zero, insAll, ins, hv0, hv1, hv2, hv3, hv4, hv5, hv6, hv7, hv8, hv9, hv10, hv11, hv12, hv13, hv14, hv15, hv16, hv17] at hf
    clear hp hnb hv0 hv1 hv2 hv3 hv4 hv5 hv6 hv7 hv8 hv9 hv10 hv11 hv12 hv13 hv14 hv15 hv16 hv17
    replace hk1 := blk_ext hk1 he3
    replace hb := hb.trans (Below.mono he3 hb.size)
    (try simp only [Exit.then, Exit.inBlock, ↓reduceIte, Nat.reduceEqDiff])
    refine hK4 _ _ ?_
    refine wp_cond_split (t := ((c1 || c2) || c3)) (hf.ev rfl) (fun hqt32_1 => ?_) (fun hqt32_1 => ?_)
    · have hqt32_1b := hqt32_1
      try simp only [decide_eq_true_eq, Bool.and_eq_true, Bool.or_eq_true, Bool.not_eq_true', decide_eq_false_iff_not, ne_eq, Bool.not_eq_true] at hqt32_1
      refine wp_seq_k (fun K5 hK5 => ?_)
      refine wp_region_lit ?_
      refine sqv hf (r_assign rfl) rfl rfl rfl ?_; clear hf fa; intro fa hf
      apply wpList_nil
      (try simp only [Exit.then, Exit.inBlock, ↓reduceIte, Nat.reduceEqDiff])
      refine hK5 _ _ ?_
      refine wp_ret ?_
      (try simp only [Exit.then, Exit.inBlock])
      refine ret1 hf rfl rfl ?_
      refine ⟨?_, hb⟩; rw [right_head (by rintro ⟨h1, h2, h3, _⟩; have hX := hqt32_1; simp only [← hc1, ← hc2, ← hc3, decide_eq_true_eq, decide_eq_false_iff_not, ne_eq] at hX; rcases hX with (h | h) | h; exact h1 h; omega; omega)]
    · have hqt32_1b := hqt32_1
      replace hqt32_1 := Bool.eq_false_iff.1 hqt32_1
      try simp only [ne_eq, decide_eq_true_eq, Bool.and_eq_true, Bool.or_eq_true, Bool.not_eq_true', decide_eq_false_iff_not] at hqt32_1
      refine wp_skip ?_
      (try simp only [Exit.then, Exit.inBlock, ↓reduceIte, Nat.reduceEqDiff])
      refine hK3 _ _ ?_
      refine wp_seq_k (fun K6 hK6 => ?_)
      refine wp_seq_k (fun K7 hK7 => ?_)
      obtain ⟨d1, hd1⟩ : ∃ b, decide ((4096 : Int) < ((st.D.length : Nat) : Int)) = b := ⟨_, rfl⟩
      obtain ⟨d2, hd2⟩ : ∃ b, decide ((20 : Int) < ((st.A.length : Nat) : Int)) = b := ⟨_, rfl⟩
      obtain ⟨d3, hd3⟩ : ∃ b, decide ((0 : Int) < ((st.D.length : Nat) : Int)) = b := ⟨_, rfl⟩
      obtain ⟨d4, hd4⟩ : ∃ b, decide ((0 : Int) < ((st.A.length : Nat) : Int)) = b := ⟨_, rfl⟩
      obtain ⟨p1, hp1⟩ : ∃ b, decide (posB (formS k) 100 < (formS k).size) = b := ⟨_, rfl⟩
      obtain ⟨p2, hp2⟩ : ∃ b, decide (posB (formS k) 97 < (formS k).size) = b := ⟨_, rfl⟩
      refine wp_region_lit ?_
      refine sqv hf (r_fa rfl Try.underlying45 (f := 4) (q := 4) rfl (by kernel_rfl) rfl) rfl rfl rfl ?_; clear hf fa; intro fa hf
      refine sqv hf (r_load (v := (.slice aD st.D.length cD)) rfl Try.underlying43 rfl (cell_blk hk1 rfl)) rfl rfl rfl ?_; clear hf fa; intro fa hf
      refine sqv hf (r_lensl rfl Try.underlying43) rfl rfl rfl ?_; clear hf fa; intro fa hf
      refine sqv hf (Runs.veq (r_gt rfl rfl) (congrArg Value.bool (show _ = d1 from hd1))) rfl rfl rfl ?_; clear hf fa; intro fa hf
      refine sqv hf (r_move rfl) rfl rfl rfl ?_; clear hf fa; intro fa hf
      refine sqgF (act := (!d1)) (ag := true) (c := d1) (v := (.pointer (some ⟨b1, 3, none⟩))) hf rfl rfl rfl (fun hact => (r_fa rfl Try.underlying45 (f := 3) (q := 3) rfl (by kernel_rfl) rfl)) rfl rfl ?_; clear hf fa; intro fa hf
      refine sqgF (act := (!d1)) (ag := true) (c := d1) (v := (.slice aA st.A.length cA)) hf rfl rfl rfl (fun hact => (r_load (v := (.slice aA st.A.length cA)) (gb_ev hact rfl) Try.underlying42 rfl (cell_blk hk1 rfl))) rfl rfl ?_; clear hf fa; intro fa hf
      refine sqgF (act := (!d1)) (ag := true) (c := d1) (v := (.int .i64 ((st.A.length : Nat) : Int))) hf rfl rfl rfl (fun hact => (r_lensl (gb_ev hact rfl) Try.underlying42)) rfl rfl ?_; clear hf fa; intro fa hf
      refine sqgF (act := (!d1)) (ag := true) (c := d1) (v := (.bool d2)) hf rfl rfl rfl (fun hact => (Runs.veq (r_gt (gb_ev hact rfl) rfl) (congrArg Value.bool (show _ = d2 from hd2)))) rfl rfl ?_; clear hf fa; intro fa hf
      refine sqv hf (r_pickO (b := d1) (e := d2) rfl rfl rfl) rfl rfl rfl ?_; clear hf fa; intro fa hf
      refine sqv hf (r_move rfl) rfl rfl rfl ?_; clear hf fa; intro fa hf
      refine sqgF (act := (!(d1 || d2))) (ag := true) (c := (d1 || d2)) (v := (.pointer (some ⟨b1, 4, none⟩))) hf rfl rfl rfl (fun hact => (r_fa rfl Try.underlying45 (f := 4) (q := 4) rfl (by kernel_rfl) rfl)) rfl rfl ?_; clear hf fa; intro fa hf
      refine sqgF (act := (!(d1 || d2))) (ag := true) (c := (d1 || d2)) (v := (.slice aD st.D.length cD)) hf rfl rfl rfl (fun hact => (r_load (v := (.slice aD st.D.length cD)) (gb_ev hact rfl) Try.underlying43 rfl (cell_blk hk1 rfl))) rfl rfl ?_; clear hf fa; intro fa hf
      refine sqgF (act := (!(d1 || d2))) (ag := true) (c := (d1 || d2)) (v := (.int .i64 ((st.D.length : Nat) : Int))) hf rfl rfl rfl (fun hact => (r_lensl (gb_ev hact rfl) Try.underlying43)) rfl rfl ?_; clear hf fa; intro fa hf
      refine sqgF (act := (!(d1 || d2))) (ag := true) (c := (d1 || d2)) (v := (.bool d3)) hf rfl rfl rfl (fun hact => (Runs.veq (r_gt (gb_ev hact rfl) rfl) (congrArg Value.bool (show _ = d3 from hd3)))) rfl rfl ?_; clear hf fa; intro fa hf
      refine sqgF (act := (!(d1 || d2))) (ag := true) (c := (d1 || d2)) (v := (.bool d3)) hf rfl rfl rfl (fun hact => (r_move (gb_ev hact rfl))) rfl rfl ?_; clear hf fa; intro fa hf
      refine sqgT (act := ((!(d1 || d2)) && d3)) (ag := (!(d1 || d2))) (c := d3) (v := (.string (formS k))) hf rfl rfl rfl (fun hact => (r_move rfl)) rfl rfl ?_; clear hf fa; intro fa hf
      refine sqgd (R := fun vq wq => vq = gb ((!(d1 || d2)) && d3) (.bool p1) ∧ w3 = wq) (act := ((!(d1 || d2)) && d3)) (g := 15) (want := true) (ag := (!(d1 || d2))) (c := d3) hf (by rfl) (by rfl) (act_T _ _) (fun hact => (d_callS (vs := [(.string (formS k)), (.string ⟨#[100]⟩)]) (cons_ev (gb_ev hact rfl) (cons_ev rfl rfl)) Try.func55 (by kernel_rfl) (by kernel_rfl) (by have h := contains_any (formS k) 100 w3; rw [show decide (posB (formS k) (UInt8.toNat 100) < (formS k).size) = p1 from hp1] at h; exact h)).mono (fun _ _ h => ⟨by rw [h.1, hact]; rfl, h.2⟩)) (fun h => ⟨by rw [h]; rfl, rfl⟩) rfl ?_; clear hf fa; rintro fa _ _ ⟨rfl, rfl⟩ hf
      change Fr _ _ ((50, (gb ((!(d1 || d2)) && d3) (.bool p1))) :: _) at hf
      refine sqgT (act := ((!(d1 || d2)) && d3)) (ag := (!(d1 || d2))) (c := d3) (v := (.bool (!p1))) hf rfl rfl rfl (fun hact => (r_not (gb_ev hact rfl))) rfl rfl ?_; clear hf fa; intro fa hf
      refine sqgF (act := (!(d1 || d2))) (ag := true) (c := (d1 || d2)) (v := (.bool (d3 && (!p1)))) hf rfl rfl rfl (fun hact => (r_pickA2 (q := (!(d1 || d2))) (b := d3) (e := (!p1)) hact rfl rfl rfl)) rfl rfl ?_; clear hf fa; intro fa hf
      refine sqv hf (r_pickO (b := (d1 || d2)) (e := (d3 && (!p1))) rfl rfl rfl) rfl rfl rfl ?_; clear hf fa; intro fa hf
      refine sqv hf (r_move rfl) rfl rfl rfl ?_; clear hf fa; intro fa hf
      refine sqgF (act := (!((d1 || d2) || (d3 && (!p1))))) (ag := true) (c := ((d1 || d2) || (d3 && (!p1)))) (v := (.pointer (some ⟨b1, 3, none⟩))) hf rfl rfl rfl (fun hact => (r_fa rfl Try.underlying45 (f := 3) (q := 3) rfl (by kernel_rfl) rfl)) rfl rfl ?_; clear hf fa; intro fa hf
      refine sqgF (act := (!((d1 || d2) || (d3 && (!p1))))) (ag := true) (c := ((d1 || d2) || (d3 && (!p1)))) (v := (.slice aA st.A.length cA)) hf rfl rfl rfl (fun hact => (r_load (v := (.slice aA st.A.length cA)) (gb_ev hact rfl) Try.underlying42 rfl (cell_blk hk1 rfl))) rfl rfl ?_; clear hf fa; intro fa hf
      refine sqgF (act := (!((d1 || d2) || (d3 && (!p1))))) (ag := true) (c := ((d1 || d2) || (d3 && (!p1)))) (v := (.int .i64 ((st.A.length : Nat) : Int))) hf rfl rfl rfl (fun hact => (r_lensl (gb_ev hact rfl) Try.underlying42)) rfl rfl ?_; clear hf fa; intro fa hf
      refine sqgF (act := (!((d1 || d2) || (d3 && (!p1))))) (ag := true) (c := ((d1 || d2) || (d3 && (!p1)))) (v := (.bool d4)) hf rfl rfl rfl (fun hact => (Runs.veq (r_gt (gb_ev hact rfl) rfl) (congrArg Value.bool (show _ = d4 from hd4)))) rfl rfl ?_; clear hf fa; intro fa hf
      refine sqgF (act := (!((d1 || d2) || (d3 && (!p1))))) (ag := true) (c := ((d1 || d2) || (d3 && (!p1)))) (v := (.bool d4)) hf rfl rfl rfl (fun hact => (r_move (gb_ev hact rfl))) rfl rfl ?_; clear hf fa; intro fa hf
      refine sqgT (act := ((!((d1 || d2) || (d3 && (!p1)))) && d4)) (ag := (!((d1 || d2) || (d3 && (!p1))))) (c := d4) (v := (.string (formS k))) hf rfl rfl rfl (fun hact => (r_move rfl)) rfl rfl ?_; clear hf fa; intro fa hf
      refine sqgd (R := fun vq wq => vq = gb ((!((d1 || d2) || (d3 && (!p1)))) && d4) (.bool p2) ∧ w3 = wq) (act := ((!((d1 || d2) || (d3 && (!p1)))) && d4)) (g := 26) (want := true) (ag := (!((d1 || d2) || (d3 && (!p1))))) (c := d4) hf (by rfl) (by rfl) (act_T _ _) (fun hact => (d_callS (vs := [(.string (formS k)), (.string ⟨#[97]⟩)]) (cons_ev (gb_ev hact rfl) (cons_ev rfl rfl)) Try.func55 (by kernel_rfl) (by kernel_rfl) (by have h := contains_any (formS k) 97 w3; rw [show decide (posB (formS k) (UInt8.toNat 97) < (formS k).size) = p2 from hp2] at h; exact h)).mono (fun _ _ h => ⟨by rw [h.1, hact]; rfl, h.2⟩)) (fun h => ⟨by rw [h]; rfl, rfl⟩) rfl ?_; clear hf fa; rintro fa _ _ ⟨rfl, rfl⟩ hf
      change Fr _ _ ((61, (gb ((!((d1 || d2) || (d3 && (!p1)))) && d4) (.bool p2))) :: _) at hf
      refine sqgT (act := ((!((d1 || d2) || (d3 && (!p1)))) && d4)) (ag := (!((d1 || d2) || (d3 && (!p1))))) (c := d4) (v := (.bool (!p2))) hf rfl rfl rfl (fun hact => (r_not (gb_ev hact rfl))) rfl rfl ?_; clear hf fa; intro fa hf
      refine sqgF (act := (!((d1 || d2) || (d3 && (!p1))))) (ag := true) (c := ((d1 || d2) || (d3 && (!p1)))) (v := (.bool (d4 && (!p2)))) hf rfl rfl rfl (fun hact => (r_pickA2 (q := (!((d1 || d2) || (d3 && (!p1))))) (b := d4) (e := (!p2)) hact rfl rfl rfl)) rfl rfl ?_; clear hf fa; intro fa hf
      refine sqv hf (r_pickO (b := ((d1 || d2) || (d3 && (!p1)))) (e := (d4 && (!p2))) rfl rfl rfl) rfl rfl rfl ?_; clear hf fa; intro fa hf
      apply wpList_nil
      (try simp only [Exit.then, Exit.inBlock, ↓reduceIte, Nat.reduceEqDiff])
      refine hK7 _ _ ?_
      refine wp_cond_split (t := (((d1 || d2) || (d3 && (!p1))) || (d4 && (!p2)))) (hf.ev rfl) (fun hqt64_1 => ?_) (fun hqt64_1 => ?_)
      · have hqt64_1b := hqt64_1
        try simp only [decide_eq_true_eq, Bool.and_eq_true, Bool.or_eq_true, Bool.not_eq_true', decide_eq_false_iff_not, ne_eq, Bool.not_eq_true] at hqt64_1
        refine wp_seq_k (fun K8 hK8 => ?_)
        refine wp_region_lit ?_
        refine sqv hf (r_assign rfl) rfl rfl rfl ?_; clear hf fa; intro fa hf
        apply wpList_nil
        (try simp only [Exit.then, Exit.inBlock, ↓reduceIte, Nat.reduceEqDiff])
        refine hK8 _ _ ?_
        refine wp_ret ?_
        (try simp only [Exit.then, Exit.inBlock])
        refine ret1 hf rfl rfl ?_
        refine ⟨?_, hb⟩; rw [right_head (by rintro ⟨_, _, _, h4, h5, h6, h7⟩; have hX := hqt64_1; simp only [← hd1, ← hd2, ← hd3, ← hd4, ← hp1, ← hp2, decide_eq_true_eq, decide_eq_false_iff_not, ne_eq] at hX; rcases hX with ((h | h) | ⟨h, h8⟩) | ⟨h, h8⟩; omega; omega; exact absurd (h6 (by omega)) (by simpa using h8); exact absurd (h7 (by omega)) (by simpa using h8))]
      · have hqt64_1b := hqt64_1
        replace hqt64_1 := Bool.eq_false_iff.1 hqt64_1
        try simp only [ne_eq, decide_eq_true_eq, Bool.and_eq_true, Bool.or_eq_true, Bool.not_eq_true', decide_eq_false_iff_not] at hqt64_1
        refine wp_skip ?_
        (try simp only [Exit.then, Exit.inBlock, ↓reduceIte, Nat.reduceEqDiff])
        refine hK6 _ _ ?_
        refine wp_seq_k (fun K9 hK9 => ?_)
        refine wp_seq_k (fun K10 hK10 => ?_)
        have hH : Head k st := by
          have hX := hqt64_1; simp only [← hd1, ← hd2, ← hd3, ← hd4, ← hp1, ← hp2, decide_eq_true_eq, decide_eq_false_iff_not, ne_eq] at hX
          have hY := hX
          clear hX
          have hX := hqt32_1; simp only [← hc1, ← hc2, ← hc3, decide_eq_true_eq, decide_eq_false_iff_not, ne_eq] at hX
          refine ⟨fun e => hX (.inl (.inl e)), Classical.byContradiction fun e => hX (.inl (.inr (by omega))), Classical.byContradiction fun e => hX (.inr (by omega)), by omega, by omega, fun h0 => Classical.byContradiction fun e => hY (.inl (.inr ⟨by omega, by simpa using e⟩)), fun h0 => Classical.byContradiction fun e => hY (.inr ⟨by omega, by simpa using e⟩)⟩
        refine wp_region_lit ?_
        refine sqv hf (r_fa rfl Try.underlying45 (f := 2) (q := 2) rfl (by kernel_rfl) rfl) rfl rfl rfl ?_; clear hf fa; intro fa hf
        refine sqv hf (r_load (v := (.slice aS st.S.length cS)) rfl Try.underlying32 rfl (cell_blk hk1 rfl)) rfl rfl rfl ?_; clear hf fa; intro fa hf
        refine sqv hf (r_lensl rfl Try.underlying32) rfl rfl rfl ?_; clear hf fa; intro fa hf
        refine sqv hf (r_move rfl) rfl rfl rfl ?_; clear hf fa; intro fa hf
        apply wpList_nil
        (try simp only [Exit.then, Exit.inBlock, ↓reduceIte, Nat.reduceEqDiff])
        refine hK10 _ _ ?_
        refine wp_block ?_
        refine wp_loop_k (fun mq fa wr => ∃ (j : Nat), mq = st.S.length - j ∧ Fr 87 fa [(1, (.pointer (some ⟨b1, 0, none⟩))), (66, (.slice aS st.S.length cS)), (67, (.int .i64 ((st.S.length : Nat) : Int))), (68, (.int .i64 ((j : Nat) : Int)))] ∧ Below w.heap.size w wr ∧ wr.heap[b1]? = some (.cells #[(.int .i64 k), (.slice aN st.N.length cN), (.slice aS st.S.length cS), (.slice aA st.A.length cA), (.slice aD st.D.length cD)] 45 (0, 0)) ∧ (j ≤ st.S.length) ∧ (∀ s ∈ st.S.take j, checkF s = 0)) ?_ ?_
        · skip
          exact ⟨_, 0, rfl, hf.sub ⟨rfl, rfl, rfl, (some_int (by first | rfl | omega)), trivial⟩, hb, hk1, by omega, (by intro s hs; cases hs)⟩
        · skip
          clear hf fa; intro mq1 fa w4 hI KL1 hKL1
          clear hb
          clear hk1
          obtain ⟨j, hmq1, hf, hb, hkb1, hj, HS⟩ := hI
          refine wp_seq_k (fun K11 hK11 => ?_)
          refine wp_region_lit ?_
          refine sqv hf (r_lt rfl rfl) rfl rfl rfl ?_; clear hf fa; intro fa hf
          apply wpList_nil
          (try simp only [Exit.then, Exit.inBlock, ↓reduceIte, Nat.reduceEqDiff])
          refine hK11 _ _ ?_
          refine wp_seq_k (fun K12 hK12 => ?_)
          refine wp_cond_split (t := (decide (((j : Nat) : Int) < ((st.S.length : Nat) : Int)))) (hf.ev rfl) (fun hqt69_1 => ?_) (fun hqt69_1 => ?_)
          · have hqt69_1b := hqt69_1
            try simp only [decide_eq_true_eq, Bool.and_eq_true, Bool.or_eq_true, Bool.not_eq_true', decide_eq_false_iff_not, ne_eq, Bool.not_eq_true] at hqt69_1
            refine wp_skip ?_
            (try simp only [Exit.then, Exit.inBlock, ↓reduceIte, Nat.reduceEqDiff])
            refine hK12 _ _ ?_
            refine wp_seq_k (fun K13 hK13 => ?_)
            refine wp_block ?_
            refine wp_seq_k (fun K14 hK14 => ?_)
            refine wp_region_lit ?_
            obtain ⟨y1, hy1⟩ : ∃ x, (st.S)[j]? = some x := ⟨_, List.getElem?_eq_getElem (by (try simp only [Sl.list_length]); omega)⟩
            obtain ⟨ab1, aoff1, rfl, hlb1, hel1⟩ := RdS.at hF.2.1 hy1
            refine sqv hf (r_ixa (sz := 1) (j := j) rfl rfl Try.underlying32 (by kernel_rfl) rfl (by omega) rfl) rfl rfl rfl ?_; clear hf fa; intro fa hf
            refine sqv hf (r_load (v := (.string y1)) rfl Try.underlying9 rfl (cellsAt_cell (cellsAt_below hel1 hb hlb1) (i := 0) rfl rfl)) rfl rfl rfl ?_; clear hf fa; intro fa hf
            refine sqv hf (r_assign rfl) rfl rfl rfl ?_; clear hf fa; intro fa hf
            apply wpList_nil
            (try simp only [Exit.then, Exit.inBlock, ↓reduceIte, Nat.reduceEqDiff])
            refine hK14 _ _ ?_
            refine wp_seq_k (fun K15 hK15 => ?_)
            refine wp_region_lit ?_
            refine sqv hf (r_move rfl) rfl rfl rfl ?_; clear hf fa; intro fa hf
            refine sqdt hf (d_callB (vs := [(.string y1)]) rfl Try.func56 (by kernel_rfl) (by kernel_rfl) (check_any y1 _ (by have h9 := hB.s _ (List.mem_of_getElem? hy1); omega))) rfl rfl rfl ?_; clear hf fa; rintro fa _ w5 ⟨rfl, he4⟩ hf
            replace hkb1 := blk_ext hkb1 he4
            replace hb := hb.trans (Below.mono he4 hb.size)
            refine sqv hf (r_ne rfl rfl) rfl rfl rfl ?_; clear hf fa; intro fa hf
            apply wpList_nil
            (try simp only [Exit.then, Exit.inBlock, ↓reduceIte, Nat.reduceEqDiff])
            refine hK15 _ _ ?_
            refine wp_cond_split (t := (decide (((checkF y1)) ≠ (0 : Int)))) (hf.ev rfl) (fun hqt74_1 => ?_) (fun hqt74_1 => ?_)
            · have hqt74_1b := hqt74_1
              try simp only [decide_eq_true_eq, Bool.and_eq_true, Bool.or_eq_true, Bool.not_eq_true', decide_eq_false_iff_not, ne_eq, Bool.not_eq_true] at hqt74_1
              refine wp_seq_k (fun K16 hK16 => ?_)
              refine wp_region_lit ?_
              refine sqv hf (r_assign rfl) rfl rfl rfl ?_; clear hf fa; intro fa hf
              apply wpList_nil
              (try simp only [Exit.then, Exit.inBlock, ↓reduceIte, Nat.reduceEqDiff])
              refine hK16 _ _ ?_
              refine wp_ret ?_
              (try simp only [Exit.then, Exit.inBlock])
              refine ret1 hf rfl rfl ?_
              refine ⟨?_, hb⟩; rw [right_badS hy1 (by have h := hqt74_1; omega)]
            · have hqt74_1b := hqt74_1
              replace hqt74_1 := Bool.eq_false_iff.1 hqt74_1
              try simp only [ne_eq, decide_eq_true_eq, Bool.and_eq_true, Bool.or_eq_true, Bool.not_eq_true', decide_eq_false_iff_not] at hqt74_1
              refine wp_skip ?_
              (try simp only [Exit.then, Exit.inBlock, ↓reduceIte, Nat.reduceEqDiff])
              refine hK13 _ _ ?_
              refine wp_region_lit ?_
              refine sqv hf (r_add (C := (((j : Nat) : Int) + (1 : Int))) rfl rfl (by rw [IntKind.wrap_i64]; omega)) rfl rfl rfl ?_; clear hf fa; intro fa hf
              refine sqv hf (r_move rfl) rfl rfl rfl ?_; clear hf fa; intro fa hf
              apply wpList_nil
              (try simp only [Exit.then, Exit.inBlock, ↓reduceIte, Nat.reduceEqDiff])
              refine hKL1 _ _ _ (by omega) ⟨(j + 1), rfl, hf.sub ⟨rfl, rfl, rfl, (some_int (by first | rfl | omega)), trivial⟩, hb, hkb1, by omega, (all_snoc HS hy1 (by have h := hqt74_1; omega))⟩
          · have hqt69_1b := hqt69_1
            replace hqt69_1 := Bool.eq_false_iff.1 hqt69_1
            try simp only [ne_eq, decide_eq_true_eq, Bool.and_eq_true, Bool.or_eq_true, Bool.not_eq_true', decide_eq_false_iff_not] at hqt69_1
            refine wp_exit ?_
            (try simp only [Exit.then, Exit.inBlock, ↓reduceIte, Nat.reduceEqDiff])
            refine hK9 _ _ ?_
            refine wp_seq_k (fun K17 hK17 => ?_)
            refine wp_seq_k (fun K18 hK18 => ?_)
            refine wp_region_lit ?_
            refine sqv hf (r_fa rfl Try.underlying45 (f := 3) (q := 3) rfl (by kernel_rfl) rfl) rfl rfl rfl ?_; clear hf fa; intro fa hf
            refine sqv hf (r_load (v := (.slice aA st.A.length cA)) rfl Try.underlying42 rfl (cell_blk hkb1 rfl)) rfl rfl rfl ?_; clear hf fa; intro fa hf
            refine sqv hf (r_lensl rfl Try.underlying42) rfl rfl rfl ?_; clear hf fa; intro fa hf
            refine sqv hf (r_move rfl) rfl rfl rfl ?_; clear hf fa; intro fa hf
            apply wpList_nil
            (try simp only [Exit.then, Exit.inBlock, ↓reduceIte, Nat.reduceEqDiff])
            refine hK18 _ _ ?_
            refine wp_block ?_
            refine wp_loop_k (fun mq fa wr => ∃ (i : Nat), mq = st.A.length - i ∧ Fr 87 fa [(77, (.slice aA st.A.length cA)), (78, (.int .i64 ((st.A.length : Nat) : Int))), (79, (.int .i64 ((i : Nat) : Int)))] ∧ Below w.heap.size w wr ∧ (i ≤ st.A.length) ∧ (∀ v ∈ st.A.take i, vrightP v = true)) ?_ ?_
            · skip
              exact ⟨_, 0, rfl, hf.sub ⟨rfl, rfl, (some_int (by first | rfl | omega)), trivial⟩, hb, by omega, (by intro s hs; cases hs)⟩
            · skip
              clear hf fa; intro mq2 fa w6 hI KL2 hKL2
              clear hb
              clear hkb1
              obtain ⟨i, hmq2, hf, hb, hi, HA⟩ := hI
              refine wp_seq_k (fun K19 hK19 => ?_)
              refine wp_region_lit ?_
              refine sqv hf (r_lt rfl rfl) rfl rfl rfl ?_; clear hf fa; intro fa hf
              apply wpList_nil
              (try simp only [Exit.then, Exit.inBlock, ↓reduceIte, Nat.reduceEqDiff])
              refine hK19 _ _ ?_
              refine wp_seq_k (fun K20 hK20 => ?_)
              refine wp_cond_split (t := (decide (((i : Nat) : Int) < ((st.A.length : Nat) : Int)))) (hf.ev rfl) (fun hqt80_1 => ?_) (fun hqt80_1 => ?_)
              · have hqt80_1b := hqt80_1
                try simp only [decide_eq_true_eq, Bool.and_eq_true, Bool.or_eq_true, Bool.not_eq_true', decide_eq_false_iff_not, ne_eq, Bool.not_eq_true] at hqt80_1
                refine wp_skip ?_
                (try simp only [Exit.then, Exit.inBlock, ↓reduceIte, Nat.reduceEqDiff])
                refine hK20 _ _ ?_
                refine wp_seq_k (fun K21 hK21 => ?_)
                refine wp_block ?_
                refine wp_seq_k (fun K22 hK22 => ?_)
                refine wp_region_lit ?_
                obtain ⟨y2, hy2⟩ : ∃ x, (st.A)[i]? = some x := ⟨_, List.getElem?_eq_getElem (by (try simp only [Sl.list_length]); omega)⟩
                obtain ⟨ab2, aoff2, rfl, hlb2, hel2⟩ := RdS.at hF.2.2.1 hy2
                refine sqv hf (r_ixa (sz := 2) (j := i) rfl rfl Try.underlying42 (by kernel_rfl) rfl (by omega) rfl) rfl rfl rfl ?_; clear hf fa; intro fa hf
                refine sqv hf (r_loadA (cs := [(.int .u8 y2.1), (.int .u64 y2.2.1)]) rfl Try.underlying65 rfl (by kernel_rfl) (cellsAt_below hel2 hb hlb2)) rfl rfl rfl ?_; clear hf fa; intro fa hf
                refine sqdt hf (d_alloc (z := (.agg #[(.int .u8 (0 : Int)), (.int .u64 (0 : Int))])) (cs := #[(.int .u8 (0 : Int)), (.int .u64 (0 : Int))]) (by kernel_rfl) rfl) rfl rfl rfl ?_; clear hf fa; rintro fa _ w7 ⟨b2, rfl, hle2, hk2, he5⟩ hf
                have hBb2 : w.heap.size ≤ b2 := Nat.le_trans hb.size hle2
                replace hb := hb.trans (Below.mono he5 hb.size)
                refine sqn hf (d_storeK (T := 65) (v := (.agg #[(.int .u8 y2.1), (.int .u64 y2.2.1)])) (cs := #[(.int .u8 (0 : Int)), (.int .u64 (0 : Int))]) (cs' := #[(.int .u8 y2.1), (.int .u64 y2.2.1)]) rfl rfl (by kernel_rfl) (by kernel_rfl) hk2 (by kernel_rfl) (by kernel_rfl)) rfl rfl ?_; clear hf fa; rintro fa _ w8 ⟨hk3, hg1⟩ hf
                replace hb := hb.trans (grown_below hg1 hb.size hBb2)
                apply wpList_nil
                (try simp only [Exit.then, Exit.inBlock, ↓reduceIte, Nat.reduceEqDiff])
                refine hK22 _ _ ?_
                refine wp_seq_k (fun K23 hK23 => ?_)
                refine wp_region_lit ?_
                refine sqv hf (r_loadA (cs := [(.int .u8 y2.1), (.int .u64 y2.2.1)]) rfl Try.underlying65 rfl (by kernel_rfl) (cellsAt_blk hk3)) rfl rfl rfl ?_; clear hf fa; intro fa hf
                refine sqdt hf (d_callB (vs := [(.agg #[(.int .u8 y2.1), (.int .u64 y2.2.1)])]) rfl Try.func57 (by kernel_rfl) (by kernel_rfl) (vright_any y2 _ (hB.a _ (List.mem_of_getElem? hy2)).1 (hB.a _ (List.mem_of_getElem? hy2)).2)) rfl rfl rfl ?_; clear hf fa; rintro fa _ w9 ⟨rfl, he6⟩ hf
                replace hk3 := blk_ext hk3 he6
                replace hb := hb.trans (Below.mono he6 hb.size)
                refine sqv hf (r_not rfl) rfl rfl rfl ?_; clear hf fa; intro fa hf
                apply wpList_nil
                (try simp only [Exit.then, Exit.inBlock, ↓reduceIte, Nat.reduceEqDiff])
                refine hK23 _ _ ?_
                refine wp_cond_split (t := (!(vrightP y2))) (hf.ev rfl) (fun hqt85_1 => ?_) (fun hqt85_1 => ?_)
                · have hqt85_1b := hqt85_1
                  try simp only [decide_eq_true_eq, Bool.and_eq_true, Bool.or_eq_true, Bool.not_eq_true', decide_eq_false_iff_not, ne_eq, Bool.not_eq_true] at hqt85_1
                  refine wp_seq_k (fun K24 hK24 => ?_)
                  refine wp_region_lit ?_
                  refine sqv hf (r_assign rfl) rfl rfl rfl ?_; clear hf fa; intro fa hf
                  apply wpList_nil
                  (try simp only [Exit.then, Exit.inBlock, ↓reduceIte, Nat.reduceEqDiff])
                  refine hK24 _ _ ?_
                  refine wp_ret ?_
                  (try simp only [Exit.then, Exit.inBlock])
                  refine ret1 hf rfl rfl ?_
                  refine ⟨?_, hb⟩; rw [right_badA hy2 (by simpa using hqt85_1)]
                · have hqt85_1b := hqt85_1
                  replace hqt85_1 := Bool.eq_false_iff.1 hqt85_1
                  try simp only [ne_eq, decide_eq_true_eq, Bool.and_eq_true, Bool.or_eq_true, Bool.not_eq_true', decide_eq_false_iff_not] at hqt85_1
                  refine wp_skip ?_
                  (try simp only [Exit.then, Exit.inBlock, ↓reduceIte, Nat.reduceEqDiff])
                  refine hK21 _ _ ?_
                  refine wp_region_lit ?_
                  refine sqv hf (r_add (C := (((i : Nat) : Int) + (1 : Int))) rfl rfl (by rw [IntKind.wrap_i64]; omega)) rfl rfl rfl ?_; clear hf fa; intro fa hf
                  refine sqv hf (r_move rfl) rfl rfl rfl ?_; clear hf fa; intro fa hf
                  apply wpList_nil
                  (try simp only [Exit.then, Exit.inBlock, ↓reduceIte, Nat.reduceEqDiff])
                  refine hKL2 _ _ _ (by omega) ⟨(i + 1), rfl, hf.sub ⟨rfl, rfl, (some_int (by first | rfl | omega)), trivial⟩, hb, by omega, (all_snoc HA hy2 (by simpa using hqt85_1))⟩
              · have hqt80_1b := hqt80_1
                replace hqt80_1 := Bool.eq_false_iff.1 hqt80_1
                try simp only [ne_eq, decide_eq_true_eq, Bool.and_eq_true, Bool.or_eq_true, Bool.not_eq_true', decide_eq_false_iff_not] at hqt80_1
                refine wp_exit ?_
                (try simp only [Exit.then, Exit.inBlock, ↓reduceIte, Nat.reduceEqDiff])
                refine hK17 _ _ ?_
                refine wp_seq_k (fun K25 hK25 => ?_)
                refine wp_region_lit ?_
                refine sqv hf (r_assign rfl) rfl rfl rfl ?_; clear hf fa; intro fa hf
                apply wpList_nil
                (try simp only [Exit.then, Exit.inBlock, ↓reduceIte, Nat.reduceEqDiff])
                refine hK25 _ _ ?_
                refine wp_ret ?_
                (try simp only [Exit.then, Exit.inBlock])
                refine ret1 hf rfl rfl ?_
                refine ⟨?_, hb⟩; rw [right_yes hH (all_end HS (by omega)) (all_end HA (by omega))]

set_option maxHeartbeats 1000000 in
set_option maxRecDepth 100000 in
theorem rright_any (k : Int) (st : PSt) (aN aS aA aD : Option Addr) (cN cS cA cD : Nat) (w : World) (hF : OpF w st aN aS aA aD) (hB : OpB st) : Calls Try.prog 15 #[(.agg #[(.int .i64 k), (.slice aN st.N.length cN), (.slice aS st.S.length cS), (.slice aA st.A.length cA), (.slice aD st.D.length cD)])] w fun e w' => e = .returned (.bool (rightP k st)) ∧ Below w.heap.size w w' := by
  have hwl := word_len k
  have hsl := hB.sl
  have hal := hB.al
  have hdl := hB.dl
  have hnl := hB.nl
  have hfc := form_cnt k
  refine sx_enter (L := [(0, (.agg #[(.int .i64 k), (.slice aN st.N.length cN), (.slice aS st.S.length cS), (.slice aA st.A.length cA), (.slice aD st.D.length cD)]))]) Try.func15 rfl rfl rfl rfl (fun fa hf => ?_)
  have hb : Below w.heap.size w w := Below.refl _ _
  refine wp_seq_k (fun K1 hK1 => ?_)
  refine wp_region_lit ?_
  refine sqdt hf (d_box (cs := #[(.int .i64 k), (.slice aN st.N.length cN), (.slice aS st.S.length cS), (.slice aA st.A.length cA), (.slice aD st.D.length cD)]) rfl rfl) rfl rfl rfl ?_; clear hf fa; rintro fa _ w1 ⟨b1, rfl, hle1, hk1, he1⟩ hf
  have hBb1 : w.heap.size ≤ b1 := Nat.le_trans hb.size hle1
  replace hb := hb.trans (Below.mono he1 hb.size)
  refine sqv hf (r_assign rfl) rfl rfl rfl ?_; clear hf fa; intro fa hf
  apply wpList_nil
  (try simp only [Exit.then, Exit.inBlock, ↓reduceIte, Nat.reduceEqDiff])
  refine hK1 _ _ ?_
  refine wp_seq_k (fun K2 hK2 => ?_)
  refine wp_region_lit ?_
  refine sqv hf (r_fa rfl Try.underlying49 (f := 0) (q := 0) rfl (by kernel_rfl) rfl) rfl rfl rfl ?_; clear hf fa; intro fa hf
  refine sqv hf (r_load (v := (.int .i64 k)) rfl Try.underlying3 rfl (cell_blk hk1 rfl)) rfl rfl rfl ?_; clear hf fa; intro fa hf
  refine sqdt hf (d_callB (vs := [(.int .i64 k)]) rfl Try.func18 (by kernel_rfl) (by kernel_rfl) (rform_any k _)) rfl rfl rfl ?_; clear hf fa; rintro fa _ w2 ⟨rfl, he2⟩ hf
  replace hk1 := blk_ext hk1 he2
  replace hb := hb.trans (Below.mono he2 hb.size)
  refine sqv hf (r_move rfl) rfl rfl rfl ?_; clear hf fa; intro fa hf
  refine sqv hf (r_extract rfl (i := 0) rfl) rfl rfl rfl ?_; clear hf fa; intro fa hf
  refine sqv hf (r_extract rfl (i := 1) rfl) rfl rfl rfl ?_; clear hf fa; intro fa hf
  refine sqv hf (r_assign rfl) rfl rfl rfl ?_; clear hf fa; intro fa hf
  refine sqv hf (r_assign rfl) rfl rfl rfl ?_; clear hf fa; intro fa hf
  apply wpList_nil
  (try simp only [Exit.then, Exit.inBlock, ↓reduceIte, Nat.reduceEqDiff])
  refine hK2 _ _ ?_
  refine wp_seq_k (fun K3 hK3 => ?_)
  refine wp_seq_k (fun K4 hK4 => ?_)
  obtain ⟨c1, hc1⟩ : ∃ b, decide (wordS k = ⟨#[]⟩) = b := ⟨_, rfl⟩
  obtain ⟨c2, hc2⟩ : ∃ b, decide (((st.N.length : Nat) : Int) ≠ ((cntB (formS k) 110 : Nat) : Int)) = b := ⟨_, rfl⟩
  obtain ⟨c3, hc3⟩ : ∃ b, decide (((st.S.length : Nat) : Int) ≠ ((cntB (formS k) 115 : Nat) : Int)) = b := ⟨_, rfl⟩
  obtain ⟨c4, hc4⟩ : ∃ b, decide (((4096 : Int) * ((cntB (formS k) 100 : Nat) : Int)) < ((st.D.length : Nat) : Int)) = b := ⟨_, rfl⟩
  obtain ⟨c5, hc5⟩ : ∃ b, decide (((20 : Int) * ((cntB (formS k) 97 : Nat) : Int)) < ((st.A.length : Nat) : Int)) = b := ⟨_, rfl⟩
  refine wp_region_un (fun wq => Below w2.heap.size w2 wq) (fun w w' => Below w.heap.size w w')
    (fun V => [(fun x _ => x = (.string (wordS k))), (fun x _ => x = (.bool c1)), (fun x _ => x = (.bool c1)), (fun x _ => x = (gb (!c1) (.pointer (some ⟨b1, 1, none⟩)))), (fun x _ => x = (gb (!c1) (.slice aN st.N.length cN))), (fun x _ => x = (gb (!c1) (.int .i64 ((st.N.length : Nat) : Int)))), (fun x _ => x = (gb (!c1) (.string (formS k)))), (fun x _ => x = (gb (!c1) (.int .i64 (((cntB (formS k) 110) : Nat) : Int)))), (fun x _ => x = (gb (!c1) (.bool c2))), (fun x _ => x = (.bool (c1 || c2))), (fun x _ => x = (.bool (c1 || c2))), (fun x _ => x = (gb (!(c1 || c2)) (.pointer (some ⟨b1, 2, none⟩)))), (fun x _ => x = (gb (!(c1 || c2)) (.slice aS st.S.length cS))), (fun x _ => x = (gb (!(c1 || c2)) (.int .i64 ((st.S.length : Nat) : Int)))), (fun x _ => x = (gb (!(c1 || c2)) (.string (formS k)))), (fun x _ => x = (gb (!(c1 || c2)) (.int .i64 (((cntB (formS k) 115) : Nat) : Int)))), (fun x _ => x = (gb (!(c1 || c2)) (.bool c3))), (fun x _ => x = (.bool ((c1 || c2) || c3))), (fun x _ => x = (.bool ((c1 || c2) || c3))), (fun x _ => x = (gb (!((c1 || c2) || c3)) (.pointer (some ⟨b1, 4, none⟩)))), (fun x _ => x = (gb (!((c1 || c2) || c3)) (.slice aD st.D.length cD))), (fun x _ => x = (gb (!((c1 || c2) || c3)) (.int .i64 ((st.D.length : Nat) : Int)))), (fun x _ => x = (gb (!((c1 || c2) || c3)) (.string (formS k)))), (fun x _ => x = (gb (!((c1 || c2) || c3)) (.int .i64 (((cntB (formS k) 100) : Nat) : Int)))), (fun x _ => x = (gb (!((c1 || c2) || c3)) (.int .i64 ((4096 : Int) * (((cntB (formS k) 100) : Nat) : Int))))), (fun x _ => x = (gb (!((c1 || c2) || c3)) (.bool c4))), (fun x _ => x = (.bool (((c1 || c2) || c3) || c4))), (fun x _ => x = (.bool (((c1 || c2) || c3) || c4))), (fun x _ => x = (gb (!(((c1 || c2) || c3) || c4)) (.pointer (some ⟨b1, 3, none⟩)))), (fun x _ => x = (gb (!(((c1 || c2) || c3) || c4)) (.slice aA st.A.length cA))), (fun x _ => x = (gb (!(((c1 || c2) || c3) || c4)) (.int .i64 ((st.A.length : Nat) : Int)))), (fun x _ => x = (gb (!(((c1 || c2) || c3) || c4)) (.string (formS k)))), (fun x _ => x = (gb (!(((c1 || c2) || c3) || c4)) (.int .i64 (((cntB (formS k) 97) : Nat) : Int)))), (fun x _ => x = (gb (!(((c1 || c2) || c3) || c4)) (.int .i64 ((20 : Int) * (((cntB (formS k) 97) : Nat) : Int))))), (fun x _ => x = (gb (!(((c1 || c2) || c3) || c4)) (.bool c5))), (fun x _ => x = (.bool ((((c1 || c2) || c3) || c4) || c5)))])
    []
    [[], [0], [1], [2], [2, 3], [2, 4], [2], [2, 6], [2, 5, 7], [2, 8], [7, 9], [10], [10, 11], [10, 12], [10], [10, 14], [10, 13, 15], [10, 16], [15, 17], [18], [18, 19], [18, 20], [18], [18, 22], [18, 23], [18, 21, 24], [18, 25], [23, 26], [27], [27, 28], [27, 29], [27], [27, 31], [27, 32], [27, 30, 33], [27, 34]]
    hf (by kernel_rfl) (by kernel_rfl) (fun _ => rfl) ((Below.refl _ _).drew) (fun a b h1 h2 => h1.trans (h2.mono h1.size)) (fun _ _ h => h.size) (fun V => ⟨kept_eq, kept_eq, kept_eq, kept_eq, kept_eq, kept_eq, kept_eq, kept_eq, kept_eq, kept_eq, kept_eq, kept_eq, kept_eq, kept_eq, kept_eq, kept_eq, kept_eq, kept_eq, kept_eq, kept_eq, kept_eq, kept_eq, kept_eq, kept_eq, kept_eq, kept_eq, kept_eq, kept_eq, kept_eq, kept_eq, kept_eq, kept_eq, kept_eq, kept_eq, kept_eq, kept_eq, trivial⟩) (fun _ _ _ _ _ => rfl) ?_ ?_
  · skip
    intro V
    refine ⟨fun wu0 hC hd => ?_, ?_⟩
    · clear hd
      replace hb := hb.trans (hC.mono hb.size)
      replace hk1 := blk_ext hk1 hC
      exact Runs.does (r_move rfl) ⟨Below.refl _ _, rfl, nofr rfl⟩
    refine ⟨fun wu1 hC hd => ?_, ?_⟩
    · obtain ⟨h0, _⟩ := hd
      skip
      replace h0 : V 0 = (.string (wordS k)) := h0
      replace hb := hb.trans (hC.mono hb.size)
      replace hk1 := blk_ext hk1 hC
      exact Runs.does (Runs.veq (r_seq (congrArg some h0) rfl) (congrArg Value.bool (show _ = c1 from hc1))) ⟨Below.refl _ _, rfl, nofr rfl⟩
    refine ⟨fun wu2 hC hd => ?_, ?_⟩
    · obtain ⟨h1, _⟩ := hd
      skip
      replace h1 : V 1 = (.bool c1) := h1
      replace hb := hb.trans (hC.mono hb.size)
      replace hk1 := blk_ext hk1 hC
      exact Runs.does (r_move (congrArg some h1)) ⟨Below.refl _ _, rfl, nofr rfl⟩
    refine ⟨fun wu3 hC hd => ?_, ?_⟩
    · obtain ⟨h2, _⟩ := hd
      skip
      replace h2 : V 2 = (.bool c1) := h2
      replace hb := hb.trans (hC.mono hb.size)
      replace hk1 := blk_ext hk1 hC
      refine ⟨true, c1, congrArg some h2, fun hact => ?_, fun hact => ?_⟩
      · replace hact : (!c1) = true := by simpa using hact
        refine Runs.does (v := (.pointer (some ⟨b1, 1, none⟩))) (r_fa rfl Try.underlying49 (f := 1) (q := 1) rfl (by kernel_rfl) rfl) ⟨Below.refl _ _, ?_, nofr rfl⟩
        show _ = gb _ _; rw [hact]; rfl
      · replace hact : (!c1) = false := by simpa using hact
        refine ⟨Below.refl _ _, ?_, nofr rfl⟩
        show _ = gb _ _; rw [hact]; rfl
    refine ⟨fun wu4 hC hd => ?_, ?_⟩
    · obtain ⟨h2, h3, _⟩ := hd
      skip
      skip
      replace h2 : V 2 = (.bool c1) := h2
      replace h3 : V 3 = (gb (!c1) (.pointer (some ⟨b1, 1, none⟩))) := h3
      replace hb := hb.trans (hC.mono hb.size)
      replace hk1 := blk_ext hk1 hC
      refine ⟨true, c1, congrArg some h2, fun hact => ?_, fun hact => ?_⟩
      · replace hact : (!c1) = true := by simpa using hact
        refine Runs.does (v := (.slice aN st.N.length cN)) (r_load (v := (.slice aN st.N.length cN)) (gb_ev hact (congrArg some h3)) Try.underlying41 rfl (cell_blk hk1 rfl)) ⟨Below.refl _ _, ?_, nofr rfl⟩
        show _ = gb _ _; rw [hact]; rfl
      · replace hact : (!c1) = false := by simpa using hact
        refine ⟨Below.refl _ _, ?_, nofr rfl⟩
        show _ = gb _ _; rw [hact]; rfl
    refine ⟨fun wu5 hC hd => ?_, ?_⟩
    · obtain ⟨h2, h4, _⟩ := hd
      skip
      skip
      replace h2 : V 2 = (.bool c1) := h2
      replace h4 : V 4 = (gb (!c1) (.slice aN st.N.length cN)) := h4
      replace hb := hb.trans (hC.mono hb.size)
      replace hk1 := blk_ext hk1 hC
      refine ⟨true, c1, congrArg some h2, fun hact => ?_, fun hact => ?_⟩
      · replace hact : (!c1) = true := by simpa using hact
        refine Runs.does (v := (.int .i64 ((st.N.length : Nat) : Int))) (r_lensl (gb_ev hact (congrArg some h4)) Try.underlying41) ⟨Below.refl _ _, ?_, nofr rfl⟩
        show _ = gb _ _; rw [hact]; rfl
      · replace hact : (!c1) = false := by simpa using hact
        refine ⟨Below.refl _ _, ?_, nofr rfl⟩
        show _ = gb _ _; rw [hact]; rfl
    refine ⟨fun wu6 hC hd => ?_, ?_⟩
    · obtain ⟨h2, _⟩ := hd
      skip
      replace h2 : V 2 = (.bool c1) := h2
      replace hb := hb.trans (hC.mono hb.size)
      replace hk1 := blk_ext hk1 hC
      refine ⟨true, c1, congrArg some h2, fun hact => ?_, fun hact => ?_⟩
      · replace hact : (!c1) = true := by simpa using hact
        refine Runs.does (v := (.string (formS k))) (r_move rfl) ⟨Below.refl _ _, ?_, nofr rfl⟩
        show _ = gb _ _; rw [hact]; rfl
      · replace hact : (!c1) = false := by simpa using hact
        refine ⟨Below.refl _ _, ?_, nofr rfl⟩
        show _ = gb _ _; rw [hact]; rfl
    refine ⟨fun wu7 hC hd => ?_, ?_⟩
    · obtain ⟨h2, h6, _⟩ := hd
      skip
      skip
      replace h2 : V 2 = (.bool c1) := h2
      replace h6 : V 6 = (gb (!c1) (.string (formS k))) := h6
      replace hb := hb.trans (hC.mono hb.size)
      replace hk1 := blk_ext hk1 hC
      refine ⟨true, c1, congrArg some h2, fun hact => ?_, fun hact => ?_⟩
      · replace hact : (!c1) = true := by simpa using hact
        refine Does.mono (d_callB (vs := [(.string (formS k)), (.int .u8 (110 : Int))]) (cons_ev (gb_ev hact (congrArg some h6)) (cons_ev rfl rfl)) Try.func50 (by kernel_rfl) (by kernel_rfl) (by have hact0 := hact; (try simp only [Bool.and_eq_true, Bool.not_eq_true', Bool.or_eq_false_iff, Bool.or_eq_true, Bool.and_eq_false_iff, ne_eq, decide_eq_true_eq, decide_eq_false_iff_not] at hact0); exact (rcount_any (formS k) 110 _ (by have := (word_len k).2; omega)))) (fun _ _ h => ⟨h.2, ?_, nofr rfl⟩)
        show _ = gb _ _; rw [hact]; exact h.1
      · replace hact : (!c1) = false := by simpa using hact
        refine ⟨Below.refl _ _, ?_, nofr rfl⟩
        show _ = gb _ _; rw [hact]; rfl
    refine ⟨fun wu8 hC hd => ?_, ?_⟩
    · obtain ⟨h2, h5, h7, _⟩ := hd
      skip
      skip
      skip
      replace h2 : V 2 = (.bool c1) := h2
      replace h5 : V 5 = (gb (!c1) (.int .i64 ((st.N.length : Nat) : Int))) := h5
      replace h7 : V 7 = (gb (!c1) (.int .i64 (((cntB (formS k) 110) : Nat) : Int))) := h7
      replace hb := hb.trans (hC.mono hb.size)
      replace hk1 := blk_ext hk1 hC
      refine ⟨true, c1, congrArg some h2, fun hact => ?_, fun hact => ?_⟩
      · replace hact : (!c1) = true := by simpa using hact
        refine Runs.does (v := (.bool c2)) (Runs.veq (r_ne (gb_ev hact (congrArg some h5)) (gb_ev hact (congrArg some h7))) (congrArg Value.bool (show _ = c2 from hc2))) ⟨Below.refl _ _, ?_, nofr rfl⟩
        show _ = gb _ _; rw [hact]; rfl
      · replace hact : (!c1) = false := by simpa using hact
        refine ⟨Below.refl _ _, ?_, nofr rfl⟩
        show _ = gb _ _; rw [hact]; rfl
    refine ⟨fun wu9 hC hd => ?_, ?_⟩
    · obtain ⟨h2, h8, _⟩ := hd
      skip
      skip
      replace h2 : V 2 = (.bool c1) := h2
      replace h8 : V 8 = (gb (!c1) (.bool c2)) := h8
      replace hb := hb.trans (hC.mono hb.size)
      replace hk1 := blk_ext hk1 hC
      exact Runs.does (r_pickO (b := c1) (e := c2) (congrArg some h2) rfl (congrArg some h8)) ⟨Below.refl _ _, rfl, nofr rfl⟩
    refine ⟨fun wu10 hC hd => ?_, ?_⟩
    · obtain ⟨h7, h9, _⟩ := hd
      skip
      skip
      replace h7 : V 7 = (gb (!c1) (.int .i64 (((cntB (formS k) 110) : Nat) : Int))) := h7
      replace h9 : V 9 = (.bool (c1 || c2)) := h9
      replace hb := hb.trans (hC.mono hb.size)
      replace hk1 := blk_ext hk1 hC
      exact Runs.does (r_move (congrArg some h9)) ⟨Below.refl _ _, rfl, nofr rfl⟩
    refine ⟨fun wu11 hC hd => ?_, ?_⟩
    · obtain ⟨h10, _⟩ := hd
      skip
      replace h10 : V 10 = (.bool (c1 || c2)) := h10
      replace hb := hb.trans (hC.mono hb.size)
      replace hk1 := blk_ext hk1 hC
      refine ⟨true, (c1 || c2), congrArg some h10, fun hact => ?_, fun hact => ?_⟩
      · replace hact : (!(c1 || c2)) = true := by simpa using hact
        refine Runs.does (v := (.pointer (some ⟨b1, 2, none⟩))) (r_fa rfl Try.underlying49 (f := 2) (q := 2) rfl (by kernel_rfl) rfl) ⟨Below.refl _ _, ?_, nofr rfl⟩
        show _ = gb _ _; rw [hact]; rfl
      · replace hact : (!(c1 || c2)) = false := by simpa using hact
        refine ⟨Below.refl _ _, ?_, nofr rfl⟩
        show _ = gb _ _; rw [hact]; rfl
    refine ⟨fun wu12 hC hd => ?_, ?_⟩
    · obtain ⟨h10, h11, _⟩ := hd
      skip
      skip
      replace h10 : V 10 = (.bool (c1 || c2)) := h10
      replace h11 : V 11 = (gb (!(c1 || c2)) (.pointer (some ⟨b1, 2, none⟩))) := h11
      replace hb := hb.trans (hC.mono hb.size)
      replace hk1 := blk_ext hk1 hC
      refine ⟨true, (c1 || c2), congrArg some h10, fun hact => ?_, fun hact => ?_⟩
      · replace hact : (!(c1 || c2)) = true := by simpa using hact
        refine Runs.does (v := (.slice aS st.S.length cS)) (r_load (v := (.slice aS st.S.length cS)) (gb_ev hact (congrArg some h11)) Try.underlying32 rfl (cell_blk hk1 rfl)) ⟨Below.refl _ _, ?_, nofr rfl⟩
        show _ = gb _ _; rw [hact]; rfl
      · replace hact : (!(c1 || c2)) = false := by simpa using hact
        refine ⟨Below.refl _ _, ?_, nofr rfl⟩
        show _ = gb _ _; rw [hact]; rfl
    refine ⟨fun wu13 hC hd => ?_, ?_⟩
    · obtain ⟨h10, h12, _⟩ := hd
      skip
      skip
      replace h10 : V 10 = (.bool (c1 || c2)) := h10
      replace h12 : V 12 = (gb (!(c1 || c2)) (.slice aS st.S.length cS)) := h12
      replace hb := hb.trans (hC.mono hb.size)
      replace hk1 := blk_ext hk1 hC
      refine ⟨true, (c1 || c2), congrArg some h10, fun hact => ?_, fun hact => ?_⟩
      · replace hact : (!(c1 || c2)) = true := by simpa using hact
        refine Runs.does (v := (.int .i64 ((st.S.length : Nat) : Int))) (r_lensl (gb_ev hact (congrArg some h12)) Try.underlying32) ⟨Below.refl _ _, ?_, nofr rfl⟩
        show _ = gb _ _; rw [hact]; rfl
      · replace hact : (!(c1 || c2)) = false := by simpa using hact
        refine ⟨Below.refl _ _, ?_, nofr rfl⟩
        show _ = gb _ _; rw [hact]; rfl
    refine ⟨fun wu14 hC hd => ?_, ?_⟩
    · obtain ⟨h10, _⟩ := hd
      skip
      replace h10 : V 10 = (.bool (c1 || c2)) := h10
      replace hb := hb.trans (hC.mono hb.size)
      replace hk1 := blk_ext hk1 hC
      refine ⟨true, (c1 || c2), congrArg some h10, fun hact => ?_, fun hact => ?_⟩
      · replace hact : (!(c1 || c2)) = true := by simpa using hact
        refine Runs.does (v := (.string (formS k))) (r_move rfl) ⟨Below.refl _ _, ?_, nofr rfl⟩
        show _ = gb _ _; rw [hact]; rfl
      · replace hact : (!(c1 || c2)) = false := by simpa using hact
        refine ⟨Below.refl _ _, ?_, nofr rfl⟩
        show _ = gb _ _; rw [hact]; rfl
    refine ⟨fun wu15 hC hd => ?_, ?_⟩
    · obtain ⟨h10, h14, _⟩ := hd
      skip
      skip
      replace h10 : V 10 = (.bool (c1 || c2)) := h10
      replace h14 : V 14 = (gb (!(c1 || c2)) (.string (formS k))) := h14
      replace hb := hb.trans (hC.mono hb.size)
      replace hk1 := blk_ext hk1 hC
      refine ⟨true, (c1 || c2), congrArg some h10, fun hact => ?_, fun hact => ?_⟩
      · replace hact : (!(c1 || c2)) = true := by simpa using hact
        refine Does.mono (d_callB (vs := [(.string (formS k)), (.int .u8 (115 : Int))]) (cons_ev (gb_ev hact (congrArg some h14)) (cons_ev rfl rfl)) Try.func50 (by kernel_rfl) (by kernel_rfl) (by have hact0 := hact; (try simp only [Bool.and_eq_true, Bool.not_eq_true', Bool.or_eq_false_iff, Bool.or_eq_true, Bool.and_eq_false_iff, ne_eq, decide_eq_true_eq, decide_eq_false_iff_not] at hact0); exact (rcount_any (formS k) 115 _ (by have := (word_len k).2; omega)))) (fun _ _ h => ⟨h.2, ?_, nofr rfl⟩)
        show _ = gb _ _; rw [hact]; exact h.1
      · replace hact : (!(c1 || c2)) = false := by simpa using hact
        refine ⟨Below.refl _ _, ?_, nofr rfl⟩
        show _ = gb _ _; rw [hact]; rfl
    refine ⟨fun wu16 hC hd => ?_, ?_⟩
    · obtain ⟨h10, h13, h15, _⟩ := hd
      skip
      skip
      skip
      replace h10 : V 10 = (.bool (c1 || c2)) := h10
      replace h13 : V 13 = (gb (!(c1 || c2)) (.int .i64 ((st.S.length : Nat) : Int))) := h13
      replace h15 : V 15 = (gb (!(c1 || c2)) (.int .i64 (((cntB (formS k) 115) : Nat) : Int))) := h15
      replace hb := hb.trans (hC.mono hb.size)
      replace hk1 := blk_ext hk1 hC
      refine ⟨true, (c1 || c2), congrArg some h10, fun hact => ?_, fun hact => ?_⟩
      · replace hact : (!(c1 || c2)) = true := by simpa using hact
        refine Runs.does (v := (.bool c3)) (Runs.veq (r_ne (gb_ev hact (congrArg some h13)) (gb_ev hact (congrArg some h15))) (congrArg Value.bool (show _ = c3 from hc3))) ⟨Below.refl _ _, ?_, nofr rfl⟩
        show _ = gb _ _; rw [hact]; rfl
      · replace hact : (!(c1 || c2)) = false := by simpa using hact
        refine ⟨Below.refl _ _, ?_, nofr rfl⟩
        show _ = gb _ _; rw [hact]; rfl
    refine ⟨fun wu17 hC hd => ?_, ?_⟩
    · obtain ⟨h10, h16, _⟩ := hd
      skip
      skip
      replace h10 : V 10 = (.bool (c1 || c2)) := h10
      replace h16 : V 16 = (gb (!(c1 || c2)) (.bool c3)) := h16
      replace hb := hb.trans (hC.mono hb.size)
      replace hk1 := blk_ext hk1 hC
      exact Runs.does (r_pickO (b := (c1 || c2)) (e := c3) (congrArg some h10) rfl (congrArg some h16)) ⟨Below.refl _ _, rfl, nofr rfl⟩
    refine ⟨fun wu18 hC hd => ?_, ?_⟩
    · obtain ⟨h15, h17, _⟩ := hd
      skip
      skip
      replace h15 : V 15 = (gb (!(c1 || c2)) (.int .i64 (((cntB (formS k) 115) : Nat) : Int))) := h15
      replace h17 : V 17 = (.bool ((c1 || c2) || c3)) := h17
      replace hb := hb.trans (hC.mono hb.size)
      replace hk1 := blk_ext hk1 hC
      exact Runs.does (r_move (congrArg some h17)) ⟨Below.refl _ _, rfl, nofr rfl⟩
    refine ⟨fun wu19 hC hd => ?_, ?_⟩
    · obtain ⟨h18, _⟩ := hd
      skip
      replace h18 : V 18 = (.bool ((c1 || c2) || c3)) := h18
      replace hb := hb.trans (hC.mono hb.size)
      replace hk1 := blk_ext hk1 hC
      refine ⟨true, ((c1 || c2) || c3), congrArg some h18, fun hact => ?_, fun hact => ?_⟩
      · replace hact : (!((c1 || c2) || c3)) = true := by simpa using hact
        refine Runs.does (v := (.pointer (some ⟨b1, 4, none⟩))) (r_fa rfl Try.underlying49 (f := 4) (q := 4) rfl (by kernel_rfl) rfl) ⟨Below.refl _ _, ?_, nofr rfl⟩
        show _ = gb _ _; rw [hact]; rfl
      · replace hact : (!((c1 || c2) || c3)) = false := by simpa using hact
        refine ⟨Below.refl _ _, ?_, nofr rfl⟩
        show _ = gb _ _; rw [hact]; rfl
    refine ⟨fun wu20 hC hd => ?_, ?_⟩
    · obtain ⟨h18, h19, _⟩ := hd
      skip
      skip
      replace h18 : V 18 = (.bool ((c1 || c2) || c3)) := h18
      replace h19 : V 19 = (gb (!((c1 || c2) || c3)) (.pointer (some ⟨b1, 4, none⟩))) := h19
      replace hb := hb.trans (hC.mono hb.size)
      replace hk1 := blk_ext hk1 hC
      refine ⟨true, ((c1 || c2) || c3), congrArg some h18, fun hact => ?_, fun hact => ?_⟩
      · replace hact : (!((c1 || c2) || c3)) = true := by simpa using hact
        refine Runs.does (v := (.slice aD st.D.length cD)) (r_load (v := (.slice aD st.D.length cD)) (gb_ev hact (congrArg some h19)) Try.underlying43 rfl (cell_blk hk1 rfl)) ⟨Below.refl _ _, ?_, nofr rfl⟩
        show _ = gb _ _; rw [hact]; rfl
      · replace hact : (!((c1 || c2) || c3)) = false := by simpa using hact
        refine ⟨Below.refl _ _, ?_, nofr rfl⟩
        show _ = gb _ _; rw [hact]; rfl
    refine ⟨fun wu21 hC hd => ?_, ?_⟩
    · obtain ⟨h18, h20, _⟩ := hd
      skip
      skip
      replace h18 : V 18 = (.bool ((c1 || c2) || c3)) := h18
      replace h20 : V 20 = (gb (!((c1 || c2) || c3)) (.slice aD st.D.length cD)) := h20
      replace hb := hb.trans (hC.mono hb.size)
      replace hk1 := blk_ext hk1 hC
      refine ⟨true, ((c1 || c2) || c3), congrArg some h18, fun hact => ?_, fun hact => ?_⟩
      · replace hact : (!((c1 || c2) || c3)) = true := by simpa using hact
        refine Runs.does (v := (.int .i64 ((st.D.length : Nat) : Int))) (r_lensl (gb_ev hact (congrArg some h20)) Try.underlying43) ⟨Below.refl _ _, ?_, nofr rfl⟩
        show _ = gb _ _; rw [hact]; rfl
      · replace hact : (!((c1 || c2) || c3)) = false := by simpa using hact
        refine ⟨Below.refl _ _, ?_, nofr rfl⟩
        show _ = gb _ _; rw [hact]; rfl
    refine ⟨fun wu22 hC hd => ?_, ?_⟩
    · obtain ⟨h18, _⟩ := hd
      skip
      replace h18 : V 18 = (.bool ((c1 || c2) || c3)) := h18
      replace hb := hb.trans (hC.mono hb.size)
      replace hk1 := blk_ext hk1 hC
      refine ⟨true, ((c1 || c2) || c3), congrArg some h18, fun hact => ?_, fun hact => ?_⟩
      · replace hact : (!((c1 || c2) || c3)) = true := by simpa using hact
        refine Runs.does (v := (.string (formS k))) (r_move rfl) ⟨Below.refl _ _, ?_, nofr rfl⟩
        show _ = gb _ _; rw [hact]; rfl
      · replace hact : (!((c1 || c2) || c3)) = false := by simpa using hact
        refine ⟨Below.refl _ _, ?_, nofr rfl⟩
        show _ = gb _ _; rw [hact]; rfl
    refine ⟨fun wu23 hC hd => ?_, ?_⟩
    · obtain ⟨h18, h22, _⟩ := hd
      skip
      skip
      replace h18 : V 18 = (.bool ((c1 || c2) || c3)) := h18
      replace h22 : V 22 = (gb (!((c1 || c2) || c3)) (.string (formS k))) := h22
      replace hb := hb.trans (hC.mono hb.size)
      replace hk1 := blk_ext hk1 hC
      refine ⟨true, ((c1 || c2) || c3), congrArg some h18, fun hact => ?_, fun hact => ?_⟩
      · replace hact : (!((c1 || c2) || c3)) = true := by simpa using hact
        refine Does.mono (d_callB (vs := [(.string (formS k)), (.int .u8 (100 : Int))]) (cons_ev (gb_ev hact (congrArg some h22)) (cons_ev rfl rfl)) Try.func50 (by kernel_rfl) (by kernel_rfl) (by have hact0 := hact; (try simp only [Bool.and_eq_true, Bool.not_eq_true', Bool.or_eq_false_iff, Bool.or_eq_true, Bool.and_eq_false_iff, ne_eq, decide_eq_true_eq, decide_eq_false_iff_not] at hact0); exact (rcount_any (formS k) 100 _ (by have := (word_len k).2; omega)))) (fun _ _ h => ⟨h.2, ?_, nofr rfl⟩)
        show _ = gb _ _; rw [hact]; exact h.1
      · replace hact : (!((c1 || c2) || c3)) = false := by simpa using hact
        refine ⟨Below.refl _ _, ?_, nofr rfl⟩
        show _ = gb _ _; rw [hact]; rfl
    refine ⟨fun wu24 hC hd => ?_, ?_⟩
    · obtain ⟨h18, h23, _⟩ := hd
      skip
      skip
      replace h18 : V 18 = (.bool ((c1 || c2) || c3)) := h18
      replace h23 : V 23 = (gb (!((c1 || c2) || c3)) (.int .i64 (((cntB (formS k) 100) : Nat) : Int))) := h23
      replace hb := hb.trans (hC.mono hb.size)
      replace hk1 := blk_ext hk1 hC
      refine ⟨true, ((c1 || c2) || c3), congrArg some h18, fun hact => ?_, fun hact => ?_⟩
      · replace hact : (!((c1 || c2) || c3)) = true := by simpa using hact
        refine Runs.does (v := (.int .i64 ((4096 : Int) * (((cntB (formS k) 100) : Nat) : Int)))) (by have hact0 := hact; (try simp only [Bool.and_eq_true, Bool.not_eq_true', Bool.or_eq_false_iff, Bool.or_eq_true, Bool.and_eq_false_iff, ne_eq, decide_eq_true_eq, decide_eq_false_iff_not] at hact0); exact (r_mul (C := ((4096 : Int) * (((cntB (formS k) 100) : Nat) : Int))) rfl (gb_ev hact (congrArg some h23)) (by rw [IntKind.wrap_i64]; omega))) ⟨Below.refl _ _, ?_, nofr rfl⟩
        show _ = gb _ _; rw [hact]; rfl
      · replace hact : (!((c1 || c2) || c3)) = false := by simpa using hact
        refine ⟨Below.refl _ _, ?_, nofr rfl⟩
        show _ = gb _ _; rw [hact]; rfl
    refine ⟨fun wu25 hC hd => ?_, ?_⟩
    · obtain ⟨h18, h21, h24, _⟩ := hd
      skip
      skip
      skip
      replace h18 : V 18 = (.bool ((c1 || c2) || c3)) := h18
      replace h21 : V 21 = (gb (!((c1 || c2) || c3)) (.int .i64 ((st.D.length : Nat) : Int))) := h21
      replace h24 : V 24 = (gb (!((c1 || c2) || c3)) (.int .i64 ((4096 : Int) * (((cntB (formS k) 100) : Nat) : Int)))) := h24
      replace hb := hb.trans (hC.mono hb.size)
      replace hk1 := blk_ext hk1 hC
      refine ⟨true, ((c1 || c2) || c3), congrArg some h18, fun hact => ?_, fun hact => ?_⟩
      · replace hact : (!((c1 || c2) || c3)) = true := by simpa using hact
        refine Runs.does (v := (.bool c4)) (Runs.veq (r_gt (gb_ev hact (congrArg some h21)) (gb_ev hact (congrArg some h24))) (congrArg Value.bool (show _ = c4 from hc4))) ⟨Below.refl _ _, ?_, nofr rfl⟩
        show _ = gb _ _; rw [hact]; rfl
      · replace hact : (!((c1 || c2) || c3)) = false := by simpa using hact
        refine ⟨Below.refl _ _, ?_, nofr rfl⟩
        show _ = gb _ _; rw [hact]; rfl
    refine ⟨fun wu26 hC hd => ?_, ?_⟩
    · obtain ⟨h18, h25, _⟩ := hd
      skip
      skip
      replace h18 : V 18 = (.bool ((c1 || c2) || c3)) := h18
      replace h25 : V 25 = (gb (!((c1 || c2) || c3)) (.bool c4)) := h25
      replace hb := hb.trans (hC.mono hb.size)
      replace hk1 := blk_ext hk1 hC
      exact Runs.does (r_pickO (b := ((c1 || c2) || c3)) (e := c4) (congrArg some h18) rfl (congrArg some h25)) ⟨Below.refl _ _, rfl, nofr rfl⟩
    refine ⟨fun wu27 hC hd => ?_, ?_⟩
    · obtain ⟨h23, h26, _⟩ := hd
      skip
      skip
      replace h23 : V 23 = (gb (!((c1 || c2) || c3)) (.int .i64 (((cntB (formS k) 100) : Nat) : Int))) := h23
      replace h26 : V 26 = (.bool (((c1 || c2) || c3) || c4)) := h26
      replace hb := hb.trans (hC.mono hb.size)
      replace hk1 := blk_ext hk1 hC
      exact Runs.does (r_move (congrArg some h26)) ⟨Below.refl _ _, rfl, nofr rfl⟩
    refine ⟨fun wu28 hC hd => ?_, ?_⟩
    · obtain ⟨h27, _⟩ := hd
      skip
      replace h27 : V 27 = (.bool (((c1 || c2) || c3) || c4)) := h27
      replace hb := hb.trans (hC.mono hb.size)
      replace hk1 := blk_ext hk1 hC
      refine ⟨true, (((c1 || c2) || c3) || c4), congrArg some h27, fun hact => ?_, fun hact => ?_⟩
      · replace hact : (!(((c1 || c2) || c3) || c4)) = true := by simpa using hact
        refine Runs.does (v := (.pointer (some ⟨b1, 3, none⟩))) (r_fa rfl Try.underlying49 (f := 3) (q := 3) rfl (by kernel_rfl) rfl) ⟨Below.refl _ _, ?_, nofr rfl⟩
        show _ = gb _ _; rw [hact]; rfl
      · replace hact : (!(((c1 || c2) || c3) || c4)) = false := by simpa using hact
        refine ⟨Below.refl _ _, ?_, nofr rfl⟩
        show _ = gb _ _; rw [hact]; rfl
    refine ⟨fun wu29 hC hd => ?_, ?_⟩
    · obtain ⟨h27, h28, _⟩ := hd
      skip
      skip
      replace h27 : V 27 = (.bool (((c1 || c2) || c3) || c4)) := h27
      replace h28 : V 28 = (gb (!(((c1 || c2) || c3) || c4)) (.pointer (some ⟨b1, 3, none⟩))) := h28
      replace hb := hb.trans (hC.mono hb.size)
      replace hk1 := blk_ext hk1 hC
      refine ⟨true, (((c1 || c2) || c3) || c4), congrArg some h27, fun hact => ?_, fun hact => ?_⟩
      · replace hact : (!(((c1 || c2) || c3) || c4)) = true := by simpa using hact
        refine Runs.does (v := (.slice aA st.A.length cA)) (r_load (v := (.slice aA st.A.length cA)) (gb_ev hact (congrArg some h28)) Try.underlying42 rfl (cell_blk hk1 rfl)) ⟨Below.refl _ _, ?_, nofr rfl⟩
        show _ = gb _ _; rw [hact]; rfl
      · replace hact : (!(((c1 || c2) || c3) || c4)) = false := by simpa using hact
        refine ⟨Below.refl _ _, ?_, nofr rfl⟩
        show _ = gb _ _; rw [hact]; rfl
    refine ⟨fun wu30 hC hd => ?_, ?_⟩
    · obtain ⟨h27, h29, _⟩ := hd
      skip
      skip
      replace h27 : V 27 = (.bool (((c1 || c2) || c3) || c4)) := h27
      replace h29 : V 29 = (gb (!(((c1 || c2) || c3) || c4)) (.slice aA st.A.length cA)) := h29
      replace hb := hb.trans (hC.mono hb.size)
      replace hk1 := blk_ext hk1 hC
      refine ⟨true, (((c1 || c2) || c3) || c4), congrArg some h27, fun hact => ?_, fun hact => ?_⟩
      · replace hact : (!(((c1 || c2) || c3) || c4)) = true := by simpa using hact
        refine Runs.does (v := (.int .i64 ((st.A.length : Nat) : Int))) (r_lensl (gb_ev hact (congrArg some h29)) Try.underlying42) ⟨Below.refl _ _, ?_, nofr rfl⟩
        show _ = gb _ _; rw [hact]; rfl
      · replace hact : (!(((c1 || c2) || c3) || c4)) = false := by simpa using hact
        refine ⟨Below.refl _ _, ?_, nofr rfl⟩
        show _ = gb _ _; rw [hact]; rfl
    refine ⟨fun wu31 hC hd => ?_, ?_⟩
    · obtain ⟨h27, _⟩ := hd
      skip
      replace h27 : V 27 = (.bool (((c1 || c2) || c3) || c4)) := h27
      replace hb := hb.trans (hC.mono hb.size)
      replace hk1 := blk_ext hk1 hC
      refine ⟨true, (((c1 || c2) || c3) || c4), congrArg some h27, fun hact => ?_, fun hact => ?_⟩
      · replace hact : (!(((c1 || c2) || c3) || c4)) = true := by simpa using hact
        refine Runs.does (v := (.string (formS k))) (r_move rfl) ⟨Below.refl _ _, ?_, nofr rfl⟩
        show _ = gb _ _; rw [hact]; rfl
      · replace hact : (!(((c1 || c2) || c3) || c4)) = false := by simpa using hact
        refine ⟨Below.refl _ _, ?_, nofr rfl⟩
        show _ = gb _ _; rw [hact]; rfl
    refine ⟨fun wu32 hC hd => ?_, ?_⟩
    · obtain ⟨h27, h31, _⟩ := hd
      skip
      skip
      replace h27 : V 27 = (.bool (((c1 || c2) || c3) || c4)) := h27
      replace h31 : V 31 = (gb (!(((c1 || c2) || c3) || c4)) (.string (formS k))) := h31
      replace hb := hb.trans (hC.mono hb.size)
      replace hk1 := blk_ext hk1 hC
      refine ⟨true, (((c1 || c2) || c3) || c4), congrArg some h27, fun hact => ?_, fun hact => ?_⟩
      · replace hact : (!(((c1 || c2) || c3) || c4)) = true := by simpa using hact
        refine Does.mono (d_callB (vs := [(.string (formS k)), (.int .u8 (97 : Int))]) (cons_ev (gb_ev hact (congrArg some h31)) (cons_ev rfl rfl)) Try.func50 (by kernel_rfl) (by kernel_rfl) (by have hact0 := hact; (try simp only [Bool.and_eq_true, Bool.not_eq_true', Bool.or_eq_false_iff, Bool.or_eq_true, Bool.and_eq_false_iff, ne_eq, decide_eq_true_eq, decide_eq_false_iff_not] at hact0); exact (rcount_any (formS k) 97 _ (by have := (word_len k).2; omega)))) (fun _ _ h => ⟨h.2, ?_, nofr rfl⟩)
        show _ = gb _ _; rw [hact]; exact h.1
      · replace hact : (!(((c1 || c2) || c3) || c4)) = false := by simpa using hact
        refine ⟨Below.refl _ _, ?_, nofr rfl⟩
        show _ = gb _ _; rw [hact]; rfl
    refine ⟨fun wu33 hC hd => ?_, ?_⟩
    · obtain ⟨h27, h32, _⟩ := hd
      skip
      skip
      replace h27 : V 27 = (.bool (((c1 || c2) || c3) || c4)) := h27
      replace h32 : V 32 = (gb (!(((c1 || c2) || c3) || c4)) (.int .i64 (((cntB (formS k) 97) : Nat) : Int))) := h32
      replace hb := hb.trans (hC.mono hb.size)
      replace hk1 := blk_ext hk1 hC
      refine ⟨true, (((c1 || c2) || c3) || c4), congrArg some h27, fun hact => ?_, fun hact => ?_⟩
      · replace hact : (!(((c1 || c2) || c3) || c4)) = true := by simpa using hact
        refine Runs.does (v := (.int .i64 ((20 : Int) * (((cntB (formS k) 97) : Nat) : Int)))) (by have hact0 := hact; (try simp only [Bool.and_eq_true, Bool.not_eq_true', Bool.or_eq_false_iff, Bool.or_eq_true, Bool.and_eq_false_iff, ne_eq, decide_eq_true_eq, decide_eq_false_iff_not] at hact0); exact (r_mul (C := ((20 : Int) * (((cntB (formS k) 97) : Nat) : Int))) rfl (gb_ev hact (congrArg some h32)) (by rw [IntKind.wrap_i64]; omega))) ⟨Below.refl _ _, ?_, nofr rfl⟩
        show _ = gb _ _; rw [hact]; rfl
      · replace hact : (!(((c1 || c2) || c3) || c4)) = false := by simpa using hact
        refine ⟨Below.refl _ _, ?_, nofr rfl⟩
        show _ = gb _ _; rw [hact]; rfl
    refine ⟨fun wu34 hC hd => ?_, ?_⟩
    · obtain ⟨h27, h30, h33, _⟩ := hd
      skip
      skip
      skip
      replace h27 : V 27 = (.bool (((c1 || c2) || c3) || c4)) := h27
      replace h30 : V 30 = (gb (!(((c1 || c2) || c3) || c4)) (.int .i64 ((st.A.length : Nat) : Int))) := h30
      replace h33 : V 33 = (gb (!(((c1 || c2) || c3) || c4)) (.int .i64 ((20 : Int) * (((cntB (formS k) 97) : Nat) : Int)))) := h33
      replace hb := hb.trans (hC.mono hb.size)
      replace hk1 := blk_ext hk1 hC
      refine ⟨true, (((c1 || c2) || c3) || c4), congrArg some h27, fun hact => ?_, fun hact => ?_⟩
      · replace hact : (!(((c1 || c2) || c3) || c4)) = true := by simpa using hact
        refine Runs.does (v := (.bool c5)) (Runs.veq (r_gt (gb_ev hact (congrArg some h30)) (gb_ev hact (congrArg some h33))) (congrArg Value.bool (show _ = c5 from hc5))) ⟨Below.refl _ _, ?_, nofr rfl⟩
        show _ = gb _ _; rw [hact]; rfl
      · replace hact : (!(((c1 || c2) || c3) || c4)) = false := by simpa using hact
        refine ⟨Below.refl _ _, ?_, nofr rfl⟩
        show _ = gb _ _; rw [hact]; rfl
    refine ⟨fun wu35 hC hd => ?_, ?_⟩
    · obtain ⟨h27, h34, _⟩ := hd
      skip
      skip
      replace h27 : V 27 = (.bool (((c1 || c2) || c3) || c4)) := h27
      replace h34 : V 34 = (gb (!(((c1 || c2) || c3) || c4)) (.bool c5)) := h34
      replace hb := hb.trans (hC.mono hb.size)
      replace hk1 := blk_ext hk1 hC
      exact Runs.does (r_pickO (b := (((c1 || c2) || c3) || c4)) (e := c5) (congrArg some h27) rfl (congrArg some h34)) ⟨Below.refl _ _, rfl, nofr rfl⟩
    trivial
  · skip
    clear hf fa; intro V w3 fa he3 hp hnb hf
    have hv0 : V 0 = (.string (wordS k)) := postsHold_at hp 0 rfl
    have hv1 : V 1 = (.bool c1) := postsHold_at hp 1 rfl
    have hv2 : V 2 = (.bool c1) := postsHold_at hp 2 rfl
    have hv3 : V 3 = (gb (!c1) (.pointer (some ⟨b1, 1, none⟩))) := postsHold_at hp 3 rfl
    have hv4 : V 4 = (gb (!c1) (.slice aN st.N.length cN)) := postsHold_at hp 4 rfl
    have hv5 : V 5 = (gb (!c1) (.int .i64 ((st.N.length : Nat) : Int))) := postsHold_at hp 5 rfl
    have hv6 : V 6 = (gb (!c1) (.string (formS k))) := postsHold_at hp 6 rfl
    have hv7 : V 7 = (gb (!c1) (.int .i64 (((cntB (formS k) 110) : Nat) : Int))) := postsHold_at hp 7 rfl
    have hv8 : V 8 = (gb (!c1) (.bool c2)) := postsHold_at hp 8 rfl
    have hv9 : V 9 = (.bool (c1 || c2)) := postsHold_at hp 9 rfl
    have hv10 : V 10 = (.bool (c1 || c2)) := postsHold_at hp 10 rfl
    have hv11 : V 11 = (gb (!(c1 || c2)) (.pointer (some ⟨b1, 2, none⟩))) := postsHold_at hp 11 rfl
    have hv12 : V 12 = (gb (!(c1 || c2)) (.slice aS st.S.length cS)) := postsHold_at hp 12 rfl
    have hv13 : V 13 = (gb (!(c1 || c2)) (.int .i64 ((st.S.length : Nat) : Int))) := postsHold_at hp 13 rfl
    have hv14 : V 14 = (gb (!(c1 || c2)) (.string (formS k))) := postsHold_at hp 14 rfl
    have hv15 : V 15 = (gb (!(c1 || c2)) (.int .i64 (((cntB (formS k) 115) : Nat) : Int))) := postsHold_at hp 15 rfl
    have hv16 : V 16 = (gb (!(c1 || c2)) (.bool c3)) := postsHold_at hp 16 rfl
    have hv17 : V 17 = (.bool ((c1 || c2) || c3)) := postsHold_at hp 17 rfl
    have hv18 : V 18 = (.bool ((c1 || c2) || c3)) := postsHold_at hp 18 rfl
    have hv19 : V 19 = (gb (!((c1 || c2) || c3)) (.pointer (some ⟨b1, 4, none⟩))) := postsHold_at hp 19 rfl
    have hv20 : V 20 = (gb (!((c1 || c2) || c3)) (.slice aD st.D.length cD)) := postsHold_at hp 20 rfl
    have hv21 : V 21 = (gb (!((c1 || c2) || c3)) (.int .i64 ((st.D.length : Nat) : Int))) := postsHold_at hp 21 rfl
    have hv22 : V 22 = (gb (!((c1 || c2) || c3)) (.string (formS k))) := postsHold_at hp 22 rfl
    have hv23 : V 23 = (gb (!((c1 || c2) || c3)) (.int .i64 (((cntB (formS k) 100) : Nat) : Int))) := postsHold_at hp 23 rfl
    have hv24 : V 24 = (gb (!((c1 || c2) || c3)) (.int .i64 ((4096 : Int) * (((cntB (formS k) 100) : Nat) : Int)))) := postsHold_at hp 24 rfl
    have hv25 : V 25 = (gb (!((c1 || c2) || c3)) (.bool c4)) := postsHold_at hp 25 rfl
    have hv26 : V 26 = (.bool (((c1 || c2) || c3) || c4)) := postsHold_at hp 26 rfl
    have hv27 : V 27 = (.bool (((c1 || c2) || c3) || c4)) := postsHold_at hp 27 rfl
    have hv28 : V 28 = (gb (!(((c1 || c2) || c3) || c4)) (.pointer (some ⟨b1, 3, none⟩))) := postsHold_at hp 28 rfl
    have hv29 : V 29 = (gb (!(((c1 || c2) || c3) || c4)) (.slice aA st.A.length cA)) := postsHold_at hp 29 rfl
    have hv30 : V 30 = (gb (!(((c1 || c2) || c3) || c4)) (.int .i64 ((st.A.length : Nat) : Int))) := postsHold_at hp 30 rfl
    have hv31 : V 31 = (gb (!(((c1 || c2) || c3) || c4)) (.string (formS k))) := postsHold_at hp 31 rfl
    have hv32 : V 32 = (gb (!(((c1 || c2) || c3) || c4)) (.int .i64 (((cntB (formS k) 97) : Nat) : Int))) := postsHold_at hp 32 rfl
    have hv33 : V 33 = (gb (!(((c1 || c2) || c3) || c4)) (.int .i64 ((20 : Int) * (((cntB (formS k) 97) : Nat) : Int)))) := postsHold_at hp 33 rfl
    have hv34 : V 34 = (gb (!(((c1 || c2) || c3) || c4)) (.bool c5)) := postsHold_at hp 34 rfl
    have hv35 : V 35 = (.bool ((((c1 || c2) || c3) || c4) || c5)) := postsHold_at hp 35 rfl
    simp only [List.take_succ_cons, List.take_zero, insAll, ins, hv0, hv1, hv2, hv3, hv4, hv5, hv6, hv7, hv8, hv9, hv10, hv11, hv12, hv13, hv14, hv15, hv16, hv17, hv18, hv19, hv20, hv21, hv22, hv23, hv24, hv25, hv26, hv27, hv28, hv29, hv30, hv31, hv32, hv33, hv34, hv35] at hf
    clear hp hnb hv0 hv1 hv2 hv3 hv4 hv5 hv6 hv7 hv8 hv9 hv10 hv11 hv12 hv13 hv14 hv15 hv16 hv17 hv18 hv19 hv20 hv21 hv22 hv23 hv24 hv25 hv26 hv27 hv28 hv29 hv30 hv31 hv32 hv33 hv34 hv35
    replace hk1 := blk_ext hk1 he3
    replace hb := hb.trans (Below.mono he3 hb.size)
    (try simp only [Exit.then, Exit.inBlock, ↓reduceIte, Nat.reduceEqDiff])
    refine hK4 _ _ ?_
    refine wp_cond_split (t := ((((c1 || c2) || c3) || c4) || c5)) (hf.ev rfl) (fun hqt48_1 => ?_) (fun hqt48_1 => ?_)
    · have hqt48_1b := hqt48_1
      try simp only [decide_eq_true_eq, Bool.and_eq_true, Bool.or_eq_true, Bool.not_eq_true', decide_eq_false_iff_not, ne_eq, Bool.not_eq_true] at hqt48_1
      refine wp_seq_k (fun K5 hK5 => ?_)
      refine wp_region_lit ?_
      refine sqv hf (r_assign rfl) rfl rfl rfl ?_; clear hf fa; intro fa hf
      apply wpList_nil
      (try simp only [Exit.then, Exit.inBlock, ↓reduceIte, Nat.reduceEqDiff])
      refine hK5 _ _ ?_
      refine wp_ret ?_
      (try simp only [Exit.then, Exit.inBlock])
      refine ret1 hf rfl rfl ?_
      refine ⟨?_, hb⟩; rw [right_head (by rintro ⟨h1, h2, h3, h4, h5, h6, h7⟩; have hd := hfc.1; have ha := hfc.2.1; have hX := hqt48_1; simp only [← hc1, ← hc2, ← hc3, ← hc4, ← hc5, decide_eq_true_eq, decide_eq_false_iff_not, ne_eq] at hX; rcases hX with (((h | h) | h) | h) | h; exact h1 h; omega; omega; (split at hd <;> omega); (split at ha <;> omega))]
    · have hqt48_1b := hqt48_1
      replace hqt48_1 := Bool.eq_false_iff.1 hqt48_1
      try simp only [ne_eq, decide_eq_true_eq, Bool.and_eq_true, Bool.or_eq_true, Bool.not_eq_true', decide_eq_false_iff_not] at hqt48_1
      refine wp_skip ?_
      (try simp only [Exit.then, Exit.inBlock, ↓reduceIte, Nat.reduceEqDiff])
      refine hK3 _ _ ?_
      refine wp_seq_k (fun K6 hK6 => ?_)
      refine wp_seq_k (fun K7 hK7 => ?_)
      have hH : Head k st := by
        have hX := hqt48_1; simp only [← hc1, ← hc2, ← hc3, ← hc4, ← hc5, decide_eq_true_eq, decide_eq_false_iff_not, ne_eq] at hX
        have hd := hfc.1
        have ha := hfc.2.1
        refine ⟨fun e => hX (.inl (.inl (.inl (.inl e)))), Classical.byContradiction fun e => hX (.inl (.inl (.inl (.inr (by omega))))), Classical.byContradiction fun e => hX (.inl (.inl (.inr (by omega)))), ?_⟩
        have h1 : ¬ (4096 * cntB (formS k) 100 < st.D.length) := fun e => hX (.inl (.inr (by omega)))
        have h2 : ¬ (20 * cntB (formS k) 97 < st.A.length) := fun e => hX (.inr (by omega))
        clear hX
        split at hd <;> split at ha <;> refine ⟨by omega, by omega, fun h0 => by omega, fun h0 => by omega⟩
      refine wp_region_lit ?_
      refine sqv hf (r_assign rfl) rfl rfl rfl ?_; clear hf fa; intro fa hf
      apply wpList_nil
      (try simp only [Exit.then, Exit.inBlock, ↓reduceIte, Nat.reduceEqDiff])
      refine hK7 _ _ ?_
      refine wp_block ?_
      refine wp_loop_k (fun mq fa wr => ∃ (j : Nat), mq = st.S.length - j ∧ Fr 102 fa [(1, (.pointer (some ⟨b1, 0, none⟩))), (5, (.int .i64 ((j : Nat) : Int)))] ∧ Below w.heap.size w wr ∧ wr.heap[b1]? = some (.cells #[(.int .i64 k), (.slice aN st.N.length cN), (.slice aS st.S.length cS), (.slice aA st.A.length cA), (.slice aD st.D.length cD)] 49 (0, 0)) ∧ (j ≤ st.S.length) ∧ (∀ s ∈ st.S.take j, checkF s = 0)) ?_ ?_
      · skip
        exact ⟨_, 0, rfl, hf.sub ⟨rfl, (some_int (by first | rfl | omega)), trivial⟩, hb, hk1, by omega, (by intro s hs; cases hs)⟩
      · skip
        clear hf fa; intro mq1 fa w4 hI KL1 hKL1
        clear hb
        clear hk1
        obtain ⟨j, hmq1, hf, hb, hkb1, hj, HS⟩ := hI
        refine wp_seq_k (fun K8 hK8 => ?_)
        refine wp_seq_k (fun K9 hK9 => ?_)
        refine wp_region_lit ?_
        refine sqv hf (r_move rfl) rfl rfl rfl ?_; clear hf fa; intro fa hf
        refine sqv hf (r_fa rfl Try.underlying49 (f := 2) (q := 2) rfl (by kernel_rfl) rfl) rfl rfl rfl ?_; clear hf fa; intro fa hf
        refine sqv hf (r_load (v := (.slice aS st.S.length cS)) rfl Try.underlying32 rfl (cell_blk hkb1 rfl)) rfl rfl rfl ?_; clear hf fa; intro fa hf
        refine sqv hf (r_lensl rfl Try.underlying32) rfl rfl rfl ?_; clear hf fa; intro fa hf
        refine sqv hf (r_lt rfl rfl) rfl rfl rfl ?_; clear hf fa; intro fa hf
        apply wpList_nil
        (try simp only [Exit.then, Exit.inBlock, ↓reduceIte, Nat.reduceEqDiff])
        refine hK9 _ _ ?_
        refine wp_cond_split (t := (decide (((j : Nat) : Int) < ((st.S.length : Nat) : Int)))) (hf.ev rfl) (fun hqt53_1 => ?_) (fun hqt53_1 => ?_)
        · have hqt53_1b := hqt53_1
          try simp only [decide_eq_true_eq, Bool.and_eq_true, Bool.or_eq_true, Bool.not_eq_true', decide_eq_false_iff_not, ne_eq, Bool.not_eq_true] at hqt53_1
          refine wp_skip ?_
          (try simp only [Exit.then, Exit.inBlock, ↓reduceIte, Nat.reduceEqDiff])
          refine hK8 _ _ ?_
          refine wp_seq_k (fun K10 hK10 => ?_)
          refine wp_block ?_
          refine wp_seq_k (fun K11 hK11 => ?_)
          refine wp_region_lit ?_
          refine sqv hf (r_fa rfl Try.underlying49 (f := 2) (q := 2) rfl (by kernel_rfl) rfl) rfl rfl rfl ?_; clear hf fa; intro fa hf
          refine sqv hf (r_load (v := (.slice aS st.S.length cS)) rfl Try.underlying32 rfl (cell_blk hkb1 rfl)) rfl rfl rfl ?_; clear hf fa; intro fa hf
          refine sqv hf (r_move rfl) rfl rfl rfl ?_; clear hf fa; intro fa hf
          obtain ⟨y1, hy1⟩ : ∃ x, (st.S)[j]? = some x := ⟨_, List.getElem?_eq_getElem (by (try simp only [Sl.list_length]); omega)⟩
          obtain ⟨ab1, aoff1, rfl, hlb1, hel1⟩ := RdS.at hF.2.1 hy1
          refine sqv hf (r_ixa (sz := 1) (j := j) rfl rfl Try.underlying32 (by kernel_rfl) rfl (by omega) rfl) rfl rfl rfl ?_; clear hf fa; intro fa hf
          refine sqv hf (r_load (v := (.string y1)) rfl Try.underlying9 rfl (cellsAt_cell (cellsAt_below hel1 hb hlb1) (i := 0) rfl rfl)) rfl rfl rfl ?_; clear hf fa; intro fa hf
          refine sqv hf (r_lens rfl Try.underlying9) rfl rfl rfl ?_; clear hf fa; intro fa hf
          refine sqv hf (r_gt rfl rfl) rfl rfl rfl ?_; clear hf fa; intro fa hf
          refine sqv hf (r_move rfl) rfl rfl rfl ?_; clear hf fa; intro fa hf
          refine sqgF (act := (!(decide ((200 : Int) < ((y1.size : Nat) : Int))))) (ag := true) (c := (decide ((200 : Int) < ((y1.size : Nat) : Int)))) (v := (.pointer (some ⟨b1, 2, none⟩))) hf rfl rfl rfl (fun hact => (r_fa rfl Try.underlying49 (f := 2) (q := 2) rfl (by kernel_rfl) rfl)) rfl rfl ?_; clear hf fa; intro fa hf
          refine sqgF (act := (!(decide ((200 : Int) < ((y1.size : Nat) : Int))))) (ag := true) (c := (decide ((200 : Int) < ((y1.size : Nat) : Int)))) (v := (.slice (some ⟨ab1, aoff1, none⟩) st.S.length cS)) hf rfl rfl rfl (fun hact => (r_load (v := (.slice (some ⟨ab1, aoff1, none⟩) st.S.length cS)) (gb_ev hact rfl) Try.underlying32 rfl (cell_blk hkb1 rfl))) rfl rfl ?_; clear hf fa; intro fa hf
          refine sqgF (act := (!(decide ((200 : Int) < ((y1.size : Nat) : Int))))) (ag := true) (c := (decide ((200 : Int) < ((y1.size : Nat) : Int)))) (v := (.int .i64 ((j : Nat) : Int))) hf rfl rfl rfl (fun hact => (r_move rfl)) rfl rfl ?_; clear hf fa; intro fa hf
          refine sqgF (act := (!(decide ((200 : Int) < ((y1.size : Nat) : Int))))) (ag := true) (c := (decide ((200 : Int) < ((y1.size : Nat) : Int)))) (v := (.pointer (some ⟨ab1, (aoff1 + j * 1), none⟩))) hf rfl rfl rfl (fun hact => (by have hact0 := hact; (try simp only [Bool.and_eq_true, Bool.not_eq_true', Bool.or_eq_false_iff, Bool.or_eq_true, Bool.and_eq_false_iff, ne_eq, decide_eq_true_eq, decide_eq_false_iff_not] at hact0); exact (r_ixa (sz := 1) (j := j) (gb_ev hact rfl) (gb_ev hact rfl) Try.underlying32 (by kernel_rfl) rfl (by omega) rfl))) rfl rfl ?_; clear hf fa; intro fa hf
          refine sqgF (act := (!(decide ((200 : Int) < ((y1.size : Nat) : Int))))) (ag := true) (c := (decide ((200 : Int) < ((y1.size : Nat) : Int)))) (v := (.string y1)) hf rfl rfl rfl (fun hact => (r_load (v := (.string y1)) (gb_ev hact rfl) Try.underlying9 rfl (cellsAt_cell (cellsAt_below hel1 hb hlb1) (i := 0) rfl rfl))) rfl rfl ?_; clear hf fa; intro fa hf
          refine sqgd (R := fun vq wq => vq = gb (!(decide ((200 : Int) < ((y1.size : Nat) : Int)))) (.int .i64 ((cnt (bl y1)))) ∧ Below w4.heap.size w4 wq) (act := (!(decide ((200 : Int) < ((y1.size : Nat) : Int))))) (g := 7) (want := false) (ag := true) (c := (decide ((200 : Int) < ((y1.size : Nat) : Int)))) hf (by rfl) (by rfl) (act_F _ _) (fun hact => (d_callB (vs := [(.string y1)]) (cons_ev (gb_ev hact rfl) rfl) Try.func51 (by kernel_rfl) (by kernel_rfl) (refCount_any y1 _ (by have h9 := hB.s _ (List.mem_of_getElem? hy1); omega))).mono (fun _ _ h => ⟨by rw [h.1, hact]; rfl, h.2⟩)) (fun h => ⟨by rw [h]; rfl, Below.refl _ _⟩) rfl ?_; clear hf fa; rintro fa _ w5 ⟨rfl, he4⟩ hf
          replace hkb1 := blk_ext hkb1 he4
          replace hb := hb.trans (Below.mono he4 hb.size)
          change Fr _ _ ((69, (gb (!(decide ((200 : Int) < ((y1.size : Nat) : Int)))) (.int .i64 ((cnt (bl y1)))))) :: _) at hf
          refine sqgF (act := (!(decide ((200 : Int) < ((y1.size : Nat) : Int))))) (ag := true) (c := (decide ((200 : Int) < ((y1.size : Nat) : Int)))) (v := (.bool (decide (((cnt (bl y1))) < (0 : Int))))) hf rfl rfl rfl (fun hact => (r_lt (gb_ev hact rfl) rfl)) rfl rfl ?_; clear hf fa; intro fa hf
          refine sqv hf (r_pickO (b := (decide ((200 : Int) < ((y1.size : Nat) : Int)))) (e := (decide (((cnt (bl y1))) < (0 : Int)))) rfl rfl rfl) rfl rfl rfl ?_; clear hf fa; intro fa hf
          apply wpList_nil
          (try simp only [Exit.then, Exit.inBlock, ↓reduceIte, Nat.reduceEqDiff])
          refine hK11 _ _ ?_
          refine wp_cond_split (t := ((decide ((200 : Int) < ((y1.size : Nat) : Int))) || (decide (((cnt (bl y1))) < (0 : Int))))) (hf.ev rfl) (fun hqt71_1 => ?_) (fun hqt71_1 => ?_)
          · have hqt71_1b := hqt71_1
            try simp only [decide_eq_true_eq, Bool.and_eq_true, Bool.or_eq_true, Bool.not_eq_true', decide_eq_false_iff_not, ne_eq, Bool.not_eq_true] at hqt71_1
            refine wp_seq_k (fun K12 hK12 => ?_)
            refine wp_region_lit ?_
            refine sqv hf (r_assign rfl) rfl rfl rfl ?_; clear hf fa; intro fa hf
            apply wpList_nil
            (try simp only [Exit.then, Exit.inBlock, ↓reduceIte, Nat.reduceEqDiff])
            refine hK12 _ _ ?_
            refine wp_ret ?_
            (try simp only [Exit.then, Exit.inBlock])
            refine ret1 hf rfl rfl ?_
            refine ⟨?_, hb⟩; rw [right_badS hy1 (by rw [check_iff]; have h := hqt71_1; omega)]
          · have hqt71_1b := hqt71_1
            replace hqt71_1 := Bool.eq_false_iff.1 hqt71_1
            try simp only [ne_eq, decide_eq_true_eq, Bool.and_eq_true, Bool.or_eq_true, Bool.not_eq_true', decide_eq_false_iff_not] at hqt71_1
            refine wp_skip ?_
            (try simp only [Exit.then, Exit.inBlock, ↓reduceIte, Nat.reduceEqDiff])
            refine hK10 _ _ ?_
            refine wp_region_lit ?_
            refine sqv hf (r_move rfl) rfl rfl rfl ?_; clear hf fa; intro fa hf
            refine sqv hf (r_add (C := (((j : Nat) : Int) + (1 : Int))) rfl rfl (by rw [IntKind.wrap_i64]; omega)) rfl rfl rfl ?_; clear hf fa; intro fa hf
            refine sqv hf (r_assign rfl) rfl rfl rfl ?_; clear hf fa; intro fa hf
            apply wpList_nil
            (try simp only [Exit.then, Exit.inBlock, ↓reduceIte, Nat.reduceEqDiff])
            refine hKL1 _ _ _ (by omega) ⟨(j + 1), rfl, hf.sub ⟨rfl, (some_int (by first | rfl | omega)), trivial⟩, hb, hkb1, by omega, (all_snoc HS hy1 ((check_iff _).2 (by have h := hqt71_1; omega)))⟩
        · have hqt53_1b := hqt53_1
          replace hqt53_1 := Bool.eq_false_iff.1 hqt53_1
          try simp only [ne_eq, decide_eq_true_eq, Bool.and_eq_true, Bool.or_eq_true, Bool.not_eq_true', decide_eq_false_iff_not] at hqt53_1
          refine wp_exit ?_
          (try simp only [Exit.then, Exit.inBlock, ↓reduceIte, Nat.reduceEqDiff])
          refine hK6 _ _ ?_
          refine wp_seq_k (fun K13 hK13 => ?_)
          refine wp_seq_k (fun K14 hK14 => ?_)
          refine wp_region_lit ?_
          refine sqv hf (r_assign rfl) rfl rfl rfl ?_; clear hf fa; intro fa hf
          apply wpList_nil
          (try simp only [Exit.then, Exit.inBlock, ↓reduceIte, Nat.reduceEqDiff])
          refine hK14 _ _ ?_
          refine wp_block ?_
          refine wp_loop_k (fun mq fa wr => ∃ (i : Nat), mq = st.A.length - i ∧ Fr 102 fa [(1, (.pointer (some ⟨b1, 0, none⟩))), (6, (.int .i64 ((i : Nat) : Int)))] ∧ Below w.heap.size w wr ∧ wr.heap[b1]? = some (.cells #[(.int .i64 k), (.slice aN st.N.length cN), (.slice aS st.S.length cS), (.slice aA st.A.length cA), (.slice aD st.D.length cD)] 49 (0, 0)) ∧ (i ≤ st.A.length) ∧ (∀ v ∈ st.A.take i, vrightP v = true)) ?_ ?_
          · skip
            exact ⟨_, 0, rfl, hf.sub ⟨rfl, (some_int (by first | rfl | omega)), trivial⟩, hb, hkb1, by omega, (by intro s hs; cases hs)⟩
          · skip
            clear hf fa; intro mq2 fa w6 hI KL2 hKL2
            clear hb
            clear hkb1
            obtain ⟨i, hmq2, hf, hb, hkb1, hi, HA⟩ := hI
            refine wp_seq_k (fun K15 hK15 => ?_)
            refine wp_seq_k (fun K16 hK16 => ?_)
            refine wp_region_lit ?_
            refine sqv hf (r_move rfl) rfl rfl rfl ?_; clear hf fa; intro fa hf
            refine sqv hf (r_fa rfl Try.underlying49 (f := 3) (q := 3) rfl (by kernel_rfl) rfl) rfl rfl rfl ?_; clear hf fa; intro fa hf
            refine sqv hf (r_load (v := (.slice aA st.A.length cA)) rfl Try.underlying42 rfl (cell_blk hkb1 rfl)) rfl rfl rfl ?_; clear hf fa; intro fa hf
            refine sqv hf (r_lensl rfl Try.underlying42) rfl rfl rfl ?_; clear hf fa; intro fa hf
            refine sqv hf (r_lt rfl rfl) rfl rfl rfl ?_; clear hf fa; intro fa hf
            apply wpList_nil
            (try simp only [Exit.then, Exit.inBlock, ↓reduceIte, Nat.reduceEqDiff])
            refine hK16 _ _ ?_
            refine wp_cond_split (t := (decide (((i : Nat) : Int) < ((st.A.length : Nat) : Int)))) (hf.ev rfl) (fun hqt76_1 => ?_) (fun hqt76_1 => ?_)
            · have hqt76_1b := hqt76_1
              try simp only [decide_eq_true_eq, Bool.and_eq_true, Bool.or_eq_true, Bool.not_eq_true', decide_eq_false_iff_not, ne_eq, Bool.not_eq_true] at hqt76_1
              refine wp_skip ?_
              (try simp only [Exit.then, Exit.inBlock, ↓reduceIte, Nat.reduceEqDiff])
              refine hK15 _ _ ?_
              refine wp_seq_k (fun K17 hK17 => ?_)
              refine wp_block ?_
              refine wp_seq_k (fun K18 hK18 => ?_)
              obtain ⟨y, hy⟩ : ∃ x, st.A[i]? = some x := ⟨_, List.getElem?_eq_getElem (by omega)⟩
              have hyr : RngV y := hB.a y (List.mem_of_getElem? hy)
              have hyr1 := hyr.1
              obtain ⟨c6, hc6⟩ : ∃ b, decide (tvalP y.1 ≠ 0) = b := ⟨_, rfl⟩
              have hy2 : (st.A)[i]? = some y := hy
              obtain ⟨ab2, aoff2, rfl, hlb2, hel2⟩ := RdS.at hF.2.2.1 hy2
              have hy3 : (st.A)[i]? = some y := hy
              obtain ⟨_, _, hab, hlb3, hel3⟩ := RdS.at hF.2.2.1 hy3
              cases hab
              have hy4 : (st.A)[i]? = some y := hy
              obtain ⟨_, _, hab, hlb4, hel4⟩ := RdS.at hF.2.2.1 hy4
              cases hab
              refine wp_region_un (fun wq => Below w6.heap.size w6 wq) (fun w w' => Below w.heap.size w w')
                (fun V => [(fun x _ => x = (.pointer (some ⟨b1, 3, none⟩))), (fun x _ => x = (.slice (some ⟨ab2, aoff2, none⟩) st.A.length cA)), (fun x _ => x = (.int .i64 ((i : Nat) : Int))), (fun x _ => x = (.pointer (some ⟨ab2, (aoff2 + i * 2), none⟩))), (fun x _ => x = (.pointer (some ⟨ab2, (aoff2 + i * 2), none⟩))), (fun x _ => x = (.int .u8 y.1)), (fun x _ => x = (.int .i64 y.1)), (fun x _ => x = (.int .i64 ((tvalP y.1)))), (fun x _ => x = (.bool c6)), (fun x _ => x = (.bool c6)), (fun x _ => x = (gb (!c6) (.pointer (some ⟨b1, 3, none⟩)))), (fun x _ => x = (gb (!c6) (.slice (some ⟨ab2, aoff2, none⟩) st.A.length cA))), (fun x _ => x = (gb (!c6) (.int .i64 ((i : Nat) : Int)))), (fun x _ => x = (gb (!c6) (.pointer (some ⟨ab2, (aoff2 + i * 2), none⟩)))), (fun x _ => x = (gb (!c6) (.agg #[(.int .u8 y.1), (.int .u64 y.2.1)]))), (fun x _ => x = (gb (!c6) (.agg #[(.int .u8 ((tcutP y).1)), (.int .u64 ((tcutP y).2.1))]))), (fun x _ => x = (gb (!c6) (.pointer (some ⟨b1, 3, none⟩)))), (fun x _ => x = (gb (!c6) (.slice (some ⟨ab2, aoff2, none⟩) st.A.length cA))), (fun x _ => x = (gb (!c6) (.int .i64 ((i : Nat) : Int)))), (fun x _ => x = (gb (!c6) (.pointer (some ⟨ab2, (aoff2 + i * 2), none⟩)))), (fun x _ => x = (gb (!c6) (.agg #[(.int .u8 y.1), (.int .u64 y.2.1)]))), (fun x _ => x = (gb (!c6) (.bool (!((decide (((tcutP y).1) = y.1)) && (decide (((tcutP y).2.1) = y.2.1))))))), (fun x _ => x = (.bool (c6 || (!((decide (((tcutP y).1) = y.1)) && (decide (((tcutP y).2.1) = y.2.1)))))))])
                []
                [[], [0], [], [1, 2], [3], [4], [5], [6], [7], [7, 8], [9], [9, 10], [9], [9, 11, 12], [9, 13], [9, 14], [9], [9, 16], [9], [9, 17, 18], [9, 19], [9, 15, 20], [9, 21]]
                hf (by kernel_rfl) (by kernel_rfl) (fun _ => rfl) ((Below.refl _ _).drew) (fun a b h1 h2 => h1.trans (h2.mono h1.size)) (fun _ _ h => h.size) (fun V => ⟨kept_eq, kept_eq, kept_eq, kept_eq, kept_eq, kept_eq, kept_eq, kept_eq, kept_eq, kept_eq, kept_eq, kept_eq, kept_eq, kept_eq, kept_eq, kept_eq, kept_eq, kept_eq, kept_eq, kept_eq, kept_eq, kept_eq, kept_eq, trivial⟩) (fun _ _ _ _ _ => rfl) ?_ ?_
              · skip
                intro V
                refine ⟨fun wu0 hC hd => ?_, ?_⟩
                · clear hd
                  replace hb := hb.trans (hC.mono hb.size)
                  replace hkb1 := blk_ext hkb1 hC
                  exact Runs.does (r_fa rfl Try.underlying49 (f := 3) (q := 3) rfl (by kernel_rfl) rfl) ⟨Below.refl _ _, rfl, nofr rfl⟩
                refine ⟨fun wu1 hC hd => ?_, ?_⟩
                · obtain ⟨h0, _⟩ := hd
                  skip
                  replace h0 : V 0 = (.pointer (some ⟨b1, 3, none⟩)) := h0
                  replace hb := hb.trans (hC.mono hb.size)
                  replace hkb1 := blk_ext hkb1 hC
                  exact Runs.does (r_load (v := (.slice (some ⟨ab2, aoff2, none⟩) st.A.length cA)) (congrArg some h0) Try.underlying42 rfl (cell_blk hkb1 rfl)) ⟨Below.refl _ _, rfl, nofr rfl⟩
                refine ⟨fun wu2 hC hd => ?_, ?_⟩
                · clear hd
                  replace hb := hb.trans (hC.mono hb.size)
                  replace hkb1 := blk_ext hkb1 hC
                  exact Runs.does (r_move rfl) ⟨Below.refl _ _, rfl, nofr rfl⟩
                refine ⟨fun wu3 hC hd => ?_, ?_⟩
                · obtain ⟨h1, h2, _⟩ := hd
                  skip
                  skip
                  replace h1 : V 1 = (.slice (some ⟨ab2, aoff2, none⟩) st.A.length cA) := h1
                  replace h2 : V 2 = (.int .i64 ((i : Nat) : Int)) := h2
                  replace hb := hb.trans (hC.mono hb.size)
                  replace hkb1 := blk_ext hkb1 hC
                  exact Runs.does (r_ixa (sz := 2) (j := i) (congrArg some h1) (congrArg some h2) Try.underlying42 (by kernel_rfl) rfl (by omega) rfl) ⟨Below.refl _ _, rfl, nofr rfl⟩
                refine ⟨fun wu4 hC hd => ?_, ?_⟩
                · obtain ⟨h3, _⟩ := hd
                  skip
                  replace h3 : V 3 = (.pointer (some ⟨ab2, (aoff2 + i * 2), none⟩)) := h3
                  replace hb := hb.trans (hC.mono hb.size)
                  replace hkb1 := blk_ext hkb1 hC
                  exact Runs.does (r_fa (congrArg some h3) Try.underlying65 (f := 0) (q := (aoff2 + i * 2)) rfl (by kernel_rfl) rfl) ⟨Below.refl _ _, rfl, nofr rfl⟩
                refine ⟨fun wu5 hC hd => ?_, ?_⟩
                · obtain ⟨h4, _⟩ := hd
                  skip
                  replace h4 : V 4 = (.pointer (some ⟨ab2, (aoff2 + i * 2), none⟩)) := h4
                  replace hb := hb.trans (hC.mono hb.size)
                  replace hkb1 := blk_ext hkb1 hC
                  exact Runs.does (r_load (v := (.int .u8 y.1)) (congrArg some h4) Try.underlying5 rfl (cellsAt_cell (cellsAt_below hel2 hb hlb2) (i := 0) rfl rfl)) ⟨Below.refl _ _, rfl, nofr rfl⟩
                refine ⟨fun wu6 hC hd => ?_, ?_⟩
                · obtain ⟨h5, _⟩ := hd
                  skip
                  replace h5 : V 5 = (.int .u8 y.1) := h5
                  replace hb := hb.trans (hC.mono hb.size)
                  replace hkb1 := blk_ext hkb1 hC
                  exact Runs.does (r_conv (C := y.1) (congrArg some h5) Try.underlying5 Try.underlying3 (by rw [IntKind.wrap_i64]; omega)) ⟨Below.refl _ _, rfl, nofr rfl⟩
                refine ⟨fun wu7 hC hd => ?_, ?_⟩
                · obtain ⟨h6, _⟩ := hd
                  skip
                  replace h6 : V 6 = (.int .i64 y.1) := h6
                  replace hb := hb.trans (hC.mono hb.size)
                  replace hkb1 := blk_ext hkb1 hC
                  refine Does.mono (d_callS (vs := [(.int .i64 y.1)]) (show [some (V 6)] = [some (.int .i64 y.1)] from by rw [h6]) Try.func52 (by kernel_rfl) (by kernel_rfl) (rval2_any y.1 _)) (fun _ _ h => ⟨h.2 ▸ Below.refl _ _, h.1, nofr rfl⟩)
                refine ⟨fun wu8 hC hd => ?_, ?_⟩
                · obtain ⟨h7, _⟩ := hd
                  skip
                  replace h7 : V 7 = (.int .i64 ((tvalP y.1))) := h7
                  replace hb := hb.trans (hC.mono hb.size)
                  replace hkb1 := blk_ext hkb1 hC
                  exact Runs.does (Runs.veq (r_ne (congrArg some h7) rfl) (congrArg Value.bool (show _ = c6 from hc6))) ⟨Below.refl _ _, rfl, nofr rfl⟩
                refine ⟨fun wu9 hC hd => ?_, ?_⟩
                · obtain ⟨h7, h8, _⟩ := hd
                  skip
                  skip
                  replace h7 : V 7 = (.int .i64 ((tvalP y.1))) := h7
                  replace h8 : V 8 = (.bool c6) := h8
                  replace hb := hb.trans (hC.mono hb.size)
                  replace hkb1 := blk_ext hkb1 hC
                  exact Runs.does (r_move (congrArg some h8)) ⟨Below.refl _ _, rfl, nofr rfl⟩
                refine ⟨fun wu10 hC hd => ?_, ?_⟩
                · obtain ⟨h9, _⟩ := hd
                  skip
                  replace h9 : V 9 = (.bool c6) := h9
                  replace hb := hb.trans (hC.mono hb.size)
                  replace hkb1 := blk_ext hkb1 hC
                  refine ⟨true, c6, congrArg some h9, fun hact => ?_, fun hact => ?_⟩
                  · replace hact : (!c6) = true := by simpa using hact
                    refine Runs.does (v := (.pointer (some ⟨b1, 3, none⟩))) (r_fa rfl Try.underlying49 (f := 3) (q := 3) rfl (by kernel_rfl) rfl) ⟨Below.refl _ _, ?_, nofr rfl⟩
                    show _ = gb _ _; rw [hact]; rfl
                  · replace hact : (!c6) = false := by simpa using hact
                    refine ⟨Below.refl _ _, ?_, nofr rfl⟩
                    show _ = gb _ _; rw [hact]; rfl
                refine ⟨fun wu11 hC hd => ?_, ?_⟩
                · obtain ⟨h9, h10, _⟩ := hd
                  skip
                  skip
                  replace h9 : V 9 = (.bool c6) := h9
                  replace h10 : V 10 = (gb (!c6) (.pointer (some ⟨b1, 3, none⟩))) := h10
                  replace hb := hb.trans (hC.mono hb.size)
                  replace hkb1 := blk_ext hkb1 hC
                  refine ⟨true, c6, congrArg some h9, fun hact => ?_, fun hact => ?_⟩
                  · replace hact : (!c6) = true := by simpa using hact
                    refine Runs.does (v := (.slice (some ⟨ab2, aoff2, none⟩) st.A.length cA)) (r_load (v := (.slice (some ⟨ab2, aoff2, none⟩) st.A.length cA)) (gb_ev hact (congrArg some h10)) Try.underlying42 rfl (cell_blk hkb1 rfl)) ⟨Below.refl _ _, ?_, nofr rfl⟩
                    show _ = gb _ _; rw [hact]; rfl
                  · replace hact : (!c6) = false := by simpa using hact
                    refine ⟨Below.refl _ _, ?_, nofr rfl⟩
                    show _ = gb _ _; rw [hact]; rfl
                refine ⟨fun wu12 hC hd => ?_, ?_⟩
                · obtain ⟨h9, _⟩ := hd
                  skip
                  replace h9 : V 9 = (.bool c6) := h9
                  replace hb := hb.trans (hC.mono hb.size)
                  replace hkb1 := blk_ext hkb1 hC
                  refine ⟨true, c6, congrArg some h9, fun hact => ?_, fun hact => ?_⟩
                  · replace hact : (!c6) = true := by simpa using hact
                    refine Runs.does (v := (.int .i64 ((i : Nat) : Int))) (r_move rfl) ⟨Below.refl _ _, ?_, nofr rfl⟩
                    show _ = gb _ _; rw [hact]; rfl
                  · replace hact : (!c6) = false := by simpa using hact
                    refine ⟨Below.refl _ _, ?_, nofr rfl⟩
                    show _ = gb _ _; rw [hact]; rfl
                refine ⟨fun wu13 hC hd => ?_, ?_⟩
                · obtain ⟨h9, h11, h12, _⟩ := hd
                  skip
                  skip
                  skip
                  replace h9 : V 9 = (.bool c6) := h9
                  replace h11 : V 11 = (gb (!c6) (.slice (some ⟨ab2, aoff2, none⟩) st.A.length cA)) := h11
                  replace h12 : V 12 = (gb (!c6) (.int .i64 ((i : Nat) : Int))) := h12
                  replace hb := hb.trans (hC.mono hb.size)
                  replace hkb1 := blk_ext hkb1 hC
                  refine ⟨true, c6, congrArg some h9, fun hact => ?_, fun hact => ?_⟩
                  · replace hact : (!c6) = true := by simpa using hact
                    refine Runs.does (v := (.pointer (some ⟨ab2, (aoff2 + i * 2), none⟩))) (by have hact0 := hact; (try simp only [Bool.and_eq_true, Bool.not_eq_true', Bool.or_eq_false_iff, Bool.or_eq_true, Bool.and_eq_false_iff, ne_eq, decide_eq_true_eq, decide_eq_false_iff_not] at hact0); exact (r_ixa (sz := 2) (j := i) (gb_ev hact (congrArg some h11)) (gb_ev hact (congrArg some h12)) Try.underlying42 (by kernel_rfl) rfl (by omega) rfl)) ⟨Below.refl _ _, ?_, nofr rfl⟩
                    show _ = gb _ _; rw [hact]; rfl
                  · replace hact : (!c6) = false := by simpa using hact
                    refine ⟨Below.refl _ _, ?_, nofr rfl⟩
                    show _ = gb _ _; rw [hact]; rfl
                refine ⟨fun wu14 hC hd => ?_, ?_⟩
                · obtain ⟨h9, h13, _⟩ := hd
                  skip
                  skip
                  replace h9 : V 9 = (.bool c6) := h9
                  replace h13 : V 13 = (gb (!c6) (.pointer (some ⟨ab2, (aoff2 + i * 2), none⟩))) := h13
                  replace hb := hb.trans (hC.mono hb.size)
                  replace hkb1 := blk_ext hkb1 hC
                  refine ⟨true, c6, congrArg some h9, fun hact => ?_, fun hact => ?_⟩
                  · replace hact : (!c6) = true := by simpa using hact
                    refine Runs.does (v := (.agg #[(.int .u8 y.1), (.int .u64 y.2.1)])) (r_loadA (cs := [(.int .u8 y.1), (.int .u64 y.2.1)]) (gb_ev hact (congrArg some h13)) Try.underlying65 rfl (by kernel_rfl) (cellsAt_below hel3 hb hlb3)) ⟨Below.refl _ _, ?_, nofr rfl⟩
                    show _ = gb _ _; rw [hact]; rfl
                  · replace hact : (!c6) = false := by simpa using hact
                    refine ⟨Below.refl _ _, ?_, nofr rfl⟩
                    show _ = gb _ _; rw [hact]; rfl
                refine ⟨fun wu15 hC hd => ?_, ?_⟩
                · obtain ⟨h9, h14, _⟩ := hd
                  skip
                  skip
                  replace h9 : V 9 = (.bool c6) := h9
                  replace h14 : V 14 = (gb (!c6) (.agg #[(.int .u8 y.1), (.int .u64 y.2.1)])) := h14
                  replace hb := hb.trans (hC.mono hb.size)
                  replace hkb1 := blk_ext hkb1 hC
                  refine ⟨true, c6, congrArg some h9, fun hact => ?_, fun hact => ?_⟩
                  · replace hact : (!c6) = true := by simpa using hact
                    refine Does.mono (d_callB (vs := [(.agg #[(.int .u8 y.1), (.int .u64 y.2.1)])]) (cons_ev (gb_ev hact (congrArg some h14)) rfl) Try.func53 (by kernel_rfl) (by kernel_rfl) (rcut2_any y _ (hB.a _ (List.mem_of_getElem? hy3)).1 (hB.a _ (List.mem_of_getElem? hy3)).2)) (fun _ _ h => ⟨h.2, ?_, nofr rfl⟩)
                    show _ = gb _ _; rw [hact]; exact h.1
                  · replace hact : (!c6) = false := by simpa using hact
                    refine ⟨Below.refl _ _, ?_, nofr rfl⟩
                    show _ = gb _ _; rw [hact]; rfl
                refine ⟨fun wu16 hC hd => ?_, ?_⟩
                · obtain ⟨h9, _⟩ := hd
                  skip
                  replace h9 : V 9 = (.bool c6) := h9
                  replace hb := hb.trans (hC.mono hb.size)
                  replace hkb1 := blk_ext hkb1 hC
                  refine ⟨true, c6, congrArg some h9, fun hact => ?_, fun hact => ?_⟩
                  · replace hact : (!c6) = true := by simpa using hact
                    refine Runs.does (v := (.pointer (some ⟨b1, 3, none⟩))) (r_fa rfl Try.underlying49 (f := 3) (q := 3) rfl (by kernel_rfl) rfl) ⟨Below.refl _ _, ?_, nofr rfl⟩
                    show _ = gb _ _; rw [hact]; rfl
                  · replace hact : (!c6) = false := by simpa using hact
                    refine ⟨Below.refl _ _, ?_, nofr rfl⟩
                    show _ = gb _ _; rw [hact]; rfl
                refine ⟨fun wu17 hC hd => ?_, ?_⟩
                · obtain ⟨h9, h16, _⟩ := hd
                  skip
                  skip
                  replace h9 : V 9 = (.bool c6) := h9
                  replace h16 : V 16 = (gb (!c6) (.pointer (some ⟨b1, 3, none⟩))) := h16
                  replace hb := hb.trans (hC.mono hb.size)
                  replace hkb1 := blk_ext hkb1 hC
                  refine ⟨true, c6, congrArg some h9, fun hact => ?_, fun hact => ?_⟩
                  · replace hact : (!c6) = true := by simpa using hact
                    refine Runs.does (v := (.slice (some ⟨ab2, aoff2, none⟩) st.A.length cA)) (r_load (v := (.slice (some ⟨ab2, aoff2, none⟩) st.A.length cA)) (gb_ev hact (congrArg some h16)) Try.underlying42 rfl (cell_blk hkb1 rfl)) ⟨Below.refl _ _, ?_, nofr rfl⟩
                    show _ = gb _ _; rw [hact]; rfl
                  · replace hact : (!c6) = false := by simpa using hact
                    refine ⟨Below.refl _ _, ?_, nofr rfl⟩
                    show _ = gb _ _; rw [hact]; rfl
                refine ⟨fun wu18 hC hd => ?_, ?_⟩
                · obtain ⟨h9, _⟩ := hd
                  skip
                  replace h9 : V 9 = (.bool c6) := h9
                  replace hb := hb.trans (hC.mono hb.size)
                  replace hkb1 := blk_ext hkb1 hC
                  refine ⟨true, c6, congrArg some h9, fun hact => ?_, fun hact => ?_⟩
                  · replace hact : (!c6) = true := by simpa using hact
                    refine Runs.does (v := (.int .i64 ((i : Nat) : Int))) (r_move rfl) ⟨Below.refl _ _, ?_, nofr rfl⟩
                    show _ = gb _ _; rw [hact]; rfl
                  · replace hact : (!c6) = false := by simpa using hact
                    refine ⟨Below.refl _ _, ?_, nofr rfl⟩
                    show _ = gb _ _; rw [hact]; rfl
                refine ⟨fun wu19 hC hd => ?_, ?_⟩
                · obtain ⟨h9, h17, h18, _⟩ := hd
                  skip
                  skip
                  skip
                  replace h9 : V 9 = (.bool c6) := h9
                  replace h17 : V 17 = (gb (!c6) (.slice (some ⟨ab2, aoff2, none⟩) st.A.length cA)) := h17
                  replace h18 : V 18 = (gb (!c6) (.int .i64 ((i : Nat) : Int))) := h18
                  replace hb := hb.trans (hC.mono hb.size)
                  replace hkb1 := blk_ext hkb1 hC
                  refine ⟨true, c6, congrArg some h9, fun hact => ?_, fun hact => ?_⟩
                  · replace hact : (!c6) = true := by simpa using hact
                    refine Runs.does (v := (.pointer (some ⟨ab2, (aoff2 + i * 2), none⟩))) (by have hact0 := hact; (try simp only [Bool.and_eq_true, Bool.not_eq_true', Bool.or_eq_false_iff, Bool.or_eq_true, Bool.and_eq_false_iff, ne_eq, decide_eq_true_eq, decide_eq_false_iff_not] at hact0); exact (r_ixa (sz := 2) (j := i) (gb_ev hact (congrArg some h17)) (gb_ev hact (congrArg some h18)) Try.underlying42 (by kernel_rfl) rfl (by omega) rfl)) ⟨Below.refl _ _, ?_, nofr rfl⟩
                    show _ = gb _ _; rw [hact]; rfl
                  · replace hact : (!c6) = false := by simpa using hact
                    refine ⟨Below.refl _ _, ?_, nofr rfl⟩
                    show _ = gb _ _; rw [hact]; rfl
                refine ⟨fun wu20 hC hd => ?_, ?_⟩
                · obtain ⟨h9, h19, _⟩ := hd
                  skip
                  skip
                  replace h9 : V 9 = (.bool c6) := h9
                  replace h19 : V 19 = (gb (!c6) (.pointer (some ⟨ab2, (aoff2 + i * 2), none⟩))) := h19
                  replace hb := hb.trans (hC.mono hb.size)
                  replace hkb1 := blk_ext hkb1 hC
                  refine ⟨true, c6, congrArg some h9, fun hact => ?_, fun hact => ?_⟩
                  · replace hact : (!c6) = true := by simpa using hact
                    refine Runs.does (v := (.agg #[(.int .u8 y.1), (.int .u64 y.2.1)])) (r_loadA (cs := [(.int .u8 y.1), (.int .u64 y.2.1)]) (gb_ev hact (congrArg some h19)) Try.underlying65 rfl (by kernel_rfl) (cellsAt_below hel4 hb hlb4)) ⟨Below.refl _ _, ?_, nofr rfl⟩
                    show _ = gb _ _; rw [hact]; rfl
                  · replace hact : (!c6) = false := by simpa using hact
                    refine ⟨Below.refl _ _, ?_, nofr rfl⟩
                    show _ = gb _ _; rw [hact]; rfl
                refine ⟨fun wu21 hC hd => ?_, ?_⟩
                · obtain ⟨h9, h15, h20, _⟩ := hd
                  skip
                  skip
                  skip
                  replace h9 : V 9 = (.bool c6) := h9
                  replace h15 : V 15 = (gb (!c6) (.agg #[(.int .u8 ((tcutP y).1)), (.int .u64 ((tcutP y).2.1))])) := h15
                  replace h20 : V 20 = (gb (!c6) (.agg #[(.int .u8 y.1), (.int .u64 y.2.1)])) := h20
                  replace hb := hb.trans (hC.mono hb.size)
                  replace hkb1 := blk_ext hkb1 hC
                  refine ⟨true, c6, congrArg some h9, fun hact => ?_, fun hact => ?_⟩
                  · replace hact : (!c6) = true := by simpa using hact
                    refine Runs.does (v := (.bool (!((decide (((tcutP y).1) = y.1)) && (decide (((tcutP y).2.1) = y.2.1)))))) (r_ane (k := 5) (gb_ev hact (congrArg some h15)) (gb_ev hact (congrArg some h20)) (by kernel_rfl) (eqt_struct (xs := #[(.int .u8 ((tcutP y).1)), (.int .u64 ((tcutP y).2.1))]) (ys := #[(.int .u8 y.1), (.int .u64 y.2.1)]) Try.underlying65 (by kernel_rfl) (eqf_cons (by kernel_rfl) (fun _ => by kernel_rfl) (fun _ => by kernel_rfl) (eqt_int (kk := .u8) (a := ((tcutP y).1)) (b := y.1) Try.underlying5) (eqf_one (by kernel_rfl) (fun _ => by kernel_rfl) (fun _ => by kernel_rfl) (eqt_int (kk := .u64) (a := ((tcutP y).2.1)) (b := y.2.1) Try.underlying63)))) rfl) ⟨Below.refl _ _, ?_, nofr rfl⟩
                    show _ = gb _ _; rw [hact]; rfl
                  · replace hact : (!c6) = false := by simpa using hact
                    refine ⟨Below.refl _ _, ?_, nofr rfl⟩
                    show _ = gb _ _; rw [hact]; rfl
                refine ⟨fun wu22 hC hd => ?_, ?_⟩
                · obtain ⟨h9, h21, _⟩ := hd
                  skip
                  skip
                  replace h9 : V 9 = (.bool c6) := h9
                  replace h21 : V 21 = (gb (!c6) (.bool (!((decide (((tcutP y).1) = y.1)) && (decide (((tcutP y).2.1) = y.2.1)))))) := h21
                  replace hb := hb.trans (hC.mono hb.size)
                  replace hkb1 := blk_ext hkb1 hC
                  exact Runs.does (r_pickO (b := c6) (e := (!((decide (((tcutP y).1) = y.1)) && (decide (((tcutP y).2.1) = y.2.1))))) (congrArg some h9) rfl (congrArg some h21)) ⟨Below.refl _ _, rfl, nofr rfl⟩
                trivial
              · skip
                clear hf fa; intro V w7 fa he5 hp hnb hf
                have hv0 : V 0 = (.pointer (some ⟨b1, 3, none⟩)) := postsHold_at hp 0 rfl
                have hv1 : V 1 = (.slice (some ⟨ab2, aoff2, none⟩) st.A.length cA) := postsHold_at hp 1 rfl
                have hv2 : V 2 = (.int .i64 ((i : Nat) : Int)) := postsHold_at hp 2 rfl
                have hv3 : V 3 = (.pointer (some ⟨ab2, (aoff2 + i * 2), none⟩)) := postsHold_at hp 3 rfl
                have hv4 : V 4 = (.pointer (some ⟨ab2, (aoff2 + i * 2), none⟩)) := postsHold_at hp 4 rfl
                have hv5 : V 5 = (.int .u8 y.1) := postsHold_at hp 5 rfl
                have hv6 : V 6 = (.int .i64 y.1) := postsHold_at hp 6 rfl
                have hv7 : V 7 = (.int .i64 ((tvalP y.1))) := postsHold_at hp 7 rfl
                have hv8 : V 8 = (.bool c6) := postsHold_at hp 8 rfl
                have hv9 : V 9 = (.bool c6) := postsHold_at hp 9 rfl
                have hv10 : V 10 = (gb (!c6) (.pointer (some ⟨b1, 3, none⟩))) := postsHold_at hp 10 rfl
                have hv11 : V 11 = (gb (!c6) (.slice (some ⟨ab2, aoff2, none⟩) st.A.length cA)) := postsHold_at hp 11 rfl
                have hv12 : V 12 = (gb (!c6) (.int .i64 ((i : Nat) : Int))) := postsHold_at hp 12 rfl
                have hv13 : V 13 = (gb (!c6) (.pointer (some ⟨ab2, (aoff2 + i * 2), none⟩))) := postsHold_at hp 13 rfl
                have hv14 : V 14 = (gb (!c6) (.agg #[(.int .u8 y.1), (.int .u64 y.2.1)])) := postsHold_at hp 14 rfl
                have hv15 : V 15 = (gb (!c6) (.agg #[(.int .u8 ((tcutP y).1)), (.int .u64 ((tcutP y).2.1))])) := postsHold_at hp 15 rfl
                have hv16 : V 16 = (gb (!c6) (.pointer (some ⟨b1, 3, none⟩))) := postsHold_at hp 16 rfl
                have hv17 : V 17 = (gb (!c6) (.slice (some ⟨ab2, aoff2, none⟩) st.A.length cA)) := postsHold_at hp 17 rfl
                have hv18 : V 18 = (gb (!c6) (.int .i64 ((i : Nat) : Int))) := postsHold_at hp 18 rfl
                have hv19 : V 19 = (gb (!c6) (.pointer (some ⟨ab2, (aoff2 + i * 2), none⟩))) := postsHold_at hp 19 rfl
                have hv20 : V 20 = (gb (!c6) (.agg #[(.int .u8 y.1), (.int .u64 y.2.1)])) := postsHold_at hp 20 rfl
                have hv21 : V 21 = (gb (!c6) (.bool (!((decide (((tcutP y).1) = y.1)) && (decide (((tcutP y).2.1) = y.2.1)))))) := postsHold_at hp 21 rfl
                have hv22 : V 22 = (.bool (c6 || (!((decide (((tcutP y).1) = y.1)) && (decide (((tcutP y).2.1) = y.2.1)))))) := postsHold_at hp 22 rfl
                simp only [List.take_succ_cons, List.take_zero, insAll, ins, hv0, hv1, hv2, hv3, hv4, hv5, hv6, hv7, hv8, hv9, hv10, hv11, hv12, hv13, hv14, hv15, hv16, hv17, hv18, hv19, hv20, hv21, hv22] at hf
                clear hp hnb hv0 hv1 hv2 hv3 hv4 hv5 hv6 hv7 hv8 hv9 hv10 hv11 hv12 hv13 hv14 hv15 hv16 hv17 hv18 hv19 hv20 hv21 hv22
                replace hkb1 := blk_ext hkb1 he5
                replace hb := hb.trans (Below.mono he5 hb.size)
                (try simp only [Exit.then, Exit.inBlock, ↓reduceIte, Nat.reduceEqDiff])
                refine hK18 _ _ ?_
                refine wp_cond_split (t := (c6 || (!((decide (((tcutP y).1) = y.1)) && (decide (((tcutP y).2.1) = y.2.1)))))) (hf.ev rfl) (fun hqt101_1 => ?_) (fun hqt101_1 => ?_)
                · have hqt101_1b := hqt101_1
                  try simp only [decide_eq_true_eq, Bool.and_eq_true, Bool.or_eq_true, Bool.not_eq_true', decide_eq_false_iff_not, ne_eq, Bool.not_eq_true] at hqt101_1
                  refine wp_seq_k (fun K19 hK19 => ?_)
                  refine wp_region_lit ?_
                  refine sqv hf (r_assign rfl) rfl rfl rfl ?_; clear hf fa; intro fa hf
                  apply wpList_nil
                  (try simp only [Exit.then, Exit.inBlock, ↓reduceIte, Nat.reduceEqDiff])
                  refine hK19 _ _ ?_
                  refine wp_ret ?_
                  (try simp only [Exit.then, Exit.inBlock])
                  refine ret1 hf rfl rfl ?_
                  refine ⟨?_, hb⟩; rw [right_badA hy4 (by rw [vright_def]; have h := hqt101_1b; rw [← hc6] at h; exact nv_bool h)]
                · have hqt101_1b := hqt101_1
                  replace hqt101_1 := Bool.eq_false_iff.1 hqt101_1
                  try simp only [ne_eq, decide_eq_true_eq, Bool.and_eq_true, Bool.or_eq_true, Bool.not_eq_true', decide_eq_false_iff_not] at hqt101_1
                  refine wp_skip ?_
                  (try simp only [Exit.then, Exit.inBlock, ↓reduceIte, Nat.reduceEqDiff])
                  refine hK17 _ _ ?_
                  refine wp_region_lit ?_
                  refine sqv hf (r_move rfl) rfl rfl rfl ?_; clear hf fa; intro fa hf
                  refine sqv hf (r_add (C := (((i : Nat) : Int) + (1 : Int))) rfl rfl (by rw [IntKind.wrap_i64]; omega)) rfl rfl rfl ?_; clear hf fa; intro fa hf
                  refine sqv hf (r_assign rfl) rfl rfl rfl ?_; clear hf fa; intro fa hf
                  apply wpList_nil
                  (try simp only [Exit.then, Exit.inBlock, ↓reduceIte, Nat.reduceEqDiff])
                  refine hKL2 _ _ _ (by omega) ⟨(i + 1), rfl, hf.sub ⟨rfl, (some_int (by first | rfl | omega)), trivial⟩, hb, hkb1, by omega, (all_snoc HA hy4 (by rw [vright_def]; have h := hqt101_1b; rw [← hc6] at h; exact nv_bool h))⟩
            · have hqt76_1b := hqt76_1
              replace hqt76_1 := Bool.eq_false_iff.1 hqt76_1
              try simp only [ne_eq, decide_eq_true_eq, Bool.and_eq_true, Bool.or_eq_true, Bool.not_eq_true', decide_eq_false_iff_not] at hqt76_1
              refine wp_exit ?_
              (try simp only [Exit.then, Exit.inBlock, ↓reduceIte, Nat.reduceEqDiff])
              refine hK13 _ _ ?_
              refine wp_seq_k (fun K20 hK20 => ?_)
              refine wp_region_lit ?_
              refine sqv hf (r_assign rfl) rfl rfl rfl ?_; clear hf fa; intro fa hf
              apply wpList_nil
              (try simp only [Exit.then, Exit.inBlock, ↓reduceIte, Nat.reduceEqDiff])
              refine hK20 _ _ ?_
              refine wp_ret ?_
              (try simp only [Exit.then, Exit.inBlock])
              refine ret1 hf rfl rfl ?_
              refine ⟨?_, hb⟩; rw [right_yes hH (all_end HS (by omega)) (all_end HA (by omega))]
end Go.Proofs.Ytpalmpfkliepfaa
