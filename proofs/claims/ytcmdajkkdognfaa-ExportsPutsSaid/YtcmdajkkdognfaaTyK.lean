/- What is proved here: the example of chapter 04. -/
import Derived.Test.YtcmdajkkdognfaaTyB
namespace Go.Proofs.Ytcmdajkkdognfaa
open Go.RowKit
set_option linter.unusedVariables false
set_option linter.unusedSimpArgs false
def tEx : MFt := (⟨#[127, 126]⟩, ⟨#[127]⟩, ())
theorem encF_len (t : MFt) (h1 : t.1.size ≤ 1100) (h2 : t.2.1.size ≤ 300) : 0 < (encF t).length ∧ (encF t).length ≤ 1500 := by
  have a := uL_len t.1.size (by omega)
  have b := uL_len t.2.1.size (by omega)
  unfold encF
  simp only [List.length_append, List.length_cons, List.length_nil, nums_len]
  omega

set_option maxHeartbeats 1000000 in
set_option maxRecDepth 100000 in
theorem awake04_any (w : World) : Calls Try.prog 26 #[] w fun e w' => e = .returned (.bool true) ∧ Below w.heap.size w w' := by
  refine sx_enter (L := []) Try.func26 rfl rfl rfl rfl (fun fa hf => ?_)
  have hb : Below w.heap.size w w := Below.refl _ _
  refine wp_seq_k (fun K1 hK1 => ?_)
  refine wp_region_lit ?_
  refine sqv hf (r_assign rfl) rfl rfl rfl ?_; clear hf fa; intro fa hf
  apply wpList_nil
  (try simp only [Exit.then, Exit.inBlock, ↓reduceIte, Nat.reduceEqDiff])
  refine hK1 _ _ ?_
  refine wp_seq_k (fun K2 hK2 => ?_)
  refine wp_region_lit ?_
  refine sqv hf (r_build (vs := [(0, (.string ⟨#[127, 126]⟩)), (1, (.string ⟨#[127]⟩))]) (cs := #[(.string ⟨#[127, 126]⟩), (.string ⟨#[127]⟩)]) rfl (fun _ => by kernel_rfl)) rfl rfl rfl ?_; clear hf fa; intro fa hf
  refine sqdt hf (d_callB (vs := [(.agg #[(.string ⟨#[127, 126]⟩), (.string ⟨#[127]⟩)])]) rfl Try.func49 (by kernel_rfl) (by kernel_rfl) (text_any tEx _ (by decide) (by decide))) rfl rfl rfl ?_; clear hf fa; rintro fa _ w1 ⟨rfl, he1⟩ hf
  replace hb := hb.trans (Below.mono he1 hb.size)
  refine sqv hf (r_seq rfl rfl) rfl rfl rfl ?_; clear hf fa; intro fa hf
  refine sqv hf (r_assign rfl) rfl rfl rfl ?_; clear hf fa; intro fa hf
  apply wpList_nil
  (try simp only [Exit.then, Exit.inBlock, ↓reduceIte, Nat.reduceEqDiff])
  refine hK2 _ _ ?_
  refine wp_ret ?_
  (try simp only [Exit.then, Exit.inBlock])
  refine ret1 hf rfl rfl ?_
  exact ⟨congrArg (fun b => Ending.returned (.bool b)) (by decide +kernel), hb⟩
end Go.Proofs.Ytcmdajkkdognfaa
