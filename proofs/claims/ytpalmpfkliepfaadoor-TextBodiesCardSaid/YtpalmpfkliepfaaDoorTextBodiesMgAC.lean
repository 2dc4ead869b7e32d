/- What is proved here: the instructions, by the program. -/
import Derived.Test.YtpalmpfkliepfaaDoorTextBodiesMgAB
namespace Go.Proofs.YtpalmpfkliepfaaDoor
open Go.RowKit Ut
set_option linter.unusedVariables false
set_option linter.unusedSimpArgs false
abbrev MInf := (ByteArray × Int × ByteArray × ByteArray × Bool × Unit)
def zMInf : MInf := ((⟨#[]⟩ : ByteArray), (0 : Int), (⟨#[]⟩ : ByteArray), (⟨#[]⟩ : ByteArray), false, ())
def vMInf : MInf → List Value := (fun d => vStr d.1 ++ (fun d => (vInt .i64) d.1 ++ (fun d => vStr d.1 ++ (fun d => vStr d.1 ++ (fun d => vBool d.1 ++ (fun _ => []) d.2) d.2) d.2) d.2) d.2)
def ctlL : List MInf := [(⟨#[117, 110, 114, 101, 97, 99, 104, 97, 98, 108, 101]⟩, (0 : Int), ⟨#[]⟩, ⟨#[]⟩, true, ()), (⟨#[110, 111, 112]⟩, (0 : Int), ⟨#[]⟩, ⟨#[]⟩, false, ()), (⟨#[98, 108, 111, 99, 107]⟩, (1 : Int), ⟨#[]⟩, ⟨#[]⟩, true, ()), (⟨#[108, 111, 111, 112]⟩, (1 : Int), ⟨#[]⟩, ⟨#[]⟩, true, ()), (⟨#[105, 102]⟩, (1 : Int), ⟨#[]⟩, ⟨#[]⟩, true, ()), (⟨#[101, 108, 115, 101]⟩, (0 : Int), ⟨#[]⟩, ⟨#[]⟩, true, ()), (⟨#[]⟩, (0 : Int), ⟨#[]⟩, ⟨#[]⟩, false, ()), (⟨#[]⟩, (0 : Int), ⟨#[]⟩, ⟨#[]⟩, false, ()), (⟨#[]⟩, (0 : Int), ⟨#[]⟩, ⟨#[]⟩, false, ()), (⟨#[]⟩, (0 : Int), ⟨#[]⟩, ⟨#[]⟩, false, ()), (⟨#[]⟩, (0 : Int), ⟨#[]⟩, ⟨#[]⟩, false, ()), (⟨#[101, 110, 100]⟩, (0 : Int), ⟨#[]⟩, ⟨#[]⟩, true, ()), (⟨#[98, 114]⟩, (2 : Int), ⟨#[]⟩, ⟨#[]⟩, true, ()), (⟨#[98, 114, 95, 105, 102]⟩, (2 : Int), ⟨#[]⟩, ⟨#[]⟩, true, ()), (⟨#[98, 114, 95, 116, 97, 98, 108, 101]⟩, (3 : Int), ⟨#[]⟩, ⟨#[]⟩, true, ()), (⟨#[114, 101, 116, 117, 114, 110]⟩, (0 : Int), ⟨#[]⟩, ⟨#[]⟩, true, ()), (⟨#[99, 97, 108, 108]⟩, (4 : Int), ⟨#[]⟩, ⟨#[]⟩, true, ()), (⟨#[99, 97, 108, 108, 95, 105, 110, 100, 105, 114, 101, 99, 116]⟩, (5 : Int), ⟨#[]⟩, ⟨#[]⟩, true, ()), (⟨#[]⟩, (0 : Int), ⟨#[]⟩, ⟨#[]⟩, false, ()), (⟨#[]⟩, (0 : Int), ⟨#[]⟩, ⟨#[]⟩, false, ()), (⟨#[]⟩, (0 : Int), ⟨#[]⟩, ⟨#[]⟩, false, ()), (⟨#[]⟩, (0 : Int), ⟨#[]⟩, ⟨#[]⟩, false, ()), (⟨#[]⟩, (0 : Int), ⟨#[]⟩, ⟨#[]⟩, false, ()), (⟨#[]⟩, (0 : Int), ⟨#[]⟩, ⟨#[]⟩, false, ()), (⟨#[]⟩, (0 : Int), ⟨#[]⟩, ⟨#[]⟩, false, ()), (⟨#[]⟩, (0 : Int), ⟨#[]⟩, ⟨#[]⟩, false, ()), (⟨#[100, 114, 111, 112]⟩, (0 : Int), ⟨#[]⟩, ⟨#[]⟩, true, ()), (⟨#[115, 101, 108, 101, 99, 116]⟩, (0 : Int), ⟨#[]⟩, ⟨#[]⟩, true, ()), (⟨#[]⟩, (0 : Int), ⟨#[]⟩, ⟨#[]⟩, false, ()), (⟨#[]⟩, (0 : Int), ⟨#[]⟩, ⟨#[]⟩, false, ()), (⟨#[]⟩, (0 : Int), ⟨#[]⟩, ⟨#[]⟩, false, ()), (⟨#[]⟩, (0 : Int), ⟨#[]⟩, ⟨#[]⟩, false, ()), (⟨#[108, 111, 99, 97, 108, 46, 103, 101, 116]⟩, (6 : Int), ⟨#[]⟩, ⟨#[]⟩, true, ()), (⟨#[108, 111, 99, 97, 108, 46, 115, 101, 116]⟩, (6 : Int), ⟨#[]⟩, ⟨#[]⟩, true, ()), (⟨#[108, 111, 99, 97, 108, 46, 116, 101, 101]⟩, (6 : Int), ⟨#[]⟩, ⟨#[]⟩, true, ()), (⟨#[103, 108, 111, 98, 97, 108, 46, 103, 101, 116]⟩, (7 : Int), ⟨#[]⟩, ⟨#[]⟩, true, ()), (⟨#[103, 108, 111, 98, 97, 108, 46, 115, 101, 116]⟩, (7 : Int), ⟨#[]⟩, ⟨#[]⟩, true, ())]
def ctlO (op : Nat) : MInf := ctlL.getD op zMInf
theorem ctlO_at {op : Nat} (h : op < 37) : ctlL[op]? = some (ctlO op) := by
  unfold ctlO
  exact getD_at (l := ctlL) (j := op) _ h

def ctlP (op : Nat) : MInf :=
  bif (decide (((op : Nat) : Int) < (37 : Int))) then (ctlO op)
  else (⟨#[]⟩, (0 : Int), ⟨#[]⟩, ⟨#[]⟩, false, ())

set_option maxHeartbeats 1000000 in
set_option maxRecDepth 100000 in
theorem ctl_any (op : Nat) (w : World) (hop : op < 256) : Calls Tryd.prog 45 #[(.int .u8 ((op : Nat) : Int))] w fun e w' => e = .returned (.agg #[(.string (ctlP op).1), (.int .i64 ((ctlP op).2.1)), (.string (ctlP op).2.2.1), (.string (ctlP op).2.2.2.1), (.bool (ctlP op).2.2.2.2.1)]) ∧ Below w.heap.size w w' := by
  refine sx_enter (L := [(0, (.int .u8 ((op : Nat) : Int)))]) Tryd.func45 rfl rfl rfl rfl (fun fa hf => ?_)
  have hb : Below w.heap.size w w := Below.refl _ _
  refine wp_seq_k (fun K1 hK1 => ?_)
  refine wp_region_lit ?_
  refine sqdt hf (d_alloc (z := (.agg #[(.string ⟨#[]⟩), (.int .i64 (0 : Int)), (.string ⟨#[]⟩), (.string ⟨#[]⟩), (.bool false)])) (cs := #[(.string ⟨#[]⟩), (.int .i64 (0 : Int)), (.string ⟨#[]⟩), (.string ⟨#[]⟩), (.bool false)]) (by kernel_rfl) rfl) rfl rfl rfl ?_; clear hf fa; rintro fa _ w1 ⟨b1, rfl, hle1, hk1, he1⟩ hf
  have hBb1 : w.heap.size ≤ b1 := Nat.le_trans hb.size hle1
  replace hb := hb.trans (Below.mono he1 hb.size)
  apply wpList_nil
  (try simp only [Exit.then, Exit.inBlock, ↓reduceIte, Nat.reduceEqDiff])
  refine hK1 _ _ ?_
  refine wp_seq_k (fun K2 hK2 => ?_)
  refine wp_region_lit ?_
  refine sqv hf (r_build (vs := [(0, (.string ⟨#[117, 110, 114, 101, 97, 99, 104, 97, 98, 108, 101]⟩)), (4, (.bool true))]) (cs := #[(.string ⟨#[117, 110, 114, 101, 97, 99, 104, 97, 98, 108, 101]⟩), (.int .i64 (0 : Int)), (.string ⟨#[]⟩), (.string ⟨#[]⟩), (.bool true)]) rfl (fun _ => by kernel_rfl)) rfl rfl rfl ?_; clear hf fa; intro fa hf
  refine sqv hf (r_build (vs := [(0, (.string ⟨#[110, 111, 112]⟩))]) (cs := #[(.string ⟨#[110, 111, 112]⟩), (.int .i64 (0 : Int)), (.string ⟨#[]⟩), (.string ⟨#[]⟩), (.bool false)]) rfl (fun _ => by kernel_rfl)) rfl rfl rfl ?_; clear hf fa; intro fa hf
  refine sqv hf (r_build (vs := [(0, (.string ⟨#[98, 108, 111, 99, 107]⟩)), (1, (.int .i64 (1 : Int))), (4, (.bool true))]) (cs := #[(.string ⟨#[98, 108, 111, 99, 107]⟩), (.int .i64 (1 : Int)), (.string ⟨#[]⟩), (.string ⟨#[]⟩), (.bool true)]) rfl (fun _ => by kernel_rfl)) rfl rfl rfl ?_; clear hf fa; intro fa hf
  refine sqv hf (r_build (vs := [(0, (.string ⟨#[108, 111, 111, 112]⟩)), (1, (.int .i64 (1 : Int))), (4, (.bool true))]) (cs := #[(.string ⟨#[108, 111, 111, 112]⟩), (.int .i64 (1 : Int)), (.string ⟨#[]⟩), (.string ⟨#[]⟩), (.bool true)]) rfl (fun _ => by kernel_rfl)) rfl rfl rfl ?_; clear hf fa; intro fa hf
  refine sqv hf (r_build (vs := [(0, (.string ⟨#[105, 102]⟩)), (1, (.int .i64 (1 : Int))), (4, (.bool true))]) (cs := #[(.string ⟨#[105, 102]⟩), (.int .i64 (1 : Int)), (.string ⟨#[]⟩), (.string ⟨#[]⟩), (.bool true)]) rfl (fun _ => by kernel_rfl)) rfl rfl rfl ?_; clear hf fa; intro fa hf
  refine sqv hf (r_build (vs := [(0, (.string ⟨#[101, 108, 115, 101]⟩)), (4, (.bool true))]) (cs := #[(.string ⟨#[101, 108, 115, 101]⟩), (.int .i64 (0 : Int)), (.string ⟨#[]⟩), (.string ⟨#[]⟩), (.bool true)]) rfl (fun _ => by kernel_rfl)) rfl rfl rfl ?_; clear hf fa; intro fa hf
  refine sqv hf (r_build (vs := [(0, (.string ⟨#[101, 110, 100]⟩)), (4, (.bool true))]) (cs := #[(.string ⟨#[101, 110, 100]⟩), (.int .i64 (0 : Int)), (.string ⟨#[]⟩), (.string ⟨#[]⟩), (.bool true)]) rfl (fun _ => by kernel_rfl)) rfl rfl rfl ?_; clear hf fa; intro fa hf
  refine sqv hf (r_build (vs := [(0, (.string ⟨#[98, 114]⟩)), (1, (.int .i64 (2 : Int))), (4, (.bool true))]) (cs := #[(.string ⟨#[98, 114]⟩), (.int .i64 (2 : Int)), (.string ⟨#[]⟩), (.string ⟨#[]⟩), (.bool true)]) rfl (fun _ => by kernel_rfl)) rfl rfl rfl ?_; clear hf fa; intro fa hf
  refine sqv hf (r_build (vs := [(0, (.string ⟨#[98, 114, 95, 105, 102]⟩)), (1, (.int .i64 (2 : Int))), (4, (.bool true))]) (cs := #[(.string ⟨#[98, 114, 95, 105, 102]⟩), (.int .i64 (2 : Int)), (.string ⟨#[]⟩), (.string ⟨#[]⟩), (.bool true)]) rfl (fun _ => by kernel_rfl)) rfl rfl rfl ?_; clear hf fa; intro fa hf
  refine sqv hf (r_build (vs := [(0, (.string ⟨#[98, 114, 95, 116, 97, 98, 108, 101]⟩)), (1, (.int .i64 (3 : Int))), (4, (.bool true))]) (cs := #[(.string ⟨#[98, 114, 95, 116, 97, 98, 108, 101]⟩), (.int .i64 (3 : Int)), (.string ⟨#[]⟩), (.string ⟨#[]⟩), (.bool true)]) rfl (fun _ => by kernel_rfl)) rfl rfl rfl ?_; clear hf fa; intro fa hf
  refine sqv hf (r_build (vs := [(0, (.string ⟨#[114, 101, 116, 117, 114, 110]⟩)), (4, (.bool true))]) (cs := #[(.string ⟨#[114, 101, 116, 117, 114, 110]⟩), (.int .i64 (0 : Int)), (.string ⟨#[]⟩), (.string ⟨#[]⟩), (.bool true)]) rfl (fun _ => by kernel_rfl)) rfl rfl rfl ?_; clear hf fa; intro fa hf
  refine sqv hf (r_build (vs := [(0, (.string ⟨#[99, 97, 108, 108]⟩)), (1, (.int .i64 (4 : Int))), (4, (.bool true))]) (cs := #[(.string ⟨#[99, 97, 108, 108]⟩), (.int .i64 (4 : Int)), (.string ⟨#[]⟩), (.string ⟨#[]⟩), (.bool true)]) rfl (fun _ => by kernel_rfl)) rfl rfl rfl ?_; clear hf fa; intro fa hf
  refine sqv hf (r_build (vs := [(0, (.string ⟨#[99, 97, 108, 108, 95, 105, 110, 100, 105, 114, 101, 99, 116]⟩)), (1, (.int .i64 (5 : Int))), (4, (.bool true))]) (cs := #[(.string ⟨#[99, 97, 108, 108, 95, 105, 110, 100, 105, 114, 101, 99, 116]⟩), (.int .i64 (5 : Int)), (.string ⟨#[]⟩), (.string ⟨#[]⟩), (.bool true)]) rfl (fun _ => by kernel_rfl)) rfl rfl rfl ?_; clear hf fa; intro fa hf
  refine sqv hf (r_build (vs := [(0, (.string ⟨#[100, 114, 111, 112]⟩)), (4, (.bool true))]) (cs := #[(.string ⟨#[100, 114, 111, 112]⟩), (.int .i64 (0 : Int)), (.string ⟨#[]⟩), (.string ⟨#[]⟩), (.bool true)]) rfl (fun _ => by kernel_rfl)) rfl rfl rfl ?_; clear hf fa; intro fa hf
  refine sqv hf (r_build (vs := [(0, (.string ⟨#[115, 101, 108, 101, 99, 116]⟩)), (4, (.bool true))]) (cs := #[(.string ⟨#[115, 101, 108, 101, 99, 116]⟩), (.int .i64 (0 : Int)), (.string ⟨#[]⟩), (.string ⟨#[]⟩), (.bool true)]) rfl (fun _ => by kernel_rfl)) rfl rfl rfl ?_; clear hf fa; intro fa hf
  refine sqv hf (r_build (vs := [(0, (.string ⟨#[108, 111, 99, 97, 108, 46, 103, 101, 116]⟩)), (1, (.int .i64 (6 : Int))), (4, (.bool true))]) (cs := #[(.string ⟨#[108, 111, 99, 97, 108, 46, 103, 101, 116]⟩), (.int .i64 (6 : Int)), (.string ⟨#[]⟩), (.string ⟨#[]⟩), (.bool true)]) rfl (fun _ => by kernel_rfl)) rfl rfl rfl ?_; clear hf fa; intro fa hf
  refine sqv hf (r_build (vs := [(0, (.string ⟨#[108, 111, 99, 97, 108, 46, 115, 101, 116]⟩)), (1, (.int .i64 (6 : Int))), (4, (.bool true))]) (cs := #[(.string ⟨#[108, 111, 99, 97, 108, 46, 115, 101, 116]⟩), (.int .i64 (6 : Int)), (.string ⟨#[]⟩), (.string ⟨#[]⟩), (.bool true)]) rfl (fun _ => by kernel_rfl)) rfl rfl rfl ?_; clear hf fa; intro fa hf
  refine sqv hf (r_build (vs := [(0, (.string ⟨#[108, 111, 99, 97, 108, 46, 116, 101, 101]⟩)), (1, (.int .i64 (6 : Int))), (4, (.bool true))]) (cs := #[(.string ⟨#[108, 111, 99, 97, 108, 46, 116, 101, 101]⟩), (.int .i64 (6 : Int)), (.string ⟨#[]⟩), (.string ⟨#[]⟩), (.bool true)]) rfl (fun _ => by kernel_rfl)) rfl rfl rfl ?_; clear hf fa; intro fa hf
  refine sqv hf (r_build (vs := [(0, (.string ⟨#[103, 108, 111, 98, 97, 108, 46, 103, 101, 116]⟩)), (1, (.int .i64 (7 : Int))), (4, (.bool true))]) (cs := #[(.string ⟨#[103, 108, 111, 98, 97, 108, 46, 103, 101, 116]⟩), (.int .i64 (7 : Int)), (.string ⟨#[]⟩), (.string ⟨#[]⟩), (.bool true)]) rfl (fun _ => by kernel_rfl)) rfl rfl rfl ?_; clear hf fa; intro fa hf
  refine sqv hf (r_build (vs := [(0, (.string ⟨#[103, 108, 111, 98, 97, 108, 46, 115, 101, 116]⟩)), (1, (.int .i64 (7 : Int))), (4, (.bool true))]) (cs := #[(.string ⟨#[103, 108, 111, 98, 97, 108, 46, 115, 101, 116]⟩), (.int .i64 (7 : Int)), (.string ⟨#[]⟩), (.string ⟨#[]⟩), (.bool true)]) rfl (fun _ => by kernel_rfl)) rfl rfl rfl ?_; clear hf fa; intro fa hf
  refine sqv hf (r_build (vs := [(0, (.agg #[(.string ⟨#[117, 110, 114, 101, 97, 99, 104, 97, 98, 108, 101]⟩), (.int .i64 (0 : Int)), (.string ⟨#[]⟩), (.string ⟨#[]⟩), (.bool true)])), (1, (.agg #[(.string ⟨#[110, 111, 112]⟩), (.int .i64 (0 : Int)), (.string ⟨#[]⟩), (.string ⟨#[]⟩), (.bool false)])), (2, (.agg #[(.string ⟨#[98, 108, 111, 99, 107]⟩), (.int .i64 (1 : Int)), (.string ⟨#[]⟩), (.string ⟨#[]⟩), (.bool true)])), (3, (.agg #[(.string ⟨#[108, 111, 111, 112]⟩), (.int .i64 (1 : Int)), (.string ⟨#[]⟩), (.string ⟨#[]⟩), (.bool true)])), (4, (.agg #[(.string ⟨#[105, 102]⟩), (.int .i64 (1 : Int)), (.string ⟨#[]⟩), (.string ⟨#[]⟩), (.bool true)])), (5, (.agg #[(.string ⟨#[101, 108, 115, 101]⟩), (.int .i64 (0 : Int)), (.string ⟨#[]⟩), (.string ⟨#[]⟩), (.bool true)])), (11, (.agg #[(.string ⟨#[101, 110, 100]⟩), (.int .i64 (0 : Int)), (.string ⟨#[]⟩), (.string ⟨#[]⟩), (.bool true)])), (12, (.agg #[(.string ⟨#[98, 114]⟩), (.int .i64 (2 : Int)), (.string ⟨#[]⟩), (.string ⟨#[]⟩), (.bool true)])), (13, (.agg #[(.string ⟨#[98, 114, 95, 105, 102]⟩), (.int .i64 (2 : Int)), (.string ⟨#[]⟩), (.string ⟨#[]⟩), (.bool true)])), (14, (.agg #[(.string ⟨#[98, 114, 95, 116, 97, 98, 108, 101]⟩), (.int .i64 (3 : Int)), (.string ⟨#[]⟩), (.string ⟨#[]⟩), (.bool true)])), (15, (.agg #[(.string ⟨#[114, 101, 116, 117, 114, 110]⟩), (.int .i64 (0 : Int)), (.string ⟨#[]⟩), (.string ⟨#[]⟩), (.bool true)])), (16, (.agg #[(.string ⟨#[99, 97, 108, 108]⟩), (.int .i64 (4 : Int)), (.string ⟨#[]⟩), (.string ⟨#[]⟩), (.bool true)])), (17, (.agg #[(.string ⟨#[99, 97, 108, 108, 95, 105, 110, 100, 105, 114, 101, 99, 116]⟩), (.int .i64 (5 : Int)), (.string ⟨#[]⟩), (.string ⟨#[]⟩), (.bool true)])), (26, (.agg #[(.string ⟨#[100, 114, 111, 112]⟩), (.int .i64 (0 : Int)), (.string ⟨#[]⟩), (.string ⟨#[]⟩), (.bool true)])), (27, (.agg #[(.string ⟨#[115, 101, 108, 101, 99, 116]⟩), (.int .i64 (0 : Int)), (.string ⟨#[]⟩), (.string ⟨#[]⟩), (.bool true)])), (32, (.agg #[(.string ⟨#[108, 111, 99, 97, 108, 46, 103, 101, 116]⟩), (.int .i64 (6 : Int)), (.string ⟨#[]⟩), (.string ⟨#[]⟩), (.bool true)])), (33, (.agg #[(.string ⟨#[108, 111, 99, 97, 108, 46, 115, 101, 116]⟩), (.int .i64 (6 : Int)), (.string ⟨#[]⟩), (.string ⟨#[]⟩), (.bool true)])), (34, (.agg #[(.string ⟨#[108, 111, 99, 97, 108, 46, 116, 101, 101]⟩), (.int .i64 (6 : Int)), (.string ⟨#[]⟩), (.string ⟨#[]⟩), (.bool true)])), (35, (.agg #[(.string ⟨#[103, 108, 111, 98, 97, 108, 46, 103, 101, 116]⟩), (.int .i64 (7 : Int)), (.string ⟨#[]⟩), (.string ⟨#[]⟩), (.bool true)])), (36, (.agg #[(.string ⟨#[103, 108, 111, 98, 97, 108, 46, 115, 101, 116]⟩), (.int .i64 (7 : Int)), (.string ⟨#[]⟩), (.string ⟨#[]⟩), (.bool true)]))]) (cs := #[(.string ⟨#[117, 110, 114, 101, 97, 99, 104, 97, 98, 108, 101]⟩), (.int .i64 (0 : Int)), (.string ⟨#[]⟩), (.string ⟨#[]⟩), (.bool true), (.string ⟨#[110, 111, 112]⟩), (.int .i64 (0 : Int)), (.string ⟨#[]⟩), (.string ⟨#[]⟩), (.bool false), (.string ⟨#[98, 108, 111, 99, 107]⟩), (.int .i64 (1 : Int)), (.string ⟨#[]⟩), (.string ⟨#[]⟩), (.bool true), (.string ⟨#[108, 111, 111, 112]⟩), (.int .i64 (1 : Int)), (.string ⟨#[]⟩), (.string ⟨#[]⟩), (.bool true), (.string ⟨#[105, 102]⟩), (.int .i64 (1 : Int)), (.string ⟨#[]⟩), (.string ⟨#[]⟩), (.bool true), (.string ⟨#[101, 108, 115, 101]⟩), (.int .i64 (0 : Int)), (.string ⟨#[]⟩), (.string ⟨#[]⟩), (.bool true), (.string ⟨#[]⟩), (.int .i64 (0 : Int)), (.string ⟨#[]⟩), (.string ⟨#[]⟩), (.bool false), (.string ⟨#[]⟩), (.int .i64 (0 : Int)), (.string ⟨#[]⟩), (.string ⟨#[]⟩), (.bool false), (.string ⟨#[]⟩), (.int .i64 (0 : Int)), (.string ⟨#[]⟩), (.string ⟨#[]⟩), (.bool false), (.string ⟨#[]⟩), (.int .i64 (0 : Int)), (.string ⟨#[]⟩), (.string ⟨#[]⟩), (.bool false), (.string ⟨#[]⟩), (.int .i64 (0 : Int)), (.string ⟨#[]⟩), (.string ⟨#[]⟩), (.bool false), (.string ⟨#[101, 110, 100]⟩), (.int .i64 (0 : Int)), (.string ⟨#[]⟩), (.string ⟨#[]⟩), (.bool true), (.string ⟨#[98, 114]⟩), (.int .i64 (2 : Int)), (.string ⟨#[]⟩), (.string ⟨#[]⟩), (.bool true), (.string ⟨#[98, 114, 95, 105, 102]⟩), (.int .i64 (2 : Int)), (.string ⟨#[]⟩), (.string ⟨#[]⟩), (.bool true), (.string ⟨#[98, 114, 95, 116, 97, 98, 108, 101]⟩), (.int .i64 (3 : Int)), (.string ⟨#[]⟩), (.string ⟨#[]⟩), (.bool true), (.string ⟨#[114, 101, 116, 117, 114, 110]⟩), (.int .i64 (0 : Int)), (.string ⟨#[]⟩), (.string ⟨#[]⟩), (.bool true), (.string ⟨#[99, 97, 108, 108]⟩), (.int .i64 (4 : Int)), (.string ⟨#[]⟩), (.string ⟨#[]⟩), (.bool true), (.string ⟨#[99, 97, 108, 108, 95, 105, 110, 100, 105, 114, 101, 99, 116]⟩), (.int .i64 (5 : Int)), (.string ⟨#[]⟩), (.string ⟨#[]⟩), (.bool true), (.string ⟨#[]⟩), (.int .i64 (0 : Int)), (.string ⟨#[]⟩), (.string ⟨#[]⟩), (.bool false), (.string ⟨#[]⟩), (.int .i64 (0 : Int)), (.string ⟨#[]⟩), (.string ⟨#[]⟩), (.bool false), (.string ⟨#[]⟩), (.int .i64 (0 : Int)), (.string ⟨#[]⟩), (.string ⟨#[]⟩), (.bool false), (.string ⟨#[]⟩), (.int .i64 (0 : Int)), (.string ⟨#[]⟩), (.string ⟨#[]⟩), (.bool false), (.string ⟨#[]⟩), (.int .i64 (0 : Int)), (.string ⟨#[]⟩), (.string ⟨#[]⟩), (.bool false), (.string ⟨#[]⟩), (.int .i64 (0 : Int)), (.string ⟨#[]⟩), (.string ⟨#[]⟩), (.bool false), (.string ⟨#[]⟩), (.int .i64 (0 : Int)), (.string ⟨#[]⟩), (.string ⟨#[]⟩), (.bool false), (.string ⟨#[]⟩), (.int .i64 (0 : Int)), (.string ⟨#[]⟩), (.string ⟨#[]⟩), (.bool false), (.string ⟨#[100, 114, 111, 112]⟩), (.int .i64 (0 : Int)), (.string ⟨#[]⟩), (.string ⟨#[]⟩), (.bool true), (.string ⟨#[115, 101, 108, 101, 99, 116]⟩), (.int .i64 (0 : Int)), (.string ⟨#[]⟩), (.string ⟨#[]⟩), (.bool true), (.string ⟨#[]⟩), (.int .i64 (0 : Int)), (.string ⟨#[]⟩), (.string ⟨#[]⟩), (.bool false), (.string ⟨#[]⟩), (.int .i64 (0 : Int)), (.string ⟨#[]⟩), (.string ⟨#[]⟩), (.bool false), (.string ⟨#[]⟩), (.int .i64 (0 : Int)), (.string ⟨#[]⟩), (.string ⟨#[]⟩), (.bool false), (.string ⟨#[]⟩), (.int .i64 (0 : Int)), (.string ⟨#[]⟩), (.string ⟨#[]⟩), (.bool false), (.string ⟨#[108, 111, 99, 97, 108, 46, 103, 101, 116]⟩), (.int .i64 (6 : Int)), (.string ⟨#[]⟩), (.string ⟨#[]⟩), (.bool true), (.string ⟨#[108, 111, 99, 97, 108, 46, 115, 101, 116]⟩), (.int .i64 (6 : Int)), (.string ⟨#[]⟩), (.string ⟨#[]⟩), (.bool true), (.string ⟨#[108, 111, 99, 97, 108, 46, 116, 101, 101]⟩), (.int .i64 (6 : Int)), (.string ⟨#[]⟩), (.string ⟨#[]⟩), (.bool true), (.string ⟨#[103, 108, 111, 98, 97, 108, 46, 103, 101, 116]⟩), (.int .i64 (7 : Int)), (.string ⟨#[]⟩), (.string ⟨#[]⟩), (.bool true), (.string ⟨#[103, 108, 111, 98, 97, 108, 46, 115, 101, 116]⟩), (.int .i64 (7 : Int)), (.string ⟨#[]⟩), (.string ⟨#[]⟩), (.bool true)]) rfl (fun _ => by kernel_rfl)) rfl rfl rfl ?_; clear hf fa; intro fa hf
  refine sqdt hf (d_alloc (z := (.agg #[(.string ⟨#[]⟩), (.int .i64 (0 : Int)), (.string ⟨#[]⟩), (.string ⟨#[]⟩), (.bool false), (.string ⟨#[]⟩), (.int .i64 (0 : Int)), (.string ⟨#[]⟩), (.string ⟨#[]⟩), (.bool false), (.string ⟨#[]⟩), (.int .i64 (0 : Int)), (.string ⟨#[]⟩), (.string ⟨#[]⟩), (.bool false), (.string ⟨#[]⟩), (.int .i64 (0 : Int)), (.string ⟨#[]⟩), (.string ⟨#[]⟩), (.bool false), (.string ⟨#[]⟩), (.int .i64 (0 : Int)), (.string ⟨#[]⟩), (.string ⟨#[]⟩), (.bool false), (.string ⟨#[]⟩), (.int .i64 (0 : Int)), (.string ⟨#[]⟩), (.string ⟨#[]⟩), (.bool false), (.string ⟨#[]⟩), (.int .i64 (0 : Int)), (.string ⟨#[]⟩), (.string ⟨#[]⟩), (.bool false), (.string ⟨#[]⟩), (.int .i64 (0 : Int)), (.string ⟨#[]⟩), (.string ⟨#[]⟩), (.bool false), (.string ⟨#[]⟩), (.int .i64 (0 : Int)), (.string ⟨#[]⟩), (.string ⟨#[]⟩), (.bool false), (.string ⟨#[]⟩), (.int .i64 (0 : Int)), (.string ⟨#[]⟩), (.string ⟨#[]⟩), (.bool false), (.string ⟨#[]⟩), (.int .i64 (0 : Int)), (.string ⟨#[]⟩), (.string ⟨#[]⟩), (.bool false), (.string ⟨#[]⟩), (.int .i64 (0 : Int)), (.string ⟨#[]⟩), (.string ⟨#[]⟩), (.bool false), (.string ⟨#[]⟩), (.int .i64 (0 : Int)), (.string ⟨#[]⟩), (.string ⟨#[]⟩), (.bool false), (.string ⟨#[]⟩), (.int .i64 (0 : Int)), (.string ⟨#[]⟩), (.string ⟨#[]⟩), (.bool false), (.string ⟨#[]⟩), (.int .i64 (0 : Int)), (.string ⟨#[]⟩), (.string ⟨#[]⟩), (.bool false), (.string ⟨#[]⟩), (.int .i64 (0 : Int)), (.string ⟨#[]⟩), (.string ⟨#[]⟩), (.bool false), (.string ⟨#[]⟩), (.int .i64 (0 : Int)), (.string ⟨#[]⟩), (.string ⟨#[]⟩), (.bool false), (.string ⟨#[]⟩), (.int .i64 (0 : Int)), (.string ⟨#[]⟩), (.string ⟨#[]⟩), (.bool false), (.string ⟨#[]⟩), (.int .i64 (0 : Int)), (.string ⟨#[]⟩), (.string ⟨#[]⟩), (.bool false), (.string ⟨#[]⟩), (.int .i64 (0 : Int)), (.string ⟨#[]⟩), (.string ⟨#[]⟩), (.bool false), (.string ⟨#[]⟩), (.int .i64 (0 : Int)), (.string ⟨#[]⟩), (.string ⟨#[]⟩), (.bool false), (.string ⟨#[]⟩), (.int .i64 (0 : Int)), (.string ⟨#[]⟩), (.string ⟨#[]⟩), (.bool false), (.string ⟨#[]⟩), (.int .i64 (0 : Int)), (.string ⟨#[]⟩), (.string ⟨#[]⟩), (.bool false), (.string ⟨#[]⟩), (.int .i64 (0 : Int)), (.string ⟨#[]⟩), (.string ⟨#[]⟩), (.bool false), (.string ⟨#[]⟩), (.int .i64 (0 : Int)), (.string ⟨#[]⟩), (.string ⟨#[]⟩), (.bool false), (.string ⟨#[]⟩), (.int .i64 (0 : Int)), (.string ⟨#[]⟩), (.string ⟨#[]⟩), (.bool false), (.string ⟨#[]⟩), (.int .i64 (0 : Int)), (.string ⟨#[]⟩), (.string ⟨#[]⟩), (.bool false), (.string ⟨#[]⟩), (.int .i64 (0 : Int)), (.string ⟨#[]⟩), (.string ⟨#[]⟩), (.bool false), (.string ⟨#[]⟩), (.int .i64 (0 : Int)), (.string ⟨#[]⟩), (.string ⟨#[]⟩), (.bool false), (.string ⟨#[]⟩), (.int .i64 (0 : Int)), (.string ⟨#[]⟩), (.string ⟨#[]⟩), (.bool false), (.string ⟨#[]⟩), (.int .i64 (0 : Int)), (.string ⟨#[]⟩), (.string ⟨#[]⟩), (.bool false), (.string ⟨#[]⟩), (.int .i64 (0 : Int)), (.string ⟨#[]⟩), (.string ⟨#[]⟩), (.bool false), (.string ⟨#[]⟩), (.int .i64 (0 : Int)), (.string ⟨#[]⟩), (.string ⟨#[]⟩), (.bool false), (.string ⟨#[]⟩), (.int .i64 (0 : Int)), (.string ⟨#[]⟩), (.string ⟨#[]⟩), (.bool false), (.string ⟨#[]⟩), (.int .i64 (0 : Int)), (.string ⟨#[]⟩), (.string ⟨#[]⟩), (.bool false), (.string ⟨#[]⟩), (.int .i64 (0 : Int)), (.string ⟨#[]⟩), (.string ⟨#[]⟩), (.bool false), (.string ⟨#[]⟩), (.int .i64 (0 : Int)), (.string ⟨#[]⟩), (.string ⟨#[]⟩), (.bool false)])) (cs := #[(.string ⟨#[]⟩), (.int .i64 (0 : Int)), (.string ⟨#[]⟩), (.string ⟨#[]⟩), (.bool false), (.string ⟨#[]⟩), (.int .i64 (0 : Int)), (.string ⟨#[]⟩), (.string ⟨#[]⟩), (.bool false), (.string ⟨#[]⟩), (.int .i64 (0 : Int)), (.string ⟨#[]⟩), (.string ⟨#[]⟩), (.bool false), (.string ⟨#[]⟩), (.int .i64 (0 : Int)), (.string ⟨#[]⟩), (.string ⟨#[]⟩), (.bool false), (.string ⟨#[]⟩), (.int .i64 (0 : Int)), (.string ⟨#[]⟩), (.string ⟨#[]⟩), (.bool false), (.string ⟨#[]⟩), (.int .i64 (0 : Int)), (.string ⟨#[]⟩), (.string ⟨#[]⟩), (.bool false), (.string ⟨#[]⟩), (.int .i64 (0 : Int)), (.string ⟨#[]⟩), (.string ⟨#[]⟩), (.bool false), (.string ⟨#[]⟩), (.int .i64 (0 : Int)), (.string ⟨#[]⟩), (.string ⟨#[]⟩), (.bool false), (.string ⟨#[]⟩), (.int .i64 (0 : Int)), (.string ⟨#[]⟩), (.string ⟨#[]⟩), (.bool false), (.string ⟨#[]⟩), (.int .i64 (0 : Int)), (.string ⟨#[]⟩), (.string ⟨#[]⟩), (.bool false), (.string ⟨#[]⟩), (.int .i64 (0 : Int)), (.string ⟨#[]⟩), (.string ⟨#[]⟩), (.bool false), (.string ⟨#[]⟩), (.int .i64 (0 : Int)), (.string ⟨#[]⟩), (.string ⟨#[]⟩), (.bool false), (.string ⟨#[]⟩), (.int .i64 (0 : Int)), (.string ⟨#[]⟩), (.string ⟨#[]⟩), (.bool false), (.string ⟨#[]⟩), (.int .i64 (0 : Int)), (.string ⟨#[]⟩), (.string ⟨#[]⟩), (.bool false), (.string ⟨#[]⟩), (.int .i64 (0 : Int)), (.string ⟨#[]⟩), (.string ⟨#[]⟩), (.bool false), (.string ⟨#[]⟩), (.int .i64 (0 : Int)), (.string ⟨#[]⟩), (.string ⟨#[]⟩), (.bool false), (.string ⟨#[]⟩), (.int .i64 (0 : Int)), (.string ⟨#[]⟩), (.string ⟨#[]⟩), (.bool false), (.string ⟨#[]⟩), (.int .i64 (0 : Int)), (.string ⟨#[]⟩), (.string ⟨#[]⟩), (.bool false), (.string ⟨#[]⟩), (.int .i64 (0 : Int)), (.string ⟨#[]⟩), (.string ⟨#[]⟩), (.bool false), (.string ⟨#[]⟩), (.int .i64 (0 : Int)), (.string ⟨#[]⟩), (.string ⟨#[]⟩), (.bool false), (.string ⟨#[]⟩), (.int .i64 (0 : Int)), (.string ⟨#[]⟩), (.string ⟨#[]⟩), (.bool false), (.string ⟨#[]⟩), (.int .i64 (0 : Int)), (.string ⟨#[]⟩), (.string ⟨#[]⟩), (.bool false), (.string ⟨#[]⟩), (.int .i64 (0 : Int)), (.string ⟨#[]⟩), (.string ⟨#[]⟩), (.bool false), (.string ⟨#[]⟩), (.int .i64 (0 : Int)), (.string ⟨#[]⟩), (.string ⟨#[]⟩), (.bool false), (.string ⟨#[]⟩), (.int .i64 (0 : Int)), (.string ⟨#[]⟩), (.string ⟨#[]⟩), (.bool false), (.string ⟨#[]⟩), (.int .i64 (0 : Int)), (.string ⟨#[]⟩), (.string ⟨#[]⟩), (.bool false), (.string ⟨#[]⟩), (.int .i64 (0 : Int)), (.string ⟨#[]⟩), (.string ⟨#[]⟩), (.bool false), (.string ⟨#[]⟩), (.int .i64 (0 : Int)), (.string ⟨#[]⟩), (.string ⟨#[]⟩), (.bool false), (.string ⟨#[]⟩), (.int .i64 (0 : Int)), (.string ⟨#[]⟩), (.string ⟨#[]⟩), (.bool false), (.string ⟨#[]⟩), (.int .i64 (0 : Int)), (.string ⟨#[]⟩), (.string ⟨#[]⟩), (.bool false), (.string ⟨#[]⟩), (.int .i64 (0 : Int)), (.string ⟨#[]⟩), (.string ⟨#[]⟩), (.bool false), (.string ⟨#[]⟩), (.int .i64 (0 : Int)), (.string ⟨#[]⟩), (.string ⟨#[]⟩), (.bool false), (.string ⟨#[]⟩), (.int .i64 (0 : Int)), (.string ⟨#[]⟩), (.string ⟨#[]⟩), (.bool false), (.string ⟨#[]⟩), (.int .i64 (0 : Int)), (.string ⟨#[]⟩), (.string ⟨#[]⟩), (.bool false), (.string ⟨#[]⟩), (.int .i64 (0 : Int)), (.string ⟨#[]⟩), (.string ⟨#[]⟩), (.bool false), (.string ⟨#[]⟩), (.int .i64 (0 : Int)), (.string ⟨#[]⟩), (.string ⟨#[]⟩), (.bool false), (.string ⟨#[]⟩), (.int .i64 (0 : Int)), (.string ⟨#[]⟩), (.string ⟨#[]⟩), (.bool false)]) (by kernel_rfl) rfl) rfl rfl rfl ?_; clear hf fa; rintro fa _ w2 ⟨b2, rfl, hle2, hk2, he2⟩ hf
  have hBb2 : w.heap.size ≤ b2 := Nat.le_trans hb.size hle2
  have : b1 < b2 := Nat.lt_of_lt_of_le (blk_lt hk1) hle2
  replace hk1 := blk_ext hk1 he2
  replace hb := hb.trans (Below.mono he2 hb.size)
  refine sqn hf (d_storeK (T := 119) (v := (.agg #[(.string ⟨#[117, 110, 114, 101, 97, 99, 104, 97, 98, 108, 101]⟩), (.int .i64 (0 : Int)), (.string ⟨#[]⟩), (.string ⟨#[]⟩), (.bool true), (.string ⟨#[110, 111, 112]⟩), (.int .i64 (0 : Int)), (.string ⟨#[]⟩), (.string ⟨#[]⟩), (.bool false), (.string ⟨#[98, 108, 111, 99, 107]⟩), (.int .i64 (1 : Int)), (.string ⟨#[]⟩), (.string ⟨#[]⟩), (.bool true), (.string ⟨#[108, 111, 111, 112]⟩), (.int .i64 (1 : Int)), (.string ⟨#[]⟩), (.string ⟨#[]⟩), (.bool true), (.string ⟨#[105, 102]⟩), (.int .i64 (1 : Int)), (.string ⟨#[]⟩), (.string ⟨#[]⟩), (.bool true), (.string ⟨#[101, 108, 115, 101]⟩), (.int .i64 (0 : Int)), (.string ⟨#[]⟩), (.string ⟨#[]⟩), (.bool true), (.string ⟨#[]⟩), (.int .i64 (0 : Int)), (.string ⟨#[]⟩), (.string ⟨#[]⟩), (.bool false), (.string ⟨#[]⟩), (.int .i64 (0 : Int)), (.string ⟨#[]⟩), (.string ⟨#[]⟩), (.bool false), (.string ⟨#[]⟩), (.int .i64 (0 : Int)), (.string ⟨#[]⟩), (.string ⟨#[]⟩), (.bool false), (.string ⟨#[]⟩), (.int .i64 (0 : Int)), (.string ⟨#[]⟩), (.string ⟨#[]⟩), (.bool false), (.string ⟨#[]⟩), (.int .i64 (0 : Int)), (.string ⟨#[]⟩), (.string ⟨#[]⟩), (.bool false), (.string ⟨#[101, 110, 100]⟩), (.int .i64 (0 : Int)), (.string ⟨#[]⟩), (.string ⟨#[]⟩), (.bool true), (.string ⟨#[98, 114]⟩), (.int .i64 (2 : Int)), (.string ⟨#[]⟩), (.string ⟨#[]⟩), (.bool true), (.string ⟨#[98, 114, 95, 105, 102]⟩), (.int .i64 (2 : Int)), (.string ⟨#[]⟩), (.string ⟨#[]⟩), (.bool true), (.string ⟨#[98, 114, 95, 116, 97, 98, 108, 101]⟩), (.int .i64 (3 : Int)), (.string ⟨#[]⟩), (.string ⟨#[]⟩), (.bool true), (.string ⟨#[114, 101, 116, 117, 114, 110]⟩), (.int .i64 (0 : Int)), (.string ⟨#[]⟩), (.string ⟨#[]⟩), (.bool true), (.string ⟨#[99, 97, 108, 108]⟩), (.int .i64 (4 : Int)), (.string ⟨#[]⟩), (.string ⟨#[]⟩), (.bool true), (.string ⟨#[99, 97, 108, 108, 95, 105, 110, 100, 105, 114, 101, 99, 116]⟩), (.int .i64 (5 : Int)), (.string ⟨#[]⟩), (.string ⟨#[]⟩), (.bool true), (.string ⟨#[]⟩), (.int .i64 (0 : Int)), (.string ⟨#[]⟩), (.string ⟨#[]⟩), (.bool false), (.string ⟨#[]⟩), (.int .i64 (0 : Int)), (.string ⟨#[]⟩), (.string ⟨#[]⟩), (.bool false), (.string ⟨#[]⟩), (.int .i64 (0 : Int)), (.string ⟨#[]⟩), (.string ⟨#[]⟩), (.bool false), (.string ⟨#[]⟩), (.int .i64 (0 : Int)), (.string ⟨#[]⟩), (.string ⟨#[]⟩), (.bool false), (.string ⟨#[]⟩), (.int .i64 (0 : Int)), (.string ⟨#[]⟩), (.string ⟨#[]⟩), (.bool false), (.string ⟨#[]⟩), (.int .i64 (0 : Int)), (.string ⟨#[]⟩), (.string ⟨#[]⟩), (.bool false), (.string ⟨#[]⟩), (.int .i64 (0 : Int)), (.string ⟨#[]⟩), (.string ⟨#[]⟩), (.bool false), (.string ⟨#[]⟩), (.int .i64 (0 : Int)), (.string ⟨#[]⟩), (.string ⟨#[]⟩), (.bool false), (.string ⟨#[100, 114, 111, 112]⟩), (.int .i64 (0 : Int)), (.string ⟨#[]⟩), (.string ⟨#[]⟩), (.bool true), (.string ⟨#[115, 101, 108, 101, 99, 116]⟩), (.int .i64 (0 : Int)), (.string ⟨#[]⟩), (.string ⟨#[]⟩), (.bool true), (.string ⟨#[]⟩), (.int .i64 (0 : Int)), (.string ⟨#[]⟩), (.string ⟨#[]⟩), (.bool false), (.string ⟨#[]⟩), (.int .i64 (0 : Int)), (.string ⟨#[]⟩), (.string ⟨#[]⟩), (.bool false), (.string ⟨#[]⟩), (.int .i64 (0 : Int)), (.string ⟨#[]⟩), (.string ⟨#[]⟩), (.bool false), (.string ⟨#[]⟩), (.int .i64 (0 : Int)), (.string ⟨#[]⟩), (.string ⟨#[]⟩), (.bool false), (.string ⟨#[108, 111, 99, 97, 108, 46, 103, 101, 116]⟩), (.int .i64 (6 : Int)), (.string ⟨#[]⟩), (.string ⟨#[]⟩), (.bool true), (.string ⟨#[108, 111, 99, 97, 108, 46, 115, 101, 116]⟩), (.int .i64 (6 : Int)), (.string ⟨#[]⟩), (.string ⟨#[]⟩), (.bool true), (.string ⟨#[108, 111, 99, 97, 108, 46, 116, 101, 101]⟩), (.int .i64 (6 : Int)), (.string ⟨#[]⟩), (.string ⟨#[]⟩), (.bool true), (.string ⟨#[103, 108, 111, 98, 97, 108, 46, 103, 101, 116]⟩), (.int .i64 (7 : Int)), (.string ⟨#[]⟩), (.string ⟨#[]⟩), (.bool true), (.string ⟨#[103, 108, 111, 98, 97, 108, 46, 115, 101, 116]⟩), (.int .i64 (7 : Int)), (.string ⟨#[]⟩), (.string ⟨#[]⟩), (.bool true)])) (cs := #[(.string ⟨#[]⟩), (.int .i64 (0 : Int)), (.string ⟨#[]⟩), (.string ⟨#[]⟩), (.bool false), (.string ⟨#[]⟩), (.int .i64 (0 : Int)), (.string ⟨#[]⟩), (.string ⟨#[]⟩), (.bool false), (.string ⟨#[]⟩), (.int .i64 (0 : Int)), (.string ⟨#[]⟩), (.string ⟨#[]⟩), (.bool false), (.string ⟨#[]⟩), (.int .i64 (0 : Int)), (.string ⟨#[]⟩), (.string ⟨#[]⟩), (.bool false), (.string ⟨#[]⟩), (.int .i64 (0 : Int)), (.string ⟨#[]⟩), (.string ⟨#[]⟩), (.bool false), (.string ⟨#[]⟩), (.int .i64 (0 : Int)), (.string ⟨#[]⟩), (.string ⟨#[]⟩), (.bool false), (.string ⟨#[]⟩), (.int .i64 (0 : Int)), (.string ⟨#[]⟩), (.string ⟨#[]⟩), (.bool false), (.string ⟨#[]⟩), (.int .i64 (0 : Int)), (.string ⟨#[]⟩), (.string ⟨#[]⟩), (.bool false), (.string ⟨#[]⟩), (.int .i64 (0 : Int)), (.string ⟨#[]⟩), (.string ⟨#[]⟩), (.bool false), (.string ⟨#[]⟩), (.int .i64 (0 : Int)), (.string ⟨#[]⟩), (.string ⟨#[]⟩), (.bool false), (.string ⟨#[]⟩), (.int .i64 (0 : Int)), (.string ⟨#[]⟩), (.string ⟨#[]⟩), (.bool false), (.string ⟨#[]⟩), (.int .i64 (0 : Int)), (.string ⟨#[]⟩), (.string ⟨#[]⟩), (.bool false), (.string ⟨#[]⟩), (.int .i64 (0 : Int)), (.string ⟨#[]⟩), (.string ⟨#[]⟩), (.bool false), (.string ⟨#[]⟩), (.int .i64 (0 : Int)), (.string ⟨#[]⟩), (.string ⟨#[]⟩), (.bool false), (.string ⟨#[]⟩), (.int .i64 (0 : Int)), (.string ⟨#[]⟩), (.string ⟨#[]⟩), (.bool false), (.string ⟨#[]⟩), (.int .i64 (0 : Int)), (.string ⟨#[]⟩), (.string ⟨#[]⟩), (.bool false), (.string ⟨#[]⟩), (.int .i64 (0 : Int)), (.string ⟨#[]⟩), (.string ⟨#[]⟩), (.bool false), (.string ⟨#[]⟩), (.int .i64 (0 : Int)), (.string ⟨#[]⟩), (.string ⟨#[]⟩), (.bool false), (.string ⟨#[]⟩), (.int .i64 (0 : Int)), (.string ⟨#[]⟩), (.string ⟨#[]⟩), (.bool false), (.string ⟨#[]⟩), (.int .i64 (0 : Int)), (.string ⟨#[]⟩), (.string ⟨#[]⟩), (.bool false), (.string ⟨#[]⟩), (.int .i64 (0 : Int)), (.string ⟨#[]⟩), (.string ⟨#[]⟩), (.bool false), (.string ⟨#[]⟩), (.int .i64 (0 : Int)), (.string ⟨#[]⟩), (.string ⟨#[]⟩), (.bool false), (.string ⟨#[]⟩), (.int .i64 (0 : Int)), (.string ⟨#[]⟩), (.string ⟨#[]⟩), (.bool false), (.string ⟨#[]⟩), (.int .i64 (0 : Int)), (.string ⟨#[]⟩), (.string ⟨#[]⟩), (.bool false), (.string ⟨#[]⟩), (.int .i64 (0 : Int)), (.string ⟨#[]⟩), (.string ⟨#[]⟩), (.bool false), (.string ⟨#[]⟩), (.int .i64 (0 : Int)), (.string ⟨#[]⟩), (.string ⟨#[]⟩), (.bool false), (.string ⟨#[]⟩), (.int .i64 (0 : Int)), (.string ⟨#[]⟩), (.string ⟨#[]⟩), (.bool false), (.string ⟨#[]⟩), (.int .i64 (0 : Int)), (.string ⟨#[]⟩), (.string ⟨#[]⟩), (.bool false), (.string ⟨#[]⟩), (.int .i64 (0 : Int)), (.string ⟨#[]⟩), (.string ⟨#[]⟩), (.bool false), (.string ⟨#[]⟩), (.int .i64 (0 : Int)), (.string ⟨#[]⟩), (.string ⟨#[]⟩), (.bool false), (.string ⟨#[]⟩), (.int .i64 (0 : Int)), (.string ⟨#[]⟩), (.string ⟨#[]⟩), (.bool false), (.string ⟨#[]⟩), (.int .i64 (0 : Int)), (.string ⟨#[]⟩), (.string ⟨#[]⟩), (.bool false), (.string ⟨#[]⟩), (.int .i64 (0 : Int)), (.string ⟨#[]⟩), (.string ⟨#[]⟩), (.bool false), (.string ⟨#[]⟩), (.int .i64 (0 : Int)), (.string ⟨#[]⟩), (.string ⟨#[]⟩), (.bool false), (.string ⟨#[]⟩), (.int .i64 (0 : Int)), (.string ⟨#[]⟩), (.string ⟨#[]⟩), (.bool false), (.string ⟨#[]⟩), (.int .i64 (0 : Int)), (.string ⟨#[]⟩), (.string ⟨#[]⟩), (.bool false), (.string ⟨#[]⟩), (.int .i64 (0 : Int)), (.string ⟨#[]⟩), (.string ⟨#[]⟩), (.bool false)]) (cs' := #[(.string ⟨#[117, 110, 114, 101, 97, 99, 104, 97, 98, 108, 101]⟩), (.int .i64 (0 : Int)), (.string ⟨#[]⟩), (.string ⟨#[]⟩), (.bool true), (.string ⟨#[110, 111, 112]⟩), (.int .i64 (0 : Int)), (.string ⟨#[]⟩), (.string ⟨#[]⟩), (.bool false), (.string ⟨#[98, 108, 111, 99, 107]⟩), (.int .i64 (1 : Int)), (.string ⟨#[]⟩), (.string ⟨#[]⟩), (.bool true), (.string ⟨#[108, 111, 111, 112]⟩), (.int .i64 (1 : Int)), (.string ⟨#[]⟩), (.string ⟨#[]⟩), (.bool true), (.string ⟨#[105, 102]⟩), (.int .i64 (1 : Int)), (.string ⟨#[]⟩), (.string ⟨#[]⟩), (.bool true), (.string ⟨#[101, 108, 115, 101]⟩), (.int .i64 (0 : Int)), (.string ⟨#[]⟩), (.string ⟨#[]⟩), (.bool true), (.string ⟨#[]⟩), (.int .i64 (0 : Int)), (.string ⟨#[]⟩), (.string ⟨#[]⟩), (.bool false), (.string ⟨#[]⟩), (.int .i64 (0 : Int)), (.string ⟨#[]⟩), (.string ⟨#[]⟩), (.bool false), (.string ⟨#[]⟩), (.int .i64 (0 : Int)), (.string ⟨#[]⟩), (.string ⟨#[]⟩), (.bool false), (.string ⟨#[]⟩), (.int .i64 (0 : Int)), (.string ⟨#[]⟩), (.string ⟨#[]⟩), (.bool false), (.string ⟨#[]⟩), (.int .i64 (0 : Int)), (.string ⟨#[]⟩), (.string ⟨#[]⟩), (.bool false), (.string ⟨#[101, 110, 100]⟩), (.int .i64 (0 : Int)), (.string ⟨#[]⟩), (.string ⟨#[]⟩), (.bool true), (.string ⟨#[98, 114]⟩), (.int .i64 (2 : Int)), (.string ⟨#[]⟩), (.string ⟨#[]⟩), (.bool true), (.string ⟨#[98, 114, 95, 105, 102]⟩), (.int .i64 (2 : Int)), (.string ⟨#[]⟩), (.string ⟨#[]⟩), (.bool true), (.string ⟨#[98, 114, 95, 116, 97, 98, 108, 101]⟩), (.int .i64 (3 : Int)), (.string ⟨#[]⟩), (.string ⟨#[]⟩), (.bool true), (.string ⟨#[114, 101, 116, 117, 114, 110]⟩), (.int .i64 (0 : Int)), (.string ⟨#[]⟩), (.string ⟨#[]⟩), (.bool true), (.string ⟨#[99, 97, 108, 108]⟩), (.int .i64 (4 : Int)), (.string ⟨#[]⟩), (.string ⟨#[]⟩), (.bool true), (.string ⟨#[99, 97, 108, 108, 95, 105, 110, 100, 105, 114, 101, 99, 116]⟩), (.int .i64 (5 : Int)), (.string ⟨#[]⟩), (.string ⟨#[]⟩), (.bool true), (.string ⟨#[]⟩), (.int .i64 (0 : Int)), (.string ⟨#[]⟩), (.string ⟨#[]⟩), (.bool false), (.string ⟨#[]⟩), (.int .i64 (0 : Int)), (.string ⟨#[]⟩), (.string ⟨#[]⟩), (.bool false), (.string ⟨#[]⟩), (.int .i64 (0 : Int)), (.string ⟨#[]⟩), (.string ⟨#[]⟩), (.bool false), (.string ⟨#[]⟩), (.int .i64 (0 : Int)), (.string ⟨#[]⟩), (.string ⟨#[]⟩), (.bool false), (.string ⟨#[]⟩), (.int .i64 (0 : Int)), (.string ⟨#[]⟩), (.string ⟨#[]⟩), (.bool false), (.string ⟨#[]⟩), (.int .i64 (0 : Int)), (.string ⟨#[]⟩), (.string ⟨#[]⟩), (.bool false), (.string ⟨#[]⟩), (.int .i64 (0 : Int)), (.string ⟨#[]⟩), (.string ⟨#[]⟩), (.bool false), (.string ⟨#[]⟩), (.int .i64 (0 : Int)), (.string ⟨#[]⟩), (.string ⟨#[]⟩), (.bool false), (.string ⟨#[100, 114, 111, 112]⟩), (.int .i64 (0 : Int)), (.string ⟨#[]⟩), (.string ⟨#[]⟩), (.bool true), (.string ⟨#[115, 101, 108, 101, 99, 116]⟩), (.int .i64 (0 : Int)), (.string ⟨#[]⟩), (.string ⟨#[]⟩), (.bool true), (.string ⟨#[]⟩), (.int .i64 (0 : Int)), (.string ⟨#[]⟩), (.string ⟨#[]⟩), (.bool false), (.string ⟨#[]⟩), (.int .i64 (0 : Int)), (.string ⟨#[]⟩), (.string ⟨#[]⟩), (.bool false), (.string ⟨#[]⟩), (.int .i64 (0 : Int)), (.string ⟨#[]⟩), (.string ⟨#[]⟩), (.bool false), (.string ⟨#[]⟩), (.int .i64 (0 : Int)), (.string ⟨#[]⟩), (.string ⟨#[]⟩), (.bool false), (.string ⟨#[108, 111, 99, 97, 108, 46, 103, 101, 116]⟩), (.int .i64 (6 : Int)), (.string ⟨#[]⟩), (.string ⟨#[]⟩), (.bool true), (.string ⟨#[108, 111, 99, 97, 108, 46, 115, 101, 116]⟩), (.int .i64 (6 : Int)), (.string ⟨#[]⟩), (.string ⟨#[]⟩), (.bool true), (.string ⟨#[108, 111, 99, 97, 108, 46, 116, 101, 101]⟩), (.int .i64 (6 : Int)), (.string ⟨#[]⟩), (.string ⟨#[]⟩), (.bool true), (.string ⟨#[103, 108, 111, 98, 97, 108, 46, 103, 101, 116]⟩), (.int .i64 (7 : Int)), (.string ⟨#[]⟩), (.string ⟨#[]⟩), (.bool true), (.string ⟨#[103, 108, 111, 98, 97, 108, 46, 115, 101, 116]⟩), (.int .i64 (7 : Int)), (.string ⟨#[]⟩), (.string ⟨#[]⟩), (.bool true)]) rfl rfl (by kernel_rfl) (by kernel_rfl) hk2 (by kernel_rfl) (by kernel_rfl)) rfl rfl ?_; clear hf fa; rintro fa _ w3 ⟨hk3, hg1⟩ hf
  replace hk1 := blk_grown hk1 hg1 (by omega)
  replace hb := hb.trans (grown_below hg1 hb.size hBb2)
  apply wpList_nil
  (try simp only [Exit.then, Exit.inBlock, ↓reduceIte, Nat.reduceEqDiff])
  refine hK2 _ _ ?_
  refine wp_seq_k (fun K3 hK3 => ?_)
  refine wp_seq_k (fun K4 hK4 => ?_)
  refine wp_region_lit ?_
  refine sqv hf (r_move rfl) rfl rfl rfl ?_; clear hf fa; intro fa hf
  refine sqv hf (r_conv (C := ((op : Nat) : Int)) rfl Tryd.underlying5 Tryd.underlying3 (by rw [IntKind.wrap_i64]; omega)) rfl rfl rfl ?_; clear hf fa; intro fa hf
  refine sqv hf (r_lt rfl rfl) rfl rfl rfl ?_; clear hf fa; intro fa hf
  apply wpList_nil
  (try simp only [Exit.then, Exit.inBlock, ↓reduceIte, Nat.reduceEqDiff])
  refine hK4 _ _ ?_
  refine wp_cond_split (t := (decide (((op : Nat) : Int) < (37 : Int)))) (hf.ev rfl) (fun hqt27_1 => ?_) (fun hqt27_1 => ?_)
  · have hqt27_1b := hqt27_1
    try simp only [decide_eq_true_eq, Bool.and_eq_true, Bool.or_eq_true, Bool.not_eq_true', decide_eq_false_iff_not, ne_eq, Bool.not_eq_true] at hqt27_1
    refine wp_seq_k (fun K5 hK5 => ?_)
    have hr1 := Row.of_new (k := 5) (V := vMInf) (l := [(⟨#[117, 110, 114, 101, 97, 99, 104, 97, 98, 108, 101]⟩, (0 : Int), ⟨#[]⟩, ⟨#[]⟩, true, ()), (⟨#[110, 111, 112]⟩, (0 : Int), ⟨#[]⟩, ⟨#[]⟩, false, ()), (⟨#[98, 108, 111, 99, 107]⟩, (1 : Int), ⟨#[]⟩, ⟨#[]⟩, true, ()), (⟨#[108, 111, 111, 112]⟩, (1 : Int), ⟨#[]⟩, ⟨#[]⟩, true, ()), (⟨#[105, 102]⟩, (1 : Int), ⟨#[]⟩, ⟨#[]⟩, true, ()), (⟨#[101, 108, 115, 101]⟩, (0 : Int), ⟨#[]⟩, ⟨#[]⟩, true, ()), (⟨#[]⟩, (0 : Int), ⟨#[]⟩, ⟨#[]⟩, false, ()), (⟨#[]⟩, (0 : Int), ⟨#[]⟩, ⟨#[]⟩, false, ()), (⟨#[]⟩, (0 : Int), ⟨#[]⟩, ⟨#[]⟩, false, ()), (⟨#[]⟩, (0 : Int), ⟨#[]⟩, ⟨#[]⟩, false, ()), (⟨#[]⟩, (0 : Int), ⟨#[]⟩, ⟨#[]⟩, false, ()), (⟨#[101, 110, 100]⟩, (0 : Int), ⟨#[]⟩, ⟨#[]⟩, true, ()), (⟨#[98, 114]⟩, (2 : Int), ⟨#[]⟩, ⟨#[]⟩, true, ()), (⟨#[98, 114, 95, 105, 102]⟩, (2 : Int), ⟨#[]⟩, ⟨#[]⟩, true, ()), (⟨#[98, 114, 95, 116, 97, 98, 108, 101]⟩, (3 : Int), ⟨#[]⟩, ⟨#[]⟩, true, ()), (⟨#[114, 101, 116, 117, 114, 110]⟩, (0 : Int), ⟨#[]⟩, ⟨#[]⟩, true, ()), (⟨#[99, 97, 108, 108]⟩, (4 : Int), ⟨#[]⟩, ⟨#[]⟩, true, ()), (⟨#[99, 97, 108, 108, 95, 105, 110, 100, 105, 114, 101, 99, 116]⟩, (5 : Int), ⟨#[]⟩, ⟨#[]⟩, true, ()), (⟨#[]⟩, (0 : Int), ⟨#[]⟩, ⟨#[]⟩, false, ()), (⟨#[]⟩, (0 : Int), ⟨#[]⟩, ⟨#[]⟩, false, ()), (⟨#[]⟩, (0 : Int), ⟨#[]⟩, ⟨#[]⟩, false, ()), (⟨#[]⟩, (0 : Int), ⟨#[]⟩, ⟨#[]⟩, false, ()), (⟨#[]⟩, (0 : Int), ⟨#[]⟩, ⟨#[]⟩, false, ()), (⟨#[]⟩, (0 : Int), ⟨#[]⟩, ⟨#[]⟩, false, ()), (⟨#[]⟩, (0 : Int), ⟨#[]⟩, ⟨#[]⟩, false, ()), (⟨#[]⟩, (0 : Int), ⟨#[]⟩, ⟨#[]⟩, false, ()), (⟨#[100, 114, 111, 112]⟩, (0 : Int), ⟨#[]⟩, ⟨#[]⟩, true, ()), (⟨#[115, 101, 108, 101, 99, 116]⟩, (0 : Int), ⟨#[]⟩, ⟨#[]⟩, true, ()), (⟨#[]⟩, (0 : Int), ⟨#[]⟩, ⟨#[]⟩, false, ()), (⟨#[]⟩, (0 : Int), ⟨#[]⟩, ⟨#[]⟩, false, ()), (⟨#[]⟩, (0 : Int), ⟨#[]⟩, ⟨#[]⟩, false, ()), (⟨#[]⟩, (0 : Int), ⟨#[]⟩, ⟨#[]⟩, false, ()), (⟨#[108, 111, 99, 97, 108, 46, 103, 101, 116]⟩, (6 : Int), ⟨#[]⟩, ⟨#[]⟩, true, ()), (⟨#[108, 111, 99, 97, 108, 46, 115, 101, 116]⟩, (6 : Int), ⟨#[]⟩, ⟨#[]⟩, true, ()), (⟨#[108, 111, 99, 97, 108, 46, 116, 101, 101]⟩, (6 : Int), ⟨#[]⟩, ⟨#[]⟩, true, ()), (⟨#[103, 108, 111, 98, 97, 108, 46, 103, 101, 116]⟩, (7 : Int), ⟨#[]⟩, ⟨#[]⟩, true, ()), (⟨#[103, 108, 111, 98, 97, 108, 46, 115, 101, 116]⟩, (7 : Int), ⟨#[]⟩, ⟨#[]⟩, true, ())]) (base := w.heap.size) hk3 (by omega) rfl rfl (Nat.le_of_ble_eq_true rfl)
    skip
    refine wp_region_lit ?_
    refine sqv hf (r_move rfl) rfl rfl rfl ?_; clear hf fa; intro fa hf
    have hy1 : ([(⟨#[117, 110, 114, 101, 97, 99, 104, 97, 98, 108, 101]⟩, (0 : Int), ⟨#[]⟩, ⟨#[]⟩, true, ()), (⟨#[110, 111, 112]⟩, (0 : Int), ⟨#[]⟩, ⟨#[]⟩, false, ()), (⟨#[98, 108, 111, 99, 107]⟩, (1 : Int), ⟨#[]⟩, ⟨#[]⟩, true, ()), (⟨#[108, 111, 111, 112]⟩, (1 : Int), ⟨#[]⟩, ⟨#[]⟩, true, ()), (⟨#[105, 102]⟩, (1 : Int), ⟨#[]⟩, ⟨#[]⟩, true, ()), (⟨#[101, 108, 115, 101]⟩, (0 : Int), ⟨#[]⟩, ⟨#[]⟩, true, ()), (⟨#[]⟩, (0 : Int), ⟨#[]⟩, ⟨#[]⟩, false, ()), (⟨#[]⟩, (0 : Int), ⟨#[]⟩, ⟨#[]⟩, false, ()), (⟨#[]⟩, (0 : Int), ⟨#[]⟩, ⟨#[]⟩, false, ()), (⟨#[]⟩, (0 : Int), ⟨#[]⟩, ⟨#[]⟩, false, ()), (⟨#[]⟩, (0 : Int), ⟨#[]⟩, ⟨#[]⟩, false, ()), (⟨#[101, 110, 100]⟩, (0 : Int), ⟨#[]⟩, ⟨#[]⟩, true, ()), (⟨#[98, 114]⟩, (2 : Int), ⟨#[]⟩, ⟨#[]⟩, true, ()), (⟨#[98, 114, 95, 105, 102]⟩, (2 : Int), ⟨#[]⟩, ⟨#[]⟩, true, ()), (⟨#[98, 114, 95, 116, 97, 98, 108, 101]⟩, (3 : Int), ⟨#[]⟩, ⟨#[]⟩, true, ()), (⟨#[114, 101, 116, 117, 114, 110]⟩, (0 : Int), ⟨#[]⟩, ⟨#[]⟩, true, ()), (⟨#[99, 97, 108, 108]⟩, (4 : Int), ⟨#[]⟩, ⟨#[]⟩, true, ()), (⟨#[99, 97, 108, 108, 95, 105, 110, 100, 105, 114, 101, 99, 116]⟩, (5 : Int), ⟨#[]⟩, ⟨#[]⟩, true, ()), (⟨#[]⟩, (0 : Int), ⟨#[]⟩, ⟨#[]⟩, false, ()), (⟨#[]⟩, (0 : Int), ⟨#[]⟩, ⟨#[]⟩, false, ()), (⟨#[]⟩, (0 : Int), ⟨#[]⟩, ⟨#[]⟩, false, ()), (⟨#[]⟩, (0 : Int), ⟨#[]⟩, ⟨#[]⟩, false, ()), (⟨#[]⟩, (0 : Int), ⟨#[]⟩, ⟨#[]⟩, false, ()), (⟨#[]⟩, (0 : Int), ⟨#[]⟩, ⟨#[]⟩, false, ()), (⟨#[]⟩, (0 : Int), ⟨#[]⟩, ⟨#[]⟩, false, ()), (⟨#[]⟩, (0 : Int), ⟨#[]⟩, ⟨#[]⟩, false, ()), (⟨#[100, 114, 111, 112]⟩, (0 : Int), ⟨#[]⟩, ⟨#[]⟩, true, ()), (⟨#[115, 101, 108, 101, 99, 116]⟩, (0 : Int), ⟨#[]⟩, ⟨#[]⟩, true, ()), (⟨#[]⟩, (0 : Int), ⟨#[]⟩, ⟨#[]⟩, false, ()), (⟨#[]⟩, (0 : Int), ⟨#[]⟩, ⟨#[]⟩, false, ()), (⟨#[]⟩, (0 : Int), ⟨#[]⟩, ⟨#[]⟩, false, ()), (⟨#[]⟩, (0 : Int), ⟨#[]⟩, ⟨#[]⟩, false, ()), (⟨#[108, 111, 99, 97, 108, 46, 103, 101, 116]⟩, (6 : Int), ⟨#[]⟩, ⟨#[]⟩, true, ()), (⟨#[108, 111, 99, 97, 108, 46, 115, 101, 116]⟩, (6 : Int), ⟨#[]⟩, ⟨#[]⟩, true, ()), (⟨#[108, 111, 99, 97, 108, 46, 116, 101, 101]⟩, (6 : Int), ⟨#[]⟩, ⟨#[]⟩, true, ()), (⟨#[103, 108, 111, 98, 97, 108, 46, 103, 101, 116]⟩, (7 : Int), ⟨#[]⟩, ⟨#[]⟩, true, ()), (⟨#[103, 108, 111, 98, 97, 108, 46, 115, 101, 116]⟩, (7 : Int), ⟨#[]⟩, ⟨#[]⟩, true, ())])[op]? = some (ctlO op) := (ctlO_at (by omega))
    have hel1 := RdS.at (Row.rd (by intros; rfl) hr1) hy1
    obtain ⟨_, _, hab, hlr1, hel1⟩ := hel1
    cases hab
    refine sqv hf (r_ixp (sz := 5) (j := op) (nn := 37) rfl rfl Tryd.underlying119 (by kernel_rfl) rfl (by omega) rfl) rfl rfl rfl ?_; clear hf fa; intro fa hf
    refine sqv hf (r_loadA (cs := [(.string (ctlO op).1), (.int .i64 ((ctlO op).2.1)), (.string (ctlO op).2.2.1), (.string (ctlO op).2.2.2.1), (.bool (ctlO op).2.2.2.2.1)]) rfl Tryd.underlying54 rfl (by kernel_rfl) hel1) rfl rfl rfl ?_; clear hf fa; intro fa hf
    refine sqn hf (d_storeK (T := 54) (v := (.agg #[(.string (ctlO op).1), (.int .i64 ((ctlO op).2.1)), (.string (ctlO op).2.2.1), (.string (ctlO op).2.2.2.1), (.bool (ctlO op).2.2.2.2.1)])) (cs := #[(.string ⟨#[]⟩), (.int .i64 (0 : Int)), (.string ⟨#[]⟩), (.string ⟨#[]⟩), (.bool false)]) (cs' := #[(.string (ctlO op).1), (.int .i64 ((ctlO op).2.1)), (.string (ctlO op).2.2.1), (.string (ctlO op).2.2.2.1), (.bool (ctlO op).2.2.2.2.1)]) rfl rfl (by kernel_rfl) (by kernel_rfl) hk1 (by kernel_rfl) (by kernel_rfl)) rfl rfl ?_; clear hf fa; rintro fa _ w4 ⟨hk4, hg2⟩ hf
    replace hr1 := Row.grown hr1 hg2 (Row.ne_type hr1 hk1 rfl)
    replace hb := hb.trans (grown_below hg2 hb.size hBb1)
    apply wpList_nil
    (try simp only [Exit.then, Exit.inBlock, ↓reduceIte, Nat.reduceEqDiff])
    refine hK5 _ _ ?_
    refine wp_ret ?_
    (try simp only [Exit.then, Exit.inBlock])
    refine retC hf rfl rfl hk4 Tryd.underlying54 rfl (by kernel_rfl) ?_
    refine ⟨?_, hb⟩; unfold ctlP; rw [hqt27_1b]; (try rfl)
  · have hqt27_1b := hqt27_1
    replace hqt27_1 := Bool.eq_false_iff.1 hqt27_1
    try simp only [ne_eq, decide_eq_true_eq, Bool.and_eq_true, Bool.or_eq_true, Bool.not_eq_true', decide_eq_false_iff_not] at hqt27_1
    refine wp_skip ?_
    (try simp only [Exit.then, Exit.inBlock, ↓reduceIte, Nat.reduceEqDiff])
    refine hK3 _ _ ?_
    refine wp_seq_k (fun K6 hK6 => ?_)
    refine wp_region_lit ?_
    refine sqv hf (r_build (vs := []) (cs := #[(.string ⟨#[]⟩), (.int .i64 (0 : Int)), (.string ⟨#[]⟩), (.string ⟨#[]⟩), (.bool false)]) rfl (fun _ => by kernel_rfl)) rfl rfl rfl ?_; clear hf fa; intro fa hf
    refine sqn hf (d_storeK (T := 54) (v := (.agg #[(.string ⟨#[]⟩), (.int .i64 (0 : Int)), (.string ⟨#[]⟩), (.string ⟨#[]⟩), (.bool false)])) (cs := #[(.string ⟨#[]⟩), (.int .i64 (0 : Int)), (.string ⟨#[]⟩), (.string ⟨#[]⟩), (.bool false)]) (cs' := #[(.string ⟨#[]⟩), (.int .i64 (0 : Int)), (.string ⟨#[]⟩), (.string ⟨#[]⟩), (.bool false)]) rfl rfl (by kernel_rfl) (by kernel_rfl) hk1 (by kernel_rfl) (by kernel_rfl)) rfl rfl ?_; clear hf fa; rintro fa _ w5 ⟨hk5, hg3⟩ hf
    replace hk3 := blk_grown hk3 hg3 (by omega)
    replace hb := hb.trans (grown_below hg3 hb.size hBb1)
    apply wpList_nil
    (try simp only [Exit.then, Exit.inBlock, ↓reduceIte, Nat.reduceEqDiff])
    refine hK6 _ _ ?_
    refine wp_ret ?_
    (try simp only [Exit.then, Exit.inBlock])
    refine retC hf rfl rfl hk5 Tryd.underlying54 rfl (by kernel_rfl) ?_
    refine ⟨?_, hb⟩; unfold ctlP; rw [hqt27_1b]; (try rfl)

def namesL : List ByteArray := [⟨#[105, 51, 50, 46, 108, 111, 97, 100]⟩, ⟨#[105, 54, 52, 46, 108, 111, 97, 100]⟩, ⟨#[]⟩, ⟨#[]⟩, ⟨#[105, 51, 50, 46, 108, 111, 97, 100, 56, 95, 115]⟩, ⟨#[105, 51, 50, 46, 108, 111, 97, 100, 56, 95, 117]⟩, ⟨#[105, 51, 50, 46, 108, 111, 97, 100, 49, 54, 95, 115]⟩, ⟨#[105, 51, 50, 46, 108, 111, 97, 100, 49, 54, 95, 117]⟩, ⟨#[105, 54, 52, 46, 108, 111, 97, 100, 56, 95, 115]⟩, ⟨#[105, 54, 52, 46, 108, 111, 97, 100, 56, 95, 117]⟩, ⟨#[105, 54, 52, 46, 108, 111, 97, 100, 49, 54, 95, 115]⟩, ⟨#[105, 54, 52, 46, 108, 111, 97, 100, 49, 54, 95, 117]⟩, ⟨#[105, 54, 52, 46, 108, 111, 97, 100, 51, 50, 95, 115]⟩, ⟨#[105, 54, 52, 46, 108, 111, 97, 100, 51, 50, 95, 117]⟩, ⟨#[105, 51, 50, 46, 115, 116, 111, 114, 101]⟩, ⟨#[105, 54, 52, 46, 115, 116, 111, 114, 101]⟩, ⟨#[]⟩, ⟨#[]⟩, ⟨#[105, 51, 50, 46, 115, 116, 111, 114, 101, 56]⟩, ⟨#[105, 51, 50, 46, 115, 116, 111, 114, 101, 49, 54]⟩, ⟨#[105, 54, 52, 46, 115, 116, 111, 114, 101, 56]⟩, ⟨#[105, 54, 52, 46, 115, 116, 111, 114, 101, 49, 54]⟩, ⟨#[105, 54, 52, 46, 115, 116, 111, 114, 101, 51, 50]⟩]
def nameO (op : Nat) : ByteArray := namesL.getD (op - 40) ⟨#[]⟩
theorem nameO_at {op : Nat} (h : op - 40 < 23) : namesL[op - 40]? = some (nameO op) := by
  unfold nameO
  exact getD_at (l := namesL) (j := op - 40) _ h
theorem nameO_two {op : Nat} (h : ¬ nameO op = ⟨#[]⟩) : 2 ≤ (nameO op).size := by
  by_cases hk : op - 40 < 23
  · have : ∀ j : Fin 23, namesL.getD j.val ⟨#[]⟩ = ⟨#[]⟩ ∨ 2 ≤ (namesL.getD j.val ⟨#[]⟩).size := by decide +kernel
    rcases this ⟨op - 40, hk⟩ with h2 | h2
    · exact absurd h2 h
    · exact h2
  · exfalso; apply h; unfold nameO
    rw [List.getD_eq_getElem?_getD, List.getElem?_eq_none (by show 23 ≤ op - 40; omega)]; rfl
theorem nameO_le (op : Nat) : (nameO op).size ≤ 20 := by
  by_cases hk : op - 40 < 23
  · have : ∀ j : Fin 23, (namesL.getD j.val ⟨#[]⟩).size ≤ 20 := by decide +kernel
    exact this ⟨op - 40, hk⟩
  · unfold nameO
    rw [List.getD_eq_getElem?_getD, List.getElem?_eq_none (by show 23 ≤ op - 40; omega)]; decide

def memP (op : Nat) : MInf :=
  bif (decide (((op : Nat) : Int) = (63 : Int))) then (⟨#[109, 101, 109, 111, 114, 121, 46, 115, 105, 122, 101]⟩, (9 : Int), ⟨#[]⟩, ⟨#[127]⟩, false, ())
  else bif (decide (((op : Nat) : Int) = (64 : Int))) then (⟨#[109, 101, 109, 111, 114, 121, 46, 103, 114, 111, 119]⟩, (9 : Int), ⟨#[127]⟩, ⟨#[127]⟩, false, ())
  else bif (decide (op < 40 ∨ 62 < op)) then (⟨#[]⟩, (0 : Int), ⟨#[]⟩, ⟨#[]⟩, false, ())
  else bif (decide ((nameO op) = ⟨#[]⟩)) then (⟨#[]⟩, (0 : Int), ⟨#[]⟩, ⟨#[]⟩, false, ())
  else bif (decide (((sbt (nameO op) 1 : Nat) : Int) = (51 : Int))) then bif (decide (((op : Nat) : Int) < (54 : Int))) then ((nameO op), (8 : Int), ⟨#[127]⟩, ⟨#[127]⟩, false, ())
  else ((nameO op), (8 : Int), (⟨#[127]⟩ ++ ⟨#[127]⟩), ⟨#[]⟩, false, ())
  else bif (decide (((op : Nat) : Int) < (54 : Int))) then ((nameO op), (8 : Int), ⟨#[127]⟩, ⟨#[126]⟩, false, ())
  else ((nameO op), (8 : Int), (⟨#[127]⟩ ++ ⟨#[126]⟩), ⟨#[]⟩, false, ())

set_option maxHeartbeats 1000000 in
set_option maxRecDepth 100000 in
theorem mem_any (op : Nat) (w : World) (hop : op < 256) : Calls Tryd.prog 46 #[(.int .u8 ((op : Nat) : Int))] w fun e w' => e = .returned (.agg #[(.string (memP op).1), (.int .i64 ((memP op).2.1)), (.string (memP op).2.2.1), (.string (memP op).2.2.2.1), (.bool (memP op).2.2.2.2.1)]) ∧ Below w.heap.size w w' := by
  refine sx_enter (L := [(0, (.int .u8 ((op : Nat) : Int)))]) Tryd.func46 rfl rfl rfl rfl (fun fa hf => ?_)
  have hb : Below w.heap.size w w := Below.refl _ _
  refine wp_seq_k (fun K1 hK1 => ?_)
  refine wp_region_lit ?_
  refine sqdt hf (d_alloc (z := (.agg #[(.string ⟨#[]⟩), (.int .i64 (0 : Int)), (.string ⟨#[]⟩), (.string ⟨#[]⟩), (.bool false)])) (cs := #[(.string ⟨#[]⟩), (.int .i64 (0 : Int)), (.string ⟨#[]⟩), (.string ⟨#[]⟩), (.bool false)]) (by kernel_rfl) rfl) rfl rfl rfl ?_; clear hf fa; rintro fa _ w1 ⟨b1, rfl, hle1, hk1, he1⟩ hf
  have hBb1 : w.heap.size ≤ b1 := Nat.le_trans hb.size hle1
  replace hb := hb.trans (Below.mono he1 hb.size)
  apply wpList_nil
  (try simp only [Exit.then, Exit.inBlock, ↓reduceIte, Nat.reduceEqDiff])
  refine hK1 _ _ ?_
  refine wp_seq_k (fun K2 hK2 => ?_)
  refine wp_region_lit ?_
  refine sqv hf (r_build (vs := [(0, (.string ⟨#[105, 51, 50, 46, 108, 111, 97, 100]⟩)), (1, (.string ⟨#[105, 54, 52, 46, 108, 111, 97, 100]⟩)), (2, (.string ⟨#[]⟩)), (3, (.string ⟨#[]⟩)), (4, (.string ⟨#[105, 51, 50, 46, 108, 111, 97, 100, 56, 95, 115]⟩)), (5, (.string ⟨#[105, 51, 50, 46, 108, 111, 97, 100, 56, 95, 117]⟩)), (6, (.string ⟨#[105, 51, 50, 46, 108, 111, 97, 100, 49, 54, 95, 115]⟩)), (7, (.string ⟨#[105, 51, 50, 46, 108, 111, 97, 100, 49, 54, 95, 117]⟩)), (8, (.string ⟨#[105, 54, 52, 46, 108, 111, 97, 100, 56, 95, 115]⟩)), (9, (.string ⟨#[105, 54, 52, 46, 108, 111, 97, 100, 56, 95, 117]⟩)), (10, (.string ⟨#[105, 54, 52, 46, 108, 111, 97, 100, 49, 54, 95, 115]⟩)), (11, (.string ⟨#[105, 54, 52, 46, 108, 111, 97, 100, 49, 54, 95, 117]⟩)), (12, (.string ⟨#[105, 54, 52, 46, 108, 111, 97, 100, 51, 50, 95, 115]⟩)), (13, (.string ⟨#[105, 54, 52, 46, 108, 111, 97, 100, 51, 50, 95, 117]⟩)), (14, (.string ⟨#[105, 51, 50, 46, 115, 116, 111, 114, 101]⟩)), (15, (.string ⟨#[105, 54, 52, 46, 115, 116, 111, 114, 101]⟩)), (16, (.string ⟨#[]⟩)), (17, (.string ⟨#[]⟩)), (18, (.string ⟨#[105, 51, 50, 46, 115, 116, 111, 114, 101, 56]⟩)), (19, (.string ⟨#[105, 51, 50, 46, 115, 116, 111, 114, 101, 49, 54]⟩)), (20, (.string ⟨#[105, 54, 52, 46, 115, 116, 111, 114, 101, 56]⟩)), (21, (.string ⟨#[105, 54, 52, 46, 115, 116, 111, 114, 101, 49, 54]⟩)), (22, (.string ⟨#[105, 54, 52, 46, 115, 116, 111, 114, 101, 51, 50]⟩))]) (cs := #[(.string ⟨#[105, 51, 50, 46, 108, 111, 97, 100]⟩), (.string ⟨#[105, 54, 52, 46, 108, 111, 97, 100]⟩), (.string ⟨#[]⟩), (.string ⟨#[]⟩), (.string ⟨#[105, 51, 50, 46, 108, 111, 97, 100, 56, 95, 115]⟩), (.string ⟨#[105, 51, 50, 46, 108, 111, 97, 100, 56, 95, 117]⟩), (.string ⟨#[105, 51, 50, 46, 108, 111, 97, 100, 49, 54, 95, 115]⟩), (.string ⟨#[105, 51, 50, 46, 108, 111, 97, 100, 49, 54, 95, 117]⟩), (.string ⟨#[105, 54, 52, 46, 108, 111, 97, 100, 56, 95, 115]⟩), (.string ⟨#[105, 54, 52, 46, 108, 111, 97, 100, 56, 95, 117]⟩), (.string ⟨#[105, 54, 52, 46, 108, 111, 97, 100, 49, 54, 95, 115]⟩), (.string ⟨#[105, 54, 52, 46, 108, 111, 97, 100, 49, 54, 95, 117]⟩), (.string ⟨#[105, 54, 52, 46, 108, 111, 97, 100, 51, 50, 95, 115]⟩), (.string ⟨#[105, 54, 52, 46, 108, 111, 97, 100, 51, 50, 95, 117]⟩), (.string ⟨#[105, 51, 50, 46, 115, 116, 111, 114, 101]⟩), (.string ⟨#[105, 54, 52, 46, 115, 116, 111, 114, 101]⟩), (.string ⟨#[]⟩), (.string ⟨#[]⟩), (.string ⟨#[105, 51, 50, 46, 115, 116, 111, 114, 101, 56]⟩), (.string ⟨#[105, 51, 50, 46, 115, 116, 111, 114, 101, 49, 54]⟩), (.string ⟨#[105, 54, 52, 46, 115, 116, 111, 114, 101, 56]⟩), (.string ⟨#[105, 54, 52, 46, 115, 116, 111, 114, 101, 49, 54]⟩), (.string ⟨#[105, 54, 52, 46, 115, 116, 111, 114, 101, 51, 50]⟩)]) rfl (fun _ => by kernel_rfl)) rfl rfl rfl ?_; clear hf fa; intro fa hf
  refine sqdt hf (d_alloc (z := (.agg #[(.string ⟨#[]⟩), (.string ⟨#[]⟩), (.string ⟨#[]⟩), (.string ⟨#[]⟩), (.string ⟨#[]⟩), (.string ⟨#[]⟩), (.string ⟨#[]⟩), (.string ⟨#[]⟩), (.string ⟨#[]⟩), (.string ⟨#[]⟩), (.string ⟨#[]⟩), (.string ⟨#[]⟩), (.string ⟨#[]⟩), (.string ⟨#[]⟩), (.string ⟨#[]⟩), (.string ⟨#[]⟩), (.string ⟨#[]⟩), (.string ⟨#[]⟩), (.string ⟨#[]⟩), (.string ⟨#[]⟩), (.string ⟨#[]⟩), (.string ⟨#[]⟩), (.string ⟨#[]⟩)])) (cs := #[(.string ⟨#[]⟩), (.string ⟨#[]⟩), (.string ⟨#[]⟩), (.string ⟨#[]⟩), (.string ⟨#[]⟩), (.string ⟨#[]⟩), (.string ⟨#[]⟩), (.string ⟨#[]⟩), (.string ⟨#[]⟩), (.string ⟨#[]⟩), (.string ⟨#[]⟩), (.string ⟨#[]⟩), (.string ⟨#[]⟩), (.string ⟨#[]⟩), (.string ⟨#[]⟩), (.string ⟨#[]⟩), (.string ⟨#[]⟩), (.string ⟨#[]⟩), (.string ⟨#[]⟩), (.string ⟨#[]⟩), (.string ⟨#[]⟩), (.string ⟨#[]⟩), (.string ⟨#[]⟩)]) (by kernel_rfl) rfl) rfl rfl rfl ?_; clear hf fa; rintro fa _ w2 ⟨b2, rfl, hle2, hk2, he2⟩ hf
  have hBb2 : w.heap.size ≤ b2 := Nat.le_trans hb.size hle2
  have : b1 < b2 := Nat.lt_of_lt_of_le (blk_lt hk1) hle2
  replace hk1 := blk_ext hk1 he2
  replace hb := hb.trans (Below.mono he2 hb.size)
  refine sqn hf (d_storeK (T := 120) (v := (.agg #[(.string ⟨#[105, 51, 50, 46, 108, 111, 97, 100]⟩), (.string ⟨#[105, 54, 52, 46, 108, 111, 97, 100]⟩), (.string ⟨#[]⟩), (.string ⟨#[]⟩), (.string ⟨#[105, 51, 50, 46, 108, 111, 97, 100, 56, 95, 115]⟩), (.string ⟨#[105, 51, 50, 46, 108, 111, 97, 100, 56, 95, 117]⟩), (.string ⟨#[105, 51, 50, 46, 108, 111, 97, 100, 49, 54, 95, 115]⟩), (.string ⟨#[105, 51, 50, 46, 108, 111, 97, 100, 49, 54, 95, 117]⟩), (.string ⟨#[105, 54, 52, 46, 108, 111, 97, 100, 56, 95, 115]⟩), (.string ⟨#[105, 54, 52, 46, 108, 111, 97, 100, 56, 95, 117]⟩), (.string ⟨#[105, 54, 52, 46, 108, 111, 97, 100, 49, 54, 95, 115]⟩), (.string ⟨#[105, 54, 52, 46, 108, 111, 97, 100, 49, 54, 95, 117]⟩), (.string ⟨#[105, 54, 52, 46, 108, 111, 97, 100, 51, 50, 95, 115]⟩), (.string ⟨#[105, 54, 52, 46, 108, 111, 97, 100, 51, 50, 95, 117]⟩), (.string ⟨#[105, 51, 50, 46, 115, 116, 111, 114, 101]⟩), (.string ⟨#[105, 54, 52, 46, 115, 116, 111, 114, 101]⟩), (.string ⟨#[]⟩), (.string ⟨#[]⟩), (.string ⟨#[105, 51, 50, 46, 115, 116, 111, 114, 101, 56]⟩), (.string ⟨#[105, 51, 50, 46, 115, 116, 111, 114, 101, 49, 54]⟩), (.string ⟨#[105, 54, 52, 46, 115, 116, 111, 114, 101, 56]⟩), (.string ⟨#[105, 54, 52, 46, 115, 116, 111, 114, 101, 49, 54]⟩), (.string ⟨#[105, 54, 52, 46, 115, 116, 111, 114, 101, 51, 50]⟩)])) (cs := #[(.string ⟨#[]⟩), (.string ⟨#[]⟩), (.string ⟨#[]⟩), (.string ⟨#[]⟩), (.string ⟨#[]⟩), (.string ⟨#[]⟩), (.string ⟨#[]⟩), (.string ⟨#[]⟩), (.string ⟨#[]⟩), (.string ⟨#[]⟩), (.string ⟨#[]⟩), (.string ⟨#[]⟩), (.string ⟨#[]⟩), (.string ⟨#[]⟩), (.string ⟨#[]⟩), (.string ⟨#[]⟩), (.string ⟨#[]⟩), (.string ⟨#[]⟩), (.string ⟨#[]⟩), (.string ⟨#[]⟩), (.string ⟨#[]⟩), (.string ⟨#[]⟩), (.string ⟨#[]⟩)]) (cs' := #[(.string ⟨#[105, 51, 50, 46, 108, 111, 97, 100]⟩), (.string ⟨#[105, 54, 52, 46, 108, 111, 97, 100]⟩), (.string ⟨#[]⟩), (.string ⟨#[]⟩), (.string ⟨#[105, 51, 50, 46, 108, 111, 97, 100, 56, 95, 115]⟩), (.string ⟨#[105, 51, 50, 46, 108, 111, 97, 100, 56, 95, 117]⟩), (.string ⟨#[105, 51, 50, 46, 108, 111, 97, 100, 49, 54, 95, 115]⟩), (.string ⟨#[105, 51, 50, 46, 108, 111, 97, 100, 49, 54, 95, 117]⟩), (.string ⟨#[105, 54, 52, 46, 108, 111, 97, 100, 56, 95, 115]⟩), (.string ⟨#[105, 54, 52, 46, 108, 111, 97, 100, 56, 95, 117]⟩), (.string ⟨#[105, 54, 52, 46, 108, 111, 97, 100, 49, 54, 95, 115]⟩), (.string ⟨#[105, 54, 52, 46, 108, 111, 97, 100, 49, 54, 95, 117]⟩), (.string ⟨#[105, 54, 52, 46, 108, 111, 97, 100, 51, 50, 95, 115]⟩), (.string ⟨#[105, 54, 52, 46, 108, 111, 97, 100, 51, 50, 95, 117]⟩), (.string ⟨#[105, 51, 50, 46, 115, 116, 111, 114, 101]⟩), (.string ⟨#[105, 54, 52, 46, 115, 116, 111, 114, 101]⟩), (.string ⟨#[]⟩), (.string ⟨#[]⟩), (.string ⟨#[105, 51, 50, 46, 115, 116, 111, 114, 101, 56]⟩), (.string ⟨#[105, 51, 50, 46, 115, 116, 111, 114, 101, 49, 54]⟩), (.string ⟨#[105, 54, 52, 46, 115, 116, 111, 114, 101, 56]⟩), (.string ⟨#[105, 54, 52, 46, 115, 116, 111, 114, 101, 49, 54]⟩), (.string ⟨#[105, 54, 52, 46, 115, 116, 111, 114, 101, 51, 50]⟩)]) rfl rfl (by kernel_rfl) (by kernel_rfl) hk2 (by kernel_rfl) (by kernel_rfl)) rfl rfl ?_; clear hf fa; rintro fa _ w3 ⟨hk3, hg1⟩ hf
  replace hk1 := blk_grown hk1 hg1 (by omega)
  replace hb := hb.trans (grown_below hg1 hb.size hBb2)
  apply wpList_nil
  (try simp only [Exit.then, Exit.inBlock, ↓reduceIte, Nat.reduceEqDiff])
  refine hK2 _ _ ?_
  refine wp_seq_k (fun K3 hK3 => ?_)
  refine wp_block ?_
  refine wp_seq_k (fun K4 hK4 => ?_)
  refine wp_region_lit ?_
  refine sqv hf (r_move rfl) rfl rfl rfl ?_; clear hf fa; intro fa hf
  refine sqv hf (r_eq rfl rfl) rfl rfl rfl ?_; clear hf fa; intro fa hf
  refine sqv hf (r_assign rfl) rfl rfl rfl ?_; clear hf fa; intro fa hf
  apply wpList_nil
  (try simp only [Exit.then, Exit.inBlock, ↓reduceIte, Nat.reduceEqDiff])
  refine hK4 _ _ ?_
  refine wp_cond_split (t := (decide (((op : Nat) : Int) = (63 : Int)))) (hf.ev rfl) (fun hqt7_1 => ?_) (fun hqt7_1 => ?_)
  · have hqt7_1b := hqt7_1
    try simp only [decide_eq_true_eq, Bool.and_eq_true, Bool.or_eq_true, Bool.not_eq_true', decide_eq_false_iff_not, ne_eq, Bool.not_eq_true] at hqt7_1
    refine wp_seq_k (fun K5 hK5 => ?_)
    refine wp_region_lit ?_
    refine sqv hf (r_build (vs := [(0, (.string ⟨#[109, 101, 109, 111, 114, 121, 46, 115, 105, 122, 101]⟩)), (1, (.int .i64 (9 : Int))), (3, (.string ⟨#[127]⟩))]) (cs := #[(.string ⟨#[109, 101, 109, 111, 114, 121, 46, 115, 105, 122, 101]⟩), (.int .i64 (9 : Int)), (.string ⟨#[]⟩), (.string ⟨#[127]⟩), (.bool false)]) rfl (fun _ => by kernel_rfl)) rfl rfl rfl ?_; clear hf fa; intro fa hf
    refine sqn hf (d_storeK (T := 54) (v := (.agg #[(.string ⟨#[109, 101, 109, 111, 114, 121, 46, 115, 105, 122, 101]⟩), (.int .i64 (9 : Int)), (.string ⟨#[]⟩), (.string ⟨#[127]⟩), (.bool false)])) (cs := #[(.string ⟨#[]⟩), (.int .i64 (0 : Int)), (.string ⟨#[]⟩), (.string ⟨#[]⟩), (.bool false)]) (cs' := #[(.string ⟨#[109, 101, 109, 111, 114, 121, 46, 115, 105, 122, 101]⟩), (.int .i64 (9 : Int)), (.string ⟨#[]⟩), (.string ⟨#[127]⟩), (.bool false)]) rfl rfl (by kernel_rfl) (by kernel_rfl) hk1 (by kernel_rfl) (by kernel_rfl)) rfl rfl ?_; clear hf fa; rintro fa _ w4 ⟨hk4, hg2⟩ hf
    replace hk3 := blk_grown hk3 hg2 (by omega)
    replace hb := hb.trans (grown_below hg2 hb.size hBb1)
    apply wpList_nil
    (try simp only [Exit.then, Exit.inBlock, ↓reduceIte, Nat.reduceEqDiff])
    refine hK5 _ _ ?_
    refine wp_ret ?_
    (try simp only [Exit.then, Exit.inBlock])
    refine retC hf rfl rfl hk4 Tryd.underlying54 rfl (by kernel_rfl) ?_
    refine ⟨?_, hb⟩; unfold memP; rw [hqt7_1b]; (try rfl)
  · have hqt7_1b := hqt7_1
    replace hqt7_1 := Bool.eq_false_iff.1 hqt7_1
    try simp only [ne_eq, decide_eq_true_eq, Bool.and_eq_true, Bool.or_eq_true, Bool.not_eq_true', decide_eq_false_iff_not] at hqt7_1
    refine wp_seq_k (fun K6 hK6 => ?_)
    refine wp_region_lit ?_
    refine sqv hf (r_move rfl) rfl rfl rfl ?_; clear hf fa; intro fa hf
    refine sqv hf (r_eq rfl rfl) rfl rfl rfl ?_; clear hf fa; intro fa hf
    refine sqv hf (r_assign rfl) rfl rfl rfl ?_; clear hf fa; intro fa hf
    apply wpList_nil
    (try simp only [Exit.then, Exit.inBlock, ↓reduceIte, Nat.reduceEqDiff])
    refine hK6 _ _ ?_
    refine wp_cond_split (t := (decide (((op : Nat) : Int) = (64 : Int)))) (hf.ev rfl) (fun hqt11_1 => ?_) (fun hqt11_1 => ?_)
    · have hqt11_1b := hqt11_1
      try simp only [decide_eq_true_eq, Bool.and_eq_true, Bool.or_eq_true, Bool.not_eq_true', decide_eq_false_iff_not, ne_eq, Bool.not_eq_true] at hqt11_1
      refine wp_seq_k (fun K7 hK7 => ?_)
      refine wp_region_lit ?_
      refine sqv hf (r_build (vs := [(0, (.string ⟨#[109, 101, 109, 111, 114, 121, 46, 103, 114, 111, 119]⟩)), (1, (.int .i64 (9 : Int))), (2, (.string ⟨#[127]⟩)), (3, (.string ⟨#[127]⟩))]) (cs := #[(.string ⟨#[109, 101, 109, 111, 114, 121, 46, 103, 114, 111, 119]⟩), (.int .i64 (9 : Int)), (.string ⟨#[127]⟩), (.string ⟨#[127]⟩), (.bool false)]) rfl (fun _ => by kernel_rfl)) rfl rfl rfl ?_; clear hf fa; intro fa hf
      refine sqn hf (d_storeK (T := 54) (v := (.agg #[(.string ⟨#[109, 101, 109, 111, 114, 121, 46, 103, 114, 111, 119]⟩), (.int .i64 (9 : Int)), (.string ⟨#[127]⟩), (.string ⟨#[127]⟩), (.bool false)])) (cs := #[(.string ⟨#[]⟩), (.int .i64 (0 : Int)), (.string ⟨#[]⟩), (.string ⟨#[]⟩), (.bool false)]) (cs' := #[(.string ⟨#[109, 101, 109, 111, 114, 121, 46, 103, 114, 111, 119]⟩), (.int .i64 (9 : Int)), (.string ⟨#[127]⟩), (.string ⟨#[127]⟩), (.bool false)]) rfl rfl (by kernel_rfl) (by kernel_rfl) hk1 (by kernel_rfl) (by kernel_rfl)) rfl rfl ?_; clear hf fa; rintro fa _ w5 ⟨hk5, hg3⟩ hf
      replace hk3 := blk_grown hk3 hg3 (by omega)
      replace hb := hb.trans (grown_below hg3 hb.size hBb1)
      apply wpList_nil
      (try simp only [Exit.then, Exit.inBlock, ↓reduceIte, Nat.reduceEqDiff])
      refine hK7 _ _ ?_
      refine wp_ret ?_
      (try simp only [Exit.then, Exit.inBlock])
      refine retC hf rfl rfl hk5 Tryd.underlying54 rfl (by kernel_rfl) ?_
      refine ⟨?_, hb⟩; unfold memP; rw [hqt7_1b, hqt11_1b]; (try rfl)
    · have hqt11_1b := hqt11_1
      replace hqt11_1 := Bool.eq_false_iff.1 hqt11_1
      try simp only [ne_eq, decide_eq_true_eq, Bool.and_eq_true, Bool.or_eq_true, Bool.not_eq_true', decide_eq_false_iff_not] at hqt11_1
      refine wp_seq_k (fun K8 hK8 => ?_)
      skip
      by_cases hsp1 : op < 40 ∨ 62 < op
      · have hsp1b : decide (op < 40 ∨ 62 < op) = true := decide_eq_true hsp1
        skip
        refine wp_region_lit ?_
        refine sqv hf (r_move rfl) rfl rfl rfl ?_; clear hf fa; intro fa hf
        refine sqv hf (r_lt rfl rfl) rfl rfl rfl ?_; clear hf fa; intro fa hf
        refine sqv hf (r_move rfl) rfl rfl rfl ?_; clear hf fa; intro fa hf
        refine sqgF (act := (!(decide (((op : Nat) : Int) < (40 : Int))))) (ag := true) (c := (decide (((op : Nat) : Int) < (40 : Int)))) (v := (.int .u8 ((op : Nat) : Int))) hf rfl rfl rfl (fun hact => (r_move rfl)) rfl rfl ?_; clear hf fa; intro fa hf
        refine sqgF (act := (!(decide (((op : Nat) : Int) < (40 : Int))))) (ag := true) (c := (decide (((op : Nat) : Int) < (40 : Int)))) (v := (.bool (decide ((62 : Int) < ((op : Nat) : Int))))) hf rfl rfl rfl (fun hact => (r_gt (gb_ev hact rfl) rfl)) rfl rfl ?_; clear hf fa; intro fa hf
        refine sqv hf (Runs.veq (r_pickO (b := (decide (((op : Nat) : Int) < (40 : Int)))) (e := (decide ((62 : Int) < ((op : Nat) : Int)))) rfl rfl rfl) (congrArg Value.bool (show _ = true from (by have h := hsp1; simp; omega)))) rfl rfl rfl ?_; clear hf fa; intro fa hf
        refine sqv hf (r_move rfl) rfl rfl rfl ?_; clear hf fa; intro fa hf
        refine sqgF (act := false) (ag := true) (c := true) (v := .bool false) hf rfl rfl rfl (fun hact => by cases hact) rfl rfl ?_; clear hf fa; intro fa hf
        refine sqgF (act := false) (ag := true) (c := true) (v := .bool false) hf rfl rfl rfl (fun hact => by cases hact) rfl rfl ?_; clear hf fa; intro fa hf
        refine sqgF (act := false) (ag := true) (c := true) (v := .bool false) hf rfl rfl rfl (fun hact => by cases hact) rfl rfl ?_; clear hf fa; intro fa hf
        refine sqgF (act := false) (ag := true) (c := true) (v := .bool false) hf rfl rfl rfl (fun hact => by cases hact) rfl rfl ?_; clear hf fa; intro fa hf
        refine sqgF (act := false) (ag := true) (c := true) (v := .bool false) hf rfl rfl rfl (fun hact => by cases hact) rfl rfl ?_; clear hf fa; intro fa hf
        refine sqv hf (r_pick (b := true) rfl rfl rfl rfl) rfl rfl rfl ?_; clear hf fa; intro fa hf
        refine sqv hf (r_assign rfl) rfl rfl rfl ?_; clear hf fa; intro fa hf
        apply wpList_nil
        (try simp only [Exit.then, Exit.inBlock, ↓reduceIte, Nat.reduceEqDiff])
        refine hK8 _ _ ?_
        refine wp_cond_true (hf.ev rfl) ?_
        refine wp_seq_k (fun K9 hK9 => ?_)
        refine wp_region_lit ?_
        refine sqv hf (r_build (vs := []) (cs := #[(.string ⟨#[]⟩), (.int .i64 (0 : Int)), (.string ⟨#[]⟩), (.string ⟨#[]⟩), (.bool false)]) rfl (fun _ => by kernel_rfl)) rfl rfl rfl ?_; clear hf fa; intro fa hf
        refine sqn hf (d_storeK (T := 54) (v := (.agg #[(.string ⟨#[]⟩), (.int .i64 (0 : Int)), (.string ⟨#[]⟩), (.string ⟨#[]⟩), (.bool false)])) (cs := #[(.string ⟨#[]⟩), (.int .i64 (0 : Int)), (.string ⟨#[]⟩), (.string ⟨#[]⟩), (.bool false)]) (cs' := #[(.string ⟨#[]⟩), (.int .i64 (0 : Int)), (.string ⟨#[]⟩), (.string ⟨#[]⟩), (.bool false)]) rfl rfl (by kernel_rfl) (by kernel_rfl) hk1 (by kernel_rfl) (by kernel_rfl)) rfl rfl ?_; clear hf fa; rintro fa _ w6 ⟨hk6, hg4⟩ hf
        replace hk3 := blk_grown hk3 hg4 (by omega)
        replace hb := hb.trans (grown_below hg4 hb.size hBb1)
        apply wpList_nil
        (try simp only [Exit.then, Exit.inBlock, ↓reduceIte, Nat.reduceEqDiff])
        refine hK9 _ _ ?_
        refine wp_ret ?_
        (try simp only [Exit.then, Exit.inBlock])
        refine retC hf rfl rfl hk6 Tryd.underlying54 rfl (by kernel_rfl) ?_
        refine ⟨?_, hb⟩; unfold memP; rw [hqt7_1b, hqt11_1b, hsp1b]; (try rfl)
      · have hsp1b : decide (op < 40 ∨ 62 < op) = false := decide_eq_false hsp1
        have hr1 := Row.of_new (k := 1) (V := vStr) (l := [(⟨#[105, 51, 50, 46, 108, 111, 97, 100]⟩ : ByteArray), (⟨#[105, 54, 52, 46, 108, 111, 97, 100]⟩ : ByteArray), (⟨#[]⟩ : ByteArray), (⟨#[]⟩ : ByteArray), (⟨#[105, 51, 50, 46, 108, 111, 97, 100, 56, 95, 115]⟩ : ByteArray), (⟨#[105, 51, 50, 46, 108, 111, 97, 100, 56, 95, 117]⟩ : ByteArray), (⟨#[105, 51, 50, 46, 108, 111, 97, 100, 49, 54, 95, 115]⟩ : ByteArray), (⟨#[105, 51, 50, 46, 108, 111, 97, 100, 49, 54, 95, 117]⟩ : ByteArray), (⟨#[105, 54, 52, 46, 108, 111, 97, 100, 56, 95, 115]⟩ : ByteArray), (⟨#[105, 54, 52, 46, 108, 111, 97, 100, 56, 95, 117]⟩ : ByteArray), (⟨#[105, 54, 52, 46, 108, 111, 97, 100, 49, 54, 95, 115]⟩ : ByteArray), (⟨#[105, 54, 52, 46, 108, 111, 97, 100, 49, 54, 95, 117]⟩ : ByteArray), (⟨#[105, 54, 52, 46, 108, 111, 97, 100, 51, 50, 95, 115]⟩ : ByteArray), (⟨#[105, 54, 52, 46, 108, 111, 97, 100, 51, 50, 95, 117]⟩ : ByteArray), (⟨#[105, 51, 50, 46, 115, 116, 111, 114, 101]⟩ : ByteArray), (⟨#[105, 54, 52, 46, 115, 116, 111, 114, 101]⟩ : ByteArray), (⟨#[]⟩ : ByteArray), (⟨#[]⟩ : ByteArray), (⟨#[105, 51, 50, 46, 115, 116, 111, 114, 101, 56]⟩ : ByteArray), (⟨#[105, 51, 50, 46, 115, 116, 111, 114, 101, 49, 54]⟩ : ByteArray), (⟨#[105, 54, 52, 46, 115, 116, 111, 114, 101, 56]⟩ : ByteArray), (⟨#[105, 54, 52, 46, 115, 116, 111, 114, 101, 49, 54]⟩ : ByteArray), (⟨#[105, 54, 52, 46, 115, 116, 111, 114, 101, 51, 50]⟩ : ByteArray)]) (base := w.heap.size) hk3 (by omega) rfl rfl (Nat.le_of_ble_eq_true rfl)
        skip
        refine wp_region_lit ?_
        refine sqv hf (r_move rfl) rfl rfl rfl ?_; clear hf fa; intro fa hf
        refine sqv hf (r_lt rfl rfl) rfl rfl rfl ?_; clear hf fa; intro fa hf
        refine sqv hf (r_move rfl) rfl rfl rfl ?_; clear hf fa; intro fa hf
        refine sqgF (act := (!(decide (((op : Nat) : Int) < (40 : Int))))) (ag := true) (c := (decide (((op : Nat) : Int) < (40 : Int)))) (v := (.int .u8 ((op : Nat) : Int))) hf rfl rfl rfl (fun hact => (r_move rfl)) rfl rfl ?_; clear hf fa; intro fa hf
        refine sqgF (act := (!(decide (((op : Nat) : Int) < (40 : Int))))) (ag := true) (c := (decide (((op : Nat) : Int) < (40 : Int)))) (v := (.bool (decide ((62 : Int) < ((op : Nat) : Int))))) hf rfl rfl rfl (fun hact => (r_gt (gb_ev hact rfl) rfl)) rfl rfl ?_; clear hf fa; intro fa hf
        refine sqv hf (Runs.veq (r_pickO (b := (decide (((op : Nat) : Int) < (40 : Int)))) (e := (decide ((62 : Int) < ((op : Nat) : Int)))) rfl rfl rfl) (congrArg Value.bool (show _ = false from (by have h := hsp1; simp; omega)))) rfl rfl rfl ?_; clear hf fa; intro fa hf
        refine sqv hf (r_move rfl) rfl rfl rfl ?_; clear hf fa; intro fa hf
        refine sqgd (act := true) (g := 6) (want := false) (ag := true) (c := false) hf (by rfl) (by rfl) rfl (fun _ =>  Runs.does (R := fun vq wq => vq = (.int .u8 ((op : Nat) : Int)) ∧ w3 = wq) (r_move rfl) ⟨rfl, rfl⟩) (fun h => by cases h) rfl ?_; clear hf fa; rintro fa _ _ ⟨rfl, rfl⟩ hf
        change Fr _ _ ((23, (.int .u8 ((op : Nat) : Int))) :: _) at hf
        refine sqgd (act := true) (g := 6) (want := false) (ag := true) (c := false) hf (by rfl) (by rfl) rfl (fun _ =>  Runs.does (R := fun vq wq => vq = (.int .u8 (((op - 40) : Nat) : Int)) ∧ w3 = wq) (r_sub (C := (((op - 40) : Nat) : Int)) rfl rfl (by rw [IntKind.wrap_u8]; omega)) ⟨rfl, rfl⟩) (fun h => by cases h) rfl ?_; clear hf fa; rintro fa _ _ ⟨rfl, rfl⟩ hf
        change Fr _ _ ((24, (.int .u8 (((op - 40) : Nat) : Int))) :: _) at hf
        have hy1 : ([(⟨#[105, 51, 50, 46, 108, 111, 97, 100]⟩ : ByteArray), (⟨#[105, 54, 52, 46, 108, 111, 97, 100]⟩ : ByteArray), (⟨#[]⟩ : ByteArray), (⟨#[]⟩ : ByteArray), (⟨#[105, 51, 50, 46, 108, 111, 97, 100, 56, 95, 115]⟩ : ByteArray), (⟨#[105, 51, 50, 46, 108, 111, 97, 100, 56, 95, 117]⟩ : ByteArray), (⟨#[105, 51, 50, 46, 108, 111, 97, 100, 49, 54, 95, 115]⟩ : ByteArray), (⟨#[105, 51, 50, 46, 108, 111, 97, 100, 49, 54, 95, 117]⟩ : ByteArray), (⟨#[105, 54, 52, 46, 108, 111, 97, 100, 56, 95, 115]⟩ : ByteArray), (⟨#[105, 54, 52, 46, 108, 111, 97, 100, 56, 95, 117]⟩ : ByteArray), (⟨#[105, 54, 52, 46, 108, 111, 97, 100, 49, 54, 95, 115]⟩ : ByteArray), (⟨#[105, 54, 52, 46, 108, 111, 97, 100, 49, 54, 95, 117]⟩ : ByteArray), (⟨#[105, 54, 52, 46, 108, 111, 97, 100, 51, 50, 95, 115]⟩ : ByteArray), (⟨#[105, 54, 52, 46, 108, 111, 97, 100, 51, 50, 95, 117]⟩ : ByteArray), (⟨#[105, 51, 50, 46, 115, 116, 111, 114, 101]⟩ : ByteArray), (⟨#[105, 54, 52, 46, 115, 116, 111, 114, 101]⟩ : ByteArray), (⟨#[]⟩ : ByteArray), (⟨#[]⟩ : ByteArray), (⟨#[105, 51, 50, 46, 115, 116, 111, 114, 101, 56]⟩ : ByteArray), (⟨#[105, 51, 50, 46, 115, 116, 111, 114, 101, 49, 54]⟩ : ByteArray), (⟨#[105, 54, 52, 46, 115, 116, 111, 114, 101, 56]⟩ : ByteArray), (⟨#[105, 54, 52, 46, 115, 116, 111, 114, 101, 49, 54]⟩ : ByteArray), (⟨#[105, 54, 52, 46, 115, 116, 111, 114, 101, 51, 50]⟩ : ByteArray)])[((op - 40))]? = some (nameO op) := (nameO_at (by omega))
        have hel1 := RdS.at (Row.rd (by intros; rfl) hr1) hy1
        obtain ⟨_, _, hab, hlr1, hel1⟩ := hel1
        cases hab
        refine sqgd (act := true) (g := 6) (want := false) (ag := true) (c := false) hf (by rfl) (by rfl) rfl (fun _ =>  Runs.does (R := fun vq wq => vq = (.pointer (some ⟨b2, (0 + ((op - 40)) * 1), none⟩)) ∧ w3 = wq) (r_ixp (sz := 1) (j := ((op - 40))) (nn := 23) rfl rfl Tryd.underlying120 (by kernel_rfl) rfl (by omega) rfl) ⟨rfl, rfl⟩) (fun h => by cases h) rfl ?_; clear hf fa; rintro fa _ _ ⟨rfl, rfl⟩ hf
        change Fr _ _ ((25, (.pointer (some ⟨b2, (0 + ((op - 40)) * 1), none⟩))) :: _) at hf
        refine sqgd (act := true) (g := 6) (want := false) (ag := true) (c := false) hf (by rfl) (by rfl) rfl (fun _ =>  Runs.does (R := fun vq wq => vq = (.string (nameO op)) ∧ w3 = wq) (r_load (v := (.string (nameO op))) rfl Tryd.underlying9 rfl (cellsAt_cell hel1 (i := 0) rfl rfl)) ⟨rfl, rfl⟩) (fun h => by cases h) rfl ?_; clear hf fa; rintro fa _ _ ⟨rfl, rfl⟩ hf
        change Fr _ _ ((26, (.string (nameO op))) :: _) at hf
        refine sqgd (act := true) (g := 6) (want := false) (ag := true) (c := false) hf (by rfl) (by rfl) rfl (fun _ =>  Runs.does (R := fun vq wq => vq = (.bool (decide ((nameO op) = ⟨#[]⟩))) ∧ w3 = wq) (r_seq rfl rfl) ⟨rfl, rfl⟩) (fun h => by cases h) rfl ?_; clear hf fa; rintro fa _ _ ⟨rfl, rfl⟩ hf
        change Fr _ _ ((27, (.bool (decide ((nameO op) = ⟨#[]⟩)))) :: _) at hf
        refine sqv hf (r_pick (b := false) rfl rfl rfl rfl) rfl rfl rfl ?_; clear hf fa; intro fa hf
        refine sqv hf (r_assign rfl) rfl rfl rfl ?_; clear hf fa; intro fa hf
        apply wpList_nil
        (try simp only [Exit.then, Exit.inBlock, ↓reduceIte, Nat.reduceEqDiff])
        refine hK8 _ _ ?_
        refine wp_cond_split (t := (decide ((nameO op) = ⟨#[]⟩))) (hf.ev rfl) (fun hqt15_2 => ?_) (fun hqt15_2 => ?_)
        · have hqt15_2b := hqt15_2
          try simp only [decide_eq_true_eq, Bool.and_eq_true, Bool.or_eq_true, Bool.not_eq_true', decide_eq_false_iff_not, ne_eq, Bool.not_eq_true] at hqt15_2
          refine wp_seq_k (fun K10 hK10 => ?_)
          refine wp_region_lit ?_
          refine sqv hf (r_build (vs := []) (cs := #[(.string ⟨#[]⟩), (.int .i64 (0 : Int)), (.string ⟨#[]⟩), (.string ⟨#[]⟩), (.bool false)]) rfl (fun _ => by kernel_rfl)) rfl rfl rfl ?_; clear hf fa; intro fa hf
          refine sqn hf (d_storeK (T := 54) (v := (.agg #[(.string ⟨#[]⟩), (.int .i64 (0 : Int)), (.string ⟨#[]⟩), (.string ⟨#[]⟩), (.bool false)])) (cs := #[(.string ⟨#[]⟩), (.int .i64 (0 : Int)), (.string ⟨#[]⟩), (.string ⟨#[]⟩), (.bool false)]) (cs' := #[(.string ⟨#[]⟩), (.int .i64 (0 : Int)), (.string ⟨#[]⟩), (.string ⟨#[]⟩), (.bool false)]) rfl rfl (by kernel_rfl) (by kernel_rfl) hk1 (by kernel_rfl) (by kernel_rfl)) rfl rfl ?_; clear hf fa; rintro fa _ w7 ⟨hk7, hg5⟩ hf
          replace hr1 := Row.grown hr1 hg5 (Row.ne_type hr1 hk1 rfl)
          replace hb := hb.trans (grown_below hg5 hb.size hBb1)
          apply wpList_nil
          (try simp only [Exit.then, Exit.inBlock, ↓reduceIte, Nat.reduceEqDiff])
          refine hK10 _ _ ?_
          refine wp_ret ?_
          (try simp only [Exit.then, Exit.inBlock])
          refine retC hf rfl rfl hk7 Tryd.underlying54 rfl (by kernel_rfl) ?_
          refine ⟨?_, hb⟩; unfold memP; rw [hqt7_1b, hqt11_1b, hsp1b, hqt15_2b]; (try rfl)
        · have hqt15_2b := hqt15_2
          replace hqt15_2 := Bool.eq_false_iff.1 hqt15_2
          try simp only [ne_eq, decide_eq_true_eq, Bool.and_eq_true, Bool.or_eq_true, Bool.not_eq_true', decide_eq_false_iff_not] at hqt15_2
          refine wp_skip ?_
          (try simp only [Exit.then, Exit.inBlock, ↓reduceIte, Nat.reduceEqDiff])
          refine hK3 _ _ ?_
          refine wp_seq_k (fun K11 hK11 => ?_)
          have hn2 : 2 ≤ (nameO op).size := nameO_two (by have h := hqt15_2; exact h)
          have hn20 := nameO_le op
          refine wp_region_lit ?_
          refine sqv hf (r_move rfl) rfl rfl rfl ?_; clear hf fa; intro fa hf
          refine sqv hf (r_sub (C := (((op - 40) : Nat) : Int)) rfl rfl (by rw [IntKind.wrap_u8]; omega)) rfl rfl rfl ?_; clear hf fa; intro fa hf
          have hy2 : ([(⟨#[105, 51, 50, 46, 108, 111, 97, 100]⟩ : ByteArray), (⟨#[105, 54, 52, 46, 108, 111, 97, 100]⟩ : ByteArray), (⟨#[]⟩ : ByteArray), (⟨#[]⟩ : ByteArray), (⟨#[105, 51, 50, 46, 108, 111, 97, 100, 56, 95, 115]⟩ : ByteArray), (⟨#[105, 51, 50, 46, 108, 111, 97, 100, 56, 95, 117]⟩ : ByteArray), (⟨#[105, 51, 50, 46, 108, 111, 97, 100, 49, 54, 95, 115]⟩ : ByteArray), (⟨#[105, 51, 50, 46, 108, 111, 97, 100, 49, 54, 95, 117]⟩ : ByteArray), (⟨#[105, 54, 52, 46, 108, 111, 97, 100, 56, 95, 115]⟩ : ByteArray), (⟨#[105, 54, 52, 46, 108, 111, 97, 100, 56, 95, 117]⟩ : ByteArray), (⟨#[105, 54, 52, 46, 108, 111, 97, 100, 49, 54, 95, 115]⟩ : ByteArray), (⟨#[105, 54, 52, 46, 108, 111, 97, 100, 49, 54, 95, 117]⟩ : ByteArray), (⟨#[105, 54, 52, 46, 108, 111, 97, 100, 51, 50, 95, 115]⟩ : ByteArray), (⟨#[105, 54, 52, 46, 108, 111, 97, 100, 51, 50, 95, 117]⟩ : ByteArray), (⟨#[105, 51, 50, 46, 115, 116, 111, 114, 101]⟩ : ByteArray), (⟨#[105, 54, 52, 46, 115, 116, 111, 114, 101]⟩ : ByteArray), (⟨#[]⟩ : ByteArray), (⟨#[]⟩ : ByteArray), (⟨#[105, 51, 50, 46, 115, 116, 111, 114, 101, 56]⟩ : ByteArray), (⟨#[105, 51, 50, 46, 115, 116, 111, 114, 101, 49, 54]⟩ : ByteArray), (⟨#[105, 54, 52, 46, 115, 116, 111, 114, 101, 56]⟩ : ByteArray), (⟨#[105, 54, 52, 46, 115, 116, 111, 114, 101, 49, 54]⟩ : ByteArray), (⟨#[105, 54, 52, 46, 115, 116, 111, 114, 101, 51, 50]⟩ : ByteArray)])[((op - 40))]? = some (nameO op) := (nameO_at (by omega))
          have hel2 := RdS.at (Row.rd (by intros; rfl) hr1) hy2
          obtain ⟨_, _, hab, hlr2, hel2⟩ := hel2
          cases hab
          refine sqv hf (r_ixp (sz := 1) (j := ((op - 40))) (nn := 23) rfl rfl Tryd.underlying120 (by kernel_rfl) rfl (by omega) rfl) rfl rfl rfl ?_; clear hf fa; intro fa hf
          refine sqv hf (r_load (v := (.string (nameO op))) rfl Tryd.underlying9 rfl (cellsAt_cell hel2 (i := 0) rfl rfl)) rfl rfl rfl ?_; clear hf fa; intro fa hf
          refine sqv hf (r_build (vs := [(0, (.string (nameO op))), (1, (.int .i64 (8 : Int))), (2, (.string ⟨#[127]⟩))]) (cs := #[(.string (nameO op)), (.int .i64 (8 : Int)), (.string ⟨#[127]⟩), (.string ⟨#[]⟩), (.bool false)]) rfl (fun _ => by kernel_rfl)) rfl rfl rfl ?_; clear hf fa; intro fa hf
          refine sqdt hf (d_alloc (z := (.agg #[(.string ⟨#[]⟩), (.int .i64 (0 : Int)), (.string ⟨#[]⟩), (.string ⟨#[]⟩), (.bool false)])) (cs := #[(.string ⟨#[]⟩), (.int .i64 (0 : Int)), (.string ⟨#[]⟩), (.string ⟨#[]⟩), (.bool false)]) (by kernel_rfl) rfl) rfl rfl rfl ?_; clear hf fa; rintro fa _ w8 ⟨b3, rfl, hle3, hk8, he3⟩ hf
          have hBb3 : w.heap.size ≤ b3 := Nat.le_trans hb.size hle3
          have : b1 < b3 := Nat.lt_of_lt_of_le (blk_lt hk1) hle3
          have : b2 < b3 := Nat.lt_of_lt_of_le (Row.lt hr1 _ rfl).2 hle3
          replace hk1 := blk_ext hk1 he3
          replace hr1 := Row.ext hr1 he3
          replace hb := hb.trans (Below.mono he3 hb.size)
          refine sqn hf (d_storeK (T := 54) (v := (.agg #[(.string (nameO op)), (.int .i64 (8 : Int)), (.string ⟨#[127]⟩), (.string ⟨#[]⟩), (.bool false)])) (cs := #[(.string ⟨#[]⟩), (.int .i64 (0 : Int)), (.string ⟨#[]⟩), (.string ⟨#[]⟩), (.bool false)]) (cs' := #[(.string (nameO op)), (.int .i64 (8 : Int)), (.string ⟨#[127]⟩), (.string ⟨#[]⟩), (.bool false)]) rfl rfl (by kernel_rfl) (by kernel_rfl) hk8 (by kernel_rfl) (by kernel_rfl)) rfl rfl ?_; clear hf fa; rintro fa _ w9 ⟨hk9, hg6⟩ hf
          replace hk1 := blk_grown hk1 hg6 (by omega)
          replace hr1 := Row.grown hr1 hg6 (Row.ne_type hr1 hk8 rfl)
          replace hb := hb.trans (grown_below hg6 hb.size hBb3)
          apply wpList_nil
          (try simp only [Exit.then, Exit.inBlock, ↓reduceIte, Nat.reduceEqDiff])
          refine hK11 _ _ ?_
          refine wp_seq_k (fun K12 hK12 => ?_)
          refine wp_region_lit ?_
          refine sqv hf (r_assign rfl) rfl rfl rfl ?_; clear hf fa; intro fa hf
          apply wpList_nil
          (try simp only [Exit.then, Exit.inBlock, ↓reduceIte, Nat.reduceEqDiff])
          refine hK12 _ _ ?_
          refine wp_seq_k (fun K13 hK13 => ?_)
          refine wp_seq_k (fun K14 hK14 => ?_)
          refine wp_region_lit ?_
          refine sqv hf (r_fa rfl Tryd.underlying54 (f := 0) (q := 0) rfl (by kernel_rfl) rfl) rfl rfl rfl ?_; clear hf fa; intro fa hf
          refine sqv hf (r_load (v := (.string (nameO op))) rfl Tryd.underlying9 rfl (cell_blk hk9 rfl)) rfl rfl rfl ?_; clear hf fa; intro fa hf
          refine sqv hf (r_sindexD (j := 1) rfl rfl Tryd.underlying9 rfl (by omega)) rfl rfl rfl ?_; clear hf fa; intro fa hf
          refine sqv hf (r_eq rfl rfl) rfl rfl rfl ?_; clear hf fa; intro fa hf
          apply wpList_nil
          (try simp only [Exit.then, Exit.inBlock, ↓reduceIte, Nat.reduceEqDiff])
          refine hK14 _ _ ?_
          refine wp_cond_split (t := (decide (((sbt (nameO op) 1 : Nat) : Int) = (51 : Int)))) (hf.ev rfl) (fun hqt38_1 => ?_) (fun hqt38_1 => ?_)
          · have hqt38_1b := hqt38_1
            try simp only [decide_eq_true_eq, Bool.and_eq_true, Bool.or_eq_true, Bool.not_eq_true', decide_eq_false_iff_not, ne_eq, Bool.not_eq_true] at hqt38_1
            refine wp_region_lit ?_
            refine sqv hf (r_assign rfl) rfl rfl rfl ?_; clear hf fa; intro fa hf
            apply wpList_nil
            (try simp only [Exit.then, Exit.inBlock, ↓reduceIte, Nat.reduceEqDiff])
            refine hK13 _ _ ?_
            refine wp_seq_k (fun K15 hK15 => ?_)
            refine wp_seq_k (fun K16 hK16 => ?_)
            refine wp_region_lit ?_
            refine sqv hf (r_move rfl) rfl rfl rfl ?_; clear hf fa; intro fa hf
            refine sqv hf (r_lt rfl rfl) rfl rfl rfl ?_; clear hf fa; intro fa hf
            apply wpList_nil
            (try simp only [Exit.then, Exit.inBlock, ↓reduceIte, Nat.reduceEqDiff])
            refine hK16 _ _ ?_
            refine wp_cond_split (t := (decide (((op : Nat) : Int) < (54 : Int)))) (hf.ev rfl) (fun hqt40_1 => ?_) (fun hqt40_1 => ?_)
            · have hqt40_1b := hqt40_1
              try simp only [decide_eq_true_eq, Bool.and_eq_true, Bool.or_eq_true, Bool.not_eq_true', decide_eq_false_iff_not, ne_eq, Bool.not_eq_true] at hqt40_1
              refine wp_region_lit ?_
              refine sqv hf (r_move rfl) rfl rfl rfl ?_; clear hf fa; intro fa hf
              refine sqv hf (r_fa rfl Tryd.underlying54 (f := 3) (q := 3) rfl (by kernel_rfl) rfl) rfl rfl rfl ?_; clear hf fa; intro fa hf
              refine sqn hf (d_storeK (T := 54) (v := (.string ⟨#[127]⟩)) (cs := #[(.string (nameO op)), (.int .i64 (8 : Int)), (.string ⟨#[127]⟩), (.string ⟨#[]⟩), (.bool false)]) (cs' := #[(.string (nameO op)), (.int .i64 (8 : Int)), (.string ⟨#[127]⟩), (.string ⟨#[127]⟩), (.bool false)]) rfl rfl (by kernel_rfl) (by kernel_rfl) hk9 (by kernel_rfl) (by kernel_rfl)) rfl rfl ?_; clear hf fa; rintro fa _ w10 ⟨hk10, hg7⟩ hf
              replace hk1 := blk_grown hk1 hg7 (by omega)
              replace hr1 := Row.grown hr1 hg7 (Row.ne_type hr1 hk9 rfl)
              replace hb := hb.trans (grown_below hg7 hb.size hBb3)
              apply wpList_nil
              (try simp only [Exit.then, Exit.inBlock, ↓reduceIte, Nat.reduceEqDiff])
              refine hK15 _ _ ?_
              refine wp_seq_k (fun K17 hK17 => ?_)
              refine wp_region_lit ?_
              refine sqv hf (r_loadA (cs := [(.string (nameO op)), (.int .i64 (8 : Int)), (.string ⟨#[127]⟩), (.string ⟨#[127]⟩), (.bool false)]) rfl Tryd.underlying54 rfl (by kernel_rfl) (cellsAt_blk hk10)) rfl rfl rfl ?_; clear hf fa; intro fa hf
              refine sqn hf (d_storeK (T := 54) (v := (.agg #[(.string (nameO op)), (.int .i64 (8 : Int)), (.string ⟨#[127]⟩), (.string ⟨#[127]⟩), (.bool false)])) (cs := #[(.string ⟨#[]⟩), (.int .i64 (0 : Int)), (.string ⟨#[]⟩), (.string ⟨#[]⟩), (.bool false)]) (cs' := #[(.string (nameO op)), (.int .i64 (8 : Int)), (.string ⟨#[127]⟩), (.string ⟨#[127]⟩), (.bool false)]) rfl rfl (by kernel_rfl) (by kernel_rfl) hk1 (by kernel_rfl) (by kernel_rfl)) rfl rfl ?_; clear hf fa; rintro fa _ w11 ⟨hk11, hg8⟩ hf
              replace hk10 := blk_grown hk10 hg8 (by omega)
              replace hr1 := Row.grown hr1 hg8 (Row.ne_type hr1 hk1 rfl)
              replace hb := hb.trans (grown_below hg8 hb.size hBb1)
              apply wpList_nil
              (try simp only [Exit.then, Exit.inBlock, ↓reduceIte, Nat.reduceEqDiff])
              refine hK17 _ _ ?_
              refine wp_ret ?_
              (try simp only [Exit.then, Exit.inBlock])
              refine retC hf rfl rfl hk11 Tryd.underlying54 rfl (by kernel_rfl) ?_
              refine ⟨?_, hb⟩; unfold memP; rw [hqt7_1b, hqt11_1b, hsp1b, hqt15_2b, hqt38_1b, hqt40_1b]; (try rfl)
            · have hqt40_1b := hqt40_1
              replace hqt40_1 := Bool.eq_false_iff.1 hqt40_1
              try simp only [ne_eq, decide_eq_true_eq, Bool.and_eq_true, Bool.or_eq_true, Bool.not_eq_true', decide_eq_false_iff_not] at hqt40_1
              refine wp_region_lit ?_
              refine sqv hf (r_fa rfl Tryd.underlying54 (f := 2) (q := 2) rfl (by kernel_rfl) rfl) rfl rfl rfl ?_; clear hf fa; intro fa hf
              refine sqv hf (r_load (v := (.string ⟨#[127]⟩)) rfl Tryd.underlying9 rfl (cell_blk hk9 rfl)) rfl rfl rfl ?_; clear hf fa; intro fa hf
              refine sqv hf (r_move rfl) rfl rfl rfl ?_; clear hf fa; intro fa hf
              refine sqv hf (r_sadd rfl rfl (by have : ((⟨#[127]⟩) : ByteArray).size = 1 := rfl; have : ((⟨#[127]⟩) : ByteArray).size = 1 := rfl; omega)) rfl rfl rfl ?_; clear hf fa; intro fa hf
              refine sqv hf (r_fa rfl Tryd.underlying54 (f := 2) (q := 2) rfl (by kernel_rfl) rfl) rfl rfl rfl ?_; clear hf fa; intro fa hf
              refine sqn hf (d_storeK (T := 54) (v := (.string (⟨#[127]⟩ ++ ⟨#[127]⟩))) (cs := #[(.string (nameO op)), (.int .i64 (8 : Int)), (.string ⟨#[127]⟩), (.string ⟨#[]⟩), (.bool false)]) (cs' := #[(.string (nameO op)), (.int .i64 (8 : Int)), (.string (⟨#[127]⟩ ++ ⟨#[127]⟩)), (.string ⟨#[]⟩), (.bool false)]) rfl rfl (by kernel_rfl) (by kernel_rfl) hk9 (by kernel_rfl) (by kernel_rfl)) rfl rfl ?_; clear hf fa; rintro fa _ w12 ⟨hk12, hg9⟩ hf
              replace hk1 := blk_grown hk1 hg9 (by omega)
              replace hr1 := Row.grown hr1 hg9 (Row.ne_type hr1 hk9 rfl)
              replace hb := hb.trans (grown_below hg9 hb.size hBb3)
              apply wpList_nil
              (try simp only [Exit.then, Exit.inBlock, ↓reduceIte, Nat.reduceEqDiff])
              refine hK15 _ _ ?_
              refine wp_seq_k (fun K18 hK18 => ?_)
              refine wp_region_lit ?_
              refine sqv hf (r_loadA (cs := [(.string (nameO op)), (.int .i64 (8 : Int)), (.string (⟨#[127]⟩ ++ ⟨#[127]⟩)), (.string ⟨#[]⟩), (.bool false)]) rfl Tryd.underlying54 rfl (by kernel_rfl) (cellsAt_blk hk12)) rfl rfl rfl ?_; clear hf fa; intro fa hf
              refine sqn hf (d_storeK (T := 54) (v := (.agg #[(.string (nameO op)), (.int .i64 (8 : Int)), (.string (⟨#[127]⟩ ++ ⟨#[127]⟩)), (.string ⟨#[]⟩), (.bool false)])) (cs := #[(.string ⟨#[]⟩), (.int .i64 (0 : Int)), (.string ⟨#[]⟩), (.string ⟨#[]⟩), (.bool false)]) (cs' := #[(.string (nameO op)), (.int .i64 (8 : Int)), (.string (⟨#[127]⟩ ++ ⟨#[127]⟩)), (.string ⟨#[]⟩), (.bool false)]) rfl rfl (by kernel_rfl) (by kernel_rfl) hk1 (by kernel_rfl) (by kernel_rfl)) rfl rfl ?_; clear hf fa; rintro fa _ w13 ⟨hk13, hg10⟩ hf
              replace hk12 := blk_grown hk12 hg10 (by omega)
              replace hr1 := Row.grown hr1 hg10 (Row.ne_type hr1 hk1 rfl)
              replace hb := hb.trans (grown_below hg10 hb.size hBb1)
              apply wpList_nil
              (try simp only [Exit.then, Exit.inBlock, ↓reduceIte, Nat.reduceEqDiff])
              refine hK18 _ _ ?_
              refine wp_ret ?_
              (try simp only [Exit.then, Exit.inBlock])
              refine retC hf rfl rfl hk13 Tryd.underlying54 rfl (by kernel_rfl) ?_
              refine ⟨?_, hb⟩; unfold memP; rw [hqt7_1b, hqt11_1b, hsp1b, hqt15_2b, hqt38_1b, hqt40_1b]; (try rfl)
          · have hqt38_1b := hqt38_1
            replace hqt38_1 := Bool.eq_false_iff.1 hqt38_1
            try simp only [ne_eq, decide_eq_true_eq, Bool.and_eq_true, Bool.or_eq_true, Bool.not_eq_true', decide_eq_false_iff_not] at hqt38_1
            refine wp_skip ?_
            (try simp only [Exit.then, Exit.inBlock, ↓reduceIte, Nat.reduceEqDiff])
            refine hK13 _ _ ?_
            refine wp_seq_k (fun K19 hK19 => ?_)
            refine wp_seq_k (fun K20 hK20 => ?_)
            refine wp_region_lit ?_
            refine sqv hf (r_move rfl) rfl rfl rfl ?_; clear hf fa; intro fa hf
            refine sqv hf (r_lt rfl rfl) rfl rfl rfl ?_; clear hf fa; intro fa hf
            apply wpList_nil
            (try simp only [Exit.then, Exit.inBlock, ↓reduceIte, Nat.reduceEqDiff])
            refine hK20 _ _ ?_
            refine wp_cond_split (t := (decide (((op : Nat) : Int) < (54 : Int)))) (hf.ev rfl) (fun hqt40_2 => ?_) (fun hqt40_2 => ?_)
            · have hqt40_2b := hqt40_2
              try simp only [decide_eq_true_eq, Bool.and_eq_true, Bool.or_eq_true, Bool.not_eq_true', decide_eq_false_iff_not, ne_eq, Bool.not_eq_true] at hqt40_2
              refine wp_region_lit ?_
              refine sqv hf (r_move rfl) rfl rfl rfl ?_; clear hf fa; intro fa hf
              refine sqv hf (r_fa rfl Tryd.underlying54 (f := 3) (q := 3) rfl (by kernel_rfl) rfl) rfl rfl rfl ?_; clear hf fa; intro fa hf
              refine sqn hf (d_storeK (T := 54) (v := (.string ⟨#[126]⟩)) (cs := #[(.string (nameO op)), (.int .i64 (8 : Int)), (.string ⟨#[127]⟩), (.string ⟨#[]⟩), (.bool false)]) (cs' := #[(.string (nameO op)), (.int .i64 (8 : Int)), (.string ⟨#[127]⟩), (.string ⟨#[126]⟩), (.bool false)]) rfl rfl (by kernel_rfl) (by kernel_rfl) hk9 (by kernel_rfl) (by kernel_rfl)) rfl rfl ?_; clear hf fa; rintro fa _ w14 ⟨hk14, hg11⟩ hf
              replace hk1 := blk_grown hk1 hg11 (by omega)
              replace hr1 := Row.grown hr1 hg11 (Row.ne_type hr1 hk9 rfl)
              replace hb := hb.trans (grown_below hg11 hb.size hBb3)
              apply wpList_nil
              (try simp only [Exit.then, Exit.inBlock, ↓reduceIte, Nat.reduceEqDiff])
              refine hK19 _ _ ?_
              refine wp_seq_k (fun K21 hK21 => ?_)
              refine wp_region_lit ?_
              refine sqv hf (r_loadA (cs := [(.string (nameO op)), (.int .i64 (8 : Int)), (.string ⟨#[127]⟩), (.string ⟨#[126]⟩), (.bool false)]) rfl Tryd.underlying54 rfl (by kernel_rfl) (cellsAt_blk hk14)) rfl rfl rfl ?_; clear hf fa; intro fa hf
              refine sqn hf (d_storeK (T := 54) (v := (.agg #[(.string (nameO op)), (.int .i64 (8 : Int)), (.string ⟨#[127]⟩), (.string ⟨#[126]⟩), (.bool false)])) (cs := #[(.string ⟨#[]⟩), (.int .i64 (0 : Int)), (.string ⟨#[]⟩), (.string ⟨#[]⟩), (.bool false)]) (cs' := #[(.string (nameO op)), (.int .i64 (8 : Int)), (.string ⟨#[127]⟩), (.string ⟨#[126]⟩), (.bool false)]) rfl rfl (by kernel_rfl) (by kernel_rfl) hk1 (by kernel_rfl) (by kernel_rfl)) rfl rfl ?_; clear hf fa; rintro fa _ w15 ⟨hk15, hg12⟩ hf
              replace hk14 := blk_grown hk14 hg12 (by omega)
              replace hr1 := Row.grown hr1 hg12 (Row.ne_type hr1 hk1 rfl)
              replace hb := hb.trans (grown_below hg12 hb.size hBb1)
              apply wpList_nil
              (try simp only [Exit.then, Exit.inBlock, ↓reduceIte, Nat.reduceEqDiff])
              refine hK21 _ _ ?_
              refine wp_ret ?_
              (try simp only [Exit.then, Exit.inBlock])
              refine retC hf rfl rfl hk15 Tryd.underlying54 rfl (by kernel_rfl) ?_
              refine ⟨?_, hb⟩; unfold memP; rw [hqt7_1b, hqt11_1b, hsp1b, hqt15_2b, hqt38_1b, hqt40_2b]; (try rfl)
            · have hqt40_2b := hqt40_2
              replace hqt40_2 := Bool.eq_false_iff.1 hqt40_2
              try simp only [ne_eq, decide_eq_true_eq, Bool.and_eq_true, Bool.or_eq_true, Bool.not_eq_true', decide_eq_false_iff_not] at hqt40_2
              refine wp_region_lit ?_
              refine sqv hf (r_fa rfl Tryd.underlying54 (f := 2) (q := 2) rfl (by kernel_rfl) rfl) rfl rfl rfl ?_; clear hf fa; intro fa hf
              refine sqv hf (r_load (v := (.string ⟨#[127]⟩)) rfl Tryd.underlying9 rfl (cell_blk hk9 rfl)) rfl rfl rfl ?_; clear hf fa; intro fa hf
              refine sqv hf (r_move rfl) rfl rfl rfl ?_; clear hf fa; intro fa hf
              refine sqv hf (r_sadd rfl rfl (by have : ((⟨#[127]⟩) : ByteArray).size = 1 := rfl; have : ((⟨#[126]⟩) : ByteArray).size = 1 := rfl; omega)) rfl rfl rfl ?_; clear hf fa; intro fa hf
              refine sqv hf (r_fa rfl Tryd.underlying54 (f := 2) (q := 2) rfl (by kernel_rfl) rfl) rfl rfl rfl ?_; clear hf fa; intro fa hf
              refine sqn hf (d_storeK (T := 54) (v := (.string (⟨#[127]⟩ ++ ⟨#[126]⟩))) (cs := #[(.string (nameO op)), (.int .i64 (8 : Int)), (.string ⟨#[127]⟩), (.string ⟨#[]⟩), (.bool false)]) (cs' := #[(.string (nameO op)), (.int .i64 (8 : Int)), (.string (⟨#[127]⟩ ++ ⟨#[126]⟩)), (.string ⟨#[]⟩), (.bool false)]) rfl rfl (by kernel_rfl) (by kernel_rfl) hk9 (by kernel_rfl) (by kernel_rfl)) rfl rfl ?_; clear hf fa; rintro fa _ w16 ⟨hk16, hg13⟩ hf
              replace hk1 := blk_grown hk1 hg13 (by omega)
              replace hr1 := Row.grown hr1 hg13 (Row.ne_type hr1 hk9 rfl)
              replace hb := hb.trans (grown_below hg13 hb.size hBb3)
              apply wpList_nil
              (try simp only [Exit.then, Exit.inBlock, ↓reduceIte, Nat.reduceEqDiff])
              refine hK19 _ _ ?_
              refine wp_seq_k (fun K22 hK22 => ?_)
              refine wp_region_lit ?_
              refine sqv hf (r_loadA (cs := [(.string (nameO op)), (.int .i64 (8 : Int)), (.string (⟨#[127]⟩ ++ ⟨#[126]⟩)), (.string ⟨#[]⟩), (.bool false)]) rfl Tryd.underlying54 rfl (by kernel_rfl) (cellsAt_blk hk16)) rfl rfl rfl ?_; clear hf fa; intro fa hf
              refine sqn hf (d_storeK (T := 54) (v := (.agg #[(.string (nameO op)), (.int .i64 (8 : Int)), (.string (⟨#[127]⟩ ++ ⟨#[126]⟩)), (.string ⟨#[]⟩), (.bool false)])) (cs := #[(.string ⟨#[]⟩), (.int .i64 (0 : Int)), (.string ⟨#[]⟩), (.string ⟨#[]⟩), (.bool false)]) (cs' := #[(.string (nameO op)), (.int .i64 (8 : Int)), (.string (⟨#[127]⟩ ++ ⟨#[126]⟩)), (.string ⟨#[]⟩), (.bool false)]) rfl rfl (by kernel_rfl) (by kernel_rfl) hk1 (by kernel_rfl) (by kernel_rfl)) rfl rfl ?_; clear hf fa; rintro fa _ w17 ⟨hk17, hg14⟩ hf
              replace hk16 := blk_grown hk16 hg14 (by omega)
              replace hr1 := Row.grown hr1 hg14 (Row.ne_type hr1 hk1 rfl)
              replace hb := hb.trans (grown_below hg14 hb.size hBb1)
              apply wpList_nil
              (try simp only [Exit.then, Exit.inBlock, ↓reduceIte, Nat.reduceEqDiff])
              refine hK22 _ _ ?_
              refine wp_ret ?_
              (try simp only [Exit.then, Exit.inBlock])
              refine retC hf rfl rfl hk17 Tryd.underlying54 rfl (by kernel_rfl) ?_
              refine ⟨?_, hb⟩; unfold memP; rw [hqt7_1b, hqt11_1b, hsp1b, hqt15_2b, hqt38_1b, hqt40_2b]; (try rfl)

def bnyP (s1 s2 s3 s4 : ByteArray) (b : Bool) : MInf :=
  bif b then ((s1 ++ s2), (0 : Int), s3, s4, false, ())
  else ((s1 ++ s2), (0 : Int), (s3 ++ s3), s4, false, ())

set_option maxHeartbeats 1000000 in
set_option maxRecDepth 100000 in
theorem bny_any (s1 s2 s3 s4 : ByteArray) (b : Bool) (w : World) (h1 : s1.size ≤ 100) (h2 : s2.size ≤ 100) (h3 : s3.size ≤ 100) : Calls Tryd.prog 73 #[(.string s1), (.string s2), (.string s3), (.string s4), (.bool b)] w fun e w' => e = .returned (.agg #[(.string (bnyP s1 s2 s3 s4 b).1), (.int .i64 ((bnyP s1 s2 s3 s4 b).2.1)), (.string (bnyP s1 s2 s3 s4 b).2.2.1), (.string (bnyP s1 s2 s3 s4 b).2.2.2.1), (.bool (bnyP s1 s2 s3 s4 b).2.2.2.2.1)]) ∧ Below w.heap.size w w' := by
  refine sx_enter (L := [(0, (.string s1)), (1, (.string s2)), (2, (.string s3)), (3, (.string s4)), (4, (.bool b))]) Tryd.func73 rfl rfl rfl rfl (fun fa hf => ?_)
  have hb : Below w.heap.size w w := Below.refl _ _
  refine wp_seq_k (fun K1 hK1 => ?_)
  refine wp_region_lit ?_
  refine sqdt hf (d_alloc (z := (.agg #[(.string ⟨#[]⟩), (.int .i64 (0 : Int)), (.string ⟨#[]⟩), (.string ⟨#[]⟩), (.bool false)])) (cs := #[(.string ⟨#[]⟩), (.int .i64 (0 : Int)), (.string ⟨#[]⟩), (.string ⟨#[]⟩), (.bool false)]) (by kernel_rfl) rfl) rfl rfl rfl ?_; clear hf fa; rintro fa _ w1 ⟨b1, rfl, hle1, hk1, he1⟩ hf
  have hBb1 : w.heap.size ≤ b1 := Nat.le_trans hb.size hle1
  replace hb := hb.trans (Below.mono he1 hb.size)
  apply wpList_nil
  (try simp only [Exit.then, Exit.inBlock, ↓reduceIte, Nat.reduceEqDiff])
  refine hK1 _ _ ?_
  refine wp_seq_k (fun K2 hK2 => ?_)
  refine wp_region_lit ?_
  refine sqv hf (r_move rfl) rfl rfl rfl ?_; clear hf fa; intro fa hf
  refine sqv hf (r_move rfl) rfl rfl rfl ?_; clear hf fa; intro fa hf
  refine sqv hf (r_sadd rfl rfl (by omega)) rfl rfl rfl ?_; clear hf fa; intro fa hf
  refine sqv hf (r_move rfl) rfl rfl rfl ?_; clear hf fa; intro fa hf
  refine sqv hf (r_move rfl) rfl rfl rfl ?_; clear hf fa; intro fa hf
  refine sqv hf (r_sadd rfl rfl (by omega)) rfl rfl rfl ?_; clear hf fa; intro fa hf
  refine sqv hf (r_move rfl) rfl rfl rfl ?_; clear hf fa; intro fa hf
  refine sqv hf (r_build (vs := [(0, (.string (s1 ++ s2))), (2, (.string (s3 ++ s3))), (3, (.string s4))]) (cs := #[(.string (s1 ++ s2)), (.int .i64 (0 : Int)), (.string (s3 ++ s3)), (.string s4), (.bool false)]) rfl (fun _ => by kernel_rfl)) rfl rfl rfl ?_; clear hf fa; intro fa hf
  refine sqdt hf (d_alloc (z := (.agg #[(.string ⟨#[]⟩), (.int .i64 (0 : Int)), (.string ⟨#[]⟩), (.string ⟨#[]⟩), (.bool false)])) (cs := #[(.string ⟨#[]⟩), (.int .i64 (0 : Int)), (.string ⟨#[]⟩), (.string ⟨#[]⟩), (.bool false)]) (by kernel_rfl) rfl) rfl rfl rfl ?_; clear hf fa; rintro fa _ w2 ⟨b2, rfl, hle2, hk2, he2⟩ hf
  have hBb2 : w.heap.size ≤ b2 := Nat.le_trans hb.size hle2
  have : b1 < b2 := Nat.lt_of_lt_of_le (blk_lt hk1) hle2
  replace hk1 := blk_ext hk1 he2
  replace hb := hb.trans (Below.mono he2 hb.size)
  refine sqn hf (d_storeK (T := 54) (v := (.agg #[(.string (s1 ++ s2)), (.int .i64 (0 : Int)), (.string (s3 ++ s3)), (.string s4), (.bool false)])) (cs := #[(.string ⟨#[]⟩), (.int .i64 (0 : Int)), (.string ⟨#[]⟩), (.string ⟨#[]⟩), (.bool false)]) (cs' := #[(.string (s1 ++ s2)), (.int .i64 (0 : Int)), (.string (s3 ++ s3)), (.string s4), (.bool false)]) rfl rfl (by kernel_rfl) (by kernel_rfl) hk2 (by kernel_rfl) (by kernel_rfl)) rfl rfl ?_; clear hf fa; rintro fa _ w3 ⟨hk3, hg1⟩ hf
  replace hk1 := blk_grown hk1 hg1 (by omega)
  replace hb := hb.trans (grown_below hg1 hb.size hBb2)
  apply wpList_nil
  (try simp only [Exit.then, Exit.inBlock, ↓reduceIte, Nat.reduceEqDiff])
  refine hK2 _ _ ?_
  refine wp_seq_k (fun K3 hK3 => ?_)
  refine wp_seq_k (fun K4 hK4 => ?_)
  refine wp_region_lit ?_
  refine sqv hf (r_move rfl) rfl rfl rfl ?_; clear hf fa; intro fa hf
  apply wpList_nil
  (try simp only [Exit.then, Exit.inBlock, ↓reduceIte, Nat.reduceEqDiff])
  refine hK4 _ _ ?_
  refine wp_cond_split (t := b) (hf.ev rfl) (fun hqt20_1 => ?_) (fun hqt20_1 => ?_)
  · have hqt20_1b := hqt20_1
    try simp only [decide_eq_true_eq, Bool.and_eq_true, Bool.or_eq_true, Bool.not_eq_true', decide_eq_false_iff_not, ne_eq, Bool.not_eq_true] at hqt20_1
    refine wp_region_lit ?_
    refine sqv hf (r_move rfl) rfl rfl rfl ?_; clear hf fa; intro fa hf
    refine sqv hf (r_fa rfl Tryd.underlying54 (f := 2) (q := 2) rfl (by kernel_rfl) rfl) rfl rfl rfl ?_; clear hf fa; intro fa hf
    refine sqn hf (d_storeK (T := 54) (v := (.string s3)) (cs := #[(.string (s1 ++ s2)), (.int .i64 (0 : Int)), (.string (s3 ++ s3)), (.string s4), (.bool false)]) (cs' := #[(.string (s1 ++ s2)), (.int .i64 (0 : Int)), (.string s3), (.string s4), (.bool false)]) rfl rfl (by kernel_rfl) (by kernel_rfl) hk3 (by kernel_rfl) (by kernel_rfl)) rfl rfl ?_; clear hf fa; rintro fa _ w4 ⟨hk4, hg2⟩ hf
    replace hk1 := blk_grown hk1 hg2 (by omega)
    replace hb := hb.trans (grown_below hg2 hb.size hBb2)
    apply wpList_nil
    (try simp only [Exit.then, Exit.inBlock, ↓reduceIte, Nat.reduceEqDiff])
    refine hK3 _ _ ?_
    refine wp_seq_k (fun K5 hK5 => ?_)
    refine wp_region_lit ?_
    refine sqv hf (r_loadA (cs := [(.string (s1 ++ s2)), (.int .i64 (0 : Int)), (.string s3), (.string s4), (.bool false)]) rfl Tryd.underlying54 rfl (by kernel_rfl) (cellsAt_blk hk4)) rfl rfl rfl ?_; clear hf fa; intro fa hf
    refine sqn hf (d_storeK (T := 54) (v := (.agg #[(.string (s1 ++ s2)), (.int .i64 (0 : Int)), (.string s3), (.string s4), (.bool false)])) (cs := #[(.string ⟨#[]⟩), (.int .i64 (0 : Int)), (.string ⟨#[]⟩), (.string ⟨#[]⟩), (.bool false)]) (cs' := #[(.string (s1 ++ s2)), (.int .i64 (0 : Int)), (.string s3), (.string s4), (.bool false)]) rfl rfl (by kernel_rfl) (by kernel_rfl) hk1 (by kernel_rfl) (by kernel_rfl)) rfl rfl ?_; clear hf fa; rintro fa _ w5 ⟨hk5, hg3⟩ hf
    replace hk4 := blk_grown hk4 hg3 (by omega)
    replace hb := hb.trans (grown_below hg3 hb.size hBb1)
    apply wpList_nil
    (try simp only [Exit.then, Exit.inBlock, ↓reduceIte, Nat.reduceEqDiff])
    refine hK5 _ _ ?_
    refine wp_ret ?_
    (try simp only [Exit.then, Exit.inBlock])
    refine retC hf rfl rfl hk5 Tryd.underlying54 rfl (by kernel_rfl) ?_
    refine ⟨?_, hb⟩; unfold bnyP; rw [hqt20_1b]; (try rfl)
  · have hqt20_1b := hqt20_1
    replace hqt20_1 := Bool.eq_false_iff.1 hqt20_1
    try simp only [ne_eq, decide_eq_true_eq, Bool.and_eq_true, Bool.or_eq_true, Bool.not_eq_true', decide_eq_false_iff_not] at hqt20_1
    refine wp_skip ?_
    (try simp only [Exit.then, Exit.inBlock, ↓reduceIte, Nat.reduceEqDiff])
    refine hK3 _ _ ?_
    refine wp_seq_k (fun K6 hK6 => ?_)
    refine wp_region_lit ?_
    refine sqv hf (r_loadA (cs := [(.string (s1 ++ s2)), (.int .i64 (0 : Int)), (.string (s3 ++ s3)), (.string s4), (.bool false)]) rfl Tryd.underlying54 rfl (by kernel_rfl) (cellsAt_blk hk3)) rfl rfl rfl ?_; clear hf fa; intro fa hf
    refine sqn hf (d_storeK (T := 54) (v := (.agg #[(.string (s1 ++ s2)), (.int .i64 (0 : Int)), (.string (s3 ++ s3)), (.string s4), (.bool false)])) (cs := #[(.string ⟨#[]⟩), (.int .i64 (0 : Int)), (.string ⟨#[]⟩), (.string ⟨#[]⟩), (.bool false)]) (cs' := #[(.string (s1 ++ s2)), (.int .i64 (0 : Int)), (.string (s3 ++ s3)), (.string s4), (.bool false)]) rfl rfl (by kernel_rfl) (by kernel_rfl) hk1 (by kernel_rfl) (by kernel_rfl)) rfl rfl ?_; clear hf fa; rintro fa _ w6 ⟨hk6, hg4⟩ hf
    replace hk3 := blk_grown hk3 hg4 (by omega)
    replace hb := hb.trans (grown_below hg4 hb.size hBb1)
    apply wpList_nil
    (try simp only [Exit.then, Exit.inBlock, ↓reduceIte, Nat.reduceEqDiff])
    refine hK6 _ _ ?_
    refine wp_ret ?_
    (try simp only [Exit.then, Exit.inBlock])
    refine retC hf rfl rfl hk6 Tryd.underlying54 rfl (by kernel_rfl) ?_
    refine ⟨?_, hb⟩; unfold bnyP; rw [hqt20_1b]; (try rfl)

def cmpL : List ByteArray := [(⟨#[101, 113, 122]⟩ : ByteArray), (⟨#[101, 113]⟩ : ByteArray), (⟨#[110, 101]⟩ : ByteArray), (⟨#[108, 116, 95, 115]⟩ : ByteArray), (⟨#[108, 116, 95, 117]⟩ : ByteArray), (⟨#[103, 116, 95, 115]⟩ : ByteArray), (⟨#[103, 116, 95, 117]⟩ : ByteArray), (⟨#[108, 101, 95, 115]⟩ : ByteArray), (⟨#[108, 101, 95, 117]⟩ : ByteArray), (⟨#[103, 101, 95, 115]⟩ : ByteArray), (⟨#[103, 101, 95, 117]⟩ : ByteArray)]
def cmpO (j : Nat) : ByteArray := cmpL.getD j ⟨#[]⟩
theorem cmpO_at {j : Nat} (h : j < 11) : cmpL[j]? = some (cmpO j) := by
  unfold cmpO
  exact getD_at (l := cmpL) (j := j) _ h
theorem cmpO_le (j : Nat) (h : j < 11) : (cmpO j).size ≤ 20 := by
  have : ∀ j : Fin 11, (cmpL.getD j.val ⟨#[]⟩).size ≤ 20 := by decide +kernel
  exact this ⟨j, h⟩

def rckL : List ByteArray := [(⟨#[99, 108, 122]⟩ : ByteArray), (⟨#[99, 116, 122]⟩ : ByteArray), (⟨#[112, 111, 112, 99, 110, 116]⟩ : ByteArray), (⟨#[97, 100, 100]⟩ : ByteArray), (⟨#[115, 117, 98]⟩ : ByteArray), (⟨#[109, 117, 108]⟩ : ByteArray), (⟨#[100, 105, 118, 95, 115]⟩ : ByteArray), (⟨#[100, 105, 118, 95, 117]⟩ : ByteArray), (⟨#[114, 101, 109, 95, 115]⟩ : ByteArray), (⟨#[114, 101, 109, 95, 117]⟩ : ByteArray), (⟨#[97, 110, 100]⟩ : ByteArray), (⟨#[111, 114]⟩ : ByteArray), (⟨#[120, 111, 114]⟩ : ByteArray), (⟨#[115, 104, 108]⟩ : ByteArray), (⟨#[115, 104, 114, 95, 115]⟩ : ByteArray), (⟨#[115, 104, 114, 95, 117]⟩ : ByteArray), (⟨#[114, 111, 116, 108]⟩ : ByteArray), (⟨#[114, 111, 116, 114]⟩ : ByteArray)]
def rckO (j : Nat) : ByteArray := rckL.getD j ⟨#[]⟩
theorem rckO_at {j : Nat} (h : j < 18) : rckL[j]? = some (rckO j) := by
  unfold rckO
  exact getD_at (l := rckL) (j := j) _ h
theorem rckO_le (j : Nat) (h : j < 18) : (rckO j).size ≤ 20 := by
  have : ∀ j : Fin 18, (rckL.getD j.val ⟨#[]⟩).size ≤ 20 := by decide +kernel
  exact this ⟨j, h⟩

def nbrP (op : Nat) : MInf :=
  bif (decide (((op : Nat) : Int) = (65 : Int))) then (⟨#[105, 51, 50, 46, 99, 111, 110, 115, 116]⟩, (10 : Int), ⟨#[]⟩, ⟨#[127]⟩, false, ())
  else bif (decide (((op : Nat) : Int) = (66 : Int))) then (⟨#[105, 54, 52, 46, 99, 111, 110, 115, 116]⟩, (11 : Int), ⟨#[]⟩, ⟨#[126]⟩, false, ())
  else bif ((decide ((69 : Int) ≤ ((op : Nat) : Int))) && (decide (((op : Nat) : Int) ≤ (79 : Int)))) then (bnyP (⟨#[105, 51, 50, 46]⟩ : ByteArray) (cmpO ((op - 69))) (⟨#[127]⟩ : ByteArray) (⟨#[127]⟩ : ByteArray) (decide (((op : Nat) : Int) = (69 : Int))))
  else bif ((decide ((80 : Int) ≤ ((op : Nat) : Int))) && (decide (((op : Nat) : Int) ≤ (90 : Int)))) then (bnyP (⟨#[105, 54, 52, 46]⟩ : ByteArray) (cmpO ((op - 80))) (⟨#[126]⟩ : ByteArray) (⟨#[127]⟩ : ByteArray) (decide (((op : Nat) : Int) = (80 : Int))))
  else bif ((decide ((103 : Int) ≤ ((op : Nat) : Int))) && (decide (((op : Nat) : Int) ≤ (120 : Int)))) then (bnyP (⟨#[105, 51, 50, 46]⟩ : ByteArray) (rckO ((op - 103))) (⟨#[127]⟩ : ByteArray) (⟨#[127]⟩ : ByteArray) (decide (((op : Nat) : Int) < (106 : Int))))
  else bif ((decide ((121 : Int) ≤ ((op : Nat) : Int))) && (decide (((op : Nat) : Int) ≤ (138 : Int)))) then (bnyP (⟨#[105, 54, 52, 46]⟩ : ByteArray) (rckO ((op - 121))) (⟨#[126]⟩ : ByteArray) (⟨#[126]⟩ : ByteArray) (decide (((op : Nat) : Int) < (124 : Int))))
  else bif (decide (((op : Nat) : Int) = (167 : Int))) then (⟨#[105, 51, 50, 46, 119, 114, 97, 112, 95, 105, 54, 52]⟩, (0 : Int), ⟨#[126]⟩, ⟨#[127]⟩, false, ())
  else bif (decide (((op : Nat) : Int) = (172 : Int))) then (⟨#[105, 54, 52, 46, 101, 120, 116, 101, 110, 100, 95, 105, 51, 50, 95, 115]⟩, (0 : Int), ⟨#[127]⟩, ⟨#[126]⟩, false, ())
  else bif (decide (((op : Nat) : Int) = (173 : Int))) then (⟨#[105, 54, 52, 46, 101, 120, 116, 101, 110, 100, 95, 105, 51, 50, 95, 117]⟩, (0 : Int), ⟨#[127]⟩, ⟨#[126]⟩, false, ())
  else (⟨#[]⟩, (0 : Int), ⟨#[]⟩, ⟨#[]⟩, false, ())

set_option maxHeartbeats 1000000 in
set_option maxRecDepth 100000 in
theorem nbr_any (op : Nat) (w : World) (hop : op < 256) : Calls Tryd.prog 47 #[(.int .u8 ((op : Nat) : Int))] w fun e w' => e = .returned (.agg #[(.string (nbrP op).1), (.int .i64 ((nbrP op).2.1)), (.string (nbrP op).2.2.1), (.string (nbrP op).2.2.2.1), (.bool (nbrP op).2.2.2.2.1)]) ∧ Below w.heap.size w w' := by
  refine sx_enter (L := [(0, (.int .u8 ((op : Nat) : Int)))]) Tryd.func47 rfl rfl rfl rfl (fun fa hf => ?_)
  have hb : Below w.heap.size w w := Below.refl _ _
  refine wp_seq_k (fun K1 hK1 => ?_)
  refine wp_region_lit ?_
  refine sqdt hf (d_alloc (z := (.agg #[(.string ⟨#[]⟩), (.int .i64 (0 : Int)), (.string ⟨#[]⟩), (.string ⟨#[]⟩), (.bool false)])) (cs := #[(.string ⟨#[]⟩), (.int .i64 (0 : Int)), (.string ⟨#[]⟩), (.string ⟨#[]⟩), (.bool false)]) (by kernel_rfl) rfl) rfl rfl rfl ?_; clear hf fa; rintro fa _ w1 ⟨b1, rfl, hle1, hk1, he1⟩ hf
  have hBb1 : w.heap.size ≤ b1 := Nat.le_trans hb.size hle1
  replace hb := hb.trans (Below.mono he1 hb.size)
  apply wpList_nil
  (try simp only [Exit.then, Exit.inBlock, ↓reduceIte, Nat.reduceEqDiff])
  refine hK1 _ _ ?_
  refine wp_seq_k (fun K2 hK2 => ?_)
  refine wp_region_lit ?_
  refine sqv hf (r_build (vs := [(0, (.string ⟨#[101, 113, 122]⟩)), (1, (.string ⟨#[101, 113]⟩)), (2, (.string ⟨#[110, 101]⟩)), (3, (.string ⟨#[108, 116, 95, 115]⟩)), (4, (.string ⟨#[108, 116, 95, 117]⟩)), (5, (.string ⟨#[103, 116, 95, 115]⟩)), (6, (.string ⟨#[103, 116, 95, 117]⟩)), (7, (.string ⟨#[108, 101, 95, 115]⟩)), (8, (.string ⟨#[108, 101, 95, 117]⟩)), (9, (.string ⟨#[103, 101, 95, 115]⟩)), (10, (.string ⟨#[103, 101, 95, 117]⟩))]) (cs := #[(.string ⟨#[101, 113, 122]⟩), (.string ⟨#[101, 113]⟩), (.string ⟨#[110, 101]⟩), (.string ⟨#[108, 116, 95, 115]⟩), (.string ⟨#[108, 116, 95, 117]⟩), (.string ⟨#[103, 116, 95, 115]⟩), (.string ⟨#[103, 116, 95, 117]⟩), (.string ⟨#[108, 101, 95, 115]⟩), (.string ⟨#[108, 101, 95, 117]⟩), (.string ⟨#[103, 101, 95, 115]⟩), (.string ⟨#[103, 101, 95, 117]⟩)]) rfl (fun _ => by kernel_rfl)) rfl rfl rfl ?_; clear hf fa; intro fa hf
  refine sqdt hf (d_alloc (z := (.agg #[(.string ⟨#[]⟩), (.string ⟨#[]⟩), (.string ⟨#[]⟩), (.string ⟨#[]⟩), (.string ⟨#[]⟩), (.string ⟨#[]⟩), (.string ⟨#[]⟩), (.string ⟨#[]⟩), (.string ⟨#[]⟩), (.string ⟨#[]⟩), (.string ⟨#[]⟩)])) (cs := #[(.string ⟨#[]⟩), (.string ⟨#[]⟩), (.string ⟨#[]⟩), (.string ⟨#[]⟩), (.string ⟨#[]⟩), (.string ⟨#[]⟩), (.string ⟨#[]⟩), (.string ⟨#[]⟩), (.string ⟨#[]⟩), (.string ⟨#[]⟩), (.string ⟨#[]⟩)]) (by kernel_rfl) rfl) rfl rfl rfl ?_; clear hf fa; rintro fa _ w2 ⟨b2, rfl, hle2, hk2, he2⟩ hf
  have hBb2 : w.heap.size ≤ b2 := Nat.le_trans hb.size hle2
  have : b1 < b2 := Nat.lt_of_lt_of_le (blk_lt hk1) hle2
  replace hk1 := blk_ext hk1 he2
  replace hb := hb.trans (Below.mono he2 hb.size)
  refine sqn hf (d_storeK (T := 121) (v := (.agg #[(.string ⟨#[101, 113, 122]⟩), (.string ⟨#[101, 113]⟩), (.string ⟨#[110, 101]⟩), (.string ⟨#[108, 116, 95, 115]⟩), (.string ⟨#[108, 116, 95, 117]⟩), (.string ⟨#[103, 116, 95, 115]⟩), (.string ⟨#[103, 116, 95, 117]⟩), (.string ⟨#[108, 101, 95, 115]⟩), (.string ⟨#[108, 101, 95, 117]⟩), (.string ⟨#[103, 101, 95, 115]⟩), (.string ⟨#[103, 101, 95, 117]⟩)])) (cs := #[(.string ⟨#[]⟩), (.string ⟨#[]⟩), (.string ⟨#[]⟩), (.string ⟨#[]⟩), (.string ⟨#[]⟩), (.string ⟨#[]⟩), (.string ⟨#[]⟩), (.string ⟨#[]⟩), (.string ⟨#[]⟩), (.string ⟨#[]⟩), (.string ⟨#[]⟩)]) (cs' := #[(.string ⟨#[101, 113, 122]⟩), (.string ⟨#[101, 113]⟩), (.string ⟨#[110, 101]⟩), (.string ⟨#[108, 116, 95, 115]⟩), (.string ⟨#[108, 116, 95, 117]⟩), (.string ⟨#[103, 116, 95, 115]⟩), (.string ⟨#[103, 116, 95, 117]⟩), (.string ⟨#[108, 101, 95, 115]⟩), (.string ⟨#[108, 101, 95, 117]⟩), (.string ⟨#[103, 101, 95, 115]⟩), (.string ⟨#[103, 101, 95, 117]⟩)]) rfl rfl (by kernel_rfl) (by kernel_rfl) hk2 (by kernel_rfl) (by kernel_rfl)) rfl rfl ?_; clear hf fa; rintro fa _ w3 ⟨hk3, hg1⟩ hf
  replace hk1 := blk_grown hk1 hg1 (by omega)
  replace hb := hb.trans (grown_below hg1 hb.size hBb2)
  apply wpList_nil
  (try simp only [Exit.then, Exit.inBlock, ↓reduceIte, Nat.reduceEqDiff])
  refine hK2 _ _ ?_
  refine wp_seq_k (fun K3 hK3 => ?_)
  refine wp_region_lit ?_
  refine sqv hf (r_build (vs := [(0, (.string ⟨#[99, 108, 122]⟩)), (1, (.string ⟨#[99, 116, 122]⟩)), (2, (.string ⟨#[112, 111, 112, 99, 110, 116]⟩)), (3, (.string ⟨#[97, 100, 100]⟩)), (4, (.string ⟨#[115, 117, 98]⟩)), (5, (.string ⟨#[109, 117, 108]⟩)), (6, (.string ⟨#[100, 105, 118, 95, 115]⟩)), (7, (.string ⟨#[100, 105, 118, 95, 117]⟩)), (8, (.string ⟨#[114, 101, 109, 95, 115]⟩)), (9, (.string ⟨#[114, 101, 109, 95, 117]⟩)), (10, (.string ⟨#[97, 110, 100]⟩)), (11, (.string ⟨#[111, 114]⟩)), (12, (.string ⟨#[120, 111, 114]⟩)), (13, (.string ⟨#[115, 104, 108]⟩)), (14, (.string ⟨#[115, 104, 114, 95, 115]⟩)), (15, (.string ⟨#[115, 104, 114, 95, 117]⟩)), (16, (.string ⟨#[114, 111, 116, 108]⟩)), (17, (.string ⟨#[114, 111, 116, 114]⟩))]) (cs := #[(.string ⟨#[99, 108, 122]⟩), (.string ⟨#[99, 116, 122]⟩), (.string ⟨#[112, 111, 112, 99, 110, 116]⟩), (.string ⟨#[97, 100, 100]⟩), (.string ⟨#[115, 117, 98]⟩), (.string ⟨#[109, 117, 108]⟩), (.string ⟨#[100, 105, 118, 95, 115]⟩), (.string ⟨#[100, 105, 118, 95, 117]⟩), (.string ⟨#[114, 101, 109, 95, 115]⟩), (.string ⟨#[114, 101, 109, 95, 117]⟩), (.string ⟨#[97, 110, 100]⟩), (.string ⟨#[111, 114]⟩), (.string ⟨#[120, 111, 114]⟩), (.string ⟨#[115, 104, 108]⟩), (.string ⟨#[115, 104, 114, 95, 115]⟩), (.string ⟨#[115, 104, 114, 95, 117]⟩), (.string ⟨#[114, 111, 116, 108]⟩), (.string ⟨#[114, 111, 116, 114]⟩)]) rfl (fun _ => by kernel_rfl)) rfl rfl rfl ?_; clear hf fa; intro fa hf
  refine sqdt hf (d_alloc (z := (.agg #[(.string ⟨#[]⟩), (.string ⟨#[]⟩), (.string ⟨#[]⟩), (.string ⟨#[]⟩), (.string ⟨#[]⟩), (.string ⟨#[]⟩), (.string ⟨#[]⟩), (.string ⟨#[]⟩), (.string ⟨#[]⟩), (.string ⟨#[]⟩), (.string ⟨#[]⟩), (.string ⟨#[]⟩), (.string ⟨#[]⟩), (.string ⟨#[]⟩), (.string ⟨#[]⟩), (.string ⟨#[]⟩), (.string ⟨#[]⟩), (.string ⟨#[]⟩)])) (cs := #[(.string ⟨#[]⟩), (.string ⟨#[]⟩), (.string ⟨#[]⟩), (.string ⟨#[]⟩), (.string ⟨#[]⟩), (.string ⟨#[]⟩), (.string ⟨#[]⟩), (.string ⟨#[]⟩), (.string ⟨#[]⟩), (.string ⟨#[]⟩), (.string ⟨#[]⟩), (.string ⟨#[]⟩), (.string ⟨#[]⟩), (.string ⟨#[]⟩), (.string ⟨#[]⟩), (.string ⟨#[]⟩), (.string ⟨#[]⟩), (.string ⟨#[]⟩)]) (by kernel_rfl) rfl) rfl rfl rfl ?_; clear hf fa; rintro fa _ w4 ⟨b3, rfl, hle3, hk4, he3⟩ hf
  have hBb3 : w.heap.size ≤ b3 := Nat.le_trans hb.size hle3
  have : b1 < b3 := Nat.lt_of_lt_of_le (blk_lt hk1) hle3
  have : b2 < b3 := Nat.lt_of_lt_of_le (blk_lt hk3) hle3
  replace hk1 := blk_ext hk1 he3
  replace hk3 := blk_ext hk3 he3
  replace hb := hb.trans (Below.mono he3 hb.size)
  refine sqn hf (d_storeK (T := 122) (v := (.agg #[(.string ⟨#[99, 108, 122]⟩), (.string ⟨#[99, 116, 122]⟩), (.string ⟨#[112, 111, 112, 99, 110, 116]⟩), (.string ⟨#[97, 100, 100]⟩), (.string ⟨#[115, 117, 98]⟩), (.string ⟨#[109, 117, 108]⟩), (.string ⟨#[100, 105, 118, 95, 115]⟩), (.string ⟨#[100, 105, 118, 95, 117]⟩), (.string ⟨#[114, 101, 109, 95, 115]⟩), (.string ⟨#[114, 101, 109, 95, 117]⟩), (.string ⟨#[97, 110, 100]⟩), (.string ⟨#[111, 114]⟩), (.string ⟨#[120, 111, 114]⟩), (.string ⟨#[115, 104, 108]⟩), (.string ⟨#[115, 104, 114, 95, 115]⟩), (.string ⟨#[115, 104, 114, 95, 117]⟩), (.string ⟨#[114, 111, 116, 108]⟩), (.string ⟨#[114, 111, 116, 114]⟩)])) (cs := #[(.string ⟨#[]⟩), (.string ⟨#[]⟩), (.string ⟨#[]⟩), (.string ⟨#[]⟩), (.string ⟨#[]⟩), (.string ⟨#[]⟩), (.string ⟨#[]⟩), (.string ⟨#[]⟩), (.string ⟨#[]⟩), (.string ⟨#[]⟩), (.string ⟨#[]⟩), (.string ⟨#[]⟩), (.string ⟨#[]⟩), (.string ⟨#[]⟩), (.string ⟨#[]⟩), (.string ⟨#[]⟩), (.string ⟨#[]⟩), (.string ⟨#[]⟩)]) (cs' := #[(.string ⟨#[99, 108, 122]⟩), (.string ⟨#[99, 116, 122]⟩), (.string ⟨#[112, 111, 112, 99, 110, 116]⟩), (.string ⟨#[97, 100, 100]⟩), (.string ⟨#[115, 117, 98]⟩), (.string ⟨#[109, 117, 108]⟩), (.string ⟨#[100, 105, 118, 95, 115]⟩), (.string ⟨#[100, 105, 118, 95, 117]⟩), (.string ⟨#[114, 101, 109, 95, 115]⟩), (.string ⟨#[114, 101, 109, 95, 117]⟩), (.string ⟨#[97, 110, 100]⟩), (.string ⟨#[111, 114]⟩), (.string ⟨#[120, 111, 114]⟩), (.string ⟨#[115, 104, 108]⟩), (.string ⟨#[115, 104, 114, 95, 115]⟩), (.string ⟨#[115, 104, 114, 95, 117]⟩), (.string ⟨#[114, 111, 116, 108]⟩), (.string ⟨#[114, 111, 116, 114]⟩)]) rfl rfl (by kernel_rfl) (by kernel_rfl) hk4 (by kernel_rfl) (by kernel_rfl)) rfl rfl ?_; clear hf fa; rintro fa _ w5 ⟨hk5, hg2⟩ hf
  replace hk1 := blk_grown hk1 hg2 (by omega)
  replace hk3 := blk_grown hk3 hg2 (by omega)
  replace hb := hb.trans (grown_below hg2 hb.size hBb3)
  apply wpList_nil
  (try simp only [Exit.then, Exit.inBlock, ↓reduceIte, Nat.reduceEqDiff])
  refine hK3 _ _ ?_
  refine wp_seq_k (fun K4 hK4 => ?_)
  refine wp_block ?_
  refine wp_seq_k (fun K5 hK5 => ?_)
  refine wp_region_lit ?_
  refine sqv hf (r_move rfl) rfl rfl rfl ?_; clear hf fa; intro fa hf
  refine sqv hf (r_eq rfl rfl) rfl rfl rfl ?_; clear hf fa; intro fa hf
  refine sqv hf (r_assign rfl) rfl rfl rfl ?_; clear hf fa; intro fa hf
  apply wpList_nil
  (try simp only [Exit.then, Exit.inBlock, ↓reduceIte, Nat.reduceEqDiff])
  refine hK5 _ _ ?_
  refine wp_cond_split (t := (decide (((op : Nat) : Int) = (65 : Int)))) (hf.ev rfl) (fun hqt7_1 => ?_) (fun hqt7_1 => ?_)
  · have hqt7_1b := hqt7_1
    try simp only [decide_eq_true_eq, Bool.and_eq_true, Bool.or_eq_true, Bool.not_eq_true', decide_eq_false_iff_not, ne_eq, Bool.not_eq_true] at hqt7_1
    refine wp_seq_k (fun K6 hK6 => ?_)
    refine wp_region_lit ?_
    refine sqv hf (r_build (vs := [(0, (.string ⟨#[105, 51, 50, 46, 99, 111, 110, 115, 116]⟩)), (1, (.int .i64 (10 : Int))), (3, (.string ⟨#[127]⟩))]) (cs := #[(.string ⟨#[105, 51, 50, 46, 99, 111, 110, 115, 116]⟩), (.int .i64 (10 : Int)), (.string ⟨#[]⟩), (.string ⟨#[127]⟩), (.bool false)]) rfl (fun _ => by kernel_rfl)) rfl rfl rfl ?_; clear hf fa; intro fa hf
    refine sqn hf (d_storeK (T := 54) (v := (.agg #[(.string ⟨#[105, 51, 50, 46, 99, 111, 110, 115, 116]⟩), (.int .i64 (10 : Int)), (.string ⟨#[]⟩), (.string ⟨#[127]⟩), (.bool false)])) (cs := #[(.string ⟨#[]⟩), (.int .i64 (0 : Int)), (.string ⟨#[]⟩), (.string ⟨#[]⟩), (.bool false)]) (cs' := #[(.string ⟨#[105, 51, 50, 46, 99, 111, 110, 115, 116]⟩), (.int .i64 (10 : Int)), (.string ⟨#[]⟩), (.string ⟨#[127]⟩), (.bool false)]) rfl rfl (by kernel_rfl) (by kernel_rfl) hk1 (by kernel_rfl) (by kernel_rfl)) rfl rfl ?_; clear hf fa; rintro fa _ w6 ⟨hk6, hg3⟩ hf
    replace hk3 := blk_grown hk3 hg3 (by omega)
    replace hk5 := blk_grown hk5 hg3 (by omega)
    replace hb := hb.trans (grown_below hg3 hb.size hBb1)
    apply wpList_nil
    (try simp only [Exit.then, Exit.inBlock, ↓reduceIte, Nat.reduceEqDiff])
    refine hK6 _ _ ?_
    refine wp_ret ?_
    (try simp only [Exit.then, Exit.inBlock])
    refine retC hf rfl rfl hk6 Tryd.underlying54 rfl (by kernel_rfl) ?_
    refine ⟨?_, hb⟩; unfold nbrP; rw [hqt7_1b]; (try rfl)
  · have hqt7_1b := hqt7_1
    replace hqt7_1 := Bool.eq_false_iff.1 hqt7_1
    try simp only [ne_eq, decide_eq_true_eq, Bool.and_eq_true, Bool.or_eq_true, Bool.not_eq_true', decide_eq_false_iff_not] at hqt7_1
    refine wp_seq_k (fun K7 hK7 => ?_)
    refine wp_region_lit ?_
    refine sqv hf (r_move rfl) rfl rfl rfl ?_; clear hf fa; intro fa hf
    refine sqv hf (r_eq rfl rfl) rfl rfl rfl ?_; clear hf fa; intro fa hf
    refine sqv hf (r_assign rfl) rfl rfl rfl ?_; clear hf fa; intro fa hf
    apply wpList_nil
    (try simp only [Exit.then, Exit.inBlock, ↓reduceIte, Nat.reduceEqDiff])
    refine hK7 _ _ ?_
    refine wp_cond_split (t := (decide (((op : Nat) : Int) = (66 : Int)))) (hf.ev rfl) (fun hqt11_1 => ?_) (fun hqt11_1 => ?_)
    · have hqt11_1b := hqt11_1
      try simp only [decide_eq_true_eq, Bool.and_eq_true, Bool.or_eq_true, Bool.not_eq_true', decide_eq_false_iff_not, ne_eq, Bool.not_eq_true] at hqt11_1
      refine wp_seq_k (fun K8 hK8 => ?_)
      refine wp_region_lit ?_
      refine sqv hf (r_build (vs := [(0, (.string ⟨#[105, 54, 52, 46, 99, 111, 110, 115, 116]⟩)), (1, (.int .i64 (11 : Int))), (3, (.string ⟨#[126]⟩))]) (cs := #[(.string ⟨#[105, 54, 52, 46, 99, 111, 110, 115, 116]⟩), (.int .i64 (11 : Int)), (.string ⟨#[]⟩), (.string ⟨#[126]⟩), (.bool false)]) rfl (fun _ => by kernel_rfl)) rfl rfl rfl ?_; clear hf fa; intro fa hf
      refine sqn hf (d_storeK (T := 54) (v := (.agg #[(.string ⟨#[105, 54, 52, 46, 99, 111, 110, 115, 116]⟩), (.int .i64 (11 : Int)), (.string ⟨#[]⟩), (.string ⟨#[126]⟩), (.bool false)])) (cs := #[(.string ⟨#[]⟩), (.int .i64 (0 : Int)), (.string ⟨#[]⟩), (.string ⟨#[]⟩), (.bool false)]) (cs' := #[(.string ⟨#[105, 54, 52, 46, 99, 111, 110, 115, 116]⟩), (.int .i64 (11 : Int)), (.string ⟨#[]⟩), (.string ⟨#[126]⟩), (.bool false)]) rfl rfl (by kernel_rfl) (by kernel_rfl) hk1 (by kernel_rfl) (by kernel_rfl)) rfl rfl ?_; clear hf fa; rintro fa _ w7 ⟨hk7, hg4⟩ hf
      replace hk3 := blk_grown hk3 hg4 (by omega)
      replace hk5 := blk_grown hk5 hg4 (by omega)
      replace hb := hb.trans (grown_below hg4 hb.size hBb1)
      apply wpList_nil
      (try simp only [Exit.then, Exit.inBlock, ↓reduceIte, Nat.reduceEqDiff])
      refine hK8 _ _ ?_
      refine wp_ret ?_
      (try simp only [Exit.then, Exit.inBlock])
      refine retC hf rfl rfl hk7 Tryd.underlying54 rfl (by kernel_rfl) ?_
      refine ⟨?_, hb⟩; unfold nbrP; rw [hqt7_1b, hqt11_1b]; (try rfl)
    · have hqt11_1b := hqt11_1
      replace hqt11_1 := Bool.eq_false_iff.1 hqt11_1
      try simp only [ne_eq, decide_eq_true_eq, Bool.and_eq_true, Bool.or_eq_true, Bool.not_eq_true', decide_eq_false_iff_not] at hqt11_1
      refine wp_seq_k (fun K9 hK9 => ?_)
      refine wp_region_lit ?_
      refine sqv hf (r_move rfl) rfl rfl rfl ?_; clear hf fa; intro fa hf
      refine sqv hf (r_ge rfl rfl) rfl rfl rfl ?_; clear hf fa; intro fa hf
      refine sqv hf (r_move rfl) rfl rfl rfl ?_; clear hf fa; intro fa hf
      refine sqgT (act := (decide ((69 : Int) ≤ ((op : Nat) : Int)))) (ag := true) (c := (decide ((69 : Int) ≤ ((op : Nat) : Int)))) (v := (.int .u8 ((op : Nat) : Int))) hf rfl rfl rfl (fun hact => (r_move rfl)) rfl rfl ?_; clear hf fa; intro fa hf
      refine sqgT (act := (decide ((69 : Int) ≤ ((op : Nat) : Int)))) (ag := true) (c := (decide ((69 : Int) ≤ ((op : Nat) : Int)))) (v := (.bool (decide (((op : Nat) : Int) ≤ (79 : Int))))) hf rfl rfl rfl (fun hact => (r_le (gb_ev hact rfl) rfl)) rfl rfl ?_; clear hf fa; intro fa hf
      refine sqv hf (r_pickA (b := (decide ((69 : Int) ≤ ((op : Nat) : Int)))) (e := (decide (((op : Nat) : Int) ≤ (79 : Int)))) rfl rfl rfl) rfl rfl rfl ?_; clear hf fa; intro fa hf
      refine sqv hf (r_assign rfl) rfl rfl rfl ?_; clear hf fa; intro fa hf
      apply wpList_nil
      (try simp only [Exit.then, Exit.inBlock, ↓reduceIte, Nat.reduceEqDiff])
      refine hK9 _ _ ?_
      refine wp_cond_split (t := ((decide ((69 : Int) ≤ ((op : Nat) : Int))) && (decide (((op : Nat) : Int) ≤ (79 : Int))))) (hf.ev rfl) (fun hqt15_1 => ?_) (fun hqt15_1 => ?_)
      · have hqt15_1b := hqt15_1
        try simp only [decide_eq_true_eq, Bool.and_eq_true, Bool.or_eq_true, Bool.not_eq_true', decide_eq_false_iff_not, ne_eq, Bool.not_eq_true] at hqt15_1
        refine wp_seq_k (fun K10 hK10 => ?_)
        have hr1 := Row.of_new (k := 1) (V := vStr) (l := [(⟨#[101, 113, 122]⟩ : ByteArray), (⟨#[101, 113]⟩ : ByteArray), (⟨#[110, 101]⟩ : ByteArray), (⟨#[108, 116, 95, 115]⟩ : ByteArray), (⟨#[108, 116, 95, 117]⟩ : ByteArray), (⟨#[103, 116, 95, 115]⟩ : ByteArray), (⟨#[103, 116, 95, 117]⟩ : ByteArray), (⟨#[108, 101, 95, 115]⟩ : ByteArray), (⟨#[108, 101, 95, 117]⟩ : ByteArray), (⟨#[103, 101, 95, 115]⟩ : ByteArray), (⟨#[103, 101, 95, 117]⟩ : ByteArray)]) (base := w.heap.size) hk3 (by omega) rfl rfl (Nat.le_of_ble_eq_true rfl)
        have hcl := cmpO_le (op - 69) (by have h := hqt15_1; (try simp at h); omega)
        refine wp_region_lit ?_
        refine sqv hf (r_move rfl) rfl rfl rfl ?_; clear hf fa; intro fa hf
        refine sqv hf (r_sub (C := (((op - 69) : Nat) : Int)) rfl rfl (by rw [IntKind.wrap_u8]; omega)) rfl rfl rfl ?_; clear hf fa; intro fa hf
        have hy1 : ([(⟨#[101, 113, 122]⟩ : ByteArray), (⟨#[101, 113]⟩ : ByteArray), (⟨#[110, 101]⟩ : ByteArray), (⟨#[108, 116, 95, 115]⟩ : ByteArray), (⟨#[108, 116, 95, 117]⟩ : ByteArray), (⟨#[103, 116, 95, 115]⟩ : ByteArray), (⟨#[103, 116, 95, 117]⟩ : ByteArray), (⟨#[108, 101, 95, 115]⟩ : ByteArray), (⟨#[108, 101, 95, 117]⟩ : ByteArray), (⟨#[103, 101, 95, 115]⟩ : ByteArray), (⟨#[103, 101, 95, 117]⟩ : ByteArray)])[((op - 69))]? = some (cmpO ((op - 69))) := (cmpO_at (by omega))
        have hel1 := RdS.at (Row.rd (by intros; rfl) hr1) hy1
        obtain ⟨_, _, hab, hlr1, hel1⟩ := hel1
        cases hab
        refine sqv hf (r_ixp (sz := 1) (j := ((op - 69))) (nn := 11) rfl rfl Tryd.underlying121 (by kernel_rfl) rfl (by omega) rfl) rfl rfl rfl ?_; clear hf fa; intro fa hf
        refine sqv hf (r_load (v := (.string (cmpO ((op - 69))))) rfl Tryd.underlying9 rfl (cellsAt_cell hel1 (i := 0) rfl rfl)) rfl rfl rfl ?_; clear hf fa; intro fa hf
        refine sqv hf (r_move rfl) rfl rfl rfl ?_; clear hf fa; intro fa hf
        refine sqv hf (r_eq rfl rfl) rfl rfl rfl ?_; clear hf fa; intro fa hf
        refine sqdt hf (d_callB (vs := [(.string ⟨#[105, 51, 50, 46]⟩), (.string (cmpO ((op - 69)))), (.string ⟨#[127]⟩), (.string ⟨#[127]⟩), (.bool (decide (((op : Nat) : Int) = (69 : Int))))]) rfl Tryd.func73 (by kernel_rfl) (by kernel_rfl) (bny_any (⟨#[105, 51, 50, 46]⟩ : ByteArray) (cmpO ((op - 69))) (⟨#[127]⟩ : ByteArray) (⟨#[127]⟩ : ByteArray) (decide (((op : Nat) : Int) = (69 : Int))) _ (by first | omega | decide) (by first | omega | decide) (by first | omega | decide))) rfl rfl rfl ?_; clear hf fa; rintro fa _ w8 ⟨rfl, he4⟩ hf
        replace hk1 := blk_ext hk1 he4
        replace hk5 := blk_ext hk5 he4
        replace hr1 := Row.ext hr1 he4
        replace hb := hb.trans (Below.mono he4 hb.size)
        refine sqn hf (d_storeK (T := 54) (v := (.agg #[(.string (bnyP (⟨#[105, 51, 50, 46]⟩ : ByteArray) (cmpO ((op - 69))) (⟨#[127]⟩ : ByteArray) (⟨#[127]⟩ : ByteArray) (decide (((op : Nat) : Int) = (69 : Int)))).1), (.int .i64 ((bnyP (⟨#[105, 51, 50, 46]⟩ : ByteArray) (cmpO ((op - 69))) (⟨#[127]⟩ : ByteArray) (⟨#[127]⟩ : ByteArray) (decide (((op : Nat) : Int) = (69 : Int)))).2.1)), (.string (bnyP (⟨#[105, 51, 50, 46]⟩ : ByteArray) (cmpO ((op - 69))) (⟨#[127]⟩ : ByteArray) (⟨#[127]⟩ : ByteArray) (decide (((op : Nat) : Int) = (69 : Int)))).2.2.1), (.string (bnyP (⟨#[105, 51, 50, 46]⟩ : ByteArray) (cmpO ((op - 69))) (⟨#[127]⟩ : ByteArray) (⟨#[127]⟩ : ByteArray) (decide (((op : Nat) : Int) = (69 : Int)))).2.2.2.1), (.bool (bnyP (⟨#[105, 51, 50, 46]⟩ : ByteArray) (cmpO ((op - 69))) (⟨#[127]⟩ : ByteArray) (⟨#[127]⟩ : ByteArray) (decide (((op : Nat) : Int) = (69 : Int)))).2.2.2.2.1)])) (cs := #[(.string ⟨#[]⟩), (.int .i64 (0 : Int)), (.string ⟨#[]⟩), (.string ⟨#[]⟩), (.bool false)]) (cs' := #[(.string (bnyP (⟨#[105, 51, 50, 46]⟩ : ByteArray) (cmpO ((op - 69))) (⟨#[127]⟩ : ByteArray) (⟨#[127]⟩ : ByteArray) (decide (((op : Nat) : Int) = (69 : Int)))).1), (.int .i64 ((bnyP (⟨#[105, 51, 50, 46]⟩ : ByteArray) (cmpO ((op - 69))) (⟨#[127]⟩ : ByteArray) (⟨#[127]⟩ : ByteArray) (decide (((op : Nat) : Int) = (69 : Int)))).2.1)), (.string (bnyP (⟨#[105, 51, 50, 46]⟩ : ByteArray) (cmpO ((op - 69))) (⟨#[127]⟩ : ByteArray) (⟨#[127]⟩ : ByteArray) (decide (((op : Nat) : Int) = (69 : Int)))).2.2.1), (.string (bnyP (⟨#[105, 51, 50, 46]⟩ : ByteArray) (cmpO ((op - 69))) (⟨#[127]⟩ : ByteArray) (⟨#[127]⟩ : ByteArray) (decide (((op : Nat) : Int) = (69 : Int)))).2.2.2.1), (.bool (bnyP (⟨#[105, 51, 50, 46]⟩ : ByteArray) (cmpO ((op - 69))) (⟨#[127]⟩ : ByteArray) (⟨#[127]⟩ : ByteArray) (decide (((op : Nat) : Int) = (69 : Int)))).2.2.2.2.1)]) rfl rfl (by kernel_rfl) (by kernel_rfl) hk1 (by kernel_rfl) (by kernel_rfl)) rfl rfl ?_; clear hf fa; rintro fa _ w9 ⟨hk8, hg5⟩ hf
        replace hk5 := blk_grown hk5 hg5 (by omega)
        replace hr1 := Row.grown hr1 hg5 (Row.ne_type hr1 hk1 rfl)
        replace hb := hb.trans (grown_below hg5 hb.size hBb1)
        apply wpList_nil
        (try simp only [Exit.then, Exit.inBlock, ↓reduceIte, Nat.reduceEqDiff])
        refine hK10 _ _ ?_
        refine wp_ret ?_
        (try simp only [Exit.then, Exit.inBlock])
        refine retC hf rfl rfl hk8 Tryd.underlying54 rfl (by kernel_rfl) ?_
        refine ⟨?_, hb⟩; unfold nbrP; rw [hqt7_1b, hqt11_1b, hqt15_1b]; (try rfl)
      · have hqt15_1b := hqt15_1
        replace hqt15_1 := Bool.eq_false_iff.1 hqt15_1
        try simp only [ne_eq, decide_eq_true_eq, Bool.and_eq_true, Bool.or_eq_true, Bool.not_eq_true', decide_eq_false_iff_not] at hqt15_1
        refine wp_seq_k (fun K11 hK11 => ?_)
        refine wp_region_lit ?_
        refine sqv hf (r_move rfl) rfl rfl rfl ?_; clear hf fa; intro fa hf
        refine sqv hf (r_ge rfl rfl) rfl rfl rfl ?_; clear hf fa; intro fa hf
        refine sqv hf (r_move rfl) rfl rfl rfl ?_; clear hf fa; intro fa hf
        refine sqgT (act := (decide ((80 : Int) ≤ ((op : Nat) : Int)))) (ag := true) (c := (decide ((80 : Int) ≤ ((op : Nat) : Int)))) (v := (.int .u8 ((op : Nat) : Int))) hf rfl rfl rfl (fun hact => (r_move rfl)) rfl rfl ?_; clear hf fa; intro fa hf
        refine sqgT (act := (decide ((80 : Int) ≤ ((op : Nat) : Int)))) (ag := true) (c := (decide ((80 : Int) ≤ ((op : Nat) : Int)))) (v := (.bool (decide (((op : Nat) : Int) ≤ (90 : Int))))) hf rfl rfl rfl (fun hact => (r_le (gb_ev hact rfl) rfl)) rfl rfl ?_; clear hf fa; intro fa hf
        refine sqv hf (r_pickA (b := (decide ((80 : Int) ≤ ((op : Nat) : Int)))) (e := (decide (((op : Nat) : Int) ≤ (90 : Int)))) rfl rfl rfl) rfl rfl rfl ?_; clear hf fa; intro fa hf
        refine sqv hf (r_assign rfl) rfl rfl rfl ?_; clear hf fa; intro fa hf
        apply wpList_nil
        (try simp only [Exit.then, Exit.inBlock, ↓reduceIte, Nat.reduceEqDiff])
        refine hK11 _ _ ?_
        refine wp_cond_split (t := ((decide ((80 : Int) ≤ ((op : Nat) : Int))) && (decide (((op : Nat) : Int) ≤ (90 : Int))))) (hf.ev rfl) (fun hqt29_1 => ?_) (fun hqt29_1 => ?_)
        · have hqt29_1b := hqt29_1
          try simp only [decide_eq_true_eq, Bool.and_eq_true, Bool.or_eq_true, Bool.not_eq_true', decide_eq_false_iff_not, ne_eq, Bool.not_eq_true] at hqt29_1
          refine wp_seq_k (fun K12 hK12 => ?_)
          have hr2 := Row.of_new (k := 1) (V := vStr) (l := [(⟨#[101, 113, 122]⟩ : ByteArray), (⟨#[101, 113]⟩ : ByteArray), (⟨#[110, 101]⟩ : ByteArray), (⟨#[108, 116, 95, 115]⟩ : ByteArray), (⟨#[108, 116, 95, 117]⟩ : ByteArray), (⟨#[103, 116, 95, 115]⟩ : ByteArray), (⟨#[103, 116, 95, 117]⟩ : ByteArray), (⟨#[108, 101, 95, 115]⟩ : ByteArray), (⟨#[108, 101, 95, 117]⟩ : ByteArray), (⟨#[103, 101, 95, 115]⟩ : ByteArray), (⟨#[103, 101, 95, 117]⟩ : ByteArray)]) (base := w.heap.size) hk3 (by omega) rfl rfl (Nat.le_of_ble_eq_true rfl)
          have hcl := cmpO_le (op - 80) (by have h := hqt29_1; (try simp at h); omega)
          refine wp_region_lit ?_
          refine sqv hf (r_move rfl) rfl rfl rfl ?_; clear hf fa; intro fa hf
          refine sqv hf (r_sub (C := (((op - 80) : Nat) : Int)) rfl rfl (by rw [IntKind.wrap_u8]; omega)) rfl rfl rfl ?_; clear hf fa; intro fa hf
          have hy2 : ([(⟨#[101, 113, 122]⟩ : ByteArray), (⟨#[101, 113]⟩ : ByteArray), (⟨#[110, 101]⟩ : ByteArray), (⟨#[108, 116, 95, 115]⟩ : ByteArray), (⟨#[108, 116, 95, 117]⟩ : ByteArray), (⟨#[103, 116, 95, 115]⟩ : ByteArray), (⟨#[103, 116, 95, 117]⟩ : ByteArray), (⟨#[108, 101, 95, 115]⟩ : ByteArray), (⟨#[108, 101, 95, 117]⟩ : ByteArray), (⟨#[103, 101, 95, 115]⟩ : ByteArray), (⟨#[103, 101, 95, 117]⟩ : ByteArray)])[((op - 80))]? = some (cmpO ((op - 80))) := (cmpO_at (by omega))
          have hel2 := RdS.at (Row.rd (by intros; rfl) hr2) hy2
          obtain ⟨_, _, hab, hlr2, hel2⟩ := hel2
          cases hab
          refine sqv hf (r_ixp (sz := 1) (j := ((op - 80))) (nn := 11) rfl rfl Tryd.underlying121 (by kernel_rfl) rfl (by omega) rfl) rfl rfl rfl ?_; clear hf fa; intro fa hf
          refine sqv hf (r_load (v := (.string (cmpO ((op - 80))))) rfl Tryd.underlying9 rfl (cellsAt_cell hel2 (i := 0) rfl rfl)) rfl rfl rfl ?_; clear hf fa; intro fa hf
          refine sqv hf (r_move rfl) rfl rfl rfl ?_; clear hf fa; intro fa hf
          refine sqv hf (r_eq rfl rfl) rfl rfl rfl ?_; clear hf fa; intro fa hf
          refine sqdt hf (d_callB (vs := [(.string ⟨#[105, 54, 52, 46]⟩), (.string (cmpO ((op - 80)))), (.string ⟨#[126]⟩), (.string ⟨#[127]⟩), (.bool (decide (((op : Nat) : Int) = (80 : Int))))]) rfl Tryd.func73 (by kernel_rfl) (by kernel_rfl) (bny_any (⟨#[105, 54, 52, 46]⟩ : ByteArray) (cmpO ((op - 80))) (⟨#[126]⟩ : ByteArray) (⟨#[127]⟩ : ByteArray) (decide (((op : Nat) : Int) = (80 : Int))) _ (by first | omega | decide) (by first | omega | decide) (by first | omega | decide))) rfl rfl rfl ?_; clear hf fa; rintro fa _ w10 ⟨rfl, he5⟩ hf
          replace hk1 := blk_ext hk1 he5
          replace hk5 := blk_ext hk5 he5
          replace hr2 := Row.ext hr2 he5
          replace hb := hb.trans (Below.mono he5 hb.size)
          refine sqn hf (d_storeK (T := 54) (v := (.agg #[(.string (bnyP (⟨#[105, 54, 52, 46]⟩ : ByteArray) (cmpO ((op - 80))) (⟨#[126]⟩ : ByteArray) (⟨#[127]⟩ : ByteArray) (decide (((op : Nat) : Int) = (80 : Int)))).1), (.int .i64 ((bnyP (⟨#[105, 54, 52, 46]⟩ : ByteArray) (cmpO ((op - 80))) (⟨#[126]⟩ : ByteArray) (⟨#[127]⟩ : ByteArray) (decide (((op : Nat) : Int) = (80 : Int)))).2.1)), (.string (bnyP (⟨#[105, 54, 52, 46]⟩ : ByteArray) (cmpO ((op - 80))) (⟨#[126]⟩ : ByteArray) (⟨#[127]⟩ : ByteArray) (decide (((op : Nat) : Int) = (80 : Int)))).2.2.1), (.string (bnyP (⟨#[105, 54, 52, 46]⟩ : ByteArray) (cmpO ((op - 80))) (⟨#[126]⟩ : ByteArray) (⟨#[127]⟩ : ByteArray) (decide (((op : Nat) : Int) = (80 : Int)))).2.2.2.1), (.bool (bnyP (⟨#[105, 54, 52, 46]⟩ : ByteArray) (cmpO ((op - 80))) (⟨#[126]⟩ : ByteArray) (⟨#[127]⟩ : ByteArray) (decide (((op : Nat) : Int) = (80 : Int)))).2.2.2.2.1)])) (cs := #[(.string ⟨#[]⟩), (.int .i64 (0 : Int)), (.string ⟨#[]⟩), (.string ⟨#[]⟩), (.bool false)]) (cs' := #[(.string (bnyP (⟨#[105, 54, 52, 46]⟩ : ByteArray) (cmpO ((op - 80))) (⟨#[126]⟩ : ByteArray) (⟨#[127]⟩ : ByteArray) (decide (((op : Nat) : Int) = (80 : Int)))).1), (.int .i64 ((bnyP (⟨#[105, 54, 52, 46]⟩ : ByteArray) (cmpO ((op - 80))) (⟨#[126]⟩ : ByteArray) (⟨#[127]⟩ : ByteArray) (decide (((op : Nat) : Int) = (80 : Int)))).2.1)), (.string (bnyP (⟨#[105, 54, 52, 46]⟩ : ByteArray) (cmpO ((op - 80))) (⟨#[126]⟩ : ByteArray) (⟨#[127]⟩ : ByteArray) (decide (((op : Nat) : Int) = (80 : Int)))).2.2.1), (.string (bnyP (⟨#[105, 54, 52, 46]⟩ : ByteArray) (cmpO ((op - 80))) (⟨#[126]⟩ : ByteArray) (⟨#[127]⟩ : ByteArray) (decide (((op : Nat) : Int) = (80 : Int)))).2.2.2.1), (.bool (bnyP (⟨#[105, 54, 52, 46]⟩ : ByteArray) (cmpO ((op - 80))) (⟨#[126]⟩ : ByteArray) (⟨#[127]⟩ : ByteArray) (decide (((op : Nat) : Int) = (80 : Int)))).2.2.2.2.1)]) rfl rfl (by kernel_rfl) (by kernel_rfl) hk1 (by kernel_rfl) (by kernel_rfl)) rfl rfl ?_; clear hf fa; rintro fa _ w11 ⟨hk9, hg6⟩ hf
          replace hk5 := blk_grown hk5 hg6 (by omega)
          replace hr2 := Row.grown hr2 hg6 (Row.ne_type hr2 hk1 rfl)
          replace hb := hb.trans (grown_below hg6 hb.size hBb1)
          apply wpList_nil
          (try simp only [Exit.then, Exit.inBlock, ↓reduceIte, Nat.reduceEqDiff])
          refine hK12 _ _ ?_
          refine wp_ret ?_
          (try simp only [Exit.then, Exit.inBlock])
          refine retC hf rfl rfl hk9 Tryd.underlying54 rfl (by kernel_rfl) ?_
          refine ⟨?_, hb⟩; unfold nbrP; rw [hqt7_1b, hqt11_1b, hqt15_1b, hqt29_1b]; (try rfl)
        · have hqt29_1b := hqt29_1
          replace hqt29_1 := Bool.eq_false_iff.1 hqt29_1
          try simp only [ne_eq, decide_eq_true_eq, Bool.and_eq_true, Bool.or_eq_true, Bool.not_eq_true', decide_eq_false_iff_not] at hqt29_1
          refine wp_seq_k (fun K13 hK13 => ?_)
          refine wp_region_lit ?_
          refine sqv hf (r_move rfl) rfl rfl rfl ?_; clear hf fa; intro fa hf
          refine sqv hf (r_ge rfl rfl) rfl rfl rfl ?_; clear hf fa; intro fa hf
          refine sqv hf (r_move rfl) rfl rfl rfl ?_; clear hf fa; intro fa hf
          refine sqgT (act := (decide ((103 : Int) ≤ ((op : Nat) : Int)))) (ag := true) (c := (decide ((103 : Int) ≤ ((op : Nat) : Int)))) (v := (.int .u8 ((op : Nat) : Int))) hf rfl rfl rfl (fun hact => (r_move rfl)) rfl rfl ?_; clear hf fa; intro fa hf
          refine sqgT (act := (decide ((103 : Int) ≤ ((op : Nat) : Int)))) (ag := true) (c := (decide ((103 : Int) ≤ ((op : Nat) : Int)))) (v := (.bool (decide (((op : Nat) : Int) ≤ (120 : Int))))) hf rfl rfl rfl (fun hact => (r_le (gb_ev hact rfl) rfl)) rfl rfl ?_; clear hf fa; intro fa hf
          refine sqv hf (r_pickA (b := (decide ((103 : Int) ≤ ((op : Nat) : Int)))) (e := (decide (((op : Nat) : Int) ≤ (120 : Int)))) rfl rfl rfl) rfl rfl rfl ?_; clear hf fa; intro fa hf
          refine sqv hf (r_assign rfl) rfl rfl rfl ?_; clear hf fa; intro fa hf
          apply wpList_nil
          (try simp only [Exit.then, Exit.inBlock, ↓reduceIte, Nat.reduceEqDiff])
          refine hK13 _ _ ?_
          refine wp_cond_split (t := ((decide ((103 : Int) ≤ ((op : Nat) : Int))) && (decide (((op : Nat) : Int) ≤ (120 : Int))))) (hf.ev rfl) (fun hqt43_1 => ?_) (fun hqt43_1 => ?_)
          · have hqt43_1b := hqt43_1
            try simp only [decide_eq_true_eq, Bool.and_eq_true, Bool.or_eq_true, Bool.not_eq_true', decide_eq_false_iff_not, ne_eq, Bool.not_eq_true] at hqt43_1
            refine wp_seq_k (fun K14 hK14 => ?_)
            have hr3 := Row.of_new (k := 1) (V := vStr) (l := [(⟨#[99, 108, 122]⟩ : ByteArray), (⟨#[99, 116, 122]⟩ : ByteArray), (⟨#[112, 111, 112, 99, 110, 116]⟩ : ByteArray), (⟨#[97, 100, 100]⟩ : ByteArray), (⟨#[115, 117, 98]⟩ : ByteArray), (⟨#[109, 117, 108]⟩ : ByteArray), (⟨#[100, 105, 118, 95, 115]⟩ : ByteArray), (⟨#[100, 105, 118, 95, 117]⟩ : ByteArray), (⟨#[114, 101, 109, 95, 115]⟩ : ByteArray), (⟨#[114, 101, 109, 95, 117]⟩ : ByteArray), (⟨#[97, 110, 100]⟩ : ByteArray), (⟨#[111, 114]⟩ : ByteArray), (⟨#[120, 111, 114]⟩ : ByteArray), (⟨#[115, 104, 108]⟩ : ByteArray), (⟨#[115, 104, 114, 95, 115]⟩ : ByteArray), (⟨#[115, 104, 114, 95, 117]⟩ : ByteArray), (⟨#[114, 111, 116, 108]⟩ : ByteArray), (⟨#[114, 111, 116, 114]⟩ : ByteArray)]) (base := w.heap.size) hk5 (by omega) rfl rfl (Nat.le_of_ble_eq_true rfl)
            have hcl := rckO_le (op - 103) (by have h := hqt43_1; (try simp at h); omega)
            refine wp_region_lit ?_
            refine sqv hf (r_move rfl) rfl rfl rfl ?_; clear hf fa; intro fa hf
            refine sqv hf (r_sub (C := (((op - 103) : Nat) : Int)) rfl rfl (by rw [IntKind.wrap_u8]; omega)) rfl rfl rfl ?_; clear hf fa; intro fa hf
            have hy3 : ([(⟨#[99, 108, 122]⟩ : ByteArray), (⟨#[99, 116, 122]⟩ : ByteArray), (⟨#[112, 111, 112, 99, 110, 116]⟩ : ByteArray), (⟨#[97, 100, 100]⟩ : ByteArray), (⟨#[115, 117, 98]⟩ : ByteArray), (⟨#[109, 117, 108]⟩ : ByteArray), (⟨#[100, 105, 118, 95, 115]⟩ : ByteArray), (⟨#[100, 105, 118, 95, 117]⟩ : ByteArray), (⟨#[114, 101, 109, 95, 115]⟩ : ByteArray), (⟨#[114, 101, 109, 95, 117]⟩ : ByteArray), (⟨#[97, 110, 100]⟩ : ByteArray), (⟨#[111, 114]⟩ : ByteArray), (⟨#[120, 111, 114]⟩ : ByteArray), (⟨#[115, 104, 108]⟩ : ByteArray), (⟨#[115, 104, 114, 95, 115]⟩ : ByteArray), (⟨#[115, 104, 114, 95, 117]⟩ : ByteArray), (⟨#[114, 111, 116, 108]⟩ : ByteArray), (⟨#[114, 111, 116, 114]⟩ : ByteArray)])[((op - 103))]? = some (rckO ((op - 103))) := (rckO_at (by omega))
            have hel3 := RdS.at (Row.rd (by intros; rfl) hr3) hy3
            obtain ⟨_, _, hab, hlr3, hel3⟩ := hel3
            cases hab
            refine sqv hf (r_ixp (sz := 1) (j := ((op - 103))) (nn := 18) rfl rfl Tryd.underlying122 (by kernel_rfl) rfl (by omega) rfl) rfl rfl rfl ?_; clear hf fa; intro fa hf
            refine sqv hf (r_load (v := (.string (rckO ((op - 103))))) rfl Tryd.underlying9 rfl (cellsAt_cell hel3 (i := 0) rfl rfl)) rfl rfl rfl ?_; clear hf fa; intro fa hf
            refine sqv hf (r_move rfl) rfl rfl rfl ?_; clear hf fa; intro fa hf
            refine sqv hf (r_lt rfl rfl) rfl rfl rfl ?_; clear hf fa; intro fa hf
            refine sqdt hf (d_callB (vs := [(.string ⟨#[105, 51, 50, 46]⟩), (.string (rckO ((op - 103)))), (.string ⟨#[127]⟩), (.string ⟨#[127]⟩), (.bool (decide (((op : Nat) : Int) < (106 : Int))))]) rfl Tryd.func73 (by kernel_rfl) (by kernel_rfl) (bny_any (⟨#[105, 51, 50, 46]⟩ : ByteArray) (rckO ((op - 103))) (⟨#[127]⟩ : ByteArray) (⟨#[127]⟩ : ByteArray) (decide (((op : Nat) : Int) < (106 : Int))) _ (by first | omega | decide) (by first | omega | decide) (by first | omega | decide))) rfl rfl rfl ?_; clear hf fa; rintro fa _ w12 ⟨rfl, he6⟩ hf
            replace hk1 := blk_ext hk1 he6
            replace hk3 := blk_ext hk3 he6
            replace hr3 := Row.ext hr3 he6
            replace hb := hb.trans (Below.mono he6 hb.size)
            refine sqn hf (d_storeK (T := 54) (v := (.agg #[(.string (bnyP (⟨#[105, 51, 50, 46]⟩ : ByteArray) (rckO ((op - 103))) (⟨#[127]⟩ : ByteArray) (⟨#[127]⟩ : ByteArray) (decide (((op : Nat) : Int) < (106 : Int)))).1), (.int .i64 ((bnyP (⟨#[105, 51, 50, 46]⟩ : ByteArray) (rckO ((op - 103))) (⟨#[127]⟩ : ByteArray) (⟨#[127]⟩ : ByteArray) (decide (((op : Nat) : Int) < (106 : Int)))).2.1)), (.string (bnyP (⟨#[105, 51, 50, 46]⟩ : ByteArray) (rckO ((op - 103))) (⟨#[127]⟩ : ByteArray) (⟨#[127]⟩ : ByteArray) (decide (((op : Nat) : Int) < (106 : Int)))).2.2.1), (.string (bnyP (⟨#[105, 51, 50, 46]⟩ : ByteArray) (rckO ((op - 103))) (⟨#[127]⟩ : ByteArray) (⟨#[127]⟩ : ByteArray) (decide (((op : Nat) : Int) < (106 : Int)))).2.2.2.1), (.bool (bnyP (⟨#[105, 51, 50, 46]⟩ : ByteArray) (rckO ((op - 103))) (⟨#[127]⟩ : ByteArray) (⟨#[127]⟩ : ByteArray) (decide (((op : Nat) : Int) < (106 : Int)))).2.2.2.2.1)])) (cs := #[(.string ⟨#[]⟩), (.int .i64 (0 : Int)), (.string ⟨#[]⟩), (.string ⟨#[]⟩), (.bool false)]) (cs' := #[(.string (bnyP (⟨#[105, 51, 50, 46]⟩ : ByteArray) (rckO ((op - 103))) (⟨#[127]⟩ : ByteArray) (⟨#[127]⟩ : ByteArray) (decide (((op : Nat) : Int) < (106 : Int)))).1), (.int .i64 ((bnyP (⟨#[105, 51, 50, 46]⟩ : ByteArray) (rckO ((op - 103))) (⟨#[127]⟩ : ByteArray) (⟨#[127]⟩ : ByteArray) (decide (((op : Nat) : Int) < (106 : Int)))).2.1)), (.string (bnyP (⟨#[105, 51, 50, 46]⟩ : ByteArray) (rckO ((op - 103))) (⟨#[127]⟩ : ByteArray) (⟨#[127]⟩ : ByteArray) (decide (((op : Nat) : Int) < (106 : Int)))).2.2.1), (.string (bnyP (⟨#[105, 51, 50, 46]⟩ : ByteArray) (rckO ((op - 103))) (⟨#[127]⟩ : ByteArray) (⟨#[127]⟩ : ByteArray) (decide (((op : Nat) : Int) < (106 : Int)))).2.2.2.1), (.bool (bnyP (⟨#[105, 51, 50, 46]⟩ : ByteArray) (rckO ((op - 103))) (⟨#[127]⟩ : ByteArray) (⟨#[127]⟩ : ByteArray) (decide (((op : Nat) : Int) < (106 : Int)))).2.2.2.2.1)]) rfl rfl (by kernel_rfl) (by kernel_rfl) hk1 (by kernel_rfl) (by kernel_rfl)) rfl rfl ?_; clear hf fa; rintro fa _ w13 ⟨hk10, hg7⟩ hf
            replace hk3 := blk_grown hk3 hg7 (by omega)
            replace hr3 := Row.grown hr3 hg7 (Row.ne_type hr3 hk1 rfl)
            replace hb := hb.trans (grown_below hg7 hb.size hBb1)
            apply wpList_nil
            (try simp only [Exit.then, Exit.inBlock, ↓reduceIte, Nat.reduceEqDiff])
            refine hK14 _ _ ?_
            refine wp_ret ?_
            (try simp only [Exit.then, Exit.inBlock])
            refine retC hf rfl rfl hk10 Tryd.underlying54 rfl (by kernel_rfl) ?_
            refine ⟨?_, hb⟩; unfold nbrP; rw [hqt7_1b, hqt11_1b, hqt15_1b, hqt29_1b, hqt43_1b]; (try rfl)
          · have hqt43_1b := hqt43_1
            replace hqt43_1 := Bool.eq_false_iff.1 hqt43_1
            try simp only [ne_eq, decide_eq_true_eq, Bool.and_eq_true, Bool.or_eq_true, Bool.not_eq_true', decide_eq_false_iff_not] at hqt43_1
            refine wp_seq_k (fun K15 hK15 => ?_)
            refine wp_region_lit ?_
            refine sqv hf (r_move rfl) rfl rfl rfl ?_; clear hf fa; intro fa hf
            refine sqv hf (r_ge rfl rfl) rfl rfl rfl ?_; clear hf fa; intro fa hf
            refine sqv hf (r_move rfl) rfl rfl rfl ?_; clear hf fa; intro fa hf
            refine sqgT (act := (decide ((121 : Int) ≤ ((op : Nat) : Int)))) (ag := true) (c := (decide ((121 : Int) ≤ ((op : Nat) : Int)))) (v := (.int .u8 ((op : Nat) : Int))) hf rfl rfl rfl (fun hact => (r_move rfl)) rfl rfl ?_; clear hf fa; intro fa hf
            refine sqgT (act := (decide ((121 : Int) ≤ ((op : Nat) : Int)))) (ag := true) (c := (decide ((121 : Int) ≤ ((op : Nat) : Int)))) (v := (.bool (decide (((op : Nat) : Int) ≤ (138 : Int))))) hf rfl rfl rfl (fun hact => (r_le (gb_ev hact rfl) rfl)) rfl rfl ?_; clear hf fa; intro fa hf
            refine sqv hf (r_pickA (b := (decide ((121 : Int) ≤ ((op : Nat) : Int)))) (e := (decide (((op : Nat) : Int) ≤ (138 : Int)))) rfl rfl rfl) rfl rfl rfl ?_; clear hf fa; intro fa hf
            refine sqv hf (r_assign rfl) rfl rfl rfl ?_; clear hf fa; intro fa hf
            apply wpList_nil
            (try simp only [Exit.then, Exit.inBlock, ↓reduceIte, Nat.reduceEqDiff])
            refine hK15 _ _ ?_
            refine wp_cond_split (t := ((decide ((121 : Int) ≤ ((op : Nat) : Int))) && (decide (((op : Nat) : Int) ≤ (138 : Int))))) (hf.ev rfl) (fun hqt57_1 => ?_) (fun hqt57_1 => ?_)
            · have hqt57_1b := hqt57_1
              try simp only [decide_eq_true_eq, Bool.and_eq_true, Bool.or_eq_true, Bool.not_eq_true', decide_eq_false_iff_not, ne_eq, Bool.not_eq_true] at hqt57_1
              refine wp_seq_k (fun K16 hK16 => ?_)
              have hr4 := Row.of_new (k := 1) (V := vStr) (l := [(⟨#[99, 108, 122]⟩ : ByteArray), (⟨#[99, 116, 122]⟩ : ByteArray), (⟨#[112, 111, 112, 99, 110, 116]⟩ : ByteArray), (⟨#[97, 100, 100]⟩ : ByteArray), (⟨#[115, 117, 98]⟩ : ByteArray), (⟨#[109, 117, 108]⟩ : ByteArray), (⟨#[100, 105, 118, 95, 115]⟩ : ByteArray), (⟨#[100, 105, 118, 95, 117]⟩ : ByteArray), (⟨#[114, 101, 109, 95, 115]⟩ : ByteArray), (⟨#[114, 101, 109, 95, 117]⟩ : ByteArray), (⟨#[97, 110, 100]⟩ : ByteArray), (⟨#[111, 114]⟩ : ByteArray), (⟨#[120, 111, 114]⟩ : ByteArray), (⟨#[115, 104, 108]⟩ : ByteArray), (⟨#[115, 104, 114, 95, 115]⟩ : ByteArray), (⟨#[115, 104, 114, 95, 117]⟩ : ByteArray), (⟨#[114, 111, 116, 108]⟩ : ByteArray), (⟨#[114, 111, 116, 114]⟩ : ByteArray)]) (base := w.heap.size) hk5 (by omega) rfl rfl (Nat.le_of_ble_eq_true rfl)
              have hcl := rckO_le (op - 121) (by have h := hqt57_1; (try simp at h); omega)
              refine wp_region_lit ?_
              refine sqv hf (r_move rfl) rfl rfl rfl ?_; clear hf fa; intro fa hf
              refine sqv hf (r_sub (C := (((op - 121) : Nat) : Int)) rfl rfl (by rw [IntKind.wrap_u8]; omega)) rfl rfl rfl ?_; clear hf fa; intro fa hf
              have hy4 : ([(⟨#[99, 108, 122]⟩ : ByteArray), (⟨#[99, 116, 122]⟩ : ByteArray), (⟨#[112, 111, 112, 99, 110, 116]⟩ : ByteArray), (⟨#[97, 100, 100]⟩ : ByteArray), (⟨#[115, 117, 98]⟩ : ByteArray), (⟨#[109, 117, 108]⟩ : ByteArray), (⟨#[100, 105, 118, 95, 115]⟩ : ByteArray), (⟨#[100, 105, 118, 95, 117]⟩ : ByteArray), (⟨#[114, 101, 109, 95, 115]⟩ : ByteArray), (⟨#[114, 101, 109, 95, 117]⟩ : ByteArray), (⟨#[97, 110, 100]⟩ : ByteArray), (⟨#[111, 114]⟩ : ByteArray), (⟨#[120, 111, 114]⟩ : ByteArray), (⟨#[115, 104, 108]⟩ : ByteArray), (⟨#[115, 104, 114, 95, 115]⟩ : ByteArray), (⟨#[115, 104, 114, 95, 117]⟩ : ByteArray), (⟨#[114, 111, 116, 108]⟩ : ByteArray), (⟨#[114, 111, 116, 114]⟩ : ByteArray)])[((op - 121))]? = some (rckO ((op - 121))) := (rckO_at (by omega))
              have hel4 := RdS.at (Row.rd (by intros; rfl) hr4) hy4
              obtain ⟨_, _, hab, hlr4, hel4⟩ := hel4
              cases hab
              refine sqv hf (r_ixp (sz := 1) (j := ((op - 121))) (nn := 18) rfl rfl Tryd.underlying122 (by kernel_rfl) rfl (by omega) rfl) rfl rfl rfl ?_; clear hf fa; intro fa hf
              refine sqv hf (r_load (v := (.string (rckO ((op - 121))))) rfl Tryd.underlying9 rfl (cellsAt_cell hel4 (i := 0) rfl rfl)) rfl rfl rfl ?_; clear hf fa; intro fa hf
              refine sqv hf (r_move rfl) rfl rfl rfl ?_; clear hf fa; intro fa hf
              refine sqv hf (r_lt rfl rfl) rfl rfl rfl ?_; clear hf fa; intro fa hf
              refine sqdt hf (d_callB (vs := [(.string ⟨#[105, 54, 52, 46]⟩), (.string (rckO ((op - 121)))), (.string ⟨#[126]⟩), (.string ⟨#[126]⟩), (.bool (decide (((op : Nat) : Int) < (124 : Int))))]) rfl Tryd.func73 (by kernel_rfl) (by kernel_rfl) (bny_any (⟨#[105, 54, 52, 46]⟩ : ByteArray) (rckO ((op - 121))) (⟨#[126]⟩ : ByteArray) (⟨#[126]⟩ : ByteArray) (decide (((op : Nat) : Int) < (124 : Int))) _ (by first | omega | decide) (by first | omega | decide) (by first | omega | decide))) rfl rfl rfl ?_; clear hf fa; rintro fa _ w14 ⟨rfl, he7⟩ hf
              replace hk1 := blk_ext hk1 he7
              replace hk3 := blk_ext hk3 he7
              replace hr4 := Row.ext hr4 he7
              replace hb := hb.trans (Below.mono he7 hb.size)
              refine sqn hf (d_storeK (T := 54) (v := (.agg #[(.string (bnyP (⟨#[105, 54, 52, 46]⟩ : ByteArray) (rckO ((op - 121))) (⟨#[126]⟩ : ByteArray) (⟨#[126]⟩ : ByteArray) (decide (((op : Nat) : Int) < (124 : Int)))).1), (.int .i64 ((bnyP (⟨#[105, 54, 52, 46]⟩ : ByteArray) (rckO ((op - 121))) (⟨#[126]⟩ : ByteArray) (⟨#[126]⟩ : ByteArray) (decide (((op : Nat) : Int) < (124 : Int)))).2.1)), (.string (bnyP (⟨#[105, 54, 52, 46]⟩ : ByteArray) (rckO ((op - 121))) (⟨#[126]⟩ : ByteArray) (⟨#[126]⟩ : ByteArray) (decide (((op : Nat) : Int) < (124 : Int)))).2.2.1), (.string (bnyP (⟨#[105, 54, 52, 46]⟩ : ByteArray) (rckO ((op - 121))) (⟨#[126]⟩ : ByteArray) (⟨#[126]⟩ : ByteArray) (decide (((op : Nat) : Int) < (124 : Int)))).2.2.2.1), (.bool (bnyP (⟨#[105, 54, 52, 46]⟩ : ByteArray) (rckO ((op - 121))) (⟨#[126]⟩ : ByteArray) (⟨#[126]⟩ : ByteArray) (decide (((op : Nat) : Int) < (124 : Int)))).2.2.2.2.1)])) (cs := #[(.string ⟨#[]⟩), (.int .i64 (0 : Int)), (.string ⟨#[]⟩), (.string ⟨#[]⟩), (.bool false)]) (cs' := #[(.string (bnyP (⟨#[105, 54, 52, 46]⟩ : ByteArray) (rckO ((op - 121))) (⟨#[126]⟩ : ByteArray) (⟨#[126]⟩ : ByteArray) (decide (((op : Nat) : Int) < (124 : Int)))).1), (.int .i64 ((bnyP (⟨#[105, 54, 52, 46]⟩ : ByteArray) (rckO ((op - 121))) (⟨#[126]⟩ : ByteArray) (⟨#[126]⟩ : ByteArray) (decide (((op : Nat) : Int) < (124 : Int)))).2.1)), (.string (bnyP (⟨#[105, 54, 52, 46]⟩ : ByteArray) (rckO ((op - 121))) (⟨#[126]⟩ : ByteArray) (⟨#[126]⟩ : ByteArray) (decide (((op : Nat) : Int) < (124 : Int)))).2.2.1), (.string (bnyP (⟨#[105, 54, 52, 46]⟩ : ByteArray) (rckO ((op - 121))) (⟨#[126]⟩ : ByteArray) (⟨#[126]⟩ : ByteArray) (decide (((op : Nat) : Int) < (124 : Int)))).2.2.2.1), (.bool (bnyP (⟨#[105, 54, 52, 46]⟩ : ByteArray) (rckO ((op - 121))) (⟨#[126]⟩ : ByteArray) (⟨#[126]⟩ : ByteArray) (decide (((op : Nat) : Int) < (124 : Int)))).2.2.2.2.1)]) rfl rfl (by kernel_rfl) (by kernel_rfl) hk1 (by kernel_rfl) (by kernel_rfl)) rfl rfl ?_; clear hf fa; rintro fa _ w15 ⟨hk11, hg8⟩ hf
              replace hk3 := blk_grown hk3 hg8 (by omega)
              replace hr4 := Row.grown hr4 hg8 (Row.ne_type hr4 hk1 rfl)
              replace hb := hb.trans (grown_below hg8 hb.size hBb1)
              apply wpList_nil
              (try simp only [Exit.then, Exit.inBlock, ↓reduceIte, Nat.reduceEqDiff])
              refine hK16 _ _ ?_
              refine wp_ret ?_
              (try simp only [Exit.then, Exit.inBlock])
              refine retC hf rfl rfl hk11 Tryd.underlying54 rfl (by kernel_rfl) ?_
              refine ⟨?_, hb⟩; unfold nbrP; rw [hqt7_1b, hqt11_1b, hqt15_1b, hqt29_1b, hqt43_1b, hqt57_1b]; (try rfl)
            · have hqt57_1b := hqt57_1
              replace hqt57_1 := Bool.eq_false_iff.1 hqt57_1
              try simp only [ne_eq, decide_eq_true_eq, Bool.and_eq_true, Bool.or_eq_true, Bool.not_eq_true', decide_eq_false_iff_not] at hqt57_1
              refine wp_seq_k (fun K17 hK17 => ?_)
              refine wp_region_lit ?_
              refine sqv hf (r_move rfl) rfl rfl rfl ?_; clear hf fa; intro fa hf
              refine sqv hf (r_eq rfl rfl) rfl rfl rfl ?_; clear hf fa; intro fa hf
              refine sqv hf (r_assign rfl) rfl rfl rfl ?_; clear hf fa; intro fa hf
              apply wpList_nil
              (try simp only [Exit.then, Exit.inBlock, ↓reduceIte, Nat.reduceEqDiff])
              refine hK17 _ _ ?_
              refine wp_cond_split (t := (decide (((op : Nat) : Int) = (167 : Int)))) (hf.ev rfl) (fun hqt71_1 => ?_) (fun hqt71_1 => ?_)
              · have hqt71_1b := hqt71_1
                try simp only [decide_eq_true_eq, Bool.and_eq_true, Bool.or_eq_true, Bool.not_eq_true', decide_eq_false_iff_not, ne_eq, Bool.not_eq_true] at hqt71_1
                refine wp_seq_k (fun K18 hK18 => ?_)
                refine wp_region_lit ?_
                refine sqv hf (r_build (vs := [(0, (.string ⟨#[105, 51, 50, 46, 119, 114, 97, 112, 95, 105, 54, 52]⟩)), (2, (.string ⟨#[126]⟩)), (3, (.string ⟨#[127]⟩))]) (cs := #[(.string ⟨#[105, 51, 50, 46, 119, 114, 97, 112, 95, 105, 54, 52]⟩), (.int .i64 (0 : Int)), (.string ⟨#[126]⟩), (.string ⟨#[127]⟩), (.bool false)]) rfl (fun _ => by kernel_rfl)) rfl rfl rfl ?_; clear hf fa; intro fa hf
                refine sqn hf (d_storeK (T := 54) (v := (.agg #[(.string ⟨#[105, 51, 50, 46, 119, 114, 97, 112, 95, 105, 54, 52]⟩), (.int .i64 (0 : Int)), (.string ⟨#[126]⟩), (.string ⟨#[127]⟩), (.bool false)])) (cs := #[(.string ⟨#[]⟩), (.int .i64 (0 : Int)), (.string ⟨#[]⟩), (.string ⟨#[]⟩), (.bool false)]) (cs' := #[(.string ⟨#[105, 51, 50, 46, 119, 114, 97, 112, 95, 105, 54, 52]⟩), (.int .i64 (0 : Int)), (.string ⟨#[126]⟩), (.string ⟨#[127]⟩), (.bool false)]) rfl rfl (by kernel_rfl) (by kernel_rfl) hk1 (by kernel_rfl) (by kernel_rfl)) rfl rfl ?_; clear hf fa; rintro fa _ w16 ⟨hk12, hg9⟩ hf
                replace hk3 := blk_grown hk3 hg9 (by omega)
                replace hk5 := blk_grown hk5 hg9 (by omega)
                replace hb := hb.trans (grown_below hg9 hb.size hBb1)
                apply wpList_nil
                (try simp only [Exit.then, Exit.inBlock, ↓reduceIte, Nat.reduceEqDiff])
                refine hK18 _ _ ?_
                refine wp_ret ?_
                (try simp only [Exit.then, Exit.inBlock])
                refine retC hf rfl rfl hk12 Tryd.underlying54 rfl (by kernel_rfl) ?_
                refine ⟨?_, hb⟩; unfold nbrP; rw [hqt7_1b, hqt11_1b, hqt15_1b, hqt29_1b, hqt43_1b, hqt57_1b, hqt71_1b]; (try rfl)
              · have hqt71_1b := hqt71_1
                replace hqt71_1 := Bool.eq_false_iff.1 hqt71_1
                try simp only [ne_eq, decide_eq_true_eq, Bool.and_eq_true, Bool.or_eq_true, Bool.not_eq_true', decide_eq_false_iff_not] at hqt71_1
                refine wp_seq_k (fun K19 hK19 => ?_)
                refine wp_region_lit ?_
                refine sqv hf (r_move rfl) rfl rfl rfl ?_; clear hf fa; intro fa hf
                refine sqv hf (r_eq rfl rfl) rfl rfl rfl ?_; clear hf fa; intro fa hf
                refine sqv hf (r_assign rfl) rfl rfl rfl ?_; clear hf fa; intro fa hf
                apply wpList_nil
                (try simp only [Exit.then, Exit.inBlock, ↓reduceIte, Nat.reduceEqDiff])
                refine hK19 _ _ ?_
                refine wp_cond_split (t := (decide (((op : Nat) : Int) = (172 : Int)))) (hf.ev rfl) (fun hqt75_1 => ?_) (fun hqt75_1 => ?_)
                · have hqt75_1b := hqt75_1
                  try simp only [decide_eq_true_eq, Bool.and_eq_true, Bool.or_eq_true, Bool.not_eq_true', decide_eq_false_iff_not, ne_eq, Bool.not_eq_true] at hqt75_1
                  refine wp_seq_k (fun K20 hK20 => ?_)
                  refine wp_region_lit ?_
                  refine sqv hf (r_build (vs := [(0, (.string ⟨#[105, 54, 52, 46, 101, 120, 116, 101, 110, 100, 95, 105, 51, 50, 95, 115]⟩)), (2, (.string ⟨#[127]⟩)), (3, (.string ⟨#[126]⟩))]) (cs := #[(.string ⟨#[105, 54, 52, 46, 101, 120, 116, 101, 110, 100, 95, 105, 51, 50, 95, 115]⟩), (.int .i64 (0 : Int)), (.string ⟨#[127]⟩), (.string ⟨#[126]⟩), (.bool false)]) rfl (fun _ => by kernel_rfl)) rfl rfl rfl ?_; clear hf fa; intro fa hf
                  refine sqn hf (d_storeK (T := 54) (v := (.agg #[(.string ⟨#[105, 54, 52, 46, 101, 120, 116, 101, 110, 100, 95, 105, 51, 50, 95, 115]⟩), (.int .i64 (0 : Int)), (.string ⟨#[127]⟩), (.string ⟨#[126]⟩), (.bool false)])) (cs := #[(.string ⟨#[]⟩), (.int .i64 (0 : Int)), (.string ⟨#[]⟩), (.string ⟨#[]⟩), (.bool false)]) (cs' := #[(.string ⟨#[105, 54, 52, 46, 101, 120, 116, 101, 110, 100, 95, 105, 51, 50, 95, 115]⟩), (.int .i64 (0 : Int)), (.string ⟨#[127]⟩), (.string ⟨#[126]⟩), (.bool false)]) rfl rfl (by kernel_rfl) (by kernel_rfl) hk1 (by kernel_rfl) (by kernel_rfl)) rfl rfl ?_; clear hf fa; rintro fa _ w17 ⟨hk13, hg10⟩ hf
                  replace hk3 := blk_grown hk3 hg10 (by omega)
                  replace hk5 := blk_grown hk5 hg10 (by omega)
                  replace hb := hb.trans (grown_below hg10 hb.size hBb1)
                  apply wpList_nil
                  (try simp only [Exit.then, Exit.inBlock, ↓reduceIte, Nat.reduceEqDiff])
                  refine hK20 _ _ ?_
                  refine wp_ret ?_
                  (try simp only [Exit.then, Exit.inBlock])
                  refine retC hf rfl rfl hk13 Tryd.underlying54 rfl (by kernel_rfl) ?_
                  refine ⟨?_, hb⟩; unfold nbrP; rw [hqt7_1b, hqt11_1b, hqt15_1b, hqt29_1b, hqt43_1b, hqt57_1b, hqt71_1b, hqt75_1b]; (try rfl)
                · have hqt75_1b := hqt75_1
                  replace hqt75_1 := Bool.eq_false_iff.1 hqt75_1
                  try simp only [ne_eq, decide_eq_true_eq, Bool.and_eq_true, Bool.or_eq_true, Bool.not_eq_true', decide_eq_false_iff_not] at hqt75_1
                  refine wp_seq_k (fun K21 hK21 => ?_)
                  refine wp_region_lit ?_
                  refine sqv hf (r_move rfl) rfl rfl rfl ?_; clear hf fa; intro fa hf
                  refine sqv hf (r_eq rfl rfl) rfl rfl rfl ?_; clear hf fa; intro fa hf
                  refine sqv hf (r_assign rfl) rfl rfl rfl ?_; clear hf fa; intro fa hf
                  apply wpList_nil
                  (try simp only [Exit.then, Exit.inBlock, ↓reduceIte, Nat.reduceEqDiff])
                  refine hK21 _ _ ?_
                  refine wp_cond_split (t := (decide (((op : Nat) : Int) = (173 : Int)))) (hf.ev rfl) (fun hqt79_1 => ?_) (fun hqt79_1 => ?_)
                  · have hqt79_1b := hqt79_1
                    try simp only [decide_eq_true_eq, Bool.and_eq_true, Bool.or_eq_true, Bool.not_eq_true', decide_eq_false_iff_not, ne_eq, Bool.not_eq_true] at hqt79_1
                    refine wp_seq_k (fun K22 hK22 => ?_)
                    refine wp_region_lit ?_
                    refine sqv hf (r_build (vs := [(0, (.string ⟨#[105, 54, 52, 46, 101, 120, 116, 101, 110, 100, 95, 105, 51, 50, 95, 117]⟩)), (2, (.string ⟨#[127]⟩)), (3, (.string ⟨#[126]⟩))]) (cs := #[(.string ⟨#[105, 54, 52, 46, 101, 120, 116, 101, 110, 100, 95, 105, 51, 50, 95, 117]⟩), (.int .i64 (0 : Int)), (.string ⟨#[127]⟩), (.string ⟨#[126]⟩), (.bool false)]) rfl (fun _ => by kernel_rfl)) rfl rfl rfl ?_; clear hf fa; intro fa hf
                    refine sqn hf (d_storeK (T := 54) (v := (.agg #[(.string ⟨#[105, 54, 52, 46, 101, 120, 116, 101, 110, 100, 95, 105, 51, 50, 95, 117]⟩), (.int .i64 (0 : Int)), (.string ⟨#[127]⟩), (.string ⟨#[126]⟩), (.bool false)])) (cs := #[(.string ⟨#[]⟩), (.int .i64 (0 : Int)), (.string ⟨#[]⟩), (.string ⟨#[]⟩), (.bool false)]) (cs' := #[(.string ⟨#[105, 54, 52, 46, 101, 120, 116, 101, 110, 100, 95, 105, 51, 50, 95, 117]⟩), (.int .i64 (0 : Int)), (.string ⟨#[127]⟩), (.string ⟨#[126]⟩), (.bool false)]) rfl rfl (by kernel_rfl) (by kernel_rfl) hk1 (by kernel_rfl) (by kernel_rfl)) rfl rfl ?_; clear hf fa; rintro fa _ w18 ⟨hk14, hg11⟩ hf
                    replace hk3 := blk_grown hk3 hg11 (by omega)
                    replace hk5 := blk_grown hk5 hg11 (by omega)
                    replace hb := hb.trans (grown_below hg11 hb.size hBb1)
                    apply wpList_nil
                    (try simp only [Exit.then, Exit.inBlock, ↓reduceIte, Nat.reduceEqDiff])
                    refine hK22 _ _ ?_
                    refine wp_ret ?_
                    (try simp only [Exit.then, Exit.inBlock])
                    refine retC hf rfl rfl hk14 Tryd.underlying54 rfl (by kernel_rfl) ?_
                    refine ⟨?_, hb⟩; unfold nbrP; rw [hqt7_1b, hqt11_1b, hqt15_1b, hqt29_1b, hqt43_1b, hqt57_1b, hqt71_1b, hqt75_1b, hqt79_1b]; (try rfl)
                  · have hqt79_1b := hqt79_1
                    replace hqt79_1 := Bool.eq_false_iff.1 hqt79_1
                    try simp only [ne_eq, decide_eq_true_eq, Bool.and_eq_true, Bool.or_eq_true, Bool.not_eq_true', decide_eq_false_iff_not] at hqt79_1
                    refine wp_skip ?_
                    (try simp only [Exit.then, Exit.inBlock, ↓reduceIte, Nat.reduceEqDiff])
                    refine hK4 _ _ ?_
                    refine wp_seq_k (fun K23 hK23 => ?_)
                    refine wp_region_lit ?_
                    refine sqv hf (r_build (vs := []) (cs := #[(.string ⟨#[]⟩), (.int .i64 (0 : Int)), (.string ⟨#[]⟩), (.string ⟨#[]⟩), (.bool false)]) rfl (fun _ => by kernel_rfl)) rfl rfl rfl ?_; clear hf fa; intro fa hf
                    refine sqn hf (d_storeK (T := 54) (v := (.agg #[(.string ⟨#[]⟩), (.int .i64 (0 : Int)), (.string ⟨#[]⟩), (.string ⟨#[]⟩), (.bool false)])) (cs := #[(.string ⟨#[]⟩), (.int .i64 (0 : Int)), (.string ⟨#[]⟩), (.string ⟨#[]⟩), (.bool false)]) (cs' := #[(.string ⟨#[]⟩), (.int .i64 (0 : Int)), (.string ⟨#[]⟩), (.string ⟨#[]⟩), (.bool false)]) rfl rfl (by kernel_rfl) (by kernel_rfl) hk1 (by kernel_rfl) (by kernel_rfl)) rfl rfl ?_; clear hf fa; rintro fa _ w19 ⟨hk15, hg12⟩ hf
                    replace hk3 := blk_grown hk3 hg12 (by omega)
                    replace hk5 := blk_grown hk5 hg12 (by omega)
                    replace hb := hb.trans (grown_below hg12 hb.size hBb1)
                    apply wpList_nil
                    (try simp only [Exit.then, Exit.inBlock, ↓reduceIte, Nat.reduceEqDiff])
                    refine hK23 _ _ ?_
                    refine wp_ret ?_
                    (try simp only [Exit.then, Exit.inBlock])
                    refine retC hf rfl rfl hk15 Tryd.underlying54 rfl (by kernel_rfl) ?_
                    refine ⟨?_, hb⟩; unfold nbrP; rw [hqt7_1b, hqt11_1b, hqt15_1b, hqt29_1b, hqt43_1b, hqt57_1b, hqt71_1b, hqt75_1b, hqt79_1b]; (try rfl)

def infP (op : Nat) : MInf :=
  bif (decide (((op : Nat) : Int) < (40 : Int))) then (ctlP op)
  else bif (decide (((op : Nat) : Int) ≤ (64 : Int))) then (memP op)
  else (nbrP op)

set_option maxHeartbeats 1000000 in
set_option maxRecDepth 100000 in
theorem inf_any (op : Nat) (w : World) (hop : op < 256) : Calls Tryd.prog 20 #[(.int .u8 ((op : Nat) : Int))] w fun e w' => e = .returned (.agg #[(.string (infP op).1), (.int .i64 ((infP op).2.1)), (.string (infP op).2.2.1), (.string (infP op).2.2.2.1), (.bool (infP op).2.2.2.2.1)]) ∧ Below w.heap.size w w' := by
  refine sx_enter (L := [(0, (.int .u8 ((op : Nat) : Int)))]) Tryd.func20 rfl rfl rfl rfl (fun fa hf => ?_)
  have hb : Below w.heap.size w w := Below.refl _ _
  refine wp_seq_k (fun K1 hK1 => ?_)
  refine wp_region_lit ?_
  refine sqdt hf (d_alloc (z := (.agg #[(.string ⟨#[]⟩), (.int .i64 (0 : Int)), (.string ⟨#[]⟩), (.string ⟨#[]⟩), (.bool false)])) (cs := #[(.string ⟨#[]⟩), (.int .i64 (0 : Int)), (.string ⟨#[]⟩), (.string ⟨#[]⟩), (.bool false)]) (by kernel_rfl) rfl) rfl rfl rfl ?_; clear hf fa; rintro fa _ w1 ⟨b1, rfl, hle1, hk1, he1⟩ hf
  have hBb1 : w.heap.size ≤ b1 := Nat.le_trans hb.size hle1
  replace hb := hb.trans (Below.mono he1 hb.size)
  apply wpList_nil
  (try simp only [Exit.then, Exit.inBlock, ↓reduceIte, Nat.reduceEqDiff])
  refine hK1 _ _ ?_
  refine wp_seq_k (fun K2 hK2 => ?_)
  refine wp_block ?_
  refine wp_seq_k (fun K3 hK3 => ?_)
  refine wp_region_lit ?_
  refine sqv hf (r_move rfl) rfl rfl rfl ?_; clear hf fa; intro fa hf
  refine sqv hf (r_lt rfl rfl) rfl rfl rfl ?_; clear hf fa; intro fa hf
  refine sqv hf (r_assign rfl) rfl rfl rfl ?_; clear hf fa; intro fa hf
  apply wpList_nil
  (try simp only [Exit.then, Exit.inBlock, ↓reduceIte, Nat.reduceEqDiff])
  refine hK3 _ _ ?_
  refine wp_cond_split (t := (decide (((op : Nat) : Int) < (40 : Int)))) (hf.ev rfl) (fun hqt3_1 => ?_) (fun hqt3_1 => ?_)
  · have hqt3_1b := hqt3_1
    try simp only [decide_eq_true_eq, Bool.and_eq_true, Bool.or_eq_true, Bool.not_eq_true', decide_eq_false_iff_not, ne_eq, Bool.not_eq_true] at hqt3_1
    refine wp_seq_k (fun K4 hK4 => ?_)
    refine wp_region_lit ?_
    refine sqv hf (r_move rfl) rfl rfl rfl ?_; clear hf fa; intro fa hf
    refine sqdt hf (d_callB (vs := [(.int .u8 ((op : Nat) : Int))]) rfl Tryd.func45 (by kernel_rfl) (by kernel_rfl) (ctl_any op _ hop)) rfl rfl rfl ?_; clear hf fa; rintro fa _ w2 ⟨rfl, he2⟩ hf
    replace hk1 := blk_ext hk1 he2
    replace hb := hb.trans (Below.mono he2 hb.size)
    refine sqn hf (d_storeK (T := 54) (v := (.agg #[(.string (ctlP op).1), (.int .i64 ((ctlP op).2.1)), (.string (ctlP op).2.2.1), (.string (ctlP op).2.2.2.1), (.bool (ctlP op).2.2.2.2.1)])) (cs := #[(.string ⟨#[]⟩), (.int .i64 (0 : Int)), (.string ⟨#[]⟩), (.string ⟨#[]⟩), (.bool false)]) (cs' := #[(.string (ctlP op).1), (.int .i64 ((ctlP op).2.1)), (.string (ctlP op).2.2.1), (.string (ctlP op).2.2.2.1), (.bool (ctlP op).2.2.2.2.1)]) rfl rfl (by kernel_rfl) (by kernel_rfl) hk1 (by kernel_rfl) (by kernel_rfl)) rfl rfl ?_; clear hf fa; rintro fa _ w3 ⟨hk2, hg1⟩ hf
    replace hb := hb.trans (grown_below hg1 hb.size hBb1)
    apply wpList_nil
    (try simp only [Exit.then, Exit.inBlock, ↓reduceIte, Nat.reduceEqDiff])
    refine hK4 _ _ ?_
    refine wp_ret ?_
    (try simp only [Exit.then, Exit.inBlock])
    refine retC hf rfl rfl hk2 Tryd.underlying54 rfl (by kernel_rfl) ?_
    refine ⟨?_, hb⟩; unfold infP; rw [hqt3_1b]; (try rfl)
  · have hqt3_1b := hqt3_1
    replace hqt3_1 := Bool.eq_false_iff.1 hqt3_1
    try simp only [ne_eq, decide_eq_true_eq, Bool.and_eq_true, Bool.or_eq_true, Bool.not_eq_true', decide_eq_false_iff_not] at hqt3_1
    refine wp_seq_k (fun K5 hK5 => ?_)
    refine wp_region_lit ?_
    refine sqv hf (r_move rfl) rfl rfl rfl ?_; clear hf fa; intro fa hf
    refine sqv hf (r_le rfl rfl) rfl rfl rfl ?_; clear hf fa; intro fa hf
    refine sqv hf (r_assign rfl) rfl rfl rfl ?_; clear hf fa; intro fa hf
    apply wpList_nil
    (try simp only [Exit.then, Exit.inBlock, ↓reduceIte, Nat.reduceEqDiff])
    refine hK5 _ _ ?_
    refine wp_cond_split (t := (decide (((op : Nat) : Int) ≤ (64 : Int)))) (hf.ev rfl) (fun hqt8_1 => ?_) (fun hqt8_1 => ?_)
    · have hqt8_1b := hqt8_1
      try simp only [decide_eq_true_eq, Bool.and_eq_true, Bool.or_eq_true, Bool.not_eq_true', decide_eq_false_iff_not, ne_eq, Bool.not_eq_true] at hqt8_1
      refine wp_seq_k (fun K6 hK6 => ?_)
      refine wp_region_lit ?_
      refine sqv hf (r_move rfl) rfl rfl rfl ?_; clear hf fa; intro fa hf
      refine sqdt hf (d_callB (vs := [(.int .u8 ((op : Nat) : Int))]) rfl Tryd.func46 (by kernel_rfl) (by kernel_rfl) (mem_any op _ hop)) rfl rfl rfl ?_; clear hf fa; rintro fa _ w4 ⟨rfl, he3⟩ hf
      replace hk1 := blk_ext hk1 he3
      replace hb := hb.trans (Below.mono he3 hb.size)
      refine sqn hf (d_storeK (T := 54) (v := (.agg #[(.string (memP op).1), (.int .i64 ((memP op).2.1)), (.string (memP op).2.2.1), (.string (memP op).2.2.2.1), (.bool (memP op).2.2.2.2.1)])) (cs := #[(.string ⟨#[]⟩), (.int .i64 (0 : Int)), (.string ⟨#[]⟩), (.string ⟨#[]⟩), (.bool false)]) (cs' := #[(.string (memP op).1), (.int .i64 ((memP op).2.1)), (.string (memP op).2.2.1), (.string (memP op).2.2.2.1), (.bool (memP op).2.2.2.2.1)]) rfl rfl (by kernel_rfl) (by kernel_rfl) hk1 (by kernel_rfl) (by kernel_rfl)) rfl rfl ?_; clear hf fa; rintro fa _ w5 ⟨hk3, hg2⟩ hf
      replace hb := hb.trans (grown_below hg2 hb.size hBb1)
      apply wpList_nil
      (try simp only [Exit.then, Exit.inBlock, ↓reduceIte, Nat.reduceEqDiff])
      refine hK6 _ _ ?_
      refine wp_ret ?_
      (try simp only [Exit.then, Exit.inBlock])
      refine retC hf rfl rfl hk3 Tryd.underlying54 rfl (by kernel_rfl) ?_
      refine ⟨?_, hb⟩; unfold infP; rw [hqt3_1b, hqt8_1b]; (try rfl)
    · have hqt8_1b := hqt8_1
      replace hqt8_1 := Bool.eq_false_iff.1 hqt8_1
      try simp only [ne_eq, decide_eq_true_eq, Bool.and_eq_true, Bool.or_eq_true, Bool.not_eq_true', decide_eq_false_iff_not] at hqt8_1
      refine wp_skip ?_
      (try simp only [Exit.then, Exit.inBlock, ↓reduceIte, Nat.reduceEqDiff])
      refine hK2 _ _ ?_
      refine wp_seq_k (fun K7 hK7 => ?_)
      refine wp_region_lit ?_
      refine sqv hf (r_move rfl) rfl rfl rfl ?_; clear hf fa; intro fa hf
      refine sqdt hf (d_callB (vs := [(.int .u8 ((op : Nat) : Int))]) rfl Tryd.func47 (by kernel_rfl) (by kernel_rfl) (nbr_any op _ hop)) rfl rfl rfl ?_; clear hf fa; rintro fa _ w6 ⟨rfl, he4⟩ hf
      replace hk1 := blk_ext hk1 he4
      replace hb := hb.trans (Below.mono he4 hb.size)
      refine sqn hf (d_storeK (T := 54) (v := (.agg #[(.string (nbrP op).1), (.int .i64 ((nbrP op).2.1)), (.string (nbrP op).2.2.1), (.string (nbrP op).2.2.2.1), (.bool (nbrP op).2.2.2.2.1)])) (cs := #[(.string ⟨#[]⟩), (.int .i64 (0 : Int)), (.string ⟨#[]⟩), (.string ⟨#[]⟩), (.bool false)]) (cs' := #[(.string (nbrP op).1), (.int .i64 ((nbrP op).2.1)), (.string (nbrP op).2.2.1), (.string (nbrP op).2.2.2.1), (.bool (nbrP op).2.2.2.2.1)]) rfl rfl (by kernel_rfl) (by kernel_rfl) hk1 (by kernel_rfl) (by kernel_rfl)) rfl rfl ?_; clear hf fa; rintro fa _ w7 ⟨hk4, hg3⟩ hf
      replace hb := hb.trans (grown_below hg3 hb.size hBb1)
      apply wpList_nil
      (try simp only [Exit.then, Exit.inBlock, ↓reduceIte, Nat.reduceEqDiff])
      refine hK7 _ _ ?_
      refine wp_ret ?_
      (try simp only [Exit.then, Exit.inBlock])
      refine retC hf rfl rfl hk4 Tryd.underlying54 rfl (by kernel_rfl) ?_
      refine ⟨?_, hb⟩; unfold infP; rw [hqt3_1b, hqt8_1b]; (try rfl)

def chkP (op : Nat) : Int :=
  bif ((((((decide (((op : Nat) : Int) = (42 : Int))) || (decide (((op : Nat) : Int) = (43 : Int)))) || (decide (((op : Nat) : Int) = (56 : Int)))) || (decide (((op : Nat) : Int) = (57 : Int)))) || (decide (((op : Nat) : Int) = (67 : Int)))) || (decide (((op : Nat) : Int) = (68 : Int)))) then (8 : Int)
  else bif (((((decide ((91 : Int) ≤ ((op : Nat) : Int))) && (decide (((op : Nat) : Int) ≤ (102 : Int)))) || ((decide ((139 : Int) ≤ ((op : Nat) : Int))) && (decide (((op : Nat) : Int) ≤ (166 : Int))))) || ((decide ((168 : Int) ≤ ((op : Nat) : Int))) && (decide (((op : Nat) : Int) ≤ (171 : Int))))) || ((decide ((174 : Int) ≤ ((op : Nat) : Int))) && (decide (((op : Nat) : Int) ≤ (191 : Int))))) then (8 : Int)
  else bif (decide ((infP op).1 = ⟨#[]⟩)) then (9 : Int)
  else (0 : Int)

set_option maxHeartbeats 1000000 in
set_option maxRecDepth 100000 in
theorem chk_any (op : Nat) (w : World) (hop : op < 256) : Calls Tryd.prog 41 #[(.int .u8 ((op : Nat) : Int))] w fun e w' => e = .returned (.int .i64 ((chkP op))) ∧ Below w.heap.size w w' := by
  refine sx_enter (L := [(0, (.int .u8 ((op : Nat) : Int)))]) Tryd.func41 rfl rfl rfl rfl (fun fa hf => ?_)
  have hb : Below w.heap.size w w := Below.refl _ _
  refine wp_seq_k (fun K1 hK1 => ?_)
  refine wp_region_lit ?_
  refine sqv hf (r_assign rfl) rfl rfl rfl ?_; clear hf fa; intro fa hf
  apply wpList_nil
  (try simp only [Exit.then, Exit.inBlock, ↓reduceIte, Nat.reduceEqDiff])
  refine hK1 _ _ ?_
  refine wp_seq_k (fun K2 hK2 => ?_)
  refine wp_block ?_
  refine wp_seq_k (fun K3 hK3 => ?_)
  refine wp_region_lit ?_
  refine sqv hf (r_move rfl) rfl rfl rfl ?_; clear hf fa; intro fa hf
  refine sqv hf (r_eq rfl rfl) rfl rfl rfl ?_; clear hf fa; intro fa hf
  refine sqv hf (r_move rfl) rfl rfl rfl ?_; clear hf fa; intro fa hf
  refine sqgF (act := (!(decide (((op : Nat) : Int) = (42 : Int))))) (ag := true) (c := (decide (((op : Nat) : Int) = (42 : Int)))) (v := (.int .u8 ((op : Nat) : Int))) hf rfl rfl rfl (fun hact => (r_move rfl)) rfl rfl ?_; clear hf fa; intro fa hf
  refine sqgF (act := (!(decide (((op : Nat) : Int) = (42 : Int))))) (ag := true) (c := (decide (((op : Nat) : Int) = (42 : Int)))) (v := (.bool (decide (((op : Nat) : Int) = (43 : Int))))) hf rfl rfl rfl (fun hact => (r_eq (gb_ev hact rfl) rfl)) rfl rfl ?_; clear hf fa; intro fa hf
  refine sqv hf (r_pickO (b := (decide (((op : Nat) : Int) = (42 : Int)))) (e := (decide (((op : Nat) : Int) = (43 : Int)))) rfl rfl rfl) rfl rfl rfl ?_; clear hf fa; intro fa hf
  refine sqv hf (r_move rfl) rfl rfl rfl ?_; clear hf fa; intro fa hf
  refine sqgF (act := (!((decide (((op : Nat) : Int) = (42 : Int))) || (decide (((op : Nat) : Int) = (43 : Int)))))) (ag := true) (c := ((decide (((op : Nat) : Int) = (42 : Int))) || (decide (((op : Nat) : Int) = (43 : Int))))) (v := (.int .u8 ((op : Nat) : Int))) hf rfl rfl rfl (fun hact => (r_move rfl)) rfl rfl ?_; clear hf fa; intro fa hf
  refine sqgF (act := (!((decide (((op : Nat) : Int) = (42 : Int))) || (decide (((op : Nat) : Int) = (43 : Int)))))) (ag := true) (c := ((decide (((op : Nat) : Int) = (42 : Int))) || (decide (((op : Nat) : Int) = (43 : Int))))) (v := (.bool (decide (((op : Nat) : Int) = (56 : Int))))) hf rfl rfl rfl (fun hact => (r_eq (gb_ev hact rfl) rfl)) rfl rfl ?_; clear hf fa; intro fa hf
  refine sqv hf (r_pickO (b := ((decide (((op : Nat) : Int) = (42 : Int))) || (decide (((op : Nat) : Int) = (43 : Int))))) (e := (decide (((op : Nat) : Int) = (56 : Int)))) rfl rfl rfl) rfl rfl rfl ?_; clear hf fa; intro fa hf
  refine sqv hf (r_move rfl) rfl rfl rfl ?_; clear hf fa; intro fa hf
  refine sqgF (act := (!(((decide (((op : Nat) : Int) = (42 : Int))) || (decide (((op : Nat) : Int) = (43 : Int)))) || (decide (((op : Nat) : Int) = (56 : Int)))))) (ag := true) (c := (((decide (((op : Nat) : Int) = (42 : Int))) || (decide (((op : Nat) : Int) = (43 : Int)))) || (decide (((op : Nat) : Int) = (56 : Int))))) (v := (.int .u8 ((op : Nat) : Int))) hf rfl rfl rfl (fun hact => (r_move rfl)) rfl rfl ?_; clear hf fa; intro fa hf
  refine sqgF (act := (!(((decide (((op : Nat) : Int) = (42 : Int))) || (decide (((op : Nat) : Int) = (43 : Int)))) || (decide (((op : Nat) : Int) = (56 : Int)))))) (ag := true) (c := (((decide (((op : Nat) : Int) = (42 : Int))) || (decide (((op : Nat) : Int) = (43 : Int)))) || (decide (((op : Nat) : Int) = (56 : Int))))) (v := (.bool (decide (((op : Nat) : Int) = (57 : Int))))) hf rfl rfl rfl (fun hact => (r_eq (gb_ev hact rfl) rfl)) rfl rfl ?_; clear hf fa; intro fa hf
  refine sqv hf (r_pickO (b := (((decide (((op : Nat) : Int) = (42 : Int))) || (decide (((op : Nat) : Int) = (43 : Int)))) || (decide (((op : Nat) : Int) = (56 : Int))))) (e := (decide (((op : Nat) : Int) = (57 : Int)))) rfl rfl rfl) rfl rfl rfl ?_; clear hf fa; intro fa hf
  refine sqv hf (r_move rfl) rfl rfl rfl ?_; clear hf fa; intro fa hf
  refine sqgF (act := (!((((decide (((op : Nat) : Int) = (42 : Int))) || (decide (((op : Nat) : Int) = (43 : Int)))) || (decide (((op : Nat) : Int) = (56 : Int)))) || (decide (((op : Nat) : Int) = (57 : Int)))))) (ag := true) (c := ((((decide (((op : Nat) : Int) = (42 : Int))) || (decide (((op : Nat) : Int) = (43 : Int)))) || (decide (((op : Nat) : Int) = (56 : Int)))) || (decide (((op : Nat) : Int) = (57 : Int))))) (v := (.int .u8 ((op : Nat) : Int))) hf rfl rfl rfl (fun hact => (r_move rfl)) rfl rfl ?_; clear hf fa; intro fa hf
  refine sqgF (act := (!((((decide (((op : Nat) : Int) = (42 : Int))) || (decide (((op : Nat) : Int) = (43 : Int)))) || (decide (((op : Nat) : Int) = (56 : Int)))) || (decide (((op : Nat) : Int) = (57 : Int)))))) (ag := true) (c := ((((decide (((op : Nat) : Int) = (42 : Int))) || (decide (((op : Nat) : Int) = (43 : Int)))) || (decide (((op : Nat) : Int) = (56 : Int)))) || (decide (((op : Nat) : Int) = (57 : Int))))) (v := (.bool (decide (((op : Nat) : Int) = (67 : Int))))) hf rfl rfl rfl (fun hact => (r_eq (gb_ev hact rfl) rfl)) rfl rfl ?_; clear hf fa; intro fa hf
  refine sqv hf (r_pickO (b := ((((decide (((op : Nat) : Int) = (42 : Int))) || (decide (((op : Nat) : Int) = (43 : Int)))) || (decide (((op : Nat) : Int) = (56 : Int)))) || (decide (((op : Nat) : Int) = (57 : Int))))) (e := (decide (((op : Nat) : Int) = (67 : Int)))) rfl rfl rfl) rfl rfl rfl ?_; clear hf fa; intro fa hf
  refine sqv hf (r_move rfl) rfl rfl rfl ?_; clear hf fa; intro fa hf
  refine sqgF (act := (!(((((decide (((op : Nat) : Int) = (42 : Int))) || (decide (((op : Nat) : Int) = (43 : Int)))) || (decide (((op : Nat) : Int) = (56 : Int)))) || (decide (((op : Nat) : Int) = (57 : Int)))) || (decide (((op : Nat) : Int) = (67 : Int)))))) (ag := true) (c := (((((decide (((op : Nat) : Int) = (42 : Int))) || (decide (((op : Nat) : Int) = (43 : Int)))) || (decide (((op : Nat) : Int) = (56 : Int)))) || (decide (((op : Nat) : Int) = (57 : Int)))) || (decide (((op : Nat) : Int) = (67 : Int))))) (v := (.int .u8 ((op : Nat) : Int))) hf rfl rfl rfl (fun hact => (r_move rfl)) rfl rfl ?_; clear hf fa; intro fa hf
  refine sqgF (act := (!(((((decide (((op : Nat) : Int) = (42 : Int))) || (decide (((op : Nat) : Int) = (43 : Int)))) || (decide (((op : Nat) : Int) = (56 : Int)))) || (decide (((op : Nat) : Int) = (57 : Int)))) || (decide (((op : Nat) : Int) = (67 : Int)))))) (ag := true) (c := (((((decide (((op : Nat) : Int) = (42 : Int))) || (decide (((op : Nat) : Int) = (43 : Int)))) || (decide (((op : Nat) : Int) = (56 : Int)))) || (decide (((op : Nat) : Int) = (57 : Int)))) || (decide (((op : Nat) : Int) = (67 : Int))))) (v := (.bool (decide (((op : Nat) : Int) = (68 : Int))))) hf rfl rfl rfl (fun hact => (r_eq (gb_ev hact rfl) rfl)) rfl rfl ?_; clear hf fa; intro fa hf
  refine sqv hf (r_pickO (b := (((((decide (((op : Nat) : Int) = (42 : Int))) || (decide (((op : Nat) : Int) = (43 : Int)))) || (decide (((op : Nat) : Int) = (56 : Int)))) || (decide (((op : Nat) : Int) = (57 : Int)))) || (decide (((op : Nat) : Int) = (67 : Int))))) (e := (decide (((op : Nat) : Int) = (68 : Int)))) rfl rfl rfl) rfl rfl rfl ?_; clear hf fa; intro fa hf
  refine sqv hf (r_assign rfl) rfl rfl rfl ?_; clear hf fa; intro fa hf
  apply wpList_nil
  (try simp only [Exit.then, Exit.inBlock, ↓reduceIte, Nat.reduceEqDiff])
  refine hK3 _ _ ?_
  refine wp_cond_split (t := ((((((decide (((op : Nat) : Int) = (42 : Int))) || (decide (((op : Nat) : Int) = (43 : Int)))) || (decide (((op : Nat) : Int) = (56 : Int)))) || (decide (((op : Nat) : Int) = (57 : Int)))) || (decide (((op : Nat) : Int) = (67 : Int)))) || (decide (((op : Nat) : Int) = (68 : Int))))) (hf.ev rfl) (fun hqt3_1 => ?_) (fun hqt3_1 => ?_)
  · have hqt3_1b := hqt3_1
    try simp only [decide_eq_true_eq, Bool.and_eq_true, Bool.or_eq_true, Bool.not_eq_true', decide_eq_false_iff_not, ne_eq, Bool.not_eq_true] at hqt3_1
    refine wp_seq_k (fun K4 hK4 => ?_)
    refine wp_region_lit ?_
    refine sqv hf (r_assign rfl) rfl rfl rfl ?_; clear hf fa; intro fa hf
    apply wpList_nil
    (try simp only [Exit.then, Exit.inBlock, ↓reduceIte, Nat.reduceEqDiff])
    refine hK4 _ _ ?_
    refine wp_ret ?_
    (try simp only [Exit.then, Exit.inBlock])
    refine ret1 hf rfl rfl ?_
    refine ⟨?_, hb⟩; unfold chkP; rw [hqt3_1b]; (try rfl)
  · have hqt3_1b := hqt3_1
    replace hqt3_1 := Bool.eq_false_iff.1 hqt3_1
    try simp only [ne_eq, decide_eq_true_eq, Bool.and_eq_true, Bool.or_eq_true, Bool.not_eq_true', decide_eq_false_iff_not] at hqt3_1
    refine wp_seq_k (fun K5 hK5 => ?_)
    refine wp_region_lit ?_
    refine sqv hf (r_move rfl) rfl rfl rfl ?_; clear hf fa; intro fa hf
    refine sqv hf (r_ge rfl rfl) rfl rfl rfl ?_; clear hf fa; intro fa hf
    refine sqv hf (r_move rfl) rfl rfl rfl ?_; clear hf fa; intro fa hf
    refine sqgT (act := (decide ((91 : Int) ≤ ((op : Nat) : Int)))) (ag := true) (c := (decide ((91 : Int) ≤ ((op : Nat) : Int)))) (v := (.int .u8 ((op : Nat) : Int))) hf rfl rfl rfl (fun hact => (r_move rfl)) rfl rfl ?_; clear hf fa; intro fa hf
    refine sqgT (act := (decide ((91 : Int) ≤ ((op : Nat) : Int)))) (ag := true) (c := (decide ((91 : Int) ≤ ((op : Nat) : Int)))) (v := (.bool (decide (((op : Nat) : Int) ≤ (102 : Int))))) hf rfl rfl rfl (fun hact => (r_le (gb_ev hact rfl) rfl)) rfl rfl ?_; clear hf fa; intro fa hf
    refine sqv hf (r_pickA (b := (decide ((91 : Int) ≤ ((op : Nat) : Int)))) (e := (decide (((op : Nat) : Int) ≤ (102 : Int)))) rfl rfl rfl) rfl rfl rfl ?_; clear hf fa; intro fa hf
    refine sqv hf (r_move rfl) rfl rfl rfl ?_; clear hf fa; intro fa hf
    refine sqgF (act := (!((decide ((91 : Int) ≤ ((op : Nat) : Int))) && (decide (((op : Nat) : Int) ≤ (102 : Int)))))) (ag := true) (c := ((decide ((91 : Int) ≤ ((op : Nat) : Int))) && (decide (((op : Nat) : Int) ≤ (102 : Int))))) (v := (.int .u8 ((op : Nat) : Int))) hf rfl rfl rfl (fun hact => (r_move rfl)) rfl rfl ?_; clear hf fa; intro fa hf
    refine sqgF (act := (!((decide ((91 : Int) ≤ ((op : Nat) : Int))) && (decide (((op : Nat) : Int) ≤ (102 : Int)))))) (ag := true) (c := ((decide ((91 : Int) ≤ ((op : Nat) : Int))) && (decide (((op : Nat) : Int) ≤ (102 : Int))))) (v := (.bool (decide ((139 : Int) ≤ ((op : Nat) : Int))))) hf rfl rfl rfl (fun hact => (r_ge (gb_ev hact rfl) rfl)) rfl rfl ?_; clear hf fa; intro fa hf
    refine sqgF (act := (!((decide ((91 : Int) ≤ ((op : Nat) : Int))) && (decide (((op : Nat) : Int) ≤ (102 : Int)))))) (ag := true) (c := ((decide ((91 : Int) ≤ ((op : Nat) : Int))) && (decide (((op : Nat) : Int) ≤ (102 : Int))))) (v := (.bool (decide ((139 : Int) ≤ ((op : Nat) : Int))))) hf rfl rfl rfl (fun hact => (r_move (gb_ev hact rfl))) rfl rfl ?_; clear hf fa; intro fa hf
    refine sqgT (act := ((!((decide ((91 : Int) ≤ ((op : Nat) : Int))) && (decide (((op : Nat) : Int) ≤ (102 : Int))))) && (decide ((139 : Int) ≤ ((op : Nat) : Int))))) (ag := (!((decide ((91 : Int) ≤ ((op : Nat) : Int))) && (decide (((op : Nat) : Int) ≤ (102 : Int)))))) (c := (decide ((139 : Int) ≤ ((op : Nat) : Int)))) (v := (.int .u8 ((op : Nat) : Int))) hf rfl rfl rfl (fun hact => (r_move rfl)) rfl rfl ?_; clear hf fa; intro fa hf
    refine sqgT (act := ((!((decide ((91 : Int) ≤ ((op : Nat) : Int))) && (decide (((op : Nat) : Int) ≤ (102 : Int))))) && (decide ((139 : Int) ≤ ((op : Nat) : Int))))) (ag := (!((decide ((91 : Int) ≤ ((op : Nat) : Int))) && (decide (((op : Nat) : Int) ≤ (102 : Int)))))) (c := (decide ((139 : Int) ≤ ((op : Nat) : Int)))) (v := (.bool (decide (((op : Nat) : Int) ≤ (166 : Int))))) hf rfl rfl rfl (fun hact => (r_le (gb_ev hact rfl) rfl)) rfl rfl ?_; clear hf fa; intro fa hf
    refine sqgF (act := (!((decide ((91 : Int) ≤ ((op : Nat) : Int))) && (decide (((op : Nat) : Int) ≤ (102 : Int)))))) (ag := true) (c := ((decide ((91 : Int) ≤ ((op : Nat) : Int))) && (decide (((op : Nat) : Int) ≤ (102 : Int))))) (v := (.bool ((decide ((139 : Int) ≤ ((op : Nat) : Int))) && (decide (((op : Nat) : Int) ≤ (166 : Int)))))) hf rfl rfl rfl (fun hact => (r_pickA2 (q := (!((decide ((91 : Int) ≤ ((op : Nat) : Int))) && (decide (((op : Nat) : Int) ≤ (102 : Int)))))) (b := (decide ((139 : Int) ≤ ((op : Nat) : Int)))) (e := (decide (((op : Nat) : Int) ≤ (166 : Int)))) hact rfl rfl rfl)) rfl rfl ?_; clear hf fa; intro fa hf
    refine sqv hf (r_pickO (b := ((decide ((91 : Int) ≤ ((op : Nat) : Int))) && (decide (((op : Nat) : Int) ≤ (102 : Int))))) (e := ((decide ((139 : Int) ≤ ((op : Nat) : Int))) && (decide (((op : Nat) : Int) ≤ (166 : Int))))) rfl rfl rfl) rfl rfl rfl ?_; clear hf fa; intro fa hf
    refine sqv hf (r_move rfl) rfl rfl rfl ?_; clear hf fa; intro fa hf
    refine sqgF (act := (!(((decide ((91 : Int) ≤ ((op : Nat) : Int))) && (decide (((op : Nat) : Int) ≤ (102 : Int)))) || ((decide ((139 : Int) ≤ ((op : Nat) : Int))) && (decide (((op : Nat) : Int) ≤ (166 : Int))))))) (ag := true) (c := (((decide ((91 : Int) ≤ ((op : Nat) : Int))) && (decide (((op : Nat) : Int) ≤ (102 : Int)))) || ((decide ((139 : Int) ≤ ((op : Nat) : Int))) && (decide (((op : Nat) : Int) ≤ (166 : Int)))))) (v := (.int .u8 ((op : Nat) : Int))) hf rfl rfl rfl (fun hact => (r_move rfl)) rfl rfl ?_; clear hf fa; intro fa hf
    refine sqgF (act := (!(((decide ((91 : Int) ≤ ((op : Nat) : Int))) && (decide (((op : Nat) : Int) ≤ (102 : Int)))) || ((decide ((139 : Int) ≤ ((op : Nat) : Int))) && (decide (((op : Nat) : Int) ≤ (166 : Int))))))) (ag := true) (c := (((decide ((91 : Int) ≤ ((op : Nat) : Int))) && (decide (((op : Nat) : Int) ≤ (102 : Int)))) || ((decide ((139 : Int) ≤ ((op : Nat) : Int))) && (decide (((op : Nat) : Int) ≤ (166 : Int)))))) (v := (.bool (decide ((168 : Int) ≤ ((op : Nat) : Int))))) hf rfl rfl rfl (fun hact => (r_ge (gb_ev hact rfl) rfl)) rfl rfl ?_; clear hf fa; intro fa hf
    refine sqgF (act := (!(((decide ((91 : Int) ≤ ((op : Nat) : Int))) && (decide (((op : Nat) : Int) ≤ (102 : Int)))) || ((decide ((139 : Int) ≤ ((op : Nat) : Int))) && (decide (((op : Nat) : Int) ≤ (166 : Int))))))) (ag := true) (c := (((decide ((91 : Int) ≤ ((op : Nat) : Int))) && (decide (((op : Nat) : Int) ≤ (102 : Int)))) || ((decide ((139 : Int) ≤ ((op : Nat) : Int))) && (decide (((op : Nat) : Int) ≤ (166 : Int)))))) (v := (.bool (decide ((168 : Int) ≤ ((op : Nat) : Int))))) hf rfl rfl rfl (fun hact => (r_move (gb_ev hact rfl))) rfl rfl ?_; clear hf fa; intro fa hf
    refine sqgT (act := ((!(((decide ((91 : Int) ≤ ((op : Nat) : Int))) && (decide (((op : Nat) : Int) ≤ (102 : Int)))) || ((decide ((139 : Int) ≤ ((op : Nat) : Int))) && (decide (((op : Nat) : Int) ≤ (166 : Int)))))) && (decide ((168 : Int) ≤ ((op : Nat) : Int))))) (ag := (!(((decide ((91 : Int) ≤ ((op : Nat) : Int))) && (decide (((op : Nat) : Int) ≤ (102 : Int)))) || ((decide ((139 : Int) ≤ ((op : Nat) : Int))) && (decide (((op : Nat) : Int) ≤ (166 : Int))))))) (c := (decide ((168 : Int) ≤ ((op : Nat) : Int)))) (v := (.int .u8 ((op : Nat) : Int))) hf rfl rfl rfl (fun hact => (r_move rfl)) rfl rfl ?_; clear hf fa; intro fa hf
    refine sqgT (act := ((!(((decide ((91 : Int) ≤ ((op : Nat) : Int))) && (decide (((op : Nat) : Int) ≤ (102 : Int)))) || ((decide ((139 : Int) ≤ ((op : Nat) : Int))) && (decide (((op : Nat) : Int) ≤ (166 : Int)))))) && (decide ((168 : Int) ≤ ((op : Nat) : Int))))) (ag := (!(((decide ((91 : Int) ≤ ((op : Nat) : Int))) && (decide (((op : Nat) : Int) ≤ (102 : Int)))) || ((decide ((139 : Int) ≤ ((op : Nat) : Int))) && (decide (((op : Nat) : Int) ≤ (166 : Int))))))) (c := (decide ((168 : Int) ≤ ((op : Nat) : Int)))) (v := (.bool (decide (((op : Nat) : Int) ≤ (171 : Int))))) hf rfl rfl rfl (fun hact => (r_le (gb_ev hact rfl) rfl)) rfl rfl ?_; clear hf fa; intro fa hf
    refine sqgF (act := (!(((decide ((91 : Int) ≤ ((op : Nat) : Int))) && (decide (((op : Nat) : Int) ≤ (102 : Int)))) || ((decide ((139 : Int) ≤ ((op : Nat) : Int))) && (decide (((op : Nat) : Int) ≤ (166 : Int))))))) (ag := true) (c := (((decide ((91 : Int) ≤ ((op : Nat) : Int))) && (decide (((op : Nat) : Int) ≤ (102 : Int)))) || ((decide ((139 : Int) ≤ ((op : Nat) : Int))) && (decide (((op : Nat) : Int) ≤ (166 : Int)))))) (v := (.bool ((decide ((168 : Int) ≤ ((op : Nat) : Int))) && (decide (((op : Nat) : Int) ≤ (171 : Int)))))) hf rfl rfl rfl (fun hact => (r_pickA2 (q := (!(((decide ((91 : Int) ≤ ((op : Nat) : Int))) && (decide (((op : Nat) : Int) ≤ (102 : Int)))) || ((decide ((139 : Int) ≤ ((op : Nat) : Int))) && (decide (((op : Nat) : Int) ≤ (166 : Int))))))) (b := (decide ((168 : Int) ≤ ((op : Nat) : Int)))) (e := (decide (((op : Nat) : Int) ≤ (171 : Int)))) hact rfl rfl rfl)) rfl rfl ?_; clear hf fa; intro fa hf
    refine sqv hf (r_pickO (b := (((decide ((91 : Int) ≤ ((op : Nat) : Int))) && (decide (((op : Nat) : Int) ≤ (102 : Int)))) || ((decide ((139 : Int) ≤ ((op : Nat) : Int))) && (decide (((op : Nat) : Int) ≤ (166 : Int)))))) (e := ((decide ((168 : Int) ≤ ((op : Nat) : Int))) && (decide (((op : Nat) : Int) ≤ (171 : Int))))) rfl rfl rfl) rfl rfl rfl ?_; clear hf fa; intro fa hf
    refine sqv hf (r_move rfl) rfl rfl rfl ?_; clear hf fa; intro fa hf
    refine sqgF (act := (!((((decide ((91 : Int) ≤ ((op : Nat) : Int))) && (decide (((op : Nat) : Int) ≤ (102 : Int)))) || ((decide ((139 : Int) ≤ ((op : Nat) : Int))) && (decide (((op : Nat) : Int) ≤ (166 : Int))))) || ((decide ((168 : Int) ≤ ((op : Nat) : Int))) && (decide (((op : Nat) : Int) ≤ (171 : Int))))))) (ag := true) (c := ((((decide ((91 : Int) ≤ ((op : Nat) : Int))) && (decide (((op : Nat) : Int) ≤ (102 : Int)))) || ((decide ((139 : Int) ≤ ((op : Nat) : Int))) && (decide (((op : Nat) : Int) ≤ (166 : Int))))) || ((decide ((168 : Int) ≤ ((op : Nat) : Int))) && (decide (((op : Nat) : Int) ≤ (171 : Int)))))) (v := (.int .u8 ((op : Nat) : Int))) hf rfl rfl rfl (fun hact => (r_move rfl)) rfl rfl ?_; clear hf fa; intro fa hf
    refine sqgF (act := (!((((decide ((91 : Int) ≤ ((op : Nat) : Int))) && (decide (((op : Nat) : Int) ≤ (102 : Int)))) || ((decide ((139 : Int) ≤ ((op : Nat) : Int))) && (decide (((op : Nat) : Int) ≤ (166 : Int))))) || ((decide ((168 : Int) ≤ ((op : Nat) : Int))) && (decide (((op : Nat) : Int) ≤ (171 : Int))))))) (ag := true) (c := ((((decide ((91 : Int) ≤ ((op : Nat) : Int))) && (decide (((op : Nat) : Int) ≤ (102 : Int)))) || ((decide ((139 : Int) ≤ ((op : Nat) : Int))) && (decide (((op : Nat) : Int) ≤ (166 : Int))))) || ((decide ((168 : Int) ≤ ((op : Nat) : Int))) && (decide (((op : Nat) : Int) ≤ (171 : Int)))))) (v := (.bool (decide ((174 : Int) ≤ ((op : Nat) : Int))))) hf rfl rfl rfl (fun hact => (r_ge (gb_ev hact rfl) rfl)) rfl rfl ?_; clear hf fa; intro fa hf
    refine sqgF (act := (!((((decide ((91 : Int) ≤ ((op : Nat) : Int))) && (decide (((op : Nat) : Int) ≤ (102 : Int)))) || ((decide ((139 : Int) ≤ ((op : Nat) : Int))) && (decide (((op : Nat) : Int) ≤ (166 : Int))))) || ((decide ((168 : Int) ≤ ((op : Nat) : Int))) && (decide (((op : Nat) : Int) ≤ (171 : Int))))))) (ag := true) (c := ((((decide ((91 : Int) ≤ ((op : Nat) : Int))) && (decide (((op : Nat) : Int) ≤ (102 : Int)))) || ((decide ((139 : Int) ≤ ((op : Nat) : Int))) && (decide (((op : Nat) : Int) ≤ (166 : Int))))) || ((decide ((168 : Int) ≤ ((op : Nat) : Int))) && (decide (((op : Nat) : Int) ≤ (171 : Int)))))) (v := (.bool (decide ((174 : Int) ≤ ((op : Nat) : Int))))) hf rfl rfl rfl (fun hact => (r_move (gb_ev hact rfl))) rfl rfl ?_; clear hf fa; intro fa hf
    refine sqgT (act := ((!((((decide ((91 : Int) ≤ ((op : Nat) : Int))) && (decide (((op : Nat) : Int) ≤ (102 : Int)))) || ((decide ((139 : Int) ≤ ((op : Nat) : Int))) && (decide (((op : Nat) : Int) ≤ (166 : Int))))) || ((decide ((168 : Int) ≤ ((op : Nat) : Int))) && (decide (((op : Nat) : Int) ≤ (171 : Int)))))) && (decide ((174 : Int) ≤ ((op : Nat) : Int))))) (ag := (!((((decide ((91 : Int) ≤ ((op : Nat) : Int))) && (decide (((op : Nat) : Int) ≤ (102 : Int)))) || ((decide ((139 : Int) ≤ ((op : Nat) : Int))) && (decide (((op : Nat) : Int) ≤ (166 : Int))))) || ((decide ((168 : Int) ≤ ((op : Nat) : Int))) && (decide (((op : Nat) : Int) ≤ (171 : Int))))))) (c := (decide ((174 : Int) ≤ ((op : Nat) : Int)))) (v := (.int .u8 ((op : Nat) : Int))) hf rfl rfl rfl (fun hact => (r_move rfl)) rfl rfl ?_; clear hf fa; intro fa hf
    refine sqgT (act := ((!((((decide ((91 : Int) ≤ ((op : Nat) : Int))) && (decide (((op : Nat) : Int) ≤ (102 : Int)))) || ((decide ((139 : Int) ≤ ((op : Nat) : Int))) && (decide (((op : Nat) : Int) ≤ (166 : Int))))) || ((decide ((168 : Int) ≤ ((op : Nat) : Int))) && (decide (((op : Nat) : Int) ≤ (171 : Int)))))) && (decide ((174 : Int) ≤ ((op : Nat) : Int))))) (ag := (!((((decide ((91 : Int) ≤ ((op : Nat) : Int))) && (decide (((op : Nat) : Int) ≤ (102 : Int)))) || ((decide ((139 : Int) ≤ ((op : Nat) : Int))) && (decide (((op : Nat) : Int) ≤ (166 : Int))))) || ((decide ((168 : Int) ≤ ((op : Nat) : Int))) && (decide (((op : Nat) : Int) ≤ (171 : Int))))))) (c := (decide ((174 : Int) ≤ ((op : Nat) : Int)))) (v := (.bool (decide (((op : Nat) : Int) ≤ (191 : Int))))) hf rfl rfl rfl (fun hact => (r_le (gb_ev hact rfl) rfl)) rfl rfl ?_; clear hf fa; intro fa hf
    refine sqgF (act := (!((((decide ((91 : Int) ≤ ((op : Nat) : Int))) && (decide (((op : Nat) : Int) ≤ (102 : Int)))) || ((decide ((139 : Int) ≤ ((op : Nat) : Int))) && (decide (((op : Nat) : Int) ≤ (166 : Int))))) || ((decide ((168 : Int) ≤ ((op : Nat) : Int))) && (decide (((op : Nat) : Int) ≤ (171 : Int))))))) (ag := true) (c := ((((decide ((91 : Int) ≤ ((op : Nat) : Int))) && (decide (((op : Nat) : Int) ≤ (102 : Int)))) || ((decide ((139 : Int) ≤ ((op : Nat) : Int))) && (decide (((op : Nat) : Int) ≤ (166 : Int))))) || ((decide ((168 : Int) ≤ ((op : Nat) : Int))) && (decide (((op : Nat) : Int) ≤ (171 : Int)))))) (v := (.bool ((decide ((174 : Int) ≤ ((op : Nat) : Int))) && (decide (((op : Nat) : Int) ≤ (191 : Int)))))) hf rfl rfl rfl (fun hact => (r_pickA2 (q := (!((((decide ((91 : Int) ≤ ((op : Nat) : Int))) && (decide (((op : Nat) : Int) ≤ (102 : Int)))) || ((decide ((139 : Int) ≤ ((op : Nat) : Int))) && (decide (((op : Nat) : Int) ≤ (166 : Int))))) || ((decide ((168 : Int) ≤ ((op : Nat) : Int))) && (decide (((op : Nat) : Int) ≤ (171 : Int))))))) (b := (decide ((174 : Int) ≤ ((op : Nat) : Int)))) (e := (decide (((op : Nat) : Int) ≤ (191 : Int)))) hact rfl rfl rfl)) rfl rfl ?_; clear hf fa; intro fa hf
    refine sqv hf (r_pickO (b := ((((decide ((91 : Int) ≤ ((op : Nat) : Int))) && (decide (((op : Nat) : Int) ≤ (102 : Int)))) || ((decide ((139 : Int) ≤ ((op : Nat) : Int))) && (decide (((op : Nat) : Int) ≤ (166 : Int))))) || ((decide ((168 : Int) ≤ ((op : Nat) : Int))) && (decide (((op : Nat) : Int) ≤ (171 : Int)))))) (e := ((decide ((174 : Int) ≤ ((op : Nat) : Int))) && (decide (((op : Nat) : Int) ≤ (191 : Int))))) rfl rfl rfl) rfl rfl rfl ?_; clear hf fa; intro fa hf
    refine sqv hf (r_assign rfl) rfl rfl rfl ?_; clear hf fa; intro fa hf
    apply wpList_nil
    (try simp only [Exit.then, Exit.inBlock, ↓reduceIte, Nat.reduceEqDiff])
    refine hK5 _ _ ?_
    refine wp_cond_split (t := (((((decide ((91 : Int) ≤ ((op : Nat) : Int))) && (decide (((op : Nat) : Int) ≤ (102 : Int)))) || ((decide ((139 : Int) ≤ ((op : Nat) : Int))) && (decide (((op : Nat) : Int) ≤ (166 : Int))))) || ((decide ((168 : Int) ≤ ((op : Nat) : Int))) && (decide (((op : Nat) : Int) ≤ (171 : Int))))) || ((decide ((174 : Int) ≤ ((op : Nat) : Int))) && (decide (((op : Nat) : Int) ≤ (191 : Int)))))) (hf.ev rfl) (fun hqt26_1 => ?_) (fun hqt26_1 => ?_)
    · have hqt26_1b := hqt26_1
      try simp only [decide_eq_true_eq, Bool.and_eq_true, Bool.or_eq_true, Bool.not_eq_true', decide_eq_false_iff_not, ne_eq, Bool.not_eq_true] at hqt26_1
      refine wp_seq_k (fun K6 hK6 => ?_)
      refine wp_region_lit ?_
      refine sqv hf (r_assign rfl) rfl rfl rfl ?_; clear hf fa; intro fa hf
      apply wpList_nil
      (try simp only [Exit.then, Exit.inBlock, ↓reduceIte, Nat.reduceEqDiff])
      refine hK6 _ _ ?_
      refine wp_ret ?_
      (try simp only [Exit.then, Exit.inBlock])
      refine ret1 hf rfl rfl ?_
      refine ⟨?_, hb⟩; unfold chkP; rw [hqt3_1b, hqt26_1b]; (try rfl)
    · have hqt26_1b := hqt26_1
      replace hqt26_1 := Bool.eq_false_iff.1 hqt26_1
      try simp only [ne_eq, decide_eq_true_eq, Bool.and_eq_true, Bool.or_eq_true, Bool.not_eq_true', decide_eq_false_iff_not] at hqt26_1
      refine wp_seq_k (fun K7 hK7 => ?_)
      refine wp_region_lit ?_
      refine sqv hf (r_move rfl) rfl rfl rfl ?_; clear hf fa; intro fa hf
      refine sqdt hf (d_callB (vs := [(.int .u8 ((op : Nat) : Int))]) rfl Tryd.func20 (by kernel_rfl) (by kernel_rfl) (inf_any op _ hop)) rfl rfl rfl ?_; clear hf fa; rintro fa _ w1 ⟨rfl, he1⟩ hf
      replace hb := hb.trans (Below.mono he1 hb.size)
      refine sqv hf (r_field (cs := #[(.string (infP op).1), (.int .i64 ((infP op).2.1)), (.string (infP op).2.2.1), (.string (infP op).2.2.2.1), (.bool (infP op).2.2.2.2.1)]) (v := (.string (infP op).1)) rfl (fun _ => by kernel_rfl)) rfl rfl rfl ?_; clear hf fa; intro fa hf
      refine sqv hf (r_seq rfl rfl) rfl rfl rfl ?_; clear hf fa; intro fa hf
      refine sqv hf (r_assign rfl) rfl rfl rfl ?_; clear hf fa; intro fa hf
      apply wpList_nil
      (try simp only [Exit.then, Exit.inBlock, ↓reduceIte, Nat.reduceEqDiff])
      refine hK7 _ _ ?_
      refine wp_cond_split (t := (decide ((infP op).1 = ⟨#[]⟩))) (hf.ev rfl) (fun hqt57_1 => ?_) (fun hqt57_1 => ?_)
      · have hqt57_1b := hqt57_1
        try simp only [decide_eq_true_eq, Bool.and_eq_true, Bool.or_eq_true, Bool.not_eq_true', decide_eq_false_iff_not, ne_eq, Bool.not_eq_true] at hqt57_1
        refine wp_seq_k (fun K8 hK8 => ?_)
        refine wp_region_lit ?_
        refine sqv hf (r_assign rfl) rfl rfl rfl ?_; clear hf fa; intro fa hf
        apply wpList_nil
        (try simp only [Exit.then, Exit.inBlock, ↓reduceIte, Nat.reduceEqDiff])
        refine hK8 _ _ ?_
        refine wp_ret ?_
        (try simp only [Exit.then, Exit.inBlock])
        refine ret1 hf rfl rfl ?_
        refine ⟨?_, hb⟩; unfold chkP; rw [hqt3_1b, hqt26_1b, hqt57_1b]; (try rfl)
      · have hqt57_1b := hqt57_1
        replace hqt57_1 := Bool.eq_false_iff.1 hqt57_1
        try simp only [ne_eq, decide_eq_true_eq, Bool.and_eq_true, Bool.or_eq_true, Bool.not_eq_true', decide_eq_false_iff_not] at hqt57_1
        refine wp_skip ?_
        (try simp only [Exit.then, Exit.inBlock, ↓reduceIte, Nat.reduceEqDiff])
        refine hK2 _ _ ?_
        refine wp_seq_k (fun K9 hK9 => ?_)
        refine wp_region_lit ?_
        refine sqv hf (r_assign rfl) rfl rfl rfl ?_; clear hf fa; intro fa hf
        apply wpList_nil
        (try simp only [Exit.then, Exit.inBlock, ↓reduceIte, Nat.reduceEqDiff])
        refine hK9 _ _ ?_
        refine wp_ret ?_
        (try simp only [Exit.then, Exit.inBlock])
        refine ret1 hf rfl rfl ?_
        refine ⟨?_, hb⟩; unfold chkP; rw [hqt3_1b, hqt26_1b, hqt57_1b]; (try rfl)
end Go.Proofs.YtpalmpfkliepfaaDoor
