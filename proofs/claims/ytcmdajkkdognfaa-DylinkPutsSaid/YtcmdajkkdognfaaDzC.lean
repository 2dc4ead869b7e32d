/- What is proved here: abort.Within; the closure of dylink.Read. -/
import Derived.Test.YtcmdajkkdognfaaDzB
namespace Go.Proofs.Ytcmdajkkdognfaa
open Go.RowKit
set_option linter.unusedVariables false
set_option linter.unusedSimpArgs false
set_option maxHeartbeats 1000000 in
set_option maxRecDepth 100000 in
theorem within_ok (by' : Int) (k : FuncId) (caps : Array Value) (w : World) (SS : List Nat) (Q : Nat → World → Prop) (hin : Enters Try.prog k) (hS : ∀ b ∈ SS, b < w.heap.size) (hQ : ∀ B wa wb, Q B wa → Below wa.heap.size wa wb → Q B wb) (hc : ∀ w1, Below w.heap.size w w1 → w.heap.size < w1.heap.size → Calls Try.prog k caps w1 fun e w2 => e = .returned (.tuple #[]) ∧ KS SS w1.heap.size w1 w2 ∧ Q w1.heap.size w2) : Calls Try.prog 136 #[(.int .i64 by'), (.func (.func k) #[] caps)] w fun e w' => e = .returned (.tuple #[]) ∧ KS SS w.heap.size w w' ∧ ∃ B, w.heap.size < B ∧ Q B w' := by
  refine sx_enter (L := [(0, (.int .i64 by')), (1, (.func (.func k) #[] caps))]) Try.func136 rfl rfl rfl rfl (fun fa hf => ?_)
  have hb : Below w.heap.size w w := Below.refl _ _
  refine wp_seq_k (fun K1 hK1 => ?_)
  refine wp_region_lit ?_
  refine sqv hf (r_move rfl) rfl rfl rfl ?_; clear hf fa; intro fa hf
  refine sqdt hf (d_callR (vs := [(.func (.func k) #[] caps)]) rfl Try.func59 (by kernel_rfl) (by kernel_rfl) (out_ok k caps _ SS Q hin hS hc)) rfl rfl rfl ?_; clear hf fa; rintro fa _ w1 ⟨rfl, hks, B1, hB1, hQ1⟩ hf
  have hbW : KS SS w.heap.size w w1 := (KS.of_belowB hb).many hks (fun q hq => .inl hq) hb.size
  have hszW := hb.size
  clear hb
  have hb : Below w1.heap.size w1 w1 := Below.refl _ _
  refine sqdt hf (d_alloc (z := (.agg #[(.int .i64 (0 : Int)), (.int .i64 (0 : Int))])) (cs := #[(.int .i64 (0 : Int)), (.int .i64 (0 : Int))]) (by kernel_rfl) rfl) rfl rfl rfl ?_; clear hf fa; rintro fa _ w2 ⟨b1, rfl, hle1, hk1, he1⟩ hf
  have hBb1 : w1.heap.size ≤ b1 := Nat.le_trans hb.size hle1
  replace hb := hb.trans (Below.mono he1 hb.size)
  refine sqn hf (d_storeK (T := 90) (v := (.agg #[(.int .i64 (0 : Int)), (.int .i64 (0 : Int))])) (cs := #[(.int .i64 (0 : Int)), (.int .i64 (0 : Int))]) (cs' := #[(.int .i64 (0 : Int)), (.int .i64 (0 : Int))]) rfl rfl (by kernel_rfl) (by kernel_rfl) hk1 (by kernel_rfl) (by kernel_rfl)) rfl rfl ?_; clear hf fa; rintro fa _ w3 ⟨hk2, hg1⟩ hf
  replace hb := hb.trans (grown_below hg1 hb.size hBb1)
  apply wpList_nil
  (try simp only [Exit.then, Exit.inBlock, ↓reduceIte, Nat.reduceEqDiff])
  refine hK1 _ _ ?_
  refine wp_seq_k (fun K2 hK2 => ?_)
  refine wp_region_lit ?_
  refine sqv hf (r_fa rfl Try.underlying90 (f := 0) (q := 0) rfl (by kernel_rfl) rfl) rfl rfl rfl ?_; clear hf fa; intro fa hf
  refine sqv hf (r_load (v := (.int .i64 (0 : Int))) rfl Try.underlying39 rfl (cell_blk hk2 rfl)) rfl rfl rfl ?_; clear hf fa; intro fa hf
  refine sqv hf (r_ne rfl rfl) rfl rfl rfl ?_; clear hf fa; intro fa hf
  apply wpList_nil
  (try simp only [Exit.then, Exit.inBlock, ↓reduceIte, Nat.reduceEqDiff])
  refine hK2 _ _ ?_
  refine wp_cond_false ((hf.ev rfl).trans (congrArg Value.bool (show (decide ((0 : Int) ≠ (0 : Int))) = false from rfl))) ?_
  refine wp_skip ?_
  (try simp only [Exit.then, Exit.inBlock])
  refine end0 hf rfl ?_
  exact ⟨rfl, hbW.trans (hb.mono hbW.size), B1, Nat.lt_of_le_of_lt hszW hB1, hQ _ _ _ hQ1 hb⟩

set_option maxHeartbeats 1000000 in
set_option maxRecDepth 100000 in
theorem c137a_any (qi qv bd : Nat) (bs base p : Nat) (a : Option Addr) (c : Nat) (l : List Int) (w : World) (hks : w.heap[bs]? = some (.cells #[(.slice a l.length c), (.int .i64 ((p : Nat) : Int))] 161 (0, 0))) (hr0 : Row 1 (vInt .u8) 5 base w (.slice a l.length c) l) (hp : p ≤ l.length) (hb6 : ∀ y ∈ l, 0 ≤ y ∧ y < 256) (hlm : l.length ≤ 1000000) (a1 a2 a3 a4 : Int) (h1 : 0 ≤ a1 ∧ a1 < 4294967296) (h2 : 0 ≤ a2 ∧ a2 < 4294967296) (h3 : 0 ≤ a3 ∧ a3 < 4294967296) (h4 : 0 ≤ a4 ∧ a4 < 4294967296) (hA : At l p (infoL a1 a2 a3 a4)) (hpe : p + (infoL a1 a2 a3 a4).length = l.length) (ki : w.heap[qi]? = some (.cells #[(.int .u8 (1 : Int))] 5 (0, 0))) (kv : w.heap[qv]? = some (.cells #[(.pointer (some ⟨bs, 0, none⟩))] 87 (0, 0))) (kd : w.heap[bd]? = some (.cells #[(.bool true), (.int .u32 0), (.int .u32 0), (.int .u32 0), (.int .u32 0), (.slice none 0 0)] 37 (0, 0))) (o1 : bd < qi) (o2 : qi < bs) (o3 : bs < qv) : Calls Try.prog 137 #[(.pointer (some ⟨qi, 0, none⟩)), (.pointer (some ⟨qv, 0, none⟩)), (.pointer (some ⟨bd, 0, none⟩))] w fun e w' => e = .returned (.tuple #[]) ∧ w'.heap[bd]? = some (.cells #[(.bool true), (.int .u32 a1), (.int .u32 a2), (.int .u32 a3), (.int .u32 a4), (.slice none 0 0)] 37 (0, 0)) ∧ KS [bd, bs] w.heap.size w w' := by
  have hcap := Row.caps hr0; have hR0lt := fun q hq => (Row.lt hr0 q hq).2; have hle := hA.le
  refine sx_enter (L := [(0, (.pointer (some ⟨qi, 0, none⟩))), (1, (.pointer (some ⟨qv, 0, none⟩))), (2, (.pointer (some ⟨bd, 0, none⟩)))]) Try.func137 rfl rfl rfl rfl (fun fa hf => ?_)
  have hb : KS [bd, bs] w.heap.size w w := KS.refl _ _ _
  refine wp_seq_k (fun K1 hK1 => ?_)
  refine wp_region_lit ?_
  refine sqv hf (r_load (v := (.int .u8 (1 : Int))) rfl Try.underlying5 rfl (cell_blk ki rfl)) rfl rfl rfl ?_; clear hf fa; intro fa hf
  refine sqv hf (r_eq rfl rfl) rfl rfl rfl ?_; clear hf fa; intro fa hf
  apply wpList_nil
  (try simp only [Exit.then, Exit.inBlock, ↓reduceIte, Nat.reduceEqDiff])
  refine hK1 _ _ ?_
  refine wp_cond_true ((hf.ev rfl).trans (congrArg Value.bool (show (decide ((1 : Int) = (1 : Int))) = true from rfl))) ?_
  refine wp_region_lit ?_
  refine sqv hf (r_load (v := (.pointer (some ⟨bs, 0, none⟩))) rfl Try.underlying87 rfl (cell_blk kv rfl)) rfl rfl rfl ?_; clear hf fa; intro fa hf
  refine sqdt hf (d_callR (vs := [(.pointer (some ⟨bs, 0, none⟩)), (.pointer (some ⟨bd, 0, none⟩))]) rfl Try.func138 (by kernel_rfl) (by kernel_rfl) (info_any bd bs base p a c l _ hks hr0 (by omega) hb6 hlm a1 a2 a3 a4 h1 h2 h3 h4 hA hpe kd (by omega))) rfl rfl rfl ?_; clear hf fa; rintro fa _ w1 ⟨rfl, hk1, hk2, hks1⟩ hf
  replace ki := blk_ks ki hks1 (by simp only [List.mem_cons, List.not_mem_nil, or_false]; omega)
  replace kv := blk_ks kv hks1 (by simp only [List.mem_cons, List.not_mem_nil, or_false]; omega)
  replace hr0 := Row.ks hr0 hks1 (fun q hq => by simp only [List.mem_cons, List.not_mem_nil, or_false] at hq; rcases hq with rfl | rfl; exact (Row.ne_type hr0 kd rfl); exact (Row.ne_type hr0 hks rfl))
  replace hb := hb.many hks1 (by intro q hq; simp only [List.mem_cons, List.not_mem_nil, or_false] at hq ⊢; omega) hb.size
  apply wpList_nil
  (try simp only [Exit.then, Exit.inBlock])
  refine end0 hf rfl ?_
  exact ⟨rfl, hk1, hb⟩

set_option maxHeartbeats 1000000 in
set_option maxRecDepth 100000 in
theorem c137b_any (qi qv bd : Nat) (bs base p : Nat) (a : Option Addr) (c : Nat) (l : List Int) (w : World) (hks : w.heap[bs]? = some (.cells #[(.slice a l.length c), (.int .i64 ((p : Nat) : Int))] 161 (0, 0))) (hr0 : Row 1 (vInt .u8) 5 base w (.slice a l.length c) l) (hp : p ≤ l.length) (hb6 : ∀ y ∈ l, 0 ≤ y ∧ y < 256) (hlm : l.length ≤ 1000000) (a1 a2 a3 a4 : Int) (h1 : 0 ≤ a1 ∧ a1 < 4294967296) (h2 : 0 ≤ a2 ∧ a2 < 4294967296) (h3 : 0 ≤ a3 ∧ a3 < 4294967296) (h4 : 0 ≤ a4 ∧ a4 < 4294967296) (L : List ByteArray) (hfw : L.length ≤ 30 ∧ ∀ s ∈ L, s.size ≤ 300) (h0L : 0 < L.length) (hgd : ∀ s ∈ L, Ut.checkF s = 0) (hA : At l p (needL L)) (hpe : p + (needL L).length = l.length) (ki : w.heap[qi]? = some (.cells #[(.int .u8 (2 : Int))] 5 (0, 0))) (kv : w.heap[qv]? = some (.cells #[(.pointer (some ⟨bs, 0, none⟩))] 87 (0, 0))) (kd : w.heap[bd]? = some (.cells #[(.bool true), (.int .u32 a1), (.int .u32 a2), (.int .u32 a3), (.int .u32 a4), (.slice none 0 0)] 37 (0, 0))) (o1 : bd < qi) (o2 : qi < bs) (o3 : bs < qv) : Calls Try.prog 137 #[(.pointer (some ⟨qi, 0, none⟩)), (.pointer (some ⟨qv, 0, none⟩)), (.pointer (some ⟨bd, 0, none⟩))] w fun e w' => e = .returned (.tuple #[]) ∧ ∃ (na : Option Addr) (nc : Nat), w'.heap[bd]? = some (.cells #[(.bool true), (.int .u32 a1), (.int .u32 a2), (.int .u32 a3), (.int .u32 a4), (.slice na L.length nc)] 37 (0, 0)) ∧ Row 1 vStr 9 w.heap.size w' (.slice na L.length nc) L ∧ KS [bd, bs] w.heap.size w w' := by
  have hcap := Row.caps hr0; have hR0lt := fun q hq => (Row.lt hr0 q hq).2; have hle := hA.le
  refine sx_enter (L := [(0, (.pointer (some ⟨qi, 0, none⟩))), (1, (.pointer (some ⟨qv, 0, none⟩))), (2, (.pointer (some ⟨bd, 0, none⟩)))]) Try.func137 rfl rfl rfl rfl (fun fa hf => ?_)
  have hb : KS [bd, bs] w.heap.size w w := KS.refl _ _ _
  refine wp_seq_k (fun K1 hK1 => ?_)
  refine wp_region_lit ?_
  refine sqv hf (r_load (v := (.int .u8 (2 : Int))) rfl Try.underlying5 rfl (cell_blk ki rfl)) rfl rfl rfl ?_; clear hf fa; intro fa hf
  refine sqv hf (r_eq rfl rfl) rfl rfl rfl ?_; clear hf fa; intro fa hf
  apply wpList_nil
  (try simp only [Exit.then, Exit.inBlock, ↓reduceIte, Nat.reduceEqDiff])
  refine hK1 _ _ ?_
  refine wp_cond_false ((hf.ev rfl).trans (congrArg Value.bool (show (decide ((2 : Int) = (1 : Int))) = false from rfl))) ?_
  refine wp_region_lit ?_
  refine sqv hf (r_load (v := (.pointer (some ⟨bs, 0, none⟩))) rfl Try.underlying87 rfl (cell_blk kv rfl)) rfl rfl rfl ?_; clear hf fa; intro fa hf
  refine sqdt hf (d_callR (vs := [(.pointer (some ⟨bs, 0, none⟩)), (.pointer (some ⟨bd, 0, none⟩))]) rfl Try.func139 (by kernel_rfl) (by kernel_rfl) (needed_any bd bs base p a c l _ hks hr0 (by omega) hb6 hlm a1 a2 a3 a4 L hfw h0L hgd hA hpe kd (by omega))) rfl rfl rfl ?_; clear hf fa; rintro fa _ w1 ⟨rfl, na, nc, hk1, hr1, hk2, hks1⟩ hf
  replace hr1 := Row.rebase hr1 hb.size
  replace ki := blk_ks ki hks1 (by simp only [List.mem_cons, List.not_mem_nil, or_false]; omega)
  replace kv := blk_ks kv hks1 (by simp only [List.mem_cons, List.not_mem_nil, or_false]; omega)
  replace hr0 := Row.ks hr0 hks1 (fun q hq => by simp only [List.mem_cons, List.not_mem_nil, or_false] at hq; rcases hq with rfl | rfl; exact (Row.ne_type hr0 kd rfl); exact (Row.ne_type hr0 hks rfl))
  replace hb := hb.many hks1 (by intro q hq; simp only [List.mem_cons, List.not_mem_nil, or_false] at hq ⊢; omega) hb.size
  apply wpList_nil
  (try simp only [Exit.then, Exit.inBlock])
  refine end0 hf rfl ?_
  exact ⟨rfl, _, _, hk1, hr1, hb⟩
end Go.Proofs.Ytcmdajkkdognfaa
