/- What is proved here: what a call leaves alone: blocks of a type; blocks from a number on. What is proved here: a cut that gives its room away (s[:m:m]), and the append behind it. What is proved here: sections: Join and Find, by the program and by the document. What is proved here: what is given up: Unless, Name. What is proved here: the closure of Next, and Within. What is proved here: sect.Next: a section that is right, and one that is given up. What is proved here: sect.all over joined sections. What is proved here: abort.Value of sections. What is proved here: string(b) of bytes that came in. -/
import Derived.Test.YtcmdajkkdognfaaSectJoinsMgAA
import Derived.Test.YtcmdajkkdognfaaSectJoinsMgAB
import Derived.ArgAppend
namespace Go.Proofs.Ytcmdajkkdognfaa
open Go.RowKit
set_option linter.unusedVariables false
set_option linter.unusedSimpArgs false
/-- The blocks of a type are as they were. -/
def KT (T : Nat) (w1 w : World) : Prop := ∀ (bf : Nat) (cs : Array Value), w1.heap[bf]? = some (.cells cs T (0, 0)) → w.heap[bf]? = some (.cells cs T (0, 0))
theorem KT.refl (T : Nat) (w : World) : KT T w w := fun _ _ h => h
theorem KT.trans {T : Nat} {w w1 w2 : World} (h : KT T w w1) (h2 : KT T w1 w2) : KT T w w2 := fun b cs hb => h2 b cs (h b cs hb)
theorem KT.map {T : Nat} {w1 w w' : World} (h : KT T w1 w) (hm : ∀ (bf : Nat) (cs : Array Value), w.heap[bf]? = some (.cells cs T (0, 0)) → w'.heap[bf]? = some (.cells cs T (0, 0))) : KT T w1 w' := fun b cs hb => hm b cs (h b cs hb)
theorem KT.of_below {T : Nat} {w w' : World} (h : Below w.heap.size w w') : KT T w w' := fun _ _ hb => blk_ext hb h
theorem blk_ty {w : World} {b c T T2 : Nat} {cs cs2 : Array Value} {fr fr2 : Nat × Nat} (h1 : w.heap[b]? = some (.cells cs T fr)) (h2 : w.heap[c]? = some (.cells cs2 T2 fr2)) (h : (T == T2) = false) : b ≠ c := by
  rintro rfl
  rw [h1] at h2
  injection h2 with e
  injection e with e1 e2 e3
  subst e2
  simp at h
theorem KT.grown {T T2 b : Nat} {w w' : World} {cs : Array Value} {fr : Nat × Nat} (hg : w.grownBy w' (some b)) (hb : w.heap[b]? = some (.cells cs T2 fr)) (hne : (T == T2) = false) : KT T w w' := fun bf cs2 h => blk_grown h hg (blk_ty h hb hne)
/-- The blocks from X on are as they were. -/
def KX (X : Nat) (w1 w : World) : Prop := ∀ (k : Nat) (o : Obj), X ≤ k → w1.heap[k]? = some o → w.heap[k]? = some o
theorem KX.refl (X : Nat) (w : World) : KX X w w := fun _ _ _ h => h
section
variable {X : Nat} {w1 w w' : World}
theorem KX.below (h : KX X w1 w) (hb : Below w.heap.size w w') : KX X w1 w' := fun k o hk ho => blk_ext (h k o hk ho) hb
theorem KX.grown {b : Nat} (h : KX X w1 w) (hg : w.grownBy w' (some b)) (hx : b < X ∨ w1.heap.size ≤ b) : KX X w1 w' := fun k o hk ho => blk_grown (h k o hk ho) hg (fun e => by have := (Array.getElem?_eq_some_iff.1 ho).1; omega)
end
end Go.Proofs.Ytcmdajkkdognfaa

namespace Go.Proofs.Ytcmdajkkdognfaa
open Go.RowKit
set_option linter.unusedVariables false
set_option linter.unusedSimpArgs false
section
variable {P : Program} {L : List (Nat × Value)} {w : World} {d : Option Tmp} {ty : TypeId} {ps : String} {af : Array Edge} {g : Option (Nat × Bool)}
theorem below_grown_none {w w' : World} {r : Option Nat} (hg : w.grownBy w' r) (hr : r = none) : Below w.heap.size w w' := (Below.refl w.heap.size w).grown hg (Nat.le_refl _) (fun k hk => by rw [hr] at hk; cases hk)
theorem rds_cells {α : Type} {V : α → List Value} {k : Nat} {b off : Nat} {l : List α} (hk : ∀ x, (V x).length = k) (hk0 : 0 < k) (h : RdS k V w (some ⟨b, off, none⟩) l) : ∀ j u, (l.flatMap V)[j]? = some u → w.cell? ((⟨b, off, none⟩ : Addr).add j) = some u := by
  intro j u hj
  have hjl : j < l.length * k := by
    have := (List.getElem?_eq_some_iff.1 hj).1
    rwa [length_flatMap hk] at this
  have hq : j / k < l.length := Nat.div_lt_of_lt_mul (by rw [Nat.mul_comm]; exact hjl)
  have hr : j % k < k := Nat.mod_lt _ hk0
  have hjk : j / k * k + j % k = j := by rw [Nat.mul_comm]; exact Nat.div_add_mod j k
  obtain ⟨b', off', ha, _, hc⟩ := h (j / k) _ (List.getElem?_eq_getElem hq)
  cases ha
  rw [Addr.add_lit]
  have h2 := getElem_flatMap hk l (j / k) (j % k) _ (List.getElem?_eq_getElem hq) hr
  rw [hjk, hj] at h2
  have h3 := hc (j % k) u h2.symm
  rw [show off + j / k * k + j % k = off + j by omega] at h3
  exact h3
/-- An append to a slice without room: a new row. -/
theorem d_appendFull {α : Type} {V : α → List Value} {t e bytes k n m c2 : Nat} {z : Value} {s x : Operand} {a : Option Addr} {b2 off2 : Nat} {olds news : List α} (hk : ∀ x, (V x).length = k) (h1 : ∀ x, ∀ u ∈ V x, u.oneCell' = true) (hs : evO L s = some (.slice a n n)) (hx : evO L x = some (.slice (some ⟨b2, off2, none⟩) m c2)) (ht : P.underlying t = some (.slice e))
    (hi : (P.info? e).map (fun i => (i.zero, i.size, i.bytes)) = some (some z, k, bytes)) (hz : z.cells.size = k) (h0 : Nat.blt 0 k = true) (hb1 : Nat.ble 1 bytes = true)
    (hold : RdS k V w a olds) (hn : n = olds.length) (hnil : a = none → n = 0) (hoff : ∀ A, a = some A → ∃ b off, A = ⟨b, off, none⟩) (hrd : RdS k V w (some ⟨b2, off2, none⟩) news) (hm : m = news.length) (hm0 : 0 < m) (hbytes : (olds.length + news.length) * bytes ≤ 140737488355328) :
    Does P L ⟨d, .call { callee := .builtin .append, args := #[s, x], argTypes := #[t, t] }, ty, ps, af, g⟩ w (fun v' w' => (∃ b, (∃ c, v' = .slice (some ⟨b, 0, none⟩) (olds ++ news).length c) ∧ w.heap.size ≤ b ∧ Row k V e w.heap.size w' v' (olds ++ news)) ∧ Below w.heap.size w w') := by
  have hb1' : 1 ≤ bytes := by simpa [Nat.ble_eq] using hb1
  have hle : olds.length + news.length ≤ (olds.length + news.length) * bytes := Nat.le_mul_of_pos_right _ hb1'
  have fin : ∀ v' w', Row k V e w.heap.size w' v' (olds ++ news) → ∃ b, (∃ c, v' = .slice (some ⟨b, 0, none⟩) (olds ++ news).length c) ∧ w.heap.size ≤ b ∧ Row k V e w.heap.size w' v' (olds ++ news) := by
    intro v' w' h
    obtain ⟨ra, rc, rfl, _, _⟩ := Row.slice h
    obtain ⟨b, rfl, hb, _⟩ := Row.some h (by rw [List.length_append]; omega)
    exact ⟨b, ⟨rc, rfl⟩, hb, h⟩
  cases a with
  | none =>
    obtain rfl : n = 0 := hnil rfl
    obtain rfl : olds = [] := List.eq_nil_of_length_eq_zero hn.symm
    refine Does.mono (d_append (base := w.heap.size) (l := []) (news := news) hk h1 hs hx ht hi hz h0 hb1 Row.nil hrd hm (fun h => by cases h) hbytes (Nat.le_refl _)) ?_
    rintro v' w' ⟨hY, hgY⟩
    exact ⟨fin _ _ hY, below_grown_none hgY rfl⟩
  | some A =>
    obtain ⟨b, off, rfl⟩ := hoff A rfl
    obtain ⟨i, hii, hz0, hs0, hby⟩ := info_parts hi
    have hk0 : 0 < k := by simpa [Nat.blt_eq] using h0
    obtain ⟨v', w', hr, h2, h3⟩ := run_append_arg_grows (P := P) w t ty e i z k bytes ht hii hz0 hs0 hby hz hk0 ⟨b, off, none⟩ n n (olds.flatMap V) (by rw [length_flatMap hk, hn]) (rds_cells hk hk0 hold) ⟨b2, off2, none⟩ m c2 (news.flatMap V) (by rw [length_flatMap hk, hm]) (rds_cells hk hk0 hrd) (by omega) (by unfold maxLen; omega) (by rw [hn, hm]; exact hbytes)
    refine Runs.does (v := v') (w' := w') (bi_run (f := Builtin.append_) (vs := [.slice (some ⟨b, off, none⟩) n n, .slice (some ⟨b2, off2, none⟩) m c2]) (fun _ _ _ _ => rfl) (by simp [hs, hx]) hr) ⟨fin _ _ ?_, below_grown_none h3 rfl⟩
    unfold Row
    rw [List.flatMap_append, List.length_append, ← hn, ← hm]
    exact h2
end
end Go.Proofs.Ytcmdajkkdognfaa

namespace Go.Proofs.Ytcmdajkkdognfaa
open Go.RowKit
set_option linter.unusedVariables false
set_option linter.unusedSimpArgs false
def hitS (id : Int) (nm : ByteArray) (x : MSec) : Bool := decide (x.1 = id) && (decide (id ≠ 0) || decide (x.2.1 = nm))
def fndV (id : Int) (nm : ByteArray) (l : List MSec) : MSec := (l.find? (hitS id nm)).getD zMSec
def fndB (id : Int) (nm : ByteArray) (l : List MSec) : Bool := (l.find? (hitS id nm)).isSome
theorem drop_atS {α : Type} {l : List α} {k : Nat} {y : α} (h : l[k]? = some y) : l.drop k = y :: l.drop (k + 1) := by
  obtain ⟨hk, rfl⟩ := List.getElem?_eq_some_iff.1 h
  exact List.drop_eq_getElem_cons hk
theorem find_dropT {id : Int} {nm : ByteArray} {l : List MSec} {k : Nat} {y : MSec} (h : l[k]? = some y) (hy : hitS id nm y = true) : (l.drop k).find? (hitS id nm) = some y := by
  rw [drop_atS h, List.find?_cons, hy]
theorem find_dropF {id : Int} {nm : ByteArray} {l : List MSec} {k : Nat} {y : MSec} (h : l[k]? = some y) (hy : hitS id nm y = false) : (l.drop k).find? (hitS id nm) = (l.drop (k + 1)).find? (hitS id nm) := by
  rw [drop_atS h, List.find?_cons, hy]

set_option maxHeartbeats 1000000 in
set_option maxRecDepth 100000 in
theorem rsput_any (ys : MSr) (w : World) (h0 : 0 ≤ ys.1 ∧ ys.1 < 256) (h1 : ys.2.1.size ≤ 1000) (h2 : ys.2.2.1.size ≤ 1000) : Calls Try.prog 83 #[(.agg #[(.int .i64 ys.1), (.string ys.2.1), (.string ys.2.2.1), (.int .i64 ys.2.2.2.1)])] w fun e w' => e = .returned (.string (encR ys)) ∧ Below w.heap.size w w' := by
  have hsr := secR_len ys (by omega)
  have hc1 := cntS_le (n := ys.2.1.size) (by omega)
  have hc2 := cntS_le (n := (secR ys).size) (by omega)
  refine sx_enter (L := [(0, (.agg #[(.int .i64 ys.1), (.string ys.2.1), (.string ys.2.2.1), (.int .i64 ys.2.2.2.1)]))]) Try.func83 rfl rfl rfl rfl (fun fa hf => ?_)
  have hb : Below w.heap.size w w := Below.refl _ _
  refine wp_seq_k (fun K1 hK1 => ?_)
  refine wp_region_lit ?_
  refine sqdt hf (d_box (cs := #[(.int .i64 ys.1), (.string ys.2.1), (.string ys.2.2.1), (.int .i64 ys.2.2.2.1)]) rfl rfl) rfl rfl rfl ?_; clear hf fa; rintro fa _ w1 ⟨b1, rfl, hle1, hk1, he1⟩ hf
  have hBb1 : w.heap.size ≤ b1 := Nat.le_trans hb.size hle1
  replace hb := hb.trans (Below.mono he1 hb.size)
  refine sqv hf (r_assign rfl) rfl rfl rfl ?_; clear hf fa; intro fa hf
  apply wpList_nil
  (try simp only [Exit.then, Exit.inBlock, ↓reduceIte, Nat.reduceEqDiff])
  refine hK1 _ _ ?_
  refine wp_seq_k (fun K2 hK2 => ?_)
  refine wp_region_lit ?_
  refine sqv hf (r_fa rfl Try.underlying121 (f := 2) (q := 2) rfl (by kernel_rfl) rfl) rfl rfl rfl ?_; clear hf fa; intro fa hf
  refine sqv hf (r_load (v := (.string ys.2.2.1)) rfl Try.underlying9 rfl (cell_blk hk1 rfl)) rfl rfl rfl ?_; clear hf fa; intro fa hf
  refine sqv hf (r_assign rfl) rfl rfl rfl ?_; clear hf fa; intro fa hf
  apply wpList_nil
  (try simp only [Exit.then, Exit.inBlock, ↓reduceIte, Nat.reduceEqDiff])
  refine hK2 _ _ ?_
  refine wp_seq_k (fun K3 hK3 => ?_)
  refine wp_seq_k (fun K4 hK4 => ?_)
  refine wp_region_lit ?_
  refine sqv hf (r_fa rfl Try.underlying121 (f := 0) (q := 0) rfl (by kernel_rfl) rfl) rfl rfl rfl ?_; clear hf fa; intro fa hf
  refine sqv hf (r_load (v := (.int .i64 ys.1)) rfl Try.underlying3 rfl (cell_blk hk1 rfl)) rfl rfl rfl ?_; clear hf fa; intro fa hf
  refine sqv hf (r_eq rfl rfl) rfl rfl rfl ?_; clear hf fa; intro fa hf
  apply wpList_nil
  (try simp only [Exit.then, Exit.inBlock, ↓reduceIte, Nat.reduceEqDiff])
  refine hK4 _ _ ?_
  refine wp_cond_split (t := (decide (ys.1 = (0 : Int)))) (hf.ev rfl) (fun hqt8_1 => ?_) (fun hqt8_1 => ?_)
  · have hqt8_1b := hqt8_1
    try simp only [decide_eq_true_eq, Bool.and_eq_true, Bool.or_eq_true, Bool.not_eq_true', decide_eq_false_iff_not, ne_eq, Bool.not_eq_true] at hqt8_1
    refine wp_region_unT 10 (fun wq => Below w1.heap.size w1 wq) (fun w w' => Below w.heap.size w w')
      (fun V => [(fun x _ => x = (.pointer (some ⟨b1, 1, none⟩))), (fun x _ => x = (.string ys.2.1)), (fun x _ => x = (.int .i64 ((ys.2.1.size : Nat) : Int))), (fun x _ => x = (.string (cntS ys.2.1.size))), (fun x _ => x = (.pointer (some ⟨b1, 1, none⟩))), (fun x _ => x = (.string ys.2.1)), (fun x _ => x = (.string ((cntS ys.2.1.size) ++ ys.2.1))), (fun x _ => x = (.pointer (some ⟨b1, 2, none⟩))), (fun x _ => x = (.string ys.2.2.1)), (fun x _ => x = (.string (((cntS ys.2.1.size) ++ ys.2.1) ++ ys.2.2.1)))])
      []
      [[], [0], [1], [2], [], [4], [3, 5], [], [7], [6, 8], []]
      hf (by kernel_rfl) (by kernel_rfl) (by kernel_rfl) (fun _ => rfl) ((Below.refl _ _).drew) (fun a b h1 h2 => h1.trans (h2.mono h1.size)) (fun _ _ h => h.size) (fun V => ⟨kept_eq, kept_eq, kept_eq, kept_eq, kept_eq, kept_eq, kept_eq, kept_eq, kept_eq, kept_eq, trivial⟩) (fun _ _ _ _ _ => rfl) ?_ ?_
    · skip
      intro V
      refine ⟨fun wu0 hC hd => ?_, ?_⟩
      · clear hd
        replace hb := hb.trans (hC.mono hb.size)
        replace hk1 := blk_ext hk1 hC
        exact Runs.does (r_fa rfl Try.underlying121 (f := 1) (q := 1) rfl (by kernel_rfl) rfl) ⟨Below.refl _ _, rfl, nofr rfl⟩
      refine ⟨fun wu1 hC hd => ?_, ?_⟩
      · obtain ⟨h0, _⟩ := hd
        skip
        replace h0 : V 0 = (.pointer (some ⟨b1, 1, none⟩)) := h0
        replace hb := hb.trans (hC.mono hb.size)
        replace hk1 := blk_ext hk1 hC
        exact Runs.does (r_load (v := (.string ys.2.1)) (congrArg some h0) Try.underlying9 rfl (cell_blk hk1 rfl)) ⟨Below.refl _ _, rfl, nofr rfl⟩
      refine ⟨fun wu2 hC hd => ?_, ?_⟩
      · obtain ⟨h1, _⟩ := hd
        skip
        replace h1 : V 1 = (.string ys.2.1) := h1
        replace hb := hb.trans (hC.mono hb.size)
        replace hk1 := blk_ext hk1 hC
        exact Runs.does (r_lens (congrArg some h1) Try.underlying9) ⟨Below.refl _ _, rfl, nofr rfl⟩
      refine ⟨fun wu3 hC hd => ?_, ?_⟩
      · obtain ⟨h2, _⟩ := hd
        skip
        replace h2 : V 2 = (.int .i64 ((ys.2.1.size : Nat) : Int)) := h2
        replace hb := hb.trans (hC.mono hb.size)
        replace hk1 := blk_ext hk1 hC
        refine Does.mono (d_callB (vs := [(.int .i64 ((ys.2.1.size : Nat) : Int))]) (show [some (V 2)] = [some (.int .i64 ((ys.2.1.size : Nat) : Int))] from by rw [h2]) Try.func111 (by kernel_rfl) (by kernel_rfl) (count_any ys.2.1.size _ (by omega))) (fun _ _ h => ⟨h.2, h.1, nofr rfl⟩)
      refine ⟨fun wu4 hC hd => ?_, ?_⟩
      · clear hd
        replace hb := hb.trans (hC.mono hb.size)
        replace hk1 := blk_ext hk1 hC
        exact Runs.does (r_fa rfl Try.underlying121 (f := 1) (q := 1) rfl (by kernel_rfl) rfl) ⟨Below.refl _ _, rfl, nofr rfl⟩
      refine ⟨fun wu5 hC hd => ?_, ?_⟩
      · obtain ⟨h4, _⟩ := hd
        skip
        replace h4 : V 4 = (.pointer (some ⟨b1, 1, none⟩)) := h4
        replace hb := hb.trans (hC.mono hb.size)
        replace hk1 := blk_ext hk1 hC
        exact Runs.does (r_load (v := (.string ys.2.1)) (congrArg some h4) Try.underlying9 rfl (cell_blk hk1 rfl)) ⟨Below.refl _ _, rfl, nofr rfl⟩
      refine ⟨fun wu6 hC hd => ?_, ?_⟩
      · obtain ⟨h3, h5, _⟩ := hd
        skip
        skip
        replace h3 : V 3 = (.string (cntS ys.2.1.size)) := h3
        replace h5 : V 5 = (.string ys.2.1) := h5
        replace hb := hb.trans (hC.mono hb.size)
        replace hk1 := blk_ext hk1 hC
        exact Runs.does (r_sadd (congrArg some h3) (congrArg some h5) (by have := cntS_le (n := ys.2.1.size) (by omega); omega)) ⟨Below.refl _ _, rfl, nofr rfl⟩
      refine ⟨fun wu7 hC hd => ?_, ?_⟩
      · clear hd
        replace hb := hb.trans (hC.mono hb.size)
        replace hk1 := blk_ext hk1 hC
        exact Runs.does (r_fa rfl Try.underlying121 (f := 2) (q := 2) rfl (by kernel_rfl) rfl) ⟨Below.refl _ _, rfl, nofr rfl⟩
      refine ⟨fun wu8 hC hd => ?_, ?_⟩
      · obtain ⟨h7, _⟩ := hd
        skip
        replace h7 : V 7 = (.pointer (some ⟨b1, 2, none⟩)) := h7
        replace hb := hb.trans (hC.mono hb.size)
        replace hk1 := blk_ext hk1 hC
        exact Runs.does (r_load (v := (.string ys.2.2.1)) (congrArg some h7) Try.underlying9 rfl (cell_blk hk1 rfl)) ⟨Below.refl _ _, rfl, nofr rfl⟩
      refine ⟨fun wu9 hC hd => ?_, ?_⟩
      · obtain ⟨h6, h8, _⟩ := hd
        skip
        skip
        replace h6 : V 6 = (.string ((cntS ys.2.1.size) ++ ys.2.1)) := h6
        replace h8 : V 8 = (.string ys.2.2.1) := h8
        replace hb := hb.trans (hC.mono hb.size)
        replace hk1 := blk_ext hk1 hC
        exact Runs.does (r_sadd (congrArg some h6) (congrArg some h8) (by have := cntS_le (n := ys.2.1.size) (by omega); have := sz_app (cntS ys.2.1.size) ys.2.1; omega)) ⟨Below.refl _ _, rfl, nofr rfl⟩
      trivial
    · skip
      clear hf fa; intro V w2 fa he2 hp hnb hf
      have hv0 : V 0 = (.pointer (some ⟨b1, 1, none⟩)) := postsHold_at hp 0 rfl
      have hv1 : V 1 = (.string ys.2.1) := postsHold_at hp 1 rfl
      have hv2 : V 2 = (.int .i64 ((ys.2.1.size : Nat) : Int)) := postsHold_at hp 2 rfl
      have hv3 : V 3 = (.string (cntS ys.2.1.size)) := postsHold_at hp 3 rfl
      have hv4 : V 4 = (.pointer (some ⟨b1, 1, none⟩)) := postsHold_at hp 4 rfl
      have hv5 : V 5 = (.string ys.2.1) := postsHold_at hp 5 rfl
      have hv6 : V 6 = (.string ((cntS ys.2.1.size) ++ ys.2.1)) := postsHold_at hp 6 rfl
      have hv7 : V 7 = (.pointer (some ⟨b1, 2, none⟩)) := postsHold_at hp 7 rfl
      have hv8 : V 8 = (.string ys.2.2.1) := postsHold_at hp 8 rfl
      have hv9 : V 9 = (.string (((cntS ys.2.1.size) ++ ys.2.1) ++ ys.2.2.1)) := postsHold_at hp 9 rfl
      simp only [List.take_succ_cons, List.take_zero, insAll, ins, hv0, hv1, hv2, hv3, hv4, hv5, hv6, hv7, hv8, hv9] at hf
      clear hp hnb hv0 hv1 hv2 hv3 hv4 hv5 hv6 hv7 hv8 hv9
      replace hk1 := blk_ext hk1 he2
      replace hb := hb.trans (Below.mono he2 hb.size)
      simp only [List.drop_succ_cons, List.drop_zero]
      refine sqv hf (r_assign rfl) rfl rfl rfl ?_; clear hf fa; intro fa hf
      apply wpList_nil
      (try simp only [Exit.then, Exit.inBlock, ↓reduceIte, Nat.reduceEqDiff])
      refine hK3 _ _ ?_
      refine wp_seq_k (fun K5 hK5 => ?_)
      have hS : secR ys = (cntS ys.2.1.size ++ ys.2.1) ++ ys.2.2.1 := by unfold secR; rw [if_pos hqt8_1]
      rw [hS] at hc2 hsr
      obtain ⟨NN, hNN⟩ : ∃ NN, NN = ((cntS ys.2.1.size ++ ys.2.1) ++ ys.2.2.1).size := ⟨_, rfl⟩
      rw [← hNN] at hc2 hsr
      have hs1 := strOfNums_size [ys.1]
      rw [List.length_singleton] at hs1
      refine wp_region_unT 11 (fun wq => Below w2.heap.size w2 wq) (fun w w' => Below w.heap.size w w')
        (fun V => [(fun x _ => x = (.pointer (some ⟨b1, 0, none⟩))), (fun x _ => x = (.int .i64 ys.1)), (fun x _ => x = (.int .u8 ys.1)), (fun x wq => ∃ b, x = .slice (some ⟨b, 0, none⟩) 1 1 ∧ w2.heap.size ≤ b ∧ wq.heap[b]? = some (.cells #[(.int .u8 ys.1)] 5 (0, 0))), (fun x _ => x = (.string (strOfNums [ys.1]))), (fun x _ => x = (.string (((cntS ys.2.1.size) ++ ys.2.1) ++ ys.2.2.1))), (fun x _ => x = (.int .i64 (((((cntS ys.2.1.size) ++ ys.2.1) ++ ys.2.2.1).size : Nat) : Int))), (fun x _ => x = (.string (cntS NN))), (fun x _ => x = (.string ((strOfNums [ys.1]) ++ (cntS NN)))), (fun x _ => x = (.string (((cntS ys.2.1.size) ++ ys.2.1) ++ ys.2.2.1))), (fun x _ => x = (.string (((strOfNums [ys.1]) ++ (cntS NN)) ++ (((cntS ys.2.1.size) ++ ys.2.1) ++ ys.2.2.1))))])
        [3]
        [[], [0], [1], [2], [3], [], [5], [6], [4, 7], [], [8, 9], []]
        hf (by kernel_rfl) (by kernel_rfl) (by kernel_rfl) (fun _ => rfl) ((Below.refl _ _).drew) (fun a b h1 h2 => h1.trans (h2.mono h1.size)) (fun _ _ h => h.size) (fun V => ⟨kept_eq, kept_eq, kept_eq, keptB, kept_eq, kept_eq, kept_eq, kept_eq, kept_eq, kept_eq, kept_eq, trivial⟩) (fun _ _ _ _ _ => rfl) ?_ ?_
      · skip
        intro V
        refine ⟨fun wu0 hC hd => ?_, ?_⟩
        · clear hd
          replace hb := hb.trans (hC.mono hb.size)
          replace hk1 := blk_ext hk1 hC
          exact Runs.does (r_fa rfl Try.underlying121 (f := 0) (q := 0) rfl (by kernel_rfl) rfl) ⟨Below.refl _ _, rfl, nofr rfl⟩
        refine ⟨fun wu1 hC hd => ?_, ?_⟩
        · obtain ⟨h0, _⟩ := hd
          skip
          replace h0 : V 0 = (.pointer (some ⟨b1, 0, none⟩)) := h0
          replace hb := hb.trans (hC.mono hb.size)
          replace hk1 := blk_ext hk1 hC
          exact Runs.does (r_load (v := (.int .i64 ys.1)) (congrArg some h0) Try.underlying3 rfl (cell_blk hk1 rfl)) ⟨Below.refl _ _, rfl, nofr rfl⟩
        refine ⟨fun wu2 hC hd => ?_, ?_⟩
        · obtain ⟨h1, _⟩ := hd
          skip
          replace h1 : V 1 = (.int .i64 ys.1) := h1
          replace hb := hb.trans (hC.mono hb.size)
          replace hk1 := blk_ext hk1 hC
          exact Runs.does (r_conv (C := ys.1) (congrArg some h1) Try.underlying3 Try.underlying5 (by rw [IntKind.wrap_u8]; omega)) ⟨Below.refl _ _, rfl, nofr rfl⟩
        refine ⟨fun wu3 hC hd => ?_, ?_⟩
        · obtain ⟨h2, _⟩ := hd
          skip
          replace h2 : V 2 = (.int .u8 ys.1) := h2
          replace hb := hb.trans (hC.mono hb.size)
          replace hk1 := blk_ext hk1 hC
          refine Does.mono (d_bslice (z := (.int .u8 (0 : Int))) (sz := 1) (vs := [(0, (.int .u8 ys.1))]) (cs := #[(.int .u8 ys.1)]) (show [(0, some (V 2))] = [(0, some (.int .u8 ys.1))] from by rw [h2]) Try.underlying47 (by kernel_rfl) rfl (by kernel_rfl)) ?_
          rintro _ w' ⟨b, rfl, hF⟩
          exact ⟨hF.2.2, ⟨b, rfl, Nat.le_trans hC.size hF.1, hF.2.1⟩, isfr rfl hF.1 (blk_lt hF.2.1)⟩
        refine ⟨fun wu4 hC hd => ?_, ?_⟩
        · obtain ⟨h3, _⟩ := hd
          skip
          obtain ⟨b2, h3, hle2, hk2⟩ := h3
          replace hb := hb.trans (hC.mono hb.size)
          replace hk1 := blk_ext hk1 hC
          exact Runs.does (r_rowstr (congrArg some h3) Try.underlying47 Try.underlying5 Try.underlying9 (Row.of_new (k := 1) (V := vInt .u8) (l := [ys.1]) hk2 (Nat.le_refl _) rfl rfl (Nat.le_of_ble_eq_true rfl))) ⟨Below.refl _ _, rfl, nofr rfl⟩
        refine ⟨fun wu5 hC hd => ?_, ?_⟩
        · clear hd
          replace hb := hb.trans (hC.mono hb.size)
          replace hk1 := blk_ext hk1 hC
          exact Runs.does (r_move rfl) ⟨Below.refl _ _, rfl, nofr rfl⟩
        refine ⟨fun wu6 hC hd => ?_, ?_⟩
        · obtain ⟨h5, _⟩ := hd
          skip
          replace h5 : V 5 = (.string (((cntS ys.2.1.size) ++ ys.2.1) ++ ys.2.2.1)) := h5
          replace hb := hb.trans (hC.mono hb.size)
          replace hk1 := blk_ext hk1 hC
          exact Runs.does (r_lens (congrArg some h5) Try.underlying9) ⟨Below.refl _ _, rfl, nofr rfl⟩
        refine ⟨fun wu7 hC hd => ?_, ?_⟩
        · obtain ⟨h6, _⟩ := hd
          skip
          replace h6 : V 6 = (.int .i64 (((((cntS ys.2.1.size) ++ ys.2.1) ++ ys.2.2.1).size : Nat) : Int)) := h6
          replace hb := hb.trans (hC.mono hb.size)
          replace hk1 := blk_ext hk1 hC
          refine Does.mono (d_callB (vs := [(.int .i64 (((((cntS ys.2.1.size) ++ ys.2.1) ++ ys.2.2.1).size : Nat) : Int))]) (show [some (V 6)] = [some (.int .i64 (((((cntS ys.2.1.size) ++ ys.2.1) ++ ys.2.2.1).size : Nat) : Int))] from by rw [h6]) Try.func111 (by kernel_rfl) (by kernel_rfl) (by rw [hNN]; exact count_any ((((cntS ys.2.1.size) ++ ys.2.1) ++ ys.2.2.1).size) _ (by omega))) (fun _ _ h => ⟨h.2, h.1, nofr rfl⟩)
        refine ⟨fun wu8 hC hd => ?_, ?_⟩
        · obtain ⟨h4, h7, _⟩ := hd
          skip
          skip
          replace h4 : V 4 = (.string (strOfNums [ys.1])) := h4
          replace h7 : V 7 = (.string (cntS NN)) := h7
          replace hb := hb.trans (hC.mono hb.size)
          replace hk1 := blk_ext hk1 hC
          exact Runs.does (r_sadd (congrArg some h4) (congrArg some h7) (by have := strOfNums_size [ys.1]; (try simp only [List.length_cons, List.length_nil, List.length_append] at this); omega)) ⟨Below.refl _ _, rfl, nofr rfl⟩
        refine ⟨fun wu9 hC hd => ?_, ?_⟩
        · clear hd
          replace hb := hb.trans (hC.mono hb.size)
          replace hk1 := blk_ext hk1 hC
          exact Runs.does (r_move rfl) ⟨Below.refl _ _, rfl, nofr rfl⟩
        refine ⟨fun wu10 hC hd => ?_, ?_⟩
        · obtain ⟨h8, h9, _⟩ := hd
          skip
          skip
          replace h8 : V 8 = (.string ((strOfNums [ys.1]) ++ (cntS NN))) := h8
          replace h9 : V 9 = (.string (((cntS ys.2.1.size) ++ ys.2.1) ++ ys.2.2.1)) := h9
          replace hb := hb.trans (hC.mono hb.size)
          replace hk1 := blk_ext hk1 hC
          exact Runs.does (r_sadd (congrArg some h8) (congrArg some h9) (by have := strOfNums_size [ys.1]; (try simp only [List.length_cons, List.length_nil, List.length_append] at this); have := sz_app (strOfNums [ys.1]) (cntS NN); have := cntS_le (n := ys.2.1.size) (by omega); have := sz_app (cntS ys.2.1.size) ys.2.1; have := sz_app ((cntS ys.2.1.size) ++ ys.2.1) ys.2.2.1; omega)) ⟨Below.refl _ _, rfl, nofr rfl⟩
        trivial
      · skip
        clear hf fa; intro V w3 fa he3 hp hnb hf
        have hv0 : V 0 = (.pointer (some ⟨b1, 0, none⟩)) := postsHold_at hp 0 rfl
        have hv1 : V 1 = (.int .i64 ys.1) := postsHold_at hp 1 rfl
        have hv2 : V 2 = (.int .u8 ys.1) := postsHold_at hp 2 rfl
        have hv3 := postsHold_at hp 3 rfl
        obtain ⟨b2, hv3, hle2, hk2⟩ := hv3
        have hBb2 : w.heap.size ≤ b2 := Nat.le_trans hb.size hle2
        have hv4 : V 4 = (.string (strOfNums [ys.1])) := postsHold_at hp 4 rfl
        have hv5 : V 5 = (.string (((cntS ys.2.1.size) ++ ys.2.1) ++ ys.2.2.1)) := postsHold_at hp 5 rfl
        have hv6 : V 6 = (.int .i64 (((((cntS ys.2.1.size) ++ ys.2.1) ++ ys.2.2.1).size : Nat) : Int)) := postsHold_at hp 6 rfl
        have hv7 : V 7 = (.string (cntS NN)) := postsHold_at hp 7 rfl
        have hv8 : V 8 = (.string ((strOfNums [ys.1]) ++ (cntS NN))) := postsHold_at hp 8 rfl
        have hv9 : V 9 = (.string (((cntS ys.2.1.size) ++ ys.2.1) ++ ys.2.2.1)) := postsHold_at hp 9 rfl
        have hv10 : V 10 = (.string (((strOfNums [ys.1]) ++ (cntS NN)) ++ (((cntS ys.2.1.size) ++ ys.2.1) ++ ys.2.2.1))) := postsHold_at hp 10 rfl
        simp only [List.take_succ_cons, List.take_zero, insAll, ins, hv0, hv1, hv2, hv3, hv4, hv5, hv6, hv7, hv8, hv9, hv10] at hf
        have : b1 < b2 := Nat.lt_of_lt_of_le (blk_lt hk1) hle2
        clear hp hnb hv0 hv1 hv2 hv3 hv4 hv5 hv6 hv7 hv8 hv9 hv10
        replace hk1 := blk_ext hk1 he3
        replace hb := hb.trans (Below.mono he3 hb.size)
        simp only [List.drop_succ_cons, List.drop_zero]
        refine sqv hf (r_assign rfl) rfl rfl rfl ?_; clear hf fa; intro fa hf
        apply wpList_nil
        (try simp only [Exit.then, Exit.inBlock, ↓reduceIte, Nat.reduceEqDiff])
        refine hK5 _ _ ?_
        refine wp_ret ?_
        (try simp only [Exit.then, Exit.inBlock])
        refine ret1 hf rfl rfl ?_
        refine ⟨?_, hb⟩
        unfold encR
        rw [hS, ← hNN]
  · have hqt8_1b := hqt8_1
    replace hqt8_1 := Bool.eq_false_iff.1 hqt8_1
    try simp only [ne_eq, decide_eq_true_eq, Bool.and_eq_true, Bool.or_eq_true, Bool.not_eq_true', decide_eq_false_iff_not] at hqt8_1
    refine wp_skip ?_
    (try simp only [Exit.then, Exit.inBlock, ↓reduceIte, Nat.reduceEqDiff])
    refine hK3 _ _ ?_
    refine wp_seq_k (fun K6 hK6 => ?_)
    have hS : secR ys = ys.2.2.1 := by unfold secR; rw [if_neg hqt8_1]
    rw [hS] at hc2 hsr
    obtain ⟨NN, hNN⟩ : ∃ NN, NN = (ys.2.2.1).size := ⟨_, rfl⟩
    rw [← hNN] at hc2 hsr
    have hs1 := strOfNums_size [ys.1]
    rw [List.length_singleton] at hs1
    refine wp_region_unT 11 (fun wq => Below w1.heap.size w1 wq) (fun w w' => Below w.heap.size w w')
      (fun V => [(fun x _ => x = (.pointer (some ⟨b1, 0, none⟩))), (fun x _ => x = (.int .i64 ys.1)), (fun x _ => x = (.int .u8 ys.1)), (fun x wq => ∃ b, x = .slice (some ⟨b, 0, none⟩) 1 1 ∧ w1.heap.size ≤ b ∧ wq.heap[b]? = some (.cells #[(.int .u8 ys.1)] 5 (0, 0))), (fun x _ => x = (.string (strOfNums [ys.1]))), (fun x _ => x = (.string ys.2.2.1)), (fun x _ => x = (.int .i64 ((ys.2.2.1.size : Nat) : Int))), (fun x _ => x = (.string (cntS NN))), (fun x _ => x = (.string ((strOfNums [ys.1]) ++ (cntS NN)))), (fun x _ => x = (.string ys.2.2.1)), (fun x _ => x = (.string (((strOfNums [ys.1]) ++ (cntS NN)) ++ ys.2.2.1)))])
      [3]
      [[], [0], [1], [2], [3], [], [5], [6], [4, 7], [], [8, 9], []]
      hf (by kernel_rfl) (by kernel_rfl) (by kernel_rfl) (fun _ => rfl) ((Below.refl _ _).drew) (fun a b h1 h2 => h1.trans (h2.mono h1.size)) (fun _ _ h => h.size) (fun V => ⟨kept_eq, kept_eq, kept_eq, keptB, kept_eq, kept_eq, kept_eq, kept_eq, kept_eq, kept_eq, kept_eq, trivial⟩) (fun _ _ _ _ _ => rfl) ?_ ?_
    · skip
      intro V
      refine ⟨fun wu0 hC hd => ?_, ?_⟩
      · clear hd
        replace hb := hb.trans (hC.mono hb.size)
        replace hk1 := blk_ext hk1 hC
        exact Runs.does (r_fa rfl Try.underlying121 (f := 0) (q := 0) rfl (by kernel_rfl) rfl) ⟨Below.refl _ _, rfl, nofr rfl⟩
      refine ⟨fun wu1 hC hd => ?_, ?_⟩
      · obtain ⟨h0, _⟩ := hd
        skip
        replace h0 : V 0 = (.pointer (some ⟨b1, 0, none⟩)) := h0
        replace hb := hb.trans (hC.mono hb.size)
        replace hk1 := blk_ext hk1 hC
        exact Runs.does (r_load (v := (.int .i64 ys.1)) (congrArg some h0) Try.underlying3 rfl (cell_blk hk1 rfl)) ⟨Below.refl _ _, rfl, nofr rfl⟩
      refine ⟨fun wu2 hC hd => ?_, ?_⟩
      · obtain ⟨h1, _⟩ := hd
        skip
        replace h1 : V 1 = (.int .i64 ys.1) := h1
        replace hb := hb.trans (hC.mono hb.size)
        replace hk1 := blk_ext hk1 hC
        exact Runs.does (r_conv (C := ys.1) (congrArg some h1) Try.underlying3 Try.underlying5 (by rw [IntKind.wrap_u8]; omega)) ⟨Below.refl _ _, rfl, nofr rfl⟩
      refine ⟨fun wu3 hC hd => ?_, ?_⟩
      · obtain ⟨h2, _⟩ := hd
        skip
        replace h2 : V 2 = (.int .u8 ys.1) := h2
        replace hb := hb.trans (hC.mono hb.size)
        replace hk1 := blk_ext hk1 hC
        refine Does.mono (d_bslice (z := (.int .u8 (0 : Int))) (sz := 1) (vs := [(0, (.int .u8 ys.1))]) (cs := #[(.int .u8 ys.1)]) (show [(0, some (V 2))] = [(0, some (.int .u8 ys.1))] from by rw [h2]) Try.underlying47 (by kernel_rfl) rfl (by kernel_rfl)) ?_
        rintro _ w' ⟨b, rfl, hF⟩
        exact ⟨hF.2.2, ⟨b, rfl, Nat.le_trans hC.size hF.1, hF.2.1⟩, isfr rfl hF.1 (blk_lt hF.2.1)⟩
      refine ⟨fun wu4 hC hd => ?_, ?_⟩
      · obtain ⟨h3, _⟩ := hd
        skip
        obtain ⟨b3, h3, hle3, hk3⟩ := h3
        replace hb := hb.trans (hC.mono hb.size)
        replace hk1 := blk_ext hk1 hC
        exact Runs.does (r_rowstr (congrArg some h3) Try.underlying47 Try.underlying5 Try.underlying9 (Row.of_new (k := 1) (V := vInt .u8) (l := [ys.1]) hk3 (Nat.le_refl _) rfl rfl (Nat.le_of_ble_eq_true rfl))) ⟨Below.refl _ _, rfl, nofr rfl⟩
      refine ⟨fun wu5 hC hd => ?_, ?_⟩
      · clear hd
        replace hb := hb.trans (hC.mono hb.size)
        replace hk1 := blk_ext hk1 hC
        exact Runs.does (r_move rfl) ⟨Below.refl _ _, rfl, nofr rfl⟩
      refine ⟨fun wu6 hC hd => ?_, ?_⟩
      · obtain ⟨h5, _⟩ := hd
        skip
        replace h5 : V 5 = (.string ys.2.2.1) := h5
        replace hb := hb.trans (hC.mono hb.size)
        replace hk1 := blk_ext hk1 hC
        exact Runs.does (r_lens (congrArg some h5) Try.underlying9) ⟨Below.refl _ _, rfl, nofr rfl⟩
      refine ⟨fun wu7 hC hd => ?_, ?_⟩
      · obtain ⟨h6, _⟩ := hd
        skip
        replace h6 : V 6 = (.int .i64 ((ys.2.2.1.size : Nat) : Int)) := h6
        replace hb := hb.trans (hC.mono hb.size)
        replace hk1 := blk_ext hk1 hC
        refine Does.mono (d_callB (vs := [(.int .i64 ((ys.2.2.1.size : Nat) : Int))]) (show [some (V 6)] = [some (.int .i64 ((ys.2.2.1.size : Nat) : Int))] from by rw [h6]) Try.func111 (by kernel_rfl) (by kernel_rfl) (by rw [hNN]; exact count_any ys.2.2.1.size _ (by omega))) (fun _ _ h => ⟨h.2, h.1, nofr rfl⟩)
      refine ⟨fun wu8 hC hd => ?_, ?_⟩
      · obtain ⟨h4, h7, _⟩ := hd
        skip
        skip
        replace h4 : V 4 = (.string (strOfNums [ys.1])) := h4
        replace h7 : V 7 = (.string (cntS NN)) := h7
        replace hb := hb.trans (hC.mono hb.size)
        replace hk1 := blk_ext hk1 hC
        exact Runs.does (r_sadd (congrArg some h4) (congrArg some h7) (by have := strOfNums_size [ys.1]; (try simp only [List.length_cons, List.length_nil, List.length_append] at this); omega)) ⟨Below.refl _ _, rfl, nofr rfl⟩
      refine ⟨fun wu9 hC hd => ?_, ?_⟩
      · clear hd
        replace hb := hb.trans (hC.mono hb.size)
        replace hk1 := blk_ext hk1 hC
        exact Runs.does (r_move rfl) ⟨Below.refl _ _, rfl, nofr rfl⟩
      refine ⟨fun wu10 hC hd => ?_, ?_⟩
      · obtain ⟨h8, h9, _⟩ := hd
        skip
        skip
        replace h8 : V 8 = (.string ((strOfNums [ys.1]) ++ (cntS NN))) := h8
        replace h9 : V 9 = (.string ys.2.2.1) := h9
        replace hb := hb.trans (hC.mono hb.size)
        replace hk1 := blk_ext hk1 hC
        exact Runs.does (r_sadd (congrArg some h8) (congrArg some h9) (by have := strOfNums_size [ys.1]; (try simp only [List.length_cons, List.length_nil, List.length_append] at this); have := sz_app (strOfNums [ys.1]) (cntS NN); omega)) ⟨Below.refl _ _, rfl, nofr rfl⟩
      trivial
    · skip
      clear hf fa; intro V w4 fa he4 hp hnb hf
      have hv0 : V 0 = (.pointer (some ⟨b1, 0, none⟩)) := postsHold_at hp 0 rfl
      have hv1 : V 1 = (.int .i64 ys.1) := postsHold_at hp 1 rfl
      have hv2 : V 2 = (.int .u8 ys.1) := postsHold_at hp 2 rfl
      have hv3 := postsHold_at hp 3 rfl
      obtain ⟨b3, hv3, hle3, hk3⟩ := hv3
      have hBb3 : w.heap.size ≤ b3 := Nat.le_trans hb.size hle3
      have hv4 : V 4 = (.string (strOfNums [ys.1])) := postsHold_at hp 4 rfl
      have hv5 : V 5 = (.string ys.2.2.1) := postsHold_at hp 5 rfl
      have hv6 : V 6 = (.int .i64 ((ys.2.2.1.size : Nat) : Int)) := postsHold_at hp 6 rfl
      have hv7 : V 7 = (.string (cntS NN)) := postsHold_at hp 7 rfl
      have hv8 : V 8 = (.string ((strOfNums [ys.1]) ++ (cntS NN))) := postsHold_at hp 8 rfl
      have hv9 : V 9 = (.string ys.2.2.1) := postsHold_at hp 9 rfl
      have hv10 : V 10 = (.string (((strOfNums [ys.1]) ++ (cntS NN)) ++ ys.2.2.1)) := postsHold_at hp 10 rfl
      simp only [List.take_succ_cons, List.take_zero, insAll, ins, hv0, hv1, hv2, hv3, hv4, hv5, hv6, hv7, hv8, hv9, hv10] at hf
      have : b1 < b3 := Nat.lt_of_lt_of_le (blk_lt hk1) hle3
      clear hp hnb hv0 hv1 hv2 hv3 hv4 hv5 hv6 hv7 hv8 hv9 hv10
      replace hk1 := blk_ext hk1 he4
      replace hb := hb.trans (Below.mono he4 hb.size)
      simp only [List.drop_succ_cons, List.drop_zero]
      refine sqv hf (r_assign rfl) rfl rfl rfl ?_; clear hf fa; intro fa hf
      apply wpList_nil
      (try simp only [Exit.then, Exit.inBlock, ↓reduceIte, Nat.reduceEqDiff])
      refine hK6 _ _ ?_
      refine wp_ret ?_
      (try simp only [Exit.then, Exit.inBlock])
      refine ret1 hf rfl rfl ?_
      refine ⟨?_, hb⟩
      unfold encR
      rw [hS, ← hNN]

set_option maxHeartbeats 1000000 in
set_option maxRecDepth 100000 in
theorem sjoin_any (l : List MSec) (a : Option Addr) (c : Nat) (w : World) (hl : RdS 4 vMSec w a l) (hc : l.length ≤ c) (hm : l.length ≤ 30) (hG : ∀ x ∈ l, SecG w x) (hs1 : ∀ x ∈ l, x.2.1.size ≤ 1000) (hs2 : ∀ x ∈ l, x.2.2.1.len ≤ 1000) : Calls Try.prog 85 #[(.slice a l.length c)] w fun e w' => ∃ v, e = .returned v ∧ ∃ a c, v = .slice a (joinL l).length c ∧ RdS 1 (vInt .u8) w' a (joinL l) ∧ (joinL l).length ≤ c ∧ c ≤ maxLen ∧ (a = none → c = 0) ∧ Below w.heap.size w w' := by
  have hE : ∀ x ∈ l, 2 ≤ (encS x).length ∧ (encS x).length ≤ 2100 := fun x hx => by
    have h := encX_len x.1 x.2.1 x.2.2.1.list (by have := hs1 x hx; omega) (by rw [Sl.list_length]; have := hs2 x hx; omega)
    rw [Sl.list_length] at h
    have h1 := hs1 x hx
    have h2 := hs2 x hx
    unfold encS
    omega
  refine sx_enter (L := [(0, (.slice a l.length c))]) Try.func85 rfl rfl rfl rfl (fun fa hf => ?_)
  have hb : Below w.heap.size w w := Below.refl _ _
  refine wp_seq_k (fun K1 hK1 => ?_)
  refine wp_region_lit ?_
  refine sqv hf (r_assign rfl) rfl rfl rfl ?_; clear hf fa; intro fa hf
  apply wpList_nil
  (try simp only [Exit.then, Exit.inBlock, ↓reduceIte, Nat.reduceEqDiff])
  refine hK1 _ _ ?_
  refine wp_seq_k (fun K2 hK2 => ?_)
  refine wp_region_lit ?_
  refine sqdt hf (d_bslice (z := (.int .u8 (0 : Int))) (sz := 1) (vs := [(0, (.int .u8 (0 : Int))), (1, (.int .u8 (97 : Int))), (2, (.int .u8 (115 : Int))), (3, (.int .u8 (109 : Int))), (4, (.int .u8 (1 : Int))), (5, (.int .u8 (0 : Int))), (6, (.int .u8 (0 : Int))), (7, (.int .u8 (0 : Int)))]) (cs := #[(.int .u8 (0 : Int)), (.int .u8 (97 : Int)), (.int .u8 (115 : Int)), (.int .u8 (109 : Int)), (.int .u8 (1 : Int)), (.int .u8 (0 : Int)), (.int .u8 (0 : Int)), (.int .u8 (0 : Int))]) rfl Try.underlying47 (by kernel_rfl) rfl (by kernel_rfl)) rfl rfl rfl ?_; clear hf fa; rintro fa _ w1 ⟨b1, rfl, hle1, hk1, he1⟩ hf
  have hBb1 : w.heap.size ≤ b1 := Nat.le_trans hb.size hle1
  replace hb := hb.trans (Below.mono he1 hb.size)
  refine sqdt hf (d_conststr rfl Try.underlying47 Try.underlying5 hk1) rfl rfl rfl ?_; clear hf fa; rintro fa _ w2 ⟨rfl, hk2, hg1⟩ hf
  replace hb := hb.trans (grown_below hg1 hb.size hBb1)
  have hrs1 : RdS 1 (vInt .u8) w2 (some ⟨b1, 0, none⟩) headL := rds_const hk2 rfl
  refine sqv hf (r_assign rfl) rfl rfl rfl ?_; clear hf fa; intro fa hf
  apply wpList_nil
  (try simp only [Exit.then, Exit.inBlock, ↓reduceIte, Nat.reduceEqDiff])
  refine hK2 _ _ ?_
  refine wp_seq_k (fun K3 hK3 => ?_)
  refine wp_seq_k (fun K4 hK4 => ?_)
  refine wp_region_lit ?_
  refine sqv hf (r_move rfl) rfl rfl rfl ?_; clear hf fa; intro fa hf
  refine sqv hf (r_lensl rfl Try.underlying116) rfl rfl rfl ?_; clear hf fa; intro fa hf
  refine sqv hf (r_move rfl) rfl rfl rfl ?_; clear hf fa; intro fa hf
  apply wpList_nil
  (try simp only [Exit.then, Exit.inBlock, ↓reduceIte, Nat.reduceEqDiff])
  refine hK4 _ _ ?_
  refine wp_block ?_
  refine wp_loop_k (fun mq fa wr => ∃ (k : Nat) (oa : Option Addr) (oc : Nat), mq = l.length - k ∧ Fr 20 fa [(3, (.slice oa ((((l.take k).foldl (fun a x => a ++ encS x) headL).length)) oc)), (8, (.slice a l.length c)), (9, (.int .i64 ((l.length : Nat) : Int))), (10, (.int .i64 ((k : Nat) : Int)))] ∧ Below w.heap.size w wr ∧ (k ≤ l.length) ∧ (k = 0 → RdS 1 (vInt .u8) wr oa headL ∧ oc = 8 ∧ ∃ b, oa = some ⟨b, 0, none⟩) ∧ (k ≠ 0 → Row 1 (vInt .u8) 5 w.heap.size wr (.slice oa (((l.take k).foldl (fun a x => a ++ encS x) headL).length) oc) ((l.take k).foldl (fun a x => a ++ encS x) headL))) ?_ ?_
  · skip
    exact ⟨_, 0, (some ⟨b1, 0, none⟩), 8, rfl, hf.sub ⟨(some_sl (by first | omega | rfl | (simp only [List.length_append, List.length_cons, List.length_nil]; omega) | (simp <;> omega)) rfl), rfl, rfl, (some_int (by first | rfl | omega)), trivial⟩, hb, by omega, (fun _ => ⟨hrs1, rfl, _, rfl⟩), (fun h => absurd rfl h)⟩
  · skip
    clear hf fa; intro mq1 fa w3 hI KL1 hKL1
    clear hb
    obtain ⟨k, oa, oc, hmq1, hf, hb, hk, hO1, hO2⟩ := hI
    have hU := Below.refl w3.heap.size w3
    have h8 : headL.length = 8 := rfl
    have hol : ((l.take k).foldl (fun a x => a ++ encS x) headL).length ≤ 100000 := by
      have h := foldl_len encS 2100 (l.take k) (fun x hx => (hE x (List.mem_of_mem_take hx)).2) headL
      rw [List.length_take] at h
      have h3 : min k l.length * 2100 ≤ 30 * 2100 := Nat.mul_le_mul_right _ (by omega)
      omega
    refine wp_seq_k (fun K5 hK5 => ?_)
    refine wp_region_lit ?_
    refine sqv hf (r_lt rfl rfl) rfl rfl rfl ?_; clear hf fa; intro fa hf
    apply wpList_nil
    (try simp only [Exit.then, Exit.inBlock, ↓reduceIte, Nat.reduceEqDiff])
    refine hK5 _ _ ?_
    refine wp_seq_k (fun K6 hK6 => ?_)
    refine wp_cond_split (t := (decide (((k : Nat) : Int) < ((l.length : Nat) : Int)))) (hf.ev rfl) (fun hqt11_1 => ?_) (fun hqt11_1 => ?_)
    · have hqt11_1b := hqt11_1
      try simp only [decide_eq_true_eq, Bool.and_eq_true, Bool.or_eq_true, Bool.not_eq_true', decide_eq_false_iff_not, ne_eq, Bool.not_eq_true] at hqt11_1
      refine wp_skip ?_
      (try simp only [Exit.then, Exit.inBlock, ↓reduceIte, Nat.reduceEqDiff])
      refine hK6 _ _ ?_
      refine wp_seq_k (fun K7 hK7 => ?_)
      refine wp_block ?_
      refine wp_seq_k (fun K8 hK8 => ?_)
      obtain ⟨y, hy⟩ : ∃ y, l[k]? = some y := ⟨_, List.getElem?_eq_getElem (by omega)⟩
      have hym := List.mem_of_getElem? hy
      have hey := hE y hym
      refine wp_region_lit ?_
      have hy1 : (l)[k]? = some y := hy
      obtain ⟨ab1, aoff1, hat1, hlb1, hel1⟩ := RdS.at hl hy1
      refine sqv hf (r_ixa (sz := 4) (j := k) (evAt rfl hat1) rfl Try.underlying116 (by kernel_rfl) rfl (by omega) rfl) rfl rfl rfl ?_; clear hf fa; intro fa hf
      refine sqv hf (r_loadA (cs := [(.int .u8 y.1), (.string y.2.1), (.slice y.2.2.1.at' y.2.2.1.len y.2.2.1.cap), (.int .i64 y.2.2.2.1)]) rfl Try.underlying119 rfl (by kernel_rfl) (cellsAt_below hel1 hb hlb1)) rfl rfl rfl ?_; clear hf fa; intro fa hf
      refine sqdt hf (d_alloc (z := (.agg #[(.int .u8 (0 : Int)), (.string ⟨#[]⟩), (.slice none 0 0), (.int .i64 (0 : Int))])) (cs := #[(.int .u8 (0 : Int)), (.string ⟨#[]⟩), (.slice none 0 0), (.int .i64 (0 : Int))]) (by kernel_rfl) rfl) rfl rfl rfl ?_; clear hf fa; rintro fa _ w4 ⟨b2, rfl, hle2, hk3, he2⟩ hf
      have hBb2 : w.heap.size ≤ b2 := Nat.le_trans hb.size hle2
      have hUhUb2 := Nat.le_trans hU.size hle2
      replace hU := hU.trans (Below.mono he2 hU.size)
      replace hb := hb.trans (Below.mono he2 hb.size)
      refine sqn hf (d_storeK (T := 119) (v := (.agg #[(.int .u8 y.1), (.string y.2.1), (.slice y.2.2.1.at' y.2.2.1.len y.2.2.1.cap), (.int .i64 y.2.2.2.1)])) (cs := #[(.int .u8 (0 : Int)), (.string ⟨#[]⟩), (.slice none 0 0), (.int .i64 (0 : Int))]) (cs' := #[(.int .u8 y.1), (.string y.2.1), (.slice y.2.2.1.at' y.2.2.1.len y.2.2.1.cap), (.int .i64 y.2.2.2.1)]) rfl rfl (by kernel_rfl) (by kernel_rfl) hk3 (by kernel_rfl) (by kernel_rfl)) rfl rfl ?_; clear hf fa; rintro fa _ w5 ⟨hk4, hg2⟩ hf
      replace hU := hU.trans (grown_below hg2 hU.size (by omega))
      replace hb := hb.trans (grown_below hg2 hb.size hBb2)
      apply wpList_nil
      (try simp only [Exit.then, Exit.inBlock, ↓reduceIte, Nat.reduceEqDiff])
      refine hK8 _ _ ?_
      by_cases hsp1 : k = 0
      · have hsp1b : decide (k = 0) = true := decide_eq_true hsp1
        refine wp_region_lit ?_
        refine sqv hf (r_move rfl) rfl rfl rfl ?_; clear hf fa; intro fa hf
        refine sqv hf (r_loadA (cs := [(.int .u8 y.1), (.string y.2.1), (.slice y.2.2.1.at' y.2.2.1.len y.2.2.1.cap), (.int .i64 y.2.2.2.1)]) rfl Try.underlying119 rfl (by kernel_rfl) (cellsAt_blk hk4)) rfl rfl rfl ?_; clear hf fa; intro fa hf
        refine sqdt hf (d_callX (vs := [(.agg #[(.int .u8 y.1), (.string y.2.1), (.slice y.2.2.1.at' y.2.2.1.len y.2.2.1.cap), (.int .i64 y.2.2.2.1)])]) rfl Try.func82 (by kernel_rfl) (by kernel_rfl) (sput_any y _ ((hG y hym).ext hb) (hs1 y hym) (hs2 y hym))) rfl rfl rfl ?_; clear hf fa; rintro fa v w6 ⟨hr1, he3⟩ hf; obtain ⟨ra1, rc1, rfl, hcrc1, hmrc1⟩ := Row.slice hr1
        replace hr1 := Row.rebase hr1 hb.size
        replace hk4 := blk_ext hk4 he3
        replace hU := hU.trans (Below.mono he3 hU.size)
        replace hb := hb.trans (Below.mono he3 hb.size)
        obtain ⟨rb1, rfl, _, _⟩ := Row.some hr1 (by omega)
        obtain ⟨hq1, rfl, b0, rfl⟩ := hO1 hsp1
        have h8k : ((l.take k).foldl (fun a x => a ++ encS x) headL).length = 8 := by rw [hsp1]; rfl
        refine sqdt hf (d_appendFull (V := vInt .u8) (k := 1) (e := 5) (bytes := 1) (n := 8) (olds := headL) (news := encS y) (z := .int .u8 0) (by intros; rfl) (by intro x u hu; simp only [vInt, List.mem_singleton] at hu; subst hu; rfl) (Eq.trans rfl (some_sl h8k rfl)) rfl Try.underlying47 (by kernel_rfl) rfl rfl rfl (RdS.ext hq1 hU) rfl (fun h => by cases h) (fun A hA => ⟨_, _, (Option.some.inj hA).symm⟩) (Row.rd (by intros; rfl) hr1) rfl (by omega) (by omega)) rfl rfl rfl ?_; clear hf fa; rintro fa _ w7 ⟨⟨bN1, ⟨cN1, rfl⟩, hle3, hr2⟩, he4⟩ hf
        replace hr2 := Row.rebase hr2 hb.size
        replace hk4 := blk_ext hk4 he4
        replace hr1 := Row.ext hr1 he4
        replace hb := hb.trans (Below.mono he4 hb.size)
        refine sqv hf (r_assign rfl) rfl rfl rfl ?_; clear hf fa; intro fa hf
        apply wpList_nil
        (try simp only [Exit.then, Exit.inBlock, ↓reduceIte, Nat.reduceEqDiff])
        refine hK7 _ _ ?_
        refine wp_region_lit ?_
        refine sqv hf (r_add (C := (((k : Nat) : Int) + (1 : Int))) rfl rfl (by rw [IntKind.wrap_i64]; omega)) rfl rfl rfl ?_; clear hf fa; intro fa hf
        refine sqv hf (r_move rfl) rfl rfl rfl ?_; clear hf fa; intro fa hf
        apply wpList_nil
        (try simp only [Exit.then, Exit.inBlock, ↓reduceIte, Nat.reduceEqDiff])
        have hsn := (foldl_take encS l headL hy).symm
        have hsl0 := congrArg List.length hsn
        have hsl := congrArg List.length hsn
        rw [List.length_append] at hsl
        have hsn2 : (headL ++ encS y) = ((l.take (k + 1)).foldl (fun a x => a ++ encS x) headL) := by rw [← hsn, hsp1]; rfl
        have hsl2 := congrArg List.length hsn2
        refine hKL1 _ _ _ (by omega) ⟨(k + 1), (some ⟨bN1, 0, none⟩), cN1, rfl, hf.sub ⟨(some_sl (by first | omega | rfl | (simp only [List.length_append, List.length_cons, List.length_nil]; omega) | (simp <;> omega)) rfl), rfl, rfl, (some_int (by first | rfl | omega)), trivial⟩, hb, by omega, (fun h => absurd h (Nat.succ_ne_zero _)), (fun _ => rowToT hr2 hsn2)⟩
      · have hsp1b : decide (k = 0) = false := decide_eq_false hsp1
        refine wp_region_lit ?_
        refine sqv hf (r_move rfl) rfl rfl rfl ?_; clear hf fa; intro fa hf
        refine sqv hf (r_loadA (cs := [(.int .u8 y.1), (.string y.2.1), (.slice y.2.2.1.at' y.2.2.1.len y.2.2.1.cap), (.int .i64 y.2.2.2.1)]) rfl Try.underlying119 rfl (by kernel_rfl) (cellsAt_blk hk4)) rfl rfl rfl ?_; clear hf fa; intro fa hf
        refine sqdt hf (d_callX (vs := [(.agg #[(.int .u8 y.1), (.string y.2.1), (.slice y.2.2.1.at' y.2.2.1.len y.2.2.1.cap), (.int .i64 y.2.2.2.1)])]) rfl Try.func82 (by kernel_rfl) (by kernel_rfl) (sput_any y _ ((hG y hym).ext hb) (hs1 y hym) (hs2 y hym))) rfl rfl rfl ?_; clear hf fa; rintro fa v w8 ⟨hr3, he5⟩ hf; obtain ⟨ra2, rc2, rfl, hcrc2, hmrc2⟩ := Row.slice hr3
        replace hr3 := Row.rebase hr3 hb.size
        replace hk4 := blk_ext hk4 he5
        replace hU := hU.trans (Below.mono he5 hU.size)
        replace hb := hb.trans (Below.mono he5 hb.size)
        have hro := Row.ext (hO2 hsp1) hU
        refine sqdt hf (d_append (V := (vInt .u8)) (k := 1) (e := 5) (bytes := 1) (z := (.int .u8 (0 : Int))) (news := (encS y)) (base := w.heap.size) (by intros; rfl) (by intro x u hu; simp only [vInt, List.mem_singleton] at hu; subst hu; rfl) rfl rfl Try.underlying47 (by kernel_rfl) rfl rfl rfl hro (Row.rd (by intros; rfl) hr3) rfl (fun h => Row.nocap hr3 h) (by first | omega | (simp only [List.length_cons, List.length_nil, List.length_append, nums_len]; omega)) (by have := hb.size; omega)) rfl rfl rfl ?_; clear hf fa; rintro fa v w9 ⟨hr4, hg3⟩ hf; obtain ⟨ra3, rc3, rfl, hcrc3, hmrc3⟩ := Row.slice hr4
        replace hk4 := blk_row' hk4 hg3 (Row.ne_type hro hk4 rfl)
        replace hb := hb.trans (row_below hro hg3 hb.size (by have := hb.size; omega))
        refine sqv hf (r_assign rfl) rfl rfl rfl ?_; clear hf fa; intro fa hf
        apply wpList_nil
        (try simp only [Exit.then, Exit.inBlock, ↓reduceIte, Nat.reduceEqDiff])
        refine hK7 _ _ ?_
        refine wp_region_lit ?_
        refine sqv hf (r_add (C := (((k : Nat) : Int) + (1 : Int))) rfl rfl (by rw [IntKind.wrap_i64]; omega)) rfl rfl rfl ?_; clear hf fa; intro fa hf
        refine sqv hf (r_move rfl) rfl rfl rfl ?_; clear hf fa; intro fa hf
        apply wpList_nil
        (try simp only [Exit.then, Exit.inBlock, ↓reduceIte, Nat.reduceEqDiff])
        have hsn := (foldl_take encS l headL hy).symm
        have hsl0 := congrArg List.length hsn
        have hsl := congrArg List.length hsn
        rw [List.length_append] at hsl
        refine hKL1 _ _ _ (by omega) ⟨(k + 1), ra3, rc3, rfl, hf.sub ⟨(some_sl (by first | omega | rfl | (simp only [List.length_append, List.length_cons, List.length_nil]; omega) | (simp <;> omega)) rfl), rfl, rfl, (some_int (by first | rfl | omega)), trivial⟩, hb, by omega, (fun h => absurd h (Nat.succ_ne_zero _)), (fun _ => rowToT hr4 hsn)⟩
    · have hqt11_1b := hqt11_1
      replace hqt11_1 := Bool.eq_false_iff.1 hqt11_1
      try simp only [ne_eq, decide_eq_true_eq, Bool.and_eq_true, Bool.or_eq_true, Bool.not_eq_true', decide_eq_false_iff_not] at hqt11_1
      refine wp_exit ?_
      (try simp only [Exit.then, Exit.inBlock, ↓reduceIte, Nat.reduceEqDiff])
      refine hK3 _ _ ?_
      refine wp_seq_k (fun K9 hK9 => ?_)
      refine wp_region_lit ?_
      refine sqv hf (r_move rfl) rfl rfl rfl ?_; clear hf fa; intro fa hf
      refine sqv hf (r_assign rfl) rfl rfl rfl ?_; clear hf fa; intro fa hf
      apply wpList_nil
      (try simp only [Exit.then, Exit.inBlock, ↓reduceIte, Nat.reduceEqDiff])
      refine hK9 _ _ ?_
      refine wp_ret ?_
      (try simp only [Exit.then, Exit.inBlock])
      refine ret1 hf rfl rfl ?_
      have hkl : k = l.length := by omega
      have hj : ((l.take k).foldl (fun a x => a ++ encS x) headL) = joinL l := by unfold joinL; rw [List.take_of_length_le (by omega)]
      by_cases h0 : k = 0
      · obtain ⟨q1, q2, b0, q3⟩ := hO1 h0
        have e : joinL l = headL := by rw [← hj, h0]; rfl
        refine ⟨_, rfl, oa, oc, by rw [hj], ?_, ?_, ?_, ?_, hb⟩
        · rw [e]; exact q1
        · rw [e, q2]; exact Nat.le_refl 8
        · rw [q2]; unfold maxLen; omega
        · rw [q3]; intro h; cases h
      · have hr := hO2 h0
        have hc := Row.caps hr
        rw [hj] at hr hc
        exact ⟨_, rfl, oa, oc, by rw [hj], Row.rd (by intros; rfl) hr, hc.2.1, hc.2.2, Row.nocap hr, hb⟩

set_option maxHeartbeats 1000000 in
set_option maxRecDepth 100000 in
theorem rshead_any (w : World) : Calls Try.prog 130 #[] w fun e w' => e = .returned (.string (⟨#[0, 97, 115, 109, 1, 0, 0, 0]⟩ : ByteArray)) ∧ Below w.heap.size w w' := by
  refine sx_enter (L := []) Try.func130 rfl rfl rfl rfl (fun fa hf => ?_)
  have hb : Below w.heap.size w w := Below.refl _ _
  refine wp_seq_k (fun K1 hK1 => ?_)
  refine wp_region_lit ?_
  refine sqv hf (r_assign rfl) rfl rfl rfl ?_; clear hf fa; intro fa hf
  apply wpList_nil
  (try simp only [Exit.then, Exit.inBlock, ↓reduceIte, Nat.reduceEqDiff])
  refine hK1 _ _ ?_
  refine wp_seq_k (fun K2 hK2 => ?_)
  refine wp_region_lit ?_
  refine sqv hf (r_assign rfl) rfl rfl rfl ?_; clear hf fa; intro fa hf
  apply wpList_nil
  (try simp only [Exit.then, Exit.inBlock, ↓reduceIte, Nat.reduceEqDiff])
  refine hK2 _ _ ?_
  refine wp_ret ?_
  (try simp only [Exit.then, Exit.inBlock])
  refine ret1 hf rfl rfl ?_
  exact ⟨rfl, hb⟩

set_option maxHeartbeats 1000000 in
set_option maxRecDepth 100000 in
theorem rsjoin_any (l : List MSr) (a : Option Addr) (c : Nat) (w : World) (hl : RdS 4 vMSr w a l) (hc : l.length ≤ c) (hm : l.length ≤ 30) (hi : ∀ x ∈ l, 0 ≤ x.1 ∧ x.1 < 256) (hs1 : ∀ x ∈ l, x.2.1.size ≤ 1000) (hs2 : ∀ x ∈ l, x.2.2.1.size ≤ 1000) : Calls Try.prog 87 #[(.slice a l.length c)] w fun e w' => e = .returned (.string (joinR l)) ∧ Below w.heap.size w w' := by
  have hE : ∀ x ∈ l, (encR x).size ≤ 2100 := fun x hx => by
    have h := encR_len x (by have := hs1 x hx; omega) (by have := hs2 x hx; omega)
    have h1 := hs1 x hx
    have h2 := hs2 x hx
    omega
  refine sx_enter (L := [(0, (.slice a l.length c))]) Try.func87 rfl rfl rfl rfl (fun fa hf => ?_)
  have hb : Below w.heap.size w w := Below.refl _ _
  refine wp_seq_k (fun K1 hK1 => ?_)
  refine wp_region_lit ?_
  refine sqv hf (r_assign rfl) rfl rfl rfl ?_; clear hf fa; intro fa hf
  apply wpList_nil
  (try simp only [Exit.then, Exit.inBlock, ↓reduceIte, Nat.reduceEqDiff])
  refine hK1 _ _ ?_
  refine wp_seq_k (fun K2 hK2 => ?_)
  refine wp_region_lit ?_
  refine sqdt hf (d_callB (vs := []) rfl Try.func130 (by kernel_rfl) (by kernel_rfl) (rshead_any _)) rfl rfl rfl ?_; clear hf fa; rintro fa _ w1 ⟨rfl, he1⟩ hf
  replace hb := hb.trans (Below.mono he1 hb.size)
  refine sqv hf (r_assign rfl) rfl rfl rfl ?_; clear hf fa; intro fa hf
  apply wpList_nil
  (try simp only [Exit.then, Exit.inBlock, ↓reduceIte, Nat.reduceEqDiff])
  refine hK2 _ _ ?_
  refine wp_seq_k (fun K3 hK3 => ?_)
  refine wp_seq_k (fun K4 hK4 => ?_)
  refine wp_region_lit ?_
  refine sqv hf (r_assign rfl) rfl rfl rfl ?_; clear hf fa; intro fa hf
  apply wpList_nil
  (try simp only [Exit.then, Exit.inBlock, ↓reduceIte, Nat.reduceEqDiff])
  refine hK4 _ _ ?_
  refine wp_block ?_
  refine wp_loop_k (fun mq fa wr => ∃ (k : Nat), mq = l.length - k ∧ Fr 20 fa [(0, (.slice a l.length c)), (3, (.string ((l.take k).foldl (fun a y => a ++ encR y) (⟨#[0, 97, 115, 109, 1, 0, 0, 0]⟩ : ByteArray)))), (4, (.int .i64 ((k : Nat) : Int)))] ∧ Below w.heap.size w wr ∧ (k ≤ l.length)) ?_ ?_
  · skip
    exact ⟨_, 0, rfl, hf.sub ⟨rfl, (some_str (by first | rfl | exact hsn.symm)), (some_int (by first | rfl | omega)), trivial⟩, hb, by omega⟩
  · skip
    clear hf fa; intro mq1 fa w2 hI KL1 hKL1
    clear hb
    obtain ⟨k, hmq1, hf, hb, hk⟩ := hI
    have hol : ((l.take k).foldl (fun a y => a ++ encR y) (⟨#[0, 97, 115, 109, 1, 0, 0, 0]⟩ : ByteArray)).size ≤ 100000 := by
      have h := foldl_lenR 2100 (l.take k) (fun x hx => hE x (List.mem_of_mem_take hx)) (⟨#[0, 97, 115, 109, 1, 0, 0, 0]⟩ : ByteArray)
      rw [List.length_take] at h
      have h3 : min k l.length * 2100 ≤ 30 * 2100 := Nat.mul_le_mul_right _ (by omega)
      have h4 : (⟨#[0, 97, 115, 109, 1, 0, 0, 0]⟩ : ByteArray).size = 8 := rfl
      omega
    refine wp_seq_k (fun K5 hK5 => ?_)
    refine wp_seq_k (fun K6 hK6 => ?_)
    refine wp_region_lit ?_
    refine sqv hf (r_move rfl) rfl rfl rfl ?_; clear hf fa; intro fa hf
    refine sqv hf (r_move rfl) rfl rfl rfl ?_; clear hf fa; intro fa hf
    refine sqv hf (r_lensl rfl Try.underlying117) rfl rfl rfl ?_; clear hf fa; intro fa hf
    refine sqv hf (r_lt rfl rfl) rfl rfl rfl ?_; clear hf fa; intro fa hf
    apply wpList_nil
    (try simp only [Exit.then, Exit.inBlock, ↓reduceIte, Nat.reduceEqDiff])
    refine hK6 _ _ ?_
    refine wp_cond_split (t := (decide (((k : Nat) : Int) < ((l.length : Nat) : Int)))) (hf.ev rfl) (fun hqt9_1 => ?_) (fun hqt9_1 => ?_)
    · have hqt9_1b := hqt9_1
      try simp only [decide_eq_true_eq, Bool.and_eq_true, Bool.or_eq_true, Bool.not_eq_true', decide_eq_false_iff_not, ne_eq, Bool.not_eq_true] at hqt9_1
      refine wp_skip ?_
      (try simp only [Exit.then, Exit.inBlock, ↓reduceIte, Nat.reduceEqDiff])
      refine hK5 _ _ ?_
      refine wp_seq_k (fun K7 hK7 => ?_)
      refine wp_block ?_
      obtain ⟨y, hy⟩ : ∃ y, l[k]? = some y := ⟨_, List.getElem?_eq_getElem (by omega)⟩
      have hym := List.mem_of_getElem? hy
      have hey := hE y hym
      have hsn := foldl_takeR l (⟨#[0, 97, 115, 109, 1, 0, 0, 0]⟩ : ByteArray) hy
      refine wp_region_lit ?_
      refine sqv hf (r_move rfl) rfl rfl rfl ?_; clear hf fa; intro fa hf
      refine sqv hf (r_move rfl) rfl rfl rfl ?_; clear hf fa; intro fa hf
      refine sqv hf (r_move rfl) rfl rfl rfl ?_; clear hf fa; intro fa hf
      have hy1 : (l)[k]? = some y := hy
      obtain ⟨ab1, aoff1, hat1, hlb1, hel1⟩ := RdS.at hl hy1
      refine sqv hf (r_ixa (sz := 4) (j := k) (evAt rfl hat1) rfl Try.underlying117 (by kernel_rfl) rfl (by omega) rfl) rfl rfl rfl ?_; clear hf fa; intro fa hf
      refine sqv hf (r_loadA (cs := [(.int .i64 y.1), (.string y.2.1), (.string y.2.2.1), (.int .i64 y.2.2.2.1)]) rfl Try.underlying121 rfl (by kernel_rfl) (cellsAt_below hel1 hb hlb1)) rfl rfl rfl ?_; clear hf fa; intro fa hf
      refine sqdt hf (d_callB (vs := [(.agg #[(.int .i64 y.1), (.string y.2.1), (.string y.2.2.1), (.int .i64 y.2.2.2.1)])]) rfl Try.func83 (by kernel_rfl) (by kernel_rfl) (rsput_any y _ (hi y hym) (hs1 y hym) (hs2 y hym))) rfl rfl rfl ?_; clear hf fa; rintro fa _ w3 ⟨rfl, he2⟩ hf
      replace hb := hb.trans (Below.mono he2 hb.size)
      refine sqv hf (r_sadd rfl rfl (by omega)) rfl rfl rfl ?_; clear hf fa; intro fa hf
      refine sqv hf (r_assign rfl) rfl rfl rfl ?_; clear hf fa; intro fa hf
      apply wpList_nil
      (try simp only [Exit.then, Exit.inBlock, ↓reduceIte, Nat.reduceEqDiff])
      refine hK7 _ _ ?_
      refine wp_region_lit ?_
      refine sqv hf (r_move rfl) rfl rfl rfl ?_; clear hf fa; intro fa hf
      refine sqv hf (r_add (C := (((k : Nat) : Int) + (1 : Int))) rfl rfl (by rw [IntKind.wrap_i64]; omega)) rfl rfl rfl ?_; clear hf fa; intro fa hf
      refine sqv hf (r_assign rfl) rfl rfl rfl ?_; clear hf fa; intro fa hf
      apply wpList_nil
      (try simp only [Exit.then, Exit.inBlock, ↓reduceIte, Nat.reduceEqDiff])
      refine hKL1 _ _ _ (by omega) ⟨(k + 1), rfl, hf.sub ⟨rfl, (some_str (by first | rfl | exact hsn.symm)), (some_int (by first | rfl | omega)), trivial⟩, hb, by omega⟩
    · have hqt9_1b := hqt9_1
      replace hqt9_1 := Bool.eq_false_iff.1 hqt9_1
      try simp only [ne_eq, decide_eq_true_eq, Bool.and_eq_true, Bool.or_eq_true, Bool.not_eq_true', decide_eq_false_iff_not] at hqt9_1
      refine wp_exit ?_
      (try simp only [Exit.then, Exit.inBlock, ↓reduceIte, Nat.reduceEqDiff])
      refine hK3 _ _ ?_
      refine wp_seq_k (fun K8 hK8 => ?_)
      refine wp_region_lit ?_
      refine sqv hf (r_move rfl) rfl rfl rfl ?_; clear hf fa; intro fa hf
      refine sqv hf (r_assign rfl) rfl rfl rfl ?_; clear hf fa; intro fa hf
      apply wpList_nil
      (try simp only [Exit.then, Exit.inBlock, ↓reduceIte, Nat.reduceEqDiff])
      refine hK8 _ _ ?_
      refine wp_ret ?_
      (try simp only [Exit.then, Exit.inBlock])
      refine ret1 hf rfl rfl ?_
      refine ⟨?_, hb⟩; unfold joinR; rw [List.take_of_length_le (by omega)]

set_option maxHeartbeats 1000000 in
set_option maxRecDepth 100000 in
theorem sfind_any (l : List MSec) (a : Option Addr) (c : Nat) (w : World) (hl : RdS 4 vMSec w a l) (hc : l.length ≤ c) (hm : l.length ≤ 30) (id : Int) (nm : ByteArray) : Calls Try.prog 86 #[(.slice a l.length c), (.int .u8 id), (.string nm)] w fun e w' => e = .returned (.tuple #[(.agg #[(.int .u8 ((fndV id nm l).1)), (.string (fndV id nm l).2.1), (.slice (fndV id nm l).2.2.1.at' ((fndV id nm l).2.2.1.len) (fndV id nm l).2.2.1.cap), (.int .i64 ((fndV id nm l).2.2.2.1))]), .bool (fndB id nm l)]) ∧ Below w.heap.size w w' := by
  refine sx_enter (L := [(0, (.slice a l.length c)), (1, (.int .u8 id)), (2, (.string nm))]) Try.func86 rfl rfl rfl rfl (fun fa hf => ?_)
  have hb : Below w.heap.size w w := Below.refl _ _
  refine wp_seq_k (fun K1 hK1 => ?_)
  refine wp_region_lit ?_
  refine sqdt hf (d_alloc (z := (.agg #[(.int .u8 (0 : Int)), (.string ⟨#[]⟩), (.slice none 0 0), (.int .i64 (0 : Int))])) (cs := #[(.int .u8 (0 : Int)), (.string ⟨#[]⟩), (.slice none 0 0), (.int .i64 (0 : Int))]) (by kernel_rfl) rfl) rfl rfl rfl ?_; clear hf fa; rintro fa _ w1 ⟨b1, rfl, hle1, hk1, he1⟩ hf
  have hBb1 : w.heap.size ≤ b1 := Nat.le_trans hb.size hle1
  replace hb := hb.trans (Below.mono he1 hb.size)
  refine sqv hf (r_assign rfl) rfl rfl rfl ?_; clear hf fa; intro fa hf
  apply wpList_nil
  (try simp only [Exit.then, Exit.inBlock, ↓reduceIte, Nat.reduceEqDiff])
  refine hK1 _ _ ?_
  refine wp_seq_k (fun K2 hK2 => ?_)
  refine wp_seq_k (fun K3 hK3 => ?_)
  refine wp_region_lit ?_
  refine sqv hf (r_move rfl) rfl rfl rfl ?_; clear hf fa; intro fa hf
  refine sqv hf (r_lensl rfl Try.underlying116) rfl rfl rfl ?_; clear hf fa; intro fa hf
  refine sqv hf (r_move rfl) rfl rfl rfl ?_; clear hf fa; intro fa hf
  apply wpList_nil
  (try simp only [Exit.then, Exit.inBlock, ↓reduceIte, Nat.reduceEqDiff])
  refine hK3 _ _ ?_
  refine wp_block ?_
  refine wp_loop_k (fun mq fa wr => ∃ (k : Nat), mq = l.length - k ∧ Fr 33 fa [(1, (.int .u8 id)), (2, (.string nm)), (6, (.pointer (some ⟨b1, 0, none⟩))), (10, (.slice a l.length c)), (11, (.int .i64 ((l.length : Nat) : Int))), (12, (.int .i64 ((k : Nat) : Int)))] ∧ Below w.heap.size w wr ∧ wr.heap[b1]? = some (.cells #[(.int .u8 (0 : Int)), (.string ⟨#[]⟩), (.slice none 0 0), (.int .i64 (0 : Int))] 119 (0, 0)) ∧ (k ≤ l.length) ∧ (l.find? (hitS id nm) = (l.drop k).find? (hitS id nm))) ?_ ?_
  · skip
    exact ⟨_, 0, rfl, hf.sub ⟨rfl, rfl, rfl, rfl, rfl, (some_int (by first | rfl | omega)), trivial⟩, hb, hk1, by omega, rfl⟩
  · skip
    clear hf fa; intro mq1 fa w2 hI KL1 hKL1
    clear hb
    clear hk1
    obtain ⟨k, hmq1, hf, hb, hkb1, hk, Hs⟩ := hI
    refine wp_seq_k (fun K4 hK4 => ?_)
    refine wp_region_lit ?_
    refine sqv hf (r_lt rfl rfl) rfl rfl rfl ?_; clear hf fa; intro fa hf
    apply wpList_nil
    (try simp only [Exit.then, Exit.inBlock, ↓reduceIte, Nat.reduceEqDiff])
    refine hK4 _ _ ?_
    refine wp_seq_k (fun K5 hK5 => ?_)
    refine wp_cond_split (t := (decide (((k : Nat) : Int) < ((l.length : Nat) : Int)))) (hf.ev rfl) (fun hqt13_1 => ?_) (fun hqt13_1 => ?_)
    · have hqt13_1b := hqt13_1
      try simp only [decide_eq_true_eq, Bool.and_eq_true, Bool.or_eq_true, Bool.not_eq_true', decide_eq_false_iff_not, ne_eq, Bool.not_eq_true] at hqt13_1
      refine wp_skip ?_
      (try simp only [Exit.then, Exit.inBlock, ↓reduceIte, Nat.reduceEqDiff])
      refine hK5 _ _ ?_
      refine wp_seq_k (fun K6 hK6 => ?_)
      refine wp_block ?_
      refine wp_seq_k (fun K7 hK7 => ?_)
      obtain ⟨y, hy⟩ : ∃ y, l[k]? = some y := ⟨_, List.getElem?_eq_getElem (by omega)⟩
      have hym := List.mem_of_getElem? hy
      refine wp_region_lit ?_
      have hy1 : (l)[k]? = some y := hy
      obtain ⟨ab1, aoff1, hat1, hlb1, hel1⟩ := RdS.at hl hy1
      refine sqv hf (r_ixa (sz := 4) (j := k) (evAt rfl hat1) rfl Try.underlying116 (by kernel_rfl) rfl (by omega) rfl) rfl rfl rfl ?_; clear hf fa; intro fa hf
      refine sqv hf (r_loadA (cs := [(.int .u8 y.1), (.string y.2.1), (.slice y.2.2.1.at' y.2.2.1.len y.2.2.1.cap), (.int .i64 y.2.2.2.1)]) rfl Try.underlying119 rfl (by kernel_rfl) (cellsAt_below hel1 hb hlb1)) rfl rfl rfl ?_; clear hf fa; intro fa hf
      refine sqdt hf (d_alloc (z := (.agg #[(.int .u8 (0 : Int)), (.string ⟨#[]⟩), (.slice none 0 0), (.int .i64 (0 : Int))])) (cs := #[(.int .u8 (0 : Int)), (.string ⟨#[]⟩), (.slice none 0 0), (.int .i64 (0 : Int))]) (by kernel_rfl) rfl) rfl rfl rfl ?_; clear hf fa; rintro fa _ w3 ⟨b2, rfl, hle2, hk2, he2⟩ hf
      have hBb2 : w.heap.size ≤ b2 := Nat.le_trans hb.size hle2
      have : b1 < b2 := Nat.lt_of_lt_of_le (blk_lt hkb1) hle2
      replace hkb1 := blk_ext hkb1 he2
      replace hb := hb.trans (Below.mono he2 hb.size)
      refine sqn hf (d_storeK (T := 119) (v := (.agg #[(.int .u8 y.1), (.string y.2.1), (.slice y.2.2.1.at' y.2.2.1.len y.2.2.1.cap), (.int .i64 y.2.2.2.1)])) (cs := #[(.int .u8 (0 : Int)), (.string ⟨#[]⟩), (.slice none 0 0), (.int .i64 (0 : Int))]) (cs' := #[(.int .u8 y.1), (.string y.2.1), (.slice y.2.2.1.at' y.2.2.1.len y.2.2.1.cap), (.int .i64 y.2.2.2.1)]) rfl rfl (by kernel_rfl) (by kernel_rfl) hk2 (by kernel_rfl) (by kernel_rfl)) rfl rfl ?_; clear hf fa; rintro fa _ w4 ⟨hk3, hg1⟩ hf
      replace hkb1 := blk_grown hkb1 hg1 (by omega)
      replace hb := hb.trans (grown_below hg1 hb.size hBb2)
      apply wpList_nil
      (try simp only [Exit.then, Exit.inBlock, ↓reduceIte, Nat.reduceEqDiff])
      refine hK7 _ _ ?_
      refine wp_seq_k (fun K8 hK8 => ?_)
      refine wp_region_lit ?_
      refine sqv hf (r_fa rfl Try.underlying119 (f := 0) (q := 0) rfl (by kernel_rfl) rfl) rfl rfl rfl ?_; clear hf fa; intro fa hf
      refine sqv hf (r_load (v := (.int .u8 y.1)) rfl Try.underlying5 rfl (cell_blk hk3 rfl)) rfl rfl rfl ?_; clear hf fa; intro fa hf
      refine sqv hf (r_move rfl) rfl rfl rfl ?_; clear hf fa; intro fa hf
      refine sqv hf (r_eq rfl rfl) rfl rfl rfl ?_; clear hf fa; intro fa hf
      refine sqv hf (r_move rfl) rfl rfl rfl ?_; clear hf fa; intro fa hf
      refine sqgT (act := (decide (y.1 = id))) (ag := true) (c := (decide (y.1 = id))) (v := (.int .u8 id)) hf rfl rfl rfl (fun hact => (r_move rfl)) rfl rfl ?_; clear hf fa; intro fa hf
      refine sqgT (act := (decide (y.1 = id))) (ag := true) (c := (decide (y.1 = id))) (v := (.bool (decide (id ≠ (0 : Int))))) hf rfl rfl rfl (fun hact => (r_ne (gb_ev hact rfl) rfl)) rfl rfl ?_; clear hf fa; intro fa hf
      refine sqgT (act := (decide (y.1 = id))) (ag := true) (c := (decide (y.1 = id))) (v := (.bool (decide (id ≠ (0 : Int))))) hf rfl rfl rfl (fun hact => (r_move (gb_ev hact rfl))) rfl rfl ?_; clear hf fa; intro fa hf
      refine sqgF (act := ((decide (y.1 = id)) && !(decide (id ≠ (0 : Int))))) (ag := (decide (y.1 = id))) (c := (decide (id ≠ (0 : Int)))) (v := (.pointer (some ⟨b2, 1, none⟩))) hf rfl rfl rfl (fun hact => (r_fa rfl Try.underlying119 (f := 1) (q := 1) rfl (by kernel_rfl) rfl)) rfl rfl ?_; clear hf fa; intro fa hf
      refine sqgF (act := ((decide (y.1 = id)) && !(decide (id ≠ (0 : Int))))) (ag := (decide (y.1 = id))) (c := (decide (id ≠ (0 : Int)))) (v := (.string y.2.1)) hf rfl rfl rfl (fun hact => (r_load (v := (.string y.2.1)) (gb_ev hact rfl) Try.underlying9 rfl (cell_blk hk3 rfl))) rfl rfl ?_; clear hf fa; intro fa hf
      refine sqgF (act := ((decide (y.1 = id)) && !(decide (id ≠ (0 : Int))))) (ag := (decide (y.1 = id))) (c := (decide (id ≠ (0 : Int)))) (v := (.string nm)) hf rfl rfl rfl (fun hact => (r_move rfl)) rfl rfl ?_; clear hf fa; intro fa hf
      refine sqgF (act := ((decide (y.1 = id)) && !(decide (id ≠ (0 : Int))))) (ag := (decide (y.1 = id))) (c := (decide (id ≠ (0 : Int)))) (v := (.bool (decide (y.2.1 = nm)))) hf rfl rfl rfl (fun hact => (r_seq (gb_ev hact rfl) (gb_ev hact rfl))) rfl rfl ?_; clear hf fa; intro fa hf
      refine sqgT (act := (decide (y.1 = id))) (ag := true) (c := (decide (y.1 = id))) (v := (.bool ((decide (id ≠ (0 : Int))) || (decide (y.2.1 = nm))))) hf rfl rfl rfl (fun hact => (r_pickO2 (q := (decide (y.1 = id))) (b := (decide (id ≠ (0 : Int)))) (e := (decide (y.2.1 = nm))) hact rfl rfl rfl)) rfl rfl ?_; clear hf fa; intro fa hf
      refine sqv hf (r_pickA (b := (decide (y.1 = id))) (e := ((decide (id ≠ (0 : Int))) || (decide (y.2.1 = nm)))) rfl rfl rfl) rfl rfl rfl ?_; clear hf fa; intro fa hf
      apply wpList_nil
      (try simp only [Exit.then, Exit.inBlock, ↓reduceIte, Nat.reduceEqDiff])
      refine hK8 _ _ ?_
      refine wp_cond_split (t := ((decide (y.1 = id)) && ((decide (id ≠ (0 : Int))) || (decide (y.2.1 = nm))))) (hf.ev rfl) (fun hqt29_1 => ?_) (fun hqt29_1 => ?_)
      · have hqt29_1b := hqt29_1
        try simp only [decide_eq_true_eq, Bool.and_eq_true, Bool.or_eq_true, Bool.not_eq_true', decide_eq_false_iff_not, ne_eq, Bool.not_eq_true] at hqt29_1
        refine wp_seq_k (fun K9 hK9 => ?_)
        refine wp_region_lit ?_
        refine sqv hf (r_loadA (cs := [(.int .u8 y.1), (.string y.2.1), (.slice y.2.2.1.at' y.2.2.1.len y.2.2.1.cap), (.int .i64 y.2.2.2.1)]) rfl Try.underlying119 rfl (by kernel_rfl) (cellsAt_blk hk3)) rfl rfl rfl ?_; clear hf fa; intro fa hf
        refine sqn hf (d_storeK (T := 119) (v := (.agg #[(.int .u8 y.1), (.string y.2.1), (.slice y.2.2.1.at' y.2.2.1.len y.2.2.1.cap), (.int .i64 y.2.2.2.1)])) (cs := #[(.int .u8 (0 : Int)), (.string ⟨#[]⟩), (.slice none 0 0), (.int .i64 (0 : Int))]) (cs' := #[(.int .u8 y.1), (.string y.2.1), (.slice y.2.2.1.at' y.2.2.1.len y.2.2.1.cap), (.int .i64 y.2.2.2.1)]) rfl rfl (by kernel_rfl) (by kernel_rfl) hkb1 (by kernel_rfl) (by kernel_rfl)) rfl rfl ?_; clear hf fa; rintro fa _ w5 ⟨hk4, hg2⟩ hf
        replace hk3 := blk_grown hk3 hg2 (by omega)
        replace hb := hb.trans (grown_below hg2 hb.size hBb1)
        refine sqv hf (r_assign rfl) rfl rfl rfl ?_; clear hf fa; intro fa hf
        apply wpList_nil
        (try simp only [Exit.then, Exit.inBlock, ↓reduceIte, Nat.reduceEqDiff])
        refine hK9 _ _ ?_
        refine wp_ret ?_
        (try simp only [Exit.then, Exit.inBlock])
        refine retCT hf rfl rfl hk4 Try.underlying119 rfl (by kernel_rfl) rfl ?_
        have hF : l.find? (hitS id nm) = some y := by rw [Hs]; exact find_dropT hy (by unfold hitS; have h := hqt29_1; revert h; by_cases h1 : y.1 = id <;> by_cases h2 : id = 0 <;> by_cases h3 : y.2.1 = nm <;> simp [h1, h2, h3])
        refine ⟨?_, hb⟩
        unfold fndV fndB
        rw [hF]; rfl
      · have hqt29_1b := hqt29_1
        replace hqt29_1 := Bool.eq_false_iff.1 hqt29_1
        try simp only [ne_eq, decide_eq_true_eq, Bool.and_eq_true, Bool.or_eq_true, Bool.not_eq_true', decide_eq_false_iff_not] at hqt29_1
        refine wp_skip ?_
        (try simp only [Exit.then, Exit.inBlock, ↓reduceIte, Nat.reduceEqDiff])
        refine hK6 _ _ ?_
        refine wp_region_lit ?_
        refine sqv hf (r_add (C := (((k : Nat) : Int) + (1 : Int))) rfl rfl (by rw [IntKind.wrap_i64]; omega)) rfl rfl rfl ?_; clear hf fa; intro fa hf
        refine sqv hf (r_move rfl) rfl rfl rfl ?_; clear hf fa; intro fa hf
        apply wpList_nil
        (try simp only [Exit.then, Exit.inBlock, ↓reduceIte, Nat.reduceEqDiff])
        refine hKL1 _ _ _ (by omega) ⟨(k + 1), rfl, hf.sub ⟨rfl, rfl, rfl, rfl, rfl, (some_int (by first | rfl | omega)), trivial⟩, hb, hkb1, by omega, (by rw [Hs, find_dropF hy (by unfold hitS; have h := hqt29_1; revert h; by_cases h1 : y.1 = id <;> by_cases h2 : id = 0 <;> by_cases h3 : y.2.1 = nm <;> simp [h1, h2, h3])])⟩
    · have hqt13_1b := hqt13_1
      replace hqt13_1 := Bool.eq_false_iff.1 hqt13_1
      try simp only [ne_eq, decide_eq_true_eq, Bool.and_eq_true, Bool.or_eq_true, Bool.not_eq_true', decide_eq_false_iff_not] at hqt13_1
      refine wp_exit ?_
      (try simp only [Exit.then, Exit.inBlock, ↓reduceIte, Nat.reduceEqDiff])
      refine hK2 _ _ ?_
      refine wp_seq_k (fun K10 hK10 => ?_)
      refine wp_region_lit ?_
      refine sqv hf (r_build (vs := []) (cs := #[(.int .u8 (0 : Int)), (.string ⟨#[]⟩), (.slice none 0 0), (.int .i64 (0 : Int))]) rfl (fun _ => by kernel_rfl)) rfl rfl rfl ?_; clear hf fa; intro fa hf
      refine sqn hf (d_storeK (T := 119) (v := (.agg #[(.int .u8 (0 : Int)), (.string ⟨#[]⟩), (.slice none 0 0), (.int .i64 (0 : Int))])) (cs := #[(.int .u8 (0 : Int)), (.string ⟨#[]⟩), (.slice none 0 0), (.int .i64 (0 : Int))]) (cs' := #[(.int .u8 (0 : Int)), (.string ⟨#[]⟩), (.slice none 0 0), (.int .i64 (0 : Int))]) rfl rfl (by kernel_rfl) (by kernel_rfl) hkb1 (by kernel_rfl) (by kernel_rfl)) rfl rfl ?_; clear hf fa; rintro fa _ w6 ⟨hk5, hg3⟩ hf
      replace hb := hb.trans (grown_below hg3 hb.size hBb1)
      refine sqv hf (r_assign rfl) rfl rfl rfl ?_; clear hf fa; intro fa hf
      apply wpList_nil
      (try simp only [Exit.then, Exit.inBlock, ↓reduceIte, Nat.reduceEqDiff])
      refine hK10 _ _ ?_
      refine wp_ret ?_
      (try simp only [Exit.then, Exit.inBlock])
      refine retCT hf rfl rfl hk5 Try.underlying119 rfl (by kernel_rfl) rfl ?_
      have hF : l.find? (hitS id nm) = none := by rw [Hs, List.drop_eq_nil_of_le (by omega)]; rfl
      refine ⟨?_, hb⟩
      unfold fndV fndB
      rw [hF]; rfl
end Go.Proofs.Ytcmdajkkdognfaa

namespace Go.Proofs.Ytcmdajkkdognfaa
open Go.RowKit
set_option linter.unusedVariables false
set_option linter.unusedSimpArgs false
theorem now_bad (y t : Int) (w : World) (hy : y ≠ 0) : Calls Try.prog 122 #[.int .i64 y, .int .i64 t] w fun e w' => ∃ c, e = .panicked c ∧ (Gave c ∧ Below w.heap.size w w') := (now_any y t w).mono (fun e w' h => ⟨_, h.1, ⟨y, t, hy, rfl⟩, h.2 ▸ Below.refl _ _⟩)

set_option maxHeartbeats 1000000 in
set_option maxRecDepth 100000 in
theorem unless_badV (y t : Int) (w : World) (hy : y ≠ 0) : Calls Try.prog 118 #[(.bool false), (.int .i64 y), (.int .i64 t)] w fun e w' => ∃ c, e = .panicked c ∧ (Gave c ∧ Below w.heap.size w w') := by
  refine sx_enter (L := [(0, (.bool false)), (1, (.int .i64 y)), (2, (.int .i64 t))]) Try.func118 rfl rfl rfl rfl (fun fa hf => ?_)
  have hb : Below w.heap.size w w := Below.refl _ _
  refine wp_seq_k (fun K1 hK1 => ?_)
  refine wp_region_lit ?_
  refine sqv hf (r_move rfl) rfl rfl rfl ?_; clear hf fa; intro fa hf
  refine sqv hf (Runs.veq (v' := (.bool true)) (r_not rfl) rfl) rfl rfl rfl ?_; clear hf fa; intro fa hf
  apply wpList_nil
  (try simp only [Exit.then, Exit.inBlock, ↓reduceIte, Nat.reduceEqDiff])
  refine hK1 _ _ ?_
  refine wp_cond_true (hf.ev rfl) ?_
  refine wp_region_lit ?_
  refine sqv hf (r_move rfl) rfl rfl rfl ?_; clear hf fa; intro fa hf
  refine sqv hf (r_move rfl) rfl rfl rfl ?_; clear hf fa; intro fa hf
  refine sq_panic hf (vs := [(.int .i64 y), (.int .i64 t)]) rfl Try.func122 (by kernel_rfl) (by kernel_rfl) (now_bad y t _ hy) ?_; rintro c9 w1 ⟨hgv1, hkp1⟩
  replace hb := hb.trans (Below.mono hkp1 hb.size)
  exact And.intro hf.defers ⟨_, rfl, hgv1, hb⟩

theorem unless_bad (y t : Int) (w : World) (hy : y ≠ 0) : Calls Try.prog 118 #[(.bool false), (.int .i64 y), (.int .i64 t)] w fun e w' => ∃ c, e = .panicked c ∧ (Gave c ∧ Below w.heap.size w w') := unless_badV y t w hy

set_option maxHeartbeats 1000000 in
set_option maxRecDepth 100000 in
theorem sname_bad (bs base p : Nat) (a : Option Addr) (c : Nat) (l : List Int) (w : World) (hks : w.heap[bs]? = some (.cells #[(.slice a l.length c), (.int .i64 ((p : Nat) : Int))] 161 (0, 0))) (hr0 : Row 1 (vInt .u8) 5 base w (.slice a l.length c) l) (hp : p ≤ l.length) (hb6 : ∀ y ∈ l, 0 ≤ y ∧ y < 256) (hlm : l.length ≤ 1000000) (X : List Int) (hA : At l p (uL X.length ++ X)) (hX : X.length ≤ 1000000) (hXr : ∀ x ∈ X, 0 ≤ x ∧ x < 256) (hbad : ¬ (X.length ≤ 200 ∧ (0 ≤ Ut.cnt (X.map Int.toNat)))) : Calls Try.prog 125 #[(.pointer (some ⟨bs, 0, none⟩))] w fun e w' => ∃ c, e = .panicked c ∧ (Gave c ∧ w.grownBy w' (some bs)) := by
  have hcap := Row.caps hr0; have hR0lt := fun q hq => (Row.lt hr0 q hq).2; have hle := hA.le; simp only [List.length_append] at hle
  refine sx_enter (L := [(0, (.pointer (some ⟨bs, 0, none⟩)))]) Try.func125 rfl rfl rfl rfl (fun fa hf => ?_)
  have hb : KB bs w.heap.size w w := KB.refl _ _ _
  refine wp_seq_k (fun K1 hK1 => ?_)
  refine wp_region_lit ?_
  refine sqv hf (r_assign rfl) rfl rfl rfl ?_; clear hf fa; intro fa hf
  apply wpList_nil
  (try simp only [Exit.then, Exit.inBlock, ↓reduceIte, Nat.reduceEqDiff])
  refine hK1 _ _ ?_
  refine wp_seq_k (fun K2 hK2 => ?_)
  refine wp_region_lit ?_
  refine sqv hf (r_move rfl) rfl rfl rfl ?_; clear hf fa; intro fa hf
  refine sqv hf (r_nilCheck rfl) rfl rfl rfl ?_; clear hf fa; intro fa hf
  refine sqv hf (r_fa rfl Try.underlying161 (f := 1) (q := 1) rfl (by kernel_rfl) rfl) rfl rfl rfl ?_; clear hf fa; intro fa hf
  refine sqv hf (r_load (v := (.int .i64 ((p : Nat) : Int))) rfl Try.underlying3 rfl (cell_blk hks rfl)) rfl rfl rfl ?_; clear hf fa; intro fa hf
  refine sqv hf (r_assign rfl) rfl rfl rfl ?_; clear hf fa; intro fa hf
  apply wpList_nil
  (try simp only [Exit.then, Exit.inBlock, ↓reduceIte, Nat.reduceEqDiff])
  refine hK2 _ _ ?_
  refine wp_seq_k (fun K3 hK3 => ?_)
  refine wp_region_lit ?_
  refine sqv hf (r_move rfl) rfl rfl rfl ?_; clear hf fa; intro fa hf
  refine sqdt hf (d_callW (v := (.int .u32 ((X.length : Nat) : Int))) (b := bs) (T := 161) (cs := #[(.slice a l.length c), (.int .i64 (((p + (uL X.length).length) : Nat) : Int))]) (vs := [(.pointer (some ⟨bs, 0, none⟩))]) rfl Try.func121 (by kernel_rfl) (by kernel_rfl) (index_any bs base p a c l _ hks hr0 (by omega) hb6 hlm X.length (At.fst hA) (by omega))) rfl rfl rfl ?_; clear hf fa; rintro fa _ w1 ⟨rfl, hk1, hg1⟩ hf
  replace hr0 := Row.grown hr0 hg1 (Row.ne_type hr0 hks rfl)
  replace hb := hb.wrote hg1 hb.size
  refine sqv hf (r_assign rfl) rfl rfl rfl ?_; clear hf fa; intro fa hf
  apply wpList_nil
  (try simp only [Exit.then, Exit.inBlock, ↓reduceIte, Nat.reduceEqDiff])
  refine hK3 _ _ ?_
  refine wp_seq_k (fun K4 hK4 => ?_)
  by_cases hsp1 : X.length ≤ 200
  · have hsp1b : decide (X.length ≤ 200) = true := decide_eq_true hsp1
    refine wp_region_lit ?_
    refine sqv hf (r_move rfl) rfl rfl rfl ?_; clear hf fa; intro fa hf
    refine sqv hf (Runs.veq (r_le rfl rfl) (congrArg Value.bool (show _ = true from (decide_eq_true (by have h := hsp1; omega))))) rfl rfl rfl ?_; clear hf fa; intro fa hf
    refine sqv hf (r_move rfl) rfl rfl rfl ?_; clear hf fa; intro fa hf
    refine sqdt hf (d_callB (vs := [(.bool true), (.int .i64 (13 : Int)), (.int .i64 ((p : Nat) : Int))]) rfl Try.func118 (by kernel_rfl) (by kernel_rfl) (unless_any true (13 : Int) ((p : Nat) : Int) _ (by first | rfl | assumption | (simp; done) | (simp; omega)))) rfl rfl rfl ?_; clear hf fa; rintro fa _ w2 ⟨rfl, he1⟩ hf
    replace hk1 := blk_ext hk1 he1
    replace hr0 := Row.ext hr0 he1
    replace hb := hb.trans (Below.mono he1 hb.size)
    apply wpList_nil
    (try simp only [Exit.then, Exit.inBlock, ↓reduceIte, Nat.reduceEqDiff])
    refine hK4 _ _ ?_
    refine wp_seq_k (fun K5 hK5 => ?_)
    refine wp_region_lit ?_
    refine sqv hf (r_move rfl) rfl rfl rfl ?_; clear hf fa; intro fa hf
    refine sqv hf (r_move rfl) rfl rfl rfl ?_; clear hf fa; intro fa hf
    refine sqv hf (r_conv (C := ((X.length : Nat) : Int)) rfl Try.underlying24 Try.underlying3 (by rw [IntKind.wrap_i64]; omega)) rfl rfl rfl ?_; clear hf fa; intro fa hf
    refine sqdt hf (d_callX (vs := [(.pointer (some ⟨bs, 0, none⟩)), (.int .i64 ((X.length : Nat) : Int))]) rfl Try.func119 (by kernel_rfl) (by kernel_rfl) (sbytes_any bs base ((p + (uL X.length).length)) a c l _ hk1 hr0 (by omega) X (At.snd hA) (by omega))) rfl rfl rfl ?_; clear hf fa; rintro fa v w3 ⟨hr1, hk2, hg2⟩ hf
    obtain ⟨ra1, rc1, rfl, hcrc1, hmrc1⟩ := Row.slice hr1
    replace hr1 := Row.rebase hr1 hb.size
    replace hr0 := Row.grown hr0 hg2 (Row.ne_type hr0 hk1 rfl)
    replace hb := hb.wrote hg2 hb.size
    refine sqv hf (r_assign rfl) rfl rfl rfl ?_; clear hf fa; intro fa hf
    apply wpList_nil
    (try simp only [Exit.then, Exit.inBlock, ↓reduceIte, Nat.reduceEqDiff])
    refine hK5 _ _ ?_
    refine wp_seq_k (fun K6 hK6 => ?_)
    refine wp_region_lit ?_
    refine sqv hf (r_move rfl) rfl rfl rfl ?_; clear hf fa; intro fa hf
    refine sqdt hf (d_callS (vs := [(.slice ra1 X.length rc1)]) rfl Try.func147 (by kernel_rfl) (by kernel_rfl) (by have h := Ut.right_any (X.map Int.toNat) _ _ (left_of_row (k := 0) hr1 hXr) (by rw [List.length_map]; omega); rw [decide_eq_false (fun h => hbad ⟨hsp1, h⟩)] at h; exact h)) rfl rfl rfl ?_; clear hf fa; rintro fa _ _ ⟨rfl, rfl⟩ hf
    refine sqv hf (r_move rfl) rfl rfl rfl ?_; clear hf fa; intro fa hf
    refine sq_panic hf (vs := [(.bool false), (.int .i64 (4 : Int)), (.int .i64 ((p : Nat) : Int))]) rfl Try.func118 (by kernel_rfl) (by kernel_rfl) (unless_bad (4 : Int) ((p : Nat) : Int) _ (by decide)) ?_; rintro c9 w4 ⟨hgv1, hkp1⟩
    replace hk2 := blk_ext hk2 hkp1
    replace hr0 := Row.ext hr0 hkp1
    replace hr1 := Row.ext hr1 hkp1
    replace hb := hb.trans (Below.mono hkp1 hb.size)
    exact And.intro hf.defers ⟨_, rfl, hgv1, hb.grown⟩
  · have hsp1b : decide (X.length ≤ 200) = false := decide_eq_false hsp1
    refine wp_region_lit ?_
    refine sqv hf (r_move rfl) rfl rfl rfl ?_; clear hf fa; intro fa hf
    refine sqv hf (Runs.veq (r_le rfl rfl) (congrArg Value.bool (show _ = false from (decide_eq_false (by have h := hsp1; omega))))) rfl rfl rfl ?_; clear hf fa; intro fa hf
    refine sqv hf (r_move rfl) rfl rfl rfl ?_; clear hf fa; intro fa hf
    refine sq_panic hf (vs := [(.bool false), (.int .i64 (13 : Int)), (.int .i64 ((p : Nat) : Int))]) rfl Try.func118 (by kernel_rfl) (by kernel_rfl) (unless_bad (13 : Int) ((p : Nat) : Int) _ (by decide)) ?_; rintro c9 w5 ⟨hgv2, hkp2⟩
    replace hk1 := blk_ext hk1 hkp2
    replace hr0 := Row.ext hr0 hkp2
    replace hb := hb.trans (Below.mono hkp2 hb.size)
    exact And.intro hf.defers ⟨_, rfl, hgv2, hb.grown⟩
end Go.Proofs.Ytcmdajkkdognfaa

namespace Go.Proofs.Ytcmdajkkdognfaa
open Go.RowKit
set_option linter.unusedVariables false
set_option linter.unusedSimpArgs false
theorem sbytes_anyZ (bs base p : Nat) (a : Option Addr) (c : Nat) (l : List Int) (w : World) (hks : w.heap[bs]? = some (.cells #[(.slice a l.length c), (.int .i64 ((p : Nat) : Int))] 161 (0, 0))) (hr0 : Row 1 (vInt .u8) 5 base w (.slice a l.length c) l) (hp : p ≤ l.length) (X : List Int) (hA : At l p X) (hX : X.length ≤ 1000000) (z : Int) (hz : z = ((X.length : Nat) : Int)) : Calls Try.prog 119 #[(.pointer (some ⟨bs, 0, none⟩)), (.int .i64 z)] w fun e w' => ∃ v, e = .returned v ∧ Row 1 (vInt .u8) 5 w.heap.size w' v X ∧ Wrote w bs #[(.slice a l.length c), (.int .i64 (((p + X.length) : Nat) : Int))] 161 w' := by
  subst hz
  exact sbytes_any bs base p a c l w hks hr0 hp X hA hX
theorem ssub_anyZ (bs base p : Nat) (a : Option Addr) (c : Nat) (l : List Int) (w : World) (hks : w.heap[bs]? = some (.cells #[(.slice a l.length c), (.int .i64 ((p : Nat) : Int))] 161 (0, 0))) (hr0 : Row 1 (vInt .u8) 5 base w (.slice a l.length c) l) (hp : p ≤ l.length) (X : List Int) (hA : At l p X) (hX : X.length ≤ 1000000) (z : Int) (hz : z = ((X.length : Nat) : Int)) : Calls Try.prog 62 #[(.pointer (some ⟨bs, 0, none⟩)), (.int .i64 z)] w fun e w' => ∃ v, e = .returned v ∧ ∃ b a2 c2, v = .pointer (some ⟨b, 0, none⟩) ∧ w.heap.size ≤ b ∧ w'.heap[b]? = some (.cells #[.slice a2 X.length c2, .int .i64 ((0 : Nat) : Int)] 161 (0, 0)) ∧ Row 1 (vInt .u8) 5 w.heap.size w' (.slice a2 X.length c2) X ∧ Wrote w bs #[(.slice a l.length c), (.int .i64 (((p + X.length) : Nat) : Int))] 161 w' := by
  subst hz
  exact ssub_any bs base p a c l w hks hr0 hp X hA hX

set_option maxHeartbeats 1000000 in
set_option maxRecDepth 100000 in
theorem in_next (tb xb bs base p : Nat) (a : Option Addr) (c : Nat) (l : List Int) (id at0 : Int) (X : List Int) (w : World) (h1b : xb < bs) (h2b : bs < tb) (hlt9 : tb < w.heap.size) (hks : w.heap[bs]? = some (.cells #[(.slice a l.length c), (.int .i64 ((p : Nat) : Int))] 161 (0, 0))) (hr0 : Row 1 (vInt .u8) 5 base w (.slice a l.length c) l) (hp : p ≤ l.length) (hb6 : ∀ y ∈ l, 0 ≤ y ∧ y < 256) (hlm : l.length ≤ 1000000) (h0 : w.heap[tb]? = some (.cells #[.pointer (some ⟨bs, 0, none⟩)] 87 (0, 0))) (h1 : w.heap[xb]? = some (.cells #[(.int .u8 id), (.string ⟨#[]⟩), (.slice none 0 0), (.int .i64 at0)] 119 (0, 0))) (hA : At l p (uL X.length ++ X)) (hX : X.length ≤ 200) (hU : goodN X) : Calls Try.prog 162 #[(.pointer (some ⟨tb, 0, none⟩)), (.pointer (some ⟨xb, 0, none⟩))] w fun e w' => e = .returned (.tuple #[]) ∧ w'.heap[xb]? = some (.cells #[(.int .u8 id), (.string (strOfNums X)), (.slice none 0 0), (.int .i64 at0)] 119 (0, 0)) ∧ w'.heap[bs]? = some (.cells #[(.slice a l.length c), (.int .i64 (((p + (uL X.length).length + X.length) : Nat) : Int))] 161 (0, 0)) ∧ KS [xb, bs] w.heap.size w w' := by
  have hcap := Row.caps hr0; have hR0lt := fun q hq => (Row.lt hr0 q hq).2
  refine sx_enter (L := [(0, (.pointer (some ⟨tb, 0, none⟩))), (1, (.pointer (some ⟨xb, 0, none⟩)))]) Try.func162 rfl rfl rfl rfl (fun fa hf => ?_)
  have hb : KS [xb, bs] w.heap.size w w := KS.refl _ _ _
  refine wp_region_lit ?_
  refine sqv hf (r_load (v := (.pointer (some ⟨bs, 0, none⟩))) rfl Try.underlying87 rfl (cell_blk h0 rfl)) rfl rfl rfl ?_; clear hf fa; intro fa hf
  refine sqdt hf (d_callW (v := (.string (strOfNums X))) (b := bs) (T := 161) (cs := #[(.slice a l.length c), (.int .i64 (((p + (uL X.length).length + X.length) : Nat) : Int))]) (vs := [(.pointer (some ⟨bs, 0, none⟩))]) rfl Try.func125 (by kernel_rfl) (by kernel_rfl) (sname_any bs base p a c l _ hks hr0 (by omega) hb6 hlm X hA hX hU)) rfl rfl rfl ?_; clear hf fa; rintro fa _ w1 ⟨rfl, hk1, hg1⟩ hf
  replace h0 := blk_grown h0 hg1 (by omega)
  replace h1 := blk_grown h1 hg1 (by omega)
  replace hr0 := Row.grown hr0 hg1 (Row.ne_type hr0 hks rfl)
  replace hb := hb.wrote hg1 hb.size (.inl (by simp only [List.mem_cons, eq_self, true_or, or_true]))
  refine sqv hf (r_fa rfl Try.underlying119 (f := 1) (q := 1) rfl (by kernel_rfl) rfl) rfl rfl rfl ?_; clear hf fa; intro fa hf
  refine sqn hf (d_storeK (T := 119) (v := (.string (strOfNums X))) (cs := #[(.int .u8 id), (.string ⟨#[]⟩), (.slice none 0 0), (.int .i64 at0)]) (cs' := #[(.int .u8 id), (.string (strOfNums X)), (.slice none 0 0), (.int .i64 at0)]) rfl rfl (by kernel_rfl) (by kernel_rfl) h1 (by kernel_rfl) (by kernel_rfl)) rfl rfl ?_; clear hf fa; rintro fa _ w2 ⟨hk2, hg2⟩ hf
  replace h0 := blk_grown h0 hg2 (by omega)
  replace hk1 := blk_grown hk1 hg2 (by omega)
  replace hr0 := Row.grown hr0 hg2 (Row.ne_type hr0 h1 rfl)
  replace hb := hb.wrote hg2 hb.size (.inl (by simp only [List.mem_cons, eq_self, true_or, or_true]))
  apply wpList_nil
  (try simp only [Exit.then, Exit.inBlock, ↓reduceIte, Nat.reduceEqDiff])
  refine end0 hf rfl ?_
  exact ⟨rfl, hk2, hk1, hb⟩

set_option maxHeartbeats 1000000 in
set_option maxRecDepth 100000 in
theorem in_next_bad (tb xb bs base p : Nat) (a : Option Addr) (c : Nat) (l : List Int) (id at0 : Int) (X : List Int) (w : World) (h1b : xb < bs) (h2b : bs < tb) (hlt9 : tb < w.heap.size) (hks : w.heap[bs]? = some (.cells #[(.slice a l.length c), (.int .i64 ((p : Nat) : Int))] 161 (0, 0))) (hr0 : Row 1 (vInt .u8) 5 base w (.slice a l.length c) l) (hp : p ≤ l.length) (hb6 : ∀ y ∈ l, 0 ≤ y ∧ y < 256) (hlm : l.length ≤ 1000000) (h0 : w.heap[tb]? = some (.cells #[.pointer (some ⟨bs, 0, none⟩)] 87 (0, 0))) (h1 : w.heap[xb]? = some (.cells #[(.int .u8 id), (.string ⟨#[]⟩), (.slice none 0 0), (.int .i64 at0)] 119 (0, 0))) (hA : At l p (uL X.length ++ X)) (hX : X.length ≤ 1000000) (hXr : ∀ x ∈ X, 0 ≤ x ∧ x < 256) (hbad : ¬ (X.length ≤ 200 ∧ (0 ≤ Ut.cnt (X.map Int.toNat)))) : Calls Try.prog 162 #[(.pointer (some ⟨tb, 0, none⟩)), (.pointer (some ⟨xb, 0, none⟩))] w fun e w' => ∃ c, e = .panicked c ∧ (Gave c ∧ KS [xb, bs] w.heap.size w w') := by
  have hcap := Row.caps hr0; have hR0lt := fun q hq => (Row.lt hr0 q hq).2
  refine sx_enter (L := [(0, (.pointer (some ⟨tb, 0, none⟩))), (1, (.pointer (some ⟨xb, 0, none⟩)))]) Try.func162 rfl rfl rfl rfl (fun fa hf => ?_)
  have hb : KS [xb, bs] w.heap.size w w := KS.refl _ _ _
  refine wp_region_lit ?_
  refine sqv hf (r_load (v := (.pointer (some ⟨bs, 0, none⟩))) rfl Try.underlying87 rfl (cell_blk h0 rfl)) rfl rfl rfl ?_; clear hf fa; intro fa hf
  refine sq_panic hf (vs := [(.pointer (some ⟨bs, 0, none⟩))]) rfl Try.func125 (by kernel_rfl) (by kernel_rfl) (sname_bad bs base p a c l _ hks hr0 (by omega) hb6 hlm X hA hX hXr hbad) ?_; rintro c9 w1 ⟨hgv1, hkp1⟩
  replace h0 := blk_grown h0 hkp1 (by omega)
  replace h1 := blk_grown h1 hkp1 (by omega)
  replace hr0 := Row.grown hr0 hkp1 (Row.ne_type hr0 hks rfl)
  replace hb := hb.wrote hkp1 hb.size (.inl (by simp only [List.mem_cons, eq_self, true_or, or_true]))
  exact And.intro hf.defers ⟨_, rfl, hgv1, hb⟩

set_option maxHeartbeats 1000000 in
set_option maxRecDepth 100000 in
theorem within_ok (by0 : Int) (k : FuncId) (caps : Array Value) (q1 q2 : Nat) (Q : World → Prop) (w : World) (hin : Enters Try.prog k) (hS1 : q1 < w.heap.size) (hS2 : q2 < w.heap.size) (hQ : ∀ w1 w2, Q w1 → Below w1.heap.size w1 w2 → Q w2) (hc : ∀ w1, Below w.heap.size w w1 → w.heap.size < w1.heap.size → Calls Try.prog k caps w1 fun e w2 => e = .returned (.tuple #[]) ∧ KS [q1, q2] w1.heap.size w1 w2 ∧ Q w2) : Calls Try.prog 136 #[(.int .i64 by0), (.func (.func k) #[] caps)] w fun e w' => e = .returned (.tuple #[]) ∧ Q w' ∧ KS [q1, q2] w.heap.size w w' := by
  refine sx_enter (L := [(0, (.int .i64 by0)), (1, (.func (.func k) #[] caps))]) Try.func136 rfl rfl rfl rfl (fun fa hf => ?_)
  have hb : Below w.heap.size w w := Below.refl _ _
  refine wp_seq_k (fun K1 hK1 => ?_)
  refine wp_region_lit ?_
  refine sqv hf (r_move rfl) rfl rfl rfl ?_; clear hf fa; intro fa hf
  refine sqdt hf (d_callR (vs := [(.func (.func k) #[] caps)]) rfl Try.func59 (by kernel_rfl) (by kernel_rfl) (out_ok k caps _ [q1, q2] (fun _ w => Q w) hin (by intro b hm; simp only [List.mem_cons, List.not_mem_nil, or_false] at hm; rcases hm with rfl | rfl <;> assumption) hc)) rfl rfl rfl ?_; clear hf fa; rintro fa _ w1 ⟨rfl, hks, B1, hB1, hQ1⟩ hf
  replace hb : KS [q1, q2] w.heap.size w _ := (KS.of_belowB hb).many hks (by intro q hq; simp only [List.mem_cons, List.not_mem_nil, or_false] at hq ⊢; omega) hb.size
  have hU := Below.refl w1.heap.size w1
  refine sqdt hf (d_alloc (z := (.agg #[(.int .i64 (0 : Int)), (.int .i64 (0 : Int))])) (cs := #[(.int .i64 (0 : Int)), (.int .i64 (0 : Int))]) (by kernel_rfl) rfl) rfl rfl rfl ?_; clear hf fa; rintro fa _ w2 ⟨b1, rfl, hle1, hk1, he1⟩ hf
  have hBb1 : w.heap.size ≤ b1 := Nat.le_trans hb.size hle1
  have hUhUb1 := Nat.le_trans hU.size hle1
  replace hU := hU.trans (Below.mono he1 hU.size)
  replace hb := hb.trans (Below.mono he1 hb.size)
  refine sqn hf (d_storeK (T := 90) (v := (.agg #[(.int .i64 (0 : Int)), (.int .i64 (0 : Int))])) (cs := #[(.int .i64 (0 : Int)), (.int .i64 (0 : Int))]) (cs' := #[(.int .i64 (0 : Int)), (.int .i64 (0 : Int))]) rfl rfl (by kernel_rfl) (by kernel_rfl) hk1 (by kernel_rfl) (by kernel_rfl)) rfl rfl ?_; clear hf fa; rintro fa _ w3 ⟨hk2, hg1⟩ hf
  replace hU := hU.trans (grown_below hg1 hU.size (by omega))
  replace hb := hb.wrote hg1 hb.size (.inr hBb1)
  apply wpList_nil
  (try simp only [Exit.then, Exit.inBlock, ↓reduceIte, Nat.reduceEqDiff])
  refine hK1 _ _ ?_
  refine wp_seq_k (fun K2 hK2 => ?_)
  refine wp_region_lit ?_
  refine sqv hf (r_fa rfl Try.underlying90 (f := 0) (q := 0) rfl (by kernel_rfl) rfl) rfl rfl rfl ?_; clear hf fa; intro fa hf
  refine sqv hf (r_load (v := (.int .i64 (0 : Int))) rfl Try.underlying39 rfl (cell_blk hk2 rfl)) rfl rfl rfl ?_; clear hf fa; intro fa hf
  refine sqv hf (r_ne rfl rfl) rfl rfl rfl ?_; clear hf fa; intro fa hf
  apply wpList_nil
  (try simp only [Exit.then, Exit.inBlock, ↓reduceIte, Nat.reduceEqDiff])
  refine hK2 _ _ ?_
  refine wp_cond_false ((hf.ev rfl).trans (congrArg Value.bool (show (decide ((0 : Int) ≠ (0 : Int))) = false from rfl))) ?_
  refine wp_skip ?_
  (try simp only [Exit.then, Exit.inBlock, ↓reduceIte, Nat.reduceEqDiff])
  refine end0 hf rfl ?_
  exact ⟨rfl, hQ _ _ hQ1 hU, hb⟩

set_option maxHeartbeats 1000000 in
set_option maxRecDepth 100000 in
theorem within_bad (by0 : Int) (k : FuncId) (caps : Array Value) (q1 q2 : Nat) (w : World) (hin : Enters Try.prog k) (hS1 : q1 < w.heap.size) (hS2 : q2 < w.heap.size) (hc : ∀ w1, Below w.heap.size w w1 → w.heap.size < w1.heap.size → Calls Try.prog k caps w1 fun e w2 => ∃ c, e = .panicked c ∧ (Gave c ∧ KS [q1, q2] w1.heap.size w1 w2)) : Calls Try.prog 136 #[(.int .i64 by0), (.func (.func k) #[] caps)] w fun e w' => ∃ c, e = .panicked c ∧ (Gave c ∧ KS [q1, q2] w.heap.size w w') := by
  refine sx_enter (L := [(0, (.int .i64 by0)), (1, (.func (.func k) #[] caps))]) Try.func136 rfl rfl rfl rfl (fun fa hf => ?_)
  have hb : Below w.heap.size w w := Below.refl _ _
  refine wp_seq_k (fun K1 hK1 => ?_)
  refine wp_region_lit ?_
  refine sqv hf (r_move rfl) rfl rfl rfl ?_; clear hf fa; intro fa hf
  refine sqdt hf (d_callX (vs := [(.func (.func k) #[] caps)]) rfl Try.func59 (by kernel_rfl) (by kernel_rfl) (out_bad k caps _ [q1, q2] hin (by intro b hm; simp only [List.mem_cons, List.not_mem_nil, or_false] at hm; rcases hm with rfl | rfl <;> assumption) hc)) rfl rfl rfl ?_; clear hf fa; rintro fa _ w1 ⟨why, at9, rfl, hne, hks⟩ hf
  replace hb : KS [q1, q2] w.heap.size w _ := (KS.of_belowB hb).many hks (by intro q hq; simp only [List.mem_cons, List.not_mem_nil, or_false] at hq ⊢; omega) hb.size
  refine sqdt hf (d_alloc (z := (.agg #[(.int .i64 (0 : Int)), (.int .i64 (0 : Int))])) (cs := #[(.int .i64 (0 : Int)), (.int .i64 (0 : Int))]) (by kernel_rfl) rfl) rfl rfl rfl ?_; clear hf fa; rintro fa _ w2 ⟨b1, rfl, hle1, hk1, he1⟩ hf
  have hBb1 : w.heap.size ≤ b1 := Nat.le_trans hb.size hle1
  replace hb := hb.trans (Below.mono he1 hb.size)
  refine sqn hf (d_storeK (T := 90) (v := (.agg #[(.int .i64 why), (.int .i64 at9)])) (cs := #[(.int .i64 (0 : Int)), (.int .i64 (0 : Int))]) (cs' := #[(.int .i64 why), (.int .i64 at9)]) rfl rfl (by kernel_rfl) (by kernel_rfl) hk1 (by kernel_rfl) (by kernel_rfl)) rfl rfl ?_; clear hf fa; rintro fa _ w3 ⟨hk2, hg1⟩ hf
  replace hb := hb.wrote hg1 hb.size (.inr hBb1)
  apply wpList_nil
  (try simp only [Exit.then, Exit.inBlock, ↓reduceIte, Nat.reduceEqDiff])
  refine hK1 _ _ ?_
  refine wp_seq_k (fun K2 hK2 => ?_)
  refine wp_region_lit ?_
  refine sqv hf (r_fa rfl Try.underlying90 (f := 0) (q := 0) rfl (by kernel_rfl) rfl) rfl rfl rfl ?_; clear hf fa; intro fa hf
  refine sqv hf (r_load (v := (.int .i64 why)) rfl Try.underlying39 rfl (cell_blk hk2 rfl)) rfl rfl rfl ?_; clear hf fa; intro fa hf
  refine sqv hf (r_ne rfl rfl) rfl rfl rfl ?_; clear hf fa; intro fa hf
  apply wpList_nil
  (try simp only [Exit.then, Exit.inBlock, ↓reduceIte, Nat.reduceEqDiff])
  refine hK2 _ _ ?_
  refine wp_cond_true ((hf.ev rfl).trans (congrArg Value.bool (show (decide (why ≠ (0 : Int))) = true from (decide_eq_true hne)))) ?_
  refine wp_region_lit ?_
  refine sqv hf (r_fa rfl Try.underlying90 (f := 0) (q := 0) rfl (by kernel_rfl) rfl) rfl rfl rfl ?_; clear hf fa; intro fa hf
  refine sqv hf (r_load (v := (.int .i64 why)) rfl Try.underlying39 rfl (cell_blk hk2 rfl)) rfl rfl rfl ?_; clear hf fa; intro fa hf
  refine sqv hf (r_fa rfl Try.underlying90 (f := 1) (q := 1) rfl (by kernel_rfl) rfl) rfl rfl rfl ?_; clear hf fa; intro fa hf
  refine sqv hf (r_load (v := (.int .i64 at9)) rfl Try.underlying3 rfl (cell_blk hk2 rfl)) rfl rfl rfl ?_; clear hf fa; intro fa hf
  refine sqv hf (r_move rfl) rfl rfl rfl ?_; clear hf fa; intro fa hf
  refine sqv hf (r_add (C := ((IntKind.wrap .i64 (at9 + by0)))) rfl rfl rfl) rfl rfl rfl ?_; clear hf fa; intro fa hf
  refine sq_panic hf (vs := [(.int .i64 why), (.int .i64 ((IntKind.wrap .i64 (at9 + by0))))]) rfl Try.func122 (by kernel_rfl) (by kernel_rfl) (now_bad why ((IntKind.wrap .i64 (at9 + by0))) _ hne) ?_; rintro c9 w4 ⟨hgv1, hkp1⟩
  replace hk2 := blk_ext hk2 hkp1
  replace hb := hb.trans (Below.mono hkp1 hb.size)
  exact And.intro hf.defers ⟨_, rfl, hgv1, hb⟩
end Go.Proofs.Ytcmdajkkdognfaa

namespace Go.Proofs.Ytcmdajkkdognfaa
open Go.RowKit
set_option linter.unusedVariables false
set_option linter.unusedSimpArgs false
set_option maxHeartbeats 1000000 in
set_option maxRecDepth 100000 in
theorem snext_ok (bs base p : Nat) (a : Option Addr) (c : Nat) (l : List Int) (w : World) (hks : w.heap[bs]? = some (.cells #[(.slice a l.length c), (.int .i64 ((p : Nat) : Int))] 161 (0, 0))) (hr0 : Row 1 (vInt .u8) 5 base w (.slice a l.length c) l) (hp : p ≤ l.length) (hb6 : ∀ y ∈ l, 0 ≤ y ∧ y < 256) (hlm : l.length ≤ 1000000) (id : Int) (nm : ByteArray) (bd : List Int) (hA : At l p (encX id nm bd)) (hid : 0 ≤ id ∧ id < 256) (hnm : nm.size ≤ 1000) (hbd : bd.length ≤ 1000) (hbr : ∀ y ∈ bd, 0 ≤ y ∧ y < (256 : Int)) (hbl9 : bs < w.heap.size) (hok : id ≤ 11 ∧ (id = 0 → (nm.size ≤ 200 ∧ 0 ≤ Ut.cnt (Ut.bl nm)))) : Calls Try.prog 154 #[(.pointer (some ⟨bs, 0, none⟩))] w fun e w' => ∃ v, e = .returned v ∧ ∃ (a1 : Option Addr) (c1 : Nat) (at1 : Int), v = (.agg #[.int .u8 id, .string (if id = 0 then nm else ⟨#[]⟩), .slice a1 bd.length c1, .int .i64 at1]) ∧ Row 1 (vInt .u8) 5 w.heap.size w' (.slice a1 bd.length c1) bd ∧ Wrote w bs #[(.slice a l.length c), (.int .i64 (((p + (encX id nm bd).length) : Nat) : Int))] 161 w' := by
  have hcap := Row.caps hr0; have hR0lt := fun q hq => (Row.lt hr0 q hq).2
  have hle := hA.le
  have hxl := encX_len id nm bd (by omega) (by omega)
  have hsl := secB_len id nm bd (by omega)
  obtain ⟨NB, hNB⟩ : ∃ NB, NB = (secB id nm bd).length := ⟨_, rfl⟩
  have hA9 : At l p (([id] ++ uL NB) ++ secB id nm bd) := by rw [hNB]; exact hA
  have hel : (encX id nm bd).length = 1 + (uL NB).length + NB := by rw [hNB]; unfold encX; simp only [List.length_append, List.length_cons, List.length_nil]
  rw [← hNB] at hsl
  have hun := uL_len nm.size (by omega)
  have huN := uL_len NB (by omega)
  have hx0 : l[p]? = some id := At.head (At.fst (At.fst hA9))
  have hA2 : At l (p + 1) (uL NB) := At.snd (At.fst hA9)
  have hA3 : At l (p + 1 + (uL NB).length) (secB id nm bd) := At.mv (At.snd hA9) (by simp; omega) rfl
  have hnl := nums_len nm
  have hnr := nums_rng nm
  refine sx_enter (L := [(0, (.pointer (some ⟨bs, 0, none⟩)))]) Try.func154 rfl rfl rfl rfl (fun fa hf => ?_)
  have hb : KS [bs] w.heap.size w w := KS.refl _ _ _
  refine wp_seq_k (fun K1 hK1 => ?_)
  refine wp_region_lit ?_
  refine sqdt hf (d_alloc (z := (.agg #[(.int .u8 (0 : Int)), (.string ⟨#[]⟩), (.slice none 0 0), (.int .i64 (0 : Int))])) (cs := #[(.int .u8 (0 : Int)), (.string ⟨#[]⟩), (.slice none 0 0), (.int .i64 (0 : Int))]) (by kernel_rfl) rfl) rfl rfl rfl ?_; clear hf fa; rintro fa _ w1 ⟨b1, rfl, hle1, hk1, he1⟩ hf
  have hBb1 : w.heap.size ≤ b1 := Nat.le_trans hb.size hle1
  have : bs < b1 := Nat.lt_of_lt_of_le (blk_lt hks) hle1
  replace hks := blk_ext hks he1
  replace hr0 := Row.ext hr0 he1
  replace hb := hb.trans (Below.mono he1 hb.size)
  apply wpList_nil
  (try simp only [Exit.then, Exit.inBlock, ↓reduceIte, Nat.reduceEqDiff])
  refine hK1 _ _ ?_
  refine wp_seq_k (fun K2 hK2 => ?_)
  refine wp_region_lit ?_
  refine sqv hf (r_move rfl) rfl rfl rfl ?_; clear hf fa; intro fa hf
  refine sqdt hf (d_callB (vs := [(.pointer (some ⟨bs, 0, none⟩))]) rfl Try.func126 (by kernel_rfl) (by kernel_rfl) (at_any bs base p a c l _ hks hr0 (by omega))) rfl rfl rfl ?_; clear hf fa; rintro fa _ w2 ⟨rfl, he2⟩ hf
  replace hks := blk_ext hks he2
  replace hk1 := blk_ext hk1 he2
  replace hr0 := Row.ext hr0 he2
  replace hb := hb.trans (Below.mono he2 hb.size)
  refine sqv hf (r_assign rfl) rfl rfl rfl ?_; clear hf fa; intro fa hf
  apply wpList_nil
  (try simp only [Exit.then, Exit.inBlock, ↓reduceIte, Nat.reduceEqDiff])
  refine hK2 _ _ ?_
  refine wp_seq_k (fun K3 hK3 => ?_)
  refine wp_region_lit ?_
  refine sqv hf (r_move rfl) rfl rfl rfl ?_; clear hf fa; intro fa hf
  refine sqdt hf (d_callW (v := (.int .u8 id)) (b := bs) (T := 161) (cs := #[(.slice a l.length c), (.int .i64 (((p + 1) : Nat) : Int))]) (vs := [(.pointer (some ⟨bs, 0, none⟩))]) rfl Try.func61 (by kernel_rfl) (by kernel_rfl) (sbyte_any bs base p a c l _ hks hr0 (by omega) id hx0)) rfl rfl rfl ?_; clear hf fa; rintro fa _ w3 ⟨rfl, hk2, hg1⟩ hf
  replace hk1 := blk_grown hk1 hg1 (by omega)
  replace hr0 := Row.grown hr0 hg1 (Row.ne_type hr0 hks rfl)
  replace hb := hb.wrote hg1 hb.size (.inl (by simp only [List.mem_cons, eq_self, true_or, or_true]))
  refine sqv hf (r_build (vs := [(0, (.int .u8 id))]) (cs := #[(.int .u8 id), (.string ⟨#[]⟩), (.slice none 0 0), (.int .i64 (0 : Int))]) rfl (fun _ => by kernel_rfl)) rfl rfl rfl ?_; clear hf fa; intro fa hf
  refine sqdt hf (d_alloc (z := (.agg #[(.int .u8 (0 : Int)), (.string ⟨#[]⟩), (.slice none 0 0), (.int .i64 (0 : Int))])) (cs := #[(.int .u8 (0 : Int)), (.string ⟨#[]⟩), (.slice none 0 0), (.int .i64 (0 : Int))]) (by kernel_rfl) rfl) rfl rfl rfl ?_; clear hf fa; rintro fa _ w4 ⟨b2, rfl, hle2, hk3, he3⟩ hf
  have hBb2 : w.heap.size ≤ b2 := Nat.le_trans hb.size hle2
  have : bs < b2 := Nat.lt_of_lt_of_le (blk_lt hk2) hle2
  have : b1 < b2 := Nat.lt_of_lt_of_le (blk_lt hk1) hle2
  replace hk2 := blk_ext hk2 he3
  replace hk1 := blk_ext hk1 he3
  replace hr0 := Row.ext hr0 he3
  replace hb := hb.trans (Below.mono he3 hb.size)
  refine sqn hf (d_storeK (T := 119) (v := (.agg #[(.int .u8 id), (.string ⟨#[]⟩), (.slice none 0 0), (.int .i64 (0 : Int))])) (cs := #[(.int .u8 (0 : Int)), (.string ⟨#[]⟩), (.slice none 0 0), (.int .i64 (0 : Int))]) (cs' := #[(.int .u8 id), (.string ⟨#[]⟩), (.slice none 0 0), (.int .i64 (0 : Int))]) rfl rfl (by kernel_rfl) (by kernel_rfl) hk3 (by kernel_rfl) (by kernel_rfl)) rfl rfl ?_; clear hf fa; rintro fa _ w5 ⟨hk4, hg2⟩ hf
  replace hk2 := blk_grown hk2 hg2 (by omega)
  replace hk1 := blk_grown hk1 hg2 (by omega)
  replace hr0 := Row.grown hr0 hg2 (Row.ne_type hr0 hk3 rfl)
  replace hb := hb.wrote hg2 hb.size (.inr hBb2)
  apply wpList_nil
  (try simp only [Exit.then, Exit.inBlock, ↓reduceIte, Nat.reduceEqDiff])
  refine hK3 _ _ ?_
  refine wp_seq_k (fun K4 hK4 => ?_)
  refine wp_region_lit ?_
  refine sqv hf (r_fa rfl Try.underlying119 (f := 0) (q := 0) rfl (by kernel_rfl) rfl) rfl rfl rfl ?_; clear hf fa; intro fa hf
  refine sqv hf (r_load (v := (.int .u8 id)) rfl Try.underlying5 rfl (cell_blk hk4 rfl)) rfl rfl rfl ?_; clear hf fa; intro fa hf
  refine sqv hf (Runs.veq (r_le rfl rfl) (congrArg Value.bool (show _ = true from (decide_eq_true hok.1)))) rfl rfl rfl ?_; clear hf fa; intro fa hf
  refine sqv hf (r_move rfl) rfl rfl rfl ?_; clear hf fa; intro fa hf
  refine sqdt hf (d_callB (vs := [(.bool true), (.int .i64 (6 : Int)), (.int .i64 ((p : Nat) : Int))]) rfl Try.func118 (by kernel_rfl) (by kernel_rfl) (unless_any true (6 : Int) ((p : Nat) : Int) _ (by first | rfl | assumption | (simp; done) | (simp; omega)))) rfl rfl rfl ?_; clear hf fa; rintro fa _ w6 ⟨rfl, he4⟩ hf
  replace hk2 := blk_ext hk2 he4
  replace hk1 := blk_ext hk1 he4
  replace hk4 := blk_ext hk4 he4
  replace hr0 := Row.ext hr0 he4
  replace hb := hb.trans (Below.mono he4 hb.size)
  apply wpList_nil
  (try simp only [Exit.then, Exit.inBlock, ↓reduceIte, Nat.reduceEqDiff])
  refine hK4 _ _ ?_
  refine wp_seq_k (fun K5 hK5 => ?_)
  refine wp_region_lit ?_
  refine sqv hf (r_move rfl) rfl rfl rfl ?_; clear hf fa; intro fa hf
  refine sqdt hf (d_callW (v := (.int .u32 ((NB : Nat) : Int))) (b := bs) (T := 161) (cs := #[(.slice a l.length c), (.int .i64 (((((p + 1)) + (uL NB).length) : Nat) : Int))]) (vs := [(.pointer (some ⟨bs, 0, none⟩))]) rfl Try.func121 (by kernel_rfl) (by kernel_rfl) (index_any bs base ((p + 1)) a c l _ hk2 hr0 (by omega) hb6 hlm NB hA2 (by omega))) rfl rfl rfl ?_; clear hf fa; rintro fa _ w7 ⟨rfl, hk5, hg3⟩ hf
  replace hk1 := blk_grown hk1 hg3 (by omega)
  replace hk4 := blk_grown hk4 hg3 (by omega)
  replace hr0 := Row.grown hr0 hg3 (Row.ne_type hr0 hk2 rfl)
  replace hb := hb.wrote hg3 hb.size (.inl (by simp only [List.mem_cons, eq_self, true_or, or_true]))
  refine sqv hf (r_assign rfl) rfl rfl rfl ?_; clear hf fa; intro fa hf
  apply wpList_nil
  (try simp only [Exit.then, Exit.inBlock, ↓reduceIte, Nat.reduceEqDiff])
  refine hK5 _ _ ?_
  refine wp_seq_k (fun K6 hK6 => ?_)
  refine wp_region_lit ?_
  refine sqv hf (r_move rfl) rfl rfl rfl ?_; clear hf fa; intro fa hf
  refine sqv hf (r_conv (C := ((NB : Nat) : Int)) rfl Try.underlying24 Try.underlying55 (by rw [IntKind.wrap_u64]; omega)) rfl rfl rfl ?_; clear hf fa; intro fa hf
  refine sqv hf (r_move rfl) rfl rfl rfl ?_; clear hf fa; intro fa hf
  refine sqdt hf (d_callB (vs := [(.pointer (some ⟨bs, 0, none⟩))]) rfl Try.func67 (by kernel_rfl) (by kernel_rfl) (left_any bs base ((((p + 1)) + (uL NB).length)) a c l _ hk5 hr0 (by omega))) rfl rfl rfl ?_; clear hf fa; rintro fa _ w8 ⟨rfl, he5⟩ hf
  replace hk5 := blk_ext hk5 he5
  replace hk1 := blk_ext hk1 he5
  replace hk4 := blk_ext hk4 he5
  replace hr0 := Row.ext hr0 he5
  replace hb := hb.trans (Below.mono he5 hb.size)
  refine sqv hf (r_conv (C := (((l.length : Nat) : Int) - ((((((p + 1)) + (uL NB).length)) : Nat) : Int))) rfl Try.underlying3 Try.underlying55 (by rw [IntKind.wrap_u64]; omega)) rfl rfl rfl ?_; clear hf fa; intro fa hf
  refine sqv hf (Runs.veq (r_le rfl rfl) (congrArg Value.bool (show _ = true from (decide_eq_true (by omega))))) rfl rfl rfl ?_; clear hf fa; intro fa hf
  refine sqv hf (r_move rfl) rfl rfl rfl ?_; clear hf fa; intro fa hf
  refine sqdt hf (d_callB (vs := [(.pointer (some ⟨bs, 0, none⟩))]) rfl Try.func126 (by kernel_rfl) (by kernel_rfl) (at_any bs base ((((p + 1)) + (uL NB).length)) a c l _ hk5 hr0 (by omega))) rfl rfl rfl ?_; clear hf fa; rintro fa _ w9 ⟨rfl, he6⟩ hf
  replace hk5 := blk_ext hk5 he6
  replace hk1 := blk_ext hk1 he6
  replace hk4 := blk_ext hk4 he6
  replace hr0 := Row.ext hr0 he6
  replace hb := hb.trans (Below.mono he6 hb.size)
  refine sqdt hf (d_callB (vs := [(.bool true), (.int .i64 (2 : Int)), (.int .i64 ((((((p + 1)) + (uL NB).length)) : Nat) : Int))]) rfl Try.func118 (by kernel_rfl) (by kernel_rfl) (unless_any true (2 : Int) ((((((p + 1)) + (uL NB).length)) : Nat) : Int) _ (by first | rfl | assumption | (simp; done) | (simp; omega)))) rfl rfl rfl ?_; clear hf fa; rintro fa _ w10 ⟨rfl, he7⟩ hf
  replace hk5 := blk_ext hk5 he7
  replace hk1 := blk_ext hk1 he7
  replace hk4 := blk_ext hk4 he7
  replace hr0 := Row.ext hr0 he7
  replace hb := hb.trans (Below.mono he7 hb.size)
  apply wpList_nil
  (try simp only [Exit.then, Exit.inBlock, ↓reduceIte, Nat.reduceEqDiff])
  refine hK6 _ _ ?_
  refine wp_seq_k (fun K7 hK7 => ?_)
  refine wp_region_lit ?_
  refine sqv hf (r_move rfl) rfl rfl rfl ?_; clear hf fa; intro fa hf
  refine sqdt hf (d_callB (vs := [(.pointer (some ⟨bs, 0, none⟩))]) rfl Try.func126 (by kernel_rfl) (by kernel_rfl) (at_any bs base ((((p + 1)) + (uL NB).length)) a c l _ hk5 hr0 (by omega))) rfl rfl rfl ?_; clear hf fa; rintro fa _ w11 ⟨rfl, he8⟩ hf
  replace hk5 := blk_ext hk5 he8
  replace hk1 := blk_ext hk1 he8
  replace hk4 := blk_ext hk4 he8
  replace hr0 := Row.ext hr0 he8
  replace hb := hb.trans (Below.mono he8 hb.size)
  refine sqv hf (r_fa rfl Try.underlying119 (f := 3) (q := 3) rfl (by kernel_rfl) rfl) rfl rfl rfl ?_; clear hf fa; intro fa hf
  refine sqn hf (d_storeK (T := 119) (v := (.int .i64 ((((((p + 1)) + (uL NB).length)) : Nat) : Int))) (cs := #[(.int .u8 id), (.string ⟨#[]⟩), (.slice none 0 0), (.int .i64 (0 : Int))]) (cs' := #[(.int .u8 id), (.string ⟨#[]⟩), (.slice none 0 0), (.int .i64 ((((((p + 1)) + (uL NB).length)) : Nat) : Int))]) rfl rfl (by kernel_rfl) (by kernel_rfl) hk4 (by kernel_rfl) (by kernel_rfl)) rfl rfl ?_; clear hf fa; rintro fa _ w12 ⟨hk6, hg4⟩ hf
  replace hk5 := blk_grown hk5 hg4 (by omega)
  replace hk1 := blk_grown hk1 hg4 (by omega)
  replace hr0 := Row.grown hr0 hg4 (Row.ne_type hr0 hk4 rfl)
  replace hb := hb.wrote hg4 hb.size (.inr hBb2)
  apply wpList_nil
  (try simp only [Exit.then, Exit.inBlock, ↓reduceIte, Nat.reduceEqDiff])
  refine hK7 _ _ ?_
  refine wp_seq_k (fun K8 hK8 => ?_)
  refine wp_seq_k (fun K9 hK9 => ?_)
  refine wp_region_lit ?_
  refine sqv hf (r_fa rfl Try.underlying119 (f := 0) (q := 0) rfl (by kernel_rfl) rfl) rfl rfl rfl ?_; clear hf fa; intro fa hf
  refine sqv hf (r_load (v := (.int .u8 id)) rfl Try.underlying5 rfl (cell_blk hk6 rfl)) rfl rfl rfl ?_; clear hf fa; intro fa hf
  refine sqv hf (r_ne rfl rfl) rfl rfl rfl ?_; clear hf fa; intro fa hf
  apply wpList_nil
  (try simp only [Exit.then, Exit.inBlock, ↓reduceIte, Nat.reduceEqDiff])
  refine hK9 _ _ ?_
  refine wp_cond_split (t := (decide (id ≠ (0 : Int)))) (hf.ev rfl) (fun hqt33_1 => ?_) (fun hqt33_1 => ?_)
  · have hqt33_1b := hqt33_1
    try simp only [decide_eq_true_eq, Bool.and_eq_true, Bool.or_eq_true, Bool.not_eq_true', decide_eq_false_iff_not, ne_eq, Bool.not_eq_true] at hqt33_1
    refine wp_seq_k (fun K10 hK10 => ?_)
    have hSb : secB id nm bd = bd := by unfold secB; rw [if_neg hqt33_1]
    have hNB2 : NB = bd.length := by rw [hNB, hSb]
    refine wp_region_lit ?_
    refine sqv hf (r_move rfl) rfl rfl rfl ?_; clear hf fa; intro fa hf
    refine sqv hf (r_move rfl) rfl rfl rfl ?_; clear hf fa; intro fa hf
    refine sqv hf (r_conv (C := ((NB : Nat) : Int)) rfl Try.underlying24 Try.underlying3 (by rw [IntKind.wrap_i64]; omega)) rfl rfl rfl ?_; clear hf fa; intro fa hf
    refine sqdt hf (d_callX (vs := [(.pointer (some ⟨bs, 0, none⟩)), (.int .i64 ((NB : Nat) : Int))]) rfl Try.func119 (by kernel_rfl) (by kernel_rfl) (sbytes_anyZ bs base ((((p + 1)) + (uL NB).length)) a c l _ hk5 hr0 (by omega) bd (by rw [← hSb]; exact hA3) (by omega) ((NB : Nat) : Int) (by rw [hNB, hSb]))) rfl rfl rfl ?_; clear hf fa; rintro fa v w13 ⟨hr1, hk7, hg5⟩ hf
    obtain ⟨ra1, rc1, rfl, hcrc1, hmrc1⟩ := Row.slice hr1
    replace hr1 := Row.rebase hr1 hb.size
    replace hk1 := blk_grown hk1 hg5 (by omega)
    replace hk6 := blk_grown hk6 hg5 (by omega)
    replace hr0 := Row.grown hr0 hg5 (Row.ne_type hr0 hk5 rfl)
    replace hb := hb.wrote hg5 hb.size (.inl (by simp only [List.mem_cons, eq_self, true_or, or_true]))
    refine sqv hf (r_fa rfl Try.underlying119 (f := 2) (q := 2) rfl (by kernel_rfl) rfl) rfl rfl rfl ?_; clear hf fa; intro fa hf
    refine sqn hf (d_storeK (T := 119) (v := (.slice ra1 bd.length rc1)) (cs := #[(.int .u8 id), (.string ⟨#[]⟩), (.slice none 0 0), (.int .i64 ((((((p + 1)) + (uL NB).length)) : Nat) : Int))]) (cs' := #[(.int .u8 id), (.string ⟨#[]⟩), (.slice ra1 bd.length rc1), (.int .i64 ((((((p + 1)) + (uL NB).length)) : Nat) : Int))]) rfl rfl (by kernel_rfl) (by kernel_rfl) hk6 (by kernel_rfl) (by kernel_rfl)) rfl rfl ?_; clear hf fa; rintro fa _ w14 ⟨hk8, hg6⟩ hf
    replace hk7 := blk_grown hk7 hg6 (by omega)
    replace hk1 := blk_grown hk1 hg6 (by omega)
    replace hr0 := Row.grown hr0 hg6 (Row.ne_type hr0 hk6 rfl)
    replace hr1 := Row.grown hr1 hg6 (Row.ne_type hr1 hk6 rfl)
    replace hb := hb.wrote hg6 hb.size (.inr hBb2)
    apply wpList_nil
    (try simp only [Exit.then, Exit.inBlock, ↓reduceIte, Nat.reduceEqDiff])
    refine hK10 _ _ ?_
    refine wp_seq_k (fun K11 hK11 => ?_)
    refine wp_region_lit ?_
    refine sqv hf (r_loadA (cs := [(.int .u8 id), (.string ⟨#[]⟩), (.slice ra1 bd.length rc1), (.int .i64 ((((((p + 1)) + (uL NB).length)) : Nat) : Int))]) rfl Try.underlying119 rfl (by kernel_rfl) (cellsAt_blk hk8)) rfl rfl rfl ?_; clear hf fa; intro fa hf
    refine sqn hf (d_storeK (T := 119) (v := (.agg #[(.int .u8 id), (.string ⟨#[]⟩), (.slice ra1 bd.length rc1), (.int .i64 ((((((p + 1)) + (uL NB).length)) : Nat) : Int))])) (cs := #[(.int .u8 (0 : Int)), (.string ⟨#[]⟩), (.slice none 0 0), (.int .i64 (0 : Int))]) (cs' := #[(.int .u8 id), (.string ⟨#[]⟩), (.slice ra1 bd.length rc1), (.int .i64 ((((((p + 1)) + (uL NB).length)) : Nat) : Int))]) rfl rfl (by kernel_rfl) (by kernel_rfl) hk1 (by kernel_rfl) (by kernel_rfl)) rfl rfl ?_; clear hf fa; rintro fa _ w15 ⟨hk9, hg7⟩ hf
    replace hk7 := blk_grown hk7 hg7 (by omega)
    replace hk8 := blk_grown hk8 hg7 (by omega)
    replace hr0 := Row.grown hr0 hg7 (Row.ne_type hr0 hk1 rfl)
    replace hr1 := Row.grown hr1 hg7 (Row.ne_type hr1 hk1 rfl)
    replace hb := hb.wrote hg7 hb.size (.inr hBb1)
    apply wpList_nil
    (try simp only [Exit.then, Exit.inBlock, ↓reduceIte, Nat.reduceEqDiff])
    refine hK11 _ _ ?_
    refine wp_ret ?_
    (try simp only [Exit.then, Exit.inBlock])
    refine retC hf rfl rfl hk9 Try.underlying119 rfl (by kernel_rfl) ?_
    have hks9 := hk7
    rw [show ((((((p + 1)) + (uL NB).length)) + bd.length)) = p + (encX id nm bd).length by rw [hel]; omega] at hks9
    have hnm9 : (⟨#[]⟩ : ByteArray) = (if id = 0 then nm else ⟨#[]⟩) := by rw [if_neg hqt33_1]
    refine ⟨_, rfl, _, _, _, by rw [← hnm9], Row.rebase hr1 (by omega), hks9, hb.grown1⟩
  · have hqt33_1b := hqt33_1
    replace hqt33_1 := Bool.eq_false_iff.1 hqt33_1
    try simp only [ne_eq, decide_eq_true_eq, Bool.and_eq_true, Bool.or_eq_true, Bool.not_eq_true', decide_eq_false_iff_not] at hqt33_1
    refine wp_skip ?_
    (try simp only [Exit.then, Exit.inBlock, ↓reduceIte, Nat.reduceEqDiff])
    refine hK8 _ _ ?_
    refine wp_seq_k (fun K12 hK12 => ?_)
    have hi0 : id = 0 := Classical.not_not.1 hqt33_1
    have hS : secB id nm bd = ((uL nm.size ++ nums nm) ++ bd) := by unfold secB; rw [if_pos hi0]
    have hAs : At l (p + 1 + (uL NB).length) ((uL nm.size ++ nums nm) ++ bd) := by rw [← hS]; exact hA3
    have hSl : ((uL nm.size ++ nums nm) ++ bd).length = NB := by rw [hNB, hS]
    have hb6s : ∀ y ∈ ((uL nm.size ++ nums nm) ++ bd), 0 ≤ y ∧ y < (256 : Int) := by
      intro y hy
      rcases List.mem_append.1 hy with hy | hy
      · rcases List.mem_append.1 hy with hy | hy
        · exact uL_rng _ y hy
        · exact hnr y hy
      · exact hbr y hy
    have hlms : ((uL nm.size ++ nums nm) ++ bd).length ≤ 1000000 := by omega
    have hAn : At ((uL nm.size ++ nums nm) ++ bd) 0 (uL (nums nm).length ++ (nums nm)) := by rw [hnl]; exact At.fst (At.all _)
    have hlnx : ((uL nm.size ++ nums nm) ++ bd).length = (uL nm.size).length + nm.size + bd.length := by simp only [List.length_append, nums_len]
    have hul : (uL (nums nm).length).length = (uL nm.size).length := by rw [hnl]
    have hAb : At ((uL nm.size ++ nums nm) ++ bd) (0 + (uL (nums nm).length).length + (nums nm).length) bd := At.mv (At.snd (X := uL nm.size ++ nums nm) (At.all _)) (by simp only [List.length_append, nums_len]; omega) rfl
    have hok9 := hok.2 hi0
    have hX9 : (nums nm).length ≤ 200 := by rw [hnl]; exact hok9.1
    have hU9 : goodN (nums nm) := ⟨hnr, by rw [← bl_nums]; exact hok9.2⟩
    refine wp_region_lit ?_
    refine sqv hf (r_move rfl) rfl rfl rfl ?_; clear hf fa; intro fa hf
    refine sqv hf (r_move rfl) rfl rfl rfl ?_; clear hf fa; intro fa hf
    refine sqv hf (r_conv (C := ((NB : Nat) : Int)) rfl Try.underlying24 Try.underlying3 (by rw [IntKind.wrap_i64]; omega)) rfl rfl rfl ?_; clear hf fa; intro fa hf
    refine sqdt hf (d_callX (vs := [(.pointer (some ⟨bs, 0, none⟩)), (.int .i64 ((NB : Nat) : Int))]) rfl Try.func62 (by kernel_rfl) (by kernel_rfl) (ssub_anyZ bs base ((((p + 1)) + (uL NB).length)) a c l _ hk5 hr0 (by omega) ((uL nm.size ++ nums nm) ++ bd) hAs (by omega) ((NB : Nat) : Int) (by rw [hSl]))) rfl rfl rfl ?_; clear hf fa; rintro fa _ w16 ⟨sb1, sa1, sc1, rfl, hle3, hk10, hr2, hk11, hg8⟩ hf
    have hBsb1 : w.heap.size ≤ sb1 := Nat.le_trans hb.size hle3
    have : bs < sb1 := Nat.lt_of_lt_of_le (blk_lt hk5) hle3
    have : b1 < sb1 := Nat.lt_of_lt_of_le (blk_lt hk1) hle3
    have : b2 < sb1 := Nat.lt_of_lt_of_le (blk_lt hk6) hle3
    replace hr2 := Row.rebase hr2 hb.size
    replace hk1 := blk_grown hk1 hg8 (by omega)
    replace hk6 := blk_grown hk6 hg8 (by omega)
    replace hr0 := Row.grown hr0 hg8 (Row.ne_type hr0 hk5 rfl)
    replace hb := hb.wrote hg8 hb.size (.inl (by simp only [List.mem_cons, eq_self, true_or, or_true]))
    refine sqdt hf (d_alloc (z := (.pointer none)) (cs := #[(.pointer none)]) (by kernel_rfl) rfl) rfl rfl rfl ?_; clear hf fa; rintro fa _ w17 ⟨b3, rfl, hle4, hk12, he9⟩ hf
    have hBb3 : w.heap.size ≤ b3 := Nat.le_trans hb.size hle4
    have : bs < b3 := Nat.lt_of_lt_of_le (blk_lt hk11) hle4
    have : b1 < b3 := Nat.lt_of_lt_of_le (blk_lt hk1) hle4
    have : b2 < b3 := Nat.lt_of_lt_of_le (blk_lt hk6) hle4
    have : sb1 < b3 := Nat.lt_of_lt_of_le (blk_lt hk10) hle4
    replace hk11 := blk_ext hk11 he9
    replace hk1 := blk_ext hk1 he9
    replace hk6 := blk_ext hk6 he9
    replace hk10 := blk_ext hk10 he9
    replace hr0 := Row.ext hr0 he9
    replace hr2 := Row.ext hr2 he9
    replace hb := hb.trans (Below.mono he9 hb.size)
    refine sqn hf (d_storeK (T := 87) (v := (.pointer (some ⟨sb1, 0, none⟩))) (cs := #[(.pointer none)]) (cs' := #[(.pointer (some ⟨sb1, 0, none⟩))]) rfl rfl (by kernel_rfl) (by kernel_rfl) hk12 (by kernel_rfl) (by kernel_rfl)) rfl rfl ?_; clear hf fa; rintro fa _ w18 ⟨hk13, hg9⟩ hf
    replace hk11 := blk_grown hk11 hg9 (by omega)
    replace hk1 := blk_grown hk1 hg9 (by omega)
    replace hk6 := blk_grown hk6 hg9 (by omega)
    replace hk10 := blk_grown hk10 hg9 (by omega)
    replace hr0 := Row.grown hr0 hg9 (Row.ne_type hr0 hk12 rfl)
    replace hr2 := Row.grown hr2 hg9 (Row.ne_type hr2 hk12 rfl)
    replace hb := hb.wrote hg9 hb.size (.inr hBb3)
    apply wpList_nil
    (try simp only [Exit.then, Exit.inBlock, ↓reduceIte, Nat.reduceEqDiff])
    refine hK12 _ _ ?_
    refine wp_seq_k (fun K13 hK13 => ?_)
    refine wp_region_lit ?_
    refine sqv hf (r_fa rfl Try.underlying119 (f := 3) (q := 3) rfl (by kernel_rfl) rfl) rfl rfl rfl ?_; clear hf fa; intro fa hf
    refine sqv hf (r_load (v := (.int .i64 ((((((p + 1)) + (uL NB).length)) : Nat) : Int))) rfl Try.underlying3 rfl (cell_blk hk6 rfl)) rfl rfl rfl ?_; clear hf fa; intro fa hf
    refine sqv hf (r_makeFunc (vs := [(.pointer (some ⟨b3, 0, none⟩)), (.pointer (some ⟨b2, 0, none⟩))]) rfl) rfl rfl rfl ?_; clear hf fa; intro fa hf
    refine sqdt hf (d_callR (vs := [(.int .i64 ((((((p + 1)) + (uL NB).length)) : Nat) : Int)), (.func (.func 162) #[] #[(.pointer (some ⟨b3, 0, none⟩)), (.pointer (some ⟨b2, 0, none⟩))])]) rfl Try.func136 (by kernel_rfl) (by kernel_rfl) (within_ok ((((((p + 1)) + (uL NB).length)) : Nat) : Int) 162 _ b2 sb1 (fun w => w.heap[b2]? = some (.cells #[(.int .u8 id), (.string (strOfNums (nums nm))), (.slice none 0 0), (.int .i64 ((((((p + 1)) + (uL NB).length)) : Nat) : Int))] 119 (0, 0)) ∧ w.heap[sb1]? = some (.cells #[(.slice sa1 ((((uL nm.size ++ nums nm) ++ bd)).length) sc1), (.int .i64 (((0 + (uL (nums nm).length).length + (nums nm).length) : Nat) : Int))] 161 (0, 0))) _ (enters Try.func162 (by kernel_rfl) (by kernel_rfl)) (blk_lt hk6) (blk_lt hk10) (fun w1 w2 h hb9 => ⟨blk_ext h.1 hb9, blk_ext h.2 hb9⟩) (fun w1 hw1 hlt => (in_next b3 b2 sb1 w.heap.size 0 sa1 sc1 ((uL nm.size ++ nums nm) ++ bd) _ _ (nums nm) w1 (by omega) (by omega) (by have := hw1.size; have := blk_lt hk13; omega) (blk_ext hk10 hw1) (Row.ext hr2 hw1) (Nat.zero_le _) hb6s hlms (blk_ext hk13 hw1) (blk_ext hk6 hw1) hAn hX9 hU9).mono (fun e w' h => ⟨h.1, h.2.2.2, h.2.1, h.2.2.1⟩)))) rfl rfl rfl ?_; clear hf fa; rintro fa _ w19 ⟨rfl, ⟨hk14, hk15⟩, hks1⟩ hf
    replace hk11 := blk_ks hk11 hks1 (by simp only [List.mem_cons, List.not_mem_nil, or_false]; omega)
    replace hk1 := blk_ks hk1 hks1 (by simp only [List.mem_cons, List.not_mem_nil, or_false]; omega)
    replace hk13 := blk_ks hk13 hks1 (by simp only [List.mem_cons, List.not_mem_nil, or_false]; omega)
    replace hr0 := Row.ks hr0 hks1 (fun q hq => by simp only [List.mem_cons, List.not_mem_nil, or_false] at hq; rcases hq with rfl | rfl; exact (Row.ne_type hr0 hk6 rfl); exact (Row.ne_type hr0 hk10 rfl))
    replace hr2 := Row.ks hr2 hks1 (fun q hq => by simp only [List.mem_cons, List.not_mem_nil, or_false] at hq; rcases hq with rfl | rfl; exact (Row.ne_type hr2 hk6 rfl); exact (Row.ne_type hr2 hk10 rfl))
    replace hb := hb.many hks1 (by intro q hq; simp only [List.mem_cons, List.not_mem_nil, or_false] at hq ⊢; omega) hb.size
    apply wpList_nil
    (try simp only [Exit.then, Exit.inBlock, ↓reduceIte, Nat.reduceEqDiff])
    refine hK13 _ _ ?_
    refine wp_seq_k (fun K14 hK14 => ?_)
    refine wp_region_unT 5 (fun wq => Below w19.heap.size w19 wq) (fun w w' => Below w.heap.size w w')
      (fun V => [(fun x _ => x = (.pointer (some ⟨b2, 3, none⟩))), (fun x _ => x = (.int .i64 ((((((p + 1)) + (uL NB).length)) : Nat) : Int))), (fun x _ => x = (.pointer (some ⟨sb1, 0, none⟩))), (fun x _ => x = (.int .i64 ((((0 + (uL (nums nm).length).length + (nums nm).length)) : Nat) : Int))), (fun x _ => x = (.int .i64 (((((((p + 1)) + (uL NB).length)) : Nat) : Int) + ((((0 + (uL (nums nm).length).length + (nums nm).length)) : Nat) : Int))))])
      []
      [[], [0], [], [2], [1, 3], [], []]
      hf (by kernel_rfl) (by kernel_rfl) (by kernel_rfl) (fun _ => rfl) ((Below.refl _ _).drew) (fun a b h1 h2 => h1.trans (h2.mono h1.size)) (fun _ _ h => h.size) (fun V => ⟨kept_eq, kept_eq, kept_eq, kept_eq, kept_eq, trivial⟩) (fun _ _ _ _ _ => rfl) ?_ ?_
    · skip
      intro V
      refine ⟨fun wu0 hC hd => ?_, ?_⟩
      · clear hd
        replace hb := hb.trans (hC.mono hb.size)
        replace hk11 := blk_ext hk11 hC
        replace hk1 := blk_ext hk1 hC
        replace hk14 := blk_ext hk14 hC
        replace hk15 := blk_ext hk15 hC
        replace hk13 := blk_ext hk13 hC
        replace hr0 := Row.ext hr0 hC
        replace hr2 := Row.ext hr2 hC
        exact Runs.does (r_fa rfl Try.underlying119 (f := 3) (q := 3) rfl (by kernel_rfl) rfl) ⟨Below.refl _ _, rfl, nofr rfl⟩
      refine ⟨fun wu1 hC hd => ?_, ?_⟩
      · obtain ⟨h0, _⟩ := hd
        skip
        replace h0 : V 0 = (.pointer (some ⟨b2, 3, none⟩)) := h0
        replace hb := hb.trans (hC.mono hb.size)
        replace hk11 := blk_ext hk11 hC
        replace hk1 := blk_ext hk1 hC
        replace hk14 := blk_ext hk14 hC
        replace hk15 := blk_ext hk15 hC
        replace hk13 := blk_ext hk13 hC
        replace hr0 := Row.ext hr0 hC
        replace hr2 := Row.ext hr2 hC
        exact Runs.does (r_load (v := (.int .i64 ((((((p + 1)) + (uL NB).length)) : Nat) : Int))) (congrArg some h0) Try.underlying3 rfl (cell_blk hk14 rfl)) ⟨Below.refl _ _, rfl, nofr rfl⟩
      refine ⟨fun wu2 hC hd => ?_, ?_⟩
      · clear hd
        replace hb := hb.trans (hC.mono hb.size)
        replace hk11 := blk_ext hk11 hC
        replace hk1 := blk_ext hk1 hC
        replace hk14 := blk_ext hk14 hC
        replace hk15 := blk_ext hk15 hC
        replace hk13 := blk_ext hk13 hC
        replace hr0 := Row.ext hr0 hC
        replace hr2 := Row.ext hr2 hC
        exact Runs.does (r_load (v := (.pointer (some ⟨sb1, 0, none⟩))) rfl Try.underlying87 rfl (cell_blk hk13 rfl)) ⟨Below.refl _ _, rfl, nofr rfl⟩
      refine ⟨fun wu3 hC hd => ?_, ?_⟩
      · obtain ⟨h2, _⟩ := hd
        skip
        replace h2 : V 2 = (.pointer (some ⟨sb1, 0, none⟩)) := h2
        replace hb := hb.trans (hC.mono hb.size)
        replace hk11 := blk_ext hk11 hC
        replace hk1 := blk_ext hk1 hC
        replace hk14 := blk_ext hk14 hC
        replace hk15 := blk_ext hk15 hC
        replace hk13 := blk_ext hk13 hC
        replace hr0 := Row.ext hr0 hC
        replace hr2 := Row.ext hr2 hC
        refine Does.mono (d_callB (vs := [(.pointer (some ⟨sb1, 0, none⟩))]) (show [some (V 2)] = [some (.pointer (some ⟨sb1, 0, none⟩))] from by rw [h2]) Try.func126 (by kernel_rfl) (by kernel_rfl) (at_any sb1 w.heap.size ((0 + (uL (nums nm).length).length + (nums nm).length)) sa1 sc1 ((uL nm.size ++ nums nm) ++ bd) _ hk15 hr2 (by omega))) (fun _ _ h => ⟨h.2, h.1, nofr rfl⟩)
      refine ⟨fun wu4 hC hd => ?_, ?_⟩
      · obtain ⟨h1, h3, _⟩ := hd
        skip
        skip
        replace h1 : V 1 = (.int .i64 ((((((p + 1)) + (uL NB).length)) : Nat) : Int)) := h1
        replace h3 : V 3 = (.int .i64 ((((0 + (uL (nums nm).length).length + (nums nm).length)) : Nat) : Int)) := h3
        replace hb := hb.trans (hC.mono hb.size)
        replace hk11 := blk_ext hk11 hC
        replace hk1 := blk_ext hk1 hC
        replace hk14 := blk_ext hk14 hC
        replace hk15 := blk_ext hk15 hC
        replace hk13 := blk_ext hk13 hC
        replace hr0 := Row.ext hr0 hC
        replace hr2 := Row.ext hr2 hC
        exact Runs.does (r_add (C := (((((((p + 1)) + (uL NB).length)) : Nat) : Int) + ((((0 + (uL (nums nm).length).length + (nums nm).length)) : Nat) : Int))) (congrArg some h1) (congrArg some h3) (by rw [IntKind.wrap_i64]; omega)) ⟨Below.refl _ _, rfl, nofr rfl⟩
      trivial
    · skip
      clear hf fa; intro V w20 fa he10 hp hnb hf
      have hv0 : V 0 = (.pointer (some ⟨b2, 3, none⟩)) := postsHold_at hp 0 rfl
      have hv1 : V 1 = (.int .i64 ((((((p + 1)) + (uL NB).length)) : Nat) : Int)) := postsHold_at hp 1 rfl
      have hv2 : V 2 = (.pointer (some ⟨sb1, 0, none⟩)) := postsHold_at hp 2 rfl
      have hv3 : V 3 = (.int .i64 ((((0 + (uL (nums nm).length).length + (nums nm).length)) : Nat) : Int)) := postsHold_at hp 3 rfl
      have hv4 : V 4 = (.int .i64 (((((((p + 1)) + (uL NB).length)) : Nat) : Int) + ((((0 + (uL (nums nm).length).length + (nums nm).length)) : Nat) : Int))) := postsHold_at hp 4 rfl
      simp only [List.take_succ_cons, List.take_zero, insAll, ins, hv0, hv1, hv2, hv3, hv4] at hf
      clear hp hnb hv0 hv1 hv2 hv3 hv4
      replace hk11 := blk_ext hk11 he10
      replace hk1 := blk_ext hk1 he10
      replace hk14 := blk_ext hk14 he10
      replace hk15 := blk_ext hk15 he10
      replace hk13 := blk_ext hk13 he10
      replace hr0 := Row.ext hr0 he10
      replace hr2 := Row.ext hr2 he10
      replace hb := hb.trans (Below.mono he10 hb.size)
      simp only [List.drop_succ_cons, List.drop_zero]
      refine sqv hf (r_fa rfl Try.underlying119 (f := 3) (q := 3) rfl (by kernel_rfl) rfl) rfl rfl rfl ?_; clear hf fa; intro fa hf
      refine sqn hf (d_storeK (T := 119) (v := (.int .i64 (((((((p + 1)) + (uL NB).length)) : Nat) : Int) + ((((0 + (uL (nums nm).length).length + (nums nm).length)) : Nat) : Int)))) (cs := #[(.int .u8 id), (.string (strOfNums (nums nm))), (.slice none 0 0), (.int .i64 ((((((p + 1)) + (uL NB).length)) : Nat) : Int))]) (cs' := #[(.int .u8 id), (.string (strOfNums (nums nm))), (.slice none 0 0), (.int .i64 (((((((p + 1)) + (uL NB).length)) : Nat) : Int) + ((((0 + (uL (nums nm).length).length + (nums nm).length)) : Nat) : Int)))]) rfl rfl (by kernel_rfl) (by kernel_rfl) hk14 (by kernel_rfl) (by kernel_rfl)) rfl rfl ?_; clear hf fa; rintro fa _ w21 ⟨hk16, hg10⟩ hf
      replace hk11 := blk_grown hk11 hg10 (by omega)
      replace hk1 := blk_grown hk1 hg10 (by omega)
      replace hk15 := blk_grown hk15 hg10 (by omega)
      replace hk13 := blk_grown hk13 hg10 (by omega)
      replace hr0 := Row.grown hr0 hg10 (Row.ne_type hr0 hk14 rfl)
      replace hr2 := Row.grown hr2 hg10 (Row.ne_type hr2 hk14 rfl)
      replace hb := hb.wrote hg10 hb.size (.inr hBb2)
      apply wpList_nil
      (try simp only [Exit.then, Exit.inBlock, ↓reduceIte, Nat.reduceEqDiff])
      refine hK14 _ _ ?_
      refine wp_seq_k (fun K15 hK15 => ?_)
      refine wp_region_unT 3 (fun wq => Below w21.heap.size w21 wq) (fun w w' => Below w.heap.size w w')
        (fun V => [(fun x _ => x = (.pointer (some ⟨sb1, 0, none⟩))), (fun x _ => x = (.pointer (some ⟨sb1, 0, none⟩))), (fun x _ => x = (.int .i64 ((((((uL nm.size ++ nums nm) ++ bd)).length : Nat) : Int) - ((((0 + (uL (nums nm).length).length + (nums nm).length)) : Nat) : Int))))])
        []
        [[], [], [1], [], [], []]
        hf (by kernel_rfl) (by kernel_rfl) (by kernel_rfl) (fun _ => rfl) ((Below.refl _ _).drew) (fun a b h1 h2 => h1.trans (h2.mono h1.size)) (fun _ _ h => h.size) (fun V => ⟨kept_eq, kept_eq, kept_eq, trivial⟩) (fun _ _ _ _ _ => rfl) ?_ ?_
      · skip
        intro V
        refine ⟨fun wu0 hC hd => ?_, ?_⟩
        · clear hd
          replace hb := hb.trans (hC.mono hb.size)
          replace hk11 := blk_ext hk11 hC
          replace hk1 := blk_ext hk1 hC
          replace hk16 := blk_ext hk16 hC
          replace hk15 := blk_ext hk15 hC
          replace hk13 := blk_ext hk13 hC
          replace hr0 := Row.ext hr0 hC
          replace hr2 := Row.ext hr2 hC
          exact Runs.does (r_load (v := (.pointer (some ⟨sb1, 0, none⟩))) rfl Try.underlying87 rfl (cell_blk hk13 rfl)) ⟨Below.refl _ _, rfl, nofr rfl⟩
        refine ⟨fun wu1 hC hd => ?_, ?_⟩
        · clear hd
          replace hb := hb.trans (hC.mono hb.size)
          replace hk11 := blk_ext hk11 hC
          replace hk1 := blk_ext hk1 hC
          replace hk16 := blk_ext hk16 hC
          replace hk15 := blk_ext hk15 hC
          replace hk13 := blk_ext hk13 hC
          replace hr0 := Row.ext hr0 hC
          replace hr2 := Row.ext hr2 hC
          exact Runs.does (r_load (v := (.pointer (some ⟨sb1, 0, none⟩))) rfl Try.underlying87 rfl (cell_blk hk13 rfl)) ⟨Below.refl _ _, rfl, nofr rfl⟩
        refine ⟨fun wu2 hC hd => ?_, ?_⟩
        · obtain ⟨h1, _⟩ := hd
          skip
          replace h1 : V 1 = (.pointer (some ⟨sb1, 0, none⟩)) := h1
          replace hb := hb.trans (hC.mono hb.size)
          replace hk11 := blk_ext hk11 hC
          replace hk1 := blk_ext hk1 hC
          replace hk16 := blk_ext hk16 hC
          replace hk15 := blk_ext hk15 hC
          replace hk13 := blk_ext hk13 hC
          replace hr0 := Row.ext hr0 hC
          replace hr2 := Row.ext hr2 hC
          refine Does.mono (d_callB (vs := [(.pointer (some ⟨sb1, 0, none⟩))]) (show [some (V 1)] = [some (.pointer (some ⟨sb1, 0, none⟩))] from by rw [h1]) Try.func67 (by kernel_rfl) (by kernel_rfl) (left_any sb1 w.heap.size ((0 + (uL (nums nm).length).length + (nums nm).length)) sa1 sc1 ((uL nm.size ++ nums nm) ++ bd) _ hk15 hr2 (by omega))) (fun _ _ h => ⟨h.2, h.1, nofr rfl⟩)
        trivial
      · skip
        clear hf fa; intro V w22 fa he11 hp hnb hf
        have hv0 : V 0 = (.pointer (some ⟨sb1, 0, none⟩)) := postsHold_at hp 0 rfl
        have hv1 : V 1 = (.pointer (some ⟨sb1, 0, none⟩)) := postsHold_at hp 1 rfl
        have hv2 : V 2 = (.int .i64 ((((((uL nm.size ++ nums nm) ++ bd)).length : Nat) : Int) - ((((0 + (uL (nums nm).length).length + (nums nm).length)) : Nat) : Int))) := postsHold_at hp 2 rfl
        simp only [List.take_succ_cons, List.take_zero, insAll, ins, hv0, hv1, hv2] at hf
        clear hp hnb hv0 hv1 hv2
        replace hk11 := blk_ext hk11 he11
        replace hk1 := blk_ext hk1 he11
        replace hk16 := blk_ext hk16 he11
        replace hk15 := blk_ext hk15 he11
        replace hk13 := blk_ext hk13 he11
        replace hr0 := Row.ext hr0 he11
        replace hr2 := Row.ext hr2 he11
        replace hb := hb.trans (Below.mono he11 hb.size)
        simp only [List.drop_succ_cons, List.drop_zero]
        refine sqdt hf (d_callX (vs := [(.pointer (some ⟨sb1, 0, none⟩)), (.int .i64 ((((((uL nm.size ++ nums nm) ++ bd)).length : Nat) : Int) - ((((0 + (uL (nums nm).length).length + (nums nm).length)) : Nat) : Int)))]) rfl Try.func119 (by kernel_rfl) (by kernel_rfl) (sbytes_anyZ sb1 w.heap.size ((0 + (uL (nums nm).length).length + (nums nm).length)) sa1 sc1 ((uL nm.size ++ nums nm) ++ bd) _ hk15 hr2 (by omega) bd hAb (by omega) ((((((uL nm.size ++ nums nm) ++ bd)).length : Nat) : Int) - ((((0 + (uL (nums nm).length).length + (nums nm).length)) : Nat) : Int)) (by omega))) rfl rfl rfl ?_; clear hf fa; rintro fa v w23 ⟨hr3, hk17, hg11⟩ hf
        obtain ⟨ra2, rc2, rfl, hcrc2, hmrc2⟩ := Row.slice hr3
        replace hr3 := Row.rebase hr3 hb.size
        replace hk11 := blk_grown hk11 hg11 (by omega)
        replace hk1 := blk_grown hk1 hg11 (by omega)
        replace hk16 := blk_grown hk16 hg11 (by omega)
        replace hk13 := blk_grown hk13 hg11 (by omega)
        replace hr0 := Row.grown hr0 hg11 (Row.ne_type hr0 hk15 rfl)
        replace hr2 := Row.grown hr2 hg11 (Row.ne_type hr2 hk15 rfl)
        replace hb := hb.wrote hg11 hb.size (.inr hBsb1)
        refine sqv hf (r_fa rfl Try.underlying119 (f := 2) (q := 2) rfl (by kernel_rfl) rfl) rfl rfl rfl ?_; clear hf fa; intro fa hf
        refine sqn hf (d_storeK (T := 119) (v := (.slice ra2 bd.length rc2)) (cs := #[(.int .u8 id), (.string (strOfNums (nums nm))), (.slice none 0 0), (.int .i64 (((((((p + 1)) + (uL NB).length)) : Nat) : Int) + ((((0 + (uL (nums nm).length).length + (nums nm).length)) : Nat) : Int)))]) (cs' := #[(.int .u8 id), (.string (strOfNums (nums nm))), (.slice ra2 bd.length rc2), (.int .i64 (((((((p + 1)) + (uL NB).length)) : Nat) : Int) + ((((0 + (uL (nums nm).length).length + (nums nm).length)) : Nat) : Int)))]) rfl rfl (by kernel_rfl) (by kernel_rfl) hk16 (by kernel_rfl) (by kernel_rfl)) rfl rfl ?_; clear hf fa; rintro fa _ w24 ⟨hk18, hg12⟩ hf
        replace hk11 := blk_grown hk11 hg12 (by omega)
        replace hk1 := blk_grown hk1 hg12 (by omega)
        replace hk17 := blk_grown hk17 hg12 (by omega)
        replace hk13 := blk_grown hk13 hg12 (by omega)
        replace hr0 := Row.grown hr0 hg12 (Row.ne_type hr0 hk16 rfl)
        replace hr2 := Row.grown hr2 hg12 (Row.ne_type hr2 hk16 rfl)
        replace hr3 := Row.grown hr3 hg12 (Row.ne_type hr3 hk16 rfl)
        replace hb := hb.wrote hg12 hb.size (.inr hBb2)
        apply wpList_nil
        (try simp only [Exit.then, Exit.inBlock, ↓reduceIte, Nat.reduceEqDiff])
        refine hK15 _ _ ?_
        refine wp_seq_k (fun K16 hK16 => ?_)
        refine wp_region_lit ?_
        refine sqv hf (r_loadA (cs := [(.int .u8 id), (.string (strOfNums (nums nm))), (.slice ra2 bd.length rc2), (.int .i64 (((((((p + 1)) + (uL NB).length)) : Nat) : Int) + ((((0 + (uL (nums nm).length).length + (nums nm).length)) : Nat) : Int)))]) rfl Try.underlying119 rfl (by kernel_rfl) (cellsAt_blk hk18)) rfl rfl rfl ?_; clear hf fa; intro fa hf
        refine sqn hf (d_storeK (T := 119) (v := (.agg #[(.int .u8 id), (.string (strOfNums (nums nm))), (.slice ra2 bd.length rc2), (.int .i64 (((((((p + 1)) + (uL NB).length)) : Nat) : Int) + ((((0 + (uL (nums nm).length).length + (nums nm).length)) : Nat) : Int)))])) (cs := #[(.int .u8 (0 : Int)), (.string ⟨#[]⟩), (.slice none 0 0), (.int .i64 (0 : Int))]) (cs' := #[(.int .u8 id), (.string (strOfNums (nums nm))), (.slice ra2 bd.length rc2), (.int .i64 (((((((p + 1)) + (uL NB).length)) : Nat) : Int) + ((((0 + (uL (nums nm).length).length + (nums nm).length)) : Nat) : Int)))]) rfl rfl (by kernel_rfl) (by kernel_rfl) hk1 (by kernel_rfl) (by kernel_rfl)) rfl rfl ?_; clear hf fa; rintro fa _ w25 ⟨hk19, hg13⟩ hf
        replace hk11 := blk_grown hk11 hg13 (by omega)
        replace hk18 := blk_grown hk18 hg13 (by omega)
        replace hk17 := blk_grown hk17 hg13 (by omega)
        replace hk13 := blk_grown hk13 hg13 (by omega)
        replace hr0 := Row.grown hr0 hg13 (Row.ne_type hr0 hk1 rfl)
        replace hr2 := Row.grown hr2 hg13 (Row.ne_type hr2 hk1 rfl)
        replace hr3 := Row.grown hr3 hg13 (Row.ne_type hr3 hk1 rfl)
        replace hb := hb.wrote hg13 hb.size (.inr hBb1)
        apply wpList_nil
        (try simp only [Exit.then, Exit.inBlock, ↓reduceIte, Nat.reduceEqDiff])
        refine hK16 _ _ ?_
        refine wp_ret ?_
        (try simp only [Exit.then, Exit.inBlock])
        refine retC hf rfl rfl hk19 Try.underlying119 rfl (by kernel_rfl) ?_
        have hks9 := hk11
        rw [show ((((((p + 1)) + (uL NB).length)) + (((uL nm.size ++ nums nm) ++ bd)).length)) = p + (encX id nm bd).length by rw [hel]; omega] at hks9
        have hnm9 : (strOfNums (nums nm)) = (if id = 0 then nm else ⟨#[]⟩) := by rw [if_pos hi0]; exact strOfNums_nums nm
        refine ⟨_, rfl, _, _, _, by rw [← hnm9], Row.rebase hr3 (by omega), hks9, hb.grown1⟩

set_option maxHeartbeats 1000000 in
set_option maxRecDepth 100000 in
theorem snext_bad (bs base p : Nat) (a : Option Addr) (c : Nat) (l : List Int) (w : World) (hks : w.heap[bs]? = some (.cells #[(.slice a l.length c), (.int .i64 ((p : Nat) : Int))] 161 (0, 0))) (hr0 : Row 1 (vInt .u8) 5 base w (.slice a l.length c) l) (hp : p ≤ l.length) (hb6 : ∀ y ∈ l, 0 ≤ y ∧ y < 256) (hlm : l.length ≤ 1000000) (id : Int) (nm : ByteArray) (bd : List Int) (hA : At l p (encX id nm bd)) (hid : 0 ≤ id ∧ id < 256) (hnm : nm.size ≤ 1000) (hbd : bd.length ≤ 1000) (hbr : ∀ y ∈ bd, 0 ≤ y ∧ y < (256 : Int)) (hbl9 : bs < w.heap.size) (hbad : ¬ (id ≤ 11 ∧ (id = 0 → (nm.size ≤ 200 ∧ 0 ≤ Ut.cnt (Ut.bl nm))))) : Calls Try.prog 154 #[(.pointer (some ⟨bs, 0, none⟩))] w fun e w' => ∃ c, e = .panicked c ∧ (Gave c ∧ w.grownBy w' (some bs)) := by
  have hcap := Row.caps hr0; have hR0lt := fun q hq => (Row.lt hr0 q hq).2
  have hle := hA.le
  have hxl := encX_len id nm bd (by omega) (by omega)
  have hsl := secB_len id nm bd (by omega)
  obtain ⟨NB, hNB⟩ : ∃ NB, NB = (secB id nm bd).length := ⟨_, rfl⟩
  have hA9 : At l p (([id] ++ uL NB) ++ secB id nm bd) := by rw [hNB]; exact hA
  have hel : (encX id nm bd).length = 1 + (uL NB).length + NB := by rw [hNB]; unfold encX; simp only [List.length_append, List.length_cons, List.length_nil]
  rw [← hNB] at hsl
  have hun := uL_len nm.size (by omega)
  have huN := uL_len NB (by omega)
  have hx0 : l[p]? = some id := At.head (At.fst (At.fst hA9))
  have hA2 : At l (p + 1) (uL NB) := At.snd (At.fst hA9)
  have hA3 : At l (p + 1 + (uL NB).length) (secB id nm bd) := At.mv (At.snd hA9) (by simp; omega) rfl
  have hnl := nums_len nm
  have hnr := nums_rng nm
  refine sx_enter (L := [(0, (.pointer (some ⟨bs, 0, none⟩)))]) Try.func154 rfl rfl rfl rfl (fun fa hf => ?_)
  have hb : KS [bs] w.heap.size w w := KS.refl _ _ _
  refine wp_seq_k (fun K1 hK1 => ?_)
  refine wp_region_lit ?_
  refine sqdt hf (d_alloc (z := (.agg #[(.int .u8 (0 : Int)), (.string ⟨#[]⟩), (.slice none 0 0), (.int .i64 (0 : Int))])) (cs := #[(.int .u8 (0 : Int)), (.string ⟨#[]⟩), (.slice none 0 0), (.int .i64 (0 : Int))]) (by kernel_rfl) rfl) rfl rfl rfl ?_; clear hf fa; rintro fa _ w1 ⟨b1, rfl, hle1, hk1, he1⟩ hf
  have hBb1 : w.heap.size ≤ b1 := Nat.le_trans hb.size hle1
  have : bs < b1 := Nat.lt_of_lt_of_le (blk_lt hks) hle1
  replace hks := blk_ext hks he1
  replace hr0 := Row.ext hr0 he1
  replace hb := hb.trans (Below.mono he1 hb.size)
  apply wpList_nil
  (try simp only [Exit.then, Exit.inBlock, ↓reduceIte, Nat.reduceEqDiff])
  refine hK1 _ _ ?_
  refine wp_seq_k (fun K2 hK2 => ?_)
  refine wp_region_lit ?_
  refine sqv hf (r_move rfl) rfl rfl rfl ?_; clear hf fa; intro fa hf
  refine sqdt hf (d_callB (vs := [(.pointer (some ⟨bs, 0, none⟩))]) rfl Try.func126 (by kernel_rfl) (by kernel_rfl) (at_any bs base p a c l _ hks hr0 (by omega))) rfl rfl rfl ?_; clear hf fa; rintro fa _ w2 ⟨rfl, he2⟩ hf
  replace hks := blk_ext hks he2
  replace hk1 := blk_ext hk1 he2
  replace hr0 := Row.ext hr0 he2
  replace hb := hb.trans (Below.mono he2 hb.size)
  refine sqv hf (r_assign rfl) rfl rfl rfl ?_; clear hf fa; intro fa hf
  apply wpList_nil
  (try simp only [Exit.then, Exit.inBlock, ↓reduceIte, Nat.reduceEqDiff])
  refine hK2 _ _ ?_
  refine wp_seq_k (fun K3 hK3 => ?_)
  refine wp_region_lit ?_
  refine sqv hf (r_move rfl) rfl rfl rfl ?_; clear hf fa; intro fa hf
  refine sqdt hf (d_callW (v := (.int .u8 id)) (b := bs) (T := 161) (cs := #[(.slice a l.length c), (.int .i64 (((p + 1) : Nat) : Int))]) (vs := [(.pointer (some ⟨bs, 0, none⟩))]) rfl Try.func61 (by kernel_rfl) (by kernel_rfl) (sbyte_any bs base p a c l _ hks hr0 (by omega) id hx0)) rfl rfl rfl ?_; clear hf fa; rintro fa _ w3 ⟨rfl, hk2, hg1⟩ hf
  replace hk1 := blk_grown hk1 hg1 (by omega)
  replace hr0 := Row.grown hr0 hg1 (Row.ne_type hr0 hks rfl)
  replace hb := hb.wrote hg1 hb.size (.inl (by simp only [List.mem_cons, eq_self, true_or, or_true]))
  refine sqv hf (r_build (vs := [(0, (.int .u8 id))]) (cs := #[(.int .u8 id), (.string ⟨#[]⟩), (.slice none 0 0), (.int .i64 (0 : Int))]) rfl (fun _ => by kernel_rfl)) rfl rfl rfl ?_; clear hf fa; intro fa hf
  refine sqdt hf (d_alloc (z := (.agg #[(.int .u8 (0 : Int)), (.string ⟨#[]⟩), (.slice none 0 0), (.int .i64 (0 : Int))])) (cs := #[(.int .u8 (0 : Int)), (.string ⟨#[]⟩), (.slice none 0 0), (.int .i64 (0 : Int))]) (by kernel_rfl) rfl) rfl rfl rfl ?_; clear hf fa; rintro fa _ w4 ⟨b2, rfl, hle2, hk3, he3⟩ hf
  have hBb2 : w.heap.size ≤ b2 := Nat.le_trans hb.size hle2
  have : bs < b2 := Nat.lt_of_lt_of_le (blk_lt hk2) hle2
  have : b1 < b2 := Nat.lt_of_lt_of_le (blk_lt hk1) hle2
  replace hk2 := blk_ext hk2 he3
  replace hk1 := blk_ext hk1 he3
  replace hr0 := Row.ext hr0 he3
  replace hb := hb.trans (Below.mono he3 hb.size)
  refine sqn hf (d_storeK (T := 119) (v := (.agg #[(.int .u8 id), (.string ⟨#[]⟩), (.slice none 0 0), (.int .i64 (0 : Int))])) (cs := #[(.int .u8 (0 : Int)), (.string ⟨#[]⟩), (.slice none 0 0), (.int .i64 (0 : Int))]) (cs' := #[(.int .u8 id), (.string ⟨#[]⟩), (.slice none 0 0), (.int .i64 (0 : Int))]) rfl rfl (by kernel_rfl) (by kernel_rfl) hk3 (by kernel_rfl) (by kernel_rfl)) rfl rfl ?_; clear hf fa; rintro fa _ w5 ⟨hk4, hg2⟩ hf
  replace hk2 := blk_grown hk2 hg2 (by omega)
  replace hk1 := blk_grown hk1 hg2 (by omega)
  replace hr0 := Row.grown hr0 hg2 (Row.ne_type hr0 hk3 rfl)
  replace hb := hb.wrote hg2 hb.size (.inr hBb2)
  apply wpList_nil
  (try simp only [Exit.then, Exit.inBlock, ↓reduceIte, Nat.reduceEqDiff])
  refine hK3 _ _ ?_
  refine wp_seq_k (fun K4 hK4 => ?_)
  by_cases hsp1 : id ≤ 11
  · have hsp1b : decide (id ≤ 11) = true := decide_eq_true hsp1
    refine wp_region_lit ?_
    refine sqv hf (r_fa rfl Try.underlying119 (f := 0) (q := 0) rfl (by kernel_rfl) rfl) rfl rfl rfl ?_; clear hf fa; intro fa hf
    refine sqv hf (r_load (v := (.int .u8 id)) rfl Try.underlying5 rfl (cell_blk hk4 rfl)) rfl rfl rfl ?_; clear hf fa; intro fa hf
    refine sqv hf (Runs.veq (r_le rfl rfl) (congrArg Value.bool (show _ = true from (decide_eq_true (by have h := hsp1; omega))))) rfl rfl rfl ?_; clear hf fa; intro fa hf
    refine sqv hf (r_move rfl) rfl rfl rfl ?_; clear hf fa; intro fa hf
    refine sqdt hf (d_callB (vs := [(.bool true), (.int .i64 (6 : Int)), (.int .i64 ((p : Nat) : Int))]) rfl Try.func118 (by kernel_rfl) (by kernel_rfl) (unless_any true (6 : Int) ((p : Nat) : Int) _ (by first | rfl | assumption | (simp; done) | (simp; omega)))) rfl rfl rfl ?_; clear hf fa; rintro fa _ w6 ⟨rfl, he4⟩ hf
    replace hk2 := blk_ext hk2 he4
    replace hk1 := blk_ext hk1 he4
    replace hk4 := blk_ext hk4 he4
    replace hr0 := Row.ext hr0 he4
    replace hb := hb.trans (Below.mono he4 hb.size)
    apply wpList_nil
    (try simp only [Exit.then, Exit.inBlock, ↓reduceIte, Nat.reduceEqDiff])
    refine hK4 _ _ ?_
    refine wp_seq_k (fun K5 hK5 => ?_)
    refine wp_region_lit ?_
    refine sqv hf (r_move rfl) rfl rfl rfl ?_; clear hf fa; intro fa hf
    refine sqdt hf (d_callW (v := (.int .u32 ((NB : Nat) : Int))) (b := bs) (T := 161) (cs := #[(.slice a l.length c), (.int .i64 (((((p + 1)) + (uL NB).length) : Nat) : Int))]) (vs := [(.pointer (some ⟨bs, 0, none⟩))]) rfl Try.func121 (by kernel_rfl) (by kernel_rfl) (index_any bs base ((p + 1)) a c l _ hk2 hr0 (by omega) hb6 hlm NB hA2 (by omega))) rfl rfl rfl ?_; clear hf fa; rintro fa _ w7 ⟨rfl, hk5, hg3⟩ hf
    replace hk1 := blk_grown hk1 hg3 (by omega)
    replace hk4 := blk_grown hk4 hg3 (by omega)
    replace hr0 := Row.grown hr0 hg3 (Row.ne_type hr0 hk2 rfl)
    replace hb := hb.wrote hg3 hb.size (.inl (by simp only [List.mem_cons, eq_self, true_or, or_true]))
    refine sqv hf (r_assign rfl) rfl rfl rfl ?_; clear hf fa; intro fa hf
    apply wpList_nil
    (try simp only [Exit.then, Exit.inBlock, ↓reduceIte, Nat.reduceEqDiff])
    refine hK5 _ _ ?_
    refine wp_seq_k (fun K6 hK6 => ?_)
    refine wp_region_lit ?_
    refine sqv hf (r_move rfl) rfl rfl rfl ?_; clear hf fa; intro fa hf
    refine sqv hf (r_conv (C := ((NB : Nat) : Int)) rfl Try.underlying24 Try.underlying55 (by rw [IntKind.wrap_u64]; omega)) rfl rfl rfl ?_; clear hf fa; intro fa hf
    refine sqv hf (r_move rfl) rfl rfl rfl ?_; clear hf fa; intro fa hf
    refine sqdt hf (d_callB (vs := [(.pointer (some ⟨bs, 0, none⟩))]) rfl Try.func67 (by kernel_rfl) (by kernel_rfl) (left_any bs base ((((p + 1)) + (uL NB).length)) a c l _ hk5 hr0 (by omega))) rfl rfl rfl ?_; clear hf fa; rintro fa _ w8 ⟨rfl, he5⟩ hf
    replace hk5 := blk_ext hk5 he5
    replace hk1 := blk_ext hk1 he5
    replace hk4 := blk_ext hk4 he5
    replace hr0 := Row.ext hr0 he5
    replace hb := hb.trans (Below.mono he5 hb.size)
    refine sqv hf (r_conv (C := (((l.length : Nat) : Int) - ((((((p + 1)) + (uL NB).length)) : Nat) : Int))) rfl Try.underlying3 Try.underlying55 (by rw [IntKind.wrap_u64]; omega)) rfl rfl rfl ?_; clear hf fa; intro fa hf
    refine sqv hf (Runs.veq (r_le rfl rfl) (congrArg Value.bool (show _ = true from (decide_eq_true (by omega))))) rfl rfl rfl ?_; clear hf fa; intro fa hf
    refine sqv hf (r_move rfl) rfl rfl rfl ?_; clear hf fa; intro fa hf
    refine sqdt hf (d_callB (vs := [(.pointer (some ⟨bs, 0, none⟩))]) rfl Try.func126 (by kernel_rfl) (by kernel_rfl) (at_any bs base ((((p + 1)) + (uL NB).length)) a c l _ hk5 hr0 (by omega))) rfl rfl rfl ?_; clear hf fa; rintro fa _ w9 ⟨rfl, he6⟩ hf
    replace hk5 := blk_ext hk5 he6
    replace hk1 := blk_ext hk1 he6
    replace hk4 := blk_ext hk4 he6
    replace hr0 := Row.ext hr0 he6
    replace hb := hb.trans (Below.mono he6 hb.size)
    refine sqdt hf (d_callB (vs := [(.bool true), (.int .i64 (2 : Int)), (.int .i64 ((((((p + 1)) + (uL NB).length)) : Nat) : Int))]) rfl Try.func118 (by kernel_rfl) (by kernel_rfl) (unless_any true (2 : Int) ((((((p + 1)) + (uL NB).length)) : Nat) : Int) _ (by first | rfl | assumption | (simp; done) | (simp; omega)))) rfl rfl rfl ?_; clear hf fa; rintro fa _ w10 ⟨rfl, he7⟩ hf
    replace hk5 := blk_ext hk5 he7
    replace hk1 := blk_ext hk1 he7
    replace hk4 := blk_ext hk4 he7
    replace hr0 := Row.ext hr0 he7
    replace hb := hb.trans (Below.mono he7 hb.size)
    apply wpList_nil
    (try simp only [Exit.then, Exit.inBlock, ↓reduceIte, Nat.reduceEqDiff])
    refine hK6 _ _ ?_
    refine wp_seq_k (fun K7 hK7 => ?_)
    refine wp_region_lit ?_
    refine sqv hf (r_move rfl) rfl rfl rfl ?_; clear hf fa; intro fa hf
    refine sqdt hf (d_callB (vs := [(.pointer (some ⟨bs, 0, none⟩))]) rfl Try.func126 (by kernel_rfl) (by kernel_rfl) (at_any bs base ((((p + 1)) + (uL NB).length)) a c l _ hk5 hr0 (by omega))) rfl rfl rfl ?_; clear hf fa; rintro fa _ w11 ⟨rfl, he8⟩ hf
    replace hk5 := blk_ext hk5 he8
    replace hk1 := blk_ext hk1 he8
    replace hk4 := blk_ext hk4 he8
    replace hr0 := Row.ext hr0 he8
    replace hb := hb.trans (Below.mono he8 hb.size)
    refine sqv hf (r_fa rfl Try.underlying119 (f := 3) (q := 3) rfl (by kernel_rfl) rfl) rfl rfl rfl ?_; clear hf fa; intro fa hf
    refine sqn hf (d_storeK (T := 119) (v := (.int .i64 ((((((p + 1)) + (uL NB).length)) : Nat) : Int))) (cs := #[(.int .u8 id), (.string ⟨#[]⟩), (.slice none 0 0), (.int .i64 (0 : Int))]) (cs' := #[(.int .u8 id), (.string ⟨#[]⟩), (.slice none 0 0), (.int .i64 ((((((p + 1)) + (uL NB).length)) : Nat) : Int))]) rfl rfl (by kernel_rfl) (by kernel_rfl) hk4 (by kernel_rfl) (by kernel_rfl)) rfl rfl ?_; clear hf fa; rintro fa _ w12 ⟨hk6, hg4⟩ hf
    replace hk5 := blk_grown hk5 hg4 (by omega)
    replace hk1 := blk_grown hk1 hg4 (by omega)
    replace hr0 := Row.grown hr0 hg4 (Row.ne_type hr0 hk4 rfl)
    replace hb := hb.wrote hg4 hb.size (.inr hBb2)
    apply wpList_nil
    (try simp only [Exit.then, Exit.inBlock, ↓reduceIte, Nat.reduceEqDiff])
    refine hK7 _ _ ?_
    refine wp_seq_k (fun K8 hK8 => ?_)
    refine wp_seq_k (fun K9 hK9 => ?_)
    refine wp_region_lit ?_
    refine sqv hf (r_fa rfl Try.underlying119 (f := 0) (q := 0) rfl (by kernel_rfl) rfl) rfl rfl rfl ?_; clear hf fa; intro fa hf
    refine sqv hf (r_load (v := (.int .u8 id)) rfl Try.underlying5 rfl (cell_blk hk6 rfl)) rfl rfl rfl ?_; clear hf fa; intro fa hf
    refine sqv hf (r_ne rfl rfl) rfl rfl rfl ?_; clear hf fa; intro fa hf
    apply wpList_nil
    (try simp only [Exit.then, Exit.inBlock, ↓reduceIte, Nat.reduceEqDiff])
    refine hK9 _ _ ?_
    refine wp_cond_split (t := (decide (id ≠ (0 : Int)))) (hf.ev rfl) (fun hqt33_1 => ?_) (fun hqt33_1 => ?_)
    · have hqt33_1b := hqt33_1
      try simp only [decide_eq_true_eq, Bool.and_eq_true, Bool.or_eq_true, Bool.not_eq_true', decide_eq_false_iff_not, ne_eq, Bool.not_eq_true] at hqt33_1
      refine wp_seq_k (fun K10 hK10 => ?_)
      have hSb : secB id nm bd = bd := by unfold secB; rw [if_neg hqt33_1]
      have hNB2 : NB = bd.length := by rw [hNB, hSb]
      refine wp_region_lit ?_
      refine sqv hf (r_move rfl) rfl rfl rfl ?_; clear hf fa; intro fa hf
      refine sqv hf (r_move rfl) rfl rfl rfl ?_; clear hf fa; intro fa hf
      refine sqv hf (r_conv (C := ((NB : Nat) : Int)) rfl Try.underlying24 Try.underlying3 (by rw [IntKind.wrap_i64]; omega)) rfl rfl rfl ?_; clear hf fa; intro fa hf
      refine sqdt hf (d_callX (vs := [(.pointer (some ⟨bs, 0, none⟩)), (.int .i64 ((NB : Nat) : Int))]) rfl Try.func119 (by kernel_rfl) (by kernel_rfl) (sbytes_anyZ bs base ((((p + 1)) + (uL NB).length)) a c l _ hk5 hr0 (by omega) bd (by rw [← hSb]; exact hA3) (by omega) ((NB : Nat) : Int) (by rw [hNB, hSb]))) rfl rfl rfl ?_; clear hf fa; rintro fa v w13 ⟨hr1, hk7, hg5⟩ hf
      obtain ⟨ra1, rc1, rfl, hcrc1, hmrc1⟩ := Row.slice hr1
      replace hr1 := Row.rebase hr1 hb.size
      replace hk1 := blk_grown hk1 hg5 (by omega)
      replace hk6 := blk_grown hk6 hg5 (by omega)
      replace hr0 := Row.grown hr0 hg5 (Row.ne_type hr0 hk5 rfl)
      replace hb := hb.wrote hg5 hb.size (.inl (by simp only [List.mem_cons, eq_self, true_or, or_true]))
      refine sqv hf (r_fa rfl Try.underlying119 (f := 2) (q := 2) rfl (by kernel_rfl) rfl) rfl rfl rfl ?_; clear hf fa; intro fa hf
      refine sqn hf (d_storeK (T := 119) (v := (.slice ra1 bd.length rc1)) (cs := #[(.int .u8 id), (.string ⟨#[]⟩), (.slice none 0 0), (.int .i64 ((((((p + 1)) + (uL NB).length)) : Nat) : Int))]) (cs' := #[(.int .u8 id), (.string ⟨#[]⟩), (.slice ra1 bd.length rc1), (.int .i64 ((((((p + 1)) + (uL NB).length)) : Nat) : Int))]) rfl rfl (by kernel_rfl) (by kernel_rfl) hk6 (by kernel_rfl) (by kernel_rfl)) rfl rfl ?_; clear hf fa; rintro fa _ w14 ⟨hk8, hg6⟩ hf
      replace hk7 := blk_grown hk7 hg6 (by omega)
      replace hk1 := blk_grown hk1 hg6 (by omega)
      replace hr0 := Row.grown hr0 hg6 (Row.ne_type hr0 hk6 rfl)
      replace hr1 := Row.grown hr1 hg6 (Row.ne_type hr1 hk6 rfl)
      replace hb := hb.wrote hg6 hb.size (.inr hBb2)
      apply wpList_nil
      (try simp only [Exit.then, Exit.inBlock, ↓reduceIte, Nat.reduceEqDiff])
      refine hK10 _ _ ?_
      refine wp_seq_k (fun K11 hK11 => ?_)
      refine wp_region_lit ?_
      refine sqv hf (r_loadA (cs := [(.int .u8 id), (.string ⟨#[]⟩), (.slice ra1 bd.length rc1), (.int .i64 ((((((p + 1)) + (uL NB).length)) : Nat) : Int))]) rfl Try.underlying119 rfl (by kernel_rfl) (cellsAt_blk hk8)) rfl rfl rfl ?_; clear hf fa; intro fa hf
      refine sqn hf (d_storeK (T := 119) (v := (.agg #[(.int .u8 id), (.string ⟨#[]⟩), (.slice ra1 bd.length rc1), (.int .i64 ((((((p + 1)) + (uL NB).length)) : Nat) : Int))])) (cs := #[(.int .u8 (0 : Int)), (.string ⟨#[]⟩), (.slice none 0 0), (.int .i64 (0 : Int))]) (cs' := #[(.int .u8 id), (.string ⟨#[]⟩), (.slice ra1 bd.length rc1), (.int .i64 ((((((p + 1)) + (uL NB).length)) : Nat) : Int))]) rfl rfl (by kernel_rfl) (by kernel_rfl) hk1 (by kernel_rfl) (by kernel_rfl)) rfl rfl ?_; clear hf fa; rintro fa _ w15 ⟨hk9, hg7⟩ hf
      replace hk7 := blk_grown hk7 hg7 (by omega)
      replace hk8 := blk_grown hk8 hg7 (by omega)
      replace hr0 := Row.grown hr0 hg7 (Row.ne_type hr0 hk1 rfl)
      replace hr1 := Row.grown hr1 hg7 (Row.ne_type hr1 hk1 rfl)
      replace hb := hb.wrote hg7 hb.size (.inr hBb1)
      apply wpList_nil
      (try simp only [Exit.then, Exit.inBlock, ↓reduceIte, Nat.reduceEqDiff])
      refine hK11 _ _ ?_
      refine wp_ret ?_
      (try simp only [Exit.then, Exit.inBlock])
      refine retC hf rfl rfl hk9 Try.underlying119 rfl (by kernel_rfl) ?_
      exfalso; exact hbad ⟨hsp1, fun h => absurd h hqt33_1⟩
    · have hqt33_1b := hqt33_1
      replace hqt33_1 := Bool.eq_false_iff.1 hqt33_1
      try simp only [ne_eq, decide_eq_true_eq, Bool.and_eq_true, Bool.or_eq_true, Bool.not_eq_true', decide_eq_false_iff_not] at hqt33_1
      refine wp_skip ?_
      (try simp only [Exit.then, Exit.inBlock, ↓reduceIte, Nat.reduceEqDiff])
      refine hK8 _ _ ?_
      refine wp_seq_k (fun K12 hK12 => ?_)
      have hi0 : id = 0 := Classical.not_not.1 hqt33_1
      have hS : secB id nm bd = ((uL nm.size ++ nums nm) ++ bd) := by unfold secB; rw [if_pos hi0]
      have hAs : At l (p + 1 + (uL NB).length) ((uL nm.size ++ nums nm) ++ bd) := by rw [← hS]; exact hA3
      have hSl : ((uL nm.size ++ nums nm) ++ bd).length = NB := by rw [hNB, hS]
      have hb6s : ∀ y ∈ ((uL nm.size ++ nums nm) ++ bd), 0 ≤ y ∧ y < (256 : Int) := by
        intro y hy
        rcases List.mem_append.1 hy with hy | hy
        · rcases List.mem_append.1 hy with hy | hy
          · exact uL_rng _ y hy
          · exact hnr y hy
        · exact hbr y hy
      have hlms : ((uL nm.size ++ nums nm) ++ bd).length ≤ 1000000 := by omega
      have hAn : At ((uL nm.size ++ nums nm) ++ bd) 0 (uL (nums nm).length ++ (nums nm)) := by rw [hnl]; exact At.fst (At.all _)
      have hlnx : ((uL nm.size ++ nums nm) ++ bd).length = (uL nm.size).length + nm.size + bd.length := by simp only [List.length_append, nums_len]
      have hul : (uL (nums nm).length).length = (uL nm.size).length := by rw [hnl]
      have hAb : At ((uL nm.size ++ nums nm) ++ bd) (0 + (uL (nums nm).length).length + (nums nm).length) bd := At.mv (At.snd (X := uL nm.size ++ nums nm) (At.all _)) (by simp only [List.length_append, nums_len]; omega) rfl
      have hbad9 : ¬ ((nums nm).length ≤ 200 ∧ 0 ≤ Ut.cnt ((nums nm).map Int.toNat)) := by rw [hnl, ← bl_nums]; intro h; exact hbad ⟨by omega, fun _ => h⟩
      refine wp_region_lit ?_
      refine sqv hf (r_move rfl) rfl rfl rfl ?_; clear hf fa; intro fa hf
      refine sqv hf (r_move rfl) rfl rfl rfl ?_; clear hf fa; intro fa hf
      refine sqv hf (r_conv (C := ((NB : Nat) : Int)) rfl Try.underlying24 Try.underlying3 (by rw [IntKind.wrap_i64]; omega)) rfl rfl rfl ?_; clear hf fa; intro fa hf
      refine sqdt hf (d_callX (vs := [(.pointer (some ⟨bs, 0, none⟩)), (.int .i64 ((NB : Nat) : Int))]) rfl Try.func62 (by kernel_rfl) (by kernel_rfl) (ssub_anyZ bs base ((((p + 1)) + (uL NB).length)) a c l _ hk5 hr0 (by omega) ((uL nm.size ++ nums nm) ++ bd) hAs (by omega) ((NB : Nat) : Int) (by rw [hSl]))) rfl rfl rfl ?_; clear hf fa; rintro fa _ w16 ⟨sb1, sa1, sc1, rfl, hle3, hk10, hr2, hk11, hg8⟩ hf
      have hBsb1 : w.heap.size ≤ sb1 := Nat.le_trans hb.size hle3
      have : bs < sb1 := Nat.lt_of_lt_of_le (blk_lt hk5) hle3
      have : b1 < sb1 := Nat.lt_of_lt_of_le (blk_lt hk1) hle3
      have : b2 < sb1 := Nat.lt_of_lt_of_le (blk_lt hk6) hle3
      replace hr2 := Row.rebase hr2 hb.size
      replace hk1 := blk_grown hk1 hg8 (by omega)
      replace hk6 := blk_grown hk6 hg8 (by omega)
      replace hr0 := Row.grown hr0 hg8 (Row.ne_type hr0 hk5 rfl)
      replace hb := hb.wrote hg8 hb.size (.inl (by simp only [List.mem_cons, eq_self, true_or, or_true]))
      refine sqdt hf (d_alloc (z := (.pointer none)) (cs := #[(.pointer none)]) (by kernel_rfl) rfl) rfl rfl rfl ?_; clear hf fa; rintro fa _ w17 ⟨b3, rfl, hle4, hk12, he9⟩ hf
      have hBb3 : w.heap.size ≤ b3 := Nat.le_trans hb.size hle4
      have : bs < b3 := Nat.lt_of_lt_of_le (blk_lt hk11) hle4
      have : b1 < b3 := Nat.lt_of_lt_of_le (blk_lt hk1) hle4
      have : b2 < b3 := Nat.lt_of_lt_of_le (blk_lt hk6) hle4
      have : sb1 < b3 := Nat.lt_of_lt_of_le (blk_lt hk10) hle4
      replace hk11 := blk_ext hk11 he9
      replace hk1 := blk_ext hk1 he9
      replace hk6 := blk_ext hk6 he9
      replace hk10 := blk_ext hk10 he9
      replace hr0 := Row.ext hr0 he9
      replace hr2 := Row.ext hr2 he9
      replace hb := hb.trans (Below.mono he9 hb.size)
      refine sqn hf (d_storeK (T := 87) (v := (.pointer (some ⟨sb1, 0, none⟩))) (cs := #[(.pointer none)]) (cs' := #[(.pointer (some ⟨sb1, 0, none⟩))]) rfl rfl (by kernel_rfl) (by kernel_rfl) hk12 (by kernel_rfl) (by kernel_rfl)) rfl rfl ?_; clear hf fa; rintro fa _ w18 ⟨hk13, hg9⟩ hf
      replace hk11 := blk_grown hk11 hg9 (by omega)
      replace hk1 := blk_grown hk1 hg9 (by omega)
      replace hk6 := blk_grown hk6 hg9 (by omega)
      replace hk10 := blk_grown hk10 hg9 (by omega)
      replace hr0 := Row.grown hr0 hg9 (Row.ne_type hr0 hk12 rfl)
      replace hr2 := Row.grown hr2 hg9 (Row.ne_type hr2 hk12 rfl)
      replace hb := hb.wrote hg9 hb.size (.inr hBb3)
      apply wpList_nil
      (try simp only [Exit.then, Exit.inBlock, ↓reduceIte, Nat.reduceEqDiff])
      refine hK12 _ _ ?_
      refine wp_seq_k (fun K13 hK13 => ?_)
      refine wp_region_lit ?_
      refine sqv hf (r_fa rfl Try.underlying119 (f := 3) (q := 3) rfl (by kernel_rfl) rfl) rfl rfl rfl ?_; clear hf fa; intro fa hf
      refine sqv hf (r_load (v := (.int .i64 ((((((p + 1)) + (uL NB).length)) : Nat) : Int))) rfl Try.underlying3 rfl (cell_blk hk6 rfl)) rfl rfl rfl ?_; clear hf fa; intro fa hf
      refine sqv hf (r_makeFunc (vs := [(.pointer (some ⟨b3, 0, none⟩)), (.pointer (some ⟨b2, 0, none⟩))]) rfl) rfl rfl rfl ?_; clear hf fa; intro fa hf
      refine sq_panic hf (vs := [(.int .i64 ((((((p + 1)) + (uL NB).length)) : Nat) : Int)), (.func (.func 162) #[] #[(.pointer (some ⟨b3, 0, none⟩)), (.pointer (some ⟨b2, 0, none⟩))])]) rfl Try.func136 (by kernel_rfl) (by kernel_rfl) (within_bad ((((((p + 1)) + (uL NB).length)) : Nat) : Int) 162 _ b2 sb1 _ (enters Try.func162 (by kernel_rfl) (by kernel_rfl)) (blk_lt hk6) (blk_lt hk10) (fun w1 hw1 hlt => in_next_bad b3 b2 sb1 w.heap.size 0 sa1 sc1 ((uL nm.size ++ nums nm) ++ bd) _ _ (nums nm) w1 (by omega) (by omega) (by have := hw1.size; have := blk_lt hk13; omega) (blk_ext hk10 hw1) (Row.ext hr2 hw1) (Nat.zero_le _) hb6s hlms (blk_ext hk13 hw1) (blk_ext hk6 hw1) hAn (by omega) hnr hbad9)) ?_; rintro c9 w19 ⟨hgv1, hkp1⟩
      replace hk11 := blk_ks hk11 hkp1 (by simp only [List.mem_cons, List.not_mem_nil, or_false]; omega)
      replace hk1 := blk_ks hk1 hkp1 (by simp only [List.mem_cons, List.not_mem_nil, or_false]; omega)
      replace hk13 := blk_ks hk13 hkp1 (by simp only [List.mem_cons, List.not_mem_nil, or_false]; omega)
      replace hr0 := Row.ks hr0 hkp1 (fun q hq => by simp only [List.mem_cons, List.not_mem_nil, or_false] at hq; rcases hq with rfl | rfl; exact (Row.ne_type hr0 hk6 rfl); exact (Row.ne_type hr0 hk10 rfl))
      replace hr2 := Row.ks hr2 hkp1 (fun q hq => by simp only [List.mem_cons, List.not_mem_nil, or_false] at hq; rcases hq with rfl | rfl; exact (Row.ne_type hr2 hk6 rfl); exact (Row.ne_type hr2 hk10 rfl))
      replace hb := hb.many hkp1 (by intro q hq; simp only [List.mem_cons, List.not_mem_nil, or_false] at hq ⊢; omega) hb.size
      exact And.intro hf.defers ⟨_, rfl, hgv1, hb.grown1⟩
  · have hsp1b : decide (id ≤ 11) = false := decide_eq_false hsp1
    refine wp_region_lit ?_
    refine sqv hf (r_fa rfl Try.underlying119 (f := 0) (q := 0) rfl (by kernel_rfl) rfl) rfl rfl rfl ?_; clear hf fa; intro fa hf
    refine sqv hf (r_load (v := (.int .u8 id)) rfl Try.underlying5 rfl (cell_blk hk4 rfl)) rfl rfl rfl ?_; clear hf fa; intro fa hf
    refine sqv hf (Runs.veq (r_le rfl rfl) (congrArg Value.bool (show _ = false from (decide_eq_false (by have h := hsp1; omega))))) rfl rfl rfl ?_; clear hf fa; intro fa hf
    refine sqv hf (r_move rfl) rfl rfl rfl ?_; clear hf fa; intro fa hf
    refine sq_panic hf (vs := [(.bool false), (.int .i64 (6 : Int)), (.int .i64 ((p : Nat) : Int))]) rfl Try.func118 (by kernel_rfl) (by kernel_rfl) (unless_bad (6 : Int) ((p : Nat) : Int) _ (by decide)) ?_; rintro c9 w20 ⟨hgv2, hkp2⟩
    replace hk2 := blk_ext hk2 hkp2
    replace hk1 := blk_ext hk1 hkp2
    replace hk4 := blk_ext hk4 hkp2
    replace hr0 := Row.ext hr0 hkp2
    replace hb := hb.trans (Below.mono hkp2 hb.size)
    exact And.intro hf.defers ⟨_, rfl, hgv2, hb.grown1⟩
end Go.Proofs.Ytcmdajkkdognfaa

namespace Go.Proofs.Ytcmdajkkdognfaa
open Go.RowKit
set_option linter.unusedVariables false
set_option linter.unusedSimpArgs false
/-- A section as the law draws it. -/
structure SecP (x : MSec) : Prop where
  id : 0 ≤ x.1 ∧ x.1 < 256
  nm : x.2.1.size ≤ 1000
  bd : x.2.2.1.list.length ≤ 1000
  rng : ∀ y ∈ x.2.2.1.list, 0 ≤ y ∧ y < (256 : Int)
def okS (last : Int) (x : MSec) : Bool := if x.1 = 0 then decide (x.2.1.size ≤ 200 ∧ 0 ≤ Ut.cnt (Ut.bl x.2.1)) else decide (last < x.1 ∧ x.1 ≤ 11)
def nxS (last : Int) (x : MSec) : Int := if x.1 = 0 then last else x.1
def riseR : Int → List MSec → Bool
  | _, [] => true
  | last, x :: l => okS last x && riseR (nxS last x) l
theorem rise_yes {R : Bool} {l : List MSec} {k : Nat} {y : MSec} {last : Int} (hy : l[k]? = some y) (hR : R = riseR last (l.drop k)) (h : okS last y = true) : R = riseR (nxS last y) (l.drop (k + 1)) := by
  rw [hR, drop_atS hy, riseR, h, Bool.true_and]
theorem rise_no {R : Bool} {l : List MSec} {k : Nat} {y : MSec} {last : Int} (hy : l[k]? = some y) (hR : R = riseR last (l.drop k)) (h : okS last y = false) : R = false := by
  rw [hR, drop_atS hy, riseR, h, Bool.false_and]
def OkN (y : MSec) : Prop := y.1 ≤ 11 ∧ (y.1 = 0 → y.2.1.size ≤ 200 ∧ 0 ≤ Ut.cnt (Ut.bl y.2.1))
instance (y : MSec) : Decidable (OkN y) := by unfold OkN; exact inferInstance
theorem okS_bad {y : MSec} {last : Int} (h : ¬ OkN y) : okS last y = false := by
  unfold okS
  by_cases c : y.1 = 0
  · rw [if_pos c]
    exact decide_eq_false (fun h2 => h ⟨by omega, fun _ => h2⟩)
  · rw [if_neg c]
    exact decide_eq_false (fun h2 => h ⟨h2.2, fun h3 => absurd h3 c⟩)
theorem okS_bad2 {y : MSec} {last : Int} (h0 : y.1 ≠ 0) (h : ¬ last < y.1) : okS last y = false := by
  unfold okS
  rw [if_neg h0]
  exact decide_eq_false (fun h2 => h h2.1)
theorem okS_good {y : MSec} {last : Int} (h : OkN y) (h2 : y.1 ≠ 0 → last < y.1) : okS last y = true := by
  unfold okS
  by_cases c : y.1 = 0
  · rw [if_pos c]; exact decide_eq_true (h.2 c)
  · rw [if_neg c]; exact decide_eq_true ⟨h2 c, h.1⟩
def flatS (l : List MSec) : List Int := l.flatMap encS
theorem joinL_flat (l : List MSec) : joinL l = headL ++ flatS l := by
  have h : ∀ (l : List MSec) (a : List Int), l.foldl (fun a x => a ++ encS x) a = a ++ flatS l := by
    intro l
    induction l with
    | nil => intro a; exact (List.append_nil a).symm
    | cons x l ih =>
      intro a
      rw [List.foldl_cons, ih]
      show a ++ encS x ++ flatS l = a ++ (encS x ++ flatS l)
      rw [List.append_assoc]
  exact h l headL
theorem flatS_drop {l : List MSec} {k : Nat} {y : MSec} (hy : l[k]? = some y) : flatS (l.drop k) = encS y ++ flatS (l.drop (k + 1)) := by
  rw [drop_atS hy]; rfl
theorem encS_len {x : MSec} (h : SecP x) : 2 ≤ (encS x).length ∧ (encS x).length ≤ 2100 := by
  have h1 := encX_len x.1 x.2.1 x.2.2.1.list (by have := h.nm; omega) (by have := h.bd; omega)
  have := h.nm
  have := h.bd
  unfold encS
  omega
theorem flatS_len (l : List MSec) (h : ∀ x ∈ l, SecP x) : 2 * l.length ≤ (flatS l).length ∧ (flatS l).length ≤ 2100 * l.length := by
  induction l with
  | nil => exact ⟨Nat.le_refl _, Nat.le_refl _⟩
  | cons x l ih =>
    have h1 := ih (fun y hy => h y (List.mem_cons_of_mem _ hy))
    have h2 := encS_len (h x (List.mem_cons_self ..))
    show _ ≤ (encS x ++ flatS l).length ∧ (encS x ++ flatS l).length ≤ _
    rw [List.length_append, List.length_cons]
    omega
theorem joinL_rng (l : List MSec) (h : ∀ x ∈ l, SecP x) : ∀ y ∈ joinL l, 0 ≤ y ∧ y < (256 : Int) := by
  rw [joinL_flat]
  intro y hy
  rcases List.mem_append.1 hy with hy | hy
  · unfold headL at hy
    simp only [List.mem_cons, List.not_mem_nil, or_false] at hy
    omega
  · unfold flatS at hy
    obtain ⟨x, hx, hy⟩ := List.mem_flatMap.1 hy
    exact encX_rng x.1 x.2.1 x.2.2.1.list (h x hx).id (h x hx).rng y hy
/-- Sections whose bytes lie in rows of their own. -/
def SRel (B : Nat) (w : World) (X : List MSec) : Prop := ∀ d ∈ X, Row 1 (vInt .u8) 5 B w (.slice d.2.2.1.at' d.2.2.1.len d.2.2.1.cap) d.2.2.1.list
theorem SRel.nil {B : Nat} {w : World} : SRel B w [] := fun d hd => by cases hd
theorem SRel.rd {B : Nat} {w : World} {X : List MSec} (h : SRel B w X) {d : MSec} (hd : d ∈ X) : RdS 1 (vInt .u8) w d.2.2.1.at' d.2.2.1.list := Row.rd (by intros; rfl) (h d hd)
theorem SRel.map {B : Nat} {w w' : World} {X : List MSec} (h : SRel B w X) (f : ∀ (bf : Nat) (cs : Array Value), w.heap[bf]? = some (Obj.cells cs 5 (0, 0)) → w'.heap[bf]? = some (Obj.cells cs 5 (0, 0))) : SRel B w' X := by
  intro d hd
  have hr := h d hd
  refine ⟨hr.1, ?_⟩
  rcases hr.2 with hz | ⟨g, cap, cur, e, hb, hgg, rest⟩
  · exact .inl hz
  · exact .inr ⟨g, cap, cur, e, hb, f g cur hgg, rest⟩
theorem SRel.ext {B : Nat} {w w' : World} {X : List MSec} (h : SRel B w X) (hb : Below w.heap.size w w') : SRel B w' X := h.map (fun bf cs hbf => blk_ext hbf hb)
theorem SRel.rebase {B B2 : Nat} {w : World} {X : List MSec} (h : SRel B w X) (hB : B2 ≤ B) : SRel B2 w X := fun d hd => Row.rebase (h d hd) hB
def mkS (id : Int) (nm : ByteArray) (bd : List Int) (a : Option Addr) (c : Nat) (at1 : Int) : MSec := (id, nm, ⟨a, bd.length, c, fun j => bd.getD j 0⟩, at1, ())
theorem mkS_list (id : Int) (nm : ByteArray) (bd : List Int) (a : Option Addr) (c : Nat) (at1 : Int) : (mkS id nm bd a c at1).2.2.1.list = bd := by
  show (List.range bd.length).map (fun j => bd.getD j 0) = bd
  apply List.ext_getElem?
  intro i
  rw [List.getElem?_map]
  by_cases hi : i < bd.length
  · rw [List.getElem?_range hi, List.getElem?_eq_getElem hi]
    show some (bd.getD i 0) = _
    rw [List.getD_eq_getElem?_getD, List.getElem?_eq_getElem hi]; rfl
  · rw [List.getElem?_eq_none (by rw [List.length_range]; omega), List.getElem?_eq_none (by omega)]; rfl
theorem SRel.snoc {B : Nat} {w : World} {X : List MSec} (h : SRel B w X) {id at1 : Int} {nm : ByteArray} {bd : List Int} {a : Option Addr} {c : Nat} (hr : Row 1 (vInt .u8) 5 B w (.slice a bd.length c) bd) : SRel B w (X ++ [mkS id nm bd a c at1]) := by
  intro d hd
  rcases List.mem_append.1 hd with hd | hd
  · exact h d hd
  · rw [List.mem_singleton] at hd
    subst hd
    rw [mkS_list]
    exact hr
def keyB (x : MSec) : Int × ByteArray × List Int := (x.1, (if x.1 = 0 then x.2.1 else ⟨#[]⟩), x.2.2.1.list)
theorem keyB_snoc {X l : List MSec} {k : Nat} {y : MSec} (h : X.map keyB = (l.take k).map keyB) (hy : l[k]? = some y) (a : Option Addr) (c : Nat) (at1 : Int) : (X ++ [mkS y.1 (if y.1 = 0 then y.2.1 else ⟨#[]⟩) y.2.2.1.list a c at1]).map keyB = (l.take (k + 1)).map keyB := by
  rw [List.map_append, h, List.take_add_one, hy, List.map_append]
  show _ ++ [keyB (mkS _ _ _ a c at1)] = _ ++ [keyB y]
  have e : keyB (mkS y.1 (if y.1 = 0 then y.2.1 else ⟨#[]⟩) y.2.2.1.list a c at1) = keyB y := by
    unfold keyB
    rw [mkS_list]
    show (y.1, (if y.1 = 0 then (if y.1 = 0 then y.2.1 else ⟨#[]⟩) else ⟨#[]⟩), y.2.2.1.list) = _
    by_cases c : y.1 = 0
    · rw [if_pos c, if_pos c]
    · rw [if_neg c, if_neg c]
  rw [e]

set_option maxHeartbeats 1000000 in
set_option maxRecDepth 100000 in
theorem all_any (l : List MSec) (a : Option Addr) (c : Nat) (w : World) (hl : RdS 1 (vInt .u8) w a (joinL l)) (hc : (joinL l).length ≤ c) (hcm : c ≤ maxLen) (hn : a = none → c = 0) (hm : l.length ≤ 30) (hP : ∀ x ∈ l, SecP x) : Calls Try.prog 133 #[(.slice a ((joinL l).length) c)] w fun e w' => (riseR 0 l = true ∧ ∃ v, e = .returned v ∧ ∃ (X : List MSec) (aX : Option Addr) (cX : Nat), v = .slice aX X.length cX ∧ Row 4 vMSec 119 w.heap.size w' (.slice aX X.length cX) X ∧ SRel w.heap.size w' X ∧ X.map keyB = l.map keyB ∧ Below w.heap.size w w') ∨ (riseR 0 l = false ∧ ∃ c, e = .panicked c ∧ (Gave c ∧ Below w.heap.size w w')) := by
  have hhl : headL.length = 8 := rfl
  have hfl0 := flatS_len l hP
  have hjl : (joinL l).length = 8 + (flatS l).length := by rw [joinL_flat, List.length_append]; rfl
  have hlm : (joinL l).length ≤ 1000000 := by omega
  have hb6 := joinL_rng l hP
  have hAh : At (joinL l) 0 headL := by rw [joinL_flat]; exact At.fst (At.all _)
  refine sx_enter (L := [(0, (.slice a ((joinL l).length) c))]) Try.func133 rfl rfl rfl rfl (fun fa hf => ?_)
  have hb : Below w.heap.size w w := Below.refl _ _
  refine wp_seq_k (fun K1 hK1 => ?_)
  refine wp_region_lit ?_
  refine sqv hf (r_assign rfl) rfl rfl rfl ?_; clear hf fa; intro fa hf
  apply wpList_nil
  (try simp only [Exit.then, Exit.inBlock, ↓reduceIte, Nat.reduceEqDiff])
  refine hK1 _ _ ?_
  refine wp_seq_k (fun K2 hK2 => ?_)
  refine wp_region_lit ?_
  refine sqv hf (r_move rfl) rfl rfl rfl ?_; clear hf fa; intro fa hf
  refine sqv hf (r_lensl rfl Try.underlying47) rfl rfl rfl ?_; clear hf fa; intro fa hf
  refine sqv hf (Runs.veq (r_le rfl rfl) (congrArg Value.bool (show _ = true from (decide_eq_true (by omega))))) rfl rfl rfl ?_; clear hf fa; intro fa hf
  refine sqdt hf (d_callB (vs := [(.bool true), (.int .i64 (13 : Int)), (.int .i64 (0 : Int))]) rfl Try.func118 (by kernel_rfl) (by kernel_rfl) (unless_any true (13 : Int) (0 : Int) _ (by first | rfl | assumption | (simp; done) | (simp; omega)))) rfl rfl rfl ?_; clear hf fa; rintro fa _ w1 ⟨rfl, he1⟩ hf
  replace hb := hb.trans (Below.mono he1 hb.size)
  apply wpList_nil
  (try simp only [Exit.then, Exit.inBlock, ↓reduceIte, Nat.reduceEqDiff])
  refine hK2 _ _ ?_
  refine wp_seq_k (fun K3 hK3 => ?_)
  refine wp_region_lit ?_
  refine sqv hf (r_move rfl) rfl rfl rfl ?_; clear hf fa; intro fa hf
  refine sqdt hf (d_callX (vs := [(.slice a ((joinL l).length) c)]) rfl Try.func58 (by kernel_rfl) (by kernel_rfl) (over_any a c (joinL l) _ (RdS.ext hl hb) (by first | omega | (simp only [Sl.list_length, List.length_set, List.length_take, List.length_append, List.length_replicate, List.length_cons, List.length_nil, List.length_map, nums_len]; omega)) hn)) rfl rfl rfl ?_; clear hf fa; rintro fa _ w2 ⟨sb1, sa1, sc1, rfl, hle1, hk1, hr1, he2⟩ hf
  have hBsb1 : w.heap.size ≤ sb1 := Nat.le_trans hb.size hle1
  replace hr1 := Row.rebase hr1 hb.size
  replace hb := hb.trans (Below.mono he2 hb.size)
  refine sqv hf (r_assign rfl) rfl rfl rfl ?_; clear hf fa; intro fa hf
  apply wpList_nil
  (try simp only [Exit.then, Exit.inBlock, ↓reduceIte, Nat.reduceEqDiff])
  refine hK3 _ _ ?_
  refine wp_seq_k (fun K4 hK4 => ?_)
  refine wp_region_lit ?_
  refine sqv hf (r_move rfl) rfl rfl rfl ?_; clear hf fa; intro fa hf
  refine sqdt hf (d_callB (vs := [(.pointer (some ⟨sb1, 0, none⟩))]) rfl Try.func67 (by kernel_rfl) (by kernel_rfl) (left_any sb1 w.heap.size 0 sa1 sc1 (joinL l) _ hk1 hr1 (by omega))) rfl rfl rfl ?_; clear hf fa; rintro fa _ w3 ⟨rfl, he3⟩ hf
  replace hk1 := blk_ext hk1 he3
  replace hr1 := Row.ext hr1 he3
  replace hb := hb.trans (Below.mono he3 hb.size)
  refine sqv hf (Runs.veq (r_ge rfl rfl) (congrArg Value.bool (show _ = true from (decide_eq_true (by omega))))) rfl rfl rfl ?_; clear hf fa; intro fa hf
  refine sqv hf (r_move rfl) rfl rfl rfl ?_; clear hf fa; intro fa hf
  refine sqdt hf (d_callB (vs := [(.pointer (some ⟨sb1, 0, none⟩))]) rfl Try.func67 (by kernel_rfl) (by kernel_rfl) (left_any sb1 w.heap.size 0 sa1 sc1 (joinL l) _ hk1 hr1 (by omega))) rfl rfl rfl ?_; clear hf fa; rintro fa _ w4 ⟨rfl, he4⟩ hf
  replace hk1 := blk_ext hk1 he4
  replace hr1 := Row.ext hr1 he4
  replace hb := hb.trans (Below.mono he4 hb.size)
  refine sqdt hf (d_callB (vs := [(.bool true), (.int .i64 (2 : Int)), (.int .i64 (((((joinL l)).length : Nat) : Int) - ((0 : Nat) : Int)))]) rfl Try.func118 (by kernel_rfl) (by kernel_rfl) (unless_any true (2 : Int) (((((joinL l)).length : Nat) : Int) - ((0 : Nat) : Int)) _ (by first | rfl | assumption | (simp; done) | (simp; omega)))) rfl rfl rfl ?_; clear hf fa; rintro fa _ w5 ⟨rfl, he5⟩ hf
  replace hk1 := blk_ext hk1 he5
  replace hr1 := Row.ext hr1 he5
  replace hb := hb.trans (Below.mono he5 hb.size)
  apply wpList_nil
  (try simp only [Exit.then, Exit.inBlock, ↓reduceIte, Nat.reduceEqDiff])
  refine hK4 _ _ ?_
  refine wp_seq_k (fun K5 hK5 => ?_)
  refine wp_region_lit ?_
  refine sqv hf (r_move rfl) rfl rfl rfl ?_; clear hf fa; intro fa hf
  refine sqdt hf (d_callX (vs := [(.pointer (some ⟨sb1, 0, none⟩)), (.int .i64 (8 : Int))]) rfl Try.func119 (by kernel_rfl) (by kernel_rfl) (sbytes_anyZ sb1 w.heap.size 0 sa1 sc1 (joinL l) _ hk1 hr1 (by omega) headL hAh (by omega) (8 : Int) rfl)) rfl rfl rfl ?_; clear hf fa; rintro fa v w6 ⟨hr2, hk2, hg1⟩ hf
  obtain ⟨ra1, rc1, rfl, hcrc1, hmrc1⟩ := Row.slice hr2
  replace hr2 := Row.rebase hr2 hb.size
  replace hr1 := Row.grown hr1 hg1 (Row.ne_type hr1 hk1 rfl)
  replace hb := hb.trans (grown_below hg1 hb.size hBsb1)
  refine sqv hf (r_rowstr rfl Try.underlying47 Try.underlying5 Try.underlying9 hr2) rfl rfl rfl ?_; clear hf fa; intro fa hf
  refine sqv hf (Runs.veq (r_seq rfl rfl) (congrArg Value.bool (show _ = true from (by decide)))) rfl rfl rfl ?_; clear hf fa; intro fa hf
  refine sqdt hf (d_callB (vs := [(.bool true), (.int .i64 (5 : Int)), (.int .i64 (0 : Int))]) rfl Try.func118 (by kernel_rfl) (by kernel_rfl) (unless_any true (5 : Int) (0 : Int) _ (by first | rfl | assumption | (simp; done) | (simp; omega)))) rfl rfl rfl ?_; clear hf fa; rintro fa _ w7 ⟨rfl, he6⟩ hf
  replace hk2 := blk_ext hk2 he6
  replace hr1 := Row.ext hr1 he6
  replace hr2 := Row.ext hr2 he6
  replace hb := hb.trans (Below.mono he6 hb.size)
  apply wpList_nil
  (try simp only [Exit.then, Exit.inBlock, ↓reduceIte, Nat.reduceEqDiff])
  refine hK5 _ _ ?_
  refine wp_seq_k (fun K6 hK6 => ?_)
  refine wp_region_lit ?_
  refine sqv hf (r_assign rfl) rfl rfl rfl ?_; clear hf fa; intro fa hf
  apply wpList_nil
  (try simp only [Exit.then, Exit.inBlock, ↓reduceIte, Nat.reduceEqDiff])
  refine hK6 _ _ ?_
  refine wp_seq_k (fun K7 hK7 => ?_)
  refine wp_region_lit ?_
  obtain ⟨rb1, rfl, hbbrb1, hlbrb1⟩ := Row.some hr1 (by omega)
  have hIR : SRel w.heap.size w7 [] := SRel.nil
  refine sqv hf (r_assign rfl) rfl rfl rfl ?_; clear hf fa; intro fa hf
  apply wpList_nil
  (try simp only [Exit.then, Exit.inBlock, ↓reduceIte, Nat.reduceEqDiff])
  refine hK7 _ _ ?_
  refine wp_seq_k (fun K8 hK8 => ?_)
  refine wp_block ?_
  refine wp_loop_k (fun mq fa wr => ∃ (k : Nat) (pos : Nat) (last : Int) (X : List MSec) (roa : Option Addr) (roc : Nat), mq = l.length - k ∧ Fr 53 fa [(3, (.pointer (some ⟨sb1, 0, none⟩))), (5, (.int .u8 last)), (4, (.slice roa X.length roc))] ∧ Below w.heap.size w wr ∧ Row 4 vMSec 119 (w.heap.size) wr (.slice roa (X.length) roc) X ∧ Row 1 (vInt .u8) 5 (w.heap.size) wr (.slice (some ⟨rb1, 0, none⟩) ((((joinL l)).length)) sc1) (joinL l) ∧ wr.heap[sb1]? = some (.cells #[(.slice (some ⟨rb1, 0, none⟩) (((joinL l)).length) sc1), (.int .i64 ((pos : Nat) : Int))] 161 (0, 0)) ∧ (k ≤ l.length) ∧ (At (joinL l) pos (flatS (l.drop k))) ∧ (pos + (flatS (l.drop k)).length = (joinL l).length) ∧ (riseR 0 l = riseR last (l.drop k)) ∧ (X.map keyB = (l.take k).map keyB) ∧ (X.length = k) ∧ (SRel w.heap.size wr X)) ?_ ?_
  · skip
    exact ⟨_, 0, ((0 + headL.length)), 0, [], none, 0, rfl, hf.sub ⟨rfl, (some_int (by first | rfl | omega)), (some_sl (by first | omega | rfl | (simp only [List.length_append, List.length_cons, List.length_nil]; omega) | (simp <;> omega)) rfl), trivial⟩, hb, Row.nil, hr1, hk2, by omega, (At.mv (At.snd (X := headL) (by rw [← joinL_flat]; exact At.all _)) (by show 0 + 8 = _; omega) rfl), (by rw [List.drop_zero]; omega), rfl, rfl, rfl, hIR⟩
  · skip
    clear hf fa; intro mq1 fa w8 hI KL1 hKL1
    clear hb
    clear hk2
    clear hr1
    clear hr2
    obtain ⟨k, pos, last, X, roa, roc, hmq1, hf, hb, hro, hssb1, hksb1, hk, hAt, hps, Hs, hXk, hXl, hIR⟩ := hI
    have hcro := Row.caps hro
    have hcssb1 := Row.caps hssb1
    have hdl := flatS_len (l.drop k) (fun x hx => hP x (List.mem_of_mem_drop hx))
    rw [List.length_drop] at hdl
    have hpl := hAt.le
    refine wp_seq_k (fun K9 hK9 => ?_)
    refine wp_seq_k (fun K10 hK10 => ?_)
    refine wp_region_lit ?_
    refine sqv hf (r_move rfl) rfl rfl rfl ?_; clear hf fa; intro fa hf
    refine sqdt hf (d_callB (vs := [(.pointer (some ⟨sb1, 0, none⟩))]) rfl Try.func116 (by kernel_rfl) (by kernel_rfl) (done_any sb1 w.heap.size pos (some ⟨rb1, 0, none⟩) sc1 (joinL l) _ hksb1 hssb1 (by omega))) rfl rfl rfl ?_; clear hf fa; rintro fa _ w9 ⟨rfl, he7⟩ hf
    replace hksb1 := blk_ext hksb1 he7
    replace hro := Row.ext hro he7
    replace hssb1 := Row.ext hssb1 he7
    replace hIR := SRel.map hIR (fun bf cs hbf => blk_ext hbf he7)
    replace hb := hb.trans (Below.mono he7 hb.size)
    refine sqv hf (r_not rfl) rfl rfl rfl ?_; clear hf fa; intro fa hf
    apply wpList_nil
    (try simp only [Exit.then, Exit.inBlock, ↓reduceIte, Nat.reduceEqDiff])
    refine hK10 _ _ ?_
    refine wp_cond_split (t := (!(decide (((((joinL l)).length : Nat) : Int) - ((pos : Nat) : Int) = (0 : Int))))) (hf.ev rfl) (fun hqt27_1 => ?_) (fun hqt27_1 => ?_)
    · have hqt27_1b := hqt27_1
      try simp only [decide_eq_true_eq, Bool.and_eq_true, Bool.or_eq_true, Bool.not_eq_true', decide_eq_false_iff_not, ne_eq, Bool.not_eq_true] at hqt27_1
      refine wp_skip ?_
      (try simp only [Exit.then, Exit.inBlock, ↓reduceIte, Nat.reduceEqDiff])
      refine hK9 _ _ ?_
      refine wp_block ?_
      refine wp_seq_k (fun K11 hK11 => ?_)
      have hkk : k < l.length := by
        rcases Nat.lt_or_ge k l.length with h | h
        · exact h
        · exfalso
          rw [List.drop_eq_nil_of_le h] at hps
          have h9 := hqt27_1
          have h8 : (flatS []).length = 0 := rfl
          omega
      obtain ⟨y, hy⟩ : ∃ y, l[k]? = some y := ⟨_, List.getElem?_eq_getElem hkk⟩
      have hym := List.mem_of_getElem? hy
      have hfl := flatS_drop hy
      have hAy : At (joinL l) pos (encX y.1 y.2.1 y.2.2.1.list) := by rw [hfl] at hAt; exact At.fst hAt
      have hAr : At (joinL l) (pos + (encX y.1 y.2.1 y.2.2.1.list).length) (flatS (l.drop (k + 1))) := by rw [hfl] at hAt; exact At.snd hAt
      have hle9 := hAr.le
      refine wp_region_lit ?_
      refine sqv hf (r_move rfl) rfl rfl rfl ?_; clear hf fa; intro fa hf
      refine sqdt hf (d_callB (vs := [(.pointer (some ⟨sb1, 0, none⟩))]) rfl Try.func126 (by kernel_rfl) (by kernel_rfl) (at_any sb1 w.heap.size pos (some ⟨rb1, 0, none⟩) sc1 (joinL l) _ hksb1 hssb1 (by omega))) rfl rfl rfl ?_; clear hf fa; rintro fa _ w10 ⟨rfl, he8⟩ hf
      replace hksb1 := blk_ext hksb1 he8
      replace hro := Row.ext hro he8
      replace hssb1 := Row.ext hssb1 he8
      replace hIR := SRel.map hIR (fun bf cs hbf => blk_ext hbf he8)
      replace hb := hb.trans (Below.mono he8 hb.size)
      refine sqv hf (r_assign rfl) rfl rfl rfl ?_; clear hf fa; intro fa hf
      apply wpList_nil
      (try simp only [Exit.then, Exit.inBlock, ↓reduceIte, Nat.reduceEqDiff])
      refine hK11 _ _ ?_
      refine wp_seq_k (fun K12 hK12 => ?_)
      by_cases hsp1 : OkN y
      · have hsp1b : decide (OkN y) = true := decide_eq_true hsp1
        refine wp_region_lit ?_
        refine sqv hf (r_move rfl) rfl rfl rfl ?_; clear hf fa; intro fa hf
        refine sqdt hf (d_callX (vs := [(.pointer (some ⟨sb1, 0, none⟩))]) rfl Try.func154 (by kernel_rfl) (by kernel_rfl) (snext_ok sb1 w.heap.size pos (some ⟨rb1, 0, none⟩) sc1 (joinL l) _ hksb1 hssb1 (by omega) hb6 hlm y.1 y.2.1 y.2.2.1.list hAy (hP y hym).id (hP y hym).nm (hP y hym).bd (hP y hym).rng (blk_lt hksb1) hsp1)) rfl rfl rfl ?_; clear hf fa; rintro fa _ w11 ⟨na1, nc1, nt1, rfl, hr3, hk3, hg2⟩ hf
        replace hr3 := Row.rebase hr3 hb.size
        replace hro := Row.grown hro hg2 (Row.ne_type hro hksb1 rfl)
        replace hssb1 := Row.grown hssb1 hg2 (Row.ne_type hssb1 hksb1 rfl)
        replace hIR := SRel.map hIR (fun bf cs hbf => blk_grown hbf hg2 (blk_ty hbf hksb1 rfl))
        replace hb := hb.trans (grown_below hg2 hb.size hBsb1)
        refine sqdt hf (d_alloc (z := (.agg #[(.int .u8 (0 : Int)), (.string ⟨#[]⟩), (.slice none 0 0), (.int .i64 (0 : Int))])) (cs := #[(.int .u8 (0 : Int)), (.string ⟨#[]⟩), (.slice none 0 0), (.int .i64 (0 : Int))]) (by kernel_rfl) rfl) rfl rfl rfl ?_; clear hf fa; rintro fa _ w12 ⟨b1, rfl, hle2, hk4, he9⟩ hf
        have hBb1 : w.heap.size ≤ b1 := Nat.le_trans hb.size hle2
        have : sb1 < b1 := Nat.lt_of_lt_of_le (blk_lt hk3) hle2
        have hnr1 : (Value.slice roa (X.length) roc).ownBlock ≠ some b1 := fun hq => by have := (Row.lt hro _ hq).2; omega
        have hnl1 : ∀ q, (Value.slice roa (X.length) roc).ownBlock = some q → q < b1 := fun q hq => Nat.lt_of_lt_of_le (Row.lt hro q hq).2 hle2
        have : rb1 < b1 := Nat.lt_of_lt_of_le (Row.lt hssb1 _ rfl).2 hle2
        replace hk3 := blk_ext hk3 he9
        replace hro := Row.ext hro he9
        replace hssb1 := Row.ext hssb1 he9
        replace hr3 := Row.ext hr3 he9
        replace hIR := SRel.map hIR (fun bf cs hbf => blk_ext hbf he9)
        replace hb := hb.trans (Below.mono he9 hb.size)
        refine sqn hf (d_storeK (T := 119) (v := (.agg #[(.int .u8 y.1), (.string (if y.1 = 0 then y.2.1 else ⟨#[]⟩)), (.slice na1 ((y.2.2.1.list.length)) nc1), (.int .i64 nt1)])) (cs := #[(.int .u8 (0 : Int)), (.string ⟨#[]⟩), (.slice none 0 0), (.int .i64 (0 : Int))]) (cs' := #[(.int .u8 y.1), (.string (if y.1 = 0 then y.2.1 else ⟨#[]⟩)), (.slice na1 ((y.2.2.1.list.length)) nc1), (.int .i64 nt1)]) rfl rfl (by kernel_rfl) (by kernel_rfl) hk4 (by kernel_rfl) (by kernel_rfl)) rfl rfl ?_; clear hf fa; rintro fa _ w13 ⟨hk5, hg3⟩ hf
        replace hk3 := blk_grown hk3 hg3 (by omega)
        replace hro := Row.grown hro hg3 hnr1
        replace hssb1 := Row.grown hssb1 hg3 (Row.ne_type hssb1 hk4 rfl)
        replace hr3 := Row.grown hr3 hg3 (Row.ne_type hr3 hk4 rfl)
        replace hIR := SRel.map hIR (fun bf cs hbf => blk_grown hbf hg3 (blk_ty hbf hk4 rfl))
        replace hb := hb.trans (grown_below hg3 hb.size hBb1)
        apply wpList_nil
        (try simp only [Exit.then, Exit.inBlock, ↓reduceIte, Nat.reduceEqDiff])
        refine hK12 _ _ ?_
        refine wp_seq_k (fun K13 hK13 => ?_)
        refine wp_seq_k (fun K14 hK14 => ?_)
        refine wp_region_lit ?_
        refine sqv hf (r_fa rfl Try.underlying119 (f := 0) (q := 0) rfl (by kernel_rfl) rfl) rfl rfl rfl ?_; clear hf fa; intro fa hf
        refine sqv hf (r_load (v := (.int .u8 y.1)) rfl Try.underlying5 rfl (cell_blk hk5 rfl)) rfl rfl rfl ?_; clear hf fa; intro fa hf
        refine sqv hf (r_ne rfl rfl) rfl rfl rfl ?_; clear hf fa; intro fa hf
        apply wpList_nil
        (try simp only [Exit.then, Exit.inBlock, ↓reduceIte, Nat.reduceEqDiff])
        refine hK14 _ _ ?_
        refine wp_cond_split (t := (decide (y.1 ≠ (0 : Int)))) (hf.ev rfl) (fun hqt34_1 => ?_) (fun hqt34_1 => ?_)
        · have hqt34_1b := hqt34_1
          try simp only [decide_eq_true_eq, Bool.and_eq_true, Bool.or_eq_true, Bool.not_eq_true', decide_eq_false_iff_not, ne_eq, Bool.not_eq_true] at hqt34_1
          refine wp_seq_k (fun K15 hK15 => ?_)
          by_cases hsp2 : last < y.1
          · have hsp2b : decide (last < y.1) = true := decide_eq_true hsp2
            refine wp_region_lit ?_
            refine sqv hf (r_fa rfl Try.underlying119 (f := 0) (q := 0) rfl (by kernel_rfl) rfl) rfl rfl rfl ?_; clear hf fa; intro fa hf
            refine sqv hf (r_load (v := (.int .u8 y.1)) rfl Try.underlying5 rfl (cell_blk hk5 rfl)) rfl rfl rfl ?_; clear hf fa; intro fa hf
            refine sqv hf (r_move rfl) rfl rfl rfl ?_; clear hf fa; intro fa hf
            refine sqv hf (Runs.veq (r_gt rfl rfl) (congrArg Value.bool (show _ = true from (decide_eq_true hsp2)))) rfl rfl rfl ?_; clear hf fa; intro fa hf
            refine sqv hf (r_move rfl) rfl rfl rfl ?_; clear hf fa; intro fa hf
            refine sqdt hf (d_callB (vs := [(.bool true), (.int .i64 (6 : Int)), (.int .i64 ((pos : Nat) : Int))]) rfl Try.func118 (by kernel_rfl) (by kernel_rfl) (unless_any true (6 : Int) ((pos : Nat) : Int) _ (by first | rfl | assumption | (simp; done) | (simp; omega)))) rfl rfl rfl ?_; clear hf fa; rintro fa _ w14 ⟨rfl, he10⟩ hf
            replace hk3 := blk_ext hk3 he10
            replace hk5 := blk_ext hk5 he10
            replace hro := Row.ext hro he10
            replace hssb1 := Row.ext hssb1 he10
            replace hr3 := Row.ext hr3 he10
            replace hIR := SRel.map hIR (fun bf cs hbf => blk_ext hbf he10)
            replace hb := hb.trans (Below.mono he10 hb.size)
            apply wpList_nil
            (try simp only [Exit.then, Exit.inBlock, ↓reduceIte, Nat.reduceEqDiff])
            refine hK15 _ _ ?_
            refine wp_region_lit ?_
            refine sqv hf (r_fa rfl Try.underlying119 (f := 0) (q := 0) rfl (by kernel_rfl) rfl) rfl rfl rfl ?_; clear hf fa; intro fa hf
            refine sqv hf (r_load (v := (.int .u8 y.1)) rfl Try.underlying5 rfl (cell_blk hk5 rfl)) rfl rfl rfl ?_; clear hf fa; intro fa hf
            refine sqv hf (r_assign rfl) rfl rfl rfl ?_; clear hf fa; intro fa hf
            apply wpList_nil
            (try simp only [Exit.then, Exit.inBlock, ↓reduceIte, Nat.reduceEqDiff])
            refine hK13 _ _ ?_
            refine wp_seq_k (fun K16 hK16 => ?_)
            refine wp_region_lit ?_
            refine sqv hf (r_move rfl) rfl rfl rfl ?_; clear hf fa; intro fa hf
            refine sqv hf (r_lensl rfl Try.underlying116) rfl rfl rfl ?_; clear hf fa; intro fa hf
            refine sqv hf (Runs.veq (r_lt rfl rfl) (congrArg Value.bool (show _ = true from (decide_eq_true (by omega))))) rfl rfl rfl ?_; clear hf fa; intro fa hf
            refine sqv hf (r_move rfl) rfl rfl rfl ?_; clear hf fa; intro fa hf
            refine sqdt hf (d_callB (vs := [(.bool true), (.int .i64 (29 : Int)), (.int .i64 ((pos : Nat) : Int))]) rfl Try.func118 (by kernel_rfl) (by kernel_rfl) (unless_any true (29 : Int) ((pos : Nat) : Int) _ (by first | rfl | assumption | (simp; done) | (simp; omega)))) rfl rfl rfl ?_; clear hf fa; rintro fa _ w15 ⟨rfl, he11⟩ hf
            replace hk3 := blk_ext hk3 he11
            replace hk5 := blk_ext hk5 he11
            replace hro := Row.ext hro he11
            replace hssb1 := Row.ext hssb1 he11
            replace hr3 := Row.ext hr3 he11
            replace hIR := SRel.map hIR (fun bf cs hbf => blk_ext hbf he11)
            replace hb := hb.trans (Below.mono he11 hb.size)
            apply wpList_nil
            (try simp only [Exit.then, Exit.inBlock, ↓reduceIte, Nat.reduceEqDiff])
            refine hK16 _ _ ?_
            refine wp_region_lit ?_
            refine sqv hf (r_move rfl) rfl rfl rfl ?_; clear hf fa; intro fa hf
            refine sqv hf (r_loadA (cs := [(.int .u8 y.1), (.string (if y.1 = 0 then y.2.1 else ⟨#[]⟩)), (.slice na1 ((y.2.2.1.list.length)) nc1), (.int .i64 nt1)]) rfl Try.underlying119 rfl (by kernel_rfl) (cellsAt_blk hk5)) rfl rfl rfl ?_; clear hf fa; intro fa hf
            refine sqdt hf (d_bslice (z := (.agg #[(.int .u8 (0 : Int)), (.string ⟨#[]⟩), (.slice none 0 0), (.int .i64 (0 : Int))])) (sz := 4) (vs := [(0, (.agg #[(.int .u8 y.1), (.string (if y.1 = 0 then y.2.1 else ⟨#[]⟩)), (.slice na1 ((y.2.2.1.list.length)) nc1), (.int .i64 nt1)]))]) (cs := #[(.int .u8 y.1), (.string (if y.1 = 0 then y.2.1 else ⟨#[]⟩)), (.slice na1 ((y.2.2.1.list.length)) nc1), (.int .i64 nt1)]) rfl Try.underlying116 (by kernel_rfl) rfl (by kernel_rfl)) rfl rfl rfl ?_; clear hf fa; rintro fa _ w16 ⟨b2, rfl, hle3, hk6, he12⟩ hf
            have hBb2 : w.heap.size ≤ b2 := Nat.le_trans hb.size hle3
            have : sb1 < b2 := Nat.lt_of_lt_of_le (blk_lt hk3) hle3
            have : b1 < b2 := Nat.lt_of_lt_of_le (blk_lt hk5) hle3
            have hnr2 : (Value.slice roa (X.length) roc).ownBlock ≠ some b2 := fun hq => by have := (Row.lt hro _ hq).2; omega
            have hnl2 : ∀ q, (Value.slice roa (X.length) roc).ownBlock = some q → q < b2 := fun q hq => Nat.lt_of_lt_of_le (Row.lt hro q hq).2 hle3
            have : rb1 < b2 := Nat.lt_of_lt_of_le (Row.lt hssb1 _ rfl).2 hle3
            replace hk3 := blk_ext hk3 he12
            replace hk5 := blk_ext hk5 he12
            replace hro := Row.ext hro he12
            replace hssb1 := Row.ext hssb1 he12
            replace hr3 := Row.ext hr3 he12
            replace hIR := SRel.map hIR (fun bf cs hbf => blk_ext hbf he12)
            replace hb := hb.trans (Below.mono he12 hb.size)
            have hs1 := Row.rd (by intros; rfl) (Row.of_new (k := 4) (V := vMSec) (l := [(mkS y.1 (if y.1 = 0 then y.2.1 else ⟨#[]⟩) y.2.2.1.list na1 nc1 nt1)]) hk6 (Nat.le_refl _) rfl rfl (Nat.le_of_ble_eq_true rfl))
            refine sqdt hf (d_append (V := vMSec) (k := 4) (e := 119) (bytes := 56) (z := (.agg #[(.int .u8 (0 : Int)), (.string ⟨#[]⟩), (.slice none 0 0), (.int .i64 (0 : Int))])) (news := [(mkS y.1 (if y.1 = 0 then y.2.1 else ⟨#[]⟩) y.2.2.1.list na1 nc1 nt1)]) (base := w.heap.size) (by intros; rfl) (by exact oneMSec) rfl rfl Try.underlying116 (by kernel_rfl) rfl rfl rfl hro hs1 rfl (fun h => by cases h) (by first | omega | (simp only [List.length_cons, List.length_nil, List.length_append, nums_len]; omega)) (by have := hb.size; omega)) rfl rfl rfl ?_; clear hf fa; rintro fa v w17 ⟨hr4, hg4⟩ hf; obtain ⟨ra2, rc2, rfl, hcrc2, hmrc2⟩ := Row.slice hr4
            replace hk3 := blk_row' hk3 hg4 (Row.ne_type hro hk3 rfl)
            replace hk5 := blk_row' hk5 hg4 hnr1
            replace hssb1 := Row.grown' hssb1 hg4 (Row.ne_row hssb1 hro rfl)
            replace hr3 := Row.grown' hr3 hg4 (Row.ne_row hr3 hro rfl)
            replace hIR := SRel.map hIR (fun bf cs hbf => blk_row' hbf hg4 (Row.ne_type hro hbf rfl))
            replace hb := hb.trans (row_below hro hg4 hb.size (by have := hb.size; omega))
            refine sqv hf (r_assign rfl) rfl rfl rfl ?_; clear hf fa; intro fa hf
            apply wpList_nil
            (try simp only [Exit.then, Exit.inBlock, ↓reduceIte, Nat.reduceEqDiff])
            refine hKL1 _ _ _ (by omega) ⟨(k + 1), ((pos + (encX y.1 y.2.1 y.2.2.1.list).length)), y.1, (X ++ [(mkS y.1 (if y.1 = 0 then y.2.1 else ⟨#[]⟩) y.2.2.1.list na1 nc1 nt1)]), ra2, rc2, rfl, hf.sub ⟨rfl, rfl, (some_sl (by first | omega | rfl | (simp only [List.length_append, List.length_cons, List.length_nil]; omega) | (simp <;> omega)) rfl), trivial⟩, hb, (Row.relen hr4), hssb1, hk3, by omega, hAr, (by have h := congrArg List.length hfl; rw [List.length_append] at h; have h2 : (encS y).length = (encX y.1 y.2.1 y.2.2.1.list).length := rfl; omega), (by have h := rise_yes hy Hs (okS_good hsp1 (fun _ => hsp2)); rw [show nxS last y = y.1 from (by unfold nxS; rw [if_neg hqt34_1])] at h; exact h), (keyB_snoc hXk hy _ _ _), (by rw [List.length_append, hXl]; rfl), (SRel.snoc hIR hr3)⟩
          · have hsp2b : decide (last < y.1) = false := decide_eq_false hsp2
            refine wp_region_lit ?_
            refine sqv hf (r_fa rfl Try.underlying119 (f := 0) (q := 0) rfl (by kernel_rfl) rfl) rfl rfl rfl ?_; clear hf fa; intro fa hf
            refine sqv hf (r_load (v := (.int .u8 y.1)) rfl Try.underlying5 rfl (cell_blk hk5 rfl)) rfl rfl rfl ?_; clear hf fa; intro fa hf
            refine sqv hf (r_move rfl) rfl rfl rfl ?_; clear hf fa; intro fa hf
            refine sqv hf (Runs.veq (r_gt rfl rfl) (congrArg Value.bool (show _ = false from (decide_eq_false hsp2)))) rfl rfl rfl ?_; clear hf fa; intro fa hf
            refine sqv hf (r_move rfl) rfl rfl rfl ?_; clear hf fa; intro fa hf
            refine sq_panic hf (vs := [(.bool false), (.int .i64 (6 : Int)), (.int .i64 ((pos : Nat) : Int))]) rfl Try.func118 (by kernel_rfl) (by kernel_rfl) (unless_bad (6 : Int) ((pos : Nat) : Int) _ (by decide)) ?_; rintro c9 w18 ⟨hgv1, hkp1⟩
            replace hk3 := blk_ext hk3 hkp1
            replace hk5 := blk_ext hk5 hkp1
            replace hro := Row.ext hro hkp1
            replace hssb1 := Row.ext hssb1 hkp1
            replace hr3 := Row.ext hr3 hkp1
            replace hIR := SRel.map hIR (fun bf cs hbf => blk_ext hbf hkp1)
            replace hb := hb.trans (Below.mono hkp1 hb.size)
            exact And.intro hf.defers (.inr ⟨rise_no hy Hs (okS_bad2 hqt34_1 hsp2), _, rfl, hgv1, hb⟩)
        · have hqt34_1b := hqt34_1
          replace hqt34_1 := Bool.eq_false_iff.1 hqt34_1
          try simp only [ne_eq, decide_eq_true_eq, Bool.and_eq_true, Bool.or_eq_true, Bool.not_eq_true', decide_eq_false_iff_not] at hqt34_1
          refine wp_skip ?_
          (try simp only [Exit.then, Exit.inBlock, ↓reduceIte, Nat.reduceEqDiff])
          refine hK13 _ _ ?_
          refine wp_seq_k (fun K17 hK17 => ?_)
          refine wp_region_lit ?_
          refine sqv hf (r_move rfl) rfl rfl rfl ?_; clear hf fa; intro fa hf
          refine sqv hf (r_lensl rfl Try.underlying116) rfl rfl rfl ?_; clear hf fa; intro fa hf
          refine sqv hf (Runs.veq (r_lt rfl rfl) (congrArg Value.bool (show _ = true from (decide_eq_true (by omega))))) rfl rfl rfl ?_; clear hf fa; intro fa hf
          refine sqv hf (r_move rfl) rfl rfl rfl ?_; clear hf fa; intro fa hf
          refine sqdt hf (d_callB (vs := [(.bool true), (.int .i64 (29 : Int)), (.int .i64 ((pos : Nat) : Int))]) rfl Try.func118 (by kernel_rfl) (by kernel_rfl) (unless_any true (29 : Int) ((pos : Nat) : Int) _ (by first | rfl | assumption | (simp; done) | (simp; omega)))) rfl rfl rfl ?_; clear hf fa; rintro fa _ w19 ⟨rfl, he13⟩ hf
          replace hk3 := blk_ext hk3 he13
          replace hk5 := blk_ext hk5 he13
          replace hro := Row.ext hro he13
          replace hssb1 := Row.ext hssb1 he13
          replace hr3 := Row.ext hr3 he13
          replace hIR := SRel.map hIR (fun bf cs hbf => blk_ext hbf he13)
          replace hb := hb.trans (Below.mono he13 hb.size)
          apply wpList_nil
          (try simp only [Exit.then, Exit.inBlock, ↓reduceIte, Nat.reduceEqDiff])
          refine hK17 _ _ ?_
          refine wp_region_lit ?_
          refine sqv hf (r_move rfl) rfl rfl rfl ?_; clear hf fa; intro fa hf
          refine sqv hf (r_loadA (cs := [(.int .u8 y.1), (.string (if y.1 = 0 then y.2.1 else ⟨#[]⟩)), (.slice na1 ((y.2.2.1.list.length)) nc1), (.int .i64 nt1)]) rfl Try.underlying119 rfl (by kernel_rfl) (cellsAt_blk hk5)) rfl rfl rfl ?_; clear hf fa; intro fa hf
          refine sqdt hf (d_bslice (z := (.agg #[(.int .u8 (0 : Int)), (.string ⟨#[]⟩), (.slice none 0 0), (.int .i64 (0 : Int))])) (sz := 4) (vs := [(0, (.agg #[(.int .u8 y.1), (.string (if y.1 = 0 then y.2.1 else ⟨#[]⟩)), (.slice na1 ((y.2.2.1.list.length)) nc1), (.int .i64 nt1)]))]) (cs := #[(.int .u8 y.1), (.string (if y.1 = 0 then y.2.1 else ⟨#[]⟩)), (.slice na1 ((y.2.2.1.list.length)) nc1), (.int .i64 nt1)]) rfl Try.underlying116 (by kernel_rfl) rfl (by kernel_rfl)) rfl rfl rfl ?_; clear hf fa; rintro fa _ w20 ⟨b3, rfl, hle4, hk7, he14⟩ hf
          have hBb3 : w.heap.size ≤ b3 := Nat.le_trans hb.size hle4
          have : sb1 < b3 := Nat.lt_of_lt_of_le (blk_lt hk3) hle4
          have : b1 < b3 := Nat.lt_of_lt_of_le (blk_lt hk5) hle4
          have hnr3 : (Value.slice roa (X.length) roc).ownBlock ≠ some b3 := fun hq => by have := (Row.lt hro _ hq).2; omega
          have hnl3 : ∀ q, (Value.slice roa (X.length) roc).ownBlock = some q → q < b3 := fun q hq => Nat.lt_of_lt_of_le (Row.lt hro q hq).2 hle4
          have : rb1 < b3 := Nat.lt_of_lt_of_le (Row.lt hssb1 _ rfl).2 hle4
          replace hk3 := blk_ext hk3 he14
          replace hk5 := blk_ext hk5 he14
          replace hro := Row.ext hro he14
          replace hssb1 := Row.ext hssb1 he14
          replace hr3 := Row.ext hr3 he14
          replace hIR := SRel.map hIR (fun bf cs hbf => blk_ext hbf he14)
          replace hb := hb.trans (Below.mono he14 hb.size)
          have hs2 := Row.rd (by intros; rfl) (Row.of_new (k := 4) (V := vMSec) (l := [(mkS y.1 (if y.1 = 0 then y.2.1 else ⟨#[]⟩) y.2.2.1.list na1 nc1 nt1)]) hk7 (Nat.le_refl _) rfl rfl (Nat.le_of_ble_eq_true rfl))
          refine sqdt hf (d_append (V := vMSec) (k := 4) (e := 119) (bytes := 56) (z := (.agg #[(.int .u8 (0 : Int)), (.string ⟨#[]⟩), (.slice none 0 0), (.int .i64 (0 : Int))])) (news := [(mkS y.1 (if y.1 = 0 then y.2.1 else ⟨#[]⟩) y.2.2.1.list na1 nc1 nt1)]) (base := w.heap.size) (by intros; rfl) (by exact oneMSec) rfl rfl Try.underlying116 (by kernel_rfl) rfl rfl rfl hro hs2 rfl (fun h => by cases h) (by first | omega | (simp only [List.length_cons, List.length_nil, List.length_append, nums_len]; omega)) (by have := hb.size; omega)) rfl rfl rfl ?_; clear hf fa; rintro fa v w21 ⟨hr5, hg5⟩ hf; obtain ⟨ra3, rc3, rfl, hcrc3, hmrc3⟩ := Row.slice hr5
          replace hk3 := blk_row' hk3 hg5 (Row.ne_type hro hk3 rfl)
          replace hk5 := blk_row' hk5 hg5 hnr1
          replace hssb1 := Row.grown' hssb1 hg5 (Row.ne_row hssb1 hro rfl)
          replace hr3 := Row.grown' hr3 hg5 (Row.ne_row hr3 hro rfl)
          replace hIR := SRel.map hIR (fun bf cs hbf => blk_row' hbf hg5 (Row.ne_type hro hbf rfl))
          replace hb := hb.trans (row_below hro hg5 hb.size (by have := hb.size; omega))
          refine sqv hf (r_assign rfl) rfl rfl rfl ?_; clear hf fa; intro fa hf
          apply wpList_nil
          (try simp only [Exit.then, Exit.inBlock, ↓reduceIte, Nat.reduceEqDiff])
          refine hKL1 _ _ _ (by omega) ⟨(k + 1), ((pos + (encX y.1 y.2.1 y.2.2.1.list).length)), last, (X ++ [(mkS y.1 (if y.1 = 0 then y.2.1 else ⟨#[]⟩) y.2.2.1.list na1 nc1 nt1)]), ra3, rc3, rfl, hf.sub ⟨rfl, rfl, (some_sl (by first | omega | rfl | (simp only [List.length_append, List.length_cons, List.length_nil]; omega) | (simp <;> omega)) rfl), trivial⟩, hb, (Row.relen hr5), hssb1, hk3, by omega, hAr, (by have h := congrArg List.length hfl; rw [List.length_append] at h; have h2 : (encS y).length = (encX y.1 y.2.1 y.2.2.1.list).length := rfl; omega), (by have h := rise_yes hy Hs (okS_good hsp1 (fun h => absurd h hqt34_1)); rw [show nxS last y = last from (by unfold nxS; rw [if_pos (Classical.not_not.1 hqt34_1)])] at h; exact h), (keyB_snoc hXk hy _ _ _), (by rw [List.length_append, hXl]; rfl), (SRel.snoc hIR hr3)⟩
      · have hsp1b : decide (OkN y) = false := decide_eq_false hsp1
        refine wp_region_lit ?_
        refine sqv hf (r_move rfl) rfl rfl rfl ?_; clear hf fa; intro fa hf
        refine sq_panic hf (vs := [(.pointer (some ⟨sb1, 0, none⟩))]) rfl Try.func154 (by kernel_rfl) (by kernel_rfl) (snext_bad sb1 w.heap.size pos (some ⟨rb1, 0, none⟩) sc1 (joinL l) _ hksb1 hssb1 (by omega) hb6 hlm y.1 y.2.1 y.2.2.1.list hAy (hP y hym).id (hP y hym).nm (hP y hym).bd (hP y hym).rng (blk_lt hksb1) hsp1) ?_; rintro c9 w22 ⟨hgv2, hkp2⟩
        replace hro := Row.grown hro hkp2 (Row.ne_type hro hksb1 rfl)
        replace hssb1 := Row.grown hssb1 hkp2 (Row.ne_type hssb1 hksb1 rfl)
        replace hIR := SRel.map hIR (fun bf cs hbf => blk_grown hbf hkp2 (blk_ty hbf hksb1 rfl))
        replace hb := hb.trans (grown_below hkp2 hb.size hBsb1)
        exact And.intro hf.defers (.inr ⟨rise_no hy Hs (okS_bad hsp1), _, rfl, hgv2, hb⟩)
    · have hqt27_1b := hqt27_1
      replace hqt27_1 := Bool.eq_false_iff.1 hqt27_1
      try simp only [ne_eq, decide_eq_true_eq, Bool.and_eq_true, Bool.or_eq_true, Bool.not_eq_true', decide_eq_false_iff_not] at hqt27_1
      refine wp_exit ?_
      (try simp only [Exit.then, Exit.inBlock, ↓reduceIte, Nat.reduceEqDiff])
      refine hK8 _ _ ?_
      refine wp_seq_k (fun K18 hK18 => ?_)
      refine wp_region_lit ?_
      refine sqv hf (r_move rfl) rfl rfl rfl ?_; clear hf fa; intro fa hf
      refine sqv hf (r_assign rfl) rfl rfl rfl ?_; clear hf fa; intro fa hf
      apply wpList_nil
      (try simp only [Exit.then, Exit.inBlock, ↓reduceIte, Nat.reduceEqDiff])
      refine hK18 _ _ ?_
      refine wp_ret ?_
      (try simp only [Exit.then, Exit.inBlock])
      refine ret1 hf rfl rfl ?_
      have hkl : k = l.length := by omega
      refine .inl ⟨?_, _, rfl, X, _, _, rfl, hro, hIR, ?_, hb⟩
      · rw [Hs, List.drop_eq_nil_of_le (by omega)]; rfl
      · rw [hXk, List.take_of_length_le (by omega)]
end Go.Proofs.Ytcmdajkkdognfaa

namespace Go.Proofs.Ytcmdajkkdognfaa
open Go.RowKit
set_option linter.unusedVariables false
set_option linter.unusedSimpArgs false
theorem KS.below_new {S : List Nat} {B : Nat} {w w' : World} (h : KS S w.heap.size w w') (hS : ∀ q ∈ S, B ≤ q) (hB : B ≤ w.heap.size) : Below B w w' := ⟨h.os, h.tape, h.output, h.size, fun k hk => h.block k (Nat.lt_of_lt_of_le hk hB) (fun hm => by have := hS k hm; omega)⟩

set_option maxHeartbeats 1000000 in
set_option maxRecDepth 100000 in
theorem in_secs (tb vb : Nat) (k : FuncId) (caps : Array Value) (Pk : List MSec → Prop) (w : World) (hlt9 : vb < w.heap.size) (h2b : tb < vb) (h0 : w.heap[tb]? = some (.cells #[.func (.func k) #[] caps] 172 (0, 0))) (h1 : w.heap[vb]? = some (.cells #[.slice none 0 0] 116 (0, 0))) (hin : Enters Try.prog k) (hc : Calls Try.prog k caps w fun e w2 => ∃ v, e = .returned v ∧ ∃ (X : List MSec) (aX : Option Addr) (cX : Nat), v = .slice aX X.length cX ∧ Row 4 vMSec 119 w.heap.size w2 (.slice aX X.length cX) X ∧ SRel w.heap.size w2 X ∧ Pk X ∧ Below w.heap.size w w2) : Calls Try.prog 153 #[(.pointer (some ⟨tb, 0, none⟩)), (.pointer (some ⟨vb, 0, none⟩))] w fun e w' => e = .returned (.tuple #[]) ∧ ∃ (X : List MSec) (aX : Option Addr) (cX : Nat), w'.heap[vb]? = some (.cells #[.slice aX X.length cX] 116 (0, 0)) ∧ Row 4 vMSec 119 w.heap.size w' (.slice aX X.length cX) X ∧ SRel w.heap.size w' X ∧ Pk X ∧ KS [vb] w.heap.size w w' := by
  refine sx_enter (L := [(0, (.pointer (some ⟨tb, 0, none⟩))), (1, (.pointer (some ⟨vb, 0, none⟩)))]) Try.func153 rfl rfl rfl rfl (fun fa hf => ?_)
  have hb : KS [vb] w.heap.size w w := KS.refl _ _ _
  refine wp_region_lit ?_
  refine sqv hf (r_load (v := (.func (.func k) #[] caps)) rfl Try.underlying172 rfl (cell_blk h0 rfl)) rfl rfl rfl ?_; clear hf fa; intro fa hf
  refine sqdt hf (d_callF (vs := []) (ags := caps) rfl rfl (by simp) hin hc) rfl rfl rfl ?_; clear hf fa; rintro fa _ w1 ⟨X, aX, cX, rfl, hrX, hIX, hPX, heX⟩ hf
  replace h0 := blk_ext h0 heX
  replace h1 := blk_ext h1 heX
  replace hb := hb.trans (Below.mono heX hb.size)
  refine sqn hf (d_storeK (T := 116) (v := (.slice aX X.length cX)) (cs := #[(.slice none 0 0)]) (cs' := #[(.slice aX X.length cX)]) rfl rfl (by kernel_rfl) (by kernel_rfl) h1 (by kernel_rfl) (by kernel_rfl)) rfl rfl ?_; clear hf fa; rintro fa _ w2 ⟨hk1, hg1⟩ hf
  replace h0 := blk_grown h0 hg1 (by omega)
  replace hrX := Row.grown hrX hg1 (Row.ne_type hrX h1 rfl)
  replace hIX := SRel.map hIX (fun bf cs hbf => blk_grown hbf hg1 (blk_ty hbf h1 rfl))
  replace hb := hb.wrote hg1 hb.size (.inl (by simp only [List.mem_cons, eq_self, true_or, or_true]))
  apply wpList_nil
  (try simp only [Exit.then, Exit.inBlock, ↓reduceIte, Nat.reduceEqDiff])
  refine end0 hf rfl ?_
  exact ⟨rfl, X, aX, cX, hk1, hrX, hIX, hPX, hb⟩

set_option maxHeartbeats 1000000 in
set_option maxRecDepth 100000 in
theorem in_secs_bad (tb vb : Nat) (k : FuncId) (caps : Array Value) (Pk : List MSec → Prop) (w : World) (hlt9 : vb < w.heap.size) (h2b : tb < vb) (h0 : w.heap[tb]? = some (.cells #[.func (.func k) #[] caps] 172 (0, 0))) (h1 : w.heap[vb]? = some (.cells #[.slice none 0 0] 116 (0, 0))) (hin : Enters Try.prog k) (hc : Calls Try.prog k caps w fun e w2 => ∃ c, e = .panicked c ∧ (Gave c ∧ Below w.heap.size w w2)) : Calls Try.prog 153 #[(.pointer (some ⟨tb, 0, none⟩)), (.pointer (some ⟨vb, 0, none⟩))] w fun e w' => ∃ c, e = .panicked c ∧ (Gave c ∧ KS [vb] w.heap.size w w') := by
  refine sx_enter (L := [(0, (.pointer (some ⟨tb, 0, none⟩))), (1, (.pointer (some ⟨vb, 0, none⟩)))]) Try.func153 rfl rfl rfl rfl (fun fa hf => ?_)
  have hb : KS [vb] w.heap.size w w := KS.refl _ _ _
  refine wp_region_lit ?_
  refine sqv hf (r_load (v := (.func (.func k) #[] caps)) rfl Try.underlying172 rfl (cell_blk h0 rfl)) rfl rfl rfl ?_; clear hf fa; intro fa hf
  refine sq_panicF hf rfl (vs := []) (ags := caps) rfl (by simp) hin hc ?_; rintro c9 w1 ⟨hgv, hkp⟩
  replace h0 := blk_ext h0 hkp
  replace h1 := blk_ext h1 hkp
  replace hb := hb.trans (Below.mono hkp hb.size)
  exact And.intro hf.defers ⟨_, rfl, hgv, hb⟩

set_option maxHeartbeats 1000000 in
set_option maxRecDepth 100000 in
theorem val_secs (k : FuncId) (caps : Array Value) (Pk : List MSec → Prop) (w : World) (hin : Enters Try.prog k) (hc : ∀ w1, Below w.heap.size w w1 → Calls Try.prog k caps w1 fun e w2 => ∃ v, e = .returned v ∧ ∃ (X : List MSec) (aX : Option Addr) (cX : Nat), v = .slice aX X.length cX ∧ Row 4 vMSec 119 w1.heap.size w2 (.slice aX X.length cX) X ∧ SRel w1.heap.size w2 X ∧ Pk X ∧ Below w1.heap.size w1 w2) : Calls Try.prog 131 #[(.func (.func k) #[] caps)] w fun e w' => ∃ v, e = .returned v ∧ ∃ (X : List MSec) (aX : Option Addr) (cX : Nat), v = .tuple #[.slice aX X.length cX, .agg #[.int .i64 0, .int .i64 0]] ∧ Row 4 vMSec 119 w.heap.size w' (.slice aX X.length cX) X ∧ SRel w.heap.size w' X ∧ Pk X ∧ Below w.heap.size w w' := by
  refine sx_enter (L := [(0, (.func (.func k) #[] caps))]) Try.func131 rfl rfl rfl rfl (fun fa hf => ?_)
  have hb : Below w.heap.size w w := Below.refl _ _
  refine wp_seq_k (fun K1 hK1 => ?_)
  refine wp_region_lit ?_
  refine sqdt hf (d_box (cs := #[(.func (.func k) #[] caps)]) rfl rfl) rfl rfl rfl ?_; clear hf fa; rintro fa _ w1 ⟨b1, rfl, hle1, hk1, he1⟩ hf
  have hBb1 : w.heap.size ≤ b1 := Nat.le_trans hb.size hle1
  replace hb := hb.trans (Below.mono he1 hb.size)
  refine sqv hf (r_assign rfl) rfl rfl rfl ?_; clear hf fa; intro fa hf
  refine sqdt hf (d_alloc (z := (.agg #[(.int .i64 (0 : Int)), (.int .i64 (0 : Int))])) (cs := #[(.int .i64 (0 : Int)), (.int .i64 (0 : Int))]) (by kernel_rfl) rfl) rfl rfl rfl ?_; clear hf fa; rintro fa _ w2 ⟨b2, rfl, hle2, hk2, he2⟩ hf
  have hBb2 : w.heap.size ≤ b2 := Nat.le_trans hb.size hle2
  have : b1 < b2 := Nat.lt_of_lt_of_le (blk_lt hk1) hle2
  replace hk1 := blk_ext hk1 he2
  replace hb := hb.trans (Below.mono he2 hb.size)
  apply wpList_nil
  (try simp only [Exit.then, Exit.inBlock, ↓reduceIte, Nat.reduceEqDiff])
  refine hK1 _ _ ?_
  refine wp_seq_k (fun K2 hK2 => ?_)
  refine wp_region_lit ?_
  refine sqdt hf (d_alloc (z := (.slice none 0 0)) (cs := #[(.slice none 0 0)]) (by kernel_rfl) rfl) rfl rfl rfl ?_; clear hf fa; rintro fa _ w3 ⟨b3, rfl, hle3, hk3, he3⟩ hf
  have hBb3 : w.heap.size ≤ b3 := Nat.le_trans hb.size hle3
  have : b1 < b3 := Nat.lt_of_lt_of_le (blk_lt hk1) hle3
  have : b2 < b3 := Nat.lt_of_lt_of_le (blk_lt hk2) hle3
  replace hk1 := blk_ext hk1 he3
  replace hk2 := blk_ext hk2 he3
  replace hb := hb.trans (Below.mono he3 hb.size)
  apply wpList_nil
  (try simp only [Exit.then, Exit.inBlock, ↓reduceIte, Nat.reduceEqDiff])
  refine hK2 _ _ ?_
  refine wp_seq_k (fun K3 hK3 => ?_)
  refine wp_region_lit ?_
  refine sqv hf (r_makeFunc (vs := [(.pointer (some ⟨b1, 0, none⟩)), (.pointer (some ⟨b3, 0, none⟩))]) rfl) rfl rfl rfl ?_; clear hf fa; intro fa hf
  have hszB := hb.size
  refine sqdt hf (d_callR (vs := [(.func (.func 153) #[] #[(.pointer (some ⟨b1, 0, none⟩)), (.pointer (some ⟨b3, 0, none⟩))])]) rfl Try.func59 (by kernel_rfl) (by kernel_rfl) (out_ok 153 _ _ [b3] (fun B w' => ∃ (X : List MSec) (aX : Option Addr) (cX : Nat), w'.heap[b3]? = some (.cells #[.slice aX X.length cX] 116 (0, 0)) ∧ Row 4 vMSec 119 B w' (.slice aX X.length cX) X ∧ SRel B w' X ∧ Pk X) (enters Try.func153 (by kernel_rfl) (by kernel_rfl)) (by intro q hq; have := blk_lt hk3; rw [List.mem_singleton] at hq; subst hq; exact this) (fun w1 hw1 hlt => (in_secs b1 b3 k caps Pk w1 (by have := hw1.size; have := blk_lt hk3; omega) (by omega) (blk_ext hk1 hw1) (blk_ext hk3 hw1) hin (hc w1 (hb.trans (hw1.mono hb.size)))).mono (fun e w' h => (by obtain ⟨h0, X, aX, cX, h1, h2, h3, h4, h5⟩ := h; exact ⟨h0, h5, X, aX, cX, h1, h2, h3, h4⟩))))) rfl rfl rfl ?_; clear hf fa; rintro fa _ w4 ⟨rfl, hks, B1, hB1, X, aX, cX, hk4, hrX, hIX, hPX⟩ hf
  replace hrX := Row.rebase hrX (Nat.le_trans hszB (Nat.le_of_lt hB1))
  replace hIX := SRel.rebase hIX (Nat.le_trans hszB (Nat.le_of_lt hB1))
  replace hk1 := blk_ks hk1 hks (by simp only [List.mem_cons, List.not_mem_nil, or_false]; omega)
  replace hk2 := blk_ks hk2 hks (by simp only [List.mem_cons, List.not_mem_nil, or_false]; omega)
  replace hb := hb.trans (KS.below_new hks (by intro q hq; rw [List.mem_singleton] at hq; subst hq; exact hBb3) hb.size)
  refine sqdt hf (d_alloc (z := (.agg #[(.int .i64 (0 : Int)), (.int .i64 (0 : Int))])) (cs := #[(.int .i64 (0 : Int)), (.int .i64 (0 : Int))]) (by kernel_rfl) rfl) rfl rfl rfl ?_; clear hf fa; rintro fa _ w5 ⟨b4, rfl, hle4, hk5, he4⟩ hf
  have hBb4 : w.heap.size ≤ b4 := Nat.le_trans hb.size hle4
  have : b1 < b4 := Nat.lt_of_lt_of_le (blk_lt hk1) hle4
  have : b2 < b4 := Nat.lt_of_lt_of_le (blk_lt hk2) hle4
  have : b3 < b4 := Nat.lt_of_lt_of_le (blk_lt hk4) hle4
  replace hk1 := blk_ext hk1 he4
  replace hk2 := blk_ext hk2 he4
  replace hk4 := blk_ext hk4 he4
  replace hrX := Row.ext hrX he4
  replace hIX := SRel.map hIX (fun bf cs hbf => blk_ext hbf he4)
  replace hb := hb.trans (Below.mono he4 hb.size)
  refine sqn hf (d_storeK (T := 90) (v := (.agg #[(.int .i64 (0 : Int)), (.int .i64 (0 : Int))])) (cs := #[(.int .i64 (0 : Int)), (.int .i64 (0 : Int))]) (cs' := #[(.int .i64 (0 : Int)), (.int .i64 (0 : Int))]) rfl rfl (by kernel_rfl) (by kernel_rfl) hk5 (by kernel_rfl) (by kernel_rfl)) rfl rfl ?_; clear hf fa; rintro fa _ w6 ⟨hk6, hg1⟩ hf
  replace hk1 := blk_grown hk1 hg1 (by omega)
  replace hk2 := blk_grown hk2 hg1 (by omega)
  replace hk4 := blk_grown hk4 hg1 (by omega)
  replace hrX := Row.grown hrX hg1 (Row.ne_type hrX hk5 rfl)
  replace hIX := SRel.map hIX (fun bf cs hbf => blk_grown hbf hg1 (blk_ty hbf hk5 rfl))
  replace hb := hb.trans (grown_below hg1 hb.size hBb4)
  apply wpList_nil
  (try simp only [Exit.then, Exit.inBlock, ↓reduceIte, Nat.reduceEqDiff])
  refine hK3 _ _ ?_
  refine wp_seq_k (fun K4 hK4 => ?_)
  refine wp_seq_k (fun K5 hK5 => ?_)
  refine wp_region_lit ?_
  refine sqv hf (r_fa rfl Try.underlying90 (f := 0) (q := 0) rfl (by kernel_rfl) rfl) rfl rfl rfl ?_; clear hf fa; intro fa hf
  refine sqv hf (r_load (v := (.int .i64 (0 : Int))) rfl Try.underlying39 rfl (cell_blk hk6 rfl)) rfl rfl rfl ?_; clear hf fa; intro fa hf
  refine sqv hf (r_ne rfl rfl) rfl rfl rfl ?_; clear hf fa; intro fa hf
  apply wpList_nil
  (try simp only [Exit.then, Exit.inBlock, ↓reduceIte, Nat.reduceEqDiff])
  refine hK5 _ _ ?_
  refine wp_cond_false ((hf.ev rfl).trans (congrArg Value.bool (show (decide ((0 : Int) ≠ (0 : Int))) = false from rfl))) ?_
  refine wp_skip ?_
  (try simp only [Exit.then, Exit.inBlock, ↓reduceIte, Nat.reduceEqDiff])
  refine hK4 _ _ ?_
  refine wp_seq_k (fun K6 hK6 => ?_)
  refine wp_region_unT 3 (fun wq => Below w6.heap.size w6 wq) (fun w w' => Below w.heap.size w w')
    (fun V => [(fun x _ => x = (.slice aX X.length cX)), (fun x _ => x = (.agg #[(.int .i64 (0 : Int)), (.int .i64 (0 : Int))])), (fun x _ => x = (.slice aX X.length cX))])
    []
    [[], [], [0], []]
    hf (by kernel_rfl) (by kernel_rfl) (by kernel_rfl) (fun _ => rfl) ((Below.refl _ _).drew) (fun a b h1 h2 => h1.trans (h2.mono h1.size)) (fun _ _ h => h.size) (fun V => ⟨kept_eq, kept_eq, kept_eq, trivial⟩) (fun _ _ _ _ _ => rfl) ?_ ?_
  · skip
    intro V
    refine ⟨fun wu0 hC hd => ?_, ?_⟩
    · clear hd
      replace hb := hb.trans (hC.mono hb.size)
      replace hk1 := blk_ext hk1 hC
      replace hk2 := blk_ext hk2 hC
      replace hk4 := blk_ext hk4 hC
      replace hk6 := blk_ext hk6 hC
      replace hrX := Row.ext hrX hC
      exact Runs.does (r_load (v := (.slice aX X.length cX)) rfl Try.underlying116 rfl (cell_blk hk4 rfl)) ⟨Below.refl _ _, rfl, nofr rfl⟩
    refine ⟨fun wu1 hC hd => ?_, ?_⟩
    · clear hd
      replace hb := hb.trans (hC.mono hb.size)
      replace hk1 := blk_ext hk1 hC
      replace hk2 := blk_ext hk2 hC
      replace hk4 := blk_ext hk4 hC
      replace hk6 := blk_ext hk6 hC
      replace hrX := Row.ext hrX hC
      exact Runs.does (r_loadA (cs := [(.int .i64 (0 : Int)), (.int .i64 (0 : Int))]) rfl Try.underlying90 rfl (by kernel_rfl) (cellsAt_blk hk6)) ⟨Below.refl _ _, rfl, nofr rfl⟩
    refine ⟨fun wu2 hC hd => ?_, ?_⟩
    · obtain ⟨h0, _⟩ := hd
      skip
      replace h0 : V 0 = (.slice aX X.length cX) := h0
      replace hb := hb.trans (hC.mono hb.size)
      replace hk1 := blk_ext hk1 hC
      replace hk2 := blk_ext hk2 hC
      replace hk4 := blk_ext hk4 hC
      replace hk6 := blk_ext hk6 hC
      replace hrX := Row.ext hrX hC
      exact Runs.does (r_assign (congrArg some h0)) ⟨Below.refl _ _, rfl, nofr rfl⟩
    trivial
  · skip
    clear hf fa; intro V w7 fa he5 hp hnb hf
    have hv0 : V 0 = (.slice aX X.length cX) := postsHold_at hp 0 rfl
    have hv1 : V 1 = (.agg #[(.int .i64 (0 : Int)), (.int .i64 (0 : Int))]) := postsHold_at hp 1 rfl
    have hv2 : V 2 = (.slice aX X.length cX) := postsHold_at hp 2 rfl
    simp only [List.take_succ_cons, List.take_zero, insAll, ins, hv0, hv1, hv2] at hf
    clear hp hnb hv0 hv1 hv2
    replace hk1 := blk_ext hk1 he5
    replace hk2 := blk_ext hk2 he5
    replace hk4 := blk_ext hk4 he5
    replace hk6 := blk_ext hk6 he5
    replace hrX := Row.ext hrX he5
    replace hIX := SRel.map hIX (fun bf cs hbf => blk_ext hbf he5)
    replace hb := hb.trans (Below.mono he5 hb.size)
    simp only [List.drop_succ_cons, List.drop_zero]
    refine sqn hf (d_storeK (T := 90) (v := (.agg #[(.int .i64 (0 : Int)), (.int .i64 (0 : Int))])) (cs := #[(.int .i64 (0 : Int)), (.int .i64 (0 : Int))]) (cs' := #[(.int .i64 (0 : Int)), (.int .i64 (0 : Int))]) rfl rfl (by kernel_rfl) (by kernel_rfl) hk2 (by kernel_rfl) (by kernel_rfl)) rfl rfl ?_; clear hf fa; rintro fa _ w8 ⟨hk7, hg2⟩ hf
    replace hk1 := blk_grown hk1 hg2 (by omega)
    replace hk4 := blk_grown hk4 hg2 (by omega)
    replace hk6 := blk_grown hk6 hg2 (by omega)
    replace hrX := Row.grown hrX hg2 (Row.ne_type hrX hk2 rfl)
    replace hIX := SRel.map hIX (fun bf cs hbf => blk_grown hbf hg2 (blk_ty hbf hk2 rfl))
    replace hb := hb.trans (grown_below hg2 hb.size hBb2)
    apply wpList_nil
    (try simp only [Exit.then, Exit.inBlock, ↓reduceIte, Nat.reduceEqDiff])
    refine hK6 _ _ ?_
    refine wp_ret ?_
    (try simp only [Exit.then, Exit.inBlock])
    refine retTC hf rfl rfl rfl hk7 Try.underlying90 rfl (by kernel_rfl) ?_
    exact ⟨_, rfl, X, aX, cX, rfl, hrX, hIX, hPX, hb⟩

set_option maxHeartbeats 1000000 in
set_option maxRecDepth 100000 in
theorem val_secs_bad (k : FuncId) (caps : Array Value) (w : World) (hin : Enters Try.prog k) (hc : ∀ w1, Below w.heap.size w w1 → Calls Try.prog k caps w1 fun e w2 => ∃ c, e = .panicked c ∧ (Gave c ∧ Below w1.heap.size w1 w2)) : Calls Try.prog 131 #[(.func (.func k) #[] caps)] w fun e w' => ∃ u, e = .returned u ∧ ∃ why at1 : Int, u = .tuple #[.slice none 0 0, .agg #[.int .i64 why, .int .i64 at1]] ∧ why ≠ 0 ∧ Below w.heap.size w w' := by
  refine sx_enter (L := [(0, (.func (.func k) #[] caps))]) Try.func131 rfl rfl rfl rfl (fun fa hf => ?_)
  have hb : Below w.heap.size w w := Below.refl _ _
  refine wp_seq_k (fun K1 hK1 => ?_)
  refine wp_region_lit ?_
  refine sqdt hf (d_box (cs := #[(.func (.func k) #[] caps)]) rfl rfl) rfl rfl rfl ?_; clear hf fa; rintro fa _ w1 ⟨b1, rfl, hle1, hk1, he1⟩ hf
  have hBb1 : w.heap.size ≤ b1 := Nat.le_trans hb.size hle1
  replace hb := hb.trans (Below.mono he1 hb.size)
  refine sqv hf (r_assign rfl) rfl rfl rfl ?_; clear hf fa; intro fa hf
  refine sqdt hf (d_alloc (z := (.agg #[(.int .i64 (0 : Int)), (.int .i64 (0 : Int))])) (cs := #[(.int .i64 (0 : Int)), (.int .i64 (0 : Int))]) (by kernel_rfl) rfl) rfl rfl rfl ?_; clear hf fa; rintro fa _ w2 ⟨b2, rfl, hle2, hk2, he2⟩ hf
  have hBb2 : w.heap.size ≤ b2 := Nat.le_trans hb.size hle2
  have : b1 < b2 := Nat.lt_of_lt_of_le (blk_lt hk1) hle2
  replace hk1 := blk_ext hk1 he2
  replace hb := hb.trans (Below.mono he2 hb.size)
  apply wpList_nil
  (try simp only [Exit.then, Exit.inBlock, ↓reduceIte, Nat.reduceEqDiff])
  refine hK1 _ _ ?_
  refine wp_seq_k (fun K2 hK2 => ?_)
  refine wp_region_lit ?_
  refine sqdt hf (d_alloc (z := (.slice none 0 0)) (cs := #[(.slice none 0 0)]) (by kernel_rfl) rfl) rfl rfl rfl ?_; clear hf fa; rintro fa _ w3 ⟨b3, rfl, hle3, hk3, he3⟩ hf
  have hBb3 : w.heap.size ≤ b3 := Nat.le_trans hb.size hle3
  have : b1 < b3 := Nat.lt_of_lt_of_le (blk_lt hk1) hle3
  have : b2 < b3 := Nat.lt_of_lt_of_le (blk_lt hk2) hle3
  replace hk1 := blk_ext hk1 he3
  replace hk2 := blk_ext hk2 he3
  replace hb := hb.trans (Below.mono he3 hb.size)
  apply wpList_nil
  (try simp only [Exit.then, Exit.inBlock, ↓reduceIte, Nat.reduceEqDiff])
  refine hK2 _ _ ?_
  refine wp_seq_k (fun K3 hK3 => ?_)
  refine wp_region_lit ?_
  refine sqv hf (r_makeFunc (vs := [(.pointer (some ⟨b1, 0, none⟩)), (.pointer (some ⟨b3, 0, none⟩))]) rfl) rfl rfl rfl ?_; clear hf fa; intro fa hf
  refine sqdt hf (d_callX (vs := [(.func (.func 153) #[] #[(.pointer (some ⟨b1, 0, none⟩)), (.pointer (some ⟨b3, 0, none⟩))])]) rfl Try.func59 (by kernel_rfl) (by kernel_rfl) (out_bad 153 _ _ [b3] (enters Try.func153 (by kernel_rfl) (by kernel_rfl)) (by intro q hq; have := blk_lt hk3; rw [List.mem_singleton] at hq; subst hq; exact this) (fun w1 hw1 hlt => in_secs_bad b1 b3 k caps (fun _ => True) w1 (by have := hw1.size; have := blk_lt hk3; omega) (by omega) (blk_ext hk1 hw1) (blk_ext hk3 hw1) hin (hc w1 (hb.trans (hw1.mono hb.size)))))) rfl rfl rfl ?_; clear hf fa; rintro fa _ w4 ⟨why, at9, rfl, hne, hks⟩ hf
  replace hk1 := blk_ks hk1 hks (by simp only [List.mem_cons, List.not_mem_nil, or_false]; omega)
  replace hk2 := blk_ks hk2 hks (by simp only [List.mem_cons, List.not_mem_nil, or_false]; omega)
  replace hb := hb.trans (KS.below_new hks (by intro q hq; rw [List.mem_singleton] at hq; subst hq; exact hBb3) hb.size)
  refine sqdt hf (d_alloc (z := (.agg #[(.int .i64 (0 : Int)), (.int .i64 (0 : Int))])) (cs := #[(.int .i64 (0 : Int)), (.int .i64 (0 : Int))]) (by kernel_rfl) rfl) rfl rfl rfl ?_; clear hf fa; rintro fa _ w5 ⟨b4, rfl, hle4, hk4, he4⟩ hf
  have hBb4 : w.heap.size ≤ b4 := Nat.le_trans hb.size hle4
  have : b1 < b4 := Nat.lt_of_lt_of_le (blk_lt hk1) hle4
  have : b2 < b4 := Nat.lt_of_lt_of_le (blk_lt hk2) hle4
  replace hk1 := blk_ext hk1 he4
  replace hk2 := blk_ext hk2 he4
  replace hb := hb.trans (Below.mono he4 hb.size)
  refine sqn hf (d_storeK (T := 90) (v := (.agg #[(.int .i64 why), (.int .i64 at9)])) (cs := #[(.int .i64 (0 : Int)), (.int .i64 (0 : Int))]) (cs' := #[(.int .i64 why), (.int .i64 at9)]) rfl rfl (by kernel_rfl) (by kernel_rfl) hk4 (by kernel_rfl) (by kernel_rfl)) rfl rfl ?_; clear hf fa; rintro fa _ w6 ⟨hk5, hg1⟩ hf
  replace hk1 := blk_grown hk1 hg1 (by omega)
  replace hk2 := blk_grown hk2 hg1 (by omega)
  replace hb := hb.trans (grown_below hg1 hb.size hBb4)
  apply wpList_nil
  (try simp only [Exit.then, Exit.inBlock, ↓reduceIte, Nat.reduceEqDiff])
  refine hK3 _ _ ?_
  refine wp_seq_k (fun K4 hK4 => ?_)
  refine wp_seq_k (fun K5 hK5 => ?_)
  refine wp_region_lit ?_
  refine sqv hf (r_fa rfl Try.underlying90 (f := 0) (q := 0) rfl (by kernel_rfl) rfl) rfl rfl rfl ?_; clear hf fa; intro fa hf
  refine sqv hf (r_load (v := (.int .i64 why)) rfl Try.underlying39 rfl (cell_blk hk5 rfl)) rfl rfl rfl ?_; clear hf fa; intro fa hf
  refine sqv hf (r_ne rfl rfl) rfl rfl rfl ?_; clear hf fa; intro fa hf
  apply wpList_nil
  (try simp only [Exit.then, Exit.inBlock, ↓reduceIte, Nat.reduceEqDiff])
  refine hK5 _ _ ?_
  refine wp_cond_true ((hf.ev rfl).trans (congrArg Value.bool (show (decide (why ≠ (0 : Int))) = true from (decide_eq_true hne)))) ?_
  refine wp_seq_k (fun K6 hK6 => ?_)
  refine wp_region_lit ?_
  refine sqv hf (r_assign rfl) rfl rfl rfl ?_; clear hf fa; intro fa hf
  apply wpList_nil
  (try simp only [Exit.then, Exit.inBlock, ↓reduceIte, Nat.reduceEqDiff])
  refine hK6 _ _ ?_
  refine wp_seq_k (fun K7 hK7 => ?_)
  refine wp_region_unT 3 (fun wq => Below w6.heap.size w6 wq) (fun w w' => Below w.heap.size w w')
    (fun V => [(fun x _ => x = (.slice none 0 0)), (fun x _ => x = (.agg #[(.int .i64 why), (.int .i64 at9)])), (fun x _ => x = (.slice none 0 0))])
    []
    [[], [], [0], []]
    hf (by kernel_rfl) (by kernel_rfl) (by kernel_rfl) (fun _ => rfl) ((Below.refl _ _).drew) (fun a b h1 h2 => h1.trans (h2.mono h1.size)) (fun _ _ h => h.size) (fun V => ⟨kept_eq, kept_eq, kept_eq, trivial⟩) (fun _ _ _ _ _ => rfl) ?_ ?_
  · skip
    intro V
    refine ⟨fun wu0 hC hd => ?_, ?_⟩
    · clear hd
      replace hb := hb.trans (hC.mono hb.size)
      replace hk1 := blk_ext hk1 hC
      replace hk2 := blk_ext hk2 hC
      replace hk5 := blk_ext hk5 hC
      exact Runs.does (r_move rfl) ⟨Below.refl _ _, rfl, nofr rfl⟩
    refine ⟨fun wu1 hC hd => ?_, ?_⟩
    · clear hd
      replace hb := hb.trans (hC.mono hb.size)
      replace hk1 := blk_ext hk1 hC
      replace hk2 := blk_ext hk2 hC
      replace hk5 := blk_ext hk5 hC
      exact Runs.does (r_loadA (cs := [(.int .i64 why), (.int .i64 at9)]) rfl Try.underlying90 rfl (by kernel_rfl) (cellsAt_blk hk5)) ⟨Below.refl _ _, rfl, nofr rfl⟩
    refine ⟨fun wu2 hC hd => ?_, ?_⟩
    · obtain ⟨h0, _⟩ := hd
      skip
      replace h0 : V 0 = (.slice none 0 0) := h0
      replace hb := hb.trans (hC.mono hb.size)
      replace hk1 := blk_ext hk1 hC
      replace hk2 := blk_ext hk2 hC
      replace hk5 := blk_ext hk5 hC
      exact Runs.does (r_assign (congrArg some h0)) ⟨Below.refl _ _, rfl, nofr rfl⟩
    trivial
  · skip
    clear hf fa; intro V w7 fa he5 hp hnb hf
    have hv0 : V 0 = (.slice none 0 0) := postsHold_at hp 0 rfl
    have hv1 : V 1 = (.agg #[(.int .i64 why), (.int .i64 at9)]) := postsHold_at hp 1 rfl
    have hv2 : V 2 = (.slice none 0 0) := postsHold_at hp 2 rfl
    simp only [List.take_succ_cons, List.take_zero, insAll, ins, hv0, hv1, hv2] at hf
    clear hp hnb hv0 hv1 hv2
    replace hk1 := blk_ext hk1 he5
    replace hk2 := blk_ext hk2 he5
    replace hk5 := blk_ext hk5 he5
    replace hb := hb.trans (Below.mono he5 hb.size)
    simp only [List.drop_succ_cons, List.drop_zero]
    refine sqn hf (d_storeK (T := 90) (v := (.agg #[(.int .i64 why), (.int .i64 at9)])) (cs := #[(.int .i64 (0 : Int)), (.int .i64 (0 : Int))]) (cs' := #[(.int .i64 why), (.int .i64 at9)]) rfl rfl (by kernel_rfl) (by kernel_rfl) hk2 (by kernel_rfl) (by kernel_rfl)) rfl rfl ?_; clear hf fa; rintro fa _ w8 ⟨hk6, hg2⟩ hf
    replace hk1 := blk_grown hk1 hg2 (by omega)
    replace hk5 := blk_grown hk5 hg2 (by omega)
    replace hb := hb.trans (grown_below hg2 hb.size hBb2)
    apply wpList_nil
    (try simp only [Exit.then, Exit.inBlock, ↓reduceIte, Nat.reduceEqDiff])
    refine hK7 _ _ ?_
    refine wp_ret ?_
    (try simp only [Exit.then, Exit.inBlock])
    refine retTC hf rfl rfl rfl hk6 Try.underlying90 rfl (by kernel_rfl) ?_
    exact ⟨_, rfl, why, at9, rfl, hne, hb⟩
end Go.Proofs.Ytcmdajkkdognfaa

namespace Go.Proofs.Ytcmdajkkdognfaa
open Go.RowKit
set_option linter.unusedVariables false
set_option linter.unusedSimpArgs false
theorem r_rdstr {P : Program} {L : List (Nat × Value)} {w : World} {d : Option Tmp} {ty : TypeId} {ps : String} {af : Array Edge} {g : Option (Nat × Bool)} {src dst e c : Nat} {x : Operand} {a : Option Addr} {l : List Int}
    (hx : evO L x = some (.slice a l.length c)) (hs : P.underlying src = some (.slice e)) (he : P.underlying e = some (.int .u8)) (hd : P.underlying dst = some .string) (hr : RdS 1 (vInt .u8) w a l) :
    Runs P L ⟨d, .convert src dst x, ty, ps, af, g⟩ w (.string (strOfNums l)) w := by
  have key : (convert src dst (.slice a l.length c)).run P w = .ok (.string (strOfNums l)) w := by
    cases l with
    | nil =>
      cases a with
      | none => exact run_convert_bytes_nil w src e hs he _ c dst hd
      | some p =>
        have hl : (loadCells p 0).run P w = .ok (([] : List Int).map (Value.int .u8)).toArray w := run_loadCells_list (P := P) w p [] (by simp)
        rw [run_convert_bytes_string w src dst e _ _ c hs he hd]
        exact run_bytesToString w p 0 c [] hl
    | cons y l =>
      obtain ⟨b, off, ha, hlt, hc⟩ := hr 0 y rfl
      subst ha
      refine run_convert_bytes_arg w src e hs he b off _ c (y :: l) rfl (fun i hi => ?_) dst hd
      obtain ⟨b2, off2, ha2, _, hc2⟩ := hr i _ (List.getElem?_eq_getElem hi)
      cases ha2
      have h0 := hc2 0 _ rfl
      rw [Nat.mul_one, Nat.add_zero] at h0
      rw [h0, List.getD_eq_getElem?_getD, List.getElem?_eq_getElem hi]
      rfl
  intro ρ hρ
  simp only [execOp, hρ x _ hx]
  simp [key]
theorem r_rdstr2 {P : Program} {L : List (Nat × Value)} {w : World} {d : Option Tmp} {ty : TypeId} {ps : String} {af : Array Edge} {g : Option (Nat × Bool)} {src dst e c n : Nat} {x : Operand} {a : Option Addr} {l : List Int}
    (hx : evO L x = some (.slice a n c)) (hn : n = l.length) (hs : P.underlying src = some (.slice e)) (he : P.underlying e = some (.int .u8)) (hd : P.underlying dst = some .string) (hr : RdS 1 (vInt .u8) w a l) :
    Runs P L ⟨d, .convert src dst x, ty, ps, af, g⟩ w (.string (strOfNums l)) w := by subst hn; exact r_rdstr hx hs he hd hr
end Go.Proofs.Ytcmdajkkdognfaa
