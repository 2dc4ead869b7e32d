/- What is proved here: the journal: Since, Kinds; the reference: Len, Count, same. -/
import Derived.Test.YtmcmickgllffoaaJpA
namespace Go.Proofs.Ytmcmickgllffoaa
open Go.RowKit
set_option linter.unusedVariables false
set_option linter.unusedSimpArgs false
abbrev SlV := Option Addr × Nat × Nat
def zSV : SlV := (none, 0, 0)
def vSV : SlV → List Value := fun y => [.slice y.1 y.2.1 y.2.2]
theorem oneSV : ∀ x, ∀ u ∈ vSV x, u.oneCell' = true := by
  intro x u hu
  simp only [vSV, List.mem_singleton] at hu
  subst hu
  rfl
def kds (L : List Ent) : List Int := L.map (·.1)
theorem kds_snoc {L : List Ent} {k : Nat} {y : Ent} (h : L[k]? = some y) : kds (L.take (k + 1)) = kds (L.take k) ++ [y.1] := by
  unfold kds
  rw [List.take_add_one, h, List.map_append]
  rfl
theorem kds_len (L : List Ent) : (kds L).length = L.length := List.length_map _
/-- The reference's rows: each entry of Vs leads to one list. -/
def RI (B : Nat) (w : World) (Vs : List SlV) (Rr : List (List Ent)) : Prop := Vs.length = Rr.length ∧ ∀ (i : Nat) (s : SlV) (l : List Ent), Vs[i]? = some s → Rr[i]? = some l → Row 4 vE 59 B w (.slice s.1 s.2.1 s.2.2) l
theorem RI.kt {B : Nat} {w w' : World} {Vs : List SlV} {Rr : List (List Ent)} (h : RI B w Vs Rr) (hk : KT 59 w w') : RI B w' Vs Rr := ⟨h.1, fun i s l h1 h2 => (h.2 i s l h1 h2).kt hk⟩
theorem RI.ext {B : Nat} {w w' : World} {Vs : List SlV} {Rr : List (List Ent)} (h : RI B w Vs Rr) (hb : Below w.heap.size w w') : RI B w' Vs Rr := h.kt (KT.of_below hb)
theorem RI.nil (B : Nat) (w : World) : RI B w [] [] := ⟨rfl, fun i s l h => by cases h⟩
theorem RI.get {B : Nat} {w : World} {Vs : List SlV} {Rr : List (List Ent)} (h : RI B w Vs Rr) {i : Nat} (hi : i < Vs.length) : ∃ y l, Vs[i]? = some y ∧ Rr[i]? = some l ∧ Row 4 vE 59 B w (.slice y.1 y.2.1 y.2.2) l ∧ RdS 4 vE w y.1 l ∧ y.2.1 = l.length := by
  have h1 := h.1
  obtain ⟨y, hy⟩ : ∃ x, Vs[i]? = some x := ⟨_, List.getElem?_eq_getElem hi⟩
  obtain ⟨l, hl⟩ : ∃ x, Rr[i]? = some x := ⟨_, List.getElem?_eq_getElem (by omega)⟩
  have hr := h.2 i y l hy hl
  exact ⟨y, l, hy, hl, hr, Row.rd (by intros; rfl) hr, (Row.caps hr).1⟩
theorem flat_take {Rr : List (List Ent)} {i : Nat} {l : List Ent} (h : Rr[i]? = some l) : (Rr.take (i + 1)).flatten = (Rr.take i).flatten ++ l := by
  rw [List.take_add_one, h, List.flatten_append]
  simp
theorem flat_le (Rr : List (List Ent)) (i : Nat) : (Rr.take i).flatten.length ≤ Rr.flatten.length := by
  have h : Rr.flatten = (Rr.take i).flatten ++ (Rr.drop i).flatten := by rw [← List.flatten_append, List.take_append_drop]
  rw [h, List.length_append]
  omega

set_option maxHeartbeats 1000000 in
set_option maxRecDepth 100000 in
theorem sinceT (p : Nat) (la ma : Option Addr) (lc mc : Nat) (L : List Ent) (M : List Int) (N : Int) (B : Nat) (w : World) (hpb : w.heap[p]? = some (.cells #[(.slice la L.length lc), (.slice ma M.length mc), (.int .i64 N)] 130 (0, 0))) (hRL : Row 4 vE 54 B w (.slice la L.length lc) L) (hRM : Row 1 (vInt .i64) 3 B w (.slice ma M.length mc) M) (hL : L.length ≤ 1000000) (hM : M.length ≤ 1000000) (h0 : 0 < M.length) (qn : Nat) (hq : M[M.length - 1]? = some ((qn : Nat) : Int)) (hqL : qn ≤ L.length) : Calls Try.prog 35 #[(.pointer (some ⟨p, 0, none⟩))] w fun e w' => ∃ v, e = .returned v ∧ Row 4 vE 54 w.heap.size w' v (L.drop qn) ∧ Below w.heap.size w w' := by
  obtain ⟨mb_, rfl, hbmb, hlmb⟩ := Row.some hRM (by omega)
  have hcL := Row.caps hRL
  have hcM := Row.caps hRM
  have hpl := (Array.getElem?_eq_some_iff.1 hpb).1
  refine sx_enter (L := [(0, (.pointer (some ⟨p, 0, none⟩)))]) Try.func35 rfl rfl rfl rfl (fun fa hf => ?_)
  have hb : Below w.heap.size w w := Below.refl _ _
  refine wp_seq_k (fun K1 hK1 => ?_)
  refine wp_region_lit ?_
  refine sqv hf (r_assign rfl) rfl rfl rfl ?_; clear hf fa; intro fa hf
  apply wpList_nil
  (try simp only [Exit.then, Exit.inBlock, ↓reduceIte, Nat.reduceEqDiff])
  refine hK1 _ _ ?_
  refine wp_seq_k (fun K2 hK2 => ?_)
  refine wp_seq_k (fun K3 hK3 => ?_)
  refine wp_region_lit ?_
  refine sqv hf (r_move rfl) rfl rfl rfl ?_; clear hf fa; intro fa hf
  refine sqdt hf (d_callB (vs := [(.pointer (some ⟨p, 0, none⟩))]) rfl Try.func28 (by kernel_rfl) (by kernel_rfl) (jopen_T hpb (by omega))) rfl rfl rfl ?_; clear hf fa; rintro fa _ w1 ⟨rfl, he1⟩ hf
  replace hpb := blk_ext hpb he1
  replace hRL := Row.ext hRL he1
  replace hRM := Row.ext hRM he1
  replace hb := hb.trans (Below.mono he1 hb.size)
  refine sqv hf (Runs.veq (v' := (.bool false)) (r_not rfl) rfl) rfl rfl rfl ?_; clear hf fa; intro fa hf
  apply wpList_nil
  (try simp only [Exit.then, Exit.inBlock, ↓reduceIte, Nat.reduceEqDiff])
  refine hK3 _ _ ?_
  refine wp_cond_false (hf.ev rfl) ?_
  refine wp_skip ?_
  (try simp only [Exit.then, Exit.inBlock, ↓reduceIte, Nat.reduceEqDiff])
  refine hK2 _ _ ?_
  refine wp_seq_k (fun K4 hK4 => ?_)
  have hdl : (([] : List Ent) ++ L.drop qn).length = L.length - qn := by rw [List.nil_append, List.length_drop]
  have hdl2 : (L.drop qn).length = L.length - qn := List.length_drop
  have hy1 : (M)[(M.length - 1)]? = some ((qn : Nat) : Int) := hq
  have hel1 := RdS.at (Row.rd (by intros; rfl) hRM) hy1
  obtain ⟨_, _, hab, hlr1, hel1⟩ := hel1
  cases hab
  refine wp_region_vnT 19 (fun _ wq => Below w1.heap.size w1 wq)
    (fun V S => [(fun x wq => ∃ b, x = .slice (some ⟨b, 0, none⟩) 0 0 ∧ w1.heap.size ≤ b ∧ (¬ S 18 → wq.heap[b]? = some (.cells #[] 54 (0, 0)))), (fun x _ => x = (.pointer (some ⟨p, 0, none⟩))), (fun x _ => x = (.pointer (some ⟨p, 0, none⟩))), (fun x _ => x = (.pointer (some ⟨p, 0, none⟩))), (fun x _ => x = (.slice la L.length lc)), (fun x _ => x = (.pointer (some ⟨p, 0, none⟩))), (fun x _ => x = (.pointer (some ⟨p, 0, none⟩))), (fun x _ => x = (.pointer (some ⟨p, 1, none⟩))), (fun x _ => x = (.slice (some ⟨mb_, 0, none⟩) M.length mc)), (fun x _ => x = (.pointer (some ⟨p, 0, none⟩))), (fun x _ => x = (.pointer (some ⟨p, 0, none⟩))), (fun x _ => x = (.pointer (some ⟨p, 1, none⟩))), (fun x _ => x = (.slice (some ⟨mb_, 0, none⟩) M.length mc)), (fun x _ => x = (.int .i64 ((M.length : Nat) : Int))), (fun x _ => x = (.int .i64 (((M.length : Nat) : Int) - (1 : Int)))), (fun x _ => x = (.pointer (some ⟨mb_, (0 + (M.length - 1) * 1), none⟩))), (fun x _ => x = (.int .i64 ((qn : Nat) : Int))), (fun x _ => x = (.slice (slAt la lc qn 4) ((L.length - qn)) (lc - qn))), (fun x wq => ∃ a c, x = .slice a ([] ++ (L.drop qn)).length c ∧ Row 4 vE 54 w1.heap.size wq x ([] ++ (L.drop qn)))])
    [0]
    [[], [], [1], [2], [3], [], [5], [6], [7], [], [9], [10], [11], [12], [13], [8, 14], [15], [4, 16], [0, 17], []]
    hf (by kernel_rfl) (by kernel_rfl) (by kernel_rfl) (fun _ _ => rfl) (fun _ hS_ => (Below.refl _ _).drew) (fun _ _ _ _ _ _ => rfl) ?_ ?_
  · skip
    intro V
    have hKP : ∀ (i : Nat) (S : Nat → Prop) (wk : World), (∀ q ∈ ([18] : List Nat), q ≠ i) → ∀ j v w', (((fun (S : Nat → Prop) => ([(fun x wq => ∃ b, x = .slice (some ⟨b, 0, none⟩) 0 0 ∧ w1.heap.size ≤ b ∧ (¬ S 18 → wq.heap[b]? = some (.cells #[] 54 (0, 0)))), (fun x _ => x = (.pointer (some ⟨p, 0, none⟩))), (fun x _ => x = (.pointer (some ⟨p, 0, none⟩))), (fun x _ => x = (.pointer (some ⟨p, 0, none⟩))), (fun x _ => x = (.slice la L.length lc)), (fun x _ => x = (.pointer (some ⟨p, 0, none⟩))), (fun x _ => x = (.pointer (some ⟨p, 0, none⟩))), (fun x _ => x = (.pointer (some ⟨p, 1, none⟩))), (fun x _ => x = (.slice (some ⟨mb_, 0, none⟩) M.length mc)), (fun x _ => x = (.pointer (some ⟨p, 0, none⟩))), (fun x _ => x = (.pointer (some ⟨p, 0, none⟩))), (fun x _ => x = (.pointer (some ⟨p, 1, none⟩))), (fun x _ => x = (.slice (some ⟨mb_, 0, none⟩) M.length mc)), (fun x _ => x = (.int .i64 ((M.length : Nat) : Int))), (fun x _ => x = (.int .i64 (((M.length : Nat) : Int) - (1 : Int)))), (fun x _ => x = (.pointer (some ⟨mb_, (0 + (M.length - 1) * 1), none⟩))), (fun x _ => x = (.int .i64 ((qn : Nat) : Int))), (fun x _ => x = (.slice (slAt la lc qn 4) ((L.length - qn)) (lc - qn))), (fun x wq => ∃ a c, x = .slice a ([] ++ (L.drop qn)).length c ∧ Row 4 vE 54 w1.heap.size wq x ([] ++ (L.drop qn)))] : List (Value → World → Prop))) S).getD j (fun _ _ => True)) v wk → Below wk.heap.size wk w' → (((fun (S : Nat → Prop) => ([(fun x wq => ∃ b, x = .slice (some ⟨b, 0, none⟩) 0 0 ∧ w1.heap.size ≤ b ∧ (¬ S 18 → wq.heap[b]? = some (.cells #[] 54 (0, 0)))), (fun x _ => x = (.pointer (some ⟨p, 0, none⟩))), (fun x _ => x = (.pointer (some ⟨p, 0, none⟩))), (fun x _ => x = (.pointer (some ⟨p, 0, none⟩))), (fun x _ => x = (.slice la L.length lc)), (fun x _ => x = (.pointer (some ⟨p, 0, none⟩))), (fun x _ => x = (.pointer (some ⟨p, 0, none⟩))), (fun x _ => x = (.pointer (some ⟨p, 1, none⟩))), (fun x _ => x = (.slice (some ⟨mb_, 0, none⟩) M.length mc)), (fun x _ => x = (.pointer (some ⟨p, 0, none⟩))), (fun x _ => x = (.pointer (some ⟨p, 0, none⟩))), (fun x _ => x = (.pointer (some ⟨p, 1, none⟩))), (fun x _ => x = (.slice (some ⟨mb_, 0, none⟩) M.length mc)), (fun x _ => x = (.int .i64 ((M.length : Nat) : Int))), (fun x _ => x = (.int .i64 (((M.length : Nat) : Int) - (1 : Int)))), (fun x _ => x = (.pointer (some ⟨mb_, (0 + (M.length - 1) * 1), none⟩))), (fun x _ => x = (.int .i64 ((qn : Nat) : Int))), (fun x _ => x = (.slice (slAt la lc qn 4) ((L.length - qn)) (lc - qn))), (fun x wq => ∃ a c, x = .slice a ([] ++ (L.drop qn)).length c ∧ Row 4 vE 54 w1.heap.size wq x ([] ++ (L.drop qn)))] : List (Value → World → Prop))) (ad i S)).getD j (fun _ _ => True)) v w' := by
      intro i S wk hi j v w' h hB
      match j with
      | 0 =>
        obtain ⟨b, e1, e2, e3⟩ := h
        exact ⟨b, e1, e2, fun hn => blk_ext (e3 (fun hs => hn (.inr hs))) hB⟩
      | 1 =>
        exact h
      | 2 =>
        exact h
      | 3 =>
        exact h
      | 4 =>
        exact h
      | 5 =>
        exact h
      | 6 =>
        exact h
      | 7 =>
        exact h
      | 8 =>
        exact h
      | 9 =>
        exact h
      | 10 =>
        exact h
      | 11 =>
        exact h
      | 12 =>
        exact h
      | 13 =>
        exact h
      | 14 =>
        exact h
      | 15 =>
        exact h
      | 16 =>
        exact h
      | 17 =>
        exact h
      | 18 =>
        obtain ⟨a, c, e1, e2⟩ := h
        exact ⟨a, c, e1, e2.ext hB⟩
      | _ + 19 => trivial
    refine ⟨fun S wu0 hC hS hd hi => ?_, ?_⟩
    · skip
      replace hC : Below w1.heap.size w1 wu0 := hC
      refine uv_plain (C := (fun _ wq => Below w1.heap.size w1 wq)) (hKP 0 S wu0 (by decide)) (fun _ h1 h2 => Below.trans h1 (Below.mono h2 (Below.size h1))) hC hS ?_
      replace hb := hb.trans (hC.mono hb.size)
      replace hpb := blk_ext hpb hC
      replace hRL := Row.ext hRL hC
      replace hRM := Row.ext hRM hC
      refine Does.mono (d_bslice0 (sz := 4) Try.underlying61 (by kernel_rfl)) ?_
      rintro _ w' ⟨b, rfl, hF⟩
      exact ⟨hF.2.2, ⟨b, rfl, Nat.le_trans hC.size hF.1, fun _ => hF.2.1⟩, isfr rfl hF.1 (blk_lt hF.2.1)⟩
    refine ⟨fun S wu1 hC hS hd hi => ?_, ?_⟩
    · skip
      replace hC : Below w1.heap.size w1 wu1 := hC
      refine uv_plain (C := (fun _ wq => Below w1.heap.size w1 wq)) (hKP 1 S wu1 (by decide)) (fun _ h1 h2 => Below.trans h1 (Below.mono h2 (Below.size h1))) hC hS ?_
      replace hb := hb.trans (hC.mono hb.size)
      replace hpb := blk_ext hpb hC
      replace hRL := Row.ext hRL hC
      replace hRM := Row.ext hRM hC
      exact Runs.does (r_move rfl) ⟨Below.refl _ _, rfl, nofr rfl⟩
    refine ⟨fun S wu2 hC hS hd hi => ?_, ?_⟩
    · skip
      replace hC : Below w1.heap.size w1 wu2 := hC
      refine uv_plain (C := (fun _ wq => Below w1.heap.size w1 wq)) (hKP 2 S wu2 (by decide)) (fun _ h1 h2 => Below.trans h1 (Below.mono h2 (Below.size h1))) hC hS ?_
      have h1 := hS.post 1 (hd 1 (by decide))
      replace h1 : V 1 = (.pointer (some ⟨p, 0, none⟩)) := h1
      replace hb := hb.trans (hC.mono hb.size)
      replace hpb := blk_ext hpb hC
      replace hRL := Row.ext hRL hC
      replace hRM := Row.ext hRM hC
      exact Runs.does (r_nilCheck (congrArg some h1)) ⟨Below.refl _ _, rfl, nofr rfl⟩
    refine ⟨fun S wu3 hC hS hd hi => ?_, ?_⟩
    · skip
      replace hC : Below w1.heap.size w1 wu3 := hC
      refine uv_plain (C := (fun _ wq => Below w1.heap.size w1 wq)) (hKP 3 S wu3 (by decide)) (fun _ h1 h2 => Below.trans h1 (Below.mono h2 (Below.size h1))) hC hS ?_
      have h2 := hS.post 2 (hd 2 (by decide))
      replace h2 : V 2 = (.pointer (some ⟨p, 0, none⟩)) := h2
      replace hb := hb.trans (hC.mono hb.size)
      replace hpb := blk_ext hpb hC
      replace hRL := Row.ext hRL hC
      replace hRM := Row.ext hRM hC
      exact Runs.does (r_fa (congrArg some h2) Try.underlying130 (f := 0) (q := 0) rfl (by kernel_rfl) rfl) ⟨Below.refl _ _, rfl, nofr rfl⟩
    refine ⟨fun S wu4 hC hS hd hi => ?_, ?_⟩
    · skip
      replace hC : Below w1.heap.size w1 wu4 := hC
      refine uv_plain (C := (fun _ wq => Below w1.heap.size w1 wq)) (hKP 4 S wu4 (by decide)) (fun _ h1 h2 => Below.trans h1 (Below.mono h2 (Below.size h1))) hC hS ?_
      have h3 := hS.post 3 (hd 3 (by decide))
      replace h3 : V 3 = (.pointer (some ⟨p, 0, none⟩)) := h3
      replace hb := hb.trans (hC.mono hb.size)
      replace hpb := blk_ext hpb hC
      replace hRL := Row.ext hRL hC
      replace hRM := Row.ext hRM hC
      exact Runs.does (r_load (v := (.slice la L.length lc)) (congrArg some h3) Try.underlying61 rfl (cell_blk hpb rfl)) ⟨Below.refl _ _, rfl, nofr rfl⟩
    refine ⟨fun S wu5 hC hS hd hi => ?_, ?_⟩
    · skip
      replace hC : Below w1.heap.size w1 wu5 := hC
      refine uv_plain (C := (fun _ wq => Below w1.heap.size w1 wq)) (hKP 5 S wu5 (by decide)) (fun _ h1 h2 => Below.trans h1 (Below.mono h2 (Below.size h1))) hC hS ?_
      replace hb := hb.trans (hC.mono hb.size)
      replace hpb := blk_ext hpb hC
      replace hRL := Row.ext hRL hC
      replace hRM := Row.ext hRM hC
      exact Runs.does (r_move rfl) ⟨Below.refl _ _, rfl, nofr rfl⟩
    refine ⟨fun S wu6 hC hS hd hi => ?_, ?_⟩
    · skip
      replace hC : Below w1.heap.size w1 wu6 := hC
      refine uv_plain (C := (fun _ wq => Below w1.heap.size w1 wq)) (hKP 6 S wu6 (by decide)) (fun _ h1 h2 => Below.trans h1 (Below.mono h2 (Below.size h1))) hC hS ?_
      have h5 := hS.post 5 (hd 5 (by decide))
      replace h5 : V 5 = (.pointer (some ⟨p, 0, none⟩)) := h5
      replace hb := hb.trans (hC.mono hb.size)
      replace hpb := blk_ext hpb hC
      replace hRL := Row.ext hRL hC
      replace hRM := Row.ext hRM hC
      exact Runs.does (r_nilCheck (congrArg some h5)) ⟨Below.refl _ _, rfl, nofr rfl⟩
    refine ⟨fun S wu7 hC hS hd hi => ?_, ?_⟩
    · skip
      replace hC : Below w1.heap.size w1 wu7 := hC
      refine uv_plain (C := (fun _ wq => Below w1.heap.size w1 wq)) (hKP 7 S wu7 (by decide)) (fun _ h1 h2 => Below.trans h1 (Below.mono h2 (Below.size h1))) hC hS ?_
      have h6 := hS.post 6 (hd 6 (by decide))
      replace h6 : V 6 = (.pointer (some ⟨p, 0, none⟩)) := h6
      replace hb := hb.trans (hC.mono hb.size)
      replace hpb := blk_ext hpb hC
      replace hRL := Row.ext hRL hC
      replace hRM := Row.ext hRM hC
      exact Runs.does (r_fa (congrArg some h6) Try.underlying130 (f := 1) (q := 1) rfl (by kernel_rfl) rfl) ⟨Below.refl _ _, rfl, nofr rfl⟩
    refine ⟨fun S wu8 hC hS hd hi => ?_, ?_⟩
    · skip
      replace hC : Below w1.heap.size w1 wu8 := hC
      refine uv_plain (C := (fun _ wq => Below w1.heap.size w1 wq)) (hKP 8 S wu8 (by decide)) (fun _ h1 h2 => Below.trans h1 (Below.mono h2 (Below.size h1))) hC hS ?_
      have h7 := hS.post 7 (hd 7 (by decide))
      replace h7 : V 7 = (.pointer (some ⟨p, 1, none⟩)) := h7
      replace hb := hb.trans (hC.mono hb.size)
      replace hpb := blk_ext hpb hC
      replace hRL := Row.ext hRL hC
      replace hRM := Row.ext hRM hC
      exact Runs.does (r_load (v := (.slice (some ⟨mb_, 0, none⟩) M.length mc)) (congrArg some h7) Try.underlying33 rfl (cell_blk hpb rfl)) ⟨Below.refl _ _, rfl, nofr rfl⟩
    refine ⟨fun S wu9 hC hS hd hi => ?_, ?_⟩
    · skip
      replace hC : Below w1.heap.size w1 wu9 := hC
      refine uv_plain (C := (fun _ wq => Below w1.heap.size w1 wq)) (hKP 9 S wu9 (by decide)) (fun _ h1 h2 => Below.trans h1 (Below.mono h2 (Below.size h1))) hC hS ?_
      replace hb := hb.trans (hC.mono hb.size)
      replace hpb := blk_ext hpb hC
      replace hRL := Row.ext hRL hC
      replace hRM := Row.ext hRM hC
      exact Runs.does (r_move rfl) ⟨Below.refl _ _, rfl, nofr rfl⟩
    refine ⟨fun S wu10 hC hS hd hi => ?_, ?_⟩
    · skip
      replace hC : Below w1.heap.size w1 wu10 := hC
      refine uv_plain (C := (fun _ wq => Below w1.heap.size w1 wq)) (hKP 10 S wu10 (by decide)) (fun _ h1 h2 => Below.trans h1 (Below.mono h2 (Below.size h1))) hC hS ?_
      have h9 := hS.post 9 (hd 9 (by decide))
      replace h9 : V 9 = (.pointer (some ⟨p, 0, none⟩)) := h9
      replace hb := hb.trans (hC.mono hb.size)
      replace hpb := blk_ext hpb hC
      replace hRL := Row.ext hRL hC
      replace hRM := Row.ext hRM hC
      exact Runs.does (r_nilCheck (congrArg some h9)) ⟨Below.refl _ _, rfl, nofr rfl⟩
    refine ⟨fun S wu11 hC hS hd hi => ?_, ?_⟩
    · skip
      replace hC : Below w1.heap.size w1 wu11 := hC
      refine uv_plain (C := (fun _ wq => Below w1.heap.size w1 wq)) (hKP 11 S wu11 (by decide)) (fun _ h1 h2 => Below.trans h1 (Below.mono h2 (Below.size h1))) hC hS ?_
      have h10 := hS.post 10 (hd 10 (by decide))
      replace h10 : V 10 = (.pointer (some ⟨p, 0, none⟩)) := h10
      replace hb := hb.trans (hC.mono hb.size)
      replace hpb := blk_ext hpb hC
      replace hRL := Row.ext hRL hC
      replace hRM := Row.ext hRM hC
      exact Runs.does (r_fa (congrArg some h10) Try.underlying130 (f := 1) (q := 1) rfl (by kernel_rfl) rfl) ⟨Below.refl _ _, rfl, nofr rfl⟩
    refine ⟨fun S wu12 hC hS hd hi => ?_, ?_⟩
    · skip
      replace hC : Below w1.heap.size w1 wu12 := hC
      refine uv_plain (C := (fun _ wq => Below w1.heap.size w1 wq)) (hKP 12 S wu12 (by decide)) (fun _ h1 h2 => Below.trans h1 (Below.mono h2 (Below.size h1))) hC hS ?_
      have h11 := hS.post 11 (hd 11 (by decide))
      replace h11 : V 11 = (.pointer (some ⟨p, 1, none⟩)) := h11
      replace hb := hb.trans (hC.mono hb.size)
      replace hpb := blk_ext hpb hC
      replace hRL := Row.ext hRL hC
      replace hRM := Row.ext hRM hC
      exact Runs.does (r_load (v := (.slice (some ⟨mb_, 0, none⟩) M.length mc)) (congrArg some h11) Try.underlying33 rfl (cell_blk hpb rfl)) ⟨Below.refl _ _, rfl, nofr rfl⟩
    refine ⟨fun S wu13 hC hS hd hi => ?_, ?_⟩
    · skip
      replace hC : Below w1.heap.size w1 wu13 := hC
      refine uv_plain (C := (fun _ wq => Below w1.heap.size w1 wq)) (hKP 13 S wu13 (by decide)) (fun _ h1 h2 => Below.trans h1 (Below.mono h2 (Below.size h1))) hC hS ?_
      have h12 := hS.post 12 (hd 12 (by decide))
      replace h12 : V 12 = (.slice (some ⟨mb_, 0, none⟩) M.length mc) := h12
      replace hb := hb.trans (hC.mono hb.size)
      replace hpb := blk_ext hpb hC
      replace hRL := Row.ext hRL hC
      replace hRM := Row.ext hRM hC
      exact Runs.does (r_lensl (congrArg some h12) Try.underlying33) ⟨Below.refl _ _, rfl, nofr rfl⟩
    refine ⟨fun S wu14 hC hS hd hi => ?_, ?_⟩
    · skip
      replace hC : Below w1.heap.size w1 wu14 := hC
      refine uv_plain (C := (fun _ wq => Below w1.heap.size w1 wq)) (hKP 14 S wu14 (by decide)) (fun _ h1 h2 => Below.trans h1 (Below.mono h2 (Below.size h1))) hC hS ?_
      have h13 := hS.post 13 (hd 13 (by decide))
      replace h13 : V 13 = (.int .i64 ((M.length : Nat) : Int)) := h13
      replace hb := hb.trans (hC.mono hb.size)
      replace hpb := blk_ext hpb hC
      replace hRL := Row.ext hRL hC
      replace hRM := Row.ext hRM hC
      exact Runs.does (r_sub (C := (((M.length : Nat) : Int) - (1 : Int))) (congrArg some h13) rfl (by rw [IntKind.wrap_i64]; omega)) ⟨Below.refl _ _, rfl, nofr rfl⟩
    refine ⟨fun S wu15 hC hS hd hi => ?_, ?_⟩
    · skip
      replace hC : Below w1.heap.size w1 wu15 := hC
      refine uv_plain (C := (fun _ wq => Below w1.heap.size w1 wq)) (hKP 15 S wu15 (by decide)) (fun _ h1 h2 => Below.trans h1 (Below.mono h2 (Below.size h1))) hC hS ?_
      have h8 := hS.post 8 (hd 8 (by decide))
      replace h8 : V 8 = (.slice (some ⟨mb_, 0, none⟩) M.length mc) := h8
      have h14 := hS.post 14 (hd 14 (by decide))
      replace h14 : V 14 = (.int .i64 (((M.length : Nat) : Int) - (1 : Int))) := h14
      replace hb := hb.trans (hC.mono hb.size)
      replace hpb := blk_ext hpb hC
      replace hRL := Row.ext hRL hC
      replace hRM := Row.ext hRM hC
      exact Runs.does (r_ixa (sz := 1) (j := (M.length - 1)) (congrArg some h8) (congrArg some h14) Try.underlying33 (by kernel_rfl) (by omega) (by omega) rfl) ⟨Below.refl _ _, rfl, nofr rfl⟩
    refine ⟨fun S wu16 hC hS hd hi => ?_, ?_⟩
    · skip
      replace hC : Below w1.heap.size w1 wu16 := hC
      refine uv_plain (C := (fun _ wq => Below w1.heap.size w1 wq)) (hKP 16 S wu16 (by decide)) (fun _ h1 h2 => Below.trans h1 (Below.mono h2 (Below.size h1))) hC hS ?_
      have h15 := hS.post 15 (hd 15 (by decide))
      replace h15 : V 15 = (.pointer (some ⟨mb_, (0 + (M.length - 1) * 1), none⟩)) := h15
      replace hb := hb.trans (hC.mono hb.size)
      replace hpb := blk_ext hpb hC
      replace hRL := Row.ext hRL hC
      replace hRM := Row.ext hRM hC
      exact Runs.does (r_load (v := (.int .i64 ((qn : Nat) : Int))) (congrArg some h15) Try.underlying3 rfl (cellsAt_cell (cellsAt_below hel1 hC hlr1) (i := 0) rfl rfl)) ⟨Below.refl _ _, rfl, nofr rfl⟩
    refine ⟨fun S wu17 hC hS hd hi => ?_, ?_⟩
    · skip
      replace hC : Below w1.heap.size w1 wu17 := hC
      refine uv_plain (C := (fun _ wq => Below w1.heap.size w1 wq)) (hKP 17 S wu17 (by decide)) (fun _ h1 h2 => Below.trans h1 (Below.mono h2 (Below.size h1))) hC hS ?_
      have h4 := hS.post 4 (hd 4 (by decide))
      replace h4 : V 4 = (.slice la L.length lc) := h4
      have h16 := hS.post 16 (hd 16 (by decide))
      replace h16 : V 16 = (.int .i64 ((qn : Nat) : Int)) := h16
      replace hb := hb.trans (hC.mono hb.size)
      replace hpb := blk_ext hpb hC
      replace hRL := Row.ext hRL hC
      replace hRM := Row.ext hRM hC
      exact Runs.does (r_slfrom (l := qn) (sz := 4) (congrArg some h4) (congrArg some h16) Try.underlying61 (by kernel_rfl) rfl (by omega)) ⟨Below.refl _ _, rfl, nofr rfl⟩
    refine ⟨fun S wu18 hC hS hd hi => ?_, ?_⟩
    · skip
      replace hC : Below w1.heap.size w1 wu18 := hC
      have h0 := hS.post 0 (hd 0 (by decide))
      obtain ⟨b1, h0, hle1, hk1⟩ := h0
      replace hk1 := hk1 hi
      have h17 := hS.post 17 (hd 17 (by decide))
      replace h17 : V 17 = (.slice (slAt la lc qn 4) ((L.length - qn)) (lc - qn)) := h17
      replace hb := hb.trans (hC.mono hb.size)
      replace hpb := blk_ext hpb hC
      replace hRL := Row.ext hRL hC
      replace hRM := Row.ext hRM hC
      have hrA := Row.of_new (k := 4) (V := vE) (l := []) (base := w1.heap.size) hk1 hle1 rfl rfl (Nat.le_of_ble_eq_true rfl)
      refine Does.mono (d_append (V := vE) (k := 4) (e := 54) (bytes := 40) (z := (.agg #[(.int .i64 (0 : Int)), (.int .i64 (0 : Int)), (.int .u64 (0 : Int)), (.string ⟨#[]⟩)])) (news := (L.drop qn)) (base := w1.heap.size) (by intros; rfl) (by exact oneE) (congrArg some h0) (congrArg some h17) Try.underlying61 (by kernel_rfl) rfl rfl rfl hrA (slAt_rd (X := (L.drop qn)) (by intros; rfl) hRL List.take_length (by rw [List.length_drop]; omega)) (by rw [List.length_drop]) (slAt_nocap (fun h => Row.nocap hRL h)) (by first | omega | (simp only [List.length_cons, List.length_nil, List.length_append, nums_len]; omega)) hC.size) ?_
      rintro v' wz ⟨hY, hgY⟩
      obtain ⟨ra, rc, rfl, _, _⟩ := Row.slice hY
      refine ⟨⟨hC.trans (row_below hrA hgY hC.size (Nat.le_refl _)), fun j hj => ?_, hgY.size⟩, ⟨ra, rc, rfl, hY⟩, nofr rfl⟩
      match j with
      | 0 =>
        exact ⟨b1, h0, hle1, fun hn => absurd (.inl rfl) hn⟩
      | 1 =>
        exact hS.post 1 hj
      | 2 =>
        exact hS.post 2 hj
      | 3 =>
        exact hS.post 3 hj
      | 4 =>
        exact hS.post 4 hj
      | 5 =>
        exact hS.post 5 hj
      | 6 =>
        exact hS.post 6 hj
      | 7 =>
        exact hS.post 7 hj
      | 8 =>
        exact hS.post 8 hj
      | 9 =>
        exact hS.post 9 hj
      | 10 =>
        exact hS.post 10 hj
      | 11 =>
        exact hS.post 11 hj
      | 12 =>
        exact hS.post 12 hj
      | 13 =>
        exact hS.post 13 hj
      | 14 =>
        exact hS.post 14 hj
      | 15 =>
        exact hS.post 15 hj
      | 16 =>
        exact hS.post 16 hj
      | 17 =>
        exact hS.post 17 hj
      | 18 =>
        exact absurd hj hi
      | _ + 19 => trivial
    trivial
  · skip
    clear hf fa; intro V S w2 fa hall he2 hp hnb hf
    have hv0 := postsHold_at hp 0 rfl
    obtain ⟨b1, hv0, hle1, hk1⟩ := hv0
    clear hk1
    have hBb1 : w.heap.size ≤ b1 := Nat.le_trans hb.size hle1
    have hv1 := postsHold_at hp 1 rfl
    replace hv1 : V 1 = (.pointer (some ⟨p, 0, none⟩)) := hv1
    have hv2 := postsHold_at hp 2 rfl
    replace hv2 : V 2 = (.pointer (some ⟨p, 0, none⟩)) := hv2
    have hv3 := postsHold_at hp 3 rfl
    replace hv3 : V 3 = (.pointer (some ⟨p, 0, none⟩)) := hv3
    have hv4 := postsHold_at hp 4 rfl
    replace hv4 : V 4 = (.slice la L.length lc) := hv4
    have hv5 := postsHold_at hp 5 rfl
    replace hv5 : V 5 = (.pointer (some ⟨p, 0, none⟩)) := hv5
    have hv6 := postsHold_at hp 6 rfl
    replace hv6 : V 6 = (.pointer (some ⟨p, 0, none⟩)) := hv6
    have hv7 := postsHold_at hp 7 rfl
    replace hv7 : V 7 = (.pointer (some ⟨p, 1, none⟩)) := hv7
    have hv8 := postsHold_at hp 8 rfl
    replace hv8 : V 8 = (.slice (some ⟨mb_, 0, none⟩) M.length mc) := hv8
    have hv9 := postsHold_at hp 9 rfl
    replace hv9 : V 9 = (.pointer (some ⟨p, 0, none⟩)) := hv9
    have hv10 := postsHold_at hp 10 rfl
    replace hv10 : V 10 = (.pointer (some ⟨p, 0, none⟩)) := hv10
    have hv11 := postsHold_at hp 11 rfl
    replace hv11 : V 11 = (.pointer (some ⟨p, 1, none⟩)) := hv11
    have hv12 := postsHold_at hp 12 rfl
    replace hv12 : V 12 = (.slice (some ⟨mb_, 0, none⟩) M.length mc) := hv12
    have hv13 := postsHold_at hp 13 rfl
    replace hv13 : V 13 = (.int .i64 ((M.length : Nat) : Int)) := hv13
    have hv14 := postsHold_at hp 14 rfl
    replace hv14 : V 14 = (.int .i64 (((M.length : Nat) : Int) - (1 : Int))) := hv14
    have hv15 := postsHold_at hp 15 rfl
    replace hv15 : V 15 = (.pointer (some ⟨mb_, (0 + (M.length - 1) * 1), none⟩)) := hv15
    have hv16 := postsHold_at hp 16 rfl
    replace hv16 : V 16 = (.int .i64 ((qn : Nat) : Int)) := hv16
    have hv17 := postsHold_at hp 17 rfl
    replace hv17 : V 17 = (.slice (slAt la lc qn 4) ((L.length - qn)) (lc - qn)) := hv17
    have hv18 := postsHold_at hp 18 rfl
    obtain ⟨ea1, ec1, hv18, hr1⟩ := hv18
    rw [hv18] at hr1
    replace hr1 := Row.rebase hr1 hb.size
    simp only [List.take_succ_cons, List.take_zero, insAll, ins, hv0, hv1, hv2, hv3, hv4, hv5, hv6, hv7, hv8, hv9, hv10, hv11, hv12, hv13, hv14, hv15, hv16, hv17, hv18] at hf
    have : p < b1 := Nat.lt_of_lt_of_le (blk_lt hpb) hle1
    clear hp hnb hall hv0 hv1 hv2 hv3 hv4 hv5 hv6 hv7 hv8 hv9 hv10 hv11 hv12 hv13 hv14 hv15 hv16 hv17 hv18
    replace hpb := blk_ext hpb he2
    replace hRL := Row.ext hRL he2
    replace hRM := Row.ext hRM he2
    replace hb := hb.trans (Below.mono he2 hb.size)
    simp only [List.drop_succ_cons, List.drop_zero]
    refine sqv hf (r_assign rfl) rfl rfl rfl ?_; clear hf fa; intro fa hf
    apply wpList_nil
    (try simp only [Exit.then, Exit.inBlock, ↓reduceIte, Nat.reduceEqDiff])
    refine hK4 _ _ ?_
    refine wp_ret ?_
    (try simp only [Exit.then, Exit.inBlock])
    refine ret1 hf rfl rfl ?_
    have hzz := hr1
    exact ⟨_, rfl, hzz, hb⟩

set_option maxHeartbeats 1000000 in
set_option maxRecDepth 100000 in
theorem kinds_p (p : Nat) (la ma : Option Addr) (lc mc : Nat) (L : List Ent) (M : List Int) (N : Int) (B : Nat) (w : World) (hpb : w.heap[p]? = some (.cells #[(.slice la L.length lc), (.slice ma M.length mc), (.int .i64 N)] 130 (0, 0))) (hRL : Row 4 vE 54 B w (.slice la L.length lc) L) (hRM : Row 1 (vInt .i64) 3 B w (.slice ma M.length mc) M) (hL : L.length ≤ 1000000) (hM : M.length ≤ 1000000) (hwf : ∀ y ∈ L, (Lit.int .i64 y.1).wf = true) : Calls Try.prog 33 #[(.pointer (some ⟨p, 0, none⟩))] w fun e w' => ∃ v, e = .returned v ∧ ∃ b, v = .map (some b) ∧ CntM Try.prog 3 3 w' b (kds L) ∧ Below w.heap.size w w' := by
  have hcL := Row.caps hRL
  have hcM := Row.caps hRM
  have hpl := (Array.getElem?_eq_some_iff.1 hpb).1
  have hEd := Row.rd (by intros; rfl) hRL
  refine sx_enter (L := [(0, (.pointer (some ⟨p, 0, none⟩)))]) Try.func33 rfl rfl rfl rfl (fun fa hf => ?_)
  have hb : Below w.heap.size w w := Below.refl _ _
  refine wp_seq_k (fun K1 hK1 => ?_)
  refine wp_region_lit ?_
  refine sqv hf (r_assign rfl) rfl rfl rfl ?_; clear hf fa; intro fa hf
  apply wpList_nil
  (try simp only [Exit.then, Exit.inBlock, ↓reduceIte, Nat.reduceEqDiff])
  refine hK1 _ _ ?_
  refine wp_seq_k (fun K2 hK2 => ?_)
  refine wp_region_lit ?_
  refine sqdt hf (d_makeMapI (k := 3) (e := 3)) rfl rfl rfl ?_; clear hf fa; rintro fa _ w1 ⟨bm1, rfl, hle1, hmp1, he1⟩ hf
  have hBbm1 : w.heap.size ≤ bm1 := Nat.le_trans hb.size hle1
  have : p < bm1 := Nat.lt_of_lt_of_le (blk_lt hpb) hle1
  replace hpb := blk_ext hpb he1
  replace hb := hb.trans (Below.mono he1 hb.size)
  refine sqv hf (r_assign rfl) rfl rfl rfl ?_; clear hf fa; intro fa hf
  apply wpList_nil
  (try simp only [Exit.then, Exit.inBlock, ↓reduceIte, Nat.reduceEqDiff])
  refine hK2 _ _ ?_
  refine wp_seq_k (fun K3 hK3 => ?_)
  refine wp_seq_k (fun K4 hK4 => ?_)
  refine wp_region_lit ?_
  refine sqv hf (r_move rfl) rfl rfl rfl ?_; clear hf fa; intro fa hf
  refine sqv hf (r_nilCheck rfl) rfl rfl rfl ?_; clear hf fa; intro fa hf
  refine sqv hf (r_fa rfl Try.underlying130 (f := 0) (q := 0) rfl (by kernel_rfl) rfl) rfl rfl rfl ?_; clear hf fa; intro fa hf
  refine sqv hf (r_load (v := (.slice la L.length lc)) rfl Try.underlying61 rfl (cell_blk hpb rfl)) rfl rfl rfl ?_; clear hf fa; intro fa hf
  refine sqv hf (r_lensl rfl Try.underlying61) rfl rfl rfl ?_; clear hf fa; intro fa hf
  refine sqv hf (r_move rfl) rfl rfl rfl ?_; clear hf fa; intro fa hf
  apply wpList_nil
  (try simp only [Exit.then, Exit.inBlock, ↓reduceIte, Nat.reduceEqDiff])
  refine hK4 _ _ ?_
  refine wp_block ?_
  refine wp_loop_k (fun mq fa wr => ∃ (k : Nat), mq = L.length - k ∧ Fr 23 fa [(3, (.map (some bm1))), (10, (.slice la L.length lc)), (11, (.int .i64 ((L.length : Nat) : Int))), (12, (.int .i64 ((k : Nat) : Int)))] ∧ Below w.heap.size w wr ∧ (k ≤ L.length) ∧ (CntM Try.prog 3 3 wr bm1 (kds (L.take k)))) ?_ ?_
  · skip
    exact ⟨_, 0, rfl, hf.sub ⟨rfl, rfl, rfl, (some_int (by first | rfl | omega)), trivial⟩, hb, by omega, hmp1⟩
  · skip
    clear hf fa; intro mq1 fa w2 hI KL1 hKL1
    clear hb
    clear hpb
    obtain ⟨k, hmq1, hf, hb, hk, hmp1⟩ := hI
    have hkl := kds_len (L.take k)
    have hkl2 := cntN_le (kds (L.take k))
    rw [List.length_take] at hkl
    refine wp_seq_k (fun K5 hK5 => ?_)
    refine wp_region_lit ?_
    refine sqv hf (r_lt rfl rfl) rfl rfl rfl ?_; clear hf fa; intro fa hf
    apply wpList_nil
    (try simp only [Exit.then, Exit.inBlock, ↓reduceIte, Nat.reduceEqDiff])
    refine hK5 _ _ ?_
    refine wp_seq_k (fun K6 hK6 => ?_)
    refine wp_cond_split (t := (decide (((k : Nat) : Int) < ((L.length : Nat) : Int)))) (hf.ev rfl) (fun hqt13_1 => ?_) (fun hqt13_1 => ?_)
    · have hqt13_1b := hqt13_1
      try simp only [decide_eq_true_eq, Bool.and_eq_true, Bool.or_eq_true, Bool.not_eq_true', decide_eq_false_iff_not, ne_eq, Bool.not_eq_true] at hqt13_1
      refine wp_skip ?_
      (try simp only [Exit.then, Exit.inBlock, ↓reduceIte, Nat.reduceEqDiff])
      refine hK6 _ _ ?_
      refine wp_seq_k (fun K7 hK7 => ?_)
      refine wp_block ?_
      refine wp_seq_k (fun K8 hK8 => ?_)
      obtain ⟨y, hy⟩ : ∃ x, L[k]? = some x := ⟨_, List.getElem?_eq_getElem (by omega)⟩
      have hyw := hwf y (List.mem_of_getElem? hy)
      have hc1 := hkl2 y.1
      refine wp_region_lit ?_
      have hy1 : (L)[k]? = some y := hy
      obtain ⟨ab1, aoff1, hat1, hlb1, hel1⟩ := RdS.at hEd hy1
      refine sqv hf (r_ixa (sz := 4) (j := k) (evAt rfl hat1) rfl Try.underlying61 (by kernel_rfl) rfl (by omega) rfl) rfl rfl rfl ?_; clear hf fa; intro fa hf
      refine sqv hf (r_loadA (cs := [(.int .i64 y.1), (.int .i64 y.2.1), (.int .u64 y.2.2.1), (.string y.2.2.2)]) rfl Try.underlying54 rfl (by kernel_rfl) (cellsAt_below hel1 hb hlb1)) rfl rfl rfl ?_; clear hf fa; intro fa hf
      refine sqdt hf (d_alloc (z := (.agg #[(.int .i64 (0 : Int)), (.int .i64 (0 : Int)), (.int .u64 (0 : Int)), (.string ⟨#[]⟩)])) (cs := #[(.int .i64 (0 : Int)), (.int .i64 (0 : Int)), (.int .u64 (0 : Int)), (.string ⟨#[]⟩)]) (by kernel_rfl) rfl) rfl rfl rfl ?_; clear hf fa; rintro fa _ w3 ⟨b1, rfl, hle2, hk1, he2⟩ hf
      have hBb1 : w.heap.size ≤ b1 := Nat.le_trans hb.size hle2
      have : bm1 < b1 := Nat.lt_of_lt_of_le (CntM.lt hmp1) hle2
      replace hmp1 := CntM.ext hmp1 he2
      replace hb := hb.trans (Below.mono he2 hb.size)
      refine sqn hf (d_storeK (T := 54) (v := (.agg #[(.int .i64 y.1), (.int .i64 y.2.1), (.int .u64 y.2.2.1), (.string y.2.2.2)])) (cs := #[(.int .i64 (0 : Int)), (.int .i64 (0 : Int)), (.int .u64 (0 : Int)), (.string ⟨#[]⟩)]) (cs' := #[(.int .i64 y.1), (.int .i64 y.2.1), (.int .u64 y.2.2.1), (.string y.2.2.2)]) rfl rfl (by kernel_rfl) (by kernel_rfl) hk1 (by kernel_rfl) (by kernel_rfl)) rfl rfl ?_; clear hf fa; rintro fa _ w4 ⟨hk2, hg1⟩ hf
      replace hmp1 := CntM.grown hmp1 hg1 (by omega)
      replace hb := hb.trans (grown_below hg1 hb.size hBb1)
      apply wpList_nil
      (try simp only [Exit.then, Exit.inBlock, ↓reduceIte, Nat.reduceEqDiff])
      refine hK8 _ _ ?_
      refine wp_region_lit ?_
      refine sqv hf (r_move rfl) rfl rfl rfl ?_; clear hf fa; intro fa hf
      refine sqv hf (r_fa rfl Try.underlying54 (f := 0) (q := 0) rfl (by kernel_rfl) rfl) rfl rfl rfl ?_; clear hf fa; intro fa hf
      refine sqv hf (r_load (v := (.int .i64 y.1)) rfl Try.underlying3 rfl (cell_blk hk2 rfl)) rfl rfl rfl ?_; clear hf fa; intro fa hf
      refine sqv hf (r_lookupI rfl rfl hmp1 Try.underlying71 Try.underlying3 Try.underlying3 (by kernel_rfl) (by first | assumption | (simp [Lit.wf, IntKind.min, IntKind.max, IntKind.signed, IntKind.bits]; omega))) rfl rfl rfl ?_; clear hf fa; intro fa hf
      refine sqv hf (r_add (C := (((cntN (kds (L.take k)) y.1 : Nat) : Int) + (1 : Int))) rfl rfl (by rw [IntKind.wrap_i64]; omega)) rfl rfl rfl ?_; clear hf fa; intro fa hf
      refine sqn hf (d_mapUpdateI rfl rfl rfl hmp1 Try.underlying71 Try.underlying3 Try.underlying3 (by first | assumption | (simp [Lit.wf, IntKind.min, IntKind.max, IntKind.signed, IntKind.bits]; omega)) (by omega)) rfl rfl ?_; clear hf fa; rintro fa _ w5 ⟨hmp2, hg2⟩ hf
      replace hk2 := blk_grown hk2 hg2 (by omega)
      replace hb := hb.trans (grown_below hg2 hb.size hBbm1)
      apply wpList_nil
      (try simp only [Exit.then, Exit.inBlock, ↓reduceIte, Nat.reduceEqDiff])
      refine hK7 _ _ ?_
      refine wp_region_lit ?_
      refine sqv hf (r_add (C := (((k : Nat) : Int) + (1 : Int))) rfl rfl (by rw [IntKind.wrap_i64]; omega)) rfl rfl rfl ?_; clear hf fa; intro fa hf
      refine sqv hf (r_move rfl) rfl rfl rfl ?_; clear hf fa; intro fa hf
      apply wpList_nil
      (try simp only [Exit.then, Exit.inBlock, ↓reduceIte, Nat.reduceEqDiff])
      refine hKL1 _ _ _ (by omega) ⟨(k + 1), rfl, hf.sub ⟨rfl, rfl, rfl, (some_int (by first | rfl | omega)), trivial⟩, hb, by omega, (by rw [kds_snoc hy]; exact hmp2)⟩
    · have hqt13_1b := hqt13_1
      replace hqt13_1 := Bool.eq_false_iff.1 hqt13_1
      try simp only [ne_eq, decide_eq_true_eq, Bool.and_eq_true, Bool.or_eq_true, Bool.not_eq_true', decide_eq_false_iff_not] at hqt13_1
      refine wp_exit ?_
      (try simp only [Exit.then, Exit.inBlock, ↓reduceIte, Nat.reduceEqDiff])
      refine hK3 _ _ ?_
      refine wp_seq_k (fun K9 hK9 => ?_)
      refine wp_region_lit ?_
      refine sqv hf (r_move rfl) rfl rfl rfl ?_; clear hf fa; intro fa hf
      refine sqv hf (r_assign rfl) rfl rfl rfl ?_; clear hf fa; intro fa hf
      apply wpList_nil
      (try simp only [Exit.then, Exit.inBlock, ↓reduceIte, Nat.reduceEqDiff])
      refine hK9 _ _ ?_
      refine wp_ret ?_
      (try simp only [Exit.then, Exit.inBlock])
      refine ret1 hf rfl rfl ?_
      have hkk : L.take k = L := List.take_of_length_le (by omega)
      rw [hkk] at hmp1
      exact ⟨_, rfl, bm1, rfl, hmp1, hb⟩

set_option maxHeartbeats 1000000 in
set_option maxRecDepth 100000 in
theorem same28_any (a b : Option Addr) (l : List Ent) (c d : Nat) (w : World) (hl : RdS 4 vE w a l) (hm : RdS 4 vE w b l) (hlc : l.length ≤ 9223372036854775807) : Calls Try.prog 25 #[(.slice a l.length c), (.slice b l.length d)] w fun e w' => e = .returned (.bool true) ∧ Below w.heap.size w w' := by
  refine sx_enter (L := [(0, (.slice a l.length c)), (1, (.slice b l.length d))]) Try.func25 rfl rfl rfl rfl (fun fa hf => ?_)
  have hb : Below w.heap.size w w := Below.refl _ _
  refine wp_seq_k (fun K1 hK1 => ?_)
  refine wp_region_lit ?_
  refine sqv hf (r_assign rfl) rfl rfl rfl ?_; clear hf fa; intro fa hf
  apply wpList_nil
  (try simp only [Exit.then, Exit.inBlock, ↓reduceIte, Nat.reduceEqDiff])
  refine hK1 _ _ ?_
  refine wp_seq_k (fun K2 hK2 => ?_)
  refine wp_seq_k (fun K3 hK3 => ?_)
  refine wp_region_lit ?_
  refine sqv hf (r_move rfl) rfl rfl rfl ?_; clear hf fa; intro fa hf
  refine sqv hf (r_lensl rfl Try.underlying61) rfl rfl rfl ?_; clear hf fa; intro fa hf
  refine sqv hf (r_move rfl) rfl rfl rfl ?_; clear hf fa; intro fa hf
  refine sqv hf (r_lensl rfl Try.underlying64) rfl rfl rfl ?_; clear hf fa; intro fa hf
  refine sqv hf (Runs.veq (r_ne rfl rfl) (congrArg Value.bool (show _ = false from (by simp)))) rfl rfl rfl ?_; clear hf fa; intro fa hf
  apply wpList_nil
  (try simp only [Exit.then, Exit.inBlock, ↓reduceIte, Nat.reduceEqDiff])
  refine hK3 _ _ ?_
  refine wp_cond_false (hf.ev rfl) ?_
  refine wp_skip ?_
  (try simp only [Exit.then, Exit.inBlock, ↓reduceIte, Nat.reduceEqDiff])
  refine hK2 _ _ ?_
  refine wp_seq_k (fun K4 hK4 => ?_)
  refine wp_seq_k (fun K5 hK5 => ?_)
  refine wp_region_lit ?_
  refine sqv hf (r_assign rfl) rfl rfl rfl ?_; clear hf fa; intro fa hf
  apply wpList_nil
  (try simp only [Exit.then, Exit.inBlock, ↓reduceIte, Nat.reduceEqDiff])
  refine hK5 _ _ ?_
  refine wp_block ?_
  refine wp_loop_k (fun mq fa wr => ∃ (k : Nat), mq = l.length - k ∧ Fr 67 fa [(0, (.slice a l.length c)), (1, (.slice b l.length d)), (5, (.int .i64 ((k : Nat) : Int)))] ∧ Below w.heap.size w wr ∧ (k ≤ l.length)) ?_ ?_
  · skip
    exact ⟨_, 0, rfl, hf.sub ⟨rfl, rfl, (some_int (by first | rfl | omega)), trivial⟩, hb, by omega⟩
  · skip
    clear hf fa; intro mq1 fa w1 hI KL1 hKL1
    clear hb
    obtain ⟨k, hmq1, hf, hb, hk⟩ := hI
    refine wp_seq_k (fun K6 hK6 => ?_)
    refine wp_seq_k (fun K7 hK7 => ?_)
    refine wp_region_lit ?_
    refine sqv hf (r_move rfl) rfl rfl rfl ?_; clear hf fa; intro fa hf
    refine sqv hf (r_move rfl) rfl rfl rfl ?_; clear hf fa; intro fa hf
    refine sqv hf (r_lensl rfl Try.underlying61) rfl rfl rfl ?_; clear hf fa; intro fa hf
    refine sqv hf (r_lt rfl rfl) rfl rfl rfl ?_; clear hf fa; intro fa hf
    apply wpList_nil
    (try simp only [Exit.then, Exit.inBlock, ↓reduceIte, Nat.reduceEqDiff])
    refine hK7 _ _ ?_
    refine wp_cond_split (t := (decide (((k : Nat) : Int) < ((l.length : Nat) : Int)))) (hf.ev rfl) (fun hqt14_1 => ?_) (fun hqt14_1 => ?_)
    · have hqt14_1b := hqt14_1
      try simp only [decide_eq_true_eq, Bool.and_eq_true, Bool.or_eq_true, Bool.not_eq_true', decide_eq_false_iff_not, ne_eq, Bool.not_eq_true] at hqt14_1
      refine wp_skip ?_
      (try simp only [Exit.then, Exit.inBlock, ↓reduceIte, Nat.reduceEqDiff])
      refine hK6 _ _ ?_
      refine wp_seq_k (fun K8 hK8 => ?_)
      refine wp_block ?_
      refine wp_seq_k (fun K9 hK9 => ?_)
      obtain ⟨y, hy⟩ : ∃ x, l[k]? = some x := ⟨_, List.getElem?_eq_getElem (by omega)⟩
      have hy1 : (l)[k]? = some y := hy
      obtain ⟨ab1, aoff1, hat1, hlb1, hel1⟩ := RdS.at hl hy1
      have hy2 : (l)[k]? = some y := hy
      obtain ⟨ab2, aoff2, hat2, hlb2, hel2⟩ := RdS.at hm hy2
      refine wp_region_un (fun wq => Below w1.heap.size w1 wq) (fun w w' => Below w.heap.size w w')
        (fun V => [(fun x _ => x = (.slice a l.length c)), (fun x _ => x = (.int .i64 ((k : Nat) : Int))), (fun x _ => x = (.pointer (some ⟨ab1, (aoff1 + k * 4), none⟩))), (fun x _ => x = (.pointer (some ⟨ab1, (aoff1 + k * 4), none⟩))), (fun x _ => x = (.int .i64 y.1)), (fun x _ => x = (.slice b l.length d)), (fun x _ => x = (.int .i64 ((k : Nat) : Int))), (fun x _ => x = (.pointer (some ⟨ab2, (aoff2 + k * 4), none⟩))), (fun x _ => x = (.pointer (some ⟨ab2, (aoff2 + k * 4), none⟩))), (fun x _ => x = (.int .i64 y.1)), (fun x _ => x = (.bool false)), (fun x _ => x = (.bool false)), (fun x _ => x = (.slice a l.length c)), (fun x _ => x = (.int .i64 ((k : Nat) : Int))), (fun x _ => x = (.pointer (some ⟨ab1, (aoff1 + k * 4), none⟩))), (fun x _ => x = (.pointer (some ⟨ab1, ((aoff1 + k * 4) + 1), none⟩))), (fun x _ => x = (.int .i64 y.2.1)), (fun x _ => x = (.slice b l.length d)), (fun x _ => x = (.int .i64 ((k : Nat) : Int))), (fun x _ => x = (.pointer (some ⟨ab2, (aoff2 + k * 4), none⟩))), (fun x _ => x = (.pointer (some ⟨ab2, ((aoff2 + k * 4) + 1), none⟩))), (fun x _ => x = (.int .i64 y.2.1)), (fun x _ => x = (.bool false)), (fun x _ => x = (.bool false)), (fun x _ => x = (.bool false)), (fun x _ => x = (.slice a l.length c)), (fun x _ => x = (.int .i64 ((k : Nat) : Int))), (fun x _ => x = (.pointer (some ⟨ab1, (aoff1 + k * 4), none⟩))), (fun x _ => x = (.pointer (some ⟨ab1, ((aoff1 + k * 4) + 2), none⟩))), (fun x _ => x = (.int .u64 y.2.2.1)), (fun x _ => x = (.slice b l.length d)), (fun x _ => x = (.int .i64 ((k : Nat) : Int))), (fun x _ => x = (.pointer (some ⟨ab2, (aoff2 + k * 4), none⟩))), (fun x _ => x = (.pointer (some ⟨ab2, ((aoff2 + k * 4) + 2), none⟩))), (fun x _ => x = (.int .u64 y.2.2.1)), (fun x _ => x = (.bool false)), (fun x _ => x = (.bool false)), (fun x _ => x = (.bool false)), (fun x _ => x = (.slice a l.length c)), (fun x _ => x = (.int .i64 ((k : Nat) : Int))), (fun x _ => x = (.pointer (some ⟨ab1, (aoff1 + k * 4), none⟩))), (fun x _ => x = (.pointer (some ⟨ab1, ((aoff1 + k * 4) + 3), none⟩))), (fun x _ => x = (.string y.2.2.2)), (fun x _ => x = (.slice b l.length d)), (fun x _ => x = (.int .i64 ((k : Nat) : Int))), (fun x _ => x = (.pointer (some ⟨ab2, (aoff2 + k * 4), none⟩))), (fun x _ => x = (.pointer (some ⟨ab2, ((aoff2 + k * 4) + 3), none⟩))), (fun x _ => x = (.string y.2.2.2)), (fun x _ => x = (.bool false)), (fun x _ => x = (.bool false))])
        []
        [[], [], [0, 1], [2], [3], [], [], [5, 6], [7], [8], [4, 9], [10], [11], [11], [11, 12, 13], [11, 14], [11, 15], [11], [11], [11, 17, 18], [11, 19], [11, 20], [11, 16, 21], [11, 22], [11, 23], [24], [24], [24, 25, 26], [24, 27], [24, 28], [24], [24], [24, 30, 31], [24, 32], [24, 33], [24, 29, 34], [24, 35], [24, 36], [37], [37], [37, 38, 39], [37, 40], [37, 41], [37], [37], [37, 43, 44], [37, 45], [37, 46], [37, 42, 47], [37, 48]]
        hf (by kernel_rfl) (by kernel_rfl) (fun _ => rfl) ((Below.refl _ _).drew) (fun a b h1 h2 => h1.trans (h2.mono h1.size)) (fun _ _ h => h.size) (fun V => ⟨kept_eq, kept_eq, kept_eq, kept_eq, kept_eq, kept_eq, kept_eq, kept_eq, kept_eq, kept_eq, kept_eq, kept_eq, kept_eq, kept_eq, kept_eq, kept_eq, kept_eq, kept_eq, kept_eq, kept_eq, kept_eq, kept_eq, kept_eq, kept_eq, kept_eq, kept_eq, kept_eq, kept_eq, kept_eq, kept_eq, kept_eq, kept_eq, kept_eq, kept_eq, kept_eq, kept_eq, kept_eq, kept_eq, kept_eq, kept_eq, kept_eq, kept_eq, kept_eq, kept_eq, kept_eq, kept_eq, kept_eq, kept_eq, kept_eq, kept_eq, trivial⟩) (fun _ _ _ _ _ => rfl) ?_ ?_
      · skip
        intro V
        refine ⟨fun wu0 hC hd => ?_, ?_⟩
        · clear hd
          replace hb := hb.trans (hC.mono hb.size)
          exact Runs.does (r_move rfl) ⟨Below.refl _ _, rfl, nofr rfl⟩
        refine ⟨fun wu1 hC hd => ?_, ?_⟩
        · clear hd
          replace hb := hb.trans (hC.mono hb.size)
          exact Runs.does (r_move rfl) ⟨Below.refl _ _, rfl, nofr rfl⟩
        refine ⟨fun wu2 hC hd => ?_, ?_⟩
        · obtain ⟨h0, h1, _⟩ := hd
          skip
          skip
          replace h0 : V 0 = (.slice a l.length c) := h0
          replace h1 : V 1 = (.int .i64 ((k : Nat) : Int)) := h1
          replace hb := hb.trans (hC.mono hb.size)
          exact Runs.does (r_ixa (sz := 4) (j := k) (evAt (congrArg some h0) hat1) (congrArg some h1) Try.underlying61 (by kernel_rfl) rfl (by omega) rfl) ⟨Below.refl _ _, rfl, nofr rfl⟩
        refine ⟨fun wu3 hC hd => ?_, ?_⟩
        · obtain ⟨h2, _⟩ := hd
          skip
          replace h2 : V 2 = (.pointer (some ⟨ab1, (aoff1 + k * 4), none⟩)) := h2
          replace hb := hb.trans (hC.mono hb.size)
          exact Runs.does (r_fa (congrArg some h2) Try.underlying54 (f := 0) (q := (aoff1 + k * 4)) rfl (by kernel_rfl) rfl) ⟨Below.refl _ _, rfl, nofr rfl⟩
        refine ⟨fun wu4 hC hd => ?_, ?_⟩
        · obtain ⟨h3, _⟩ := hd
          skip
          replace h3 : V 3 = (.pointer (some ⟨ab1, (aoff1 + k * 4), none⟩)) := h3
          replace hb := hb.trans (hC.mono hb.size)
          exact Runs.does (r_load (v := (.int .i64 y.1)) (congrArg some h3) Try.underlying3 rfl (cellsAt_cell (cellsAt_below hel1 hb hlb1) (i := 0) rfl rfl)) ⟨Below.refl _ _, rfl, nofr rfl⟩
        refine ⟨fun wu5 hC hd => ?_, ?_⟩
        · clear hd
          replace hb := hb.trans (hC.mono hb.size)
          exact Runs.does (r_move rfl) ⟨Below.refl _ _, rfl, nofr rfl⟩
        refine ⟨fun wu6 hC hd => ?_, ?_⟩
        · clear hd
          replace hb := hb.trans (hC.mono hb.size)
          exact Runs.does (r_move rfl) ⟨Below.refl _ _, rfl, nofr rfl⟩
        refine ⟨fun wu7 hC hd => ?_, ?_⟩
        · obtain ⟨h5, h6, _⟩ := hd
          skip
          skip
          replace h5 : V 5 = (.slice b l.length d) := h5
          replace h6 : V 6 = (.int .i64 ((k : Nat) : Int)) := h6
          replace hb := hb.trans (hC.mono hb.size)
          exact Runs.does (r_ixa (sz := 4) (j := k) (evAt (congrArg some h5) hat2) (congrArg some h6) Try.underlying64 (by kernel_rfl) rfl (by omega) rfl) ⟨Below.refl _ _, rfl, nofr rfl⟩
        refine ⟨fun wu8 hC hd => ?_, ?_⟩
        · obtain ⟨h7, _⟩ := hd
          skip
          replace h7 : V 7 = (.pointer (some ⟨ab2, (aoff2 + k * 4), none⟩)) := h7
          replace hb := hb.trans (hC.mono hb.size)
          exact Runs.does (r_fa (congrArg some h7) Try.underlying59 (f := 0) (q := (aoff2 + k * 4)) rfl (by kernel_rfl) rfl) ⟨Below.refl _ _, rfl, nofr rfl⟩
        refine ⟨fun wu9 hC hd => ?_, ?_⟩
        · obtain ⟨h8, _⟩ := hd
          skip
          replace h8 : V 8 = (.pointer (some ⟨ab2, (aoff2 + k * 4), none⟩)) := h8
          replace hb := hb.trans (hC.mono hb.size)
          exact Runs.does (r_load (v := (.int .i64 y.1)) (congrArg some h8) Try.underlying3 rfl (cellsAt_cell (cellsAt_below hel2 hb hlb2) (i := 0) rfl rfl)) ⟨Below.refl _ _, rfl, nofr rfl⟩
        refine ⟨fun wu10 hC hd => ?_, ?_⟩
        · obtain ⟨h4, h9, _⟩ := hd
          skip
          skip
          replace h4 : V 4 = (.int .i64 y.1) := h4
          replace h9 : V 9 = (.int .i64 y.1) := h9
          replace hb := hb.trans (hC.mono hb.size)
          exact Runs.does (Runs.veq (r_ne (congrArg some h4) (congrArg some h9)) (congrArg Value.bool (show _ = false from (by simp)))) ⟨Below.refl _ _, rfl, nofr rfl⟩
        refine ⟨fun wu11 hC hd => ?_, ?_⟩
        · obtain ⟨h10, _⟩ := hd
          skip
          replace h10 : V 10 = (.bool false) := h10
          replace hb := hb.trans (hC.mono hb.size)
          exact Runs.does (r_move (congrArg some h10)) ⟨Below.refl _ _, rfl, nofr rfl⟩
        refine ⟨fun wu12 hC hd => ?_, ?_⟩
        · obtain ⟨h11, _⟩ := hd
          skip
          replace h11 : V 11 = (.bool false) := h11
          replace hb := hb.trans (hC.mono hb.size)
          refine ⟨true, false, congrArg some h11, fun hact => ?_, fun hact => ?_⟩
          · exact Runs.does (r_move rfl) ⟨Below.refl _ _, rfl, nofr rfl⟩
          · exfalso; simp at hact
        refine ⟨fun wu13 hC hd => ?_, ?_⟩
        · obtain ⟨h11, _⟩ := hd
          skip
          replace h11 : V 11 = (.bool false) := h11
          replace hb := hb.trans (hC.mono hb.size)
          refine ⟨true, false, congrArg some h11, fun hact => ?_, fun hact => ?_⟩
          · exact Runs.does (r_move rfl) ⟨Below.refl _ _, rfl, nofr rfl⟩
          · exfalso; simp at hact
        refine ⟨fun wu14 hC hd => ?_, ?_⟩
        · obtain ⟨h11, h12, h13, _⟩ := hd
          skip
          skip
          skip
          replace h11 : V 11 = (.bool false) := h11
          replace h12 : V 12 = (.slice a l.length c) := h12
          replace h13 : V 13 = (.int .i64 ((k : Nat) : Int)) := h13
          replace hb := hb.trans (hC.mono hb.size)
          refine ⟨true, false, congrArg some h11, fun hact => ?_, fun hact => ?_⟩
          · exact Runs.does (r_ixa (sz := 4) (j := k) (evAt (congrArg some h12) hat1) (congrArg some h13) Try.underlying61 (by kernel_rfl) rfl (by omega) rfl) ⟨Below.refl _ _, rfl, nofr rfl⟩
          · exfalso; simp at hact
        refine ⟨fun wu15 hC hd => ?_, ?_⟩
        · obtain ⟨h11, h14, _⟩ := hd
          skip
          skip
          replace h11 : V 11 = (.bool false) := h11
          replace h14 : V 14 = (.pointer (some ⟨ab1, (aoff1 + k * 4), none⟩)) := h14
          replace hb := hb.trans (hC.mono hb.size)
          refine ⟨true, false, congrArg some h11, fun hact => ?_, fun hact => ?_⟩
          · exact Runs.does (r_fa (congrArg some h14) Try.underlying54 (f := 1) (q := ((aoff1 + k * 4) + 1)) rfl (by kernel_rfl) rfl) ⟨Below.refl _ _, rfl, nofr rfl⟩
          · exfalso; simp at hact
        refine ⟨fun wu16 hC hd => ?_, ?_⟩
        · obtain ⟨h11, h15, _⟩ := hd
          skip
          skip
          replace h11 : V 11 = (.bool false) := h11
          replace h15 : V 15 = (.pointer (some ⟨ab1, ((aoff1 + k * 4) + 1), none⟩)) := h15
          replace hb := hb.trans (hC.mono hb.size)
          refine ⟨true, false, congrArg some h11, fun hact => ?_, fun hact => ?_⟩
          · exact Runs.does (r_load (v := (.int .i64 y.2.1)) (congrArg some h15) Try.underlying3 rfl (cellsAt_cell (cellsAt_below hel1 hb hlb1) (i := 1) rfl rfl)) ⟨Below.refl _ _, rfl, nofr rfl⟩
          · exfalso; simp at hact
        refine ⟨fun wu17 hC hd => ?_, ?_⟩
        · obtain ⟨h11, _⟩ := hd
          skip
          replace h11 : V 11 = (.bool false) := h11
          replace hb := hb.trans (hC.mono hb.size)
          refine ⟨true, false, congrArg some h11, fun hact => ?_, fun hact => ?_⟩
          · exact Runs.does (r_move rfl) ⟨Below.refl _ _, rfl, nofr rfl⟩
          · exfalso; simp at hact
        refine ⟨fun wu18 hC hd => ?_, ?_⟩
        · obtain ⟨h11, _⟩ := hd
          skip
          replace h11 : V 11 = (.bool false) := h11
          replace hb := hb.trans (hC.mono hb.size)
          refine ⟨true, false, congrArg some h11, fun hact => ?_, fun hact => ?_⟩
          · exact Runs.does (r_move rfl) ⟨Below.refl _ _, rfl, nofr rfl⟩
          · exfalso; simp at hact
        refine ⟨fun wu19 hC hd => ?_, ?_⟩
        · obtain ⟨h11, h17, h18, _⟩ := hd
          skip
          skip
          skip
          replace h11 : V 11 = (.bool false) := h11
          replace h17 : V 17 = (.slice b l.length d) := h17
          replace h18 : V 18 = (.int .i64 ((k : Nat) : Int)) := h18
          replace hb := hb.trans (hC.mono hb.size)
          refine ⟨true, false, congrArg some h11, fun hact => ?_, fun hact => ?_⟩
          · exact Runs.does (r_ixa (sz := 4) (j := k) (evAt (congrArg some h17) hat2) (congrArg some h18) Try.underlying64 (by kernel_rfl) rfl (by omega) rfl) ⟨Below.refl _ _, rfl, nofr rfl⟩
          · exfalso; simp at hact
        refine ⟨fun wu20 hC hd => ?_, ?_⟩
        · obtain ⟨h11, h19, _⟩ := hd
          skip
          skip
          replace h11 : V 11 = (.bool false) := h11
          replace h19 : V 19 = (.pointer (some ⟨ab2, (aoff2 + k * 4), none⟩)) := h19
          replace hb := hb.trans (hC.mono hb.size)
          refine ⟨true, false, congrArg some h11, fun hact => ?_, fun hact => ?_⟩
          · exact Runs.does (r_fa (congrArg some h19) Try.underlying59 (f := 1) (q := ((aoff2 + k * 4) + 1)) rfl (by kernel_rfl) rfl) ⟨Below.refl _ _, rfl, nofr rfl⟩
          · exfalso; simp at hact
        refine ⟨fun wu21 hC hd => ?_, ?_⟩
        · obtain ⟨h11, h20, _⟩ := hd
          skip
          skip
          replace h11 : V 11 = (.bool false) := h11
          replace h20 : V 20 = (.pointer (some ⟨ab2, ((aoff2 + k * 4) + 1), none⟩)) := h20
          replace hb := hb.trans (hC.mono hb.size)
          refine ⟨true, false, congrArg some h11, fun hact => ?_, fun hact => ?_⟩
          · exact Runs.does (r_load (v := (.int .i64 y.2.1)) (congrArg some h20) Try.underlying3 rfl (cellsAt_cell (cellsAt_below hel2 hb hlb2) (i := 1) rfl rfl)) ⟨Below.refl _ _, rfl, nofr rfl⟩
          · exfalso; simp at hact
        refine ⟨fun wu22 hC hd => ?_, ?_⟩
        · obtain ⟨h11, h16, h21, _⟩ := hd
          skip
          skip
          skip
          replace h11 : V 11 = (.bool false) := h11
          replace h16 : V 16 = (.int .i64 y.2.1) := h16
          replace h21 : V 21 = (.int .i64 y.2.1) := h21
          replace hb := hb.trans (hC.mono hb.size)
          refine ⟨true, false, congrArg some h11, fun hact => ?_, fun hact => ?_⟩
          · exact Runs.does (Runs.veq (r_ne (congrArg some h16) (congrArg some h21)) (congrArg Value.bool (show _ = false from (by simp)))) ⟨Below.refl _ _, rfl, nofr rfl⟩
          · exfalso; simp at hact
        refine ⟨fun wu23 hC hd => ?_, ?_⟩
        · obtain ⟨h11, h22, _⟩ := hd
          skip
          skip
          replace h11 : V 11 = (.bool false) := h11
          replace h22 : V 22 = (.bool false) := h22
          replace hb := hb.trans (hC.mono hb.size)
          exact Runs.does (r_pick (b := false) (congrArg some h11) rfl (congrArg some h22) rfl) ⟨Below.refl _ _, rfl, nofr rfl⟩
        refine ⟨fun wu24 hC hd => ?_, ?_⟩
        · obtain ⟨h11, h23, _⟩ := hd
          skip
          skip
          replace h11 : V 11 = (.bool false) := h11
          replace h23 : V 23 = (.bool false) := h23
          replace hb := hb.trans (hC.mono hb.size)
          exact Runs.does (r_move (congrArg some h23)) ⟨Below.refl _ _, rfl, nofr rfl⟩
        refine ⟨fun wu25 hC hd => ?_, ?_⟩
        · obtain ⟨h24, _⟩ := hd
          skip
          replace h24 : V 24 = (.bool false) := h24
          replace hb := hb.trans (hC.mono hb.size)
          refine ⟨true, false, congrArg some h24, fun hact => ?_, fun hact => ?_⟩
          · exact Runs.does (r_move rfl) ⟨Below.refl _ _, rfl, nofr rfl⟩
          · exfalso; simp at hact
        refine ⟨fun wu26 hC hd => ?_, ?_⟩
        · obtain ⟨h24, _⟩ := hd
          skip
          replace h24 : V 24 = (.bool false) := h24
          replace hb := hb.trans (hC.mono hb.size)
          refine ⟨true, false, congrArg some h24, fun hact => ?_, fun hact => ?_⟩
          · exact Runs.does (r_move rfl) ⟨Below.refl _ _, rfl, nofr rfl⟩
          · exfalso; simp at hact
        refine ⟨fun wu27 hC hd => ?_, ?_⟩
        · obtain ⟨h24, h25, h26, _⟩ := hd
          skip
          skip
          skip
          replace h24 : V 24 = (.bool false) := h24
          replace h25 : V 25 = (.slice a l.length c) := h25
          replace h26 : V 26 = (.int .i64 ((k : Nat) : Int)) := h26
          replace hb := hb.trans (hC.mono hb.size)
          refine ⟨true, false, congrArg some h24, fun hact => ?_, fun hact => ?_⟩
          · exact Runs.does (r_ixa (sz := 4) (j := k) (evAt (congrArg some h25) hat1) (congrArg some h26) Try.underlying61 (by kernel_rfl) rfl (by omega) rfl) ⟨Below.refl _ _, rfl, nofr rfl⟩
          · exfalso; simp at hact
        refine ⟨fun wu28 hC hd => ?_, ?_⟩
        · obtain ⟨h24, h27, _⟩ := hd
          skip
          skip
          replace h24 : V 24 = (.bool false) := h24
          replace h27 : V 27 = (.pointer (some ⟨ab1, (aoff1 + k * 4), none⟩)) := h27
          replace hb := hb.trans (hC.mono hb.size)
          refine ⟨true, false, congrArg some h24, fun hact => ?_, fun hact => ?_⟩
          · exact Runs.does (r_fa (congrArg some h27) Try.underlying54 (f := 2) (q := ((aoff1 + k * 4) + 2)) rfl (by kernel_rfl) rfl) ⟨Below.refl _ _, rfl, nofr rfl⟩
          · exfalso; simp at hact
        refine ⟨fun wu29 hC hd => ?_, ?_⟩
        · obtain ⟨h24, h28, _⟩ := hd
          skip
          skip
          replace h24 : V 24 = (.bool false) := h24
          replace h28 : V 28 = (.pointer (some ⟨ab1, ((aoff1 + k * 4) + 2), none⟩)) := h28
          replace hb := hb.trans (hC.mono hb.size)
          refine ⟨true, false, congrArg some h24, fun hact => ?_, fun hact => ?_⟩
          · exact Runs.does (r_load (v := (.int .u64 y.2.2.1)) (congrArg some h28) Try.underlying26 rfl (cellsAt_cell (cellsAt_below hel1 hb hlb1) (i := 2) rfl rfl)) ⟨Below.refl _ _, rfl, nofr rfl⟩
          · exfalso; simp at hact
        refine ⟨fun wu30 hC hd => ?_, ?_⟩
        · obtain ⟨h24, _⟩ := hd
          skip
          replace h24 : V 24 = (.bool false) := h24
          replace hb := hb.trans (hC.mono hb.size)
          refine ⟨true, false, congrArg some h24, fun hact => ?_, fun hact => ?_⟩
          · exact Runs.does (r_move rfl) ⟨Below.refl _ _, rfl, nofr rfl⟩
          · exfalso; simp at hact
        refine ⟨fun wu31 hC hd => ?_, ?_⟩
        · obtain ⟨h24, _⟩ := hd
          skip
          replace h24 : V 24 = (.bool false) := h24
          replace hb := hb.trans (hC.mono hb.size)
          refine ⟨true, false, congrArg some h24, fun hact => ?_, fun hact => ?_⟩
          · exact Runs.does (r_move rfl) ⟨Below.refl _ _, rfl, nofr rfl⟩
          · exfalso; simp at hact
        refine ⟨fun wu32 hC hd => ?_, ?_⟩
        · obtain ⟨h24, h30, h31, _⟩ := hd
          skip
          skip
          skip
          replace h24 : V 24 = (.bool false) := h24
          replace h30 : V 30 = (.slice b l.length d) := h30
          replace h31 : V 31 = (.int .i64 ((k : Nat) : Int)) := h31
          replace hb := hb.trans (hC.mono hb.size)
          refine ⟨true, false, congrArg some h24, fun hact => ?_, fun hact => ?_⟩
          · exact Runs.does (r_ixa (sz := 4) (j := k) (evAt (congrArg some h30) hat2) (congrArg some h31) Try.underlying64 (by kernel_rfl) rfl (by omega) rfl) ⟨Below.refl _ _, rfl, nofr rfl⟩
          · exfalso; simp at hact
        refine ⟨fun wu33 hC hd => ?_, ?_⟩
        · obtain ⟨h24, h32, _⟩ := hd
          skip
          skip
          replace h24 : V 24 = (.bool false) := h24
          replace h32 : V 32 = (.pointer (some ⟨ab2, (aoff2 + k * 4), none⟩)) := h32
          replace hb := hb.trans (hC.mono hb.size)
          refine ⟨true, false, congrArg some h24, fun hact => ?_, fun hact => ?_⟩
          · exact Runs.does (r_fa (congrArg some h32) Try.underlying59 (f := 2) (q := ((aoff2 + k * 4) + 2)) rfl (by kernel_rfl) rfl) ⟨Below.refl _ _, rfl, nofr rfl⟩
          · exfalso; simp at hact
        refine ⟨fun wu34 hC hd => ?_, ?_⟩
        · obtain ⟨h24, h33, _⟩ := hd
          skip
          skip
          replace h24 : V 24 = (.bool false) := h24
          replace h33 : V 33 = (.pointer (some ⟨ab2, ((aoff2 + k * 4) + 2), none⟩)) := h33
          replace hb := hb.trans (hC.mono hb.size)
          refine ⟨true, false, congrArg some h24, fun hact => ?_, fun hact => ?_⟩
          · exact Runs.does (r_load (v := (.int .u64 y.2.2.1)) (congrArg some h33) Try.underlying26 rfl (cellsAt_cell (cellsAt_below hel2 hb hlb2) (i := 2) rfl rfl)) ⟨Below.refl _ _, rfl, nofr rfl⟩
          · exfalso; simp at hact
        refine ⟨fun wu35 hC hd => ?_, ?_⟩
        · obtain ⟨h24, h29, h34, _⟩ := hd
          skip
          skip
          skip
          replace h24 : V 24 = (.bool false) := h24
          replace h29 : V 29 = (.int .u64 y.2.2.1) := h29
          replace h34 : V 34 = (.int .u64 y.2.2.1) := h34
          replace hb := hb.trans (hC.mono hb.size)
          refine ⟨true, false, congrArg some h24, fun hact => ?_, fun hact => ?_⟩
          · exact Runs.does (Runs.veq (r_ne (congrArg some h29) (congrArg some h34)) (congrArg Value.bool (show _ = false from (by simp)))) ⟨Below.refl _ _, rfl, nofr rfl⟩
          · exfalso; simp at hact
        refine ⟨fun wu36 hC hd => ?_, ?_⟩
        · obtain ⟨h24, h35, _⟩ := hd
          skip
          skip
          replace h24 : V 24 = (.bool false) := h24
          replace h35 : V 35 = (.bool false) := h35
          replace hb := hb.trans (hC.mono hb.size)
          exact Runs.does (r_pick (b := false) (congrArg some h24) rfl (congrArg some h35) rfl) ⟨Below.refl _ _, rfl, nofr rfl⟩
        refine ⟨fun wu37 hC hd => ?_, ?_⟩
        · obtain ⟨h24, h36, _⟩ := hd
          skip
          skip
          replace h24 : V 24 = (.bool false) := h24
          replace h36 : V 36 = (.bool false) := h36
          replace hb := hb.trans (hC.mono hb.size)
          exact Runs.does (r_move (congrArg some h36)) ⟨Below.refl _ _, rfl, nofr rfl⟩
        refine ⟨fun wu38 hC hd => ?_, ?_⟩
        · obtain ⟨h37, _⟩ := hd
          skip
          replace h37 : V 37 = (.bool false) := h37
          replace hb := hb.trans (hC.mono hb.size)
          refine ⟨true, false, congrArg some h37, fun hact => ?_, fun hact => ?_⟩
          · exact Runs.does (r_move rfl) ⟨Below.refl _ _, rfl, nofr rfl⟩
          · exfalso; simp at hact
        refine ⟨fun wu39 hC hd => ?_, ?_⟩
        · obtain ⟨h37, _⟩ := hd
          skip
          replace h37 : V 37 = (.bool false) := h37
          replace hb := hb.trans (hC.mono hb.size)
          refine ⟨true, false, congrArg some h37, fun hact => ?_, fun hact => ?_⟩
          · exact Runs.does (r_move rfl) ⟨Below.refl _ _, rfl, nofr rfl⟩
          · exfalso; simp at hact
        refine ⟨fun wu40 hC hd => ?_, ?_⟩
        · obtain ⟨h37, h38, h39, _⟩ := hd
          skip
          skip
          skip
          replace h37 : V 37 = (.bool false) := h37
          replace h38 : V 38 = (.slice a l.length c) := h38
          replace h39 : V 39 = (.int .i64 ((k : Nat) : Int)) := h39
          replace hb := hb.trans (hC.mono hb.size)
          refine ⟨true, false, congrArg some h37, fun hact => ?_, fun hact => ?_⟩
          · exact Runs.does (r_ixa (sz := 4) (j := k) (evAt (congrArg some h38) hat1) (congrArg some h39) Try.underlying61 (by kernel_rfl) rfl (by omega) rfl) ⟨Below.refl _ _, rfl, nofr rfl⟩
          · exfalso; simp at hact
        refine ⟨fun wu41 hC hd => ?_, ?_⟩
        · obtain ⟨h37, h40, _⟩ := hd
          skip
          skip
          replace h37 : V 37 = (.bool false) := h37
          replace h40 : V 40 = (.pointer (some ⟨ab1, (aoff1 + k * 4), none⟩)) := h40
          replace hb := hb.trans (hC.mono hb.size)
          refine ⟨true, false, congrArg some h37, fun hact => ?_, fun hact => ?_⟩
          · exact Runs.does (r_fa (congrArg some h40) Try.underlying54 (f := 3) (q := ((aoff1 + k * 4) + 3)) rfl (by kernel_rfl) rfl) ⟨Below.refl _ _, rfl, nofr rfl⟩
          · exfalso; simp at hact
        refine ⟨fun wu42 hC hd => ?_, ?_⟩
        · obtain ⟨h37, h41, _⟩ := hd
          skip
          skip
          replace h37 : V 37 = (.bool false) := h37
          replace h41 : V 41 = (.pointer (some ⟨ab1, ((aoff1 + k * 4) + 3), none⟩)) := h41
          replace hb := hb.trans (hC.mono hb.size)
          refine ⟨true, false, congrArg some h37, fun hact => ?_, fun hact => ?_⟩
          · exact Runs.does (r_load (v := (.string y.2.2.2)) (congrArg some h41) Try.underlying9 rfl (cellsAt_cell (cellsAt_below hel1 hb hlb1) (i := 3) rfl rfl)) ⟨Below.refl _ _, rfl, nofr rfl⟩
          · exfalso; simp at hact
        refine ⟨fun wu43 hC hd => ?_, ?_⟩
        · obtain ⟨h37, _⟩ := hd
          skip
          replace h37 : V 37 = (.bool false) := h37
          replace hb := hb.trans (hC.mono hb.size)
          refine ⟨true, false, congrArg some h37, fun hact => ?_, fun hact => ?_⟩
          · exact Runs.does (r_move rfl) ⟨Below.refl _ _, rfl, nofr rfl⟩
          · exfalso; simp at hact
        refine ⟨fun wu44 hC hd => ?_, ?_⟩
        · obtain ⟨h37, _⟩ := hd
          skip
          replace h37 : V 37 = (.bool false) := h37
          replace hb := hb.trans (hC.mono hb.size)
          refine ⟨true, false, congrArg some h37, fun hact => ?_, fun hact => ?_⟩
          · exact Runs.does (r_move rfl) ⟨Below.refl _ _, rfl, nofr rfl⟩
          · exfalso; simp at hact
        refine ⟨fun wu45 hC hd => ?_, ?_⟩
        · obtain ⟨h37, h43, h44, _⟩ := hd
          skip
          skip
          skip
          replace h37 : V 37 = (.bool false) := h37
          replace h43 : V 43 = (.slice b l.length d) := h43
          replace h44 : V 44 = (.int .i64 ((k : Nat) : Int)) := h44
          replace hb := hb.trans (hC.mono hb.size)
          refine ⟨true, false, congrArg some h37, fun hact => ?_, fun hact => ?_⟩
          · exact Runs.does (r_ixa (sz := 4) (j := k) (evAt (congrArg some h43) hat2) (congrArg some h44) Try.underlying64 (by kernel_rfl) rfl (by omega) rfl) ⟨Below.refl _ _, rfl, nofr rfl⟩
          · exfalso; simp at hact
        refine ⟨fun wu46 hC hd => ?_, ?_⟩
        · obtain ⟨h37, h45, _⟩ := hd
          skip
          skip
          replace h37 : V 37 = (.bool false) := h37
          replace h45 : V 45 = (.pointer (some ⟨ab2, (aoff2 + k * 4), none⟩)) := h45
          replace hb := hb.trans (hC.mono hb.size)
          refine ⟨true, false, congrArg some h37, fun hact => ?_, fun hact => ?_⟩
          · exact Runs.does (r_fa (congrArg some h45) Try.underlying59 (f := 3) (q := ((aoff2 + k * 4) + 3)) rfl (by kernel_rfl) rfl) ⟨Below.refl _ _, rfl, nofr rfl⟩
          · exfalso; simp at hact
        refine ⟨fun wu47 hC hd => ?_, ?_⟩
        · obtain ⟨h37, h46, _⟩ := hd
          skip
          skip
          replace h37 : V 37 = (.bool false) := h37
          replace h46 : V 46 = (.pointer (some ⟨ab2, ((aoff2 + k * 4) + 3), none⟩)) := h46
          replace hb := hb.trans (hC.mono hb.size)
          refine ⟨true, false, congrArg some h37, fun hact => ?_, fun hact => ?_⟩
          · exact Runs.does (r_load (v := (.string y.2.2.2)) (congrArg some h46) Try.underlying9 rfl (cellsAt_cell (cellsAt_below hel2 hb hlb2) (i := 3) rfl rfl)) ⟨Below.refl _ _, rfl, nofr rfl⟩
          · exfalso; simp at hact
        refine ⟨fun wu48 hC hd => ?_, ?_⟩
        · obtain ⟨h37, h42, h47, _⟩ := hd
          skip
          skip
          skip
          replace h37 : V 37 = (.bool false) := h37
          replace h42 : V 42 = (.string y.2.2.2) := h42
          replace h47 : V 47 = (.string y.2.2.2) := h47
          replace hb := hb.trans (hC.mono hb.size)
          refine ⟨true, false, congrArg some h37, fun hact => ?_, fun hact => ?_⟩
          · exact Runs.does (Runs.veq (r_sne (congrArg some h42) (congrArg some h47)) (congrArg Value.bool (show _ = false from (by simp)))) ⟨Below.refl _ _, rfl, nofr rfl⟩
          · exfalso; simp at hact
        refine ⟨fun wu49 hC hd => ?_, ?_⟩
        · obtain ⟨h37, h48, _⟩ := hd
          skip
          skip
          replace h37 : V 37 = (.bool false) := h37
          replace h48 : V 48 = (.bool false) := h48
          replace hb := hb.trans (hC.mono hb.size)
          exact Runs.does (r_pick (b := false) (congrArg some h37) rfl (congrArg some h48) rfl) ⟨Below.refl _ _, rfl, nofr rfl⟩
        trivial
      · skip
        clear hf fa; intro V w2 fa he1 hp hnb hf
        have hv0 : V 0 = (.slice a l.length c) := postsHold_at hp 0 rfl
        have hv1 : V 1 = (.int .i64 ((k : Nat) : Int)) := postsHold_at hp 1 rfl
        have hv2 : V 2 = (.pointer (some ⟨ab1, (aoff1 + k * 4), none⟩)) := postsHold_at hp 2 rfl
        have hv3 : V 3 = (.pointer (some ⟨ab1, (aoff1 + k * 4), none⟩)) := postsHold_at hp 3 rfl
        have hv4 : V 4 = (.int .i64 y.1) := postsHold_at hp 4 rfl
        have hv5 : V 5 = (.slice b l.length d) := postsHold_at hp 5 rfl
        have hv6 : V 6 = (.int .i64 ((k : Nat) : Int)) := postsHold_at hp 6 rfl
        have hv7 : V 7 = (.pointer (some ⟨ab2, (aoff2 + k * 4), none⟩)) := postsHold_at hp 7 rfl
        have hv8 : V 8 = (.pointer (some ⟨ab2, (aoff2 + k * 4), none⟩)) := postsHold_at hp 8 rfl
        have hv9 : V 9 = (.int .i64 y.1) := postsHold_at hp 9 rfl
        have hv10 : V 10 = (.bool false) := postsHold_at hp 10 rfl
        have hv11 : V 11 = (.bool false) := postsHold_at hp 11 rfl
        have hv12 : V 12 = (.slice a l.length c) := postsHold_at hp 12 rfl
        have hv13 : V 13 = (.int .i64 ((k : Nat) : Int)) := postsHold_at hp 13 rfl
        have hv14 : V 14 = (.pointer (some ⟨ab1, (aoff1 + k * 4), none⟩)) := postsHold_at hp 14 rfl
        have hv15 : V 15 = (.pointer (some ⟨ab1, ((aoff1 + k * 4) + 1), none⟩)) := postsHold_at hp 15 rfl
        have hv16 : V 16 = (.int .i64 y.2.1) := postsHold_at hp 16 rfl
        have hv17 : V 17 = (.slice b l.length d) := postsHold_at hp 17 rfl
        have hv18 : V 18 = (.int .i64 ((k : Nat) : Int)) := postsHold_at hp 18 rfl
        have hv19 : V 19 = (.pointer (some ⟨ab2, (aoff2 + k * 4), none⟩)) := postsHold_at hp 19 rfl
        have hv20 : V 20 = (.pointer (some ⟨ab2, ((aoff2 + k * 4) + 1), none⟩)) := postsHold_at hp 20 rfl
        have hv21 : V 21 = (.int .i64 y.2.1) := postsHold_at hp 21 rfl
        have hv22 : V 22 = (.bool false) := postsHold_at hp 22 rfl
        have hv23 : V 23 = (.bool false) := postsHold_at hp 23 rfl
        have hv24 : V 24 = (.bool false) := postsHold_at hp 24 rfl
        have hv25 : V 25 = (.slice a l.length c) := postsHold_at hp 25 rfl
        have hv26 : V 26 = (.int .i64 ((k : Nat) : Int)) := postsHold_at hp 26 rfl
        have hv27 : V 27 = (.pointer (some ⟨ab1, (aoff1 + k * 4), none⟩)) := postsHold_at hp 27 rfl
        have hv28 : V 28 = (.pointer (some ⟨ab1, ((aoff1 + k * 4) + 2), none⟩)) := postsHold_at hp 28 rfl
        have hv29 : V 29 = (.int .u64 y.2.2.1) := postsHold_at hp 29 rfl
        have hv30 : V 30 = (.slice b l.length d) := postsHold_at hp 30 rfl
        have hv31 : V 31 = (.int .i64 ((k : Nat) : Int)) := postsHold_at hp 31 rfl
        have hv32 : V 32 = (.pointer (some ⟨ab2, (aoff2 + k * 4), none⟩)) := postsHold_at hp 32 rfl
        have hv33 : V 33 = (.pointer (some ⟨ab2, ((aoff2 + k * 4) + 2), none⟩)) := postsHold_at hp 33 rfl
        have hv34 : V 34 = (.int .u64 y.2.2.1) := postsHold_at hp 34 rfl
        have hv35 : V 35 = (.bool false) := postsHold_at hp 35 rfl
        have hv36 : V 36 = (.bool false) := postsHold_at hp 36 rfl
        have hv37 : V 37 = (.bool false) := postsHold_at hp 37 rfl
        have hv38 : V 38 = (.slice a l.length c) := postsHold_at hp 38 rfl
        have hv39 : V 39 = (.int .i64 ((k : Nat) : Int)) := postsHold_at hp 39 rfl
        have hv40 : V 40 = (.pointer (some ⟨ab1, (aoff1 + k * 4), none⟩)) := postsHold_at hp 40 rfl
        have hv41 : V 41 = (.pointer (some ⟨ab1, ((aoff1 + k * 4) + 3), none⟩)) := postsHold_at hp 41 rfl
        have hv42 : V 42 = (.string y.2.2.2) := postsHold_at hp 42 rfl
        have hv43 : V 43 = (.slice b l.length d) := postsHold_at hp 43 rfl
        have hv44 : V 44 = (.int .i64 ((k : Nat) : Int)) := postsHold_at hp 44 rfl
        have hv45 : V 45 = (.pointer (some ⟨ab2, (aoff2 + k * 4), none⟩)) := postsHold_at hp 45 rfl
        have hv46 : V 46 = (.pointer (some ⟨ab2, ((aoff2 + k * 4) + 3), none⟩)) := postsHold_at hp 46 rfl
        have hv47 : V 47 = (.string y.2.2.2) := postsHold_at hp 47 rfl
        have hv48 : V 48 = (.bool false) := postsHold_at hp 48 rfl
        have hv49 : V 49 = (.bool false) := postsHold_at hp 49 rfl
        simp only [List.take_succ_cons, List.take_zero, insAll, ins, hv0, hv1, hv2, hv3, hv4, hv5, hv6, hv7, hv8, hv9, hv10, hv11, hv12, hv13, hv14, hv15, hv16, hv17, hv18, hv19, hv20, hv21, hv22, hv23, hv24, hv25, hv26, hv27, hv28, hv29, hv30, hv31, hv32, hv33, hv34, hv35, hv36, hv37, hv38, hv39, hv40, hv41, hv42, hv43, hv44, hv45, hv46, hv47, hv48, hv49] at hf
        clear hp hnb hv0 hv1 hv2 hv3 hv4 hv5 hv6 hv7 hv8 hv9 hv10 hv11 hv12 hv13 hv14 hv15 hv16 hv17 hv18 hv19 hv20 hv21 hv22 hv23 hv24 hv25 hv26 hv27 hv28 hv29 hv30 hv31 hv32 hv33 hv34 hv35 hv36 hv37 hv38 hv39 hv40 hv41 hv42 hv43 hv44 hv45 hv46 hv47 hv48 hv49
        replace hb := hb.trans (Below.mono he1 hb.size)
        (try simp only [Exit.then, Exit.inBlock, ↓reduceIte, Nat.reduceEqDiff])
        refine hK9 _ _ ?_
        refine wp_cond_false (hf.ev rfl) ?_
        refine wp_skip ?_
        (try simp only [Exit.then, Exit.inBlock, ↓reduceIte, Nat.reduceEqDiff])
        refine hK8 _ _ ?_
        refine wp_region_lit ?_
        refine sqv hf (r_move rfl) rfl rfl rfl ?_; clear hf fa; intro fa hf
        refine sqv hf (r_add (C := (((k : Nat) : Int) + (1 : Int))) rfl rfl (by rw [IntKind.wrap_i64]; omega)) rfl rfl rfl ?_; clear hf fa; intro fa hf
        refine sqv hf (r_assign rfl) rfl rfl rfl ?_; clear hf fa; intro fa hf
        apply wpList_nil
        (try simp only [Exit.then, Exit.inBlock, ↓reduceIte, Nat.reduceEqDiff])
        refine hKL1 _ _ _ (by omega) ⟨(k + 1), rfl, hf.sub ⟨rfl, rfl, (some_int (by first | rfl | omega)), trivial⟩, hb, by omega⟩
    · have hqt14_1b := hqt14_1
      replace hqt14_1 := Bool.eq_false_iff.1 hqt14_1
      try simp only [ne_eq, decide_eq_true_eq, Bool.and_eq_true, Bool.or_eq_true, Bool.not_eq_true', decide_eq_false_iff_not] at hqt14_1
      refine wp_exit ?_
      (try simp only [Exit.then, Exit.inBlock, ↓reduceIte, Nat.reduceEqDiff])
      refine hK4 _ _ ?_
      refine wp_seq_k (fun K10 hK10 => ?_)
      refine wp_region_lit ?_
      refine sqv hf (r_assign rfl) rfl rfl rfl ?_; clear hf fa; intro fa hf
      apply wpList_nil
      (try simp only [Exit.then, Exit.inBlock, ↓reduceIte, Nat.reduceEqDiff])
      refine hK10 _ _ ?_
      refine wp_ret ?_
      (try simp only [Exit.then, Exit.inBlock])
      refine ret1 hf rfl rfl ?_
      exact ⟨rfl, hb⟩

set_option maxHeartbeats 1000000 in
set_option maxRecDepth 100000 in
theorem rlen28 (B : Nat) (w : World) (a : Option Addr) (c : Nat) (Vs : List SlV) (Rr : List (List Ent)) (hBw : B ≤ w.heap.size) (hRV : Row 1 vSV 64 B w (.slice a Vs.length c) Vs) (hRI : RI B w Vs Rr) (hRs : Rr.length ≤ 1000) (hRf : Rr.flatten.length ≤ 1000000) : Calls Try.prog 31 #[(.slice a Vs.length c)] w fun e w' => e = .returned (.int .i64 ((Rr.flatten.length : Nat) : Int)) ∧ Below w.heap.size w w' := by
  have hcV := Row.caps hRV
  have hVR := hRI.1
  have hVd := Row.rd (by intros; rfl) hRV
  have hVn := fun h => Row.nocap hRV h
  have hf0 : (Rr.take 0).flatten.length = 0 := rfl
  refine sx_enter (L := [(0, (.slice a Vs.length c))]) Try.func31 rfl rfl rfl rfl (fun fa hf => ?_)
  have hb : Below w.heap.size w w := Below.refl _ _
  refine wp_seq_k (fun K1 hK1 => ?_)
  refine wp_region_lit ?_
  refine sqv hf (r_assign rfl) rfl rfl rfl ?_; clear hf fa; intro fa hf
  apply wpList_nil
  (try simp only [Exit.then, Exit.inBlock, ↓reduceIte, Nat.reduceEqDiff])
  refine hK1 _ _ ?_
  refine wp_seq_k (fun K2 hK2 => ?_)
  refine wp_region_lit ?_
  refine sqv hf (r_assign rfl) rfl rfl rfl ?_; clear hf fa; intro fa hf
  apply wpList_nil
  (try simp only [Exit.then, Exit.inBlock, ↓reduceIte, Nat.reduceEqDiff])
  refine hK2 _ _ ?_
  refine wp_seq_k (fun K3 hK3 => ?_)
  refine wp_seq_k (fun K4 hK4 => ?_)
  refine wp_region_lit ?_
  refine sqv hf (r_assign rfl) rfl rfl rfl ?_; clear hf fa; intro fa hf
  apply wpList_nil
  (try simp only [Exit.then, Exit.inBlock, ↓reduceIte, Nat.reduceEqDiff])
  refine hK4 _ _ ?_
  refine wp_block ?_
  refine wp_loop_k (fun mq fa wr => ∃ (i : Nat), mq = Vs.length - i ∧ Fr 19 fa [(0, (.slice a Vs.length c)), (3, (.int .i64 (((Rr.take i).flatten.length : Nat) : Int))), (4, (.int .i64 ((i : Nat) : Int)))] ∧ Below w.heap.size w wr ∧ (i ≤ Vs.length)) ?_ ?_
  · skip
    exact ⟨_, 0, rfl, hf.sub ⟨rfl, (some_int (by first | rfl | omega)), (some_int (by first | rfl | omega)), trivial⟩, hb, by omega⟩
  · skip
    clear hf fa; intro mq1 fa w1 hI KL1 hKL1
    clear hb
    obtain ⟨i, hmq1, hf, hb, hi⟩ := hI
    have hfi := flat_le Rr i
    have hfi2 := flat_le Rr (i + 1)
    refine wp_seq_k (fun K5 hK5 => ?_)
    refine wp_seq_k (fun K6 hK6 => ?_)
    refine wp_region_lit ?_
    refine sqv hf (r_move rfl) rfl rfl rfl ?_; clear hf fa; intro fa hf
    refine sqv hf (r_move rfl) rfl rfl rfl ?_; clear hf fa; intro fa hf
    refine sqv hf (r_lensl rfl Try.underlying52) rfl rfl rfl ?_; clear hf fa; intro fa hf
    refine sqv hf (r_lt rfl rfl) rfl rfl rfl ?_; clear hf fa; intro fa hf
    apply wpList_nil
    (try simp only [Exit.then, Exit.inBlock, ↓reduceIte, Nat.reduceEqDiff])
    refine hK6 _ _ ?_
    refine wp_cond_split (t := (decide (((i : Nat) : Int) < ((Vs.length : Nat) : Int)))) (hf.ev rfl) (fun hqt8_1 => ?_) (fun hqt8_1 => ?_)
    · have hqt8_1b := hqt8_1
      try simp only [decide_eq_true_eq, Bool.and_eq_true, Bool.or_eq_true, Bool.not_eq_true', decide_eq_false_iff_not, ne_eq, Bool.not_eq_true] at hqt8_1
      refine wp_skip ?_
      (try simp only [Exit.then, Exit.inBlock, ↓reduceIte, Nat.reduceEqDiff])
      refine hK5 _ _ ?_
      refine wp_seq_k (fun K7 hK7 => ?_)
      refine wp_block ?_
      obtain ⟨y, l, hy, hyR, hrow, hin, hyn⟩ := hRI.get (i := i) (by omega)
      have hfl0 := congrArg List.length (flat_take hyR)
      rw [List.length_append] at hfl0
      refine wp_region_lit ?_
      refine sqv hf (r_move rfl) rfl rfl rfl ?_; clear hf fa; intro fa hf
      refine sqv hf (r_move rfl) rfl rfl rfl ?_; clear hf fa; intro fa hf
      refine sqv hf (r_move rfl) rfl rfl rfl ?_; clear hf fa; intro fa hf
      have hy1 : (Vs)[i]? = some y := hy
      obtain ⟨ab1, aoff1, hat1, hlb1, hel1⟩ := RdS.at hVd hy1
      refine sqv hf (r_ixa (sz := 1) (j := i) (evAt rfl hat1) rfl Try.underlying52 (by kernel_rfl) rfl (by omega) rfl) rfl rfl rfl ?_; clear hf fa; intro fa hf
      refine sqv hf (r_load (v := (.slice y.1 y.2.1 y.2.2)) rfl Try.underlying64 rfl (cellsAt_cell (cellsAt_below hel1 hb hlb1) (i := 0) rfl rfl)) rfl rfl rfl ?_; clear hf fa; intro fa hf
      refine sqv hf (r_lensl rfl Try.underlying64) rfl rfl rfl ?_; clear hf fa; intro fa hf
      refine sqv hf (r_add (C := ((((Rr.take i).flatten.length : Nat) : Int) + ((y.2.1 : Nat) : Int))) rfl rfl (by rw [IntKind.wrap_i64]; omega)) rfl rfl rfl ?_; clear hf fa; intro fa hf
      refine sqv hf (r_assign rfl) rfl rfl rfl ?_; clear hf fa; intro fa hf
      apply wpList_nil
      (try simp only [Exit.then, Exit.inBlock, ↓reduceIte, Nat.reduceEqDiff])
      refine hK7 _ _ ?_
      refine wp_region_lit ?_
      refine sqv hf (r_move rfl) rfl rfl rfl ?_; clear hf fa; intro fa hf
      refine sqv hf (r_add (C := (((i : Nat) : Int) + (1 : Int))) rfl rfl (by rw [IntKind.wrap_i64]; omega)) rfl rfl rfl ?_; clear hf fa; intro fa hf
      refine sqv hf (r_assign rfl) rfl rfl rfl ?_; clear hf fa; intro fa hf
      apply wpList_nil
      (try simp only [Exit.then, Exit.inBlock, ↓reduceIte, Nat.reduceEqDiff])
      have hfl := congrArg List.length (flat_take hyR)
      rw [List.length_append] at hfl
      refine hKL1 _ _ _ (by omega) ⟨(i + 1), rfl, hf.sub ⟨rfl, (some_int (by first | rfl | omega)), (some_int (by first | rfl | omega)), trivial⟩, hb, by omega⟩
    · have hqt8_1b := hqt8_1
      replace hqt8_1 := Bool.eq_false_iff.1 hqt8_1
      try simp only [ne_eq, decide_eq_true_eq, Bool.and_eq_true, Bool.or_eq_true, Bool.not_eq_true', decide_eq_false_iff_not] at hqt8_1
      refine wp_exit ?_
      (try simp only [Exit.then, Exit.inBlock, ↓reduceIte, Nat.reduceEqDiff])
      refine hK3 _ _ ?_
      refine wp_seq_k (fun K8 hK8 => ?_)
      refine wp_region_lit ?_
      refine sqv hf (r_move rfl) rfl rfl rfl ?_; clear hf fa; intro fa hf
      refine sqv hf (r_assign rfl) rfl rfl rfl ?_; clear hf fa; intro fa hf
      apply wpList_nil
      (try simp only [Exit.then, Exit.inBlock, ↓reduceIte, Nat.reduceEqDiff])
      refine hK8 _ _ ?_
      refine wp_ret ?_
      (try simp only [Exit.then, Exit.inBlock])
      refine ret1 hf rfl rfl ?_
      have hkk : Rr.take i = Rr := List.take_of_length_le (by omega)
      rw [hkk]; exact ⟨rfl, hb⟩

theorem kds_app (L M : List Ent) : kds (L ++ M) = kds L ++ kds M := List.map_append
theorem cnt_yes {l : List Ent} {k : Nat} {x : Int} {z : Ent} (h : l[k]? = some z) (e : z.1 = x) : cntN (kds (l.take (k + 1))) x = cntN (kds (l.take k)) x + 1 := by rw [kds_snoc h, cntN_app, cntN_yes e]
theorem cnt_no {l : List Ent} {k : Nat} {x : Int} {z : Ent} (h : l[k]? = some z) (e : ¬ z.1 = x) : cntN (kds (l.take (k + 1))) x = cntN (kds (l.take k)) x := by rw [kds_snoc h, cntN_app, cntN_no e, Nat.add_zero]

set_option maxHeartbeats 1000000 in
set_option maxRecDepth 100000 in
theorem count28 (B : Nat) (w : World) (a : Option Addr) (c : Nat) (Vs : List SlV) (Rr : List (List Ent)) (hBw : B ≤ w.heap.size) (hRV : Row 1 vSV 64 B w (.slice a Vs.length c) Vs) (hRI : RI B w Vs Rr) (hRs : Rr.length ≤ 1000) (hRf : Rr.flatten.length ≤ 1000000) (kd : Int) : Calls Try.prog 34 #[(.slice a Vs.length c), (.int .i64 kd)] w fun e w' => e = .returned (.int .i64 ((cntN (kds Rr.flatten) kd : Nat) : Int)) ∧ Below w.heap.size w w' := by
  have hcV := Row.caps hRV
  have hVR := hRI.1
  have hVd := Row.rd (by intros; rfl) hRV
  have hVn := fun h => Row.nocap hRV h
  have hf0 : cntN (kds (Rr.take 0).flatten) kd = 0 := rfl
  refine sx_enter (L := [(0, (.slice a Vs.length c)), (1, (.int .i64 kd))]) Try.func34 rfl rfl rfl rfl (fun fa hf => ?_)
  have hb : Below w.heap.size w w := Below.refl _ _
  refine wp_seq_k (fun K1 hK1 => ?_)
  refine wp_region_lit ?_
  refine sqv hf (r_assign rfl) rfl rfl rfl ?_; clear hf fa; intro fa hf
  apply wpList_nil
  (try simp only [Exit.then, Exit.inBlock, ↓reduceIte, Nat.reduceEqDiff])
  refine hK1 _ _ ?_
  refine wp_seq_k (fun K2 hK2 => ?_)
  refine wp_region_lit ?_
  refine sqv hf (r_assign rfl) rfl rfl rfl ?_; clear hf fa; intro fa hf
  apply wpList_nil
  (try simp only [Exit.then, Exit.inBlock, ↓reduceIte, Nat.reduceEqDiff])
  refine hK2 _ _ ?_
  refine wp_seq_k (fun K3 hK3 => ?_)
  refine wp_seq_k (fun K4 hK4 => ?_)
  refine wp_region_lit ?_
  refine sqv hf (r_assign rfl) rfl rfl rfl ?_; clear hf fa; intro fa hf
  apply wpList_nil
  (try simp only [Exit.then, Exit.inBlock, ↓reduceIte, Nat.reduceEqDiff])
  refine hK4 _ _ ?_
  refine wp_block ?_
  refine wp_loop_k (fun mq fa wr => ∃ (i : Nat), mq = Vs.length - i ∧ Fr 36 fa [(0, (.slice a Vs.length c)), (1, (.int .i64 kd)), (5, (.int .i64 (((cntN (kds (Rr.take i).flatten) kd) : Nat) : Int))), (6, (.int .i64 ((i : Nat) : Int)))] ∧ Below w.heap.size w wr ∧ (i ≤ Vs.length)) ?_ ?_
  · skip
    exact ⟨_, 0, rfl, hf.sub ⟨rfl, rfl, (some_int (by first | rfl | omega)), (some_int (by first | rfl | omega)), trivial⟩, hb, by omega⟩
  · skip
    clear hf fa; intro mq1 fa w1 hI KL1 hKL1
    clear hb
    obtain ⟨i, hmq1, hf, hb, hi⟩ := hI
    have hfi := flat_le Rr i
    have hfi2 := flat_le Rr (i + 1)
    have hci := cntN_le (kds (Rr.take i).flatten) kd
    rw [kds_len] at hci
    refine wp_seq_k (fun K5 hK5 => ?_)
    refine wp_seq_k (fun K6 hK6 => ?_)
    refine wp_region_lit ?_
    refine sqv hf (r_move rfl) rfl rfl rfl ?_; clear hf fa; intro fa hf
    refine sqv hf (r_move rfl) rfl rfl rfl ?_; clear hf fa; intro fa hf
    refine sqv hf (r_lensl rfl Try.underlying52) rfl rfl rfl ?_; clear hf fa; intro fa hf
    refine sqv hf (r_lt rfl rfl) rfl rfl rfl ?_; clear hf fa; intro fa hf
    apply wpList_nil
    (try simp only [Exit.then, Exit.inBlock, ↓reduceIte, Nat.reduceEqDiff])
    refine hK6 _ _ ?_
    refine wp_cond_split (t := (decide (((i : Nat) : Int) < ((Vs.length : Nat) : Int)))) (hf.ev rfl) (fun hqt11_1 => ?_) (fun hqt11_1 => ?_)
    · have hqt11_1b := hqt11_1
      try simp only [decide_eq_true_eq, Bool.and_eq_true, Bool.or_eq_true, Bool.not_eq_true', decide_eq_false_iff_not, ne_eq, Bool.not_eq_true] at hqt11_1
      refine wp_skip ?_
      (try simp only [Exit.then, Exit.inBlock, ↓reduceIte, Nat.reduceEqDiff])
      refine hK5 _ _ ?_
      refine wp_seq_k (fun K7 hK7 => ?_)
      refine wp_block ?_
      refine wp_seq_k (fun K8 hK8 => ?_)
      obtain ⟨y, l, hy, hyR, hrow, hin, hyn⟩ := hRI.get (i := i) (by omega)
      have hfl0 := congrArg List.length (flat_take hyR)
      rw [List.length_append] at hfl0
      have hf00 : cntN (kds (l.take 0)) kd = 0 := rfl
      refine wp_region_lit ?_
      refine sqv hf (r_assign rfl) rfl rfl rfl ?_; clear hf fa; intro fa hf
      apply wpList_nil
      (try simp only [Exit.then, Exit.inBlock, ↓reduceIte, Nat.reduceEqDiff])
      refine hK8 _ _ ?_
      refine wp_block ?_
      refine wp_loop_k (fun mq fa wr => ∃ (k : Nat), mq = l.length - k ∧ Fr 36 fa [(0, (.slice a Vs.length c)), (1, (.int .i64 kd)), (5, (.int .i64 (((cntN (kds (Rr.take i).flatten) kd) + cntN (kds (l.take k)) kd : Nat) : Int))), (6, (.int .i64 ((i : Nat) : Int))), (7, (.int .i64 ((k : Nat) : Int)))] ∧ Below w.heap.size w wr ∧ (k ≤ l.length)) ?_ ?_
      · skip
        exact ⟨_, 0, rfl, hf.sub ⟨rfl, rfl, (some_int (by first | rfl | omega)), rfl, (some_int (by first | rfl | omega)), trivial⟩, hb, by omega⟩
      · skip
        clear hf fa; intro mq2 fa w2 hI KL2 hKL2
        clear hb
        obtain ⟨k, hmq2, hf, hb, hk⟩ := hI
        have hck := cntN_le (kds (l.take k)) kd
        rw [kds_len, List.length_take] at hck
        refine wp_seq_k (fun K9 hK9 => ?_)
        refine wp_seq_k (fun K10 hK10 => ?_)
        refine wp_region_lit ?_
        refine sqv hf (r_move rfl) rfl rfl rfl ?_; clear hf fa; intro fa hf
        refine sqv hf (r_move rfl) rfl rfl rfl ?_; clear hf fa; intro fa hf
        refine sqv hf (r_move rfl) rfl rfl rfl ?_; clear hf fa; intro fa hf
        have hy1 : (Vs)[i]? = some y := hy
        obtain ⟨ab1, aoff1, hat1, hlb1, hel1⟩ := RdS.at hVd hy1
        refine sqv hf (r_ixa (sz := 1) (j := i) (evAt rfl hat1) rfl Try.underlying52 (by kernel_rfl) rfl (by omega) rfl) rfl rfl rfl ?_; clear hf fa; intro fa hf
        refine sqv hf (r_load (v := (.slice y.1 y.2.1 y.2.2)) rfl Try.underlying64 rfl (cellsAt_cell (cellsAt_below hel1 hb hlb1) (i := 0) rfl rfl)) rfl rfl rfl ?_; clear hf fa; intro fa hf
        refine sqv hf (r_lensl rfl Try.underlying64) rfl rfl rfl ?_; clear hf fa; intro fa hf
        refine sqv hf (r_lt rfl rfl) rfl rfl rfl ?_; clear hf fa; intro fa hf
        apply wpList_nil
        (try simp only [Exit.then, Exit.inBlock, ↓reduceIte, Nat.reduceEqDiff])
        refine hK10 _ _ ?_
        refine wp_cond_split (t := (decide (((k : Nat) : Int) < ((y.2.1 : Nat) : Int)))) (hf.ev rfl) (fun hqt20_1 => ?_) (fun hqt20_1 => ?_)
        · have hqt20_1b := hqt20_1
          try simp only [decide_eq_true_eq, Bool.and_eq_true, Bool.or_eq_true, Bool.not_eq_true', decide_eq_false_iff_not, ne_eq, Bool.not_eq_true] at hqt20_1
          refine wp_skip ?_
          (try simp only [Exit.then, Exit.inBlock, ↓reduceIte, Nat.reduceEqDiff])
          refine hK9 _ _ ?_
          refine wp_seq_k (fun K11 hK11 => ?_)
          refine wp_block ?_
          refine wp_seq_k (fun K12 hK12 => ?_)
          obtain ⟨z, hz⟩ : ∃ x, l[k]? = some x := ⟨_, List.getElem?_eq_getElem (by omega)⟩
          refine wp_region_lit ?_
          refine sqv hf (r_move rfl) rfl rfl rfl ?_; clear hf fa; intro fa hf
          refine sqv hf (r_move rfl) rfl rfl rfl ?_; clear hf fa; intro fa hf
          refine sqv hf (r_ixa (sz := 1) (j := i) (evAt rfl hat1) rfl Try.underlying52 (by kernel_rfl) rfl (by omega) rfl) rfl rfl rfl ?_; clear hf fa; intro fa hf
          refine sqv hf (r_load (v := (.slice y.1 y.2.1 y.2.2)) rfl Try.underlying64 rfl (cellsAt_cell (cellsAt_below hel1 hb hlb1) (i := 0) rfl rfl)) rfl rfl rfl ?_; clear hf fa; intro fa hf
          refine sqv hf (r_move rfl) rfl rfl rfl ?_; clear hf fa; intro fa hf
          have hy2 : (l)[k]? = some z := hz
          obtain ⟨ab2, aoff2, hat2, hlb2, hel2⟩ := RdS.at hin hy2
          refine sqv hf (r_ixa (sz := 4) (j := k) (evAt rfl hat2) rfl Try.underlying64 (by kernel_rfl) rfl (by omega) rfl) rfl rfl rfl ?_; clear hf fa; intro fa hf
          refine sqv hf (r_fa rfl Try.underlying59 (f := 0) (q := (aoff2 + k * 4)) rfl (by kernel_rfl) rfl) rfl rfl rfl ?_; clear hf fa; intro fa hf
          refine sqv hf (r_load (v := (.int .i64 z.1)) rfl Try.underlying3 rfl (cellsAt_cell (cellsAt_below hel2 hb hlb2) (i := 0) rfl rfl)) rfl rfl rfl ?_; clear hf fa; intro fa hf
          refine sqv hf (r_move rfl) rfl rfl rfl ?_; clear hf fa; intro fa hf
          refine sqv hf (r_eq rfl rfl) rfl rfl rfl ?_; clear hf fa; intro fa hf
          apply wpList_nil
          (try simp only [Exit.then, Exit.inBlock, ↓reduceIte, Nat.reduceEqDiff])
          refine hK12 _ _ ?_
          refine wp_cond_split (t := (decide (z.1 = kd))) (hf.ev rfl) (fun hqt32_1 => ?_) (fun hqt32_1 => ?_)
          · have hqt32_1b := hqt32_1
            try simp only [decide_eq_true_eq, Bool.and_eq_true, Bool.or_eq_true, Bool.not_eq_true', decide_eq_false_iff_not, ne_eq, Bool.not_eq_true] at hqt32_1
            refine wp_region_lit ?_
            refine sqv hf (r_move rfl) rfl rfl rfl ?_; clear hf fa; intro fa hf
            refine sqv hf (r_add (C := ((((cntN (kds (Rr.take i).flatten) kd) + cntN (kds (l.take k)) kd : Nat) : Int) + (1 : Int))) rfl rfl (by rw [IntKind.wrap_i64]; omega)) rfl rfl rfl ?_; clear hf fa; intro fa hf
            refine sqv hf (r_assign rfl) rfl rfl rfl ?_; clear hf fa; intro fa hf
            apply wpList_nil
            (try simp only [Exit.then, Exit.inBlock, ↓reduceIte, Nat.reduceEqDiff])
            refine hK11 _ _ ?_
            refine wp_region_lit ?_
            refine sqv hf (r_move rfl) rfl rfl rfl ?_; clear hf fa; intro fa hf
            refine sqv hf (r_add (C := (((k : Nat) : Int) + (1 : Int))) rfl rfl (by rw [IntKind.wrap_i64]; omega)) rfl rfl rfl ?_; clear hf fa; intro fa hf
            refine sqv hf (r_assign rfl) rfl rfl rfl ?_; clear hf fa; intro fa hf
            apply wpList_nil
            (try simp only [Exit.then, Exit.inBlock, ↓reduceIte, Nat.reduceEqDiff])
            have hst := cnt_yes (l := l) (k := k) (x := kd) hz (by have h := hqt32_1; first | exact h | simpa using h)
            refine hKL2 _ _ _ (by omega) ⟨(k + 1), rfl, hf.sub ⟨rfl, rfl, (some_int (by first | rfl | omega)), rfl, (some_int (by first | rfl | omega)), trivial⟩, hb, by omega⟩
          · have hqt32_1b := hqt32_1
            replace hqt32_1 := Bool.eq_false_iff.1 hqt32_1
            try simp only [ne_eq, decide_eq_true_eq, Bool.and_eq_true, Bool.or_eq_true, Bool.not_eq_true', decide_eq_false_iff_not] at hqt32_1
            refine wp_skip ?_
            (try simp only [Exit.then, Exit.inBlock, ↓reduceIte, Nat.reduceEqDiff])
            refine hK11 _ _ ?_
            refine wp_region_lit ?_
            refine sqv hf (r_move rfl) rfl rfl rfl ?_; clear hf fa; intro fa hf
            refine sqv hf (r_add (C := (((k : Nat) : Int) + (1 : Int))) rfl rfl (by rw [IntKind.wrap_i64]; omega)) rfl rfl rfl ?_; clear hf fa; intro fa hf
            refine sqv hf (r_assign rfl) rfl rfl rfl ?_; clear hf fa; intro fa hf
            apply wpList_nil
            (try simp only [Exit.then, Exit.inBlock, ↓reduceIte, Nat.reduceEqDiff])
            have hst := cnt_no (l := l) (k := k) (x := kd) hz (by have h := hqt32_1; first | exact h | simpa using h)
            refine hKL2 _ _ _ (by omega) ⟨(k + 1), rfl, hf.sub ⟨rfl, rfl, (some_int (by first | rfl | omega)), rfl, (some_int (by first | rfl | omega)), trivial⟩, hb, by omega⟩
        · have hqt20_1b := hqt20_1
          replace hqt20_1 := Bool.eq_false_iff.1 hqt20_1
          try simp only [ne_eq, decide_eq_true_eq, Bool.and_eq_true, Bool.or_eq_true, Bool.not_eq_true', decide_eq_false_iff_not] at hqt20_1
          refine wp_exit ?_
          (try simp only [Exit.then, Exit.inBlock, ↓reduceIte, Nat.reduceEqDiff])
          refine hK7 _ _ ?_
          refine wp_region_lit ?_
          refine sqv hf (r_move rfl) rfl rfl rfl ?_; clear hf fa; intro fa hf
          refine sqv hf (r_add (C := (((i : Nat) : Int) + (1 : Int))) rfl rfl (by rw [IntKind.wrap_i64]; omega)) rfl rfl rfl ?_; clear hf fa; intro fa hf
          refine sqv hf (r_assign rfl) rfl rfl rfl ?_; clear hf fa; intro fa hf
          apply wpList_nil
          (try simp only [Exit.then, Exit.inBlock, ↓reduceIte, Nat.reduceEqDiff])
          have hfl := congrArg (fun l => cntN (kds l) kd) (flat_take hyR)
          simp only [kds_app, cntN_app] at hfl
          have hkl : cntN (kds (l.take k)) kd = cntN (kds l) kd := by rw [List.take_of_length_le (by omega)]
          refine hKL1 _ _ _ (by omega) ⟨(i + 1), rfl, hf.sub ⟨rfl, rfl, (some_int (by first | rfl | omega)), (some_int (by first | rfl | omega)), trivial⟩, hb, by omega⟩
    · have hqt11_1b := hqt11_1
      replace hqt11_1 := Bool.eq_false_iff.1 hqt11_1
      try simp only [ne_eq, decide_eq_true_eq, Bool.and_eq_true, Bool.or_eq_true, Bool.not_eq_true', decide_eq_false_iff_not] at hqt11_1
      refine wp_exit ?_
      (try simp only [Exit.then, Exit.inBlock, ↓reduceIte, Nat.reduceEqDiff])
      refine hK3 _ _ ?_
      refine wp_seq_k (fun K13 hK13 => ?_)
      refine wp_region_lit ?_
      refine sqv hf (r_move rfl) rfl rfl rfl ?_; clear hf fa; intro fa hf
      refine sqv hf (r_assign rfl) rfl rfl rfl ?_; clear hf fa; intro fa hf
      apply wpList_nil
      (try simp only [Exit.then, Exit.inBlock, ↓reduceIte, Nat.reduceEqDiff])
      refine hK13 _ _ ?_
      refine wp_ret ?_
      (try simp only [Exit.then, Exit.inBlock])
      refine ret1 hf rfl rfl ?_
      have hkk : Rr.take i = Rr := List.take_of_length_le (by omega)
      rw [hkk]; exact ⟨rfl, hb⟩
end Go.Proofs.Ytmcmickgllffoaa
