/- What is proved here: swapRange, rotate. -/
import Derived.Test.YtbllifhcfgjdlaaGgV
import Derived.Test.YtbllifhcfgjdlaaGgC
namespace Go.Proofs.Ytbllifhcfgjdlaa
open Go.RowKit
set_option linter.unusedVariables false
set_option linter.unusedSimpArgs false
set_option maxHeartbeats 1000000 in
set_option maxRecDepth 100000 in
theorem swapr_any (b c : Nat) (l : List Nat) (p q n : Nat) (hpq : p + n ≤ q) (hq : q + n ≤ l.length) (hl : l.length ≤ 4611686018427387903) (w0 w : World) (hb : Below w0.heap.size w0 w) (hR : Row 1 vFlt 22 w0.heap.size w (.slice (some ⟨b, 0, none⟩) l.length c) l) (hW : allW l) : Calls Try.prog 42 #[(.slice (some ⟨b, 0, none⟩) l.length c), (.int .i64 ((p : Nat) : Int)), (.int .i64 ((q : Nat) : Int)), (.int .i64 ((n : Nat) : Int)), (.func (.func 9) #[] #[])] w fun e w' => e = .returned (.tuple #[]) ∧ ∃ l' : List Nat, Row 1 vFlt 22 w0.heap.size w' (.slice (some ⟨b, 0, none⟩) l.length c) l' ∧ Via (sgm p q n) l l' ∧ Below w0.heap.size w0 w' := by
  refine sx_enter (L := [(0, (.slice (some ⟨b, 0, none⟩) l.length c)), (1, (.int .i64 ((p : Nat) : Int))), (2, (.int .i64 ((q : Nat) : Int))), (3, (.int .i64 ((n : Nat) : Int))), (4, (.func (.func 9) #[] #[]))]) Try.func42 rfl rfl rfl rfl (fun fa hf => ?_)
  refine wp_seq_k (fun K1 hK1 => ?_)
  refine wp_region_lit ?_
  refine sqv hf (r_assign rfl) rfl rfl rfl ?_; clear hf fa; intro fa hf
  apply wpList_nil
  (try simp only [Exit.then, Exit.inBlock, ↓reduceIte, Nat.reduceEqDiff])
  refine hK1 _ _ ?_
  refine wp_block ?_
  refine wp_loop_k (fun mq fa wr => ∃ (i : Nat) (cur : List Nat), mq = n - i ∧ Fr 38 fa [(0, (.slice (some ⟨b, 0, none⟩) l.length c)), (1, (.int .i64 ((p : Nat) : Int))), (2, (.int .i64 ((q : Nat) : Int))), (3, (.int .i64 ((n : Nat) : Int))), (4, (.func (.func 9) #[] #[])), (10, (.int .i64 ((i : Nat) : Int)))] ∧ Below w0.heap.size w0 wr ∧ Row 1 vFlt 22 (w0.heap.size) wr (.slice (some ⟨b, 0, none⟩) (l.length) c) cur ∧ (i ≤ n) ∧ (Via (sgm p q i) l cur)) ?_ ?_
  · skip
    exact ⟨_, 0, l, rfl, hf.sub ⟨rfl, rfl, rfl, rfl, rfl, (some_int (by first | rfl | omega)), trivial⟩, hb, hR, (by omega), ((Via.refl l).congr (sgm_zero p q))⟩
  · skip
    clear hf fa; intro mq1 fa w1 hI KL1 hKL1
    clear hb
    clear hR
    obtain ⟨i, cur, hmq1, hf, hb, hr, hi, hv⟩ := hI
    have hcr := Row.caps hr
    have hcl := hv.len
    refine wp_seq_k (fun K2 hK2 => ?_)
    refine wp_seq_k (fun K3 hK3 => ?_)
    refine wp_region_lit ?_
    refine sqv hf (r_move rfl) rfl rfl rfl ?_; clear hf fa; intro fa hf
    refine sqv hf (r_move rfl) rfl rfl rfl ?_; clear hf fa; intro fa hf
    refine sqv hf (r_lt rfl rfl) rfl rfl rfl ?_; clear hf fa; intro fa hf
    apply wpList_nil
    (try simp only [Exit.then, Exit.inBlock, ↓reduceIte, Nat.reduceEqDiff])
    refine hK3 _ _ ?_
    refine wp_cond_split (t := (decide (((i : Nat) : Int) < ((n : Nat) : Int)))) (hf.ev rfl) (fun hqt13_1 => ?_) (fun hqt13_1 => ?_)
    · have hqt13_1b := hqt13_1
      try simp only [decide_eq_true_eq, Bool.and_eq_true, Bool.or_eq_true, Bool.not_eq_true', decide_eq_false_iff_not, ne_eq, Bool.not_eq_true] at hqt13_1
      refine wp_skip ?_
      (try simp only [Exit.then, Exit.inBlock, ↓reduceIte, Nat.reduceEqDiff])
      refine hK2 _ _ ?_
      refine wp_seq_k (fun K4 hK4 => ?_)
      refine wp_block ?_
      have hy1 := getD_at (l := cur) (j := ((q + i))) 0 (by first | omega | (simp only [Sl.list_length, List.length_set, List.length_take, List.length_append, List.length_replicate, List.length_cons, List.length_nil, List.length_map, nums_len]; omega))
      have hel1 := RdS.at (Row.rd (by intros; rfl) hr) hy1
      obtain ⟨_, _, hab, hlr1, hel1⟩ := hel1
      cases hab
      have hy2 := getD_at (l := cur) (j := ((p + i))) 0 (by first | omega | (simp only [Sl.list_length, List.length_set, List.length_take, List.length_append, List.length_replicate, List.length_cons, List.length_nil, List.length_map, nums_len]; omega))
      have hel2 := RdS.at (Row.rd (by intros; rfl) hr) hy2
      obtain ⟨_, _, hab, hlr2, hel2⟩ := hel2
      cases hab
      have hy3 := getD_at (l := cur) (j := ((p + i))) 0 (by first | omega | (simp only [Sl.list_length, List.length_set, List.length_take, List.length_append, List.length_replicate, List.length_cons, List.length_nil, List.length_map, nums_len]; omega))
      have hel3 := RdS.at (Row.rd (by intros; rfl) hr) hy3
      obtain ⟨_, _, hab, hlr3, hel3⟩ := hel3
      cases hab
      refine wp_region_vnT 22 (fun S wq => w1.grownBy wq (some b) ∧ (¬ S 21 → Row 1 vFlt 22 w0.heap.size wq (.slice (some ⟨b, 0, none⟩) l.length c) cur) ∧ (S 21 → Row 1 vFlt 22 w0.heap.size wq (.slice (some ⟨b, 0, none⟩) l.length c) ((cur).set ((p + i)) (cur.getD ((q + i)) 0))))
        (fun V S => [(fun x _ => x = (.slice (some ⟨b, 0, none⟩) l.length c)), (fun x _ => x = (.int .i64 ((p : Nat) : Int))), (fun x _ => x = (.int .i64 ((i : Nat) : Int))), (fun x _ => x = (.int .i64 (((p + i) : Nat) : Int))), (fun x _ => x = (.slice (some ⟨b, 0, none⟩) l.length c)), (fun x _ => x = (.int .i64 ((q : Nat) : Int))), (fun x _ => x = (.int .i64 ((i : Nat) : Int))), (fun x _ => x = (.int .i64 (((q + i) : Nat) : Int))), (fun x _ => x = (.slice (some ⟨b, 0, none⟩) l.length c)), (fun x _ => x = (.int .i64 ((q : Nat) : Int))), (fun x _ => x = (.int .i64 ((i : Nat) : Int))), (fun x _ => x = (.int .i64 (((q + i) : Nat) : Int))), (fun x _ => x = (.pointer (some ⟨b, (0 + ((q + i)) * 1), none⟩))), (fun x _ => x = (.float .f64 (cur.getD ((q + i)) 0))), (fun x _ => x = (.slice (some ⟨b, 0, none⟩) l.length c)), (fun x _ => x = (.int .i64 ((p : Nat) : Int))), (fun x _ => x = (.int .i64 ((i : Nat) : Int))), (fun x _ => x = (.int .i64 (((p + i) : Nat) : Int))), (fun x _ => x = (.pointer (some ⟨b, (0 + ((p + i)) * 1), none⟩))), (fun x _ => x = (.float .f64 (cur.getD ((p + i)) 0))), (fun x _ => x = (.pointer (some ⟨b, (0 + ((p + i)) * 1), none⟩))), (fun _ _ => True)])
        []
        [[], [], [], [1, 2], [], [], [], [5, 6], [], [], [], [9, 10], [8, 11], [12], [], [], [], [15, 16], [14, 17], [18], [0, 1, 2, 3, 8, 9, 10, 11, 12, 13, 19], [0, 1, 2, 3, 8, 9, 10, 11, 12, 13, 19, 20], [], []]
        hf (by kernel_rfl) (by kernel_rfl) (by kernel_rfl) (fun _ _ => rfl) (fun _ hS_ => ⟨below_grown (Below.refl _ _).drew, fun _ => Row.ext hr (Below.refl _ _).drew, fun h => absurd h (hS_ _)⟩) (fun _ _ _ _ _ _ => rfl) ?_ ?_
      · skip
        intro V
        have hKP : ∀ (iX : Nat) (S : Nat → Prop) (wk : World), ∀ jX vX wX, (((fun (S : Nat → Prop) => ([(fun x _ => x = (.slice (some ⟨b, 0, none⟩) l.length c)), (fun x _ => x = (.int .i64 ((p : Nat) : Int))), (fun x _ => x = (.int .i64 ((i : Nat) : Int))), (fun x _ => x = (.int .i64 (((p + i) : Nat) : Int))), (fun x _ => x = (.slice (some ⟨b, 0, none⟩) l.length c)), (fun x _ => x = (.int .i64 ((q : Nat) : Int))), (fun x _ => x = (.int .i64 ((i : Nat) : Int))), (fun x _ => x = (.int .i64 (((q + i) : Nat) : Int))), (fun x _ => x = (.slice (some ⟨b, 0, none⟩) l.length c)), (fun x _ => x = (.int .i64 ((q : Nat) : Int))), (fun x _ => x = (.int .i64 ((i : Nat) : Int))), (fun x _ => x = (.int .i64 (((q + i) : Nat) : Int))), (fun x _ => x = (.pointer (some ⟨b, (0 + ((q + i)) * 1), none⟩))), (fun x _ => x = (.float .f64 (cur.getD ((q + i)) 0))), (fun x _ => x = (.slice (some ⟨b, 0, none⟩) l.length c)), (fun x _ => x = (.int .i64 ((p : Nat) : Int))), (fun x _ => x = (.int .i64 ((i : Nat) : Int))), (fun x _ => x = (.int .i64 (((p + i) : Nat) : Int))), (fun x _ => x = (.pointer (some ⟨b, (0 + ((p + i)) * 1), none⟩))), (fun x _ => x = (.float .f64 (cur.getD ((p + i)) 0))), (fun x _ => x = (.pointer (some ⟨b, (0 + ((p + i)) * 1), none⟩))), (fun _ _ => True)] : List (Value → World → Prop))) S).getD jX (fun _ _ => True)) vX wk → Below wk.heap.size wk wX → (((fun (S : Nat → Prop) => ([(fun x _ => x = (.slice (some ⟨b, 0, none⟩) l.length c)), (fun x _ => x = (.int .i64 ((p : Nat) : Int))), (fun x _ => x = (.int .i64 ((i : Nat) : Int))), (fun x _ => x = (.int .i64 (((p + i) : Nat) : Int))), (fun x _ => x = (.slice (some ⟨b, 0, none⟩) l.length c)), (fun x _ => x = (.int .i64 ((q : Nat) : Int))), (fun x _ => x = (.int .i64 ((i : Nat) : Int))), (fun x _ => x = (.int .i64 (((q + i) : Nat) : Int))), (fun x _ => x = (.slice (some ⟨b, 0, none⟩) l.length c)), (fun x _ => x = (.int .i64 ((q : Nat) : Int))), (fun x _ => x = (.int .i64 ((i : Nat) : Int))), (fun x _ => x = (.int .i64 (((q + i) : Nat) : Int))), (fun x _ => x = (.pointer (some ⟨b, (0 + ((q + i)) * 1), none⟩))), (fun x _ => x = (.float .f64 (cur.getD ((q + i)) 0))), (fun x _ => x = (.slice (some ⟨b, 0, none⟩) l.length c)), (fun x _ => x = (.int .i64 ((p : Nat) : Int))), (fun x _ => x = (.int .i64 ((i : Nat) : Int))), (fun x _ => x = (.int .i64 (((p + i) : Nat) : Int))), (fun x _ => x = (.pointer (some ⟨b, (0 + ((p + i)) * 1), none⟩))), (fun x _ => x = (.float .f64 (cur.getD ((p + i)) 0))), (fun x _ => x = (.pointer (some ⟨b, (0 + ((p + i)) * 1), none⟩))), (fun _ _ => True)] : List (Value → World → Prop))) (ad iX S)).getD jX (fun _ _ => True)) vX wX := by
          intro iX S wk jX vX wX h hB
          match jX with
          | 0 => exact h
          | 1 => exact h
          | 2 => exact h
          | 3 => exact h
          | 4 => exact h
          | 5 => exact h
          | 6 => exact h
          | 7 => exact h
          | 8 => exact h
          | 9 => exact h
          | 10 => exact h
          | 11 => exact h
          | 12 => exact h
          | 13 => exact h
          | 14 => exact h
          | 15 => exact h
          | 16 => exact h
          | 17 => exact h
          | 18 => exact h
          | 19 => exact h
          | 20 => exact h
          | 21 => exact h
          | _ + 22 => trivial
        refine ⟨fun S wu0 hC hS hd hi => ?_, ?_⟩
        · skip
          replace hC := show w1.grownBy wu0 (some b) ∧ (¬ S 21 → Row 1 vFlt 22 w0.heap.size wu0 (.slice (some ⟨b, 0, none⟩) l.length c) cur) ∧ (S 21 → Row 1 vFlt 22 w0.heap.size wu0 (.slice (some ⟨b, 0, none⟩) l.length c) ((cur).set ((p + i)) (cur.getD ((q + i)) 0))) from hC
          refine uv_plain (C := (fun S wq => w1.grownBy wq (some b) ∧ (¬ S 21 → Row 1 vFlt 22 w0.heap.size wq (.slice (some ⟨b, 0, none⟩) l.length c) cur) ∧ (S 21 → Row 1 vFlt 22 w0.heap.size wq (.slice (some ⟨b, 0, none⟩) l.length c) ((cur).set ((p + i)) (cur.getD ((q + i)) 0))))) (hKP 0 S wu0) (fun _ h1 h2 => ⟨grown_trans h1.1 (below_grown h2), fun hn => Row.ext (h1.2.1 (fun hs => hn (.inr hs))) h2, fun hs => Row.ext (h1.2.2 (by rcases hs with e | hs; exact absurd e (by decide); exact hs)) h2⟩) hC hS ?_
          obtain ⟨hCg, hCa, hCb⟩ := hC
          have hsz_ := hCg.size
          exact Runs.does (r_move rfl) ⟨Below.refl _ _, rfl, nofr rfl⟩
        refine ⟨fun S wu1 hC hS hd hi => ?_, ?_⟩
        · skip
          replace hC := show w1.grownBy wu1 (some b) ∧ (¬ S 21 → Row 1 vFlt 22 w0.heap.size wu1 (.slice (some ⟨b, 0, none⟩) l.length c) cur) ∧ (S 21 → Row 1 vFlt 22 w0.heap.size wu1 (.slice (some ⟨b, 0, none⟩) l.length c) ((cur).set ((p + i)) (cur.getD ((q + i)) 0))) from hC
          refine uv_plain (C := (fun S wq => w1.grownBy wq (some b) ∧ (¬ S 21 → Row 1 vFlt 22 w0.heap.size wq (.slice (some ⟨b, 0, none⟩) l.length c) cur) ∧ (S 21 → Row 1 vFlt 22 w0.heap.size wq (.slice (some ⟨b, 0, none⟩) l.length c) ((cur).set ((p + i)) (cur.getD ((q + i)) 0))))) (hKP 1 S wu1) (fun _ h1 h2 => ⟨grown_trans h1.1 (below_grown h2), fun hn => Row.ext (h1.2.1 (fun hs => hn (.inr hs))) h2, fun hs => Row.ext (h1.2.2 (by rcases hs with e | hs; exact absurd e (by decide); exact hs)) h2⟩) hC hS ?_
          obtain ⟨hCg, hCa, hCb⟩ := hC
          have hsz_ := hCg.size
          exact Runs.does (r_move rfl) ⟨Below.refl _ _, rfl, nofr rfl⟩
        refine ⟨fun S wu2 hC hS hd hi => ?_, ?_⟩
        · skip
          replace hC := show w1.grownBy wu2 (some b) ∧ (¬ S 21 → Row 1 vFlt 22 w0.heap.size wu2 (.slice (some ⟨b, 0, none⟩) l.length c) cur) ∧ (S 21 → Row 1 vFlt 22 w0.heap.size wu2 (.slice (some ⟨b, 0, none⟩) l.length c) ((cur).set ((p + i)) (cur.getD ((q + i)) 0))) from hC
          refine uv_plain (C := (fun S wq => w1.grownBy wq (some b) ∧ (¬ S 21 → Row 1 vFlt 22 w0.heap.size wq (.slice (some ⟨b, 0, none⟩) l.length c) cur) ∧ (S 21 → Row 1 vFlt 22 w0.heap.size wq (.slice (some ⟨b, 0, none⟩) l.length c) ((cur).set ((p + i)) (cur.getD ((q + i)) 0))))) (hKP 2 S wu2) (fun _ h1 h2 => ⟨grown_trans h1.1 (below_grown h2), fun hn => Row.ext (h1.2.1 (fun hs => hn (.inr hs))) h2, fun hs => Row.ext (h1.2.2 (by rcases hs with e | hs; exact absurd e (by decide); exact hs)) h2⟩) hC hS ?_
          obtain ⟨hCg, hCa, hCb⟩ := hC
          have hsz_ := hCg.size
          exact Runs.does (r_move rfl) ⟨Below.refl _ _, rfl, nofr rfl⟩
        refine ⟨fun S wu3 hC hS hd hi => ?_, ?_⟩
        · skip
          replace hC := show w1.grownBy wu3 (some b) ∧ (¬ S 21 → Row 1 vFlt 22 w0.heap.size wu3 (.slice (some ⟨b, 0, none⟩) l.length c) cur) ∧ (S 21 → Row 1 vFlt 22 w0.heap.size wu3 (.slice (some ⟨b, 0, none⟩) l.length c) ((cur).set ((p + i)) (cur.getD ((q + i)) 0))) from hC
          refine uv_plain (C := (fun S wq => w1.grownBy wq (some b) ∧ (¬ S 21 → Row 1 vFlt 22 w0.heap.size wq (.slice (some ⟨b, 0, none⟩) l.length c) cur) ∧ (S 21 → Row 1 vFlt 22 w0.heap.size wq (.slice (some ⟨b, 0, none⟩) l.length c) ((cur).set ((p + i)) (cur.getD ((q + i)) 0))))) (hKP 3 S wu3) (fun _ h1 h2 => ⟨grown_trans h1.1 (below_grown h2), fun hn => Row.ext (h1.2.1 (fun hs => hn (.inr hs))) h2, fun hs => Row.ext (h1.2.2 (by rcases hs with e | hs; exact absurd e (by decide); exact hs)) h2⟩) hC hS ?_
          obtain ⟨hCg, hCa, hCb⟩ := hC
          have h1 := hS.post 1 (hd 1 (by decide))
          replace h1 : V 1 = (.int .i64 ((p : Nat) : Int)) := h1
          have h2 := hS.post 2 (hd 2 (by decide))
          replace h2 : V 2 = (.int .i64 ((i : Nat) : Int)) := h2
          have hsz_ := hCg.size
          exact Runs.does (r_add (C := (((p + i) : Nat) : Int)) (congrArg some h1) (congrArg some h2) (by rw [IntKind.wrap_i64]; omega)) ⟨Below.refl _ _, rfl, nofr rfl⟩
        refine ⟨fun S wu4 hC hS hd hi => ?_, ?_⟩
        · skip
          replace hC := show w1.grownBy wu4 (some b) ∧ (¬ S 21 → Row 1 vFlt 22 w0.heap.size wu4 (.slice (some ⟨b, 0, none⟩) l.length c) cur) ∧ (S 21 → Row 1 vFlt 22 w0.heap.size wu4 (.slice (some ⟨b, 0, none⟩) l.length c) ((cur).set ((p + i)) (cur.getD ((q + i)) 0))) from hC
          refine uv_plain (C := (fun S wq => w1.grownBy wq (some b) ∧ (¬ S 21 → Row 1 vFlt 22 w0.heap.size wq (.slice (some ⟨b, 0, none⟩) l.length c) cur) ∧ (S 21 → Row 1 vFlt 22 w0.heap.size wq (.slice (some ⟨b, 0, none⟩) l.length c) ((cur).set ((p + i)) (cur.getD ((q + i)) 0))))) (hKP 4 S wu4) (fun _ h1 h2 => ⟨grown_trans h1.1 (below_grown h2), fun hn => Row.ext (h1.2.1 (fun hs => hn (.inr hs))) h2, fun hs => Row.ext (h1.2.2 (by rcases hs with e | hs; exact absurd e (by decide); exact hs)) h2⟩) hC hS ?_
          obtain ⟨hCg, hCa, hCb⟩ := hC
          have hsz_ := hCg.size
          exact Runs.does (r_move rfl) ⟨Below.refl _ _, rfl, nofr rfl⟩
        refine ⟨fun S wu5 hC hS hd hi => ?_, ?_⟩
        · skip
          replace hC := show w1.grownBy wu5 (some b) ∧ (¬ S 21 → Row 1 vFlt 22 w0.heap.size wu5 (.slice (some ⟨b, 0, none⟩) l.length c) cur) ∧ (S 21 → Row 1 vFlt 22 w0.heap.size wu5 (.slice (some ⟨b, 0, none⟩) l.length c) ((cur).set ((p + i)) (cur.getD ((q + i)) 0))) from hC
          refine uv_plain (C := (fun S wq => w1.grownBy wq (some b) ∧ (¬ S 21 → Row 1 vFlt 22 w0.heap.size wq (.slice (some ⟨b, 0, none⟩) l.length c) cur) ∧ (S 21 → Row 1 vFlt 22 w0.heap.size wq (.slice (some ⟨b, 0, none⟩) l.length c) ((cur).set ((p + i)) (cur.getD ((q + i)) 0))))) (hKP 5 S wu5) (fun _ h1 h2 => ⟨grown_trans h1.1 (below_grown h2), fun hn => Row.ext (h1.2.1 (fun hs => hn (.inr hs))) h2, fun hs => Row.ext (h1.2.2 (by rcases hs with e | hs; exact absurd e (by decide); exact hs)) h2⟩) hC hS ?_
          obtain ⟨hCg, hCa, hCb⟩ := hC
          have hsz_ := hCg.size
          exact Runs.does (r_move rfl) ⟨Below.refl _ _, rfl, nofr rfl⟩
        refine ⟨fun S wu6 hC hS hd hi => ?_, ?_⟩
        · skip
          replace hC := show w1.grownBy wu6 (some b) ∧ (¬ S 21 → Row 1 vFlt 22 w0.heap.size wu6 (.slice (some ⟨b, 0, none⟩) l.length c) cur) ∧ (S 21 → Row 1 vFlt 22 w0.heap.size wu6 (.slice (some ⟨b, 0, none⟩) l.length c) ((cur).set ((p + i)) (cur.getD ((q + i)) 0))) from hC
          refine uv_plain (C := (fun S wq => w1.grownBy wq (some b) ∧ (¬ S 21 → Row 1 vFlt 22 w0.heap.size wq (.slice (some ⟨b, 0, none⟩) l.length c) cur) ∧ (S 21 → Row 1 vFlt 22 w0.heap.size wq (.slice (some ⟨b, 0, none⟩) l.length c) ((cur).set ((p + i)) (cur.getD ((q + i)) 0))))) (hKP 6 S wu6) (fun _ h1 h2 => ⟨grown_trans h1.1 (below_grown h2), fun hn => Row.ext (h1.2.1 (fun hs => hn (.inr hs))) h2, fun hs => Row.ext (h1.2.2 (by rcases hs with e | hs; exact absurd e (by decide); exact hs)) h2⟩) hC hS ?_
          obtain ⟨hCg, hCa, hCb⟩ := hC
          have hsz_ := hCg.size
          exact Runs.does (r_move rfl) ⟨Below.refl _ _, rfl, nofr rfl⟩
        refine ⟨fun S wu7 hC hS hd hi => ?_, ?_⟩
        · skip
          replace hC := show w1.grownBy wu7 (some b) ∧ (¬ S 21 → Row 1 vFlt 22 w0.heap.size wu7 (.slice (some ⟨b, 0, none⟩) l.length c) cur) ∧ (S 21 → Row 1 vFlt 22 w0.heap.size wu7 (.slice (some ⟨b, 0, none⟩) l.length c) ((cur).set ((p + i)) (cur.getD ((q + i)) 0))) from hC
          refine uv_plain (C := (fun S wq => w1.grownBy wq (some b) ∧ (¬ S 21 → Row 1 vFlt 22 w0.heap.size wq (.slice (some ⟨b, 0, none⟩) l.length c) cur) ∧ (S 21 → Row 1 vFlt 22 w0.heap.size wq (.slice (some ⟨b, 0, none⟩) l.length c) ((cur).set ((p + i)) (cur.getD ((q + i)) 0))))) (hKP 7 S wu7) (fun _ h1 h2 => ⟨grown_trans h1.1 (below_grown h2), fun hn => Row.ext (h1.2.1 (fun hs => hn (.inr hs))) h2, fun hs => Row.ext (h1.2.2 (by rcases hs with e | hs; exact absurd e (by decide); exact hs)) h2⟩) hC hS ?_
          obtain ⟨hCg, hCa, hCb⟩ := hC
          have h5 := hS.post 5 (hd 5 (by decide))
          replace h5 : V 5 = (.int .i64 ((q : Nat) : Int)) := h5
          have h6 := hS.post 6 (hd 6 (by decide))
          replace h6 : V 6 = (.int .i64 ((i : Nat) : Int)) := h6
          have hsz_ := hCg.size
          exact Runs.does (r_add (C := (((q + i) : Nat) : Int)) (congrArg some h5) (congrArg some h6) (by rw [IntKind.wrap_i64]; omega)) ⟨Below.refl _ _, rfl, nofr rfl⟩
        refine ⟨fun S wu8 hC hS hd hi => ?_, ?_⟩
        · skip
          replace hC := show w1.grownBy wu8 (some b) ∧ (¬ S 21 → Row 1 vFlt 22 w0.heap.size wu8 (.slice (some ⟨b, 0, none⟩) l.length c) cur) ∧ (S 21 → Row 1 vFlt 22 w0.heap.size wu8 (.slice (some ⟨b, 0, none⟩) l.length c) ((cur).set ((p + i)) (cur.getD ((q + i)) 0))) from hC
          refine uv_plain (C := (fun S wq => w1.grownBy wq (some b) ∧ (¬ S 21 → Row 1 vFlt 22 w0.heap.size wq (.slice (some ⟨b, 0, none⟩) l.length c) cur) ∧ (S 21 → Row 1 vFlt 22 w0.heap.size wq (.slice (some ⟨b, 0, none⟩) l.length c) ((cur).set ((p + i)) (cur.getD ((q + i)) 0))))) (hKP 8 S wu8) (fun _ h1 h2 => ⟨grown_trans h1.1 (below_grown h2), fun hn => Row.ext (h1.2.1 (fun hs => hn (.inr hs))) h2, fun hs => Row.ext (h1.2.2 (by rcases hs with e | hs; exact absurd e (by decide); exact hs)) h2⟩) hC hS ?_
          obtain ⟨hCg, hCa, hCb⟩ := hC
          have hsz_ := hCg.size
          exact Runs.does (r_move rfl) ⟨Below.refl _ _, rfl, nofr rfl⟩
        refine ⟨fun S wu9 hC hS hd hi => ?_, ?_⟩
        · skip
          replace hC := show w1.grownBy wu9 (some b) ∧ (¬ S 21 → Row 1 vFlt 22 w0.heap.size wu9 (.slice (some ⟨b, 0, none⟩) l.length c) cur) ∧ (S 21 → Row 1 vFlt 22 w0.heap.size wu9 (.slice (some ⟨b, 0, none⟩) l.length c) ((cur).set ((p + i)) (cur.getD ((q + i)) 0))) from hC
          refine uv_plain (C := (fun S wq => w1.grownBy wq (some b) ∧ (¬ S 21 → Row 1 vFlt 22 w0.heap.size wq (.slice (some ⟨b, 0, none⟩) l.length c) cur) ∧ (S 21 → Row 1 vFlt 22 w0.heap.size wq (.slice (some ⟨b, 0, none⟩) l.length c) ((cur).set ((p + i)) (cur.getD ((q + i)) 0))))) (hKP 9 S wu9) (fun _ h1 h2 => ⟨grown_trans h1.1 (below_grown h2), fun hn => Row.ext (h1.2.1 (fun hs => hn (.inr hs))) h2, fun hs => Row.ext (h1.2.2 (by rcases hs with e | hs; exact absurd e (by decide); exact hs)) h2⟩) hC hS ?_
          obtain ⟨hCg, hCa, hCb⟩ := hC
          have hsz_ := hCg.size
          exact Runs.does (r_move rfl) ⟨Below.refl _ _, rfl, nofr rfl⟩
        refine ⟨fun S wu10 hC hS hd hi => ?_, ?_⟩
        · skip
          replace hC := show w1.grownBy wu10 (some b) ∧ (¬ S 21 → Row 1 vFlt 22 w0.heap.size wu10 (.slice (some ⟨b, 0, none⟩) l.length c) cur) ∧ (S 21 → Row 1 vFlt 22 w0.heap.size wu10 (.slice (some ⟨b, 0, none⟩) l.length c) ((cur).set ((p + i)) (cur.getD ((q + i)) 0))) from hC
          refine uv_plain (C := (fun S wq => w1.grownBy wq (some b) ∧ (¬ S 21 → Row 1 vFlt 22 w0.heap.size wq (.slice (some ⟨b, 0, none⟩) l.length c) cur) ∧ (S 21 → Row 1 vFlt 22 w0.heap.size wq (.slice (some ⟨b, 0, none⟩) l.length c) ((cur).set ((p + i)) (cur.getD ((q + i)) 0))))) (hKP 10 S wu10) (fun _ h1 h2 => ⟨grown_trans h1.1 (below_grown h2), fun hn => Row.ext (h1.2.1 (fun hs => hn (.inr hs))) h2, fun hs => Row.ext (h1.2.2 (by rcases hs with e | hs; exact absurd e (by decide); exact hs)) h2⟩) hC hS ?_
          obtain ⟨hCg, hCa, hCb⟩ := hC
          have hsz_ := hCg.size
          exact Runs.does (r_move rfl) ⟨Below.refl _ _, rfl, nofr rfl⟩
        refine ⟨fun S wu11 hC hS hd hi => ?_, ?_⟩
        · skip
          replace hC := show w1.grownBy wu11 (some b) ∧ (¬ S 21 → Row 1 vFlt 22 w0.heap.size wu11 (.slice (some ⟨b, 0, none⟩) l.length c) cur) ∧ (S 21 → Row 1 vFlt 22 w0.heap.size wu11 (.slice (some ⟨b, 0, none⟩) l.length c) ((cur).set ((p + i)) (cur.getD ((q + i)) 0))) from hC
          refine uv_plain (C := (fun S wq => w1.grownBy wq (some b) ∧ (¬ S 21 → Row 1 vFlt 22 w0.heap.size wq (.slice (some ⟨b, 0, none⟩) l.length c) cur) ∧ (S 21 → Row 1 vFlt 22 w0.heap.size wq (.slice (some ⟨b, 0, none⟩) l.length c) ((cur).set ((p + i)) (cur.getD ((q + i)) 0))))) (hKP 11 S wu11) (fun _ h1 h2 => ⟨grown_trans h1.1 (below_grown h2), fun hn => Row.ext (h1.2.1 (fun hs => hn (.inr hs))) h2, fun hs => Row.ext (h1.2.2 (by rcases hs with e | hs; exact absurd e (by decide); exact hs)) h2⟩) hC hS ?_
          obtain ⟨hCg, hCa, hCb⟩ := hC
          have h9 := hS.post 9 (hd 9 (by decide))
          replace h9 : V 9 = (.int .i64 ((q : Nat) : Int)) := h9
          have h10 := hS.post 10 (hd 10 (by decide))
          replace h10 : V 10 = (.int .i64 ((i : Nat) : Int)) := h10
          have hsz_ := hCg.size
          exact Runs.does (r_add (C := (((q + i) : Nat) : Int)) (congrArg some h9) (congrArg some h10) (by rw [IntKind.wrap_i64]; omega)) ⟨Below.refl _ _, rfl, nofr rfl⟩
        refine ⟨fun S wu12 hC hS hd hi => ?_, ?_⟩
        · skip
          replace hC := show w1.grownBy wu12 (some b) ∧ (¬ S 21 → Row 1 vFlt 22 w0.heap.size wu12 (.slice (some ⟨b, 0, none⟩) l.length c) cur) ∧ (S 21 → Row 1 vFlt 22 w0.heap.size wu12 (.slice (some ⟨b, 0, none⟩) l.length c) ((cur).set ((p + i)) (cur.getD ((q + i)) 0))) from hC
          refine uv_plain (C := (fun S wq => w1.grownBy wq (some b) ∧ (¬ S 21 → Row 1 vFlt 22 w0.heap.size wq (.slice (some ⟨b, 0, none⟩) l.length c) cur) ∧ (S 21 → Row 1 vFlt 22 w0.heap.size wq (.slice (some ⟨b, 0, none⟩) l.length c) ((cur).set ((p + i)) (cur.getD ((q + i)) 0))))) (hKP 12 S wu12) (fun _ h1 h2 => ⟨grown_trans h1.1 (below_grown h2), fun hn => Row.ext (h1.2.1 (fun hs => hn (.inr hs))) h2, fun hs => Row.ext (h1.2.2 (by rcases hs with e | hs; exact absurd e (by decide); exact hs)) h2⟩) hC hS ?_
          obtain ⟨hCg, hCa, hCb⟩ := hC
          have h8 := hS.post 8 (hd 8 (by decide))
          replace h8 : V 8 = (.slice (some ⟨b, 0, none⟩) l.length c) := h8
          have h11 := hS.post 11 (hd 11 (by decide))
          replace h11 : V 11 = (.int .i64 (((q + i) : Nat) : Int)) := h11
          have hsz_ := hCg.size
          exact Runs.does (r_ixa (sz := 1) (j := ((q + i))) (congrArg some h8) (congrArg some h11) Try.underlying30 (by kernel_rfl) rfl (by omega) rfl) ⟨Below.refl _ _, rfl, nofr rfl⟩
        refine ⟨fun S wu13 hC hS hd hi => ?_, ?_⟩
        · skip
          replace hC := show w1.grownBy wu13 (some b) ∧ (¬ S 21 → Row 1 vFlt 22 w0.heap.size wu13 (.slice (some ⟨b, 0, none⟩) l.length c) cur) ∧ (S 21 → Row 1 vFlt 22 w0.heap.size wu13 (.slice (some ⟨b, 0, none⟩) l.length c) ((cur).set ((p + i)) (cur.getD ((q + i)) 0))) from hC
          refine uv_plain (C := (fun S wq => w1.grownBy wq (some b) ∧ (¬ S 21 → Row 1 vFlt 22 w0.heap.size wq (.slice (some ⟨b, 0, none⟩) l.length c) cur) ∧ (S 21 → Row 1 vFlt 22 w0.heap.size wq (.slice (some ⟨b, 0, none⟩) l.length c) ((cur).set ((p + i)) (cur.getD ((q + i)) 0))))) (hKP 13 S wu13) (fun _ h1 h2 => ⟨grown_trans h1.1 (below_grown h2), fun hn => Row.ext (h1.2.1 (fun hs => hn (.inr hs))) h2, fun hs => Row.ext (h1.2.2 (by rcases hs with e | hs; exact absurd e (by decide); exact hs)) h2⟩) hC hS ?_
          obtain ⟨hCg, hCa, hCb⟩ := hC
          have h12 := hS.post 12 (hd 12 (by decide))
          replace h12 : V 12 = (.pointer (some ⟨b, (0 + ((q + i)) * 1), none⟩)) := h12
          have hCr := hCa (fun h => hi (hS.down 21 h 13 (by decide)))
          have hsz_ := hCg.size
          obtain ⟨_, _, hab2, hlr2, hel2⟩ := RdS.at (Row.rd (by intros; rfl) hCr) hy1
          cases hab2
          exact Runs.does (r_load (v := (.float .f64 (cur.getD ((q + i)) 0))) (congrArg some h12) Try.underlying22 rfl (cellsAt_cell hel2 (i := 0) rfl rfl)) ⟨Below.refl _ _, rfl, nofr rfl⟩
        refine ⟨fun S wu14 hC hS hd hi => ?_, ?_⟩
        · skip
          replace hC := show w1.grownBy wu14 (some b) ∧ (¬ S 21 → Row 1 vFlt 22 w0.heap.size wu14 (.slice (some ⟨b, 0, none⟩) l.length c) cur) ∧ (S 21 → Row 1 vFlt 22 w0.heap.size wu14 (.slice (some ⟨b, 0, none⟩) l.length c) ((cur).set ((p + i)) (cur.getD ((q + i)) 0))) from hC
          refine uv_plain (C := (fun S wq => w1.grownBy wq (some b) ∧ (¬ S 21 → Row 1 vFlt 22 w0.heap.size wq (.slice (some ⟨b, 0, none⟩) l.length c) cur) ∧ (S 21 → Row 1 vFlt 22 w0.heap.size wq (.slice (some ⟨b, 0, none⟩) l.length c) ((cur).set ((p + i)) (cur.getD ((q + i)) 0))))) (hKP 14 S wu14) (fun _ h1 h2 => ⟨grown_trans h1.1 (below_grown h2), fun hn => Row.ext (h1.2.1 (fun hs => hn (.inr hs))) h2, fun hs => Row.ext (h1.2.2 (by rcases hs with e | hs; exact absurd e (by decide); exact hs)) h2⟩) hC hS ?_
          obtain ⟨hCg, hCa, hCb⟩ := hC
          have hsz_ := hCg.size
          exact Runs.does (r_move rfl) ⟨Below.refl _ _, rfl, nofr rfl⟩
        refine ⟨fun S wu15 hC hS hd hi => ?_, ?_⟩
        · skip
          replace hC := show w1.grownBy wu15 (some b) ∧ (¬ S 21 → Row 1 vFlt 22 w0.heap.size wu15 (.slice (some ⟨b, 0, none⟩) l.length c) cur) ∧ (S 21 → Row 1 vFlt 22 w0.heap.size wu15 (.slice (some ⟨b, 0, none⟩) l.length c) ((cur).set ((p + i)) (cur.getD ((q + i)) 0))) from hC
          refine uv_plain (C := (fun S wq => w1.grownBy wq (some b) ∧ (¬ S 21 → Row 1 vFlt 22 w0.heap.size wq (.slice (some ⟨b, 0, none⟩) l.length c) cur) ∧ (S 21 → Row 1 vFlt 22 w0.heap.size wq (.slice (some ⟨b, 0, none⟩) l.length c) ((cur).set ((p + i)) (cur.getD ((q + i)) 0))))) (hKP 15 S wu15) (fun _ h1 h2 => ⟨grown_trans h1.1 (below_grown h2), fun hn => Row.ext (h1.2.1 (fun hs => hn (.inr hs))) h2, fun hs => Row.ext (h1.2.2 (by rcases hs with e | hs; exact absurd e (by decide); exact hs)) h2⟩) hC hS ?_
          obtain ⟨hCg, hCa, hCb⟩ := hC
          have hsz_ := hCg.size
          exact Runs.does (r_move rfl) ⟨Below.refl _ _, rfl, nofr rfl⟩
        refine ⟨fun S wu16 hC hS hd hi => ?_, ?_⟩
        · skip
          replace hC := show w1.grownBy wu16 (some b) ∧ (¬ S 21 → Row 1 vFlt 22 w0.heap.size wu16 (.slice (some ⟨b, 0, none⟩) l.length c) cur) ∧ (S 21 → Row 1 vFlt 22 w0.heap.size wu16 (.slice (some ⟨b, 0, none⟩) l.length c) ((cur).set ((p + i)) (cur.getD ((q + i)) 0))) from hC
          refine uv_plain (C := (fun S wq => w1.grownBy wq (some b) ∧ (¬ S 21 → Row 1 vFlt 22 w0.heap.size wq (.slice (some ⟨b, 0, none⟩) l.length c) cur) ∧ (S 21 → Row 1 vFlt 22 w0.heap.size wq (.slice (some ⟨b, 0, none⟩) l.length c) ((cur).set ((p + i)) (cur.getD ((q + i)) 0))))) (hKP 16 S wu16) (fun _ h1 h2 => ⟨grown_trans h1.1 (below_grown h2), fun hn => Row.ext (h1.2.1 (fun hs => hn (.inr hs))) h2, fun hs => Row.ext (h1.2.2 (by rcases hs with e | hs; exact absurd e (by decide); exact hs)) h2⟩) hC hS ?_
          obtain ⟨hCg, hCa, hCb⟩ := hC
          have hsz_ := hCg.size
          exact Runs.does (r_move rfl) ⟨Below.refl _ _, rfl, nofr rfl⟩
        refine ⟨fun S wu17 hC hS hd hi => ?_, ?_⟩
        · skip
          replace hC := show w1.grownBy wu17 (some b) ∧ (¬ S 21 → Row 1 vFlt 22 w0.heap.size wu17 (.slice (some ⟨b, 0, none⟩) l.length c) cur) ∧ (S 21 → Row 1 vFlt 22 w0.heap.size wu17 (.slice (some ⟨b, 0, none⟩) l.length c) ((cur).set ((p + i)) (cur.getD ((q + i)) 0))) from hC
          refine uv_plain (C := (fun S wq => w1.grownBy wq (some b) ∧ (¬ S 21 → Row 1 vFlt 22 w0.heap.size wq (.slice (some ⟨b, 0, none⟩) l.length c) cur) ∧ (S 21 → Row 1 vFlt 22 w0.heap.size wq (.slice (some ⟨b, 0, none⟩) l.length c) ((cur).set ((p + i)) (cur.getD ((q + i)) 0))))) (hKP 17 S wu17) (fun _ h1 h2 => ⟨grown_trans h1.1 (below_grown h2), fun hn => Row.ext (h1.2.1 (fun hs => hn (.inr hs))) h2, fun hs => Row.ext (h1.2.2 (by rcases hs with e | hs; exact absurd e (by decide); exact hs)) h2⟩) hC hS ?_
          obtain ⟨hCg, hCa, hCb⟩ := hC
          have h15 := hS.post 15 (hd 15 (by decide))
          replace h15 : V 15 = (.int .i64 ((p : Nat) : Int)) := h15
          have h16 := hS.post 16 (hd 16 (by decide))
          replace h16 : V 16 = (.int .i64 ((i : Nat) : Int)) := h16
          have hsz_ := hCg.size
          exact Runs.does (r_add (C := (((p + i) : Nat) : Int)) (congrArg some h15) (congrArg some h16) (by rw [IntKind.wrap_i64]; omega)) ⟨Below.refl _ _, rfl, nofr rfl⟩
        refine ⟨fun S wu18 hC hS hd hi => ?_, ?_⟩
        · skip
          replace hC := show w1.grownBy wu18 (some b) ∧ (¬ S 21 → Row 1 vFlt 22 w0.heap.size wu18 (.slice (some ⟨b, 0, none⟩) l.length c) cur) ∧ (S 21 → Row 1 vFlt 22 w0.heap.size wu18 (.slice (some ⟨b, 0, none⟩) l.length c) ((cur).set ((p + i)) (cur.getD ((q + i)) 0))) from hC
          refine uv_plain (C := (fun S wq => w1.grownBy wq (some b) ∧ (¬ S 21 → Row 1 vFlt 22 w0.heap.size wq (.slice (some ⟨b, 0, none⟩) l.length c) cur) ∧ (S 21 → Row 1 vFlt 22 w0.heap.size wq (.slice (some ⟨b, 0, none⟩) l.length c) ((cur).set ((p + i)) (cur.getD ((q + i)) 0))))) (hKP 18 S wu18) (fun _ h1 h2 => ⟨grown_trans h1.1 (below_grown h2), fun hn => Row.ext (h1.2.1 (fun hs => hn (.inr hs))) h2, fun hs => Row.ext (h1.2.2 (by rcases hs with e | hs; exact absurd e (by decide); exact hs)) h2⟩) hC hS ?_
          obtain ⟨hCg, hCa, hCb⟩ := hC
          have h14 := hS.post 14 (hd 14 (by decide))
          replace h14 : V 14 = (.slice (some ⟨b, 0, none⟩) l.length c) := h14
          have h17 := hS.post 17 (hd 17 (by decide))
          replace h17 : V 17 = (.int .i64 (((p + i) : Nat) : Int)) := h17
          have hsz_ := hCg.size
          exact Runs.does (r_ixa (sz := 1) (j := ((p + i))) (congrArg some h14) (congrArg some h17) Try.underlying30 (by kernel_rfl) rfl (by omega) rfl) ⟨Below.refl _ _, rfl, nofr rfl⟩
        refine ⟨fun S wu19 hC hS hd hi => ?_, ?_⟩
        · skip
          replace hC := show w1.grownBy wu19 (some b) ∧ (¬ S 21 → Row 1 vFlt 22 w0.heap.size wu19 (.slice (some ⟨b, 0, none⟩) l.length c) cur) ∧ (S 21 → Row 1 vFlt 22 w0.heap.size wu19 (.slice (some ⟨b, 0, none⟩) l.length c) ((cur).set ((p + i)) (cur.getD ((q + i)) 0))) from hC
          refine uv_plain (C := (fun S wq => w1.grownBy wq (some b) ∧ (¬ S 21 → Row 1 vFlt 22 w0.heap.size wq (.slice (some ⟨b, 0, none⟩) l.length c) cur) ∧ (S 21 → Row 1 vFlt 22 w0.heap.size wq (.slice (some ⟨b, 0, none⟩) l.length c) ((cur).set ((p + i)) (cur.getD ((q + i)) 0))))) (hKP 19 S wu19) (fun _ h1 h2 => ⟨grown_trans h1.1 (below_grown h2), fun hn => Row.ext (h1.2.1 (fun hs => hn (.inr hs))) h2, fun hs => Row.ext (h1.2.2 (by rcases hs with e | hs; exact absurd e (by decide); exact hs)) h2⟩) hC hS ?_
          obtain ⟨hCg, hCa, hCb⟩ := hC
          have h18 := hS.post 18 (hd 18 (by decide))
          replace h18 : V 18 = (.pointer (some ⟨b, (0 + ((p + i)) * 1), none⟩)) := h18
          have hCr := hCa (fun h => hi (hS.down 21 h 19 (by decide)))
          have hsz_ := hCg.size
          obtain ⟨_, _, hab2, hlr2, hel2⟩ := RdS.at (Row.rd (by intros; rfl) hCr) hy2
          cases hab2
          exact Runs.does (r_load (v := (.float .f64 (cur.getD ((p + i)) 0))) (congrArg some h18) Try.underlying22 rfl (cellsAt_cell hel2 (i := 0) rfl rfl)) ⟨Below.refl _ _, rfl, nofr rfl⟩
        refine ⟨fun S wu20 hC hS hd hi => ?_, ?_⟩
        · skip
          replace hC := show w1.grownBy wu20 (some b) ∧ (¬ S 21 → Row 1 vFlt 22 w0.heap.size wu20 (.slice (some ⟨b, 0, none⟩) l.length c) cur) ∧ (S 21 → Row 1 vFlt 22 w0.heap.size wu20 (.slice (some ⟨b, 0, none⟩) l.length c) ((cur).set ((p + i)) (cur.getD ((q + i)) 0))) from hC
          refine uv_plain (C := (fun S wq => w1.grownBy wq (some b) ∧ (¬ S 21 → Row 1 vFlt 22 w0.heap.size wq (.slice (some ⟨b, 0, none⟩) l.length c) cur) ∧ (S 21 → Row 1 vFlt 22 w0.heap.size wq (.slice (some ⟨b, 0, none⟩) l.length c) ((cur).set ((p + i)) (cur.getD ((q + i)) 0))))) (hKP 20 S wu20) (fun _ h1 h2 => ⟨grown_trans h1.1 (below_grown h2), fun hn => Row.ext (h1.2.1 (fun hs => hn (.inr hs))) h2, fun hs => Row.ext (h1.2.2 (by rcases hs with e | hs; exact absurd e (by decide); exact hs)) h2⟩) hC hS ?_
          obtain ⟨hCg, hCa, hCb⟩ := hC
          have h0 := hS.post 0 (hd 0 (by decide))
          replace h0 : V 0 = (.slice (some ⟨b, 0, none⟩) l.length c) := h0
          have h1 := hS.post 1 (hd 1 (by decide))
          replace h1 : V 1 = (.int .i64 ((p : Nat) : Int)) := h1
          have h2 := hS.post 2 (hd 2 (by decide))
          replace h2 : V 2 = (.int .i64 ((i : Nat) : Int)) := h2
          have h3 := hS.post 3 (hd 3 (by decide))
          replace h3 : V 3 = (.int .i64 (((p + i) : Nat) : Int)) := h3
          have h8 := hS.post 8 (hd 8 (by decide))
          replace h8 : V 8 = (.slice (some ⟨b, 0, none⟩) l.length c) := h8
          have h9 := hS.post 9 (hd 9 (by decide))
          replace h9 : V 9 = (.int .i64 ((q : Nat) : Int)) := h9
          have h10 := hS.post 10 (hd 10 (by decide))
          replace h10 : V 10 = (.int .i64 ((i : Nat) : Int)) := h10
          have h11 := hS.post 11 (hd 11 (by decide))
          replace h11 : V 11 = (.int .i64 (((q + i) : Nat) : Int)) := h11
          have h12 := hS.post 12 (hd 12 (by decide))
          replace h12 : V 12 = (.pointer (some ⟨b, (0 + ((q + i)) * 1), none⟩)) := h12
          have h13 := hS.post 13 (hd 13 (by decide))
          replace h13 : V 13 = (.float .f64 (cur.getD ((q + i)) 0)) := h13
          have h19 := hS.post 19 (hd 19 (by decide))
          replace h19 : V 19 = (.float .f64 (cur.getD ((p + i)) 0)) := h19
          have hsz_ := hCg.size
          exact Runs.does (r_ixa (sz := 1) (j := ((p + i))) (congrArg some h0) (congrArg some h3) Try.underlying30 (by kernel_rfl) rfl (by omega) rfl) ⟨Below.refl _ _, rfl, nofr rfl⟩
        refine ⟨fun S wu21 hC hS hd hi => ?_, ?_⟩
        · skip
          replace hC := show w1.grownBy wu21 (some b) ∧ (¬ S 21 → Row 1 vFlt 22 w0.heap.size wu21 (.slice (some ⟨b, 0, none⟩) l.length c) cur) ∧ (S 21 → Row 1 vFlt 22 w0.heap.size wu21 (.slice (some ⟨b, 0, none⟩) l.length c) ((cur).set ((p + i)) (cur.getD ((q + i)) 0))) from hC
          obtain ⟨hCg, hCa, hCb⟩ := hC
          have h0 := hS.post 0 (hd 0 (by decide))
          replace h0 : V 0 = (.slice (some ⟨b, 0, none⟩) l.length c) := h0
          have h1 := hS.post 1 (hd 1 (by decide))
          replace h1 : V 1 = (.int .i64 ((p : Nat) : Int)) := h1
          have h2 := hS.post 2 (hd 2 (by decide))
          replace h2 : V 2 = (.int .i64 ((i : Nat) : Int)) := h2
          have h3 := hS.post 3 (hd 3 (by decide))
          replace h3 : V 3 = (.int .i64 (((p + i) : Nat) : Int)) := h3
          have h8 := hS.post 8 (hd 8 (by decide))
          replace h8 : V 8 = (.slice (some ⟨b, 0, none⟩) l.length c) := h8
          have h9 := hS.post 9 (hd 9 (by decide))
          replace h9 : V 9 = (.int .i64 ((q : Nat) : Int)) := h9
          have h10 := hS.post 10 (hd 10 (by decide))
          replace h10 : V 10 = (.int .i64 ((i : Nat) : Int)) := h10
          have h11 := hS.post 11 (hd 11 (by decide))
          replace h11 : V 11 = (.int .i64 (((q + i) : Nat) : Int)) := h11
          have h12 := hS.post 12 (hd 12 (by decide))
          replace h12 : V 12 = (.pointer (some ⟨b, (0 + ((q + i)) * 1), none⟩)) := h12
          have h13 := hS.post 13 (hd 13 (by decide))
          replace h13 : V 13 = (.float .f64 (cur.getD ((q + i)) 0)) := h13
          have h19 := hS.post 19 (hd 19 (by decide))
          replace h19 : V 19 = (.float .f64 (cur.getD ((p + i)) 0)) := h19
          have h20 := hS.post 20 (hd 20 (by decide))
          replace h20 : V 20 = (.pointer (some ⟨b, (0 + ((p + i)) * 1), none⟩)) := h20
          refine Does.mono (d_rowset (u := (cur.getD ((q + i)) 0)) (j := ((p + i))) (by intros; rfl) (by exact oneFlt) (congrArg some h20) (congrArg some h13) (by first | rfl | (simp; done) | (simp; omega)) (by kernel_rfl) (hCa hi) (by first | omega | (simp only [Sl.list_length, List.length_set, List.length_take, List.length_append, List.length_replicate, List.length_cons, List.length_nil, List.length_map, nums_len]; omega)) (by omega)) ?_
          rintro _ wz ⟨hY, hgY⟩
          refine ⟨⟨⟨grown_trans hCg hgY, fun hn => absurd (.inl rfl) hn, fun _ => hY⟩, fun jX hj => ?_, hgY.size⟩, trivial, nofr rfl⟩
          match jX with
          | 0 => exact hS.post 0 hj
          | 1 => exact hS.post 1 hj
          | 2 => exact hS.post 2 hj
          | 3 => exact hS.post 3 hj
          | 4 => exact hS.post 4 hj
          | 5 => exact hS.post 5 hj
          | 6 => exact hS.post 6 hj
          | 7 => exact hS.post 7 hj
          | 8 => exact hS.post 8 hj
          | 9 => exact hS.post 9 hj
          | 10 => exact hS.post 10 hj
          | 11 => exact hS.post 11 hj
          | 12 => exact hS.post 12 hj
          | 13 => exact hS.post 13 hj
          | 14 => exact hS.post 14 hj
          | 15 => exact hS.post 15 hj
          | 16 => exact hS.post 16 hj
          | 17 => exact hS.post 17 hj
          | 18 => exact hS.post 18 hj
          | 19 => exact hS.post 19 hj
          | 20 => exact hS.post 20 hj
          | 21 => trivial
          | _ + 22 => trivial
        trivial
      · skip
        clear hf fa; intro V S w2 fa hall he1 hp hnb hf
        have hg1 := he1.1
        have hv0 : V 0 = (.slice (some ⟨b, 0, none⟩) l.length c) := postsHold_at hp 0 rfl
        have hv1 : V 1 = (.int .i64 ((p : Nat) : Int)) := postsHold_at hp 1 rfl
        have hv2 : V 2 = (.int .i64 ((i : Nat) : Int)) := postsHold_at hp 2 rfl
        have hv3 : V 3 = (.int .i64 (((p + i) : Nat) : Int)) := postsHold_at hp 3 rfl
        have hv4 : V 4 = (.slice (some ⟨b, 0, none⟩) l.length c) := postsHold_at hp 4 rfl
        have hv5 : V 5 = (.int .i64 ((q : Nat) : Int)) := postsHold_at hp 5 rfl
        have hv6 : V 6 = (.int .i64 ((i : Nat) : Int)) := postsHold_at hp 6 rfl
        have hv7 : V 7 = (.int .i64 (((q + i) : Nat) : Int)) := postsHold_at hp 7 rfl
        have hv8 : V 8 = (.slice (some ⟨b, 0, none⟩) l.length c) := postsHold_at hp 8 rfl
        have hv9 : V 9 = (.int .i64 ((q : Nat) : Int)) := postsHold_at hp 9 rfl
        have hv10 : V 10 = (.int .i64 ((i : Nat) : Int)) := postsHold_at hp 10 rfl
        have hv11 : V 11 = (.int .i64 (((q + i) : Nat) : Int)) := postsHold_at hp 11 rfl
        have hv12 : V 12 = (.pointer (some ⟨b, (0 + ((q + i)) * 1), none⟩)) := postsHold_at hp 12 rfl
        have hv13 : V 13 = (.float .f64 (cur.getD ((q + i)) 0)) := postsHold_at hp 13 rfl
        have hv14 : V 14 = (.slice (some ⟨b, 0, none⟩) l.length c) := postsHold_at hp 14 rfl
        have hv15 : V 15 = (.int .i64 ((p : Nat) : Int)) := postsHold_at hp 15 rfl
        have hv16 : V 16 = (.int .i64 ((i : Nat) : Int)) := postsHold_at hp 16 rfl
        have hv17 : V 17 = (.int .i64 (((p + i) : Nat) : Int)) := postsHold_at hp 17 rfl
        have hv18 : V 18 = (.pointer (some ⟨b, (0 + ((p + i)) * 1), none⟩)) := postsHold_at hp 18 rfl
        have hv19 : V 19 = (.float .f64 (cur.getD ((p + i)) 0)) := postsHold_at hp 19 rfl
        have hv20 : V 20 = (.pointer (some ⟨b, (0 + ((p + i)) * 1), none⟩)) := postsHold_at hp 20 rfl
        have hr1 := he1.2.2 (hall 21 (show 21 < 22 by decide))
        simp only [List.take_succ_cons, List.take_zero, insAll, ins, hv0, hv1, hv2, hv3, hv4, hv5, hv6, hv7, hv8, hv9, hv10, hv11, hv12, hv13, hv14, hv15, hv16, hv17, hv18, hv19, hv20] at hf
        clear hp hnb hv0 hv1 hv2 hv3 hv4 hv5 hv6 hv7 hv8 hv9 hv10 hv11 hv12 hv13 hv14 hv15 hv16 hv17 hv18 hv19 hv20
        replace hb := hb.trans (grown_below hg1 hb.size (by first | omega | (have := Row.lt hr _ rfl; omega) | exact (Row.lt hr _ rfl).1))
        replace hr1 : Row 1 vFlt 22 w0.heap.size w2 (.slice (some ⟨b, 0, none⟩) l.length c) ((cur).set ((p + i)) (cur.getD ((q + i)) 0)) := hr1
        simp only [List.drop_succ_cons, List.drop_zero]
        have hy4 := getD_at (l := ((cur).set ((p + i)) (cur.getD ((q + i)) 0))) (j := ((q + i))) 0 (by first | omega | (simp only [Sl.list_length, List.length_set, List.length_take, List.length_append, List.length_replicate, List.length_cons, List.length_nil, List.length_map, nums_len]; omega))
        have hel4 := RdS.at (Row.rd (by intros; rfl) hr1) hy4
        obtain ⟨_, _, hab, hlr4, hel4⟩ := hel4
        cases hab
        refine sqv hf (r_ixa (sz := 1) (j := ((q + i))) rfl rfl Try.underlying30 (by kernel_rfl) rfl (by omega) rfl) rfl rfl rfl ?_; clear hf fa; intro fa hf
        refine sqn hf (d_rowset (u := (cur.getD ((p + i)) 0)) (j := ((q + i))) (by intros; rfl) (by exact oneFlt) rfl rfl (by first | rfl | (simp; done) | (simp; omega)) (by kernel_rfl) hr1 (by first | omega | (simp only [Sl.list_length, List.length_set, List.length_take, List.length_append, List.length_replicate, List.length_cons, List.length_nil, List.length_map, nums_len]; omega)) (by omega)) rfl rfl ?_; clear hf fa; rintro fa _ w3 ⟨hr2, hg2⟩ hf
        replace hb := hb.trans (grown_below hg2 hb.size (by first | omega | (have := Row.lt hr1 _ rfl; omega) | exact (Row.lt hr1 _ rfl).1))
        apply wpList_nil
        (try simp only [Exit.then, Exit.inBlock, ↓reduceIte, Nat.reduceEqDiff])
        refine hK4 _ _ ?_
        refine wp_region_lit ?_
        refine sqv hf (r_move rfl) rfl rfl rfl ?_; clear hf fa; intro fa hf
        refine sqv hf (r_add (C := (((i : Nat) : Int) + (1 : Int))) rfl rfl (by rw [IntKind.wrap_i64]; omega)) rfl rfl rfl ?_; clear hf fa; intro fa hf
        refine sqv hf (r_assign rfl) rfl rfl rfl ?_; clear hf fa; intro fa hf
        apply wpList_nil
        (try simp only [Exit.then, Exit.inBlock, ↓reduceIte, Nat.reduceEqDiff])
        refine hKL1 _ _ _ (by omega) ⟨(i + 1), ((((cur).set ((p + i)) (cur.getD ((q + i)) 0))).set ((q + i)) (cur.getD ((p + i)) 0)), rfl, hf.sub ⟨rfl, rfl, rfl, rfl, rfl, (some_int (by first | rfl | omega)), trivial⟩, hb, hr2, (by omega), ((hv.trans (via_swap (by omega) (by omega) (by omega))).congr (fun k => sgm_step (by omega) k))⟩
    · have hqt13_1b := hqt13_1
      replace hqt13_1 := Bool.eq_false_iff.1 hqt13_1
      try simp only [ne_eq, decide_eq_true_eq, Bool.and_eq_true, Bool.or_eq_true, Bool.not_eq_true', decide_eq_false_iff_not] at hqt13_1
      refine wp_exit ?_
      (try simp only [Exit.then, Exit.inBlock, ↓reduceIte, Nat.reduceEqDiff])
      refine end0 hf rfl ?_
      exact ⟨rfl, _, hr, by rw [show n = i by omega]; exact hv, hb⟩

theorem swapr_cur (b c : Nat) (l cur : List Nat) (hcl : cur.length = l.length) (p q n : Nat) (hpq : p + n ≤ q) (hq : q + n ≤ cur.length) (hl : cur.length ≤ 4611686018427387903) (w0 w : World) (hb : Below w0.heap.size w0 w) (hR : Row 1 vFlt 22 w0.heap.size w (.slice (some ⟨b, 0, none⟩) l.length c) cur) (hW : allW cur) : Calls Try.prog 42 #[(.slice (some ⟨b, 0, none⟩) l.length c), (.int .i64 ((p : Nat) : Int)), (.int .i64 ((q : Nat) : Int)), (.int .i64 ((n : Nat) : Int)), (.func (.func 9) #[] #[])] w fun e w' => e = .returned (.tuple #[]) ∧ ∃ l' : List Nat, Row 1 vFlt 22 w0.heap.size w' (.slice (some ⟨b, 0, none⟩) l.length c) l' ∧ Via (sgm p q n) cur l' ∧ Below w0.heap.size w0 w' := by
  rw [← hcl] at hR ⊢
  exact swapr_any b c cur p q n hpq hq hl w0 w hb hR hW

set_option maxHeartbeats 1000000 in
set_option maxRecDepth 100000 in
theorem rot_any (b c : Nat) (l : List Nat) (p m q : Nat) (hpm : p < m) (hmq : m < q) (hq : q ≤ l.length) (hl : l.length ≤ 4611686018427387903) (w0 w : World) (hb : Below w0.heap.size w0 w) (hR : Row 1 vFlt 22 w0.heap.size w (.slice (some ⟨b, 0, none⟩) l.length c) l) (hW : allW l) : Calls Try.prog 41 #[(.slice (some ⟨b, 0, none⟩) l.length c), (.int .i64 ((p : Nat) : Int)), (.int .i64 ((m : Nat) : Int)), (.int .i64 ((q : Nat) : Int)), (.func (.func 9) #[] #[])] w fun e w' => e = .returned (.tuple #[]) ∧ ∃ l' : List Nat, Row 1 vFlt 22 w0.heap.size w' (.slice (some ⟨b, 0, none⟩) l.length c) l' ∧ Via (rot p m q) l l' ∧ Below w0.heap.size w0 w' := by
  refine sx_enter (L := [(0, (.slice (some ⟨b, 0, none⟩) l.length c)), (1, (.int .i64 ((p : Nat) : Int))), (2, (.int .i64 ((m : Nat) : Int))), (3, (.int .i64 ((q : Nat) : Int))), (4, (.func (.func 9) #[] #[]))]) Try.func41 rfl rfl rfl rfl (fun fa hf => ?_)
  refine wp_seq_k (fun K1 hK1 => ?_)
  refine wp_region_lit ?_
  refine sqv hf (r_move rfl) rfl rfl rfl ?_; clear hf fa; intro fa hf
  refine sqv hf (r_move rfl) rfl rfl rfl ?_; clear hf fa; intro fa hf
  refine sqv hf (r_sub (C := (((m - p) : Nat) : Int)) rfl rfl (by rw [IntKind.wrap_i64]; omega)) rfl rfl rfl ?_; clear hf fa; intro fa hf
  refine sqv hf (r_assign rfl) rfl rfl rfl ?_; clear hf fa; intro fa hf
  apply wpList_nil
  (try simp only [Exit.then, Exit.inBlock, ↓reduceIte, Nat.reduceEqDiff])
  refine hK1 _ _ ?_
  refine wp_seq_k (fun K2 hK2 => ?_)
  refine wp_region_lit ?_
  refine sqv hf (r_move rfl) rfl rfl rfl ?_; clear hf fa; intro fa hf
  refine sqv hf (r_move rfl) rfl rfl rfl ?_; clear hf fa; intro fa hf
  refine sqv hf (r_sub (C := (((q - m) : Nat) : Int)) rfl rfl (by rw [IntKind.wrap_i64]; omega)) rfl rfl rfl ?_; clear hf fa; intro fa hf
  refine sqv hf (r_assign rfl) rfl rfl rfl ?_; clear hf fa; intro fa hf
  apply wpList_nil
  (try simp only [Exit.then, Exit.inBlock, ↓reduceIte, Nat.reduceEqDiff])
  refine hK2 _ _ ?_
  refine wp_seq_k (fun K3 hK3 => ?_)
  refine wp_block ?_
  refine wp_loop_k (fun mq fa wr => ∃ (i : Nat) (j : Nat) (cur : List Nat) (τ : Nat → Nat), mq = i + j ∧ Fr 58 fa [(0, (.slice (some ⟨b, 0, none⟩) l.length c)), (1, (.int .i64 ((p : Nat) : Int))), (2, (.int .i64 ((m : Nat) : Int))), (3, (.int .i64 ((q : Nat) : Int))), (4, (.func (.func 9) #[] #[])), (10, (.int .i64 ((i : Nat) : Int))), (11, (.int .i64 ((j : Nat) : Int)))] ∧ Below w0.heap.size w0 wr ∧ Row 1 vFlt 22 (w0.heap.size) wr (.slice (some ⟨b, 0, none⟩) (l.length) c) cur ∧ (0 < i) ∧ (0 < j) ∧ (i ≤ m) ∧ (m + j ≤ l.length) ∧ (Via τ l cur) ∧ (∀ k, τ (rot (m - i) m (m + j) k) = rot p m q k)) ?_ ?_
  · skip
    exact ⟨_, (m - p), (q - m), l, id, rfl, hf.sub ⟨rfl, rfl, rfl, rfl, rfl, rfl, rfl, trivial⟩, hb, hR, (by omega), (by omega), (by omega), (by omega), (Via.refl l), (fun k => by rw [show m - (m - p) = p by omega, show m + (q - m) = q by omega]; rfl)⟩
  · skip
    clear hf fa; intro mq1 fa w1 hI KL1 hKL1
    clear hb
    clear hR
    obtain ⟨i, j, cur, τ, hmq1, hf, hb, hr, hi, hj, him, hjm, hv, ht⟩ := hI
    have hcr := Row.caps hr
    have hcl := hv.len
    refine wp_seq_k (fun K4 hK4 => ?_)
    refine wp_seq_k (fun K5 hK5 => ?_)
    refine wp_region_lit ?_
    refine sqv hf (r_move rfl) rfl rfl rfl ?_; clear hf fa; intro fa hf
    refine sqv hf (r_move rfl) rfl rfl rfl ?_; clear hf fa; intro fa hf
    refine sqv hf (r_ne rfl rfl) rfl rfl rfl ?_; clear hf fa; intro fa hf
    apply wpList_nil
    (try simp only [Exit.then, Exit.inBlock, ↓reduceIte, Nat.reduceEqDiff])
    refine hK5 _ _ ?_
    refine wp_cond_split (t := (decide (((i : Nat) : Int) ≠ ((j : Nat) : Int)))) (hf.ev rfl) (fun hqt20_1 => ?_) (fun hqt20_1 => ?_)
    · have hqt20_1b := hqt20_1
      try simp only [decide_eq_true_eq, Bool.and_eq_true, Bool.or_eq_true, Bool.not_eq_true', decide_eq_false_iff_not, ne_eq, Bool.not_eq_true] at hqt20_1
      refine wp_skip ?_
      (try simp only [Exit.then, Exit.inBlock, ↓reduceIte, Nat.reduceEqDiff])
      refine hK4 _ _ ?_
      refine wp_block ?_
      refine wp_seq_k (fun K6 hK6 => ?_)
      refine wp_region_lit ?_
      refine sqv hf (r_move rfl) rfl rfl rfl ?_; clear hf fa; intro fa hf
      refine sqv hf (r_move rfl) rfl rfl rfl ?_; clear hf fa; intro fa hf
      refine sqv hf (r_gt rfl rfl) rfl rfl rfl ?_; clear hf fa; intro fa hf
      apply wpList_nil
      (try simp only [Exit.then, Exit.inBlock, ↓reduceIte, Nat.reduceEqDiff])
      refine hK6 _ _ ?_
      refine wp_cond_split (t := (decide (((j : Nat) : Int) < ((i : Nat) : Int)))) (hf.ev rfl) (fun hqt23_1 => ?_) (fun hqt23_1 => ?_)
      · have hqt23_1b := hqt23_1
        try simp only [decide_eq_true_eq, Bool.and_eq_true, Bool.or_eq_true, Bool.not_eq_true', decide_eq_false_iff_not, ne_eq, Bool.not_eq_true] at hqt23_1
        refine wp_seq_k (fun K7 hK7 => ?_)
        refine wp_region_lit ?_
        refine sqv hf (r_move rfl) rfl rfl rfl ?_; clear hf fa; intro fa hf
        refine sqv hf (r_move rfl) rfl rfl rfl ?_; clear hf fa; intro fa hf
        refine sqv hf (r_move rfl) rfl rfl rfl ?_; clear hf fa; intro fa hf
        refine sqv hf (r_sub (C := (((m - i) : Nat) : Int)) rfl rfl (by rw [IntKind.wrap_i64]; omega)) rfl rfl rfl ?_; clear hf fa; intro fa hf
        refine sqv hf (r_move rfl) rfl rfl rfl ?_; clear hf fa; intro fa hf
        refine sqv hf (r_move rfl) rfl rfl rfl ?_; clear hf fa; intro fa hf
        refine sqv hf (r_move rfl) rfl rfl rfl ?_; clear hf fa; intro fa hf
        refine sqdt hf (d_callX (R := fun vz wz => vz = .tuple #[] ∧ ∃ l' : List Nat, Row 1 vFlt 22 w0.heap.size wz (.slice (some ⟨b, 0, none⟩) l.length c) l' ∧ Via (sgm ((m - i)) m j) cur l' ∧ Below w0.heap.size w0 wz) (vs := [(.slice (some ⟨b, 0, none⟩) l.length c), (.int .i64 (((m - i) : Nat) : Int)), (.int .i64 ((m : Nat) : Int)), (.int .i64 ((j : Nat) : Int)), (.func (.func 9) #[] #[])]) rfl Try.func42 (by kernel_rfl) (by kernel_rfl) (Calls.mono (swapr_cur b c l cur hcl ((m - i)) m j (by omega) (by omega) (by omega) w0 _ hb hr (hv.allW hW)) (fun e w2 h => ⟨_, h.1, rfl, h.2⟩))) rfl rfl rfl ?_; clear hf fa; rintro fa _ w2 ⟨rfl, lv1, hr1, hv1, hb1⟩ hf
        clear hb hr
        have hb := hb1
        clear hb1
        apply wpList_nil
        (try simp only [Exit.then, Exit.inBlock, ↓reduceIte, Nat.reduceEqDiff])
        refine hK7 _ _ ?_
        refine wp_region_lit ?_
        refine sqv hf (r_move rfl) rfl rfl rfl ?_; clear hf fa; intro fa hf
        refine sqv hf (r_move rfl) rfl rfl rfl ?_; clear hf fa; intro fa hf
        refine sqv hf (r_sub (C := (((i - j) : Nat) : Int)) rfl rfl (by rw [IntKind.wrap_i64]; omega)) rfl rfl rfl ?_; clear hf fa; intro fa hf
        refine sqv hf (r_assign rfl) rfl rfl rfl ?_; clear hf fa; intro fa hf
        apply wpList_nil
        (try simp only [Exit.then, Exit.inBlock, ↓reduceIte, Nat.reduceEqDiff])
        refine hKL1 _ _ _ (by omega) ⟨(i - j), j, lv1, (fun k => τ (sgm (m - i) m j k)), rfl, hf.sub ⟨rfl, rfl, rfl, rfl, rfl, rfl, rfl, trivial⟩, hb, hr1, (by omega), (by omega), (by omega), (by omega), (hv.trans hv1), (fun k => by rw [← ht]; exact congrArg τ (rot_gt (by omega) (by omega) k))⟩
      · have hqt23_1b := hqt23_1
        replace hqt23_1 := Bool.eq_false_iff.1 hqt23_1
        try simp only [ne_eq, decide_eq_true_eq, Bool.and_eq_true, Bool.or_eq_true, Bool.not_eq_true', decide_eq_false_iff_not] at hqt23_1
        refine wp_seq_k (fun K8 hK8 => ?_)
        refine wp_region_lit ?_
        refine sqv hf (r_move rfl) rfl rfl rfl ?_; clear hf fa; intro fa hf
        refine sqv hf (r_move rfl) rfl rfl rfl ?_; clear hf fa; intro fa hf
        refine sqv hf (r_move rfl) rfl rfl rfl ?_; clear hf fa; intro fa hf
        refine sqv hf (r_sub (C := (((m - i) : Nat) : Int)) rfl rfl (by rw [IntKind.wrap_i64]; omega)) rfl rfl rfl ?_; clear hf fa; intro fa hf
        refine sqv hf (r_move rfl) rfl rfl rfl ?_; clear hf fa; intro fa hf
        refine sqv hf (r_move rfl) rfl rfl rfl ?_; clear hf fa; intro fa hf
        refine sqv hf (r_add (C := (((m + j) : Nat) : Int)) rfl rfl (by rw [IntKind.wrap_i64]; omega)) rfl rfl rfl ?_; clear hf fa; intro fa hf
        refine sqv hf (r_move rfl) rfl rfl rfl ?_; clear hf fa; intro fa hf
        refine sqv hf (r_sub (C := (((m + j - i) : Nat) : Int)) rfl rfl (by rw [IntKind.wrap_i64]; omega)) rfl rfl rfl ?_; clear hf fa; intro fa hf
        refine sqv hf (r_move rfl) rfl rfl rfl ?_; clear hf fa; intro fa hf
        refine sqv hf (r_move rfl) rfl rfl rfl ?_; clear hf fa; intro fa hf
        refine sqdt hf (d_callX (R := fun vz wz => vz = .tuple #[] ∧ ∃ l' : List Nat, Row 1 vFlt 22 w0.heap.size wz (.slice (some ⟨b, 0, none⟩) l.length c) l' ∧ Via (sgm ((m - i)) ((m + j - i)) i) cur l' ∧ Below w0.heap.size w0 wz) (vs := [(.slice (some ⟨b, 0, none⟩) l.length c), (.int .i64 (((m - i) : Nat) : Int)), (.int .i64 (((m + j - i) : Nat) : Int)), (.int .i64 ((i : Nat) : Int)), (.func (.func 9) #[] #[])]) rfl Try.func42 (by kernel_rfl) (by kernel_rfl) (Calls.mono (swapr_cur b c l cur hcl ((m - i)) ((m + j - i)) i (by omega) (by omega) (by omega) w0 _ hb hr (hv.allW hW)) (fun e w2 h => ⟨_, h.1, rfl, h.2⟩))) rfl rfl rfl ?_; clear hf fa; rintro fa _ w3 ⟨rfl, lv2, hr2, hv2, hb2⟩ hf
        clear hb hr
        have hb := hb2
        clear hb2
        apply wpList_nil
        (try simp only [Exit.then, Exit.inBlock, ↓reduceIte, Nat.reduceEqDiff])
        refine hK8 _ _ ?_
        refine wp_region_lit ?_
        refine sqv hf (r_move rfl) rfl rfl rfl ?_; clear hf fa; intro fa hf
        refine sqv hf (r_move rfl) rfl rfl rfl ?_; clear hf fa; intro fa hf
        refine sqv hf (r_sub (C := (((j - i) : Nat) : Int)) rfl rfl (by rw [IntKind.wrap_i64]; omega)) rfl rfl rfl ?_; clear hf fa; intro fa hf
        refine sqv hf (r_assign rfl) rfl rfl rfl ?_; clear hf fa; intro fa hf
        apply wpList_nil
        (try simp only [Exit.then, Exit.inBlock, ↓reduceIte, Nat.reduceEqDiff])
        refine hKL1 _ _ _ (by omega) ⟨i, (j - i), lv2, (fun k => τ (sgm (m - i) (m + j - i) i k)), rfl, hf.sub ⟨rfl, rfl, rfl, rfl, rfl, rfl, rfl, trivial⟩, hb, hr2, (by omega), (by omega), (by omega), (by omega), (hv.trans hv2), (fun k => by rw [← ht]; exact congrArg τ (rot_lt (by omega) (by omega) k))⟩
    · have hqt20_1b := hqt20_1
      replace hqt20_1 := Bool.eq_false_iff.1 hqt20_1
      try simp only [ne_eq, decide_eq_true_eq, Bool.and_eq_true, Bool.or_eq_true, Bool.not_eq_true', decide_eq_false_iff_not] at hqt20_1
      refine wp_exit ?_
      (try simp only [Exit.then, Exit.inBlock, ↓reduceIte, Nat.reduceEqDiff])
      refine hK3 _ _ ?_
      refine wp_region_lit ?_
      refine sqv hf (r_move rfl) rfl rfl rfl ?_; clear hf fa; intro fa hf
      refine sqv hf (r_move rfl) rfl rfl rfl ?_; clear hf fa; intro fa hf
      refine sqv hf (r_move rfl) rfl rfl rfl ?_; clear hf fa; intro fa hf
      refine sqv hf (r_sub (C := (((m - i) : Nat) : Int)) rfl rfl (by rw [IntKind.wrap_i64]; omega)) rfl rfl rfl ?_; clear hf fa; intro fa hf
      refine sqv hf (r_move rfl) rfl rfl rfl ?_; clear hf fa; intro fa hf
      refine sqv hf (r_move rfl) rfl rfl rfl ?_; clear hf fa; intro fa hf
      refine sqv hf (r_move rfl) rfl rfl rfl ?_; clear hf fa; intro fa hf
      refine sqdt hf (d_callX (R := fun vz wz => vz = .tuple #[] ∧ ∃ l' : List Nat, Row 1 vFlt 22 w0.heap.size wz (.slice (some ⟨b, 0, none⟩) l.length c) l' ∧ Via (sgm ((m - i)) m i) cur l' ∧ Below w0.heap.size w0 wz) (vs := [(.slice (some ⟨b, 0, none⟩) l.length c), (.int .i64 (((m - i) : Nat) : Int)), (.int .i64 ((m : Nat) : Int)), (.int .i64 ((i : Nat) : Int)), (.func (.func 9) #[] #[])]) rfl Try.func42 (by kernel_rfl) (by kernel_rfl) (Calls.mono (swapr_cur b c l cur hcl ((m - i)) m i (by omega) (by omega) (by omega) w0 _ hb hr (hv.allW hW)) (fun e w2 h => ⟨_, h.1, rfl, h.2⟩))) rfl rfl rfl ?_; clear hf fa; rintro fa _ w4 ⟨rfl, lv3, hr3, hv3, hb3⟩ hf
      clear hb hr
      have hb := hb3
      clear hb3
      apply wpList_nil
      (try simp only [Exit.then, Exit.inBlock, ↓reduceIte, Nat.reduceEqDiff])
      refine end0 hf rfl ?_
      exact ⟨rfl, _, hr3, (hv.trans hv3).congr (fun k => by rw [← ht, show j = i by omega]; exact congrArg τ (rot_eq (by omega) k)), hb⟩
end Go.Proofs.Ytbllifhcfgjdlaa
