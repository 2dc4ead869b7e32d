/-
  What is proved here: the law for a statement whose order of evaluation is open, in which several new blocks are filled: each operation keeps what stands.
-/
import Derived.Test.YtbllifhcfgjdlaaSxE
namespace Go.Proofs.Ytbllifhcfgjdlaa
open Go.RowKit
set_option linter.unusedVariables false
set_option linter.unusedSimpArgs false

/-- The operations that are done. -/
abbrev LS (listed : Array Bool) : Nat → Prop := fun k => listed[k]? = some true
def ad (i : Nat) (S : Nat → Prop) : Nat → Prop := fun k => k = i ∨ S k

/-- What stands of the operations in S. -/
structure UvS (all : (Nat → Prop) → List (Value → World → Prop)) (A : List Nat) (dl : List (List Nat)) (V : Nat → Value) (S : Nat → Prop) (w : World) : Prop where
  post : ∀ j, S j → ((all S).getD j (fun _ _ => True)) (V j) w
  down : ∀ j, S j → ∀ k, k ∈ dl.getD j [] → S k
  lt : ∀ i, A.contains i = true → S i → ∃ b, blkOf (V i) = some b ∧ b < w.heap.size
  ne : ∀ i j, A.contains i = true → A.contains j = true → i ≠ j → S i → S j → blkOf (V i) ≠ blkOf (V j)

def uvGoals (P : Program) (ops : Array Oper) (C : (Nat → Prop) → World → Prop) (all : (Nat → Prop) → List (Value → World → Prop)) (A : List Nat) (dl0 : List (List Nat)) (V : Nat → Value) :
    List Oper → List (List Nat) → Nat → Act → Prop
  | o :: os, d :: ds, i, a =>
    (∀ (S : Nat → Prop) w, C S w → UvS all A dl0 V S w → (∀ k, k ∈ d → S k) → ¬ S i → ∀ K : Act → World → Prop, (∀ v w', C (ad i S) w' → (∀ j, S j → ((all (ad i S)).getD j (fun _ _ => True)) (V j) w') → w.heap.size ≤ w'.heap.size → ((all (ad i S)).getD i (fun _ _ => True)) v w' → fr A i w v w' → K (a.put o.dst v) w') →
      if Region.wanted o (yielded ops a.tmps) = true then o.wp P a w K (fun _ _ _ => False) else K (a.put o.dst undef) w) ∧
    uvGoals P ops C all A dl0 V os ds (i + 1) (a.put o.dst (V i))
  | _, _, _, _ => True

structure UvInv (ops : Array Oper) (C : (Nat → Prop) → World → Prop) (posts : (Nat → Value) → (Nat → Prop) → List (Value → World → Prop)) (A : List Nat) (a0 : Act) (V : Nat → Value) (listed : Array Bool) (a : Act) (w : World) : Prop where
  size : listed.size = ops.size
  tmps : a.tmps.size = a0.tmps.size
  defers : a.defers = a0.defers
  c : C (LS listed) w
  got : ∀ (j : Nat) (o : Oper), ops[j]? = some o → listed[j]? = some true → ∀ t, o.dst = some t → a.tmps[t]? = some (V j)
  post : ∀ (j : Nat) (o : Oper), ops[j]? = some o → listed[j]? = some true → ((posts V (LS listed)).getD j (fun _ _ => True)) (V j) w
  same : ∀ t, (∀ (j : Nat) (o : Oper), ops[j]? = some o → listed[j]? = some true → o.dst ≠ some t) → a.tmps[t]? = a0.tmps[t]?
  down : ∀ (j : Nat) (o : Oper), ops[j]? = some o → listed[j]? = some true → ∀ k, pre o k = true → listed[k]? = some true
  frA : ∀ i, A.contains i = true → listed[i]? = some true → ∃ b, blkOf (V i) = some b ∧ b < w.heap.size
  neA : ∀ i j, A.contains i = true → A.contains j = true → i ≠ j → listed[i]? = some true → listed[j]? = some true → blkOf (V i) ≠ blkOf (V j)

section
variable {P : Program} {ops : Array Oper} {C : (Nat → Prop) → World → Prop} {posts : (Nat → Value) → (Nat → Prop) → List (Value → World → Prop)} {A : List Nat} {dl : List (List Nat)} {N T : Nat} {a0 : Act}

/-- As the elder law's. -/
theorem UvInv.old {V : Nat → Value} {listed : Array Bool} {a : Act} {w : World} (hI : UvInv ops C posts A a0 V listed a w) : UgInv ops (fun _ => True) (fun _ => []) A a0 V listed a w :=
  ⟨hI.size, hI.tmps, hI.defers, trivial, hI.got, fun _ _ _ _ => by simp, hI.same, hI.down, hI.frA, hI.neA⟩

theorem uvGoals_at {V : Nat → Value} {dl0 : List (List Nat)} : ∀ (os : List Oper) (ds : List (List Nat)) (k : Nat) (a : Act), uvGoals P ops C (posts V) A dl0 V os ds k a →
    ∀ (m : Nat) (o : Oper) (d : List Nat), os[m]? = some o → ds[m]? = some d →
    ∀ (S : Nat → Prop) w, C S w → UvS (posts V) A dl0 V S w → (∀ k, k ∈ d → S k) → ¬ S (k + m) → ∀ K : Act → World → Prop, (∀ v w', C (ad (k + m) S) w' → (∀ j, S j → ((posts V (ad (k + m) S)).getD j (fun _ _ => True)) (V j) w') → w.heap.size ≤ w'.heap.size → ((posts V (ad (k + m) S)).getD (k + m) (fun _ _ => True)) v w' → fr A (k + m) w v w' → K ((putAll (os.take m) V k a).put o.dst v) w') →
      if Region.wanted o (yielded ops (putAll (os.take m) V k a).tmps) = true then o.wp P (putAll (os.take m) V k a) w K (fun _ _ _ => False) else K ((putAll (os.take m) V k a).put o.dst undef) w
  | [], _, _, _, _, m, o, d, h, _ => by simp at h
  | _ :: _, [], _, _, _, m, o, d, _, h => by simp at h
  | o1 :: os, d1 :: ds, k, a, hg, 0, o, d, h1, h3 => by
    simp at h1 h3; subst h1 h3
    exact hg.1
  | o1 :: os, d1 :: ds, k, a, hg, m + 1, o, d, h1, h3 => by
    rw [show k + (m + 1) = k + 1 + m from by omega]
    exact uvGoals_at os ds (k + 1) _ hg.2 m o d (by simpa using h1) (by simpa using h3)

theorem uv_walk {Q : Exit → Act → World → Prop} (hN : a0.tmps.size = N) (hok : ∀ i o, ops[i]? = some o → RgOk ops dl N i o) (hdl : dl.length = ops.size) (hpl : ∀ V S, (posts V S).length = ops.size)
    (hPc : ∀ V S i v j, i ∉ dl.getD j [] → (posts (fun k => if k = i then v else V k) S).getD j (fun _ _ => True) = (posts V S).getD j (fun _ _ => True)) (hgoals : ∀ V, uvGoals P ops C (posts V) A dl V ops.toList dl 0 a0)
    (hQ : ∀ V S w, (∀ j, j < (posts V S).length → S j) → C S w → postsHold V w (posts V S) 0 → (∀ i j, i < (posts V S).length → j < (posts V S).length → A.contains i = true → A.contains j = true → i ≠ j → blkOf (V i) ≠ blkOf (V j)) → Q .normal (putAll ops.toList V 0 a0) w) :
    ∀ (fuel : Nat) (listed : Array Bool) (a : Act) (w : World) (V : Nat → Value), (List.range ops.size).countP (fun i => listed[i]? != some true) ≤ fuel → UvInv ops C posts A a0 V listed a w → wpAny P .any ops Q fuel listed a w := by
  -- what stands when all is listed
  have fin : ∀ (listed : Array Bool) (a : Act) (w : World) (V : Nat → Value), UvInv ops C posts A a0 V listed a w → (∀ i, i < ops.size → listed[i]? = some true) → Q .normal a w := by
    intro listed a w V hI hall
    have ha : a = putAll ops.toList V 0 a0 := by
      have h1 : a.tmps = (putAll ops.toList V 0 a0).tmps := by
        apply Array.ext_getElem?
        intro t
        by_cases hex : ∃ (j : Nat) (oj : Oper), ops[j]? = some oj ∧ oj.dst = some t
        · obtain ⟨j, oj, hj, hjd⟩ := hex
          rw [hI.got j oj hj (hall j (Array.getElem?_eq_some_iff.1 hj).1) t hjd]
          rw [putAll_get_some V _ 0 a0 j oj (by simpa using hj) hjd (by rw [hN]; exact (hok _ _ hj).dst t hjd)
            (fun m' o' hm' hne hd' => (hok _ _ hj).one m' o' (by simpa using hm') hne t hd' hjd)]
          simp
        · rw [hI.same t (fun j' o' hj' _ hd' => hex ⟨j', o', hj', hd'⟩), putAll_get_none V _ 0 a0 (fun m o' hm hd' => hex ⟨m, o', by simpa using hm, hd'⟩)]
      have h2 : a.defers = (putAll ops.toList V 0 a0).defers := hI.defers.trans (putAll_defers V _ _ _).symm
      cases a; simp only at h1 h2; subst h1 h2; rfl
    rw [ha]
    refine hQ V (LS listed) w (fun j hj => hall j (by have := hpl V (LS listed); omega)) hI.c (postsHold_of (posts V (LS listed)) 0 (fun j p hj => by
      have hlt : j < ops.size := by rw [← hpl V (LS listed)]; exact (List.getElem?_eq_some_iff.1 hj).1
      have := hI.post j ops[j] (Array.getElem?_eq_getElem hlt) (hall j hlt)
      rw [Nat.zero_add]
      simpa [List.getD_eq_getElem?_getD, hj] using this)) (fun i j hi hj h1 h2 hne => hI.neA i j h1 h2 hne (hall i (by have := hpl V (LS listed); omega)) (hall j (by have := hpl V (LS listed); omega)))
  -- nothing is ready: all is listed
  have done : ∀ (listed : Array Bool), listed.size = ops.size → Region.ready .any ops listed = [] → ∀ i, i < ops.size → listed[i]? = some true := by
    intro listed hsz hr i
    induction i using Nat.strongRecOn with
    | ind i ih =>
      intro hi
      by_cases h : listed[i]? = some true
      · exact h
      exfalso
      have hmem : i ∈ Region.ready .any ops listed := by
        unfold Region.ready
        rw [List.mem_filter]
        refine ⟨by simpa using hi, ?_⟩
        have hl : listed.getD i true = false := by
          rw [Array.getD_eq_getD_getElem?]
          rw [Array.getElem?_eq_getElem (by omega)] at h ⊢
          simpa using h
        rw [hl, Array.getElem?_eq_getElem hi]
        simp only [Bool.not_false, Bool.true_and, Option.map_some, Option.getD_some]
        rw [Array.all_eq_true']
        intro e he
        by_cases hb : Region.binds .any e = true
        · have hp := pre_spec he hb
          have hlt := (hok _ _ (Array.getElem?_eq_getElem hi)).lt e.on hp
          rw [Array.getD_eq_getD_getElem?, ih e.on hlt (by omega)]
          simp
        · simp [hb]
      rw [hr] at hmem
      exact absurd hmem (by simp)
  intro fuel
  induction fuel with
  | zero =>
    intro listed a w V hc hI
    have hall : ∀ i, i < ops.size → listed[i]? = some true := by
      intro i hi
      have h0 := Nat.le_zero.1 hc
      rw [List.countP_eq_zero] at h0
      simpa using h0 i (by simpa using hi)
    refine ⟨?_, fin listed a w V hI hall⟩
    unfold Region.ready
    rw [List.filter_eq_nil_iff]
    intro i hi
    have := hall i (by simpa using hi)
    rw [Array.getD_eq_getD_getElem?, this]
    simp
  | succ fuel ih =>
    intro listed a w V hc hI
    refine ⟨fun hr => fin listed a w V hI (done listed hI.size hr), fun i hi => ?_⟩
    unfold Region.ready at hi
    rw [List.mem_filter] at hi
    obtain ⟨hir, hi2⟩ := hi
    have hir : i < ops.size := by simpa using hir
    rw [Bool.and_eq_true] at hi2
    obtain ⟨hnl, haft⟩ := hi2
    have hnl' : listed[i]? = some false := by
      rw [Array.getD_eq_getD_getElem?, Array.getElem?_eq_getElem (by rw [hI.size]; exact hir)] at hnl
      rw [Array.getElem?_eq_getElem (by rw [hI.size]; exact hir)]
      simpa using hnl
    have ho : ops[i]? = some ops[i] := Array.getElem?_eq_getElem hir
    have hpre : ∀ k, pre ops[i] k = true → listed[k]? = some true := by
      intro k hk
      obtain ⟨e, he, rfl, hb⟩ := pre_mem hk
      rw [ho, Option.map_some, Option.getD_some, Array.all_eq_true'] at haft
      have := haft e he
      simp only [hb, Bool.not_true, Bool.false_or, Array.getD_eq_getD_getElem?] at this
      have hlt := (hok _ _ ho).lt e.on hk
      rw [Array.getElem?_eq_getElem (by rw [hI.size]; omega)] at this ⊢
      simpa using this
    have hilt : i < listed.size := by rw [hI.size]; exact hir
    -- the step
    have hd : dl[i]? = some (dl.getD i []) := by
      have : i < dl.length := by omega
      simp [this]
    have hin : ∀ j, LS listed j → j < ops.size := fun j hj => by have h := (Array.getElem?_eq_some_iff.1 hj).1; rw [hI.size] at h; exact h
    have hLS : LS (listed.setIfInBounds i true) = ad i (LS listed) := funext fun k => propext (Array.get?_setTrue hilt)
    have hlook := hI.old.looks hN hok ho (by rw [hnl']; simp) hpre
    have hgo := uvGoals_at ops.toList dl 0 a0 (hgoals V) i ops[i] _ (by simp) hd (LS listed) w hI.c
      ⟨fun j hj => hI.post j _ (Array.getElem?_eq_getElem (hin j hj)) hj, fun j hj k hk => hI.down j _ (Array.getElem?_eq_getElem (hin j hj)) hj k ((hok j _ (Array.getElem?_eq_getElem (hin j hj))).dl k hk), fun i ha hs => hI.frA i ha hs, fun i j h1 h2 h3 h4 h5 => hI.neA i j h1 h2 h3 h4 h5⟩
      (fun j hj => hpre j ((hok _ _ ho).dl j hj)) (by rw [Nat.zero_add]; intro h; rw [LS, hnl'] at h; cases h)
    rw [Nat.zero_add] at hgo
    -- the invariant behind it
    have hnext : ∀ v w', (C (ad i (LS listed)) w' ∧ (∀ j, LS listed j → ((posts V (ad i (LS listed))).getD j (fun _ _ => True)) (V j) w') ∧ w.heap.size ≤ w'.heap.size ∧ fr A i w v w') → ((posts V (ad i (LS listed))).getD i (fun _ _ => True)) v w' → wpAny P .any ops Q fuel (listed.setIfInBounds i true) (a.put ops[i].dst v) w' := by
      rintro v w' ⟨hc', hkeep, hsz, hfr⟩ hpv
      refine ih _ _ _ (fun k => if k = i then v else V k) ?_ ?_
      · have hlt : (List.range ops.size).countP (fun k => (listed.setIfInBounds i true)[k]? != some true) < (List.range ops.size).countP (fun k => listed[k]? != some true) := by
          rw [List.countP_eq_length_filter, List.countP_eq_length_filter]
          have hsub : (List.range ops.size).filter (fun k => (listed.setIfInBounds i true)[k]? != some true) = ((List.range ops.size).filter (fun k => listed[k]? != some true)).erase i := by
            rw [(List.Nodup.sublist List.filter_sublist List.nodup_range).erase_eq_filter, List.filter_filter]
            apply List.filter_congr
            intro k hk
            by_cases e : k = i
            · subst e; simp [hilt]
            · rw [Array.getElem?_setIfInBounds_ne (Ne.symm e)]; simp [e]
          rw [hsub, List.length_erase_of_mem (by rw [List.mem_filter]; exact ⟨by simpa using hir, by rw [hnl']; rfl⟩)]
          have : 0 < ((List.range ops.size).filter (fun k => listed[k]? != some true)).length :=
            List.length_pos_of_mem (a := i) (by rw [List.mem_filter]; exact ⟨by simpa using hir, by rw [hnl']; rfl⟩)
          omega
        omega
      · refine ⟨by simp [hI.size], by rw [put_size, hI.tmps], by rw [put_defers, hI.defers], (by rw [hLS]; exact hc'), ?_, ?_, ?_, ?_, ?_, ?_⟩
        · intro j o hj hl t ht
          rcases (Array.get?_setTrue hilt).1 hl with rfl | hl2
          · rw [ho] at hj; cases hj
            simp only [if_true]
            rw [ht]; exact put_get (by rw [hI.tmps, hN]; exact (hok _ _ ho).dst t ht)
          · have hji : j ≠ i := fun e => by rw [e, hnl'] at hl2; cases hl2
            rw [if_neg hji, put_get_ne ((hok _ _ ho).one j o hj hji t ht)]
            exact hI.got j o hj hl2 t ht
        · intro j o hj hl
          rcases (Array.get?_setTrue hilt).1 hl with rfl | hl2
          · rw [hLS, hPc V _ _ v _ (fun hm => by
              have h1 := hpre _ ((hok _ _ ho).dl _ hm)
              rw [hnl'] at h1; cases h1)]
            simp only [if_true]; exact hpv
          · have hji : j ≠ i := fun e => by rw [e, hnl'] at hl2; cases hl2
            rw [hLS, hPc V _ _ v _ (fun hm => by
              have h1 := hI.down j o hj hl2 _ ((hok _ _ hj).dl _ hm)
              rw [hnl'] at h1; cases h1)]
            simp only [if_neg hji]
            exact hkeep j hl2
        · intro t ht
          rw [put_get_ne (ht i _ ho ((Array.get?_setTrue hilt).2 (.inl rfl)))]
          exact hI.same t (fun j o hj hl => ht j o hj ((Array.get?_setTrue hilt).2 (.inr hl)))
        · intro j o hj hl k hk
          rw [Array.get?_setTrue hilt]
          rcases (Array.get?_setTrue hilt).1 hl with rfl | hl2
          · rw [ho] at hj; cases hj
            exact .inr (hpre k hk)
          · exact .inr (hI.down j o hj hl2 k hk)
        · intro j hj hl
          rcases (Array.get?_setTrue hilt).1 hl with rfl | hl2
          · simp only [if_true]
            obtain ⟨b, h1, _, h3⟩ := hfr hj
            exact ⟨b, h1, h3⟩
          · have hji : j ≠ i := fun e => by rw [e, hnl'] at hl2; cases hl2
            simp only [if_neg hji]
            obtain ⟨b, h1, h2⟩ := hI.frA j hj hl2
            exact ⟨b, h1, Nat.lt_of_lt_of_le h2 hsz⟩
        · intro j j2 hj hj2 hne hl hl2
          rcases (Array.get?_setTrue hilt).1 hl with rfl | hl3
          · rcases (Array.get?_setTrue hilt).1 hl2 with rfl | hl4
            · exact absurd rfl hne
            · simp only [if_true, if_neg (Ne.symm hne)]
              obtain ⟨b, h1, h2, _⟩ := hfr hj
              obtain ⟨b2, h3, h4⟩ := hI.frA j2 hj2 hl4
              rw [h1, h3]; intro e; cases e; omega
          · have hji : j ≠ i := fun e => by rw [e, hnl'] at hl3; cases hl3
            rcases (Array.get?_setTrue hilt).1 hl2 with rfl | hl4
            · simp only [if_true, if_neg hji]
              obtain ⟨b, h1, h2, _⟩ := hfr hj2
              obtain ⟨b2, h3, h4⟩ := hI.frA j hj hl3
              rw [h1, h3]; intro e; cases e; omega
            · have hji2 : j2 ≠ i := fun e => by rw [e, hnl'] at hl4; cases hl4
              simp only [if_neg hji, if_neg hji2]
              exact hI.neA j j2 hj hj2 hne hl3 hl4
    unfold wpOp
    rw [ho]
    show if Region.wanted ops[i] (yielded ops a.tmps) = true then _ else _
    have hsel := (hok _ _ ho).sel
    have hEx : execOp a.eval ops[i] = execOp (putAll (ops.toList.take i) V 0 a0).eval ops[i] :=
      execOp_congr ops[i] hsel (fun x hx => eval_congr_get (fun t ht => hlook t (by
        subst ht
        exact List.mem_append_left _ (List.mem_filterMap.2 ⟨.tmp t, by simpa using hx, rfl⟩))))
    rw [yielded_congr hlook]
    split
    · rename_i hw
      left
      have hgo := hgo (fun b w' => ∃ v, b = (putAll (ops.toList.take i) V 0 a0).put ops[i].dst v ∧ (C (ad i (LS listed)) w' ∧ (∀ j, LS listed j → ((posts V (ad i (LS listed))).getD j (fun _ _ => True)) (V j) w') ∧ w.heap.size ≤ w'.heap.size ∧ fr A i w v w') ∧ ((posts V (ad i (LS listed))).getD i (fun _ _ => True)) v w') (fun v w' h0 h1 h2 h3 h4 => ⟨v, rfl, ⟨h0, h1, h2, h4⟩, h3⟩)
      rw [if_pos hw] at hgo
      exact wp_carry (R := fun v w' => (C (ad i (LS listed)) w' ∧ (∀ j, LS listed j → ((posts V (ad i (LS listed))).getD j (fun _ _ => True)) (V j) w') ∧ w.heap.size ≤ w'.heap.size ∧ fr A i w v w') ∧ ((posts V (ad i (LS listed))).getD i (fun _ _ => True)) v w') hEx (by rw [hI.tmps, putAll_size]) hgo (fun v w' ⟨h1, h2⟩ => hnext v w' h1 h2)
    · rename_i hw
      have hgo := hgo (fun b w' => ∃ v, b = (putAll (ops.toList.take i) V 0 a0).put ops[i].dst v ∧ (C (ad i (LS listed)) w' ∧ (∀ j, LS listed j → ((posts V (ad i (LS listed))).getD j (fun _ _ => True)) (V j) w') ∧ w.heap.size ≤ w'.heap.size ∧ fr A i w v w') ∧ ((posts V (ad i (LS listed))).getD i (fun _ _ => True)) v w')
        (fun v w' h0 h1 h2 h3 h4 => ⟨v, rfl, ⟨h0, h1, h2, h4⟩, h3⟩)
      rw [if_neg hw] at hgo
      obtain ⟨v, h1, h2, h3⟩ := hgo
      have e : a.put ops[i].dst undef = a.put ops[i].dst v := by
        cases hd : ops[i].dst with
        | none => rfl
        | some d =>
          rw [hd] at h1
          have hlt : d < (putAll (ops.toList.take i) V 0 a0).tmps.size := by rw [putAll_size, hN]; exact (hok _ _ ho).dst d hd
          have := congrArg (fun x : Act => x.tmps[d]?) h1
          simp only [put_get hlt] at this
          rw [Option.some.inj this]
      rw [e]
      exact hnext v w h2 h3

theorem wp_region_uv {id : Nat} {Q : Exit → Act → World → Prop} {w0 : World} (C : (Nat → Prop) → World → Prop) (posts : (Nat → Value) → (Nat → Prop) → List (Value → World → Prop)) (A : List Nat) (dl : List (List Nat)) (N : Nat)
    (hm : P.follows .mixedOrders = true) (hN : a0.tmps.size = N) (hchk : rgCheck ops dl N = true) (hpl : ∀ V S, (posts V S).length = ops.size)
    (hC0 : ∀ S : Nat → Prop, (∀ k, ¬ S k) → C S w0.drew) (hPc : ∀ V S i v j, i ∉ dl.getD j [] → (posts (fun k => if k = i then v else V k) S).getD j (fun _ _ => True) = (posts V S).getD j (fun _ _ => True)) (hgoals : ∀ V, uvGoals P ops C (posts V) A dl V ops.toList dl 0 a0)
    (hQ : ∀ V S w, (∀ j, j < (posts V S).length → S j) → C S w → postsHold V w (posts V S) 0 → (∀ i j, i < (posts V S).length → j < (posts V S).length → A.contains i = true → A.contains j = true → i ≠ j → blkOf (V i) ≠ blkOf (V j)) → Q .normal (putAll ops.toList V 0 a0) w) : (Code.region id ops true).wp P Q a0 w0 := by
  obtain ⟨hdl, hok⟩ := rgOk_of_check hchk
  refine wp_region_any hm (uv_walk hN hok hdl hpl hPc hgoals hQ ops.size _ a0 _ (fun _ => undef) ?_ ⟨by simp, rfl, rfl, hC0 _ (fun k hk => by simp [LS, Array.getElem?_replicate] at hk), ?_, ?_, fun _ _ => rfl, ?_, ?_, ?_⟩)
  · exact Nat.le_trans List.countP_le_length (by simp)
  · intro j o hj hl
    simp [Array.getElem?_replicate] at hl
  · intro j o hj hl
    simp [Array.getElem?_replicate] at hl
  · intro j o hj hl
    simp [Array.getElem?_replicate] at hl
  · intro j hj hl
    simp [Array.getElem?_replicate] at hl
  · intro j j2 hj hj2 hne hl
    simp [Array.getElem?_replicate] at hl

theorem uv_walk_tail {Q : Exit → Act → World → Prop} (hN : a0.tmps.size = N) (hok : ∀ i o, ops[i]? = some o → RgOk ops dl N i o) (hdl : dl.length = ops.size) (hpl : ∀ V S, (posts V S).length = T) (hT : T < ops.size)
    (hs : Region.sinkB .any ops T = true) (hc : Region.chainB .any ops T = true) (hseq : Region.seqB .any ops (ops.size - T) T ((Array.range ops.size).map (fun i => decide (i < T))) = true)
    (hPc : ∀ V S i v j, i ∉ dl.getD j [] → (posts (fun k => if k = i then v else V k) S).getD j (fun _ _ => True) = (posts V S).getD j (fun _ _ => True)) (hgoals : ∀ V, uvGoals P ops C (posts V) A dl V (ops.toList.take T) dl 0 a0)
    (hQ : ∀ V S w, (∀ j, j < (posts V S).length → S j) → C S w → postsHold V w (posts V S) 0 → (∀ i j, i < (posts V S).length → j < (posts V S).length → A.contains i = true → A.contains j = true → i ≠ j → blkOf (V i) ≠ blkOf (V j)) → wpList P ops Q (ops.toList.drop T) (putAll (ops.toList.take T) V 0 a0) w) :
    ∀ (fuel : Nat) (listed : Array Bool) (a : Act) (w : World) (V : Nat → Value), (List.range T).countP (fun i => listed[i]? != some true) = fuel → HeadInv .any ops T listed → UvInv ops C posts A a0 V listed a w → wpAny P .any ops Q (fuel + (ops.size - T)) listed a w := by
  -- what stands when the head is listed
  have fin : ∀ (listed : Array Bool) (a : Act) (w : World) (V : Nat → Value), HeadInv .any ops T listed → UvInv ops C posts A a0 V listed a w → (∀ i, i < T → listed[i]? = some true) → wpAny P .any ops Q (0 + (ops.size - T)) listed a w := by
    intro listed a w V inv hI hall
    have hnone : ∀ j, T ≤ j → listed[j]? ≠ some true := by
      intro j hj h
      by_cases hjs : j < ops.size
      · have h1 := inv.tail j hj hjs
        rw [Array.getD_eq_getD_getElem?, h] at h1
        cases h1
      · have hsz := inv.size
        rw [Array.getElem?_eq_none (by omega)] at h
        cases h
    have hmem : ∀ m o, (ops.toList.take T)[m]? = some o → m < T ∧ ops[m]? = some o := by
      intro m o hm
      rw [List.getElem?_take] at hm
      split at hm
      · exact ⟨by assumption, by simpa using hm⟩
      · cases hm
    have ha : a = putAll (ops.toList.take T) V 0 a0 := by
      have h1 : a.tmps = (putAll (ops.toList.take T) V 0 a0).tmps := by
        apply Array.ext_getElem?
        intro t
        by_cases hex : ∃ (j : Nat) (oj : Oper), ops[j]? = some oj ∧ oj.dst = some t ∧ j < T
        · obtain ⟨j, oj, hj, hjd, hjT⟩ := hex
          rw [hI.got j oj hj (hall j hjT) t hjd]
          rw [putAll_get_some V _ 0 a0 j oj (by rw [List.getElem?_take, if_pos hjT]; simpa using hj) hjd (by rw [hN]; exact (hok _ _ hj).dst t hjd)
            (fun m' o' hm' hne hd' => (hok _ _ hj).one m' o' (hmem m' o' hm').2 hne t hd' hjd)]
          simp
        · rw [hI.same t (fun j' o' hj' hl' hd' => hex ⟨j', o', hj', hd', by
            rcases Nat.lt_or_ge j' T with h | h
            · exact h
            · exact absurd hl' (hnone j' h)⟩), putAll_get_none V _ 0 a0 (fun m o' hm hd' => hex ⟨m, o', (hmem m o' hm).2, hd', (hmem m o' hm).1⟩)]
      have h2 : a.defers = (putAll (ops.toList.take T) V 0 a0).defers := hI.defers.trans (putAll_defers V _ _ _).symm
      cases a; simp only at h1 h2; subst h1 h2; rfl
    have hq := hQ V (LS listed) w (fun j hj => hall j (by have := hpl V (LS listed); omega)) hI.c (postsHold_of (posts V (LS listed)) 0 (fun j p hj => by
      have hlt : j < T := by rw [← hpl V (LS listed)]; exact (List.getElem?_eq_some_iff.1 hj).1
      have := hI.post j ops[j] (Array.getElem?_eq_getElem (by omega)) (hall j hlt)
      rw [Nat.zero_add]
      simpa [List.getD_eq_getElem?_getD, hj] using this)) (fun i j hi hj h1 h2 hne => hI.neA i j h1 h2 hne (hall i (by have := hpl V (LS listed); omega)) (hall j (by have := hpl V (LS listed); omega)))
    rw [ha]
    have hdl2 : (ops.toList.drop T).length = ops.size - T := by simp
    have hall2 := headInv_all inv hall (by omega)
    have := wpAny_of_seq (md := .any) (Q' := Q) (ops.toList.drop T) T listed _ w (fun j => by simp [List.getElem?_drop]) (by rw [hdl2, hall2]; exact hseq) hq
    rw [hdl2] at this
    rw [Nat.zero_add]
    exact this
  intro fuel
  induction fuel with
  | zero =>
    intro listed a w V hc0 inv hI
    refine fin listed a w V inv hI (fun i hi => ?_)
    rw [List.countP_eq_zero] at hc0
    simpa using hc0 i (by simpa using hi)
  | succ fuel ih =>
    intro listed a w V hc0 inv hI
    obtain ⟨i0, hi0, hun0⟩ : ∃ i0, i0 < T ∧ listed.getD i0 true = false := by
      have hpos : 0 < (List.range T).countP (fun i => listed[i]? != some true) := by omega
      rw [List.countP_pos_iff] at hpos
      obtain ⟨i0, h1, h2⟩ := hpos
      have h1 : i0 < T := by simpa using h1
      refine ⟨i0, h1, ?_⟩
      rw [Array.getD_eq_getD_getElem?]
      rw [Array.getElem?_eq_getElem (by rw [hI.size]; omega)] at h2 ⊢
      simpa using h2
    have hready := tail_waits hs hc hT inv _ i0 rfl hi0 hun0
    rw [show fuel + 1 + (ops.size - T) = (fuel + (ops.size - T)) + 1 by omega]
    refine ⟨fun hr => ?_, fun i hi => ?_⟩
    · exfalso
      have done : ∀ i, i < ops.size → listed[i]? = some true := by
        intro i
        induction i using Nat.strongRecOn with
        | ind i ih =>
          intro hi
          by_cases h : listed[i]? = some true
          · exact h
          exfalso
          have hmem : i ∈ Region.ready .any ops listed := by
            unfold Region.ready
            rw [List.mem_filter]
            refine ⟨by simpa using hi, ?_⟩
            have hl : listed.getD i true = false := by
              rw [Array.getD_eq_getD_getElem?]
              rw [Array.getElem?_eq_getElem (by rw [hI.size]; omega)] at h ⊢
              simpa using h
            rw [hl, Array.getElem?_eq_getElem hi]
            simp only [Bool.not_false, Bool.true_and, Option.map_some, Option.getD_some]
            rw [Array.all_eq_true']
            intro e he
            by_cases hb : Region.binds .any e = true
            · have hp := pre_spec he hb
              have hlt := (hok _ _ (Array.getElem?_eq_getElem hi)).lt e.on hp
              rw [Array.getD_eq_getD_getElem?, ih e.on hlt (by omega)]
              simp
            · simp [hb]
          rw [hr] at hmem
          exact absurd hmem (by simp)
      have h1 := inv.tail T (Nat.le_refl _) hT
      rw [Array.getD_eq_getD_getElem?, done T hT] at h1
      cases h1
    have hiT : i < T := by
      rcases Nat.lt_or_ge i T with h | h
      · exact h
      · exact absurd hi (hready i h)
    have inv' := inv.set hi hiT
    unfold Region.ready at hi
    rw [List.mem_filter] at hi
    obtain ⟨hir, hi2⟩ := hi
    have hir : i < ops.size := by simpa using hir
    rw [Bool.and_eq_true] at hi2
    obtain ⟨hnl, haft⟩ := hi2
    have hnl' : listed[i]? = some false := by
      rw [Array.getD_eq_getD_getElem?, Array.getElem?_eq_getElem (by rw [hI.size]; exact hir)] at hnl
      rw [Array.getElem?_eq_getElem (by rw [hI.size]; exact hir)]
      simpa using hnl
    have ho : ops[i]? = some ops[i] := Array.getElem?_eq_getElem hir
    have hpre : ∀ k, pre ops[i] k = true → listed[k]? = some true := by
      intro k hk
      obtain ⟨e, he, rfl, hb⟩ := pre_mem hk
      rw [ho, Option.map_some, Option.getD_some, Array.all_eq_true'] at haft
      have := haft e he
      simp only [hb, Bool.not_true, Bool.false_or, Array.getD_eq_getD_getElem?] at this
      have hlt := (hok _ _ ho).lt e.on hk
      rw [Array.getElem?_eq_getElem (by rw [hI.size]; omega)] at this ⊢
      simpa using this
    have hilt : i < listed.size := by rw [hI.size]; exact hir
    -- the step
    have hd : dl[i]? = some (dl.getD i []) := by
      have : i < dl.length := by omega
      simp [this]
    have hin : ∀ j, LS listed j → j < ops.size := fun j hj => by have h := (Array.getElem?_eq_some_iff.1 hj).1; rw [hI.size] at h; exact h
    have hLS : LS (listed.setIfInBounds i true) = ad i (LS listed) := funext fun k => propext (Array.get?_setTrue hilt)
    have hlook := hI.old.looks hN hok ho (by rw [hnl']; simp) hpre
    have hgo := uvGoals_at (ops.toList.take T) dl 0 a0 (hgoals V) i ops[i] _ (by rw [List.getElem?_take, if_pos hiT]; simp) hd (LS listed) w hI.c
      ⟨fun j hj => hI.post j _ (Array.getElem?_eq_getElem (hin j hj)) hj, fun j hj k hk => hI.down j _ (Array.getElem?_eq_getElem (hin j hj)) hj k ((hok j _ (Array.getElem?_eq_getElem (hin j hj))).dl k hk), fun i ha hs => hI.frA i ha hs, fun i j h1 h2 h3 h4 h5 => hI.neA i j h1 h2 h3 h4 h5⟩
      (fun j hj => hpre j ((hok _ _ ho).dl j hj)) (by rw [Nat.zero_add]; intro h; rw [LS, hnl'] at h; cases h)
    rw [Nat.zero_add] at hgo
    rw [List.take_take, Nat.min_eq_left (Nat.le_of_lt hiT)] at hgo
    -- the invariant behind it
    have hnext : ∀ v w', (C (ad i (LS listed)) w' ∧ (∀ j, LS listed j → ((posts V (ad i (LS listed))).getD j (fun _ _ => True)) (V j) w') ∧ w.heap.size ≤ w'.heap.size ∧ fr A i w v w') → ((posts V (ad i (LS listed))).getD i (fun _ _ => True)) v w' → wpAny P .any ops Q (fuel + (ops.size - T)) (listed.setIfInBounds i true) (a.put ops[i].dst v) w' := by
      rintro v w' ⟨hc', hkeep, hsz, hfr⟩ hpv
      refine ih _ _ _ (fun k => if k = i then v else V k) ?_ inv' ?_
      · have hlt : (List.range T).countP (fun k => (listed.setIfInBounds i true)[k]? != some true) + 1 = (List.range T).countP (fun k => listed[k]? != some true) := by
          rw [List.countP_eq_length_filter, List.countP_eq_length_filter]
          have hsub : (List.range T).filter (fun k => (listed.setIfInBounds i true)[k]? != some true) = ((List.range T).filter (fun k => listed[k]? != some true)).erase i := by
            rw [(List.Nodup.sublist List.filter_sublist List.nodup_range).erase_eq_filter, List.filter_filter]
            apply List.filter_congr
            intro k hk
            by_cases e : k = i
            · subst e; simp [hilt]
            · rw [Array.getElem?_setIfInBounds_ne (Ne.symm e)]; simp [e]
          rw [hsub, List.length_erase_of_mem (by rw [List.mem_filter]; exact ⟨by simpa using hiT, by rw [hnl']; rfl⟩)]
          have : 0 < ((List.range T).filter (fun k => listed[k]? != some true)).length :=
            List.length_pos_of_mem (a := i) (by rw [List.mem_filter]; exact ⟨by simpa using hiT, by rw [hnl']; rfl⟩)
          omega
        omega
      · refine ⟨by simp [hI.size], by rw [put_size, hI.tmps], by rw [put_defers, hI.defers], (by rw [hLS]; exact hc'), ?_, ?_, ?_, ?_, ?_, ?_⟩
        · intro j o hj hl t ht
          rcases (Array.get?_setTrue hilt).1 hl with rfl | hl2
          · rw [ho] at hj; cases hj
            simp only [if_true]
            rw [ht]; exact put_get (by rw [hI.tmps, hN]; exact (hok _ _ ho).dst t ht)
          · have hji : j ≠ i := fun e => by rw [e, hnl'] at hl2; cases hl2
            rw [if_neg hji, put_get_ne ((hok _ _ ho).one j o hj hji t ht)]
            exact hI.got j o hj hl2 t ht
        · intro j o hj hl
          rcases (Array.get?_setTrue hilt).1 hl with rfl | hl2
          · rw [hLS, hPc V _ _ v _ (fun hm => by
              have h1 := hpre _ ((hok _ _ ho).dl _ hm)
              rw [hnl'] at h1; cases h1)]
            simp only [if_true]; exact hpv
          · have hji : j ≠ i := fun e => by rw [e, hnl'] at hl2; cases hl2
            rw [hLS, hPc V _ _ v _ (fun hm => by
              have h1 := hI.down j o hj hl2 _ ((hok _ _ hj).dl _ hm)
              rw [hnl'] at h1; cases h1)]
            simp only [if_neg hji]
            exact hkeep j hl2
        · intro t ht
          rw [put_get_ne (ht i _ ho ((Array.get?_setTrue hilt).2 (.inl rfl)))]
          exact hI.same t (fun j o hj hl => ht j o hj ((Array.get?_setTrue hilt).2 (.inr hl)))
        · intro j o hj hl k hk
          rw [Array.get?_setTrue hilt]
          rcases (Array.get?_setTrue hilt).1 hl with rfl | hl2
          · rw [ho] at hj; cases hj
            exact .inr (hpre k hk)
          · exact .inr (hI.down j o hj hl2 k hk)
        · intro j hj hl
          rcases (Array.get?_setTrue hilt).1 hl with rfl | hl2
          · simp only [if_true]
            obtain ⟨b, h1, _, h3⟩ := hfr hj
            exact ⟨b, h1, h3⟩
          · have hji : j ≠ i := fun e => by rw [e, hnl'] at hl2; cases hl2
            simp only [if_neg hji]
            obtain ⟨b, h1, h2⟩ := hI.frA j hj hl2
            exact ⟨b, h1, Nat.lt_of_lt_of_le h2 hsz⟩
        · intro j j2 hj hj2 hne hl hl2
          rcases (Array.get?_setTrue hilt).1 hl with rfl | hl3
          · rcases (Array.get?_setTrue hilt).1 hl2 with rfl | hl4
            · exact absurd rfl hne
            · simp only [if_true, if_neg (Ne.symm hne)]
              obtain ⟨b, h1, h2, _⟩ := hfr hj
              obtain ⟨b2, h3, h4⟩ := hI.frA j2 hj2 hl4
              rw [h1, h3]; intro e; cases e; omega
          · have hji : j ≠ i := fun e => by rw [e, hnl'] at hl3; cases hl3
            rcases (Array.get?_setTrue hilt).1 hl2 with rfl | hl4
            · simp only [if_true, if_neg hji]
              obtain ⟨b, h1, h2, _⟩ := hfr hj2
              obtain ⟨b2, h3, h4⟩ := hI.frA j hj hl3
              rw [h1, h3]; intro e; cases e; omega
            · have hji2 : j2 ≠ i := fun e => by rw [e, hnl'] at hl4; cases hl4
              simp only [if_neg hji, if_neg hji2]
              exact hI.neA j j2 hj hj2 hne hl3 hl4
    unfold wpOp
    rw [ho]
    show if Region.wanted ops[i] (yielded ops a.tmps) = true then _ else _
    have hsel := (hok _ _ ho).sel
    have hEx : execOp a.eval ops[i] = execOp (putAll (ops.toList.take i) V 0 a0).eval ops[i] :=
      execOp_congr ops[i] hsel (fun x hx => eval_congr_get (fun t ht => hlook t (by
        subst ht
        exact List.mem_append_left _ (List.mem_filterMap.2 ⟨.tmp t, by simpa using hx, rfl⟩))))
    rw [yielded_congr hlook]
    split
    · rename_i hw
      left
      have hgo := hgo (fun b w' => ∃ v, b = (putAll (ops.toList.take i) V 0 a0).put ops[i].dst v ∧ (C (ad i (LS listed)) w' ∧ (∀ j, LS listed j → ((posts V (ad i (LS listed))).getD j (fun _ _ => True)) (V j) w') ∧ w.heap.size ≤ w'.heap.size ∧ fr A i w v w') ∧ ((posts V (ad i (LS listed))).getD i (fun _ _ => True)) v w') (fun v w' h0 h1 h2 h3 h4 => ⟨v, rfl, ⟨h0, h1, h2, h4⟩, h3⟩)
      rw [if_pos hw] at hgo
      exact wp_carry (R := fun v w' => (C (ad i (LS listed)) w' ∧ (∀ j, LS listed j → ((posts V (ad i (LS listed))).getD j (fun _ _ => True)) (V j) w') ∧ w.heap.size ≤ w'.heap.size ∧ fr A i w v w') ∧ ((posts V (ad i (LS listed))).getD i (fun _ _ => True)) v w') hEx (by rw [hI.tmps, putAll_size]) hgo (fun v w' ⟨h1, h2⟩ => hnext v w' h1 h2)
    · rename_i hw
      have hgo := hgo (fun b w' => ∃ v, b = (putAll (ops.toList.take i) V 0 a0).put ops[i].dst v ∧ (C (ad i (LS listed)) w' ∧ (∀ j, LS listed j → ((posts V (ad i (LS listed))).getD j (fun _ _ => True)) (V j) w') ∧ w.heap.size ≤ w'.heap.size ∧ fr A i w v w') ∧ ((posts V (ad i (LS listed))).getD i (fun _ _ => True)) v w')
        (fun v w' h0 h1 h2 h3 h4 => ⟨v, rfl, ⟨h0, h1, h2, h4⟩, h3⟩)
      rw [if_neg hw] at hgo
      obtain ⟨v, h1, h2, h3⟩ := hgo
      have e : a.put ops[i].dst undef = a.put ops[i].dst v := by
        cases hd : ops[i].dst with
        | none => rfl
        | some d =>
          rw [hd] at h1
          have hlt : d < (putAll (ops.toList.take i) V 0 a0).tmps.size := by rw [putAll_size, hN]; exact (hok _ _ ho).dst d hd
          have := congrArg (fun x : Act => x.tmps[d]?) h1
          simp only [put_get hlt] at this
          rw [Option.some.inj this]
      rw [e]
      exact hnext v w h2 h3

theorem wp_region_uv_tail {id : Nat} {Q : Exit → Act → World → Prop} {w0 : World} (T : Nat) (C : (Nat → Prop) → World → Prop) (posts : (Nat → Value) → (Nat → Prop) → List (Value → World → Prop)) (A : List Nat) (dl : List (List Nat)) (N : Nat)
    (hm : P.follows .mixedOrders = true) (hN : a0.tmps.size = N)
    (hchk : (rgCheck ops dl N && decide (T < ops.size) && Region.sinkB .any ops T && Region.chainB .any ops T && Region.seqB .any ops (ops.size - T) T ((Array.range ops.size).map (fun i => decide (i < T)))) = true) (hpl : ∀ V S, (posts V S).length = T)
    (hC0 : ∀ S : Nat → Prop, (∀ k, ¬ S k) → C S w0.drew) (hPc : ∀ V S i v j, i ∉ dl.getD j [] → (posts (fun k => if k = i then v else V k) S).getD j (fun _ _ => True) = (posts V S).getD j (fun _ _ => True)) (hgoals : ∀ V, uvGoals P ops C (posts V) A dl V (ops.toList.take T) dl 0 a0)
    (hQ : ∀ V S w, (∀ j, j < (posts V S).length → S j) → C S w → postsHold V w (posts V S) 0 → (∀ i j, i < (posts V S).length → j < (posts V S).length → A.contains i = true → A.contains j = true → i ≠ j → blkOf (V i) ≠ blkOf (V j)) → wpList P ops Q (ops.toList.drop T) (putAll (ops.toList.take T) V 0 a0) w) : (Code.region id ops true).wp P Q a0 w0 := by
  simp only [Bool.and_eq_true, decide_eq_true_eq] at hchk
  obtain ⟨⟨⟨⟨h1, hT⟩, h2⟩, h3⟩, h4⟩ := hchk
  obtain ⟨hdl, hok⟩ := rgOk_of_check h1
  have inv0 : HeadInv .any ops T (Array.replicate ops.size false) :=
    ⟨by simp, fun j oj _ hl => (by rw [getD_replicate_false] at hl; cases hl), fun t _ ht => getD_in (by simpa using ht) (getD_replicate_false _ _)⟩
  have hcnt : (List.range T).countP (fun i => (Array.replicate ops.size false)[i]? != some true) = T := by
    have : (List.range T).countP (fun i => (Array.replicate ops.size false)[i]? != some true) = (List.range T).length := by
      rw [List.countP_eq_length]
      intro i hi
      simp [Array.getElem?_replicate]
    rw [this]; simp
  have := uv_walk_tail (Q := Q) hN hok hdl hpl hT h2 h3 h4 hPc hgoals hQ T _ a0 _ (fun _ => undef) hcnt inv0 ⟨by simp, rfl, rfl, hC0 _ (fun k hk => by simp [LS, Array.getElem?_replicate] at hk), ?_, ?_, fun _ _ => rfl, ?_, ?_, ?_⟩
  · refine wp_region_any hm ?_
    rw [show T + (ops.size - T) = ops.size by omega] at this
    exact this
  · intro j o hj hl
    simp [Array.getElem?_replicate] at hl
  · intro j o hj hl
    simp [Array.getElem?_replicate] at hl
  · intro j o hj hl
    simp [Array.getElem?_replicate] at hl
  · intro j hj hl
    simp [Array.getElem?_replicate] at hl
  · intro j j2 hj hj2 hne hl
    simp [Array.getElem?_replicate] at hl


def uvnGoals (P : Program) (ops : Array Oper) (C : (Nat → Prop) → World → Prop) (all : (Nat → Prop) → List (Value → World → Prop)) (A : List Nat) (dl0 : List (List Nat)) (V : Nat → Value) : List Oper → List (List Nat) → Nat → List (Nat × Value) → Prop
  | o :: os, d :: ds, i, L =>
    (∀ (S : Nat → Prop) w, C S w → UvS all A dl0 V S w → (∀ k, k ∈ d → S k) → ¬ S i → unOp P ops L o w (fun v w' => (C (ad i S) w' ∧ (∀ j, S j → ((all (ad i S)).getD j (fun _ _ => True)) (V j) w') ∧ w.heap.size ≤ w'.heap.size) ∧ ((all (ad i S)).getD i (fun _ _ => True)) v w' ∧ fr A i w v w')) ∧
    uvnGoals P ops C all A dl0 V os ds (i + 1) (ins o.dst (V i) L)
  | _, _, _, _ => True

theorem uvn_rg {V : Nat → Value} {dl0 : List (List Nat)} : ∀ (os : List Oper) (ds : List (List Nat)) (i : Nat) (L : List (Nat × Value)) (a : Act), Fr N a L → (∀ o ∈ os, dstOk N o.dst = true) → uvnGoals P ops C (posts V) A dl0 V os ds i L → uvGoals P ops C (posts V) A dl0 V os ds i a
  | [], _, _, _, _, _, _, _ => trivial
  | _ :: _, [], _, _, _, _, _, _ => trivial
  | o :: os, d :: ds, i, L, a, hf, hd, h => by
    refine ⟨fun S w hC hS hdp hi K hK => ?_, uvn_rg os ds (i + 1) _ _ (hf.ins (V i) (hd o (by simp))) (fun o' ho => hd o' (by simp [ho])) h.2⟩
    have h1 := h.1 S w hC hS hdp hi
    unfold unOp at h1
    cases hg : o.guard with
    | none =>
      rw [hg] at h1
      have hw : Region.wanted o (yielded ops a.tmps) = true := by simp [Region.wanted, hg]
      rw [if_pos hw]
      exact h1 a K _ (fun x v e => hf.ev e) (fun v w' hr => hK v w' hr.1.1 hr.1.2.1 hr.1.2.2 hr.2.1 hr.2.2)
    | some gw =>
      obtain ⟨g, want⟩ := gw
      rw [hg] at h1
      obtain ⟨ag, c, hy, ht, hfl⟩ := h1
      rw [wanted_of hf hg hy]
      cases hact : (ag && (c == want)) with
      | true => rw [if_pos rfl]; exact ht hact a K _ (fun x v e => hf.ev e) (fun v w' hr => hK v w' hr.1.1 hr.1.2.1 hr.1.2.2 hr.2.1 hr.2.2)
      | false => rw [if_neg (by simp)]; exact hK _ _ (hfl hact).1.1 (hfl hact).1.2.1 (hfl hact).1.2.2 (hfl hact).2.1 (hfl hact).2.2

theorem wp_region_vn {L0 : List (Nat × Value)} {id : Nat} {Q : Exit → Act → World → Prop} {w0 : World} (C : (Nat → Prop) → World → Prop) (posts : (Nat → Value) → (Nat → Prop) → List (Value → World → Prop)) (A : List Nat) (dl : List (List Nat)) (hf : Fr N a0 L0)
    (hm : P.follows .mixedOrders = true) (hchk : (rgCheck ops dl N && ops.toList.all (fun o => dstOk N o.dst)) = true) (hpl : ∀ V S, (posts V S).length = ops.size)
    (hC0 : ∀ S : Nat → Prop, (∀ k, ¬ S k) → C S w0.drew) (hPc : ∀ V S i v j, i ∉ dl.getD j [] → (posts (fun k => if k = i then v else V k) S).getD j (fun _ _ => True) = (posts V S).getD j (fun _ _ => True)) (hgoals : ∀ V, uvnGoals P ops C (posts V) A dl V ops.toList dl 0 L0)
    (hQ : ∀ V S w a, (∀ j, j < (posts V S).length → S j) → C S w → postsHold V w (posts V S) 0 → (∀ i j, i < (posts V S).length → j < (posts V S).length → A.contains i = true → A.contains j = true → i ≠ j → blkOf (V i) ≠ blkOf (V j)) → Fr N a (insAll ops.toList V 0 L0) → Q .normal a w) : (Code.region id ops true).wp P Q a0 w0 := by
  rw [Bool.and_eq_true, List.all_eq_true] at hchk
  exact wp_region_uv C posts A dl N hm hf.size hchk.1 hpl hC0 hPc (fun V => uvn_rg _ _ _ _ _ hf hchk.2 (hgoals V)) (fun V S w hj hc hp hn => hQ V S w _ hj hc hp hn (un_fr _ _ _ _ hf hchk.2))

theorem wp_region_vnT {L0 : List (Nat × Value)} {id : Nat} {Q : Exit → Act → World → Prop} {w0 : World} (T : Nat) (C : (Nat → Prop) → World → Prop) (posts : (Nat → Value) → (Nat → Prop) → List (Value → World → Prop)) (A : List Nat) (dl : List (List Nat)) (hf : Fr N a0 L0)
    (hm : P.follows .mixedOrders = true)
    (hchk : (rgCheck ops dl N && decide (T < ops.size) && Region.sinkB .any ops T && Region.chainB .any ops T && Region.seqB .any ops (ops.size - T) T ((Array.range ops.size).map (fun i => decide (i < T)))) = true) (hdst : ops.toList.all (fun o => dstOk N o.dst) = true) (hpl : ∀ V S, (posts V S).length = T)
    (hC0 : ∀ S : Nat → Prop, (∀ k, ¬ S k) → C S w0.drew) (hPc : ∀ V S i v j, i ∉ dl.getD j [] → (posts (fun k => if k = i then v else V k) S).getD j (fun _ _ => True) = (posts V S).getD j (fun _ _ => True)) (hgoals : ∀ V, uvnGoals P ops C (posts V) A dl V (ops.toList.take T) dl 0 L0)
    (hQ : ∀ V S w a, (∀ j, j < (posts V S).length → S j) → C S w → postsHold V w (posts V S) 0 → (∀ i j, i < (posts V S).length → j < (posts V S).length → A.contains i = true → A.contains j = true → i ≠ j → blkOf (V i) ≠ blkOf (V j)) → Fr N a (insAll (ops.toList.take T) V 0 L0) → wpList P ops Q (ops.toList.drop T) a w) : (Code.region id ops true).wp P Q a0 w0 := by
  rw [List.all_eq_true] at hdst
  exact wp_region_uv_tail T C posts A dl N hm hf.size hchk hpl hC0 hPc (fun V => uvn_rg _ _ _ _ _ hf (fun o ho => hdst o (List.mem_of_mem_take ho)) (hgoals V)) (fun V S w hj hc hp hn => hQ V S w _ hj hc hp hn (un_fr _ _ _ _ hf (fun o ho => hdst o (List.mem_of_mem_take ho))))

/-- An operation that writes nothing that was there. -/
theorem uv_plain {all : (Nat → Prop) → List (Value → World → Prop)} {dl0 : List (List Nat)} {V : Nat → Value} {S : Nat → Prop} {w : World} {L : List (Nat × Value)} {o : Oper} {i : Nat} (hK : ∀ j v w', ((all S).getD j (fun _ _ => True)) v w → Below w.heap.size w w' → ((all (ad i S)).getD j (fun _ _ => True)) v w') (hCB : ∀ w', C S w → Below w.heap.size w w' → C (ad i S) w') (hC : C S w) (hS : UvS all A dl0 V S w)
    (h : unOp P ops L o w (fun v w' => Below w.heap.size w w' ∧ ((all (ad i S)).getD i (fun _ _ => True)) v w' ∧ fr A i w v w')) : unOp P ops L o w (fun v w' => (C (ad i S) w' ∧ (∀ j, S j → ((all (ad i S)).getD j (fun _ _ => True)) (V j) w') ∧ w.heap.size ≤ w'.heap.size) ∧ ((all (ad i S)).getD i (fun _ _ => True)) v w' ∧ fr A i w v w') := by
  have key : ∀ v w', (Below w.heap.size w w' ∧ ((all (ad i S)).getD i (fun _ _ => True)) v w' ∧ fr A i w v w') → ((C (ad i S) w' ∧ (∀ j, S j → ((all (ad i S)).getD j (fun _ _ => True)) (V j) w') ∧ w.heap.size ≤ w'.heap.size) ∧ ((all (ad i S)).getD i (fun _ _ => True)) v w' ∧ fr A i w v w') :=
    fun v w' h => ⟨⟨hCB w' hC h.1, fun j hj => hK j _ w' (hS.post j hj) h.1, h.1.size⟩, h.2⟩
  unfold unOp at h ⊢
  cases hg : o.guard with
  | none => rw [hg] at h; exact Does.mono h key
  | some gw =>
    rw [hg] at h
    obtain ⟨ag, c, hy, ht, hfl⟩ := h
    exact ⟨ag, c, hy, fun ha => Does.mono (ht ha) key, fun ha => key _ _ (hfl ha)⟩
end

/-- A slice's literal without elements. -/
theorem d_bslice0 {P : Program} {L : List (Nat × Value)} {w : World} {d : Option Tmp} {ty : TypeId} {ps : String} {af : Array Edge} {gu : Option (Nat × Bool)} {t e : TypeId} {sz : Nat} (ht : P.underlying t = some (.slice e)) (hi : (P.info? e).map (fun i => i.size) = some sz) :
    Does P L ⟨d, .buildSlice t 0 #[], ty, ps, af, gu⟩ w (fun v w' => ∃ b, v = .slice (some ⟨b, 0, none⟩) 0 0 ∧ Fresh w #[] e b w') := by
  obtain ⟨ie, hie⟩ : ∃ ie, P.info? e = some ie := by
    cases hh : P.info? e with
    | none => rw [hh] at hi; cases hi
    | some ie => exact ⟨ie, rfl⟩
  refine Runs.does (v := .slice (some ⟨w.heap.size, 0, none⟩) 0 0) (w' := w.alloc (.cells #[] e)) (fun ρ hρ => ?_) ⟨_, rfl, fresh_alloc _ _ _⟩
  simp [execOp, Instr.buildSlice, run_underlying ht, sizeOf, typeInfo, hie, newRow, Instr.fill]
  rw [show (Array.range 0) = #[] from by simp]; simp
theorem grown_trans {w w' w'' : World} {r : Option Nat} (h1 : w.grownBy w' r) (h2 : w'.grownBy w'' r) : w.grownBy w'' r :=
  ⟨h2.os.trans h1.os, h2.tape.trans h1.tape, h2.output.trans h1.output, Nat.le_trans h1.size h2.size, fun k hk hne => (h2.block k (Nat.lt_of_lt_of_le hk h1.size) hne).trans (h1.block k hk hne)⟩
end Go.Proofs.Ytbllifhcfgjdlaa
