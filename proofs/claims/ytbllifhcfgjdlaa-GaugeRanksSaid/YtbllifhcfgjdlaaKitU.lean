/-
  What is proved here: the same law, where the first operation may come at any time.
-/
import Derived.Test.YtbllifhcfgjdlaaKitT
namespace Go.Proofs.Ytbllifhcfgjdlaa
open Go.RowKit
set_option linter.unusedVariables false
set_option linter.unusedSimpArgs false

section
variable {P : Program} {ops : Array Oper} {C : World → Prop} {G : World → World → Prop} {posts : List (Value → World → Prop)} {dl : List (List Nat)} {N T : Nat} {a0 : Act}

theorem getD_set_tt {listed : Array Bool} {i j : Nat} (h : listed.getD j true = true) : (listed.setIfInBounds i true).getD j true = true := by
  rw [Array.getD_eq_getD_getElem?] at *
  rw [Array.getElem?_setIfInBounds]
  split
  · split <;> rfl
  · exact h

theorem getD_set_same {n : Nat} : ((Array.replicate n false).setIfInBounds 0 true).getD 0 true = true := by
  rw [Array.getD_eq_getD_getElem?, Array.getElem?_setIfInBounds]
  split
  · split <;> rfl
  · contradiction

def sinkB1 (ops : Array Oper) (n : Nat) : Bool :=
  (List.range n).all fun i => i == 0 || (List.range (n + 1)).any fun j => decide (i < j) && Region.waitsFor .any ops j i

theorem tail_waits1 {n : Nat} {listed : Array Bool} (hs : sinkB1 ops n = true) (hc : Region.chainB .any ops n = true) (hn : n < ops.size) (inv : HeadInv .any ops n listed) (h0 : listed.getD 0 true = true) :
    ∀ (d i : Nat), n - i = d → i < n → listed.getD i true = false → ∀ t, n ≤ t → t ∉ Region.ready .any ops listed := by
  intro d
  induction d using Nat.strongRecOn with
  | _ d ih =>
    intro i hd hi hun t ht hr
    have hi0 : i ≠ 0 := by
      rintro rfl
      rw [h0] at hun; cases hun
    obtain ⟨_, ot, hot, hall⟩ := mem_ready.1 hr
    have htlt : t < ops.size := (Array.getElem?_eq_some_iff.1 hot).1
    by_cases htn : t = n
    · subst htn
      have h1 := List.all_eq_true.1 hs i (List.mem_range.2 hi)
      simp only [Bool.or_eq_true, beq_iff_eq, hi0, false_or] at h1
      obtain ⟨j, hj, hj2⟩ := List.any_eq_true.1 h1
      simp only [Bool.and_eq_true, decide_eq_true_eq] at hj2
      obtain ⟨oj, hoj, e, he, hb, hon⟩ := Region.waitsFor_spec hj2.2
      have hjle : j ≤ t := by have := List.mem_range.1 hj; omega
      by_cases hjt : j = t
      · subst hjt
        have : oj = ot := Option.some.inj (hoj.symm.trans hot)
        subst this
        have h2 := hall e he hb
        rw [hon, getD_both hun] at h2
        cases h2
      · cases hl : listed.getD j false with
        | true =>
          have h2 := inv.closed j oj hoj hl e he hb
          rw [hon, getD_both hun] at h2
          cases h2
        | false =>
          have hjs : j < listed.size := by rw [inv.size]; omega
          exact ih (t - j) (by omega) j rfl (by omega) (getD_in hjs hl) t (Nat.le_refl _) hr
    · have h1 := List.all_eq_true.1 hc t (List.mem_range.2 htlt)
      simp only [Bool.or_eq_true, decide_eq_true_eq] at h1
      rcases h1 with h1 | h1
      · omega
      · obtain ⟨o', ho', e, he, hb, hon⟩ := Region.waitsFor_spec h1
        have : o' = ot := Option.some.inj (ho'.symm.trans hot)
        subst this
        have h2 := hall e he hb
        rw [hon, getD_both (inv.tail (t - 1) (by omega) (by omega))] at h2
        cases h2

theorem rg_walk_tail1 {Q : Exit → Act → World → Prop} (hN : a0.tmps.size = N) (hok : ∀ i o, ops[i]? = some o → RgOk ops dl N i o) (hdl : dl.length = ops.size) (hpl : posts.length = T) (hT : T < ops.size)
    (hs : sinkB1 ops T = true) (hc : Region.chainB .any ops T = true) (hseq : Region.seqB .any ops (ops.size - T) T ((Array.range ops.size).map (fun i => decide (i < T))) = true)
    (hC : ∀ w w', C w → G w w' → C w') (hP : postsKept G posts) (hgoals : ∀ V, rgGoals P ops C G posts V (ops.toList.take T) posts dl 0 a0)
    (hQ : ∀ V w, C w → postsHold V w posts 0 → wpList P ops Q (ops.toList.drop T) (putAll (ops.toList.take T) V 0 a0) w) :
    ∀ (fuel : Nat) (listed : Array Bool) (a : Act) (w : World) (V : Nat → Value), (List.range T).countP (fun i => listed[i]? != some true) = fuel → HeadInv .any ops T listed → listed.getD 0 true = true → RgInv ops C posts a0 V listed a w → wpAny P .any ops Q (fuel + (ops.size - T)) listed a w := by
  -- what stands when the head is listed
  have fin : ∀ (listed : Array Bool) (a : Act) (w : World) (V : Nat → Value), HeadInv .any ops T listed → RgInv ops C posts a0 V listed a w → (∀ i, i < T → listed[i]? = some true) → wpAny P .any ops Q (0 + (ops.size - T)) listed a w := by
    intro listed a w V inv hI hall
    have hnone : ∀ j, T ≤ j → listed[j]? ≠ some true := by
      intro j hj h
      by_cases hjs : j < ops.size
      · have h1 := inv.tail j hj hjs
        rw [Array.getD_eq_getD_getElem?, h] at h1
        cases h1
      · have hsz := inv.size
        rw [Array.getElem?_eq_none (by omega)] at h
        cases h
    have hmem : ∀ m o, (ops.toList.take T)[m]? = some o → m < T ∧ ops[m]? = some o := by
      intro m o hm
      rw [List.getElem?_take] at hm
      split at hm
      · exact ⟨by assumption, by simpa using hm⟩
      · cases hm
    have ha : a = putAll (ops.toList.take T) V 0 a0 := by
      have h1 : a.tmps = (putAll (ops.toList.take T) V 0 a0).tmps := by
        apply Array.ext_getElem?
        intro t
        by_cases hex : ∃ (j : Nat) (oj : Oper), ops[j]? = some oj ∧ oj.dst = some t ∧ j < T
        · obtain ⟨j, oj, hj, hjd, hjT⟩ := hex
          rw [hI.got j oj hj (hall j hjT) t hjd]
          rw [putAll_get_some V _ 0 a0 j oj (by rw [List.getElem?_take, if_pos hjT]; simpa using hj) hjd (by rw [hN]; exact (hok _ _ hj).dst t hjd)
            (fun m' o' hm' hne hd' => (hok _ _ hj).one m' o' (hmem m' o' hm').2 hne t hd' hjd)]
          simp
        · rw [hI.same t (fun j' o' hj' hl' hd' => hex ⟨j', o', hj', hd', by
            rcases Nat.lt_or_ge j' T with h | h
            · exact h
            · exact absurd hl' (hnone j' h)⟩), putAll_get_none V _ 0 a0 (fun m o' hm hd' => hex ⟨m, o', (hmem m o' hm).2, hd', (hmem m o' hm).1⟩)]
      have h2 : a.defers = (putAll (ops.toList.take T) V 0 a0).defers := hI.defers.trans (putAll_defers V _ _ _).symm
      cases a; simp only at h1 h2; subst h1 h2; rfl
    have hq := hQ V w hI.c (postsHold_of posts 0 (fun j p hj => by
      have hlt : j < T := by rw [← hpl]; exact (List.getElem?_eq_some_iff.1 hj).1
      have := hI.post j ops[j] (Array.getElem?_eq_getElem (by omega)) (hall j hlt)
      rw [Nat.zero_add]
      simpa [List.getD_eq_getElem?_getD, hj] using this))
    rw [ha]
    have hdl2 : (ops.toList.drop T).length = ops.size - T := by simp
    have hall2 := headInv_all inv hall (by omega)
    have := wpAny_of_seq (md := .any) (Q' := Q) (ops.toList.drop T) T listed _ w (fun j => by simp [List.getElem?_drop]) (by rw [hdl2, hall2]; exact hseq) hq
    rw [hdl2] at this
    rw [Nat.zero_add]
    exact this
  intro fuel
  induction fuel with
  | zero =>
    intro listed a w V hc0 inv h00 hI
    refine fin listed a w V inv hI (fun i hi => ?_)
    rw [List.countP_eq_zero] at hc0
    simpa using hc0 i (by simpa using hi)
  | succ fuel ih =>
    intro listed a w V hc0 inv h00 hI
    obtain ⟨i0, hi0, hun0⟩ : ∃ i0, i0 < T ∧ listed.getD i0 true = false := by
      have hpos : 0 < (List.range T).countP (fun i => listed[i]? != some true) := by omega
      rw [List.countP_pos_iff] at hpos
      obtain ⟨i0, h1, h2⟩ := hpos
      have h1 : i0 < T := by simpa using h1
      refine ⟨i0, h1, ?_⟩
      rw [Array.getD_eq_getD_getElem?]
      rw [Array.getElem?_eq_getElem (by rw [hI.size]; omega)] at h2 ⊢
      simpa using h2
    have hready := tail_waits1 hs hc hT inv h00 _ i0 rfl hi0 hun0
    rw [show fuel + 1 + (ops.size - T) = (fuel + (ops.size - T)) + 1 by omega]
    refine ⟨fun hr => ?_, fun i hi => ?_⟩
    · exfalso
      have done : ∀ i, i < ops.size → listed[i]? = some true := by
        intro i
        induction i using Nat.strongRecOn with
        | ind i ih =>
          intro hi
          by_cases h : listed[i]? = some true
          · exact h
          exfalso
          have hmem : i ∈ Region.ready .any ops listed := by
            unfold Region.ready
            rw [List.mem_filter]
            refine ⟨by simpa using hi, ?_⟩
            have hl : listed.getD i true = false := by
              rw [Array.getD_eq_getD_getElem?]
              rw [Array.getElem?_eq_getElem (by rw [hI.size]; omega)] at h ⊢
              simpa using h
            rw [hl, Array.getElem?_eq_getElem hi]
            simp only [Bool.not_false, Bool.true_and, Option.map_some, Option.getD_some]
            rw [Array.all_eq_true']
            intro e he
            by_cases hb : Region.binds .any e = true
            · have hp := pre_spec he hb
              have hlt := (hok _ _ (Array.getElem?_eq_getElem hi)).lt e.on hp
              rw [Array.getD_eq_getD_getElem?, ih e.on hlt (by omega)]
              simp
            · simp [hb]
          rw [hr] at hmem
          exact absurd hmem (by simp)
      have h1 := inv.tail T (Nat.le_refl _) hT
      rw [Array.getD_eq_getD_getElem?, done T hT] at h1
      cases h1
    have hiT : i < T := by
      rcases Nat.lt_or_ge i T with h | h
      · exact h
      · exact absurd hi (hready i h)
    have inv' := inv.set hi hiT
    unfold Region.ready at hi
    rw [List.mem_filter] at hi
    obtain ⟨hir, hi2⟩ := hi
    have hir : i < ops.size := by simpa using hir
    rw [Bool.and_eq_true] at hi2
    obtain ⟨hnl, haft⟩ := hi2
    have hnl' : listed[i]? = some false := by
      rw [Array.getD_eq_getD_getElem?, Array.getElem?_eq_getElem (by rw [hI.size]; exact hir)] at hnl
      rw [Array.getElem?_eq_getElem (by rw [hI.size]; exact hir)]
      simpa using hnl
    have ho : ops[i]? = some ops[i] := Array.getElem?_eq_getElem hir
    have hpre : ∀ k, pre ops[i] k = true → listed[k]? = some true := by
      intro k hk
      obtain ⟨e, he, rfl, hb⟩ := pre_mem hk
      rw [ho, Option.map_some, Option.getD_some, Array.all_eq_true'] at haft
      have := haft e he
      simp only [hb, Bool.not_true, Bool.false_or, Array.getD_eq_getD_getElem?] at this
      have hlt := (hok _ _ ho).lt e.on hk
      rw [Array.getElem?_eq_getElem (by rw [hI.size]; omega)] at this ⊢
      simpa using this
    have hilt : i < listed.size := by rw [hI.size]; exact hir
    -- the step
    have hp : posts[i]? = some (posts.getD i (fun _ _ => True)) := by
      have : i < posts.length := by omega
      simp [this]
    have hd : dl[i]? = some (dl.getD i []) := by
      have : i < dl.length := by omega
      simp [this]
    have hlook := hI.looks hN hok ho (by rw [hnl']; simp) hpre
    have hgo := rgGoals_at (ops.toList.take T) posts dl 0 a0 (hgoals V) i ops[i] _ _ (by rw [List.getElem?_take, if_pos hiT]; simp) hp hd w hI.c
      (depsHold_of _ (fun j hj => by
        have h1 := hpre j ((hok _ _ ho).dl j hj)
        have hlt : j < ops.size := by have := (hok _ _ ho).lt j ((hok _ _ ho).dl j hj); omega
        exact hI.post j ops[j] (Array.getElem?_eq_getElem hlt) h1))
    rw [List.take_take, Nat.min_eq_left (Nat.le_of_lt hiT)] at hgo
    -- the invariant behind it
    have hnext : ∀ v w', (C w' ∧ (∀ j v, (posts.getD j (fun _ _ => True)) v w → (posts.getD j (fun _ _ => True)) v w')) → (posts.getD i (fun _ _ => True)) v w' → wpAny P .any ops Q (fuel + (ops.size - T)) (listed.setIfInBounds i true) (a.put ops[i].dst v) w' := by
      rintro v w' ⟨hc', hkeep⟩ hpv
      refine ih _ _ _ (fun k => if k = i then v else V k) ?_ inv' (getD_set_tt h00) ?_
      · have hlt : (List.range T).countP (fun k => (listed.setIfInBounds i true)[k]? != some true) + 1 = (List.range T).countP (fun k => listed[k]? != some true) := by
          rw [List.countP_eq_length_filter, List.countP_eq_length_filter]
          have hsub : (List.range T).filter (fun k => (listed.setIfInBounds i true)[k]? != some true) = ((List.range T).filter (fun k => listed[k]? != some true)).erase i := by
            rw [(List.Nodup.sublist List.filter_sublist List.nodup_range).erase_eq_filter, List.filter_filter]
            apply List.filter_congr
            intro k hk
            by_cases e : k = i
            · subst e; simp [hilt]
            · rw [Array.getElem?_setIfInBounds_ne (Ne.symm e)]; simp [e]
          rw [hsub, List.length_erase_of_mem (by rw [List.mem_filter]; exact ⟨by simpa using hiT, by rw [hnl']; rfl⟩)]
          have : 0 < ((List.range T).filter (fun k => listed[k]? != some true)).length :=
            List.length_pos_of_mem (a := i) (by rw [List.mem_filter]; exact ⟨by simpa using hiT, by rw [hnl']; rfl⟩)
          omega
        omega
      · refine ⟨by simp [hI.size], by rw [put_size, hI.tmps], by rw [put_defers, hI.defers], hc', ?_, ?_, ?_, ?_⟩
        · intro j o hj hl t ht
          rcases (Array.get?_setTrue hilt).1 hl with rfl | hl2
          · rw [ho] at hj; cases hj
            simp only [if_true]
            rw [ht]; exact put_get (by rw [hI.tmps, hN]; exact (hok _ _ ho).dst t ht)
          · have hji : j ≠ i := fun e => by rw [e, hnl'] at hl2; cases hl2
            rw [if_neg hji, put_get_ne ((hok _ _ ho).one j o hj hji t ht)]
            exact hI.got j o hj hl2 t ht
        · intro j o hj hl
          rcases (Array.get?_setTrue hilt).1 hl with rfl | hl2
          · simp only [if_true]; exact hpv
          · have hji : j ≠ i := fun e => by rw [e, hnl'] at hl2; cases hl2
            simp only [if_neg hji]
            exact hkeep j _ (hI.post j o hj hl2)
        · intro t ht
          rw [put_get_ne (ht i _ ho ((Array.get?_setTrue hilt).2 (.inl rfl)))]
          exact hI.same t (fun j o hj hl => ht j o hj ((Array.get?_setTrue hilt).2 (.inr hl)))
        · intro j o hj hl k hk
          rw [Array.get?_setTrue hilt]
          rcases (Array.get?_setTrue hilt).1 hl with rfl | hl2
          · rw [ho] at hj; cases hj
            exact .inr (hpre k hk)
          · exact .inr (hI.down j o hj hl2 k hk)
    unfold wpOp
    rw [ho]
    show if Region.wanted ops[i] (yielded ops a.tmps) = true then _ else _
    have hsel := (hok _ _ ho).sel
    have hEx : execOp a.eval ops[i] = execOp (putAll (ops.toList.take i) V 0 a0).eval ops[i] :=
      execOp_congr ops[i] hsel (fun x hx => eval_congr_get (fun t ht => hlook t (by
        subst ht
        exact List.mem_append_left _ (List.mem_filterMap.2 ⟨.tmp t, by simpa using hx, rfl⟩))))
    rw [yielded_congr hlook]
    split
    · rename_i hw
      left
      have hgo := hgo (fun b w' => ∃ v, b = (putAll (ops.toList.take i) V 0 a0).put ops[i].dst v ∧ G w w' ∧ (posts.getD i (fun _ _ => True)) v w') (fun v w' h1 h2 => ⟨v, rfl, h1, h2⟩)
      rw [if_pos hw] at hgo
      exact wp_carry (R := fun v w' => G w w' ∧ (posts.getD i (fun _ _ => True)) v w') hEx (by rw [hI.tmps, putAll_size]) hgo
        (fun v w' ⟨h1, h2⟩ => hnext v w' ⟨hC w w' hI.c h1, fun j v hj => postsKept_at posts hP j v w w' hj h1⟩ h2)
    · rename_i hw
      have hgo := hgo (fun b w' => ∃ v, b = (putAll (ops.toList.take i) V 0 a0).put ops[i].dst v ∧ (C w' ∧ (∀ j v, (posts.getD j (fun _ _ => True)) v w → (posts.getD j (fun _ _ => True)) v w')) ∧ (posts.getD i (fun _ _ => True)) v w')
        (fun v w' h1 h2 => ⟨v, rfl, ⟨hC w w' hI.c h1, fun j v hj => postsKept_at posts hP j v w w' hj h1⟩, h2⟩)
      rw [if_neg hw] at hgo
      obtain ⟨v, h1, h2, h3⟩ := hgo
      have e : a.put ops[i].dst undef = a.put ops[i].dst v := by
        cases hd : ops[i].dst with
        | none => rfl
        | some d =>
          rw [hd] at h1
          have hlt : d < (putAll (ops.toList.take i) V 0 a0).tmps.size := by rw [putAll_size, hN]; exact (hok _ _ ho).dst d hd
          have := congrArg (fun x : Act => x.tmps[d]?) h1
          simp only [put_get hlt] at this
          rw [Option.some.inj this]
      rw [e]
      exact hnext v w h2 h3

theorem wp_region_rg_tail1 {id : Nat} {Q : Exit → Act → World → Prop} {w0 : World} (T : Nat) (C : World → Prop) (G : World → World → Prop) (posts : List (Value → World → Prop)) (dl : List (List Nat)) (N : Nat) {o0 : Oper} {v0 : Value}
    (hm : P.follows .mixedOrders = true) (hN : a0.tmps.size = N) (h0 : ops[0]? = some o0) (hy : Yields P ops o0 v0 a0) (hQp : ∀ c a w, Q (.panic c) (a.put o0.dst v0) w → Q (.panic c) a w)
    (hchk : (rgCheck ops dl N && decide (0 < T) && decide (T < ops.size) && sinkB1 ops T && Region.chainB .any ops T && Region.seqB .any ops (ops.size - T) T ((Array.range ops.size).map (fun i => decide (i < T))) && Region.noSelect ops && (Region.ready .any ops (Array.replicate ops.size false)).contains 0 && Region.free .any ops (Array.replicate ops.size false) 0) = true) (hpl : posts.length = T)
    (hC0 : C w0.drew) (hp0 : (posts.getD 0 (fun _ _ => True)) v0 w0.drew) (hC : ∀ w w', C w → G w w' → C w') (hP : postsKept G posts) (hgoals : ∀ V, rgGoals P ops C G posts V (ops.toList.take T) posts dl 0 a0)
    (hQ : ∀ V w, C w → postsHold V w posts 0 → wpList P ops Q (ops.toList.drop T) (putAll (ops.toList.take T) V 0 a0) w) : (Code.region id ops true).wp P Q a0 w0 := by
  simp only [Bool.and_eq_true, decide_eq_true_eq] at hchk
  obtain ⟨⟨⟨⟨⟨⟨⟨⟨h1, hT0⟩, hT⟩, h2⟩, h3⟩, h4⟩, h5⟩, h6⟩, h7⟩ := hchk
  obtain ⟨hdl, hok⟩ := rgOk_of_check h1
  have hr0 : 0 ∈ Region.ready .any ops (Array.replicate ops.size false) := by simpa using h6
  have hpos : 0 < ops.size := by omega
  have inv0 : HeadInv .any ops T (Array.replicate ops.size false) :=
    ⟨by simp, fun j oj _ hl => (by rw [getD_replicate_false] at hl; cases hl), fun t _ ht => getD_in (by simpa using ht) (getD_replicate_false _ _)⟩
  have inv1 := inv0.set hr0 hT0
  have hno : ∀ k, pre o0 k = false := by
    intro k
    cases hk : pre o0 k with
    | false => rfl
    | true => exact absurd ((hok _ _ h0).lt k hk) (by omega)
  refine wp_region_any hm ?_
  rw [show ops.size = (ops.size - 1) + 1 by omega]
  have hsz : (Array.replicate ((ops.size - 1) + 1) false : Array Bool) = Array.replicate ops.size false := by congr 1; omega
  rw [hsz]
  refine wpAny_first h0 (Region.noSelect_spec h5) hQp (ops.size - 1) _ a0 _ (Region.free_spec h0 h7) hr0 hy ?_
  have hcnt : (List.range T).countP (fun i => ((Array.replicate ops.size false).setIfInBounds 0 true)[i]? != some true) = T - 1 := by
    obtain ⟨T', rfl⟩ : ∃ T', T = T' + 1 := ⟨T - 1, by omega⟩
    rw [List.range_succ_eq_map, List.countP_cons, List.countP_map]
    have e1 : (List.range T').countP ((fun i => ((Array.replicate ops.size false).setIfInBounds 0 true)[i]? != some true) ∘ Nat.succ) = (List.range T').length := by
      rw [List.countP_eq_length]
      intro i hi
      simp [Array.getElem?_setIfInBounds, Array.getElem?_replicate]
    rw [e1]
    simp [Array.getElem?_setIfInBounds, hpos]
  have := rg_walk_tail1 (Q := Q) hN hok hdl hpl hT h2 h3 h4 hC hP hgoals hQ (T - 1) _ (a0.put o0.dst v0) w0.drew (fun _ => v0) hcnt inv1 getD_set_same ⟨by simp, by rw [put_size], by rw [put_defers], hC0, ?_, ?_, ?_, ?_⟩
  · rw [show T - 1 + (ops.size - T) = ops.size - 1 by omega] at this
    exact this
  · intro j o hj hl t ht
    have hj0 : j = 0 := by
      rcases (Array.get?_setTrue (by simpa using hpos)).1 hl with h | h
      · exact h
      · simp [Array.getElem?_replicate] at h
    subst hj0
    rw [h0] at hj; cases hj
    rw [ht]; exact put_get (by rw [hN]; exact (hok _ _ h0).dst t ht)
  · intro j o hj hl
    have hj0 : j = 0 := by
      rcases (Array.get?_setTrue (by simpa using hpos)).1 hl with h | h
      · exact h
      · simp [Array.getElem?_replicate] at h
    subst hj0
    exact hp0
  · intro t ht
    exact put_get_ne (ht 0 _ h0 ((Array.get?_setTrue (by simpa using hpos)).2 (.inl rfl)))
  · intro j o hj hl k hk
    have hj0 : j = 0 := by
      rcases (Array.get?_setTrue (by simpa using hpos)).1 hl with h | h
      · exact h
      · simp [Array.getElem?_replicate] at h
    subst hj0
    rw [h0] at hj; cases hj
    rw [hno k] at hk; cases hk
end
end Go.Proofs.Ytbllifhcfgjdlaa
