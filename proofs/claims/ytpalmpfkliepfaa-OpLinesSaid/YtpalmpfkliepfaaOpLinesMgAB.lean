/- What is proved here: more rules over known values: a row of bytes as a string; guarded calls. What is proved here: what the texts of names (Show, Read), and the document's of them, come to. What is proved here: the document's Read of names; the law UtfShows is true. What is proved here: equality of structs, parts of structs in memory, and results that lie in cells. What is proved here: rules for arrays behind a pointer. What is proved here: a string appended to a row of bytes; bytes as numbers and back. What is proved here: arguments read as data of Lean, with what is known of their size: no slice that came in takes more bytes than a machine has. What is proved here: modules as plain values, and how they are read. What is proved here: numbers as digits: natural, Digits, nibble. What is proved here: library functions (laid by the kit's shelf). What is proved here: CutPrefix, Index, Count, Contains at one byte, in words of lists of numbers. -/
import Derived.Test.YtpalmpfkliepfaaOpLinesMgAA
import Derived.Laws.StructEq
import Derived.Lib.AppendStr
import Derived.SizedLaws
import Derived.Shelf.Strings.Builder1
import Derived.Shelf.Small.Wraps
import Derived.Shelf.Strings.Search3
import Derived.Shelf.Strings.Count
namespace Go.Proofs.Ytpalmpfkliepfaa
open Go.RowKit
set_option linter.unusedVariables false
set_option linter.unusedSimpArgs false

/-- The block that a value leads to. -/
def blkOf : Value → Option Nat
  | .slice (some a) _ _ => some a.block
  | .pointer (some a) => some a.block
  | _ => none
/-- Of the operations in A: the block is new. -/
def fr (A : List Nat) (i : Nat) (w : World) (v : Value) (w' : World) : Prop := A.contains i = true → ∃ b, blkOf v = some b ∧ w.heap.size ≤ b ∧ b < w'.heap.size

def ugGoals (P : Program) (ops : Array Oper) (C : World → Prop) (G : World → World → Prop) (all : List (Value → World → Prop)) (A : List Nat) (V : Nat → Value) :
    List Oper → List (Value → World → Prop) → List (List Nat) → Nat → Act → Prop
  | o :: os, p :: ps, d :: ds, i, a =>
    (∀ w, C w → depsHold V all w d → ∀ K : Act → World → Prop, (∀ v w', G w w' → p v w' → fr A i w v w' → K (a.put o.dst v) w') →
      if Region.wanted o (yielded ops a.tmps) = true then o.wp P a w K (fun _ _ _ => False) else K (a.put o.dst undef) w) ∧
    ugGoals P ops C G all A V os ps ds (i + 1) (a.put o.dst (V i))
  | _, _, _, _, _ => True


section
variable {P : Program} {ops : Array Oper} {C : World → Prop} {G : World → World → Prop} {posts : (Nat → Value) → List (Value → World → Prop)} {A : List Nat} {dl : List (List Nat)} {N T : Nat} {a0 : Act}

/-- The goals at number i. -/
theorem ugGoals_at {V : Nat → Value} : ∀ (os : List Oper) (ps : List (Value → World → Prop)) (ds : List (List Nat)) (k : Nat) (a : Act), ugGoals P ops C G (posts V) A V os ps ds k a →
    ∀ (m : Nat) (o : Oper) (p : Value → World → Prop) (d : List Nat), os[m]? = some o → ps[m]? = some p → ds[m]? = some d →
    ∀ w, C w → depsHold V (posts V) w d → ∀ K : Act → World → Prop, (∀ v w', G w w' → p v w' → fr A (k + m) w v w' → K ((putAll (os.take m) V k a).put o.dst v) w') →
      if Region.wanted o (yielded ops (putAll (os.take m) V k a).tmps) = true then o.wp P (putAll (os.take m) V k a) w K (fun _ _ _ => False) else K ((putAll (os.take m) V k a).put o.dst undef) w
  | [], _, _, _, _, _, m, o, p, d, h, _, _ => by simp at h
  | _ :: _, [], _, _, _, _, m, o, p, d, _, h, _ => by simp at h
  | _ :: _, _ :: _, [], _, _, _, m, o, p, d, _, _, h => by simp at h
  | o1 :: os, p1 :: ps, d1 :: ds, k, a, hg, 0, o, p, d, h1, h2, h3 => by
    simp at h1 h2 h3; subst h1 h2 h3
    exact hg.1
  | o1 :: os, p1 :: ps, d1 :: ds, k, a, hg, m + 1, o, p, d, h1, h2, h3 => by
    rw [show k + (m + 1) = k + 1 + m from by omega]
    exact ugGoals_at os ps ds (k + 1) _ hg.2 m o p d (by simpa using h1) (by simpa using h2) (by simpa using h3)

structure UgInv (ops : Array Oper) (C : World → Prop) (posts : (Nat → Value) → List (Value → World → Prop)) (A : List Nat) (a0 : Act) (V : Nat → Value) (listed : Array Bool) (a : Act) (w : World) : Prop where
  size : listed.size = ops.size
  tmps : a.tmps.size = a0.tmps.size
  defers : a.defers = a0.defers
  c : C w
  got : ∀ (j : Nat) (o : Oper), ops[j]? = some o → listed[j]? = some true → ∀ t, o.dst = some t → a.tmps[t]? = some (V j)
  post : ∀ (j : Nat) (o : Oper), ops[j]? = some o → listed[j]? = some true → ((posts V).getD j (fun _ _ => True)) (V j) w
  same : ∀ t, (∀ (j : Nat) (o : Oper), ops[j]? = some o → listed[j]? = some true → o.dst ≠ some t) → a.tmps[t]? = a0.tmps[t]?
  down : ∀ (j : Nat) (o : Oper), ops[j]? = some o → listed[j]? = some true → ∀ k, pre o k = true → listed[k]? = some true
  frA : ∀ i, A.contains i = true → listed[i]? = some true → ∃ b, blkOf (V i) = some b ∧ b < w.heap.size
  neA : ∀ i j, A.contains i = true → A.contains j = true → i ≠ j → listed[i]? = some true → listed[j]? = some true → blkOf (V i) ≠ blkOf (V j)

theorem UgInv.looks {V : Nat → Value} {listed : Array Bool} {a : Act} {w : World} (hI : UgInv ops C posts A a0 V listed a w) (hN : a0.tmps.size = N) (hok : ∀ i o, ops[i]? = some o → RgOk ops dl N i o)
    {i : Nat} {o : Oper} (ho : ops[i]? = some o) (hnl : listed[i]? ≠ some true) (hpre : ∀ k, pre o k = true → listed[k]? = some true) :
    ∀ t ∈ o.looksAt ops, a.tmps[t]? = (putAll (ops.toList.take i) V 0 a0).tmps[t]? := by
  intro t ht
  have hget : ∀ m o', (ops.toList.take i)[m]? = some o' ↔ m < i ∧ ops[m]? = some o' := by
    intro m o'
    rw [List.getElem?_take]
    split <;> simp [*]
  by_cases hex : ∃ (j : Nat) (oj : Oper), ops[j]? = some oj ∧ oj.dst = some t
  · obtain ⟨j, oj, hj, hjd⟩ := hex
    have hji : j ≠ i := by
      rintro rfl
      rw [ho] at hj; cases hj
      exact (hok _ _ ho).self t hjd ht
    have huniq : ∀ (j' : Nat) (o' : Oper), ops[j']? = some o' → o'.dst = some t → j' = j := by
      intro j' o' hj' hd'
      by_cases e : j' = j
      · exact e
      · exact absurd hjd ((hok _ _ hj).one j' o' hj' e t hd')
    rcases (hok _ _ ho).see j oj hj hji t hjd ht with hp | hp
    · rw [hI.got j oj hj (hpre j hp) t hjd]
      have hlt := (hok _ _ ho).lt j hp
      rw [putAll_get_some V _ 0 a0 j oj ((hget j oj).2 ⟨hlt, hj⟩) hjd (by rw [hN]; exact (hok _ _ hj).dst t hjd)
        (fun m' o' hm' hne => fun hd' => hne (huniq m' o' ((hget m' o').1 hm').2 hd'))]
      simp
    · have hlt := (hok _ _ hj).lt i hp
      rw [hI.same t (fun j' o' hj' hl' hd' => by
        obtain rfl := huniq j' o' hj' hd'
        rw [hj] at hj'; cases hj'
        exact hnl (hI.down _ _ hj hl' i hp))]
      rw [putAll_get_none V _ 0 a0 (fun m o' hm hd' => by
        have := huniq m o' ((hget m o').1 hm).2 hd'
        have := ((hget m o').1 hm).1
        omega)]
  · rw [hI.same t (fun j' o' hj' _ hd' => hex ⟨j', o', hj', hd'⟩), putAll_get_none V _ 0 a0 (fun m o' hm hd' => hex ⟨m, o', ((hget m o').1 hm).2, hd'⟩)]

theorem ug_walk {Q : Exit → Act → World → Prop} (hN : a0.tmps.size = N) (hok : ∀ i o, ops[i]? = some o → RgOk ops dl N i o) (hdl : dl.length = ops.size) (hpl : ∀ V, (posts V).length = ops.size)
    (hC : ∀ w w', C w → G w w' → C w') (hG : ∀ w w', G w w' → w.heap.size ≤ w'.heap.size) (hP : ∀ V, postsKept G (posts V)) (hPc : ∀ V i v j, i ∉ dl.getD j [] → (posts (fun k => if k = i then v else V k)).getD j (fun _ _ => True) = (posts V).getD j (fun _ _ => True)) (hgoals : ∀ V, ugGoals P ops C G (posts V) A V ops.toList (posts V) dl 0 a0)
    (hQ : ∀ V w, C w → postsHold V w (posts V) 0 → (∀ i j, i < (posts V).length → j < (posts V).length → A.contains i = true → A.contains j = true → i ≠ j → blkOf (V i) ≠ blkOf (V j)) → Q .normal (putAll ops.toList V 0 a0) w) :
    ∀ (fuel : Nat) (listed : Array Bool) (a : Act) (w : World) (V : Nat → Value), (List.range ops.size).countP (fun i => listed[i]? != some true) ≤ fuel → UgInv ops C posts A a0 V listed a w → wpAny P .any ops Q fuel listed a w := by
  -- what stands when all is listed
  have fin : ∀ (listed : Array Bool) (a : Act) (w : World) (V : Nat → Value), UgInv ops C posts A a0 V listed a w → (∀ i, i < ops.size → listed[i]? = some true) → Q .normal a w := by
    intro listed a w V hI hall
    have ha : a = putAll ops.toList V 0 a0 := by
      have h1 : a.tmps = (putAll ops.toList V 0 a0).tmps := by
        apply Array.ext_getElem?
        intro t
        by_cases hex : ∃ (j : Nat) (oj : Oper), ops[j]? = some oj ∧ oj.dst = some t
        · obtain ⟨j, oj, hj, hjd⟩ := hex
          rw [hI.got j oj hj (hall j (Array.getElem?_eq_some_iff.1 hj).1) t hjd]
          rw [putAll_get_some V _ 0 a0 j oj (by simpa using hj) hjd (by rw [hN]; exact (hok _ _ hj).dst t hjd)
            (fun m' o' hm' hne hd' => (hok _ _ hj).one m' o' (by simpa using hm') hne t hd' hjd)]
          simp
        · rw [hI.same t (fun j' o' hj' _ hd' => hex ⟨j', o', hj', hd'⟩), putAll_get_none V _ 0 a0 (fun m o' hm hd' => hex ⟨m, o', by simpa using hm, hd'⟩)]
      have h2 : a.defers = (putAll ops.toList V 0 a0).defers := hI.defers.trans (putAll_defers V _ _ _).symm
      cases a; simp only at h1 h2; subst h1 h2; rfl
    rw [ha]
    refine hQ V w hI.c (postsHold_of (posts V) 0 (fun j p hj => by
      have hlt : j < ops.size := by rw [← hpl V]; exact (List.getElem?_eq_some_iff.1 hj).1
      have := hI.post j ops[j] (Array.getElem?_eq_getElem hlt) (hall j hlt)
      rw [Nat.zero_add]
      simpa [List.getD_eq_getElem?_getD, hj] using this)) (fun i j hi hj h1 h2 hne => hI.neA i j h1 h2 hne (hall i (by have := hpl V; omega)) (hall j (by have := hpl V; omega)))
  -- nothing is ready: all is listed
  have done : ∀ (listed : Array Bool), listed.size = ops.size → Region.ready .any ops listed = [] → ∀ i, i < ops.size → listed[i]? = some true := by
    intro listed hsz hr i
    induction i using Nat.strongRecOn with
    | ind i ih =>
      intro hi
      by_cases h : listed[i]? = some true
      · exact h
      exfalso
      have hmem : i ∈ Region.ready .any ops listed := by
        unfold Region.ready
        rw [List.mem_filter]
        refine ⟨by simpa using hi, ?_⟩
        have hl : listed.getD i true = false := by
          rw [Array.getD_eq_getD_getElem?]
          rw [Array.getElem?_eq_getElem (by omega)] at h ⊢
          simpa using h
        rw [hl, Array.getElem?_eq_getElem hi]
        simp only [Bool.not_false, Bool.true_and, Option.map_some, Option.getD_some]
        rw [Array.all_eq_true']
        intro e he
        by_cases hb : Region.binds .any e = true
        · have hp := pre_spec he hb
          have hlt := (hok _ _ (Array.getElem?_eq_getElem hi)).lt e.on hp
          rw [Array.getD_eq_getD_getElem?, ih e.on hlt (by omega)]
          simp
        · simp [hb]
      rw [hr] at hmem
      exact absurd hmem (by simp)
  intro fuel
  induction fuel with
  | zero =>
    intro listed a w V hc hI
    have hall : ∀ i, i < ops.size → listed[i]? = some true := by
      intro i hi
      have h0 := Nat.le_zero.1 hc
      rw [List.countP_eq_zero] at h0
      simpa using h0 i (by simpa using hi)
    refine ⟨?_, fin listed a w V hI hall⟩
    unfold Region.ready
    rw [List.filter_eq_nil_iff]
    intro i hi
    have := hall i (by simpa using hi)
    rw [Array.getD_eq_getD_getElem?, this]
    simp
  | succ fuel ih =>
    intro listed a w V hc hI
    refine ⟨fun hr => fin listed a w V hI (done listed hI.size hr), fun i hi => ?_⟩
    unfold Region.ready at hi
    rw [List.mem_filter] at hi
    obtain ⟨hir, hi2⟩ := hi
    have hir : i < ops.size := by simpa using hir
    rw [Bool.and_eq_true] at hi2
    obtain ⟨hnl, haft⟩ := hi2
    have hnl' : listed[i]? = some false := by
      rw [Array.getD_eq_getD_getElem?, Array.getElem?_eq_getElem (by rw [hI.size]; exact hir)] at hnl
      rw [Array.getElem?_eq_getElem (by rw [hI.size]; exact hir)]
      simpa using hnl
    have ho : ops[i]? = some ops[i] := Array.getElem?_eq_getElem hir
    have hpre : ∀ k, pre ops[i] k = true → listed[k]? = some true := by
      intro k hk
      obtain ⟨e, he, rfl, hb⟩ := pre_mem hk
      rw [ho, Option.map_some, Option.getD_some, Array.all_eq_true'] at haft
      have := haft e he
      simp only [hb, Bool.not_true, Bool.false_or, Array.getD_eq_getD_getElem?] at this
      have hlt := (hok _ _ ho).lt e.on hk
      rw [Array.getElem?_eq_getElem (by rw [hI.size]; omega)] at this ⊢
      simpa using this
    have hilt : i < listed.size := by rw [hI.size]; exact hir
    -- the step
    have hp : (posts V)[i]? = some ((posts V).getD i (fun _ _ => True)) := by
      have : i < (posts V).length := by have := hpl V; omega
      simp [this]
    have hd : dl[i]? = some (dl.getD i []) := by
      have : i < dl.length := by omega
      simp [this]
    have hlook := hI.looks hN hok ho (by rw [hnl']; simp) hpre
    have hgo := ugGoals_at ops.toList (posts V) dl 0 a0 (hgoals V) i ops[i] _ _ (by simp) hp hd w hI.c
      (depsHold_of _ (fun j hj => by
        have h1 := hpre j ((hok _ _ ho).dl j hj)
        have hlt : j < ops.size := by have := (hok _ _ ho).lt j ((hok _ _ ho).dl j hj); omega
        exact hI.post j ops[j] (Array.getElem?_eq_getElem hlt) h1))
    -- the invariant behind it
    have hnext : ∀ v w', (C w' ∧ (∀ j v, ((posts V).getD j (fun _ _ => True)) v w → ((posts V).getD j (fun _ _ => True)) v w') ∧ w.heap.size ≤ w'.heap.size ∧ fr A i w v w') → ((posts V).getD i (fun _ _ => True)) v w' → wpAny P .any ops Q fuel (listed.setIfInBounds i true) (a.put ops[i].dst v) w' := by
      rintro v w' ⟨hc', hkeep, hsz, hfr⟩ hpv
      refine ih _ _ _ (fun k => if k = i then v else V k) ?_ ?_
      · have hlt : (List.range ops.size).countP (fun k => (listed.setIfInBounds i true)[k]? != some true) < (List.range ops.size).countP (fun k => listed[k]? != some true) := by
          rw [List.countP_eq_length_filter, List.countP_eq_length_filter]
          have hsub : (List.range ops.size).filter (fun k => (listed.setIfInBounds i true)[k]? != some true) = ((List.range ops.size).filter (fun k => listed[k]? != some true)).erase i := by
            rw [(List.Nodup.sublist List.filter_sublist List.nodup_range).erase_eq_filter, List.filter_filter]
            apply List.filter_congr
            intro k hk
            by_cases e : k = i
            · subst e; simp [hilt]
            · rw [Array.getElem?_setIfInBounds_ne (Ne.symm e)]; simp [e]
          rw [hsub, List.length_erase_of_mem (by rw [List.mem_filter]; exact ⟨by simpa using hir, by rw [hnl']; rfl⟩)]
          have : 0 < ((List.range ops.size).filter (fun k => listed[k]? != some true)).length :=
            List.length_pos_of_mem (a := i) (by rw [List.mem_filter]; exact ⟨by simpa using hir, by rw [hnl']; rfl⟩)
          omega
        omega
      · refine ⟨by simp [hI.size], by rw [put_size, hI.tmps], by rw [put_defers, hI.defers], hc', ?_, ?_, ?_, ?_, ?_, ?_⟩
        · intro j o hj hl t ht
          rcases (Array.get?_setTrue hilt).1 hl with rfl | hl2
          · rw [ho] at hj; cases hj
            simp only [if_true]
            rw [ht]; exact put_get (by rw [hI.tmps, hN]; exact (hok _ _ ho).dst t ht)
          · have hji : j ≠ i := fun e => by rw [e, hnl'] at hl2; cases hl2
            rw [if_neg hji, put_get_ne ((hok _ _ ho).one j o hj hji t ht)]
            exact hI.got j o hj hl2 t ht
        · intro j o hj hl
          rcases (Array.get?_setTrue hilt).1 hl with rfl | hl2
          · rw [hPc V _ v _ (fun hm => by
              have h1 := hpre _ ((hok _ _ ho).dl _ hm)
              rw [hnl'] at h1; cases h1)]
            simp only [if_true]; exact hpv
          · have hji : j ≠ i := fun e => by rw [e, hnl'] at hl2; cases hl2
            rw [hPc V _ v _ (fun hm => by
              have h1 := hI.down j o hj hl2 _ ((hok _ _ hj).dl _ hm)
              rw [hnl'] at h1; cases h1)]
            simp only [if_neg hji]
            exact hkeep j _ (hI.post j o hj hl2)
        · intro t ht
          rw [put_get_ne (ht i _ ho ((Array.get?_setTrue hilt).2 (.inl rfl)))]
          exact hI.same t (fun j o hj hl => ht j o hj ((Array.get?_setTrue hilt).2 (.inr hl)))
        · intro j o hj hl k hk
          rw [Array.get?_setTrue hilt]
          rcases (Array.get?_setTrue hilt).1 hl with rfl | hl2
          · rw [ho] at hj; cases hj
            exact .inr (hpre k hk)
          · exact .inr (hI.down j o hj hl2 k hk)
        · intro j hj hl
          rcases (Array.get?_setTrue hilt).1 hl with rfl | hl2
          · simp only [if_true]
            obtain ⟨b, h1, _, h3⟩ := hfr hj
            exact ⟨b, h1, h3⟩
          · have hji : j ≠ i := fun e => by rw [e, hnl'] at hl2; cases hl2
            simp only [if_neg hji]
            obtain ⟨b, h1, h2⟩ := hI.frA j hj hl2
            exact ⟨b, h1, Nat.lt_of_lt_of_le h2 hsz⟩
        · intro j j2 hj hj2 hne hl hl2
          rcases (Array.get?_setTrue hilt).1 hl with rfl | hl3
          · rcases (Array.get?_setTrue hilt).1 hl2 with rfl | hl4
            · exact absurd rfl hne
            · simp only [if_true, if_neg (Ne.symm hne)]
              obtain ⟨b, h1, h2, _⟩ := hfr hj
              obtain ⟨b2, h3, h4⟩ := hI.frA j2 hj2 hl4
              rw [h1, h3]; intro e; cases e; omega
          · have hji : j ≠ i := fun e => by rw [e, hnl'] at hl3; cases hl3
            rcases (Array.get?_setTrue hilt).1 hl2 with rfl | hl4
            · simp only [if_true, if_neg hji]
              obtain ⟨b, h1, h2, _⟩ := hfr hj2
              obtain ⟨b2, h3, h4⟩ := hI.frA j hj hl3
              rw [h1, h3]; intro e; cases e; omega
            · have hji2 : j2 ≠ i := fun e => by rw [e, hnl'] at hl4; cases hl4
              simp only [if_neg hji, if_neg hji2]
              exact hI.neA j j2 hj hj2 hne hl3 hl4
    unfold wpOp
    rw [ho]
    show if Region.wanted ops[i] (yielded ops a.tmps) = true then _ else _
    have hsel := (hok _ _ ho).sel
    have hEx : execOp a.eval ops[i] = execOp (putAll (ops.toList.take i) V 0 a0).eval ops[i] :=
      execOp_congr ops[i] hsel (fun x hx => eval_congr_get (fun t ht => hlook t (by
        subst ht
        exact List.mem_append_left _ (List.mem_filterMap.2 ⟨.tmp t, by simpa using hx, rfl⟩))))
    rw [yielded_congr hlook]
    split
    · rename_i hw
      left
      have hgo := hgo (fun b w' => ∃ v, b = (putAll (ops.toList.take i) V 0 a0).put ops[i].dst v ∧ G w w' ∧ ((posts V).getD i (fun _ _ => True)) v w' ∧ fr A i w v w') (fun v w' h1 h2 h3 => ⟨v, rfl, h1, h2, by rwa [Nat.zero_add] at h3⟩)
      rw [if_pos hw] at hgo
      exact wp_carry (R := fun v w' => G w w' ∧ ((posts V).getD i (fun _ _ => True)) v w' ∧ fr A i w v w') hEx (by rw [hI.tmps, putAll_size]) hgo
        (fun v w' ⟨h1, h2, h3⟩ => hnext v w' ⟨hC w w' hI.c h1, fun j v hj => postsKept_at (posts V) (hP V) j v w w' hj h1, hG w w' h1, h3⟩ h2)
    · rename_i hw
      have hgo := hgo (fun b w' => ∃ v, b = (putAll (ops.toList.take i) V 0 a0).put ops[i].dst v ∧ (C w' ∧ (∀ j v, ((posts V).getD j (fun _ _ => True)) v w → ((posts V).getD j (fun _ _ => True)) v w') ∧ w.heap.size ≤ w'.heap.size ∧ fr A i w v w') ∧ ((posts V).getD i (fun _ _ => True)) v w')
        (fun v w' h1 h2 h3 => ⟨v, rfl, ⟨hC w w' hI.c h1, fun j v hj => postsKept_at (posts V) (hP V) j v w w' hj h1, hG w w' h1, by rwa [Nat.zero_add] at h3⟩, h2⟩)
      rw [if_neg hw] at hgo
      obtain ⟨v, h1, h2, h3⟩ := hgo
      have e : a.put ops[i].dst undef = a.put ops[i].dst v := by
        cases hd : ops[i].dst with
        | none => rfl
        | some d =>
          rw [hd] at h1
          have hlt : d < (putAll (ops.toList.take i) V 0 a0).tmps.size := by rw [putAll_size, hN]; exact (hok _ _ ho).dst d hd
          have := congrArg (fun x : Act => x.tmps[d]?) h1
          simp only [put_get hlt] at this
          rw [Option.some.inj this]
      rw [e]
      exact hnext v w h2 h3

theorem wp_region_ug {id : Nat} {Q : Exit → Act → World → Prop} {w0 : World} (C : World → Prop) (G : World → World → Prop) (posts : (Nat → Value) → List (Value → World → Prop)) (A : List Nat) (dl : List (List Nat)) (N : Nat)
    (hm : P.follows .mixedOrders = true) (hN : a0.tmps.size = N) (hchk : rgCheck ops dl N = true) (hpl : ∀ V, (posts V).length = ops.size)
    (hC0 : C w0.drew) (hC : ∀ w w', C w → G w w' → C w') (hG : ∀ w w', G w w' → w.heap.size ≤ w'.heap.size) (hP : ∀ V, postsKept G (posts V)) (hPc : ∀ V i v j, i ∉ dl.getD j [] → (posts (fun k => if k = i then v else V k)).getD j (fun _ _ => True) = (posts V).getD j (fun _ _ => True)) (hgoals : ∀ V, ugGoals P ops C G (posts V) A V ops.toList (posts V) dl 0 a0)
    (hQ : ∀ V w, C w → postsHold V w (posts V) 0 → (∀ i j, i < (posts V).length → j < (posts V).length → A.contains i = true → A.contains j = true → i ≠ j → blkOf (V i) ≠ blkOf (V j)) → Q .normal (putAll ops.toList V 0 a0) w) : (Code.region id ops true).wp P Q a0 w0 := by
  obtain ⟨hdl, hok⟩ := rgOk_of_check hchk
  refine wp_region_any hm (ug_walk hN hok hdl hpl hC hG hP hPc hgoals hQ ops.size _ a0 _ (fun _ => undef) ?_ ⟨by simp, rfl, rfl, hC0, ?_, ?_, fun _ _ => rfl, ?_, ?_, ?_⟩)
  · exact Nat.le_trans List.countP_le_length (by simp)
  · intro j o hj hl
    simp [Array.getElem?_replicate] at hl
  · intro j o hj hl
    simp [Array.getElem?_replicate] at hl
  · intro j o hj hl
    simp [Array.getElem?_replicate] at hl
  · intro j hj hl
    simp [Array.getElem?_replicate] at hl
  · intro j j2 hj hj2 hne hl
    simp [Array.getElem?_replicate] at hl

theorem ug_walk_tail {Q : Exit → Act → World → Prop} (hN : a0.tmps.size = N) (hok : ∀ i o, ops[i]? = some o → RgOk ops dl N i o) (hdl : dl.length = ops.size) (hpl : ∀ V, (posts V).length = T) (hT : T < ops.size)
    (hs : Region.sinkB .any ops T = true) (hc : Region.chainB .any ops T = true) (hseq : Region.seqB .any ops (ops.size - T) T ((Array.range ops.size).map (fun i => decide (i < T))) = true)
    (hC : ∀ w w', C w → G w w' → C w') (hG : ∀ w w', G w w' → w.heap.size ≤ w'.heap.size) (hP : ∀ V, postsKept G (posts V)) (hPc : ∀ V i v j, i ∉ dl.getD j [] → (posts (fun k => if k = i then v else V k)).getD j (fun _ _ => True) = (posts V).getD j (fun _ _ => True)) (hgoals : ∀ V, ugGoals P ops C G (posts V) A V (ops.toList.take T) (posts V) dl 0 a0)
    (hQ : ∀ V w, C w → postsHold V w (posts V) 0 → (∀ i j, i < (posts V).length → j < (posts V).length → A.contains i = true → A.contains j = true → i ≠ j → blkOf (V i) ≠ blkOf (V j)) → wpList P ops Q (ops.toList.drop T) (putAll (ops.toList.take T) V 0 a0) w) :
    ∀ (fuel : Nat) (listed : Array Bool) (a : Act) (w : World) (V : Nat → Value), (List.range T).countP (fun i => listed[i]? != some true) = fuel → HeadInv .any ops T listed → UgInv ops C posts A a0 V listed a w → wpAny P .any ops Q (fuel + (ops.size - T)) listed a w := by
  -- what stands when the head is listed
  have fin : ∀ (listed : Array Bool) (a : Act) (w : World) (V : Nat → Value), HeadInv .any ops T listed → UgInv ops C posts A a0 V listed a w → (∀ i, i < T → listed[i]? = some true) → wpAny P .any ops Q (0 + (ops.size - T)) listed a w := by
    intro listed a w V inv hI hall
    have hnone : ∀ j, T ≤ j → listed[j]? ≠ some true := by
      intro j hj h
      by_cases hjs : j < ops.size
      · have h1 := inv.tail j hj hjs
        rw [Array.getD_eq_getD_getElem?, h] at h1
        cases h1
      · have hsz := inv.size
        rw [Array.getElem?_eq_none (by omega)] at h
        cases h
    have hmem : ∀ m o, (ops.toList.take T)[m]? = some o → m < T ∧ ops[m]? = some o := by
      intro m o hm
      rw [List.getElem?_take] at hm
      split at hm
      · exact ⟨by assumption, by simpa using hm⟩
      · cases hm
    have ha : a = putAll (ops.toList.take T) V 0 a0 := by
      have h1 : a.tmps = (putAll (ops.toList.take T) V 0 a0).tmps := by
        apply Array.ext_getElem?
        intro t
        by_cases hex : ∃ (j : Nat) (oj : Oper), ops[j]? = some oj ∧ oj.dst = some t ∧ j < T
        · obtain ⟨j, oj, hj, hjd, hjT⟩ := hex
          rw [hI.got j oj hj (hall j hjT) t hjd]
          rw [putAll_get_some V _ 0 a0 j oj (by rw [List.getElem?_take, if_pos hjT]; simpa using hj) hjd (by rw [hN]; exact (hok _ _ hj).dst t hjd)
            (fun m' o' hm' hne hd' => (hok _ _ hj).one m' o' (hmem m' o' hm').2 hne t hd' hjd)]
          simp
        · rw [hI.same t (fun j' o' hj' hl' hd' => hex ⟨j', o', hj', hd', by
            rcases Nat.lt_or_ge j' T with h | h
            · exact h
            · exact absurd hl' (hnone j' h)⟩), putAll_get_none V _ 0 a0 (fun m o' hm hd' => hex ⟨m, o', (hmem m o' hm).2, hd', (hmem m o' hm).1⟩)]
      have h2 : a.defers = (putAll (ops.toList.take T) V 0 a0).defers := hI.defers.trans (putAll_defers V _ _ _).symm
      cases a; simp only at h1 h2; subst h1 h2; rfl
    have hq := hQ V w hI.c (postsHold_of (posts V) 0 (fun j p hj => by
      have hlt : j < T := by rw [← hpl V]; exact (List.getElem?_eq_some_iff.1 hj).1
      have := hI.post j ops[j] (Array.getElem?_eq_getElem (by omega)) (hall j hlt)
      rw [Nat.zero_add]
      simpa [List.getD_eq_getElem?_getD, hj] using this)) (fun i j hi hj h1 h2 hne => hI.neA i j h1 h2 hne (hall i (by have := hpl V; omega)) (hall j (by have := hpl V; omega)))
    rw [ha]
    have hdl2 : (ops.toList.drop T).length = ops.size - T := by simp
    have hall2 := headInv_all inv hall (by omega)
    have := wpAny_of_seq (md := .any) (Q' := Q) (ops.toList.drop T) T listed _ w (fun j => by simp [List.getElem?_drop]) (by rw [hdl2, hall2]; exact hseq) hq
    rw [hdl2] at this
    rw [Nat.zero_add]
    exact this
  intro fuel
  induction fuel with
  | zero =>
    intro listed a w V hc0 inv hI
    refine fin listed a w V inv hI (fun i hi => ?_)
    rw [List.countP_eq_zero] at hc0
    simpa using hc0 i (by simpa using hi)
  | succ fuel ih =>
    intro listed a w V hc0 inv hI
    obtain ⟨i0, hi0, hun0⟩ : ∃ i0, i0 < T ∧ listed.getD i0 true = false := by
      have hpos : 0 < (List.range T).countP (fun i => listed[i]? != some true) := by omega
      rw [List.countP_pos_iff] at hpos
      obtain ⟨i0, h1, h2⟩ := hpos
      have h1 : i0 < T := by simpa using h1
      refine ⟨i0, h1, ?_⟩
      rw [Array.getD_eq_getD_getElem?]
      rw [Array.getElem?_eq_getElem (by rw [hI.size]; omega)] at h2 ⊢
      simpa using h2
    have hready := tail_waits hs hc hT inv _ i0 rfl hi0 hun0
    rw [show fuel + 1 + (ops.size - T) = (fuel + (ops.size - T)) + 1 by omega]
    refine ⟨fun hr => ?_, fun i hi => ?_⟩
    · exfalso
      have done : ∀ i, i < ops.size → listed[i]? = some true := by
        intro i
        induction i using Nat.strongRecOn with
        | ind i ih =>
          intro hi
          by_cases h : listed[i]? = some true
          · exact h
          exfalso
          have hmem : i ∈ Region.ready .any ops listed := by
            unfold Region.ready
            rw [List.mem_filter]
            refine ⟨by simpa using hi, ?_⟩
            have hl : listed.getD i true = false := by
              rw [Array.getD_eq_getD_getElem?]
              rw [Array.getElem?_eq_getElem (by rw [hI.size]; omega)] at h ⊢
              simpa using h
            rw [hl, Array.getElem?_eq_getElem hi]
            simp only [Bool.not_false, Bool.true_and, Option.map_some, Option.getD_some]
            rw [Array.all_eq_true']
            intro e he
            by_cases hb : Region.binds .any e = true
            · have hp := pre_spec he hb
              have hlt := (hok _ _ (Array.getElem?_eq_getElem hi)).lt e.on hp
              rw [Array.getD_eq_getD_getElem?, ih e.on hlt (by omega)]
              simp
            · simp [hb]
          rw [hr] at hmem
          exact absurd hmem (by simp)
      have h1 := inv.tail T (Nat.le_refl _) hT
      rw [Array.getD_eq_getD_getElem?, done T hT] at h1
      cases h1
    have hiT : i < T := by
      rcases Nat.lt_or_ge i T with h | h
      · exact h
      · exact absurd hi (hready i h)
    have inv' := inv.set hi hiT
    unfold Region.ready at hi
    rw [List.mem_filter] at hi
    obtain ⟨hir, hi2⟩ := hi
    have hir : i < ops.size := by simpa using hir
    rw [Bool.and_eq_true] at hi2
    obtain ⟨hnl, haft⟩ := hi2
    have hnl' : listed[i]? = some false := by
      rw [Array.getD_eq_getD_getElem?, Array.getElem?_eq_getElem (by rw [hI.size]; exact hir)] at hnl
      rw [Array.getElem?_eq_getElem (by rw [hI.size]; exact hir)]
      simpa using hnl
    have ho : ops[i]? = some ops[i] := Array.getElem?_eq_getElem hir
    have hpre : ∀ k, pre ops[i] k = true → listed[k]? = some true := by
      intro k hk
      obtain ⟨e, he, rfl, hb⟩ := pre_mem hk
      rw [ho, Option.map_some, Option.getD_some, Array.all_eq_true'] at haft
      have := haft e he
      simp only [hb, Bool.not_true, Bool.false_or, Array.getD_eq_getD_getElem?] at this
      have hlt := (hok _ _ ho).lt e.on hk
      rw [Array.getElem?_eq_getElem (by rw [hI.size]; omega)] at this ⊢
      simpa using this
    have hilt : i < listed.size := by rw [hI.size]; exact hir
    -- the step
    have hp : (posts V)[i]? = some ((posts V).getD i (fun _ _ => True)) := by
      have : i < (posts V).length := by have := hpl V; omega
      simp [this]
    have hd : dl[i]? = some (dl.getD i []) := by
      have : i < dl.length := by omega
      simp [this]
    have hlook := hI.looks hN hok ho (by rw [hnl']; simp) hpre
    have hgo := ugGoals_at (ops.toList.take T) (posts V) dl 0 a0 (hgoals V) i ops[i] _ _ (by rw [List.getElem?_take, if_pos hiT]; simp) hp hd w hI.c
      (depsHold_of _ (fun j hj => by
        have h1 := hpre j ((hok _ _ ho).dl j hj)
        have hlt : j < ops.size := by have := (hok _ _ ho).lt j ((hok _ _ ho).dl j hj); omega
        exact hI.post j ops[j] (Array.getElem?_eq_getElem hlt) h1))
    rw [List.take_take, Nat.min_eq_left (Nat.le_of_lt hiT)] at hgo
    -- the invariant behind it
    have hnext : ∀ v w', (C w' ∧ (∀ j v, ((posts V).getD j (fun _ _ => True)) v w → ((posts V).getD j (fun _ _ => True)) v w') ∧ w.heap.size ≤ w'.heap.size ∧ fr A i w v w') → ((posts V).getD i (fun _ _ => True)) v w' → wpAny P .any ops Q (fuel + (ops.size - T)) (listed.setIfInBounds i true) (a.put ops[i].dst v) w' := by
      rintro v w' ⟨hc', hkeep, hsz, hfr⟩ hpv
      refine ih _ _ _ (fun k => if k = i then v else V k) ?_ inv' ?_
      · have hlt : (List.range T).countP (fun k => (listed.setIfInBounds i true)[k]? != some true) + 1 = (List.range T).countP (fun k => listed[k]? != some true) := by
          rw [List.countP_eq_length_filter, List.countP_eq_length_filter]
          have hsub : (List.range T).filter (fun k => (listed.setIfInBounds i true)[k]? != some true) = ((List.range T).filter (fun k => listed[k]? != some true)).erase i := by
            rw [(List.Nodup.sublist List.filter_sublist List.nodup_range).erase_eq_filter, List.filter_filter]
            apply List.filter_congr
            intro k hk
            by_cases e : k = i
            · subst e; simp [hilt]
            · rw [Array.getElem?_setIfInBounds_ne (Ne.symm e)]; simp [e]
          rw [hsub, List.length_erase_of_mem (by rw [List.mem_filter]; exact ⟨by simpa using hiT, by rw [hnl']; rfl⟩)]
          have : 0 < ((List.range T).filter (fun k => listed[k]? != some true)).length :=
            List.length_pos_of_mem (a := i) (by rw [List.mem_filter]; exact ⟨by simpa using hiT, by rw [hnl']; rfl⟩)
          omega
        omega
      · refine ⟨by simp [hI.size], by rw [put_size, hI.tmps], by rw [put_defers, hI.defers], hc', ?_, ?_, ?_, ?_, ?_, ?_⟩
        · intro j o hj hl t ht
          rcases (Array.get?_setTrue hilt).1 hl with rfl | hl2
          · rw [ho] at hj; cases hj
            simp only [if_true]
            rw [ht]; exact put_get (by rw [hI.tmps, hN]; exact (hok _ _ ho).dst t ht)
          · have hji : j ≠ i := fun e => by rw [e, hnl'] at hl2; cases hl2
            rw [if_neg hji, put_get_ne ((hok _ _ ho).one j o hj hji t ht)]
            exact hI.got j o hj hl2 t ht
        · intro j o hj hl
          rcases (Array.get?_setTrue hilt).1 hl with rfl | hl2
          · rw [hPc V _ v _ (fun hm => by
              have h1 := hpre _ ((hok _ _ ho).dl _ hm)
              rw [hnl'] at h1; cases h1)]
            simp only [if_true]; exact hpv
          · have hji : j ≠ i := fun e => by rw [e, hnl'] at hl2; cases hl2
            rw [hPc V _ v _ (fun hm => by
              have h1 := hI.down j o hj hl2 _ ((hok _ _ hj).dl _ hm)
              rw [hnl'] at h1; cases h1)]
            simp only [if_neg hji]
            exact hkeep j _ (hI.post j o hj hl2)
        · intro t ht
          rw [put_get_ne (ht i _ ho ((Array.get?_setTrue hilt).2 (.inl rfl)))]
          exact hI.same t (fun j o hj hl => ht j o hj ((Array.get?_setTrue hilt).2 (.inr hl)))
        · intro j o hj hl k hk
          rw [Array.get?_setTrue hilt]
          rcases (Array.get?_setTrue hilt).1 hl with rfl | hl2
          · rw [ho] at hj; cases hj
            exact .inr (hpre k hk)
          · exact .inr (hI.down j o hj hl2 k hk)
        · intro j hj hl
          rcases (Array.get?_setTrue hilt).1 hl with rfl | hl2
          · simp only [if_true]
            obtain ⟨b, h1, _, h3⟩ := hfr hj
            exact ⟨b, h1, h3⟩
          · have hji : j ≠ i := fun e => by rw [e, hnl'] at hl2; cases hl2
            simp only [if_neg hji]
            obtain ⟨b, h1, h2⟩ := hI.frA j hj hl2
            exact ⟨b, h1, Nat.lt_of_lt_of_le h2 hsz⟩
        · intro j j2 hj hj2 hne hl hl2
          rcases (Array.get?_setTrue hilt).1 hl with rfl | hl3
          · rcases (Array.get?_setTrue hilt).1 hl2 with rfl | hl4
            · exact absurd rfl hne
            · simp only [if_true, if_neg (Ne.symm hne)]
              obtain ⟨b, h1, h2, _⟩ := hfr hj
              obtain ⟨b2, h3, h4⟩ := hI.frA j2 hj2 hl4
              rw [h1, h3]; intro e; cases e; omega
          · have hji : j ≠ i := fun e => by rw [e, hnl'] at hl3; cases hl3
            rcases (Array.get?_setTrue hilt).1 hl2 with rfl | hl4
            · simp only [if_true, if_neg hji]
              obtain ⟨b, h1, h2, _⟩ := hfr hj2
              obtain ⟨b2, h3, h4⟩ := hI.frA j hj hl3
              rw [h1, h3]; intro e; cases e; omega
            · have hji2 : j2 ≠ i := fun e => by rw [e, hnl'] at hl4; cases hl4
              simp only [if_neg hji, if_neg hji2]
              exact hI.neA j j2 hj hj2 hne hl3 hl4
    unfold wpOp
    rw [ho]
    show if Region.wanted ops[i] (yielded ops a.tmps) = true then _ else _
    have hsel := (hok _ _ ho).sel
    have hEx : execOp a.eval ops[i] = execOp (putAll (ops.toList.take i) V 0 a0).eval ops[i] :=
      execOp_congr ops[i] hsel (fun x hx => eval_congr_get (fun t ht => hlook t (by
        subst ht
        exact List.mem_append_left _ (List.mem_filterMap.2 ⟨.tmp t, by simpa using hx, rfl⟩))))
    rw [yielded_congr hlook]
    split
    · rename_i hw
      left
      have hgo := hgo (fun b w' => ∃ v, b = (putAll (ops.toList.take i) V 0 a0).put ops[i].dst v ∧ G w w' ∧ ((posts V).getD i (fun _ _ => True)) v w' ∧ fr A i w v w') (fun v w' h1 h2 h3 => ⟨v, rfl, h1, h2, by rwa [Nat.zero_add] at h3⟩)
      rw [if_pos hw] at hgo
      exact wp_carry (R := fun v w' => G w w' ∧ ((posts V).getD i (fun _ _ => True)) v w' ∧ fr A i w v w') hEx (by rw [hI.tmps, putAll_size]) hgo
        (fun v w' ⟨h1, h2, h3⟩ => hnext v w' ⟨hC w w' hI.c h1, fun j v hj => postsKept_at (posts V) (hP V) j v w w' hj h1, hG w w' h1, h3⟩ h2)
    · rename_i hw
      have hgo := hgo (fun b w' => ∃ v, b = (putAll (ops.toList.take i) V 0 a0).put ops[i].dst v ∧ (C w' ∧ (∀ j v, ((posts V).getD j (fun _ _ => True)) v w → ((posts V).getD j (fun _ _ => True)) v w') ∧ w.heap.size ≤ w'.heap.size ∧ fr A i w v w') ∧ ((posts V).getD i (fun _ _ => True)) v w')
        (fun v w' h1 h2 h3 => ⟨v, rfl, ⟨hC w w' hI.c h1, fun j v hj => postsKept_at (posts V) (hP V) j v w w' hj h1, hG w w' h1, by rwa [Nat.zero_add] at h3⟩, h2⟩)
      rw [if_neg hw] at hgo
      obtain ⟨v, h1, h2, h3⟩ := hgo
      have e : a.put ops[i].dst undef = a.put ops[i].dst v := by
        cases hd : ops[i].dst with
        | none => rfl
        | some d =>
          rw [hd] at h1
          have hlt : d < (putAll (ops.toList.take i) V 0 a0).tmps.size := by rw [putAll_size, hN]; exact (hok _ _ ho).dst d hd
          have := congrArg (fun x : Act => x.tmps[d]?) h1
          simp only [put_get hlt] at this
          rw [Option.some.inj this]
      rw [e]
      exact hnext v w h2 h3

theorem wp_region_ug_tail {id : Nat} {Q : Exit → Act → World → Prop} {w0 : World} (T : Nat) (C : World → Prop) (G : World → World → Prop) (posts : (Nat → Value) → List (Value → World → Prop)) (A : List Nat) (dl : List (List Nat)) (N : Nat)
    (hm : P.follows .mixedOrders = true) (hN : a0.tmps.size = N)
    (hchk : (rgCheck ops dl N && decide (T < ops.size) && Region.sinkB .any ops T && Region.chainB .any ops T && Region.seqB .any ops (ops.size - T) T ((Array.range ops.size).map (fun i => decide (i < T)))) = true) (hpl : ∀ V, (posts V).length = T)
    (hC0 : C w0.drew) (hC : ∀ w w', C w → G w w' → C w') (hG : ∀ w w', G w w' → w.heap.size ≤ w'.heap.size) (hP : ∀ V, postsKept G (posts V)) (hPc : ∀ V i v j, i ∉ dl.getD j [] → (posts (fun k => if k = i then v else V k)).getD j (fun _ _ => True) = (posts V).getD j (fun _ _ => True)) (hgoals : ∀ V, ugGoals P ops C G (posts V) A V (ops.toList.take T) (posts V) dl 0 a0)
    (hQ : ∀ V w, C w → postsHold V w (posts V) 0 → (∀ i j, i < (posts V).length → j < (posts V).length → A.contains i = true → A.contains j = true → i ≠ j → blkOf (V i) ≠ blkOf (V j)) → wpList P ops Q (ops.toList.drop T) (putAll (ops.toList.take T) V 0 a0) w) : (Code.region id ops true).wp P Q a0 w0 := by
  simp only [Bool.and_eq_true, decide_eq_true_eq] at hchk
  obtain ⟨⟨⟨⟨h1, hT⟩, h2⟩, h3⟩, h4⟩ := hchk
  obtain ⟨hdl, hok⟩ := rgOk_of_check h1
  have inv0 : HeadInv .any ops T (Array.replicate ops.size false) :=
    ⟨by simp, fun j oj _ hl => (by rw [getD_replicate_false] at hl; cases hl), fun t _ ht => getD_in (by simpa using ht) (getD_replicate_false _ _)⟩
  have hcnt : (List.range T).countP (fun i => (Array.replicate ops.size false)[i]? != some true) = T := by
    have : (List.range T).countP (fun i => (Array.replicate ops.size false)[i]? != some true) = (List.range T).length := by
      rw [List.countP_eq_length]
      intro i hi
      simp [Array.getElem?_replicate]
    rw [this]; simp
  have := ug_walk_tail (Q := Q) hN hok hdl hpl hT h2 h3 h4 hC hG hP hPc hgoals hQ T _ a0 _ (fun _ => undef) hcnt inv0 ⟨by simp, rfl, rfl, hC0, ?_, ?_, fun _ _ => rfl, ?_, ?_, ?_⟩
  · refine wp_region_any hm ?_
    rw [show T + (ops.size - T) = ops.size by omega] at this
    exact this
  · intro j o hj hl
    simp [Array.getElem?_replicate] at hl
  · intro j o hj hl
    simp [Array.getElem?_replicate] at hl
  · intro j o hj hl
    simp [Array.getElem?_replicate] at hl
  · intro j hj hl
    simp [Array.getElem?_replicate] at hl
  · intro j j2 hj hj2 hne hl
    simp [Array.getElem?_replicate] at hl
end
end Go.Proofs.Ytpalmpfkliepfaa

namespace Go.Proofs.Ytpalmpfkliepfaa
open Go.RowKit
set_option linter.unusedVariables false
set_option linter.unusedSimpArgs false

/-- A slice that can be read: its elements, of k cells each. -/
def RdS {α : Type} (k : Nat) (V : α → List Value) (w : World) (a : Option Addr) (l : List α) : Prop :=
  ∀ j x, l[j]? = some x → ∃ b off, a = some ⟨b, off, none⟩ ∧ b < w.heap.size ∧ ∀ i u, (V x)[i]? = some u → w.cell? ⟨b, off + j * k + i, none⟩ = some u

theorem RdS.ext {α : Type} {k : Nat} {V : α → List Value} {w w' : World} {a : Option Addr} {l : List α} (h : RdS k V w a l) (hb : Below w.heap.size w w') : RdS k V w' a l := by
  intro j x hx
  obtain ⟨b, off, ha, hl, hc⟩ := h j x hx
  exact ⟨b, off, ha, Nat.lt_of_lt_of_le hl hb.size, fun i u hu => (hb.cell (p := ⟨b, off + j * k + i, none⟩) hl).trans (hc i u hu)⟩

theorem RdS.nil {α : Type} {k : Nat} {V : α → List Value} {w : World} {a : Option Addr} : RdS k V w a ([] : List α) := by
  intro j x hx; cases hx

theorem RdS.of_arg {α : Type} {k : Nat} {V : α → List Value} {F : World → α → Prop} {w : World} {d : Sl α} (h : fSl k V F w d) : RdS k V w d.at' d.list := by
  intro j x hx
  have hj : j < d.len := by
    have := (List.getElem?_eq_some_iff.1 hx).1
    rwa [Sl.list_length] at this
  rw [Sl.list_get d hj] at hx
  cases hx
  obtain ⟨_, b, off, ha, hl, hc⟩ := h.2.2.2 j hj
  exact ⟨b, off, ha, hl, hc⟩

/-- One element. -/
theorem RdS.at {α : Type} {k : Nat} {V : α → List Value} {w : World} {a : Option Addr} {l : List α} (h : RdS k V w a l) {j : Nat} {x : α} (hj : l[j]? = some x) : ∃ b off, a = some ⟨b, off, none⟩ ∧ b < w.heap.size ∧ cellsAt w b (off + j * k) (V x) := by
  obtain ⟨b, off, ha, hl, hc⟩ := h j x hj
  exact ⟨b, off, ha, hl, hc⟩

theorem cellsAt_cell {w : World} {b o i q : Nat} {cs : List Value} {v : Value} (h : cellsAt w b o cs) (hi : cs[i]? = some v) (hq : o + i = q) : w.cell? ⟨b, q, none⟩ = some v := by
  subst hq; exact h i v hi
theorem cellsAt_below {w w' : World} {b o B : Nat} {cs : List Value} (h : cellsAt w b o cs) (hb : Below B w w') (hl : b < B) : cellsAt w' b o cs := fun j v hv => (hb.cell (p := ⟨b, o + j, none⟩) hl).trans (h j v hv)

theorem getElem_flatMap {α : Type} {k : Nat} {V : α → List Value} (hk : ∀ x, (V x).length = k) : ∀ (l : List α) (j i : Nat) (x : α), l[j]? = some x → i < k → (l.flatMap V)[j * k + i]? = (V x)[i]?
  | [], _, _, _, h, _ => by cases h
  | y :: l, 0, i, x, h, hi => by
    simp at h; subst h
    simp only [List.flatMap_cons]
    rw [Nat.zero_mul, Nat.zero_add, List.getElem?_append_left (by rw [hk]; exact hi)]
  | y :: l, j + 1, i, x, h, hi => by
    simp at h
    simp only [List.flatMap_cons]
    rw [List.getElem?_append_right (by rw [hk, Nat.add_mul]; omega), hk, show (j + 1) * k + i - k = j * k + i by rw [Nat.add_mul]; omega]
    exact getElem_flatMap hk l j i x h hi

theorem length_flatMap {α : Type} {k : Nat} {V : α → List Value} (hk : ∀ x, (V x).length = k) (l : List α) : (l.flatMap V).length = l.length * k := by
  induction l with
  | nil => simp
  | cons x l ih => simp only [List.flatMap_cons, List.length_append, List.length_cons, ih, hk, Nat.add_mul]; omega

/-- A row that the call owns: its elements, of k cells each. -/
def Row {α : Type} (k : Nat) (V : α → List Value) (e base : Nat) (w : World) (v : Value) (l : List α) : Prop := w.ownsRow base e k v l.length (l.flatMap V)

section
variable {α : Type} {k : Nat} {V : α → List Value} {e base : Nat} {w w' : World} {v : Value} {l : List α}

theorem Row.nil : Row k V e base w (.slice none 0 0) ([] : List α) := World.ownsRow_nil _ _ _ _
theorem Row.slice (h : Row k V e base w v l) : ∃ a c, v = .slice a l.length c ∧ l.length ≤ c ∧ c ≤ maxLen := by
  rcases h.2 with ⟨rfl, h0⟩ | ⟨g, cap, cur, rfl, _, _, hc, hm, _, _⟩
  · exact ⟨none, 0, by rw [h0], by omega, by unfold maxLen; omega⟩
  · exact ⟨_, cap, rfl, hc, hm⟩
theorem Row.some {a : Option Addr} {n c : Nat} (h : Row k V e base w (.slice a n c) l) (h0 : 0 < l.length) : ∃ g, a = some ⟨g, 0, none⟩ ∧ base ≤ g ∧ g < w.heap.size := by
  rcases h.2 with ⟨_, h1⟩ | ⟨g, cap, cur, hv, hb, hg, _⟩
  · omega
  · simp at hv; exact ⟨g, hv.1, hb, blk_lt hg⟩
theorem Row.rd {a : Option Addr} {n c : Nat} (hk : ∀ x, (V x).length = k) (h : Row k V e base w (.slice a n c) l) : RdS k V w a l := by
  intro j x hx
  have hj := (List.getElem?_eq_some_iff.1 hx).1
  rcases h.2 with ⟨_, h1⟩ | ⟨g, cap, cur, hv, hb, hg, _, _, hs, ht⟩
  · omega
  · simp at hv
    refine ⟨g, 0, hv.1, blk_lt hg, fun i u hu => ?_⟩
    have hik : i < k := by
      have := (List.getElem?_eq_some_iff.1 hu).1
      rwa [hk] at this
    rw [Nat.zero_add, cell_of_row w g _ cur e (0, 0) hg]
    have h2 := getElem_flatMap hk l j i x hx hik
    rw [hu, ← ht, List.getElem?_take] at h2
    split at h2
    · simpa using h2
    · cases h2
theorem Row.lt (h : Row k V e base w v l) : ∀ q, v.ownBlock = Option.some q → base ≤ q ∧ q < w.heap.size := World.ownsRow.lt h
theorem Row.ext (h : Row k V e base w v l) (hb : Below w.heap.size w w') : Row k V e base w' v l := h.kept (below_grown (r := none) hb) (by cases v.ownBlock <;> simp)
theorem Row.grown {c : Nat} (h : Row k V e base w v l) (hg : w.grownBy w' (Option.some c)) (hne : v.ownBlock ≠ Option.some c) : Row k V e base w' v l :=
  h.kept hg (by cases hv : v.ownBlock with | none => exact .inl rfl | some q => exact .inr (by rw [← hv]; exact hne))
theorem Row.grown' {v' : Value} (h : Row k V e base w v l) (hg : w.grownBy w' v'.ownBlock) (hne : ∀ q, v.ownBlock = Option.some q → v'.ownBlock ≠ Option.some q) : Row k V e base w' v l :=
  h.kept hg (by cases hv : v.ownBlock with | none => exact .inl rfl | some q => exact .inr (fun e => hne q hv e.symm))
theorem Row.of_new {b : Nat} {cs : Array Value} (hb : w.heap[b]? = Option.some (.cells cs e (0, 0))) (hbase : base ≤ b) (hcs : cs.toList = l.flatMap V) (hl : l.length * k = cs.size) (hm : l.length ≤ maxLen) : Row k V e base w (.slice (Option.some ⟨b, 0, none⟩) l.length l.length) l := by
  refine ⟨by rw [← hcs, hl]; simp, .inr ⟨b, l.length, cs, rfl, hbase, hb, Nat.le_refl _, hm, hl.symm, ?_⟩⟩
  rw [hl, hcs.symm, ← Array.length_toList, List.take_length]
theorem Row.cut {a : Option Addr} {n c m : Nat} (hk : ∀ x, (V x).length = k) (h : Row k V e base w (.slice a n c) l) (hn : n = l.length) (h0 : 0 < n) (hm : m ≤ n) : Row k V e base w (.slice a m c) (l.take m) := by
  subst hn
  have h2 := ownsRow_cut h hm h0
  have h3 : (l.flatMap V).take (m * k) = (l.take m).flatMap V := by
    clear h h2 h0
    induction l generalizing m with
    | nil => simp
    | cons x l ih =>
      cases m with
      | zero => simp
      | succ m =>
        simp only [List.flatMap_cons, List.take_succ_cons]
        rw [List.take_append, hk, show (m + 1) * k - k = m * k by rw [Nat.add_mul]; omega, ih (by simpa using hm), List.take_of_length_le (by rw [hk, Nat.add_mul]; omega)]
  unfold Row
  rw [List.length_take, Nat.min_eq_left hm, ← h3]
  exact h2
theorem Row.rebase {base' : Nat} (h : Row k V e base w v l) (hb : base' ≤ base) : Row k V e base' w v l :=
  ⟨h.1, h.2.imp id fun ⟨g, cap, cur, hv, hg, r⟩ => ⟨g, cap, cur, hv, Nat.le_trans hb hg, r⟩⟩
theorem Row.ne_type {b T : Nat} {cs : Array Value} (h : Row k V e base w v l) (hb : w.heap[b]? = Option.some (.cells cs T (0, 0))) (hne : (e == T) = false) : v.ownBlock ≠ Option.some b := by
  intro hv
  rcases h.2 with ⟨rfl, _⟩ | ⟨g, cap, cur, rfl, _, hg, _⟩
  · simp [Value.ownBlock] at hv
  · simp [Value.ownBlock] at hv
    subst hv
    rw [hb] at hg
    simp at hg hne
    exact hne hg.2.symm
theorem Row.ne_row {β : Type} {k2 e2 base2 : Nat} {V2 : β → List Value} {v2 : Value} {l2 : List β} (h : Row k V e base w v l) (h2 : Row k2 V2 e2 base2 w v2 l2) (hne : (e == e2) = false) : ∀ q, v.ownBlock = Option.some q → v2.ownBlock ≠ Option.some q := by
  intro q h1 h3
  rcases h.2 with ⟨rfl, _⟩ | ⟨g, cap, cur, rfl, _, hg, _⟩
  · simp [Value.ownBlock] at h1
  · simp [Value.ownBlock] at h1
    subst h1
    exact h2.ne_type hg (by
      simp at hne ⊢
      exact fun e => hne e.symm) h3
end

theorem blk_row' {b : Nat} {w w' : World} {v : Value} {o : Obj} (h : w.heap[b]? = some o) (hg : w.grownBy w' v.ownBlock) (hne : v.ownBlock ≠ some b) : w'.heap[b]? = some o :=
  (hg.block b (blk_lt h) (fun e => hne e.symm)).trans h
theorem Row.caps {α : Type} {k e base n c : Nat} {V : α → List Value} {w : World} {a : Option Addr} {l : List α} (h : Row k V e base w (.slice a n c) l) : n = l.length ∧ n ≤ c ∧ c ≤ 9223372036854775807 := by
  obtain ⟨a', c', hv, h1, h2⟩ := h.slice
  simp at hv
  obtain ⟨_, rfl, rfl⟩ := hv
  unfold maxLen at h2
  exact ⟨rfl, h1, by omega⟩
theorem Row.relen {α : Type} {k e base n c : Nat} {V : α → List Value} {w : World} {a : Option Addr} {l : List α} (h : Row k V e base w (.slice a n c) l) : Row k V e base w (.slice a l.length c) l := by
  obtain ⟨rfl, _⟩ := h.caps
  exact h
theorem getD_at {α : Type} {l : List α} {j : Nat} (z : α) (h : j < l.length) : l[j]? = some (l.getD j z) := by
  rw [List.getD_eq_getElem?_getD, List.getElem?_eq_getElem h]; rfl
theorem row_below {α : Type} {k e base B : Nat} {V : α → List Value} {w w' : World} {v : Value} {l : List α} (h : Row k V e base w v l) (hg : w.grownBy w' v.ownBlock) (hB : B ≤ w.heap.size) (hb : B ≤ base) : Below B w w' :=
  (Below.refl B w).grown hg hB (fun q hq => Nat.le_trans hb (h.lt q hq).1)

section
variable {P : Program} {L : List (Nat × Value)} {w : World} {d : Option Tmp} {ty : TypeId} {ps : String} {af : Array Edge} {g : Option (Nat × Bool)}

theorem bi_run {L : List (Nat × Value)} {bi : Builtin} {xs : Array Operand} {tys : Array TypeId} {vs : List Value} {f : Array TypeId → TypeId → Array Value → Sem Value} {v : Value} {w w' : World} (hb : ∀ at_ t c vs, builtin bi at_ t c vs = (do pure (Next.value (← f at_ t vs)))) (hv : xs.toList.map (evO L) = vs.map some) (hr : (f tys ty vs.toArray).run P w = .ok v w') :
    Runs P L ⟨d, .call { callee := .builtin bi, args := xs, argTypes := tys }, ty, ps, af, g⟩ w v w' := by
  intro ρ hρ
  have he : xs.map ρ = vs.toArray := by
    apply Array.ext'
    simp only [Array.toList_map]
    have : ∀ (l : List Operand) (us : List Value), l.map (evO L) = us.map some → l.map ρ = us := by
      intro l
      induction l with
      | nil => intro us h; cases us with | nil => rfl | cons u us => simp at h
      | cons x l ih =>
        intro us h
        cases us with
        | nil => simp at h
        | cons u us =>
          simp only [List.map_cons, List.cons.injEq] at h ⊢
          exact ⟨hρ x u h.1, ih us h.2⟩
    exact this _ _ hv
  simp only [execOp, resolve, he]
  simp [invoke, hb, hr]

/-- One slice appended to a row. -/
theorem d_append {α : Type} {V : α → List Value} {t e bytes k base n m c c2 : Nat} {z : Value} {s x : Operand} {a a2 : Option Addr} {l news : List α} (hk : ∀ x, (V x).length = k) (h1 : ∀ x, ∀ u ∈ V x, u.oneCell' = true) (hs : evO L s = some (.slice a n c)) (hx : evO L x = some (.slice a2 m c2)) (ht : P.underlying t = some (.slice e))
    (hi : (P.info? e).map (fun i => (i.zero, i.size, i.bytes)) = some (some z, k, bytes)) (hz : z.cells.size = k) (h0 : Nat.blt 0 k = true) (hb1 : Nat.ble 1 bytes = true)
    (hrow : Row k V e base w (.slice a n c) l) (hrd : RdS k V w a2 news) (hm : m = news.length) (hnil : a2 = none → c2 = 0) (hbytes : (l.length + news.length) * bytes ≤ 140737488355328) (hbase : base ≤ w.heap.size) :
    Does P L ⟨d, .call { callee := .builtin .append, args := #[s, x], argTypes := #[t, t] }, ty, ps, af, g⟩ w (fun v' w' => Row k V e base w' v' (l ++ news) ∧ w.grownBy w' (Value.slice a n c).ownBlock) := by
  obtain ⟨i, hii, hz0, hs0, hby⟩ := info_parts hi
  have hk0 : 0 < k := by simpa [Nat.blt_eq] using h0
  have hb1' : 1 ≤ bytes := by simpa [Nat.ble_eq] using hb1
  have hle : l.length + news.length ≤ (l.length + news.length) * bytes := Nat.le_mul_of_pos_right _ hb1'
  have hnl : n = l.length := by
    obtain ⟨a', c', hv, _⟩ := hrow.slice
    simp at hv; exact hv.2.1
  cases a2 with
  | none =>
    have hm0 : news = [] := by
      cases news with
      | nil => rfl
      | cons y ys =>
        obtain ⟨b, off, ha, _⟩ := hrd 0 y rfl
        cases ha
    subst hm0
    obtain rfl : m = 0 := by simpa using hm
    obtain rfl : c2 = 0 := hnil rfl
    refine Runs.does (v := .slice a n c) (w' := w) (bi_run (f := Builtin.append_) (vs := [.slice a n c, .slice none 0 0]) (fun _ _ _ _ => rfl) (by simp [hs, hx]) ?_) ⟨?_, grownBy_refl _ _⟩
    · exact run_append_owned_none w base t ty e i k ht hii _ _ _ hrow
    · simpa using hrow
  | some ad =>
    cases news with
    | nil =>
      obtain rfl : m = 0 := by simpa using hm
      obtain ⟨v', w', hr, h2, h3, _⟩ := run_append_own (P := P) w base t ty e i z k bytes ht hii hz0 hs0 hby hz hk0 (.slice a n c) l.length (l.flatMap V) hrow ad 0 c2 [] (by simp) (fun j u hj => by cases hj) (by simp) (by unfold maxLen; simp at hle hbytes; omega) (by simpa using hbytes) hbase
      refine Runs.does (v := v') (w' := w') (bi_run (f := Builtin.append_) (vs := [.slice a n c, .slice (some ad) 0 c2]) (fun _ _ _ _ => rfl) (by simp [hs, hx]) hr) ⟨?_, h3⟩
      unfold Row
      simpa using h2
    | cons y ys =>
      obtain ⟨b, off, ha, hl, _⟩ := hrd 0 y rfl
      cases ha
      have hcells : ∀ j u, ((y :: ys).flatMap V)[j]? = some u → w.cell? ((⟨b, off, none⟩ : Addr).add j) = some u := by
        intro j u hj
        have hjl : j < (y :: ys).length * k := by
          have := (List.getElem?_eq_some_iff.1 hj).1
          rwa [length_flatMap hk] at this
        have hq : j / k < (y :: ys).length := Nat.div_lt_of_lt_mul (by rw [Nat.mul_comm]; exact hjl)
        have hr : j % k < k := Nat.mod_lt _ hk0
        have hjk : j / k * k + j % k = j := by rw [Nat.mul_comm]; exact Nat.div_add_mod j k
        obtain ⟨b', off', ha, _, hc⟩ := hrd (j / k) _ (List.getElem?_eq_getElem hq)
        cases ha
        rw [Addr.add_lit]
        have h2 := getElem_flatMap hk (y :: ys) (j / k) (j % k) _ (List.getElem?_eq_getElem hq) hr
        rw [hjk, hj] at h2
        have h3 := hc (j % k) u h2.symm
        rw [show off + j / k * k + j % k = off + j by omega] at h3
        exact h3
      obtain ⟨v', w', hr, h2, h3, _⟩ := run_append_own (P := P) w base t ty e i z k bytes ht hii hz0 hs0 hby hz hk0 (.slice a n c) l.length (l.flatMap V) hrow ⟨b, off, none⟩ m c2 ((y :: ys).flatMap V) (by rw [length_flatMap hk, hm]) hcells
        (fun u hu => by obtain ⟨q, _, hq⟩ := List.mem_flatMap.1 hu; exact h1 q u hq) (by unfold maxLen; omega) (by rw [hm]; exact hbytes) hbase
      refine Runs.does (v := v') (w' := w') (bi_run (f := Builtin.append_) (vs := [.slice a n c, .slice (some ⟨b, off, none⟩) m c2]) (fun _ _ _ _ => rfl) (by simp [hs, hx]) hr) ⟨?_, h3⟩
      unfold Row
      rw [List.flatMap_append, List.length_append, ← hm]
      exact h2

end

theorem retCT {P : Program} {fn : Func} {R : Ending → World → Prop} {a : Act} {w : World} {N : Nat} {L : List (Nat × Value)} {p t : Tmp} {T T2 : TypeId} {b : Nat} {cs : Array Value} {fr : Nat × Nat} {td : TypeDesc} {v : Value} (hf : Fr N a L) (hr : fn.results = #[.cell p T, .tmp t]) (hp : lk L p = some (.pointer (some ⟨b, 0, none⟩)))
    (hb : w.heap[b]? = some (.cells cs T2 fr)) (hu : P.underlying T = some td) (hd : plainT td = false) (hi : (P.info? T).map (·.size) = some cs.size) (ht : lk L t = some v) (hR : R (.returned (.tuple #[.agg cs, v])) w) : bodyPost P fn R .ret a w := by
  refine bodyPost_ret (v := .tuple #[.agg cs, v]) ?_ hf.defers hR
  have hl := run_loadVar_row (P := P) w b T2 T cs fr td hb hu (by cases td <;> simp_all [plainT]) hi
  simp [results, hr, hf.has p _ hp, hf.has t _ ht, asAddr, hl]

/- A REGION WHOSE ORDER IS OPEN. -/
section
variable {P : Program} {ops : Array Oper} {C : World → Prop} {G : World → World → Prop} {posts : (Nat → Value) → List (Value → World → Prop)} {A : List Nat} {dl : List (List Nat)} {N : Nat} {a0 : Act} {L0 : List (Nat × Value)}

def unOp (P : Program) (ops : Array Oper) (L : List (Nat × Value)) (o : Oper) (w : World) (R : Value → World → Prop) : Prop :=
  match o.guard with
  | none => Does P L o w R
  | some (g, want) => ∃ ag c, yl ops L g = some (gb ag (.bool c)) ∧ ((ag && (c == want)) = true → Does P L o w R) ∧ ((ag && (c == want)) = false → R undef w)

def unGoals (P : Program) (ops : Array Oper) (C : World → Prop) (G : World → World → Prop) (all : List (Value → World → Prop)) (A : List Nat) (V : Nat → Value) : List Oper → List (Value → World → Prop) → List (List Nat) → Nat → List (Nat × Value) → Prop
  | o :: os, p :: ps, d :: ds, i, L => (∀ w, C w → depsHold V all w d → unOp P ops L o w (fun v w' => G w w' ∧ p v w' ∧ fr A i w v w')) ∧ unGoals P ops C G all A V os ps ds (i + 1) (ins o.dst (V i) L)
  | _, _, _, _, _ => True

theorem nofr {i : Nat} {w w' : World} {v : Value} (h : A.contains i = false) : fr A i w v w' := fun h2 => by rw [h] at h2; cases h2
theorem isfr {i b : Nat} {w w' : World} {v : Value} (h : blkOf v = some b) (h1 : w.heap.size ≤ b) (h2 : b < w'.heap.size) : fr A i w v w' := fun _ => ⟨b, h, h1, h2⟩

def insAll : List Oper → (Nat → Value) → Nat → List (Nat × Value) → List (Nat × Value)
  | [], _, _, L => L
  | o :: os, V, i, L => insAll os V (i + 1) (ins o.dst (V i) L)

theorem un_rg {V : Nat → Value} : ∀ (os : List Oper) (ps : List (Value → World → Prop)) (ds : List (List Nat)) (i : Nat) (L : List (Nat × Value)) (a : Act), Fr N a L → (∀ o ∈ os, dstOk N o.dst = true) → unGoals P ops C G (posts V) A V os ps ds i L → ugGoals P ops C G (posts V) A V os ps ds i a
  | [], _, _, _, _, _, _, _, _ => trivial
  | _ :: _, [], _, _, _, _, _, _, _ => trivial
  | _ :: _, _ :: _, [], _, _, _, _, _, _ => trivial
  | o :: os, p :: ps, d :: ds, i, L, a, hf, hd, h => by
    refine ⟨fun w hC hdp K hK => ?_, un_rg os ps ds (i + 1) _ _ (hf.ins (V i) (hd o (by simp))) (fun o' ho => hd o' (by simp [ho])) h.2⟩
    have h1 := h.1 w hC hdp
    unfold unOp at h1
    cases hg : o.guard with
    | none =>
      rw [hg] at h1
      have hw : Region.wanted o (yielded ops a.tmps) = true := by simp [Region.wanted, hg]
      rw [if_pos hw]
      exact h1 a K _ (fun x v e => hf.ev e) (fun v w' hr => hK v w' hr.1 hr.2.1 hr.2.2)
    | some gw =>
      obtain ⟨g, want⟩ := gw
      rw [hg] at h1
      obtain ⟨ag, c, hy, ht, hfl⟩ := h1
      rw [wanted_of hf hg hy]
      cases hact : (ag && (c == want)) with
      | true => rw [if_pos rfl]; exact ht hact a K _ (fun x v e => hf.ev e) (fun v w' hr => hK v w' hr.1 hr.2.1 hr.2.2)
      | false => rw [if_neg (by simp)]; exact hK _ _ (hfl hact).1 (hfl hact).2.1 (hfl hact).2.2

theorem un_fr {V : Nat → Value} : ∀ (os : List Oper) (i : Nat) (L : List (Nat × Value)) (a : Act), Fr N a L → (∀ o ∈ os, dstOk N o.dst = true) → Fr N (putAll os V i a) (insAll os V i L)
  | [], _, _, _, hf, _ => hf
  | o :: os, i, L, a, hf, hd => un_fr os (i + 1) _ _ (hf.ins (V i) (hd o (by simp))) (fun o' ho => hd o' (by simp [ho]))

theorem wp_region_un {id : Nat} {Q : Exit → Act → World → Prop} {w0 : World} (C : World → Prop) (G : World → World → Prop) (posts : (Nat → Value) → List (Value → World → Prop)) (A : List Nat) (dl : List (List Nat)) (hf : Fr N a0 L0)
    (hm : P.follows .mixedOrders = true) (hchk : (rgCheck ops dl N && ops.toList.all (fun o => dstOk N o.dst)) = true) (hpl : ∀ V, (posts V).length = ops.size)
    (hC0 : C w0.drew) (hC : ∀ w w', C w → G w w' → C w') (hG : ∀ w w', G w w' → w.heap.size ≤ w'.heap.size) (hP : ∀ V, postsKept G (posts V)) (hPc : ∀ V i v j, i ∉ dl.getD j [] → (posts (fun k => if k = i then v else V k)).getD j (fun _ _ => True) = (posts V).getD j (fun _ _ => True)) (hgoals : ∀ V, unGoals P ops C G (posts V) A V ops.toList (posts V) dl 0 L0)
    (hQ : ∀ V w a, C w → postsHold V w (posts V) 0 → (∀ i j, i < (posts V).length → j < (posts V).length → A.contains i = true → A.contains j = true → i ≠ j → blkOf (V i) ≠ blkOf (V j)) → Fr N a (insAll ops.toList V 0 L0) → Q .normal a w) : (Code.region id ops true).wp P Q a0 w0 := by
  rw [Bool.and_eq_true, List.all_eq_true] at hchk
  exact wp_region_ug C G posts A dl N hm hf.size hchk.1 hpl hC0 hC hG hP hPc (fun V => un_rg _ _ _ _ _ _ hf hchk.2 (hgoals V)) (fun V w hc hp hn => hQ V w _ hc hp hn (un_fr _ _ _ _ hf hchk.2))

theorem wp_region_unT {id : Nat} {Q : Exit → Act → World → Prop} {w0 : World} (T : Nat) (C : World → Prop) (G : World → World → Prop) (posts : (Nat → Value) → List (Value → World → Prop)) (A : List Nat) (dl : List (List Nat)) (hf : Fr N a0 L0)
    (hm : P.follows .mixedOrders = true)
    (hchk : (rgCheck ops dl N && decide (T < ops.size) && Region.sinkB .any ops T && Region.chainB .any ops T && Region.seqB .any ops (ops.size - T) T ((Array.range ops.size).map (fun i => decide (i < T)))) = true) (hdst : ops.toList.all (fun o => dstOk N o.dst) = true) (hpl : ∀ V, (posts V).length = T)
    (hC0 : C w0.drew) (hC : ∀ w w', C w → G w w' → C w') (hG : ∀ w w', G w w' → w.heap.size ≤ w'.heap.size) (hP : ∀ V, postsKept G (posts V)) (hPc : ∀ V i v j, i ∉ dl.getD j [] → (posts (fun k => if k = i then v else V k)).getD j (fun _ _ => True) = (posts V).getD j (fun _ _ => True)) (hgoals : ∀ V, unGoals P ops C G (posts V) A V (ops.toList.take T) (posts V) dl 0 L0)
    (hQ : ∀ V w a, C w → postsHold V w (posts V) 0 → (∀ i j, i < (posts V).length → j < (posts V).length → A.contains i = true → A.contains j = true → i ≠ j → blkOf (V i) ≠ blkOf (V j)) → Fr N a (insAll (ops.toList.take T) V 0 L0) → wpList P ops Q (ops.toList.drop T) a w) : (Code.region id ops true).wp P Q a0 w0 := by
  rw [List.all_eq_true] at hdst
  exact wp_region_ug_tail T C G posts A dl N hm hf.size hchk hpl hC0 hC hG hP hPc (fun V => un_rg _ _ _ _ _ _ hf (fun o ho => hdst o (List.mem_of_mem_take ho)) (hgoals V)) (fun V w hc hp hn => hQ V w _ hc hp hn (un_fr _ _ _ _ hf (fun o ho => hdst o (List.mem_of_mem_take ho))))

theorem keptB {F : Nat → Value} {top : Nat} {O : Obj} : ∀ (v : Value) (w w' : World), (fun (x : Value) (w : World) => ∃ b, x = F b ∧ top ≤ b ∧ w.heap[b]? = some O) v w → Below w.heap.size w w' → (fun (x : Value) (w : World) => ∃ b, x = F b ∧ top ≤ b ∧ w.heap[b]? = some O) v w' := by
  rintro v w w' ⟨b, h1, h2, h3⟩ hb
  exact ⟨b, h1, h2, blk_ext h3 hb⟩
end
end Go.Proofs.Ytpalmpfkliepfaa

namespace Go.Proofs.Ytpalmpfkliepfaa
open Go.RowKit
set_option linter.unusedVariables false
set_option linter.unusedSimpArgs false

theorem flatMap_vInt (k : IntKind) (l : List Int) : l.flatMap (vInt k) = l.map (Value.int k) := by
  induction l with
  | nil => rfl
  | cons a l ih => simp only [List.flatMap_cons, List.map_cons, ih]; rfl

theorem r_rowstr {P : Program} {L : List (Nat × Value)} {w : World} {d : Option Tmp} {ty : TypeId} {ps : String} {af : Array Edge} {g : Option (Nat × Bool)} {src dst e e' base : Nat} {x : Operand} {v : Value} {l : List Int}
    (hx : evO L x = some v) (hs : P.underlying src = some (.slice e)) (he : P.underlying e = some (.int .u8)) (hd : P.underlying dst = some .string) (hr : Row 1 (vInt .u8) e' base w v l) :
    Runs P L ⟨d, .convert src dst x, ty, ps, af, g⟩ w (.string (strOfNums l)) w := by
  intro ρ hρ
  simp only [execOp, hρ x _ hx]
  unfold Row at hr
  rw [flatMap_vInt] at hr
  simp [conv_row hs he hd hr]

theorem strOfNums_size (l : List Int) : (strOfNums l).size = l.length := by unfold strOfNums; simp [ByteArray.size]

theorem act_T (ag c : Bool) : (ag && (c == true)) = (ag && c) := by cases ag <;> cases c <;> rfl
theorem act_F (ag c : Bool) : (ag && (c == false)) = (ag && !c) := by cases ag <;> cases c <;> rfl
theorem cons_ev {L : List (Nat × Value)} {x : Operand} {xs : List Operand} {v : Value} {vs : List Value} (h : evO L x = some v) (hs : xs.map (evO L) = vs.map some) : (x :: xs).map (evO L) = (v :: vs).map some := by
  rw [List.map_cons, List.map_cons, h, hs]
theorem Row.eqL {α : Type} {k e base : Nat} {V : α → List Value} {w : World} {v : Value} {l l' : List α} (h : Row k V e base w v l) (he : l = l') : Row k V e base w v l' := he ▸ h
end Go.Proofs.Ytpalmpfkliepfaa

namespace Go.Proofs.Ytpalmpfkliepfaa.Ut
open Go.RowKit
set_option linter.unusedVariables false
set_option linter.unusedSimpArgs false

theorem bl_mid (s : ByteArray) (a b : Nat) : bl (s.extract a b) = ((bl s).drop a).take (b - a) := by
  unfold bl
  rw [← List.map_drop, ← List.map_take]
  congr 1
  rw [ByteArray.data_extract, Array.toList_extract, List.extract_eq_take_drop]
theorem or_i64 (a b : Nat) (ha : a < 16) (hb : b < 16) : bits BinOp.or .i64 ((a * 16 : Nat) : Int) (b : Int) = ((a * 16 + b : Nat) : Int) := by
  have : ∀ x : Fin 16, ∀ y : Fin 16, bits BinOp.or .i64 ((x.val * 16 : Nat) : Int) ((y.val : Nat) : Int) = ((x.val * 16 + y.val : Nat) : Int) := by decide +kernel
  exact this ⟨a, ha⟩ ⟨b, hb⟩
theorem decP_short (f : Nat) (r : List Nat) (h : r.length < 2) : decP (f + 1) (92 :: r) = none := by
  match r, h with
  | [], _ => rfl
  | [a], _ => rfl
theorem decP_end (f : Nat) : decP f [] = some [] := by cases f <;> rfl
theorem bl_sbt (s : ByteArray) (n : Nat) (h : n < s.size) : (bl s).getD n 0 = sbt s n := bl_getD s n h
theorem bl_dropc (s : ByteArray) (n : Nat) (h : n < s.size) : (bl s).drop n = sbt s n :: (bl s).drop (n + 1) := by
  have h2 : n < (bl s).length := by rw [bl_length]; exact h
  rw [List.drop_eq_getElem_cons h2, ← bl_sbt s n h, List.getD_eq_getElem?_getD, List.getElem?_eq_getElem h2]; rfl
theorem bl_one (s : ByteArray) (n : Nat) (h : n < s.size) : bl (s.extract n (n + 1)) = [sbt s n] := by
  rw [bl_mid, bl_dropc s n h]; simp
theorem bl_hex (j : Nat) (h : j < 16) : bl ((⟨#[48, 49, 50, 51, 52, 53, 54, 55, 56, 57, 97, 98, 99, 100, 101, 102]⟩ : ByteArray).extract j (j + 1)) = [digN j] := by
  rw [bl_mid]
  have : ∀ x : Fin 16, ((bl (⟨#[48, 49, 50, 51, 52, 53, 54, 55, 56, 57, 97, 98, 99, 100, 101, 102]⟩ : ByteArray)).drop x.val).take (x.val + 1 - x.val) = [digN x.val] := by decide +kernel
  exact this ⟨j, h⟩
theorem sh_esc {c : Nat} (h : ((c : Int) < 32 ∨ (126 : Int) < c) ∨ (c : Int) = 34 ∨ (c : Int) = 92) : sh c = [92, digN (c / 16), digN (c % 16)] := by
  unfold sh; rw [if_neg (by omega)]
theorem sh_pl {c : Nat} (h : ¬ (((c : Int) < 32 ∨ (126 : Int) < c) ∨ (c : Int) = 34 ∨ (c : Int) = 92)) : sh c = [c] := by
  unfold sh; rw [if_pos (by omega)]
def nI (l : List Nat) : List Int := l.map fun (x : Nat) => (x : Int)
@[simp] theorem nI_length (l : List Nat) : (nI l).length = l.length := by simp [nI]
theorem strN_size (l : List Nat) : (strN l).size = l.length := by unfold strN; rw [strOfNums_size]; simp
theorem strN_bl (s : ByteArray) : strN (bl s) = s := bl_inj (bl_strN _ (bl_lt s))
theorem valI_lt (c : Nat) (h : ¬ valI c < 0) : ∃ x : Nat, valI c = x ∧ x < 16 := by
  unfold valI at h ⊢
  split
  · exact ⟨c - 48, by omega, by omega⟩
  · split
    · exact ⟨c - 87, by omega, by omega⟩
    · rename_i h1 h2; rw [if_neg h1, if_neg h2] at h; omega
theorem decP_pl0 {f c : Nat} {r : List Nat} (h : ¬ c = 92) : decP (f + 1) (c :: r) = (decP f r).map (c :: ·) := by
  conv => lhs; unfold decP
  simp only [ne_eq, h, not_false_eq_true, if_true]
theorem decP_pl {f c : Nat} {r o : List Nat} (h : ¬ c = 92) : (decP (f + 1) (c :: r)).map (o ++ ·) = (decP f r).map ((o ++ [c]) ++ ·) := by
  rw [decP_pl0 h]; cases decP f r <;> simp
theorem decP_es {f a b : Nat} {r o : List Nat} (h : ¬ (valI a < 0 ∨ valI b < 0)) : (decP (f + 1) (92 :: a :: b :: r)).map (o ++ ·) = (decP f r).map ((o ++ [(valI a).toNat * 16 + (valI b).toNat]) ++ ·) := by
  rw [decP, if_neg (by simp)]; simp only [if_neg h]; cases decP f r <;> simp
theorem decP_no {f a b : Nat} {r : List Nat} (h : valI a < 0 ∨ valI b < 0) : decP (f + 1) (92 :: a :: b :: r) = none := by
  rw [decP, if_neg (by simp)]; simp only [if_pos h]
theorem good_of (s : ByteArray) (h : 2 ≤ s.size) (h1 : sbt s 0 = 34) (h2 : sbt s (s.size - 1) = 34) : goodB (bl s) = true := by
  unfold goodB; rw [bl_length, bl_sbt s 0 (by omega), bl_sbt s (s.size - 1) (by omega), h1, h2]; simp; exact h
theorem inner_bl (s : ByteArray) : inner (bl s) = bl (s.extract 1 (s.size - 1)) := by
  rw [bl_mid]; unfold inner; rw [bl_length]; congr 1
set_option maxHeartbeats 1000000 in
set_option maxRecDepth 100000 in
theorem value_any (c : Nat) (h : c < 256) (w : World) : Calls Try.prog 102 #[(.int .u8 ((c : Nat) : Int))] w fun e w' => e = .returned (.int .i64 (valI c)) ∧ w = w' := by
  refine sx_enter (L := [(0, (.int .u8 ((c : Nat) : Int)))]) Try.func102 rfl rfl rfl rfl (fun fa hf => ?_)
  have hb : Below w.heap.size w w := Below.refl _ _
  refine wp_seq_k (fun K1 hK1 => ?_)
  refine wp_region_lit ?_
  refine sqv hf (r_assign rfl) rfl rfl rfl ?_; clear hf fa; intro fa hf
  apply wpList_nil
  (try simp only [Exit.then, Exit.inBlock, ↓reduceIte, Nat.reduceEqDiff])
  refine hK1 _ _ ?_
  refine wp_seq_k (fun K2 hK2 => ?_)
  refine wp_block ?_
  refine wp_seq_k (fun K3 hK3 => ?_)
  refine wp_region_lit ?_
  refine sqv hf (r_move rfl) rfl rfl rfl ?_; clear hf fa; intro fa hf
  refine sqv hf (r_ge rfl rfl) rfl rfl rfl ?_; clear hf fa; intro fa hf
  refine sqv hf (r_move rfl) rfl rfl rfl ?_; clear hf fa; intro fa hf
  refine sqgT (act := (decide ((48 : Int) ≤ ((c : Nat) : Int)))) (ag := true) (c := (decide ((48 : Int) ≤ ((c : Nat) : Int)))) (v := (.int .u8 ((c : Nat) : Int))) hf rfl rfl rfl (fun hact => (r_move rfl)) rfl rfl ?_; clear hf fa; intro fa hf
  refine sqgT (act := (decide ((48 : Int) ≤ ((c : Nat) : Int)))) (ag := true) (c := (decide ((48 : Int) ≤ ((c : Nat) : Int)))) (v := (.bool (decide (((c : Nat) : Int) ≤ (57 : Int))))) hf rfl rfl rfl (fun hact => (r_le (gb_ev hact rfl) rfl)) rfl rfl ?_; clear hf fa; intro fa hf
  refine sqv hf (r_pickA (b := (decide ((48 : Int) ≤ ((c : Nat) : Int)))) (e := (decide (((c : Nat) : Int) ≤ (57 : Int)))) rfl rfl rfl) rfl rfl rfl ?_; clear hf fa; intro fa hf
  refine sqv hf (r_assign rfl) rfl rfl rfl ?_; clear hf fa; intro fa hf
  apply wpList_nil
  (try simp only [Exit.then, Exit.inBlock, ↓reduceIte, Nat.reduceEqDiff])
  refine hK3 _ _ ?_
  refine wp_cond_split (t := ((decide ((48 : Int) ≤ ((c : Nat) : Int))) && (decide (((c : Nat) : Int) ≤ (57 : Int))))) (hf.ev rfl) (fun hqt3_1 => ?_) (fun hqt3_1 => ?_)
  · have hqt3_1b := hqt3_1
    try simp only [decide_eq_true_eq, Bool.and_eq_true, Bool.or_eq_true, Bool.not_eq_true', decide_eq_false_iff_not, ne_eq, Bool.not_eq_true] at hqt3_1
    refine wp_seq_k (fun K4 hK4 => ?_)
    refine wp_region_lit ?_
    refine sqv hf (r_move rfl) rfl rfl rfl ?_; clear hf fa; intro fa hf
    refine sqv hf (r_sub (C := (((c : Nat) : Int) - (48 : Int))) rfl rfl (by rw [IntKind.wrap_u8]; omega)) rfl rfl rfl ?_; clear hf fa; intro fa hf
    refine sqv hf (r_conv (C := (((c : Nat) : Int) - (48 : Int))) rfl Try.underlying5 Try.underlying3 (by rw [IntKind.wrap_i64]; omega)) rfl rfl rfl ?_; clear hf fa; intro fa hf
    refine sqv hf (r_assign rfl) rfl rfl rfl ?_; clear hf fa; intro fa hf
    apply wpList_nil
    (try simp only [Exit.then, Exit.inBlock, ↓reduceIte, Nat.reduceEqDiff])
    refine hK4 _ _ ?_
    refine wp_ret ?_
    (try simp only [Exit.then, Exit.inBlock])
    refine ret1 hf rfl rfl ?_
    refine ⟨?_, rfl⟩; congr 2; unfold valI; split <;> (try split) <;> omega
  · have hqt3_1b := hqt3_1
    replace hqt3_1 := Bool.eq_false_iff.1 hqt3_1
    try simp only [ne_eq, decide_eq_true_eq, Bool.and_eq_true, Bool.or_eq_true, Bool.not_eq_true', decide_eq_false_iff_not] at hqt3_1
    refine wp_seq_k (fun K5 hK5 => ?_)
    refine wp_region_lit ?_
    refine sqv hf (r_move rfl) rfl rfl rfl ?_; clear hf fa; intro fa hf
    refine sqv hf (r_ge rfl rfl) rfl rfl rfl ?_; clear hf fa; intro fa hf
    refine sqv hf (r_move rfl) rfl rfl rfl ?_; clear hf fa; intro fa hf
    refine sqgT (act := (decide ((97 : Int) ≤ ((c : Nat) : Int)))) (ag := true) (c := (decide ((97 : Int) ≤ ((c : Nat) : Int)))) (v := (.int .u8 ((c : Nat) : Int))) hf rfl rfl rfl (fun hact => (r_move rfl)) rfl rfl ?_; clear hf fa; intro fa hf
    refine sqgT (act := (decide ((97 : Int) ≤ ((c : Nat) : Int)))) (ag := true) (c := (decide ((97 : Int) ≤ ((c : Nat) : Int)))) (v := (.bool (decide (((c : Nat) : Int) ≤ (102 : Int))))) hf rfl rfl rfl (fun hact => (r_le (gb_ev hact rfl) rfl)) rfl rfl ?_; clear hf fa; intro fa hf
    refine sqv hf (r_pickA (b := (decide ((97 : Int) ≤ ((c : Nat) : Int)))) (e := (decide (((c : Nat) : Int) ≤ (102 : Int)))) rfl rfl rfl) rfl rfl rfl ?_; clear hf fa; intro fa hf
    refine sqv hf (r_assign rfl) rfl rfl rfl ?_; clear hf fa; intro fa hf
    apply wpList_nil
    (try simp only [Exit.then, Exit.inBlock, ↓reduceIte, Nat.reduceEqDiff])
    refine hK5 _ _ ?_
    refine wp_cond_split (t := ((decide ((97 : Int) ≤ ((c : Nat) : Int))) && (decide (((c : Nat) : Int) ≤ (102 : Int))))) (hf.ev rfl) (fun hqt13_1 => ?_) (fun hqt13_1 => ?_)
    · have hqt13_1b := hqt13_1
      try simp only [decide_eq_true_eq, Bool.and_eq_true, Bool.or_eq_true, Bool.not_eq_true', decide_eq_false_iff_not, ne_eq, Bool.not_eq_true] at hqt13_1
      refine wp_seq_k (fun K6 hK6 => ?_)
      refine wp_region_lit ?_
      refine sqv hf (r_move rfl) rfl rfl rfl ?_; clear hf fa; intro fa hf
      refine sqv hf (r_sub (C := (((c : Nat) : Int) - (97 : Int))) rfl rfl (by rw [IntKind.wrap_u8]; omega)) rfl rfl rfl ?_; clear hf fa; intro fa hf
      refine sqv hf (r_conv (C := (((c : Nat) : Int) - (97 : Int))) rfl Try.underlying5 Try.underlying3 (by rw [IntKind.wrap_i64]; omega)) rfl rfl rfl ?_; clear hf fa; intro fa hf
      refine sqv hf (r_add (C := ((((c : Nat) : Int) - (97 : Int)) + (10 : Int))) rfl rfl (by rw [IntKind.wrap_i64]; omega)) rfl rfl rfl ?_; clear hf fa; intro fa hf
      refine sqv hf (r_assign rfl) rfl rfl rfl ?_; clear hf fa; intro fa hf
      apply wpList_nil
      (try simp only [Exit.then, Exit.inBlock, ↓reduceIte, Nat.reduceEqDiff])
      refine hK6 _ _ ?_
      refine wp_ret ?_
      (try simp only [Exit.then, Exit.inBlock])
      refine ret1 hf rfl rfl ?_
      refine ⟨?_, rfl⟩; congr 2; unfold valI; split <;> (try split) <;> omega
    · have hqt13_1b := hqt13_1
      replace hqt13_1 := Bool.eq_false_iff.1 hqt13_1
      try simp only [ne_eq, decide_eq_true_eq, Bool.and_eq_true, Bool.or_eq_true, Bool.not_eq_true', decide_eq_false_iff_not] at hqt13_1
      refine wp_skip ?_
      (try simp only [Exit.then, Exit.inBlock, ↓reduceIte, Nat.reduceEqDiff])
      refine hK2 _ _ ?_
      refine wp_seq_k (fun K7 hK7 => ?_)
      refine wp_region_lit ?_
      refine sqv hf (r_assign rfl) rfl rfl rfl ?_; clear hf fa; intro fa hf
      apply wpList_nil
      (try simp only [Exit.then, Exit.inBlock, ↓reduceIte, Nat.reduceEqDiff])
      refine hK7 _ _ ?_
      refine wp_ret ?_
      (try simp only [Exit.then, Exit.inBlock])
      refine ret1 hf rfl rfl ?_
      refine ⟨?_, rfl⟩; congr 2; unfold valI; split <;> (try split) <;> omega

set_option maxHeartbeats 1000000 in
set_option maxRecDepth 100000 in
theorem refShow_any (s : ByteArray) (w : World) (hs : s.size ≤ 1000000) : Calls Try.prog 46 #[(.string s)] w fun e w' => e = .returned (.string (strN (showL (bl s)))) ∧ Below w.heap.size w w' := by
  refine sx_enter (L := [(0, (.string s))]) Try.func46 rfl rfl rfl rfl (fun fa hf => ?_)
  have hb : Below w.heap.size w w := Below.refl _ _
  refine wp_seq_k (fun K1 hK1 => ?_)
  refine wp_region_lit ?_
  refine sqv hf (r_assign rfl) rfl rfl rfl ?_; clear hf fa; intro fa hf
  apply wpList_nil
  (try simp only [Exit.then, Exit.inBlock, ↓reduceIte, Nat.reduceEqDiff])
  refine hK1 _ _ ?_
  refine wp_seq_k (fun K2 hK2 => ?_)
  refine wp_region_lit ?_
  refine sqv hf (r_assign rfl) rfl rfl rfl ?_; clear hf fa; intro fa hf
  apply wpList_nil
  (try simp only [Exit.then, Exit.inBlock, ↓reduceIte, Nat.reduceEqDiff])
  refine hK2 _ _ ?_
  refine wp_seq_k (fun K3 hK3 => ?_)
  refine wp_region_lit ?_
  refine sqv hf (r_assign rfl) rfl rfl rfl ?_; clear hf fa; intro fa hf
  apply wpList_nil
  (try simp only [Exit.then, Exit.inBlock, ↓reduceIte, Nat.reduceEqDiff])
  refine hK3 _ _ ?_
  refine wp_seq_k (fun K4 hK4 => ?_)
  refine wp_seq_k (fun K5 hK5 => ?_)
  refine wp_region_lit ?_
  refine sqv hf (r_assign rfl) rfl rfl rfl ?_; clear hf fa; intro fa hf
  apply wpList_nil
  (try simp only [Exit.then, Exit.inBlock, ↓reduceIte, Nat.reduceEqDiff])
  refine hK5 _ _ ?_
  refine wp_block ?_
  refine wp_loop_k (fun mq fa wr => ∃ (n : Nat) (a : ByteArray), mq = s.size - n ∧ Fr 57 fa [(0, (.string s)), (3, (.string ⟨#[48, 49, 50, 51, 52, 53, 54, 55, 56, 57, 97, 98, 99, 100, 101, 102]⟩)), (4, (.string a)), (5, (.int .i64 ((n : Nat) : Int)))] ∧ Below w.heap.size w wr ∧ (n ≤ s.size) ∧ (bl a = 34 :: ((bl s).take n).flatMap sh)) ?_ ?_
  · skip
    exact ⟨_, 0, ⟨#[34]⟩, rfl, hf.sub ⟨rfl, rfl, rfl, (some_int (by first | rfl | omega)), trivial⟩, hb, by omega, (by simp [bl])⟩
  · skip
    clear hf fa; intro mq1 fa w1 hI KL1 hKL1
    clear hb
    obtain ⟨n, a, hmq1, hf, hb, hn, Hs⟩ := hI
    have hal : a.size ≤ 1 + 3 * n := by have h := congrArg List.length Hs; rw [bl_length] at h; have h2 := flat_len ((bl s).take n); simp only [List.length_cons, List.length_take] at h h2; omega
    refine wp_seq_k (fun K6 hK6 => ?_)
    refine wp_seq_k (fun K7 hK7 => ?_)
    refine wp_region_lit ?_
    refine sqv hf (r_move rfl) rfl rfl rfl ?_; clear hf fa; intro fa hf
    refine sqv hf (r_move rfl) rfl rfl rfl ?_; clear hf fa; intro fa hf
    refine sqv hf (r_lens rfl Try.underlying9) rfl rfl rfl ?_; clear hf fa; intro fa hf
    refine sqv hf (r_lt rfl rfl) rfl rfl rfl ?_; clear hf fa; intro fa hf
    apply wpList_nil
    (try simp only [Exit.then, Exit.inBlock, ↓reduceIte, Nat.reduceEqDiff])
    refine hK7 _ _ ?_
    refine wp_cond_split (t := (decide (((n : Nat) : Int) < ((s.size : Nat) : Int)))) (hf.ev rfl) (fun hqt10_1 => ?_) (fun hqt10_1 => ?_)
    · have hqt10_1b := hqt10_1
      try simp only [decide_eq_true_eq, Bool.and_eq_true, Bool.or_eq_true, Bool.not_eq_true', decide_eq_false_iff_not, ne_eq, Bool.not_eq_true] at hqt10_1
      refine wp_skip ?_
      (try simp only [Exit.then, Exit.inBlock, ↓reduceIte, Nat.reduceEqDiff])
      refine hK6 _ _ ?_
      refine wp_seq_k (fun K8 hK8 => ?_)
      refine wp_block ?_
      refine wp_seq_k (fun K9 hK9 => ?_)
      refine wp_region_lit ?_
      refine sqv hf (r_move rfl) rfl rfl rfl ?_; clear hf fa; intro fa hf
      refine sqv hf (r_move rfl) rfl rfl rfl ?_; clear hf fa; intro fa hf
      refine sqv hf (r_sindexD (j := n) rfl rfl Try.underlying9 rfl (by omega)) rfl rfl rfl ?_; clear hf fa; intro fa hf
      refine sqv hf (r_assign rfl) rfl rfl rfl ?_; clear hf fa; intro fa hf
      apply wpList_nil
      (try simp only [Exit.then, Exit.inBlock, ↓reduceIte, Nat.reduceEqDiff])
      refine hK9 _ _ ?_
      refine wp_seq_k (fun K10 hK10 => ?_)
      have hsl := sbt_lt s n
      refine wp_region_lit ?_
      refine sqv hf (r_move rfl) rfl rfl rfl ?_; clear hf fa; intro fa hf
      refine sqv hf (r_lt rfl rfl) rfl rfl rfl ?_; clear hf fa; intro fa hf
      refine sqv hf (r_move rfl) rfl rfl rfl ?_; clear hf fa; intro fa hf
      refine sqgF (act := (!(decide (((sbt s n : Nat) : Int) < (32 : Int))))) (ag := true) (c := (decide (((sbt s n : Nat) : Int) < (32 : Int)))) (v := (.int .u8 ((sbt s n : Nat) : Int))) hf rfl rfl rfl (fun hact => (r_move rfl)) rfl rfl ?_; clear hf fa; intro fa hf
      refine sqgF (act := (!(decide (((sbt s n : Nat) : Int) < (32 : Int))))) (ag := true) (c := (decide (((sbt s n : Nat) : Int) < (32 : Int)))) (v := (.bool (decide ((126 : Int) < ((sbt s n : Nat) : Int))))) hf rfl rfl rfl (fun hact => (r_gt (gb_ev hact rfl) rfl)) rfl rfl ?_; clear hf fa; intro fa hf
      refine sqv hf (r_pickO (b := (decide (((sbt s n : Nat) : Int) < (32 : Int)))) (e := (decide ((126 : Int) < ((sbt s n : Nat) : Int)))) rfl rfl rfl) rfl rfl rfl ?_; clear hf fa; intro fa hf
      refine sqv hf (r_move rfl) rfl rfl rfl ?_; clear hf fa; intro fa hf
      refine sqgF (act := (!((decide (((sbt s n : Nat) : Int) < (32 : Int))) || (decide ((126 : Int) < ((sbt s n : Nat) : Int)))))) (ag := true) (c := ((decide (((sbt s n : Nat) : Int) < (32 : Int))) || (decide ((126 : Int) < ((sbt s n : Nat) : Int))))) (v := (.int .u8 ((sbt s n : Nat) : Int))) hf rfl rfl rfl (fun hact => (r_move rfl)) rfl rfl ?_; clear hf fa; intro fa hf
      refine sqgF (act := (!((decide (((sbt s n : Nat) : Int) < (32 : Int))) || (decide ((126 : Int) < ((sbt s n : Nat) : Int)))))) (ag := true) (c := ((decide (((sbt s n : Nat) : Int) < (32 : Int))) || (decide ((126 : Int) < ((sbt s n : Nat) : Int))))) (v := (.bool (decide (((sbt s n : Nat) : Int) = (34 : Int))))) hf rfl rfl rfl (fun hact => (r_eq (gb_ev hact rfl) rfl)) rfl rfl ?_; clear hf fa; intro fa hf
      refine sqv hf (r_pickO (b := ((decide (((sbt s n : Nat) : Int) < (32 : Int))) || (decide ((126 : Int) < ((sbt s n : Nat) : Int))))) (e := (decide (((sbt s n : Nat) : Int) = (34 : Int)))) rfl rfl rfl) rfl rfl rfl ?_; clear hf fa; intro fa hf
      refine sqv hf (r_move rfl) rfl rfl rfl ?_; clear hf fa; intro fa hf
      refine sqgF (act := (!(((decide (((sbt s n : Nat) : Int) < (32 : Int))) || (decide ((126 : Int) < ((sbt s n : Nat) : Int)))) || (decide (((sbt s n : Nat) : Int) = (34 : Int)))))) (ag := true) (c := (((decide (((sbt s n : Nat) : Int) < (32 : Int))) || (decide ((126 : Int) < ((sbt s n : Nat) : Int)))) || (decide (((sbt s n : Nat) : Int) = (34 : Int))))) (v := (.int .u8 ((sbt s n : Nat) : Int))) hf rfl rfl rfl (fun hact => (r_move rfl)) rfl rfl ?_; clear hf fa; intro fa hf
      refine sqgF (act := (!(((decide (((sbt s n : Nat) : Int) < (32 : Int))) || (decide ((126 : Int) < ((sbt s n : Nat) : Int)))) || (decide (((sbt s n : Nat) : Int) = (34 : Int)))))) (ag := true) (c := (((decide (((sbt s n : Nat) : Int) < (32 : Int))) || (decide ((126 : Int) < ((sbt s n : Nat) : Int)))) || (decide (((sbt s n : Nat) : Int) = (34 : Int))))) (v := (.bool (decide (((sbt s n : Nat) : Int) = (92 : Int))))) hf rfl rfl rfl (fun hact => (r_eq (gb_ev hact rfl) rfl)) rfl rfl ?_; clear hf fa; intro fa hf
      refine sqv hf (r_pickO (b := (((decide (((sbt s n : Nat) : Int) < (32 : Int))) || (decide ((126 : Int) < ((sbt s n : Nat) : Int)))) || (decide (((sbt s n : Nat) : Int) = (34 : Int))))) (e := (decide (((sbt s n : Nat) : Int) = (92 : Int)))) rfl rfl rfl) rfl rfl rfl ?_; clear hf fa; intro fa hf
      apply wpList_nil
      (try simp only [Exit.then, Exit.inBlock, ↓reduceIte, Nat.reduceEqDiff])
      refine hK10 _ _ ?_
      refine wp_cond_split (t := ((((decide (((sbt s n : Nat) : Int) < (32 : Int))) || (decide ((126 : Int) < ((sbt s n : Nat) : Int)))) || (decide (((sbt s n : Nat) : Int) = (34 : Int)))) || (decide (((sbt s n : Nat) : Int) = (92 : Int))))) (hf.ev rfl) (fun hqt29_1 => ?_) (fun hqt29_1 => ?_)
      · have hqt29_1b := hqt29_1
        try simp only [decide_eq_true_eq, Bool.and_eq_true, Bool.or_eq_true, Bool.not_eq_true', decide_eq_false_iff_not, ne_eq, Bool.not_eq_true] at hqt29_1
        have hsl := sbt_lt s n
        refine wp_region_un (fun wq => Below w1.heap.size w1 wq) (fun w w' => Below w.heap.size w w')
          (fun V => [(fun x _ => x = (.string a)), (fun x _ => x = (.string (a ++ ⟨#[92]⟩))), (fun x _ => x = (.string ⟨#[48, 49, 50, 51, 52, 53, 54, 55, 56, 57, 97, 98, 99, 100, 101, 102]⟩)), (fun x _ => x = (.int .u8 ((sbt s n : Nat) : Int))), (fun x _ => x = (.int .u8 (((sbt s n : Nat) : Int) / (16 : Int)))), (fun x _ => x = (.int .u8 ((sbt s n : Nat) : Int))), (fun x _ => x = (.int .u8 (((sbt s n : Nat) : Int) / (16 : Int)))), (fun x _ => x = (.int .u8 ((((sbt s n : Nat) : Int) / (16 : Int)) + (1 : Int)))), (fun x _ => x = (.string ((⟨#[48, 49, 50, 51, 52, 53, 54, 55, 56, 57, 97, 98, 99, 100, 101, 102]⟩ : ByteArray).extract ((sbt s n) / 16) (((sbt s n) / 16) + 1)))), (fun x _ => x = (.string ((a ++ ⟨#[92]⟩) ++ ((⟨#[48, 49, 50, 51, 52, 53, 54, 55, 56, 57, 97, 98, 99, 100, 101, 102]⟩ : ByteArray).extract ((sbt s n) / 16) (((sbt s n) / 16) + 1))))), (fun x _ => x = (.string ⟨#[48, 49, 50, 51, 52, 53, 54, 55, 56, 57, 97, 98, 99, 100, 101, 102]⟩)), (fun x _ => x = (.int .u8 ((sbt s n : Nat) : Int))), (fun x _ => x = (.int .u8 (((sbt s n : Nat) : Int) % (16 : Int)))), (fun x _ => x = (.int .u8 ((sbt s n : Nat) : Int))), (fun x _ => x = (.int .u8 (((sbt s n : Nat) : Int) % (16 : Int)))), (fun x _ => x = (.int .u8 ((((sbt s n : Nat) : Int) % (16 : Int)) + (1 : Int)))), (fun x _ => x = (.string ((⟨#[48, 49, 50, 51, 52, 53, 54, 55, 56, 57, 97, 98, 99, 100, 101, 102]⟩ : ByteArray).extract ((sbt s n) % 16) (((sbt s n) % 16) + 1)))), (fun x _ => x = (.string (((a ++ ⟨#[92]⟩) ++ ((⟨#[48, 49, 50, 51, 52, 53, 54, 55, 56, 57, 97, 98, 99, 100, 101, 102]⟩ : ByteArray).extract ((sbt s n) / 16) (((sbt s n) / 16) + 1))) ++ ((⟨#[48, 49, 50, 51, 52, 53, 54, 55, 56, 57, 97, 98, 99, 100, 101, 102]⟩ : ByteArray).extract ((sbt s n) % 16) (((sbt s n) % 16) + 1))))), (fun x _ => x = (.string (((a ++ ⟨#[92]⟩) ++ ((⟨#[48, 49, 50, 51, 52, 53, 54, 55, 56, 57, 97, 98, 99, 100, 101, 102]⟩ : ByteArray).extract ((sbt s n) / 16) (((sbt s n) / 16) + 1))) ++ ((⟨#[48, 49, 50, 51, 52, 53, 54, 55, 56, 57, 97, 98, 99, 100, 101, 102]⟩ : ByteArray).extract ((sbt s n) % 16) (((sbt s n) % 16) + 1)))))])
          []
          [[], [0], [], [], [3], [], [5], [6], [2, 4, 7], [1, 8], [], [], [11], [], [13], [14], [10, 12, 15], [9, 16], [0, 1, 2, 3, 4, 5, 6, 7, 8, 9, 10, 11, 12, 13, 14, 15, 16, 17]]
          hf (by kernel_rfl) (by kernel_rfl) (fun _ => rfl) ((Below.refl _ _).drew) (fun a b h1 h2 => h1.trans (h2.mono h1.size)) (fun _ _ h => h.size) (fun V => ⟨kept_eq, kept_eq, kept_eq, kept_eq, kept_eq, kept_eq, kept_eq, kept_eq, kept_eq, kept_eq, kept_eq, kept_eq, kept_eq, kept_eq, kept_eq, kept_eq, kept_eq, kept_eq, kept_eq, trivial⟩) (fun _ _ _ _ _ => rfl) ?_ ?_
        · skip
          intro V
          refine ⟨fun wu0 hC hd => ?_, ?_⟩
          · clear hd
            replace hb := hb.trans (hC.mono hb.size)
            exact Runs.does (r_move rfl) ⟨Below.refl _ _, rfl, nofr rfl⟩
          refine ⟨fun wu1 hC hd => ?_, ?_⟩
          · obtain ⟨h0, _⟩ := hd
            skip
            replace h0 : V 0 = (.string a) := h0
            replace hb := hb.trans (hC.mono hb.size)
            exact Runs.does (r_sadd (congrArg some h0) rfl (by have : ((⟨#[92]⟩) : ByteArray).size = 1 := rfl; omega)) ⟨Below.refl _ _, rfl, nofr rfl⟩
          refine ⟨fun wu2 hC hd => ?_, ?_⟩
          · clear hd
            replace hb := hb.trans (hC.mono hb.size)
            exact Runs.does (r_move rfl) ⟨Below.refl _ _, rfl, nofr rfl⟩
          refine ⟨fun wu3 hC hd => ?_, ?_⟩
          · clear hd
            replace hb := hb.trans (hC.mono hb.size)
            exact Runs.does (r_move rfl) ⟨Below.refl _ _, rfl, nofr rfl⟩
          refine ⟨fun wu4 hC hd => ?_, ?_⟩
          · obtain ⟨h3, _⟩ := hd
            skip
            replace h3 : V 3 = (.int .u8 ((sbt s n : Nat) : Int)) := h3
            replace hb := hb.trans (hC.mono hb.size)
            exact Runs.does (r_quo (C := (((sbt s n : Nat) : Int) / (16 : Int))) (congrArg some h3) rfl (by omega) (by rw [Int.tdiv_eq_ediv_of_nonneg (by omega), IntKind.wrap_u8]; omega)) ⟨Below.refl _ _, rfl, nofr rfl⟩
          refine ⟨fun wu5 hC hd => ?_, ?_⟩
          · clear hd
            replace hb := hb.trans (hC.mono hb.size)
            exact Runs.does (r_move rfl) ⟨Below.refl _ _, rfl, nofr rfl⟩
          refine ⟨fun wu6 hC hd => ?_, ?_⟩
          · obtain ⟨h5, _⟩ := hd
            skip
            replace h5 : V 5 = (.int .u8 ((sbt s n : Nat) : Int)) := h5
            replace hb := hb.trans (hC.mono hb.size)
            exact Runs.does (r_quo (C := (((sbt s n : Nat) : Int) / (16 : Int))) (congrArg some h5) rfl (by omega) (by rw [Int.tdiv_eq_ediv_of_nonneg (by omega), IntKind.wrap_u8]; omega)) ⟨Below.refl _ _, rfl, nofr rfl⟩
          refine ⟨fun wu7 hC hd => ?_, ?_⟩
          · obtain ⟨h6, _⟩ := hd
            skip
            replace h6 : V 6 = (.int .u8 (((sbt s n : Nat) : Int) / (16 : Int))) := h6
            replace hb := hb.trans (hC.mono hb.size)
            exact Runs.does (r_add (C := ((((sbt s n : Nat) : Int) / (16 : Int)) + (1 : Int))) (congrArg some h6) rfl (by rw [IntKind.wrap_u8]; omega)) ⟨Below.refl _ _, rfl, nofr rfl⟩
          refine ⟨fun wu8 hC hd => ?_, ?_⟩
          · obtain ⟨h2, h4, h7, _⟩ := hd
            skip
            skip
            skip
            replace h2 : V 2 = (.string ⟨#[48, 49, 50, 51, 52, 53, 54, 55, 56, 57, 97, 98, 99, 100, 101, 102]⟩) := h2
            replace h4 : V 4 = (.int .u8 (((sbt s n : Nat) : Int) / (16 : Int))) := h4
            replace h7 : V 7 = (.int .u8 ((((sbt s n : Nat) : Int) / (16 : Int)) + (1 : Int))) := h7
            replace hb := hb.trans (hC.mono hb.size)
            exact Runs.does (r_sslice (a := ((sbt s n) / 16)) (b := (((sbt s n) / 16) + 1)) (k1 := .u8) (k2 := .u8) (A := (((sbt s n : Nat) : Int) / (16 : Int))) (B := ((((sbt s n : Nat) : Int) / (16 : Int)) + (1 : Int))) (congrArg some h2) Try.underlying9 (.inr ⟨_, rfl, (congrArg some h4), (by omega)⟩) (.inr ⟨_, rfl, (congrArg some h7), (by omega)⟩) (by have : ((⟨#[48, 49, 50, 51, 52, 53, 54, 55, 56, 57, 97, 98, 99, 100, 101, 102]⟩) : ByteArray).size = 16 := rfl; omega) (by have : ((⟨#[48, 49, 50, 51, 52, 53, 54, 55, 56, 57, 97, 98, 99, 100, 101, 102]⟩) : ByteArray).size = 16 := rfl; omega)) ⟨Below.refl _ _, rfl, nofr rfl⟩
          refine ⟨fun wu9 hC hd => ?_, ?_⟩
          · obtain ⟨h1, h8, _⟩ := hd
            skip
            skip
            replace h1 : V 1 = (.string (a ++ ⟨#[92]⟩)) := h1
            replace h8 : V 8 = (.string ((⟨#[48, 49, 50, 51, 52, 53, 54, 55, 56, 57, 97, 98, 99, 100, 101, 102]⟩ : ByteArray).extract ((sbt s n) / 16) (((sbt s n) / 16) + 1))) := h8
            replace hb := hb.trans (hC.mono hb.size)
            exact Runs.does (r_sadd (congrArg some h1) (congrArg some h8) (by have : ((⟨#[92]⟩) : ByteArray).size = 1 := rfl; have := sz_app a ⟨#[92]⟩; have : ((⟨#[48, 49, 50, 51, 52, 53, 54, 55, 56, 57, 97, 98, 99, 100, 101, 102]⟩) : ByteArray).size = 16 := rfl; have := sz_ext ⟨#[48, 49, 50, 51, 52, 53, 54, 55, 56, 57, 97, 98, 99, 100, 101, 102]⟩ ((sbt s n) / 16) (((sbt s n) / 16) + 1) (by omega) (by omega); omega)) ⟨Below.refl _ _, rfl, nofr rfl⟩
          refine ⟨fun wu10 hC hd => ?_, ?_⟩
          · clear hd
            replace hb := hb.trans (hC.mono hb.size)
            exact Runs.does (r_move rfl) ⟨Below.refl _ _, rfl, nofr rfl⟩
          refine ⟨fun wu11 hC hd => ?_, ?_⟩
          · clear hd
            replace hb := hb.trans (hC.mono hb.size)
            exact Runs.does (r_move rfl) ⟨Below.refl _ _, rfl, nofr rfl⟩
          refine ⟨fun wu12 hC hd => ?_, ?_⟩
          · obtain ⟨h11, _⟩ := hd
            skip
            replace h11 : V 11 = (.int .u8 ((sbt s n : Nat) : Int)) := h11
            replace hb := hb.trans (hC.mono hb.size)
            exact Runs.does (r_rem (C := (((sbt s n : Nat) : Int) % (16 : Int))) (congrArg some h11) rfl (by omega) (Int.tmod_eq_emod_of_nonneg (by omega))) ⟨Below.refl _ _, rfl, nofr rfl⟩
          refine ⟨fun wu13 hC hd => ?_, ?_⟩
          · clear hd
            replace hb := hb.trans (hC.mono hb.size)
            exact Runs.does (r_move rfl) ⟨Below.refl _ _, rfl, nofr rfl⟩
          refine ⟨fun wu14 hC hd => ?_, ?_⟩
          · obtain ⟨h13, _⟩ := hd
            skip
            replace h13 : V 13 = (.int .u8 ((sbt s n : Nat) : Int)) := h13
            replace hb := hb.trans (hC.mono hb.size)
            exact Runs.does (r_rem (C := (((sbt s n : Nat) : Int) % (16 : Int))) (congrArg some h13) rfl (by omega) (Int.tmod_eq_emod_of_nonneg (by omega))) ⟨Below.refl _ _, rfl, nofr rfl⟩
          refine ⟨fun wu15 hC hd => ?_, ?_⟩
          · obtain ⟨h14, _⟩ := hd
            skip
            replace h14 : V 14 = (.int .u8 (((sbt s n : Nat) : Int) % (16 : Int))) := h14
            replace hb := hb.trans (hC.mono hb.size)
            exact Runs.does (r_add (C := ((((sbt s n : Nat) : Int) % (16 : Int)) + (1 : Int))) (congrArg some h14) rfl (by rw [IntKind.wrap_u8]; omega)) ⟨Below.refl _ _, rfl, nofr rfl⟩
          refine ⟨fun wu16 hC hd => ?_, ?_⟩
          · obtain ⟨h10, h12, h15, _⟩ := hd
            skip
            skip
            skip
            replace h10 : V 10 = (.string ⟨#[48, 49, 50, 51, 52, 53, 54, 55, 56, 57, 97, 98, 99, 100, 101, 102]⟩) := h10
            replace h12 : V 12 = (.int .u8 (((sbt s n : Nat) : Int) % (16 : Int))) := h12
            replace h15 : V 15 = (.int .u8 ((((sbt s n : Nat) : Int) % (16 : Int)) + (1 : Int))) := h15
            replace hb := hb.trans (hC.mono hb.size)
            exact Runs.does (r_sslice (a := ((sbt s n) % 16)) (b := (((sbt s n) % 16) + 1)) (k1 := .u8) (k2 := .u8) (A := (((sbt s n : Nat) : Int) % (16 : Int))) (B := ((((sbt s n : Nat) : Int) % (16 : Int)) + (1 : Int))) (congrArg some h10) Try.underlying9 (.inr ⟨_, rfl, (congrArg some h12), (by omega)⟩) (.inr ⟨_, rfl, (congrArg some h15), (by omega)⟩) (by have : ((⟨#[48, 49, 50, 51, 52, 53, 54, 55, 56, 57, 97, 98, 99, 100, 101, 102]⟩) : ByteArray).size = 16 := rfl; omega) (by have : ((⟨#[48, 49, 50, 51, 52, 53, 54, 55, 56, 57, 97, 98, 99, 100, 101, 102]⟩) : ByteArray).size = 16 := rfl; omega)) ⟨Below.refl _ _, rfl, nofr rfl⟩
          refine ⟨fun wu17 hC hd => ?_, ?_⟩
          · obtain ⟨h9, h16, _⟩ := hd
            skip
            skip
            replace h9 : V 9 = (.string ((a ++ ⟨#[92]⟩) ++ ((⟨#[48, 49, 50, 51, 52, 53, 54, 55, 56, 57, 97, 98, 99, 100, 101, 102]⟩ : ByteArray).extract ((sbt s n) / 16) (((sbt s n) / 16) + 1)))) := h9
            replace h16 : V 16 = (.string ((⟨#[48, 49, 50, 51, 52, 53, 54, 55, 56, 57, 97, 98, 99, 100, 101, 102]⟩ : ByteArray).extract ((sbt s n) % 16) (((sbt s n) % 16) + 1))) := h16
            replace hb := hb.trans (hC.mono hb.size)
            exact Runs.does (r_sadd (congrArg some h9) (congrArg some h16) (by have : ((⟨#[92]⟩) : ByteArray).size = 1 := rfl; have := sz_app a ⟨#[92]⟩; have : ((⟨#[48, 49, 50, 51, 52, 53, 54, 55, 56, 57, 97, 98, 99, 100, 101, 102]⟩) : ByteArray).size = 16 := rfl; have := sz_ext ⟨#[48, 49, 50, 51, 52, 53, 54, 55, 56, 57, 97, 98, 99, 100, 101, 102]⟩ ((sbt s n) / 16) (((sbt s n) / 16) + 1) (by omega) (by omega); have := sz_app (a ++ ⟨#[92]⟩) ((⟨#[48, 49, 50, 51, 52, 53, 54, 55, 56, 57, 97, 98, 99, 100, 101, 102]⟩ : ByteArray).extract ((sbt s n) / 16) (((sbt s n) / 16) + 1)); have : ((⟨#[48, 49, 50, 51, 52, 53, 54, 55, 56, 57, 97, 98, 99, 100, 101, 102]⟩) : ByteArray).size = 16 := rfl; have := sz_ext ⟨#[48, 49, 50, 51, 52, 53, 54, 55, 56, 57, 97, 98, 99, 100, 101, 102]⟩ ((sbt s n) % 16) (((sbt s n) % 16) + 1) (by omega) (by omega); omega)) ⟨Below.refl _ _, rfl, nofr rfl⟩
          refine ⟨fun wu18 hC hd => ?_, ?_⟩
          · obtain ⟨h0, h1, h2, h3, h4, h5, h6, h7, h8, h9, h10, h11, h12, h13, h14, h15, h16, h17, _⟩ := hd
            skip
            skip
            skip
            skip
            skip
            skip
            skip
            skip
            skip
            skip
            skip
            skip
            skip
            skip
            skip
            skip
            skip
            skip
            replace h0 : V 0 = (.string a) := h0
            replace h1 : V 1 = (.string (a ++ ⟨#[92]⟩)) := h1
            replace h2 : V 2 = (.string ⟨#[48, 49, 50, 51, 52, 53, 54, 55, 56, 57, 97, 98, 99, 100, 101, 102]⟩) := h2
            replace h3 : V 3 = (.int .u8 ((sbt s n : Nat) : Int)) := h3
            replace h4 : V 4 = (.int .u8 (((sbt s n : Nat) : Int) / (16 : Int))) := h4
            replace h5 : V 5 = (.int .u8 ((sbt s n : Nat) : Int)) := h5
            replace h6 : V 6 = (.int .u8 (((sbt s n : Nat) : Int) / (16 : Int))) := h6
            replace h7 : V 7 = (.int .u8 ((((sbt s n : Nat) : Int) / (16 : Int)) + (1 : Int))) := h7
            replace h8 : V 8 = (.string ((⟨#[48, 49, 50, 51, 52, 53, 54, 55, 56, 57, 97, 98, 99, 100, 101, 102]⟩ : ByteArray).extract ((sbt s n) / 16) (((sbt s n) / 16) + 1))) := h8
            replace h9 : V 9 = (.string ((a ++ ⟨#[92]⟩) ++ ((⟨#[48, 49, 50, 51, 52, 53, 54, 55, 56, 57, 97, 98, 99, 100, 101, 102]⟩ : ByteArray).extract ((sbt s n) / 16) (((sbt s n) / 16) + 1)))) := h9
            replace h10 : V 10 = (.string ⟨#[48, 49, 50, 51, 52, 53, 54, 55, 56, 57, 97, 98, 99, 100, 101, 102]⟩) := h10
            replace h11 : V 11 = (.int .u8 ((sbt s n : Nat) : Int)) := h11
            replace h12 : V 12 = (.int .u8 (((sbt s n : Nat) : Int) % (16 : Int))) := h12
            replace h13 : V 13 = (.int .u8 ((sbt s n : Nat) : Int)) := h13
            replace h14 : V 14 = (.int .u8 (((sbt s n : Nat) : Int) % (16 : Int))) := h14
            replace h15 : V 15 = (.int .u8 ((((sbt s n : Nat) : Int) % (16 : Int)) + (1 : Int))) := h15
            replace h16 : V 16 = (.string ((⟨#[48, 49, 50, 51, 52, 53, 54, 55, 56, 57, 97, 98, 99, 100, 101, 102]⟩ : ByteArray).extract ((sbt s n) % 16) (((sbt s n) % 16) + 1))) := h16
            replace h17 : V 17 = (.string (((a ++ ⟨#[92]⟩) ++ ((⟨#[48, 49, 50, 51, 52, 53, 54, 55, 56, 57, 97, 98, 99, 100, 101, 102]⟩ : ByteArray).extract ((sbt s n) / 16) (((sbt s n) / 16) + 1))) ++ ((⟨#[48, 49, 50, 51, 52, 53, 54, 55, 56, 57, 97, 98, 99, 100, 101, 102]⟩ : ByteArray).extract ((sbt s n) % 16) (((sbt s n) % 16) + 1)))) := h17
            replace hb := hb.trans (hC.mono hb.size)
            exact Runs.does (r_assign (congrArg some h17)) ⟨Below.refl _ _, rfl, nofr rfl⟩
          trivial
        · skip
          clear hf fa; intro V w2 fa he1 hp hnb hf
          have hv0 : V 0 = (.string a) := postsHold_at hp 0 rfl
          have hv1 : V 1 = (.string (a ++ ⟨#[92]⟩)) := postsHold_at hp 1 rfl
          have hv2 : V 2 = (.string ⟨#[48, 49, 50, 51, 52, 53, 54, 55, 56, 57, 97, 98, 99, 100, 101, 102]⟩) := postsHold_at hp 2 rfl
          have hv3 : V 3 = (.int .u8 ((sbt s n : Nat) : Int)) := postsHold_at hp 3 rfl
          have hv4 : V 4 = (.int .u8 (((sbt s n : Nat) : Int) / (16 : Int))) := postsHold_at hp 4 rfl
          have hv5 : V 5 = (.int .u8 ((sbt s n : Nat) : Int)) := postsHold_at hp 5 rfl
          have hv6 : V 6 = (.int .u8 (((sbt s n : Nat) : Int) / (16 : Int))) := postsHold_at hp 6 rfl
          have hv7 : V 7 = (.int .u8 ((((sbt s n : Nat) : Int) / (16 : Int)) + (1 : Int))) := postsHold_at hp 7 rfl
          have hv8 : V 8 = (.string ((⟨#[48, 49, 50, 51, 52, 53, 54, 55, 56, 57, 97, 98, 99, 100, 101, 102]⟩ : ByteArray).extract ((sbt s n) / 16) (((sbt s n) / 16) + 1))) := postsHold_at hp 8 rfl
          have hv9 : V 9 = (.string ((a ++ ⟨#[92]⟩) ++ ((⟨#[48, 49, 50, 51, 52, 53, 54, 55, 56, 57, 97, 98, 99, 100, 101, 102]⟩ : ByteArray).extract ((sbt s n) / 16) (((sbt s n) / 16) + 1)))) := postsHold_at hp 9 rfl
          have hv10 : V 10 = (.string ⟨#[48, 49, 50, 51, 52, 53, 54, 55, 56, 57, 97, 98, 99, 100, 101, 102]⟩) := postsHold_at hp 10 rfl
          have hv11 : V 11 = (.int .u8 ((sbt s n : Nat) : Int)) := postsHold_at hp 11 rfl
          have hv12 : V 12 = (.int .u8 (((sbt s n : Nat) : Int) % (16 : Int))) := postsHold_at hp 12 rfl
          have hv13 : V 13 = (.int .u8 ((sbt s n : Nat) : Int)) := postsHold_at hp 13 rfl
          have hv14 : V 14 = (.int .u8 (((sbt s n : Nat) : Int) % (16 : Int))) := postsHold_at hp 14 rfl
          have hv15 : V 15 = (.int .u8 ((((sbt s n : Nat) : Int) % (16 : Int)) + (1 : Int))) := postsHold_at hp 15 rfl
          have hv16 : V 16 = (.string ((⟨#[48, 49, 50, 51, 52, 53, 54, 55, 56, 57, 97, 98, 99, 100, 101, 102]⟩ : ByteArray).extract ((sbt s n) % 16) (((sbt s n) % 16) + 1))) := postsHold_at hp 16 rfl
          have hv17 : V 17 = (.string (((a ++ ⟨#[92]⟩) ++ ((⟨#[48, 49, 50, 51, 52, 53, 54, 55, 56, 57, 97, 98, 99, 100, 101, 102]⟩ : ByteArray).extract ((sbt s n) / 16) (((sbt s n) / 16) + 1))) ++ ((⟨#[48, 49, 50, 51, 52, 53, 54, 55, 56, 57, 97, 98, 99, 100, 101, 102]⟩ : ByteArray).extract ((sbt s n) % 16) (((sbt s n) % 16) + 1)))) := postsHold_at hp 17 rfl
          have hv18 : V 18 = (.string (((a ++ ⟨#[92]⟩) ++ ((⟨#[48, 49, 50, 51, 52, 53, 54, 55, 56, 57, 97, 98, 99, 100, 101, 102]⟩ : ByteArray).extract ((sbt s n) / 16) (((sbt s n) / 16) + 1))) ++ ((⟨#[48, 49, 50, 51, 52, 53, 54, 55, 56, 57, 97, 98, 99, 100, 101, 102]⟩ : ByteArray).extract ((sbt s n) % 16) (((sbt s n) % 16) + 1)))) := postsHold_at hp 18 rfl
          simp only [List.take_succ_cons, List.take_zero, insAll, ins, hv0, hv1, hv2, hv3, hv4, hv5, hv6, hv7, hv8, hv9, hv10, hv11, hv12, hv13, hv14, hv15, hv16, hv17, hv18] at hf
          clear hp hnb hv0 hv1 hv2 hv3 hv4 hv5 hv6 hv7 hv8 hv9 hv10 hv11 hv12 hv13 hv14 hv15 hv16 hv17 hv18
          replace hb := hb.trans (Below.mono he1 hb.size)
          (try simp only [Exit.then, Exit.inBlock, ↓reduceIte, Nat.reduceEqDiff])
          refine hK8 _ _ ?_
          refine wp_region_lit ?_
          refine sqv hf (r_move rfl) rfl rfl rfl ?_; clear hf fa; intro fa hf
          refine sqv hf (r_add (C := (((n : Nat) : Int) + (1 : Int))) rfl rfl (by rw [IntKind.wrap_i64]; omega)) rfl rfl rfl ?_; clear hf fa; intro fa hf
          refine sqv hf (r_assign rfl) rfl rfl rfl ?_; clear hf fa; intro fa hf
          apply wpList_nil
          (try simp only [Exit.then, Exit.inBlock, ↓reduceIte, Nat.reduceEqDiff])
          refine hKL1 _ _ _ (by omega) ⟨(n + 1), (((a ++ ⟨#[92]⟩) ++ ((⟨#[48, 49, 50, 51, 52, 53, 54, 55, 56, 57, 97, 98, 99, 100, 101, 102]⟩ : ByteArray).extract ((sbt s n) / 16) (((sbt s n) / 16) + 1))) ++ ((⟨#[48, 49, 50, 51, 52, 53, 54, 55, 56, 57, 97, 98, 99, 100, 101, 102]⟩ : ByteArray).extract ((sbt s n) % 16) (((sbt s n) % 16) + 1))), rfl, hf.sub ⟨rfl, rfl, rfl, (some_int (by first | rfl | omega)), trivial⟩, hb, by omega, (by rw [flat_take _ _ (by rw [bl_length]; omega), bl_sbt s n (by omega), sh_esc (by omega)]; simp only [bl_app, Hs]; rw [bl_hex _ (by omega), bl_hex _ (by omega)]; simp [bl])⟩
      · have hqt29_1b := hqt29_1
        replace hqt29_1 := Bool.eq_false_iff.1 hqt29_1
        try simp only [ne_eq, decide_eq_true_eq, Bool.and_eq_true, Bool.or_eq_true, Bool.not_eq_true', decide_eq_false_iff_not] at hqt29_1
        refine wp_region_lit ?_
        refine sqv hf (r_move rfl) rfl rfl rfl ?_; clear hf fa; intro fa hf
        refine sqv hf (r_move rfl) rfl rfl rfl ?_; clear hf fa; intro fa hf
        refine sqv hf (r_move rfl) rfl rfl rfl ?_; clear hf fa; intro fa hf
        refine sqv hf (r_move rfl) rfl rfl rfl ?_; clear hf fa; intro fa hf
        refine sqv hf (r_add (C := (((n : Nat) : Int) + (1 : Int))) rfl rfl (by rw [IntKind.wrap_i64]; omega)) rfl rfl rfl ?_; clear hf fa; intro fa hf
        refine sqv hf (r_sslice (a := n) (b := (n + 1)) (k1 := .i64) (k2 := .i64) (A := ((n : Nat) : Int)) (B := (((n : Nat) : Int) + (1 : Int))) rfl Try.underlying9 (.inr ⟨_, rfl, rfl, rfl⟩) (.inr ⟨_, rfl, rfl, rfl⟩) (by omega) (by omega)) rfl rfl rfl ?_; clear hf fa; intro fa hf
        refine sqv hf (r_sadd rfl rfl (by have := sz_ext s n (n + 1) (by omega) (by omega); omega)) rfl rfl rfl ?_; clear hf fa; intro fa hf
        refine sqv hf (r_assign rfl) rfl rfl rfl ?_; clear hf fa; intro fa hf
        apply wpList_nil
        (try simp only [Exit.then, Exit.inBlock, ↓reduceIte, Nat.reduceEqDiff])
        refine hK8 _ _ ?_
        refine wp_region_lit ?_
        refine sqv hf (r_move rfl) rfl rfl rfl ?_; clear hf fa; intro fa hf
        refine sqv hf (r_add (C := (((n : Nat) : Int) + (1 : Int))) rfl rfl (by rw [IntKind.wrap_i64]; omega)) rfl rfl rfl ?_; clear hf fa; intro fa hf
        refine sqv hf (r_assign rfl) rfl rfl rfl ?_; clear hf fa; intro fa hf
        apply wpList_nil
        (try simp only [Exit.then, Exit.inBlock, ↓reduceIte, Nat.reduceEqDiff])
        refine hKL1 _ _ _ (by omega) ⟨(n + 1), (a ++ (s.extract n (n + 1))), rfl, hf.sub ⟨rfl, rfl, rfl, (some_int (by first | rfl | omega)), trivial⟩, hb, by omega, (by rw [flat_take _ _ (by rw [bl_length]; omega), bl_sbt s n (by omega), sh_pl (by omega)]; simp only [bl_app, Hs]; rw [bl_one s n (by omega)]; simp)⟩
    · have hqt10_1b := hqt10_1
      replace hqt10_1 := Bool.eq_false_iff.1 hqt10_1
      try simp only [ne_eq, decide_eq_true_eq, Bool.and_eq_true, Bool.or_eq_true, Bool.not_eq_true', decide_eq_false_iff_not] at hqt10_1
      refine wp_exit ?_
      (try simp only [Exit.then, Exit.inBlock, ↓reduceIte, Nat.reduceEqDiff])
      refine hK4 _ _ ?_
      refine wp_seq_k (fun K11 hK11 => ?_)
      refine wp_region_lit ?_
      refine sqv hf (r_move rfl) rfl rfl rfl ?_; clear hf fa; intro fa hf
      refine sqv hf (r_sadd rfl rfl (by have : ((⟨#[34]⟩) : ByteArray).size = 1 := rfl; omega)) rfl rfl rfl ?_; clear hf fa; intro fa hf
      refine sqv hf (r_assign rfl) rfl rfl rfl ?_; clear hf fa; intro fa hf
      apply wpList_nil
      (try simp only [Exit.then, Exit.inBlock, ↓reduceIte, Nat.reduceEqDiff])
      refine hK11 _ _ ?_
      refine wp_ret ?_
      (try simp only [Exit.then, Exit.inBlock])
      refine ret1 hf rfl rfl ?_
      refine ⟨?_, hb⟩; congr 2; apply bl_inj; rw [bl_strN _ (showL_lt _ (bl_lt s)), bl_app, Hs, List.take_of_length_le (by rw [bl_length]; omega)]; simp [bl, showL]

set_option maxHeartbeats 1000000 in
set_option maxRecDepth 100000 in
theorem read_any (s : ByteArray) (w : World) (hs : s.size ≤ 100000) : Calls Try.prog 87 #[(.string s)] w fun e w' => e = .returned (.tuple #[.string (strN (readP (bl s)).1), .bool (readP (bl s)).2]) ∧ Below w.heap.size w w' := by
  refine sx_enter (L := [(0, (.string s))]) Try.func87 rfl rfl rfl rfl (fun fa hf => ?_)
  have hb : Below w.heap.size w w := Below.refl _ _
  refine wp_seq_k (fun K1 hK1 => ?_)
  refine wp_region_lit ?_
  refine sqv hf (r_assign rfl) rfl rfl rfl ?_; clear hf fa; intro fa hf
  refine sqv hf (r_assign rfl) rfl rfl rfl ?_; clear hf fa; intro fa hf
  apply wpList_nil
  (try simp only [Exit.then, Exit.inBlock, ↓reduceIte, Nat.reduceEqDiff])
  refine hK1 _ _ ?_
  refine wp_seq_k (fun K2 hK2 => ?_)
  refine wp_seq_k (fun K3 hK3 => ?_)
  refine wp_region_lit ?_
  refine sqv hf (r_move rfl) rfl rfl rfl ?_; clear hf fa; intro fa hf
  refine sqv hf (r_lens rfl Try.underlying9) rfl rfl rfl ?_; clear hf fa; intro fa hf
  refine sqv hf (r_lt rfl rfl) rfl rfl rfl ?_; clear hf fa; intro fa hf
  refine sqv hf (r_move rfl) rfl rfl rfl ?_; clear hf fa; intro fa hf
  refine sqgF (act := (!(decide (((s.size : Nat) : Int) < (2 : Int))))) (ag := true) (c := (decide (((s.size : Nat) : Int) < (2 : Int)))) (v := (.string s)) hf rfl rfl rfl (fun hact => (r_move rfl)) rfl rfl ?_; clear hf fa; intro fa hf
  refine sqgF (act := (!(decide (((s.size : Nat) : Int) < (2 : Int))))) (ag := true) (c := (decide (((s.size : Nat) : Int) < (2 : Int)))) (v := (.int .u8 ((sbt s 0 : Nat) : Int))) hf rfl rfl rfl (fun hact => (by have hact0 := hact; (try simp only [Bool.and_eq_true, Bool.not_eq_true', Bool.or_eq_false_iff, Bool.or_eq_true, Bool.and_eq_false_iff, ne_eq, decide_eq_true_eq, decide_eq_false_iff_not] at hact0); exact (r_sindexD (j := 0) (gb_ev hact rfl) rfl Try.underlying9 rfl (by omega)))) rfl rfl ?_; clear hf fa; intro fa hf
  refine sqgF (act := (!(decide (((s.size : Nat) : Int) < (2 : Int))))) (ag := true) (c := (decide (((s.size : Nat) : Int) < (2 : Int)))) (v := (.bool (decide (((sbt s 0 : Nat) : Int) ≠ (34 : Int))))) hf rfl rfl rfl (fun hact => (r_ne (gb_ev hact rfl) rfl)) rfl rfl ?_; clear hf fa; intro fa hf
  refine sqv hf (r_pickO (b := (decide (((s.size : Nat) : Int) < (2 : Int)))) (e := (decide (((sbt s 0 : Nat) : Int) ≠ (34 : Int)))) rfl rfl rfl) rfl rfl rfl ?_; clear hf fa; intro fa hf
  refine sqv hf (r_move rfl) rfl rfl rfl ?_; clear hf fa; intro fa hf
  refine sqgF (act := (!((decide (((s.size : Nat) : Int) < (2 : Int))) || (decide (((sbt s 0 : Nat) : Int) ≠ (34 : Int)))))) (ag := true) (c := ((decide (((s.size : Nat) : Int) < (2 : Int))) || (decide (((sbt s 0 : Nat) : Int) ≠ (34 : Int))))) (v := (.string s)) hf rfl rfl rfl (fun hact => (r_move rfl)) rfl rfl ?_; clear hf fa; intro fa hf
  refine sqgF (act := (!((decide (((s.size : Nat) : Int) < (2 : Int))) || (decide (((sbt s 0 : Nat) : Int) ≠ (34 : Int)))))) (ag := true) (c := ((decide (((s.size : Nat) : Int) < (2 : Int))) || (decide (((sbt s 0 : Nat) : Int) ≠ (34 : Int))))) (v := (.string s)) hf rfl rfl rfl (fun hact => (r_move rfl)) rfl rfl ?_; clear hf fa; intro fa hf
  refine sqgF (act := (!((decide (((s.size : Nat) : Int) < (2 : Int))) || (decide (((sbt s 0 : Nat) : Int) ≠ (34 : Int)))))) (ag := true) (c := ((decide (((s.size : Nat) : Int) < (2 : Int))) || (decide (((sbt s 0 : Nat) : Int) ≠ (34 : Int))))) (v := (.int .i64 ((s.size : Nat) : Int))) hf rfl rfl rfl (fun hact => (r_lens (gb_ev hact rfl) Try.underlying9)) rfl rfl ?_; clear hf fa; intro fa hf
  refine sqgF (act := (!((decide (((s.size : Nat) : Int) < (2 : Int))) || (decide (((sbt s 0 : Nat) : Int) ≠ (34 : Int)))))) (ag := true) (c := ((decide (((s.size : Nat) : Int) < (2 : Int))) || (decide (((sbt s 0 : Nat) : Int) ≠ (34 : Int))))) (v := (.int .i64 (((s.size : Nat) : Int) - (1 : Int)))) hf rfl rfl rfl (fun hact => (by have hact0 := hact; (try simp only [Bool.and_eq_true, Bool.not_eq_true', Bool.or_eq_false_iff, Bool.or_eq_true, Bool.and_eq_false_iff, ne_eq, decide_eq_true_eq, decide_eq_false_iff_not] at hact0); exact (r_sub (C := (((s.size : Nat) : Int) - (1 : Int))) (gb_ev hact rfl) rfl (by rw [IntKind.wrap_i64]; omega)))) rfl rfl ?_; clear hf fa; intro fa hf
  refine sqgF (act := (!((decide (((s.size : Nat) : Int) < (2 : Int))) || (decide (((sbt s 0 : Nat) : Int) ≠ (34 : Int)))))) (ag := true) (c := ((decide (((s.size : Nat) : Int) < (2 : Int))) || (decide (((sbt s 0 : Nat) : Int) ≠ (34 : Int))))) (v := (.int .u8 ((sbt s (s.size - 1) : Nat) : Int))) hf rfl rfl rfl (fun hact => (by have hact0 := hact; (try simp only [Bool.and_eq_true, Bool.not_eq_true', Bool.or_eq_false_iff, Bool.or_eq_true, Bool.and_eq_false_iff, ne_eq, decide_eq_true_eq, decide_eq_false_iff_not] at hact0); exact (r_sindexD (j := (s.size - 1)) (gb_ev hact rfl) (gb_ev hact rfl) Try.underlying9 (by omega) (by omega)))) rfl rfl ?_; clear hf fa; intro fa hf
  refine sqgF (act := (!((decide (((s.size : Nat) : Int) < (2 : Int))) || (decide (((sbt s 0 : Nat) : Int) ≠ (34 : Int)))))) (ag := true) (c := ((decide (((s.size : Nat) : Int) < (2 : Int))) || (decide (((sbt s 0 : Nat) : Int) ≠ (34 : Int))))) (v := (.bool (decide (((sbt s (s.size - 1) : Nat) : Int) ≠ (34 : Int))))) hf rfl rfl rfl (fun hact => (r_ne (gb_ev hact rfl) rfl)) rfl rfl ?_; clear hf fa; intro fa hf
  refine sqv hf (r_pickO (b := ((decide (((s.size : Nat) : Int) < (2 : Int))) || (decide (((sbt s 0 : Nat) : Int) ≠ (34 : Int))))) (e := (decide (((sbt s (s.size - 1) : Nat) : Int) ≠ (34 : Int)))) rfl rfl rfl) rfl rfl rfl ?_; clear hf fa; intro fa hf
  apply wpList_nil
  (try simp only [Exit.then, Exit.inBlock, ↓reduceIte, Nat.reduceEqDiff])
  refine hK3 _ _ ?_
  refine wp_cond_split (t := (((decide (((s.size : Nat) : Int) < (2 : Int))) || (decide (((sbt s 0 : Nat) : Int) ≠ (34 : Int)))) || (decide (((sbt s (s.size - 1) : Nat) : Int) ≠ (34 : Int))))) (hf.ev rfl) (fun hqt22_1 => ?_) (fun hqt22_1 => ?_)
  · have hqt22_1b := hqt22_1
    try simp only [decide_eq_true_eq, Bool.and_eq_true, Bool.or_eq_true, Bool.not_eq_true', decide_eq_false_iff_not, ne_eq, Bool.not_eq_true] at hqt22_1
    refine wp_seq_k (fun K4 hK4 => ?_)
    refine wp_region_lit ?_
    refine sqv hf (r_assign rfl) rfl rfl rfl ?_; clear hf fa; intro fa hf
    refine sqv hf (r_assign rfl) rfl rfl rfl ?_; clear hf fa; intro fa hf
    apply wpList_nil
    (try simp only [Exit.then, Exit.inBlock, ↓reduceIte, Nat.reduceEqDiff])
    refine hK4 _ _ ?_
    refine wp_ret ?_
    (try simp only [Exit.then, Exit.inBlock])
    refine ret2 hf rfl rfl rfl ?_
    have hg : goodB (bl s) = false := by
      by_cases h2 : 2 ≤ s.size
      · unfold goodB; rw [bl_length, bl_sbt s 0 (by omega), bl_sbt s (s.size - 1) (by omega)]
        have h := hqt22_1
        simp only [Bool.and_eq_false_iff, decide_eq_false_iff_not]; omega
      · unfold goodB; rw [bl_length]; simp [h2]
    refine ⟨?_, hb⟩; unfold readP; rw [hg]; simp; rfl
  · have hqt22_1b := hqt22_1
    replace hqt22_1 := Bool.eq_false_iff.1 hqt22_1
    try simp only [ne_eq, decide_eq_true_eq, Bool.and_eq_true, Bool.or_eq_true, Bool.not_eq_true', decide_eq_false_iff_not] at hqt22_1
    refine wp_skip ?_
    (try simp only [Exit.then, Exit.inBlock, ↓reduceIte, Nat.reduceEqDiff])
    refine hK2 _ _ ?_
    refine wp_seq_k (fun K5 hK5 => ?_)
    refine wp_region_lit ?_
    refine sqv hf (r_assign rfl) rfl rfl rfl ?_; clear hf fa; intro fa hf
    apply wpList_nil
    (try simp only [Exit.then, Exit.inBlock, ↓reduceIte, Nat.reduceEqDiff])
    refine hK5 _ _ ?_
    refine wp_seq_k (fun K6 hK6 => ?_)
    refine wp_region_lit ?_
    refine sqv hf (r_move rfl) rfl rfl rfl ?_; clear hf fa; intro fa hf
    refine sqv hf (r_move rfl) rfl rfl rfl ?_; clear hf fa; intro fa hf
    refine sqv hf (r_lens rfl Try.underlying9) rfl rfl rfl ?_; clear hf fa; intro fa hf
    refine sqv hf (r_sub (C := (((s.size : Nat) : Int) - (1 : Int))) rfl rfl (by rw [IntKind.wrap_i64]; omega)) rfl rfl rfl ?_; clear hf fa; intro fa hf
    refine sqv hf (r_sslice (a := 1) (b := (s.size - 1)) (k1 := .i64) (k2 := .i64) (A := (1 : Int)) (B := (((s.size : Nat) : Int) - (1 : Int))) rfl Try.underlying9 (.inr ⟨_, rfl, rfl, rfl⟩) (.inr ⟨_, rfl, rfl, (by omega)⟩) (by omega) (by omega)) rfl rfl rfl ?_; clear hf fa; intro fa hf
    refine sqv hf (r_assign rfl) rfl rfl rfl ?_; clear hf fa; intro fa hf
    apply wpList_nil
    (try simp only [Exit.then, Exit.inBlock, ↓reduceIte, Nat.reduceEqDiff])
    refine hK6 _ _ ?_
    refine wp_seq_k (fun K7 hK7 => ?_)
    refine wp_seq_k (fun K8 hK8 => ?_)
    have hsz2 : 2 ≤ s.size := by omega
    have hul := sz_ext s 1 (s.size - 1) (by omega) (by omega)
    have hgd : goodB (bl s) = true := good_of s hsz2 (by have h := hqt22_1; omega) (by have h := hqt22_1; omega)
    generalize hu : s.extract 1 (s.size - 1) = u at hf hul
    have hin : inner (bl s) = bl u := by rw [inner_bl, hu]
    refine wp_region_lit ?_
    refine sqv hf (r_assign rfl) rfl rfl rfl ?_; clear hf fa; intro fa hf
    apply wpList_nil
    (try simp only [Exit.then, Exit.inBlock, ↓reduceIte, Nat.reduceEqDiff])
    refine hK8 _ _ ?_
    refine wp_block ?_
    refine wp_loop_k (fun mq fa wr => ∃ (k : Nat) (f : Nat) (o : List Nat) (rOa : Option Addr) (rOc : Nat), mq = u.size - k ∧ Fr 90 fa [(0, (.string s)), (5, (.string u)), (6, (.int .i64 ((k : Nat) : Int))), (4, (.slice rOa (((nI o)).length) rOc))] ∧ Below w.heap.size w wr ∧ Row 1 (vInt .u8) 5 (w.heap.size) wr (.slice rOa (((nI o)).length) rOc) (nI o) ∧ (k ≤ u.size) ∧ (u.size - k ≤ f) ∧ (decP (bl s).length (bl u) = (decP f ((bl u).drop k)).map (o ++ ·)) ∧ (o.length ≤ k)) ?_ ?_
    · skip
      exact ⟨_, 0, (bl s).length, [], none, 0, rfl, hf.sub ⟨rfl, rfl, (some_int (by first | rfl | omega)), (some_sl (by first | omega | rfl | (simp only [List.length_append, List.length_cons, List.length_nil]; omega) | (simp <;> omega)) rfl), trivial⟩, hb, Row.nil, by omega, by rw [bl_length]; omega, (by simp), by simp⟩
    · skip
      clear hf fa; intro mq1 fa w1 hI KL1 hKL1
      clear hb
      obtain ⟨k, f, o, rOa, rOc, hmq1, hf, hb, hrO, hk, hff, Hs, hol⟩ := hI
      have hcrO := Row.caps hrO
      have hno := nI_length o
      refine wp_seq_k (fun K9 hK9 => ?_)
      refine wp_seq_k (fun K10 hK10 => ?_)
      refine wp_region_lit ?_
      refine sqv hf (r_move rfl) rfl rfl rfl ?_; clear hf fa; intro fa hf
      refine sqv hf (r_move rfl) rfl rfl rfl ?_; clear hf fa; intro fa hf
      refine sqv hf (r_lens rfl Try.underlying9) rfl rfl rfl ?_; clear hf fa; intro fa hf
      refine sqv hf (r_lt rfl rfl) rfl rfl rfl ?_; clear hf fa; intro fa hf
      apply wpList_nil
      (try simp only [Exit.then, Exit.inBlock, ↓reduceIte, Nat.reduceEqDiff])
      refine hK10 _ _ ?_
      refine wp_cond_split (t := (decide (((k : Nat) : Int) < ((u.size : Nat) : Int)))) (hf.ev rfl) (fun hqt31_1 => ?_) (fun hqt31_1 => ?_)
      · have hqt31_1b := hqt31_1
        try simp only [decide_eq_true_eq, Bool.and_eq_true, Bool.or_eq_true, Bool.not_eq_true', decide_eq_false_iff_not, ne_eq, Bool.not_eq_true] at hqt31_1
        refine wp_skip ?_
        (try simp only [Exit.then, Exit.inBlock, ↓reduceIte, Nat.reduceEqDiff])
        refine hK9 _ _ ?_
        refine wp_seq_k (fun K11 hK11 => ?_)
        refine wp_block ?_
        refine wp_seq_k (fun K12 hK12 => ?_)
        refine wp_seq_k (fun K13 hK13 => ?_)
        refine wp_region_lit ?_
        refine sqv hf (r_move rfl) rfl rfl rfl ?_; clear hf fa; intro fa hf
        refine sqv hf (r_move rfl) rfl rfl rfl ?_; clear hf fa; intro fa hf
        refine sqv hf (r_sindexD (j := k) rfl rfl Try.underlying9 rfl (by omega)) rfl rfl rfl ?_; clear hf fa; intro fa hf
        refine sqv hf (r_ne rfl rfl) rfl rfl rfl ?_; clear hf fa; intro fa hf
        apply wpList_nil
        (try simp only [Exit.then, Exit.inBlock, ↓reduceIte, Nat.reduceEqDiff])
        refine hK13 _ _ ?_
        refine wp_cond_split (t := (decide (((sbt u k : Nat) : Int) ≠ (92 : Int)))) (hf.ev rfl) (fun hqt37_1 => ?_) (fun hqt37_1 => ?_)
        · have hqt37_1b := hqt37_1
          try simp only [decide_eq_true_eq, Bool.and_eq_true, Bool.or_eq_true, Bool.not_eq_true', decide_eq_false_iff_not, ne_eq, Bool.not_eq_true] at hqt37_1
          refine wp_seq_k (fun K14 hK14 => ?_)
          refine wp_region_lit ?_
          refine sqv hf (r_move rfl) rfl rfl rfl ?_; clear hf fa; intro fa hf
          refine sqv hf (r_move rfl) rfl rfl rfl ?_; clear hf fa; intro fa hf
          refine sqv hf (r_move rfl) rfl rfl rfl ?_; clear hf fa; intro fa hf
          refine sqv hf (r_sindexD (j := k) rfl rfl Try.underlying9 rfl (by omega)) rfl rfl rfl ?_; clear hf fa; intro fa hf
          refine sqdt hf (d_bslice (z := (.int .u8 (0 : Int))) (sz := 1) (vs := [(0, (.int .u8 ((sbt u k : Nat) : Int)))]) (cs := #[(.int .u8 ((sbt u k : Nat) : Int))]) rfl Try.underlying43 (by kernel_rfl) rfl (by kernel_rfl)) rfl rfl rfl ?_; clear hf fa; rintro fa _ w2 ⟨b1, rfl, hle1, hk1, he1⟩ hf
          have hBb1 : w.heap.size ≤ b1 := Nat.le_trans hb.size hle1
          have hnr1 : (Value.slice rOa ((((nI o)).length)) rOc).ownBlock ≠ some b1 := fun hq => by have := (Row.lt hrO _ hq).2; omega
          have hnl1 : ∀ q, (Value.slice rOa ((((nI o)).length)) rOc).ownBlock = some q → q < b1 := fun q hq => Nat.lt_of_lt_of_le (Row.lt hrO q hq).2 hle1
          replace hrO := Row.ext hrO he1
          replace hb := hb.trans (Below.mono he1 hb.size)
          have hs1 := Row.rd (by intros; rfl) (Row.of_new (k := 1) (V := (vInt .u8)) (l := [((sbt u k : Nat) : Int)]) hk1 (Nat.le_refl _) rfl rfl (Nat.le_of_ble_eq_true rfl))
          refine sqdt hf (d_append (V := (vInt .u8)) (k := 1) (e := 5) (bytes := 1) (z := (.int .u8 (0 : Int))) (news := [((sbt u k : Nat) : Int)]) (base := w.heap.size) (by intros; rfl) (by intro x u hu; simp only [vInt, List.mem_singleton] at hu; subst hu; rfl) rfl rfl Try.underlying43 (by kernel_rfl) rfl rfl rfl hrO hs1 rfl (fun h => by cases h) (by first | omega | (simp only [List.length_cons, List.length_nil, List.length_append]; omega)) (by have := hb.size; omega)) rfl rfl rfl ?_; clear hf fa; rintro fa v w3 ⟨hr1, hg1⟩ hf; obtain ⟨ra1, rc1, rfl, hcrc1, hmrc1⟩ := Row.slice hr1
          replace hb := hb.trans (row_below hrO hg1 hb.size (by have := hb.size; omega))
          refine sqv hf (r_assign rfl) rfl rfl rfl ?_; clear hf fa; intro fa hf
          apply wpList_nil
          (try simp only [Exit.then, Exit.inBlock, ↓reduceIte, Nat.reduceEqDiff])
          refine hK14 _ _ ?_
          refine wp_exit ?_
          (try simp only [Exit.then, Exit.inBlock, ↓reduceIte, Nat.reduceEqDiff])
          refine hK11 _ _ ?_
          refine wp_region_lit ?_
          refine sqv hf (r_move rfl) rfl rfl rfl ?_; clear hf fa; intro fa hf
          refine sqv hf (r_add (C := (((k : Nat) : Int) + (1 : Int))) rfl rfl (by rw [IntKind.wrap_i64]; omega)) rfl rfl rfl ?_; clear hf fa; intro fa hf
          refine sqv hf (r_assign rfl) rfl rfl rfl ?_; clear hf fa; intro fa hf
          apply wpList_nil
          (try simp only [Exit.then, Exit.inBlock, ↓reduceIte, Nat.reduceEqDiff])
          refine hKL1 _ _ _ (by omega) ⟨(k + 1), (f - 1), (o ++ [sbt u k]), ra1, rc1, rfl, hf.sub ⟨rfl, rfl, (some_int (by first | rfl | omega)), (some_sl (by first | omega | rfl | (simp only [List.length_append, List.length_cons, List.length_nil]; omega) | (simp <;> omega)) rfl), trivial⟩, hb, (Row.relen (Row.eqL hr1 (by simp [nI]))), by omega, by omega, (by have h := Hs; rw [bl_dropc u k (by omega)] at h; obtain ⟨f2, rfl⟩ : ∃ f2, f = f2 + 1 := ⟨f - 1, by omega⟩; rw [decP_pl (by omega)] at h; exact h), by simp only [List.length_append, List.length_cons, List.length_nil]; omega⟩
        · have hqt37_1b := hqt37_1
          replace hqt37_1 := Bool.eq_false_iff.1 hqt37_1
          try simp only [ne_eq, decide_eq_true_eq, Bool.and_eq_true, Bool.or_eq_true, Bool.not_eq_true', decide_eq_false_iff_not] at hqt37_1
          refine wp_skip ?_
          (try simp only [Exit.then, Exit.inBlock, ↓reduceIte, Nat.reduceEqDiff])
          refine hK12 _ _ ?_
          refine wp_seq_k (fun K15 hK15 => ?_)
          refine wp_seq_k (fun K16 hK16 => ?_)
          refine wp_region_lit ?_
          refine sqv hf (r_move rfl) rfl rfl rfl ?_; clear hf fa; intro fa hf
          refine sqv hf (r_add (C := (((k : Nat) : Int) + (2 : Int))) rfl rfl (by rw [IntKind.wrap_i64]; omega)) rfl rfl rfl ?_; clear hf fa; intro fa hf
          refine sqv hf (r_move rfl) rfl rfl rfl ?_; clear hf fa; intro fa hf
          refine sqv hf (r_lens rfl Try.underlying9) rfl rfl rfl ?_; clear hf fa; intro fa hf
          refine sqv hf (r_ge rfl rfl) rfl rfl rfl ?_; clear hf fa; intro fa hf
          refine sqv hf (r_move rfl) rfl rfl rfl ?_; clear hf fa; intro fa hf
          refine sqgF (act := (!(decide (((u.size : Nat) : Int) ≤ (((k : Nat) : Int) + (2 : Int)))))) (ag := true) (c := (decide (((u.size : Nat) : Int) ≤ (((k : Nat) : Int) + (2 : Int))))) (v := (.string u)) hf rfl rfl rfl (fun hact => (r_move rfl)) rfl rfl ?_; clear hf fa; intro fa hf
          refine sqgF (act := (!(decide (((u.size : Nat) : Int) ≤ (((k : Nat) : Int) + (2 : Int)))))) (ag := true) (c := (decide (((u.size : Nat) : Int) ≤ (((k : Nat) : Int) + (2 : Int))))) (v := (.int .i64 ((k : Nat) : Int))) hf rfl rfl rfl (fun hact => (r_move rfl)) rfl rfl ?_; clear hf fa; intro fa hf
          refine sqgF (act := (!(decide (((u.size : Nat) : Int) ≤ (((k : Nat) : Int) + (2 : Int)))))) (ag := true) (c := (decide (((u.size : Nat) : Int) ≤ (((k : Nat) : Int) + (2 : Int))))) (v := (.int .i64 (((k : Nat) : Int) + (1 : Int)))) hf rfl rfl rfl (fun hact => (by have hact0 := hact; (try simp only [Bool.and_eq_true, Bool.not_eq_true', Bool.or_eq_false_iff, Bool.or_eq_true, Bool.and_eq_false_iff, ne_eq, decide_eq_true_eq, decide_eq_false_iff_not] at hact0); exact (r_add (C := (((k : Nat) : Int) + (1 : Int))) (gb_ev hact rfl) rfl (by rw [IntKind.wrap_i64]; omega)))) rfl rfl ?_; clear hf fa; intro fa hf
          refine sqgF (act := (!(decide (((u.size : Nat) : Int) ≤ (((k : Nat) : Int) + (2 : Int)))))) (ag := true) (c := (decide (((u.size : Nat) : Int) ≤ (((k : Nat) : Int) + (2 : Int))))) (v := (.int .u8 ((sbt u (k + 1) : Nat) : Int))) hf rfl rfl rfl (fun hact => (by have hact0 := hact; (try simp only [Bool.and_eq_true, Bool.not_eq_true', Bool.or_eq_false_iff, Bool.or_eq_true, Bool.and_eq_false_iff, ne_eq, decide_eq_true_eq, decide_eq_false_iff_not] at hact0); exact (r_sindexD (j := (k + 1)) (gb_ev hact rfl) (gb_ev hact rfl) Try.underlying9 rfl (by omega)))) rfl rfl ?_; clear hf fa; intro fa hf
          refine sqgd (R := fun vq wq => vq = gb (!(decide (((u.size : Nat) : Int) ≤ (((k : Nat) : Int) + (2 : Int))))) (.int .i64 ((valI (sbt u (k + 1))))) ∧ w1 = wq) (act := (!(decide (((u.size : Nat) : Int) ≤ (((k : Nat) : Int) + (2 : Int)))))) (g := 5) (want := false) (ag := true) (c := (decide (((u.size : Nat) : Int) ≤ (((k : Nat) : Int) + (2 : Int))))) hf (by rfl) (by rfl) (act_F _ _) (fun hact => (d_callS (vs := [(.int .u8 ((sbt u (k + 1) : Nat) : Int))]) (cons_ev (gb_ev hact rfl) rfl) Try.func102 (by kernel_rfl) (by kernel_rfl) (value_any (sbt u (k + 1)) (sbt_lt _ _) _)).mono (fun _ _ h => ⟨by rw [h.1, hact]; rfl, h.2⟩)) (fun h => ⟨by rw [h]; rfl, rfl⟩) rfl ?_; clear hf fa; rintro fa _ _ ⟨rfl, rfl⟩ hf
          change Fr _ _ ((54, (gb (!(decide (((u.size : Nat) : Int) ≤ (((k : Nat) : Int) + (2 : Int))))) (.int .i64 ((valI (sbt u (k + 1))))))) :: _) at hf
          refine sqgF (act := (!(decide (((u.size : Nat) : Int) ≤ (((k : Nat) : Int) + (2 : Int)))))) (ag := true) (c := (decide (((u.size : Nat) : Int) ≤ (((k : Nat) : Int) + (2 : Int))))) (v := (.bool (decide (((valI (sbt u (k + 1)))) < (0 : Int))))) hf rfl rfl rfl (fun hact => (r_lt (gb_ev hact rfl) rfl)) rfl rfl ?_; clear hf fa; intro fa hf
          refine sqv hf (r_pickO (b := (decide (((u.size : Nat) : Int) ≤ (((k : Nat) : Int) + (2 : Int))))) (e := (decide (((valI (sbt u (k + 1)))) < (0 : Int)))) rfl rfl rfl) rfl rfl rfl ?_; clear hf fa; intro fa hf
          refine sqv hf (r_move rfl) rfl rfl rfl ?_; clear hf fa; intro fa hf
          refine sqgF (act := (!((decide (((u.size : Nat) : Int) ≤ (((k : Nat) : Int) + (2 : Int)))) || (decide (((valI (sbt u (k + 1)))) < (0 : Int)))))) (ag := true) (c := ((decide (((u.size : Nat) : Int) ≤ (((k : Nat) : Int) + (2 : Int)))) || (decide (((valI (sbt u (k + 1)))) < (0 : Int))))) (v := (.string u)) hf rfl rfl rfl (fun hact => (r_move rfl)) rfl rfl ?_; clear hf fa; intro fa hf
          refine sqgF (act := (!((decide (((u.size : Nat) : Int) ≤ (((k : Nat) : Int) + (2 : Int)))) || (decide (((valI (sbt u (k + 1)))) < (0 : Int)))))) (ag := true) (c := ((decide (((u.size : Nat) : Int) ≤ (((k : Nat) : Int) + (2 : Int)))) || (decide (((valI (sbt u (k + 1)))) < (0 : Int))))) (v := (.int .i64 ((k : Nat) : Int))) hf rfl rfl rfl (fun hact => (r_move rfl)) rfl rfl ?_; clear hf fa; intro fa hf
          refine sqgF (act := (!((decide (((u.size : Nat) : Int) ≤ (((k : Nat) : Int) + (2 : Int)))) || (decide (((valI (sbt u (k + 1)))) < (0 : Int)))))) (ag := true) (c := ((decide (((u.size : Nat) : Int) ≤ (((k : Nat) : Int) + (2 : Int)))) || (decide (((valI (sbt u (k + 1)))) < (0 : Int))))) (v := (.int .i64 (((k : Nat) : Int) + (2 : Int)))) hf rfl rfl rfl (fun hact => (by have hact0 := hact; (try simp only [Bool.and_eq_true, Bool.not_eq_true', Bool.or_eq_false_iff, Bool.or_eq_true, Bool.and_eq_false_iff, ne_eq, decide_eq_true_eq, decide_eq_false_iff_not] at hact0); exact (r_add (C := (((k : Nat) : Int) + (2 : Int))) (gb_ev hact rfl) rfl (by rw [IntKind.wrap_i64]; omega)))) rfl rfl ?_; clear hf fa; intro fa hf
          refine sqgF (act := (!((decide (((u.size : Nat) : Int) ≤ (((k : Nat) : Int) + (2 : Int)))) || (decide (((valI (sbt u (k + 1)))) < (0 : Int)))))) (ag := true) (c := ((decide (((u.size : Nat) : Int) ≤ (((k : Nat) : Int) + (2 : Int)))) || (decide (((valI (sbt u (k + 1)))) < (0 : Int))))) (v := (.int .u8 ((sbt u (k + 2) : Nat) : Int))) hf rfl rfl rfl (fun hact => (by have hact0 := hact; (try simp only [Bool.and_eq_true, Bool.not_eq_true', Bool.or_eq_false_iff, Bool.or_eq_true, Bool.and_eq_false_iff, ne_eq, decide_eq_true_eq, decide_eq_false_iff_not] at hact0); exact (r_sindexD (j := (k + 2)) (gb_ev hact rfl) (gb_ev hact rfl) Try.underlying9 rfl (by omega)))) rfl rfl ?_; clear hf fa; intro fa hf
          refine sqgd (R := fun vq wq => vq = gb (!((decide (((u.size : Nat) : Int) ≤ (((k : Nat) : Int) + (2 : Int)))) || (decide (((valI (sbt u (k + 1)))) < (0 : Int))))) (.int .i64 ((valI (sbt u (k + 2))))) ∧ w1 = wq) (act := (!((decide (((u.size : Nat) : Int) ≤ (((k : Nat) : Int) + (2 : Int)))) || (decide (((valI (sbt u (k + 1)))) < (0 : Int)))))) (g := 13) (want := false) (ag := true) (c := ((decide (((u.size : Nat) : Int) ≤ (((k : Nat) : Int) + (2 : Int)))) || (decide (((valI (sbt u (k + 1)))) < (0 : Int))))) hf (by rfl) (by rfl) (act_F _ _) (fun hact => (d_callS (vs := [(.int .u8 ((sbt u (k + 2) : Nat) : Int))]) (cons_ev (gb_ev hact rfl) rfl) Try.func102 (by kernel_rfl) (by kernel_rfl) (value_any (sbt u (k + 2)) (sbt_lt _ _) _)).mono (fun _ _ h => ⟨by rw [h.1, hact]; rfl, h.2⟩)) (fun h => ⟨by rw [h]; rfl, rfl⟩) rfl ?_; clear hf fa; rintro fa _ _ ⟨rfl, rfl⟩ hf
          change Fr _ _ ((62, (gb (!((decide (((u.size : Nat) : Int) ≤ (((k : Nat) : Int) + (2 : Int)))) || (decide (((valI (sbt u (k + 1)))) < (0 : Int))))) (.int .i64 ((valI (sbt u (k + 2))))))) :: _) at hf
          refine sqgF (act := (!((decide (((u.size : Nat) : Int) ≤ (((k : Nat) : Int) + (2 : Int)))) || (decide (((valI (sbt u (k + 1)))) < (0 : Int)))))) (ag := true) (c := ((decide (((u.size : Nat) : Int) ≤ (((k : Nat) : Int) + (2 : Int)))) || (decide (((valI (sbt u (k + 1)))) < (0 : Int))))) (v := (.bool (decide (((valI (sbt u (k + 2)))) < (0 : Int))))) hf rfl rfl rfl (fun hact => (r_lt (gb_ev hact rfl) rfl)) rfl rfl ?_; clear hf fa; intro fa hf
          refine sqv hf (r_pickO (b := ((decide (((u.size : Nat) : Int) ≤ (((k : Nat) : Int) + (2 : Int)))) || (decide (((valI (sbt u (k + 1)))) < (0 : Int))))) (e := (decide (((valI (sbt u (k + 2)))) < (0 : Int)))) rfl rfl rfl) rfl rfl rfl ?_; clear hf fa; intro fa hf
          apply wpList_nil
          (try simp only [Exit.then, Exit.inBlock, ↓reduceIte, Nat.reduceEqDiff])
          refine hK16 _ _ ?_
          refine wp_cond_split (t := (((decide (((u.size : Nat) : Int) ≤ (((k : Nat) : Int) + (2 : Int)))) || (decide (((valI (sbt u (k + 1)))) < (0 : Int)))) || (decide (((valI (sbt u (k + 2)))) < (0 : Int))))) (hf.ev rfl) (fun hqt64_1 => ?_) (fun hqt64_1 => ?_)
          · have hqt64_1b := hqt64_1
            try simp only [decide_eq_true_eq, Bool.and_eq_true, Bool.or_eq_true, Bool.not_eq_true', decide_eq_false_iff_not, ne_eq, Bool.not_eq_true] at hqt64_1
            refine wp_seq_k (fun K17 hK17 => ?_)
            refine wp_region_lit ?_
            refine sqv hf (r_assign rfl) rfl rfl rfl ?_; clear hf fa; intro fa hf
            refine sqv hf (r_assign rfl) rfl rfl rfl ?_; clear hf fa; intro fa hf
            apply wpList_nil
            (try simp only [Exit.then, Exit.inBlock, ↓reduceIte, Nat.reduceEqDiff])
            refine hK17 _ _ ?_
            refine wp_ret ?_
            (try simp only [Exit.then, Exit.inBlock])
            refine ret2 hf rfl rfl rfl ?_
            have hn : decP (bl s).length (inner (bl s)) = none := by
              rw [hin, Hs, bl_dropc u k (by omega), show sbt u k = 92 by omega]; obtain ⟨f2, rfl⟩ : ∃ f2, f = f2 + 1 := ⟨f - 1, by omega⟩
              by_cases h2 : k + 2 < u.size
              · rw [bl_dropc u (k + 1) (by omega), bl_dropc u (k + 1 + 1) (by omega), decP_no (by have h := hqt64_1; rw [show sbt u (k + 1 + 1) = sbt u (k + 2) from rfl]; omega)]; rfl
              · rw [decP_short _ _ (by rw [List.length_drop, bl_length]; omega)]; rfl
            refine ⟨?_, hb⟩; unfold readP; rw [hgd, if_pos rfl, hn]; rfl
          · have hqt64_1b := hqt64_1
            replace hqt64_1 := Bool.eq_false_iff.1 hqt64_1
            try simp only [ne_eq, decide_eq_true_eq, Bool.and_eq_true, Bool.or_eq_true, Bool.not_eq_true', decide_eq_false_iff_not] at hqt64_1
            refine wp_skip ?_
            (try simp only [Exit.then, Exit.inBlock, ↓reduceIte, Nat.reduceEqDiff])
            refine hK15 _ _ ?_
            refine wp_seq_k (fun K18 hK18 => ?_)
            obtain ⟨x1, hx1, hx1l⟩ := valI_lt (sbt u (k + 1)) (by have h := hqt64_1; omega)
            obtain ⟨x2, hx2, hx2l⟩ := valI_lt (sbt u (k + 2)) (by have h := hqt64_1; omega)
            refine wp_region_unT 15 (fun wq => Below w1.heap.size w1 wq) (fun w w' => Below w.heap.size w w')
              (fun V => [(fun x _ => x = (.slice rOa (((nI o)).length) rOc)), (fun x _ => x = (.string u)), (fun x _ => x = (.int .i64 ((k : Nat) : Int))), (fun x _ => x = (.int .i64 (((k : Nat) : Int) + (1 : Int)))), (fun x _ => x = (.int .u8 ((sbt u (k + 1) : Nat) : Int))), (fun x _ => x = (.int .i64 ((x1 : Nat) : Int))), (fun x _ => x = (.int .i64 (((x1 * 16) : Nat) : Int))), (fun x _ => x = (.string u)), (fun x _ => x = (.int .i64 ((k : Nat) : Int))), (fun x _ => x = (.int .i64 (((k : Nat) : Int) + (2 : Int)))), (fun x _ => x = (.int .u8 ((sbt u (k + 2) : Nat) : Int))), (fun x _ => x = (.int .i64 ((x2 : Nat) : Int))), (fun x _ => x = (.int .i64 (((x1 * 16 + x2) : Nat) : Int))), (fun x _ => x = (.int .u8 (((x1 * 16 + x2) : Nat) : Int))), (fun x wq => ∃ b, x = .slice (some ⟨b, 0, none⟩) 1 1 ∧ w1.heap.size ≤ b ∧ wq.heap[b]? = some (.cells #[(.int .u8 (((x1 * 16 + x2) : Nat) : Int))] 5 (0, 0)))])
              [14]
              [[], [], [], [2], [1, 3], [4], [5], [], [], [8], [7, 9], [5, 10], [6, 11], [12], [13], [], []]
              hf (by kernel_rfl) (by kernel_rfl) (by kernel_rfl) (fun _ => rfl) ((Below.refl _ _).drew) (fun a b h1 h2 => h1.trans (h2.mono h1.size)) (fun _ _ h => h.size) (fun V => ⟨kept_eq, kept_eq, kept_eq, kept_eq, kept_eq, kept_eq, kept_eq, kept_eq, kept_eq, kept_eq, kept_eq, kept_eq, kept_eq, kept_eq, keptB, trivial⟩) (fun _ _ _ _ _ => rfl) ?_ ?_
            · skip
              intro V
              refine ⟨fun wu0 hC hd => ?_, ?_⟩
              · clear hd
                replace hb := hb.trans (hC.mono hb.size)
                replace hrO := Row.ext hrO hC
                exact Runs.does (r_move rfl) ⟨Below.refl _ _, rfl, nofr rfl⟩
              refine ⟨fun wu1 hC hd => ?_, ?_⟩
              · clear hd
                replace hb := hb.trans (hC.mono hb.size)
                replace hrO := Row.ext hrO hC
                exact Runs.does (r_move rfl) ⟨Below.refl _ _, rfl, nofr rfl⟩
              refine ⟨fun wu2 hC hd => ?_, ?_⟩
              · clear hd
                replace hb := hb.trans (hC.mono hb.size)
                replace hrO := Row.ext hrO hC
                exact Runs.does (r_move rfl) ⟨Below.refl _ _, rfl, nofr rfl⟩
              refine ⟨fun wu3 hC hd => ?_, ?_⟩
              · obtain ⟨h2, _⟩ := hd
                skip
                replace h2 : V 2 = (.int .i64 ((k : Nat) : Int)) := h2
                replace hb := hb.trans (hC.mono hb.size)
                replace hrO := Row.ext hrO hC
                exact Runs.does (r_add (C := (((k : Nat) : Int) + (1 : Int))) (congrArg some h2) rfl (by rw [IntKind.wrap_i64]; omega)) ⟨Below.refl _ _, rfl, nofr rfl⟩
              refine ⟨fun wu4 hC hd => ?_, ?_⟩
              · obtain ⟨h1, h3, _⟩ := hd
                skip
                skip
                replace h1 : V 1 = (.string u) := h1
                replace h3 : V 3 = (.int .i64 (((k : Nat) : Int) + (1 : Int))) := h3
                replace hb := hb.trans (hC.mono hb.size)
                replace hrO := Row.ext hrO hC
                exact Runs.does (r_sindexD (j := (k + 1)) (congrArg some h1) (congrArg some h3) Try.underlying9 rfl (by omega)) ⟨Below.refl _ _, rfl, nofr rfl⟩
              refine ⟨fun wu5 hC hd => ?_, ?_⟩
              · obtain ⟨h4, _⟩ := hd
                skip
                replace h4 : V 4 = (.int .u8 ((sbt u (k + 1) : Nat) : Int)) := h4
                replace hb := hb.trans (hC.mono hb.size)
                replace hrO := Row.ext hrO hC
                refine Does.mono (d_callS (vs := [(.int .u8 ((sbt u (k + 1) : Nat) : Int))]) (show [some (V 4)] = [some (.int .u8 ((sbt u (k + 1) : Nat) : Int))] from by rw [h4]) Try.func102 (by kernel_rfl) (by kernel_rfl) (hx1 ▸ value_any (sbt u (k + 1)) (sbt_lt _ _) _)) (fun _ _ h => ⟨h.2 ▸ Below.refl _ _, h.1, nofr rfl⟩)
              refine ⟨fun wu6 hC hd => ?_, ?_⟩
              · obtain ⟨h5, _⟩ := hd
                skip
                replace h5 : V 5 = (.int .i64 ((x1 : Nat) : Int)) := h5
                replace hb := hb.trans (hC.mono hb.size)
                replace hrO := Row.ext hrO hC
                exact Runs.does (r_shl (n := 4) (C := (((x1 * 16) : Nat) : Int)) (congrArg some h5) rfl rfl (by rw [IntKind.wrap_i64]; simp only [IntKind.bits, show min 4 64 = 4 from rfl]; omega)) ⟨Below.refl _ _, rfl, nofr rfl⟩
              refine ⟨fun wu7 hC hd => ?_, ?_⟩
              · clear hd
                replace hb := hb.trans (hC.mono hb.size)
                replace hrO := Row.ext hrO hC
                exact Runs.does (r_move rfl) ⟨Below.refl _ _, rfl, nofr rfl⟩
              refine ⟨fun wu8 hC hd => ?_, ?_⟩
              · clear hd
                replace hb := hb.trans (hC.mono hb.size)
                replace hrO := Row.ext hrO hC
                exact Runs.does (r_move rfl) ⟨Below.refl _ _, rfl, nofr rfl⟩
              refine ⟨fun wu9 hC hd => ?_, ?_⟩
              · obtain ⟨h8, _⟩ := hd
                skip
                replace h8 : V 8 = (.int .i64 ((k : Nat) : Int)) := h8
                replace hb := hb.trans (hC.mono hb.size)
                replace hrO := Row.ext hrO hC
                exact Runs.does (r_add (C := (((k : Nat) : Int) + (2 : Int))) (congrArg some h8) rfl (by rw [IntKind.wrap_i64]; omega)) ⟨Below.refl _ _, rfl, nofr rfl⟩
              refine ⟨fun wu10 hC hd => ?_, ?_⟩
              · obtain ⟨h7, h9, _⟩ := hd
                skip
                skip
                replace h7 : V 7 = (.string u) := h7
                replace h9 : V 9 = (.int .i64 (((k : Nat) : Int) + (2 : Int))) := h9
                replace hb := hb.trans (hC.mono hb.size)
                replace hrO := Row.ext hrO hC
                exact Runs.does (r_sindexD (j := (k + 2)) (congrArg some h7) (congrArg some h9) Try.underlying9 rfl (by omega)) ⟨Below.refl _ _, rfl, nofr rfl⟩
              refine ⟨fun wu11 hC hd => ?_, ?_⟩
              · obtain ⟨h5, h10, _⟩ := hd
                skip
                skip
                replace h5 : V 5 = (.int .i64 ((x1 : Nat) : Int)) := h5
                replace h10 : V 10 = (.int .u8 ((sbt u (k + 2) : Nat) : Int)) := h10
                replace hb := hb.trans (hC.mono hb.size)
                replace hrO := Row.ext hrO hC
                refine Does.mono (d_callS (vs := [(.int .u8 ((sbt u (k + 2) : Nat) : Int))]) (show [some (V 10)] = [some (.int .u8 ((sbt u (k + 2) : Nat) : Int))] from by rw [h10]) Try.func102 (by kernel_rfl) (by kernel_rfl) (hx2 ▸ value_any (sbt u (k + 2)) (sbt_lt _ _) _)) (fun _ _ h => ⟨h.2 ▸ Below.refl _ _, h.1, nofr rfl⟩)
              refine ⟨fun wu12 hC hd => ?_, ?_⟩
              · obtain ⟨h6, h11, _⟩ := hd
                skip
                skip
                replace h6 : V 6 = (.int .i64 (((x1 * 16) : Nat) : Int)) := h6
                replace h11 : V 11 = (.int .i64 ((x2 : Nat) : Int)) := h11
                replace hb := hb.trans (hC.mono hb.size)
                replace hrO := Row.ext hrO hC
                exact Runs.does (r_or (C := (((x1 * 16 + x2) : Nat) : Int)) (congrArg some h6) (congrArg some h11) (or_i64 x1 x2 hx1l hx2l)) ⟨Below.refl _ _, rfl, nofr rfl⟩
              refine ⟨fun wu13 hC hd => ?_, ?_⟩
              · obtain ⟨h12, _⟩ := hd
                skip
                replace h12 : V 12 = (.int .i64 (((x1 * 16 + x2) : Nat) : Int)) := h12
                replace hb := hb.trans (hC.mono hb.size)
                replace hrO := Row.ext hrO hC
                exact Runs.does (r_conv (C := (((x1 * 16 + x2) : Nat) : Int)) (congrArg some h12) Try.underlying3 Try.underlying5 (by rw [IntKind.wrap_u8]; omega)) ⟨Below.refl _ _, rfl, nofr rfl⟩
              refine ⟨fun wu14 hC hd => ?_, ?_⟩
              · obtain ⟨h13, _⟩ := hd
                skip
                replace h13 : V 13 = (.int .u8 (((x1 * 16 + x2) : Nat) : Int)) := h13
                replace hb := hb.trans (hC.mono hb.size)
                replace hrO := Row.ext hrO hC
                refine Does.mono (d_bslice (z := (.int .u8 (0 : Int))) (sz := 1) (vs := [(0, (.int .u8 (((x1 * 16 + x2) : Nat) : Int)))]) (cs := #[(.int .u8 (((x1 * 16 + x2) : Nat) : Int))]) (show [(0, some (V 13))] = [(0, some (.int .u8 (((x1 * 16 + x2) : Nat) : Int)))] from by rw [h13]) Try.underlying43 (by kernel_rfl) rfl (by kernel_rfl)) ?_
                rintro _ w' ⟨b, rfl, hF⟩
                exact ⟨hF.2.2, ⟨b, rfl, Nat.le_trans hC.size hF.1, hF.2.1⟩, isfr rfl hF.1 (blk_lt hF.2.1)⟩
              trivial
            · skip
              clear hf fa; intro V w4 fa he2 hp hnb hf
              have hv0 : V 0 = (.slice rOa (((nI o)).length) rOc) := postsHold_at hp 0 rfl
              have hv1 : V 1 = (.string u) := postsHold_at hp 1 rfl
              have hv2 : V 2 = (.int .i64 ((k : Nat) : Int)) := postsHold_at hp 2 rfl
              have hv3 : V 3 = (.int .i64 (((k : Nat) : Int) + (1 : Int))) := postsHold_at hp 3 rfl
              have hv4 : V 4 = (.int .u8 ((sbt u (k + 1) : Nat) : Int)) := postsHold_at hp 4 rfl
              have hv5 : V 5 = (.int .i64 ((x1 : Nat) : Int)) := postsHold_at hp 5 rfl
              have hv6 : V 6 = (.int .i64 (((x1 * 16) : Nat) : Int)) := postsHold_at hp 6 rfl
              have hv7 : V 7 = (.string u) := postsHold_at hp 7 rfl
              have hv8 : V 8 = (.int .i64 ((k : Nat) : Int)) := postsHold_at hp 8 rfl
              have hv9 : V 9 = (.int .i64 (((k : Nat) : Int) + (2 : Int))) := postsHold_at hp 9 rfl
              have hv10 : V 10 = (.int .u8 ((sbt u (k + 2) : Nat) : Int)) := postsHold_at hp 10 rfl
              have hv11 : V 11 = (.int .i64 ((x2 : Nat) : Int)) := postsHold_at hp 11 rfl
              have hv12 : V 12 = (.int .i64 (((x1 * 16 + x2) : Nat) : Int)) := postsHold_at hp 12 rfl
              have hv13 : V 13 = (.int .u8 (((x1 * 16 + x2) : Nat) : Int)) := postsHold_at hp 13 rfl
              have hv14 := postsHold_at hp 14 rfl
              obtain ⟨b2, hv14, hle2, hk2⟩ := hv14
              have hBb2 : w.heap.size ≤ b2 := Nat.le_trans hb.size hle2
              simp only [List.take_succ_cons, List.take_zero, insAll, ins, hv0, hv1, hv2, hv3, hv4, hv5, hv6, hv7, hv8, hv9, hv10, hv11, hv12, hv13, hv14] at hf
              have hnr2 : (Value.slice rOa ((((nI o)).length)) rOc).ownBlock ≠ some b2 := fun hq => by have := (Row.lt hrO _ hq).2; have := hle2; omega
              clear hp hnb hv0 hv1 hv2 hv3 hv4 hv5 hv6 hv7 hv8 hv9 hv10 hv11 hv12 hv13 hv14
              replace hrO := Row.ext hrO he2
              replace hb := hb.trans (Below.mono he2 hb.size)
              simp only [List.drop_succ_cons, List.drop_zero]
              have hs2 := Row.rd (by intros; rfl) (Row.of_new (k := 1) (V := (vInt .u8)) (l := [(((x1 * 16 + x2) : Nat) : Int)]) hk2 (Nat.le_refl _) rfl rfl (Nat.le_of_ble_eq_true rfl))
              refine sqdt hf (d_append (V := (vInt .u8)) (k := 1) (e := 5) (bytes := 1) (z := (.int .u8 (0 : Int))) (news := [(((x1 * 16 + x2) : Nat) : Int)]) (base := w.heap.size) (by intros; rfl) (by intro x u hu; simp only [vInt, List.mem_singleton] at hu; subst hu; rfl) rfl rfl Try.underlying43 (by kernel_rfl) rfl rfl rfl hrO hs2 rfl (fun h => by cases h) (by first | omega | (simp only [List.length_cons, List.length_nil, List.length_append]; omega)) (by have := hb.size; omega)) rfl rfl rfl ?_; clear hf fa; rintro fa v w5 ⟨hr2, hg2⟩ hf; obtain ⟨ra2, rc2, rfl, hcrc2, hmrc2⟩ := Row.slice hr2
              replace hb := hb.trans (row_below hrO hg2 hb.size (by have := hb.size; omega))
              refine sqv hf (r_assign rfl) rfl rfl rfl ?_; clear hf fa; intro fa hf
              apply wpList_nil
              (try simp only [Exit.then, Exit.inBlock, ↓reduceIte, Nat.reduceEqDiff])
              refine hK18 _ _ ?_
              refine wp_region_lit ?_
              refine sqv hf (r_move rfl) rfl rfl rfl ?_; clear hf fa; intro fa hf
              refine sqv hf (r_add (C := (((k : Nat) : Int) + (2 : Int))) rfl rfl (by rw [IntKind.wrap_i64]; omega)) rfl rfl rfl ?_; clear hf fa; intro fa hf
              refine sqv hf (r_assign rfl) rfl rfl rfl ?_; clear hf fa; intro fa hf
              apply wpList_nil
              (try simp only [Exit.then, Exit.inBlock, ↓reduceIte, Nat.reduceEqDiff])
              refine hK11 _ _ ?_
              refine wp_region_lit ?_
              refine sqv hf (r_move rfl) rfl rfl rfl ?_; clear hf fa; intro fa hf
              refine sqv hf (r_add (C := ((((k : Nat) : Int) + (2 : Int)) + (1 : Int))) rfl rfl (by rw [IntKind.wrap_i64]; omega)) rfl rfl rfl ?_; clear hf fa; intro fa hf
              refine sqv hf (r_assign rfl) rfl rfl rfl ?_; clear hf fa; intro fa hf
              apply wpList_nil
              (try simp only [Exit.then, Exit.inBlock, ↓reduceIte, Nat.reduceEqDiff])
              refine hKL1 _ _ _ (by omega) ⟨((k + 2) + 1), (f - 1), (o ++ [x1 * 16 + x2]), ra2, rc2, rfl, hf.sub ⟨rfl, rfl, (some_int (by first | rfl | omega)), (some_sl (by first | omega | rfl | (simp only [List.length_append, List.length_cons, List.length_nil]; omega) | (simp <;> omega)) rfl), trivial⟩, hb, (Row.relen (Row.eqL hr2 (by simp [nI]))), by omega, by omega, (by have h := Hs; rw [bl_dropc u k (by omega), bl_dropc u (k + 1) (by omega), bl_dropc u (k + 1 + 1) (by omega), show sbt u k = 92 by omega] at h; obtain ⟨f2, rfl⟩ : ∃ f2, f = f2 + 1 := ⟨f - 1, by omega⟩; rw [decP_es (by rw [hx1, show sbt u (k + 1 + 1) = sbt u (k + 2) from rfl, hx2]; omega), hx1, show sbt u (k + 1 + 1) = sbt u (k + 2) from rfl, hx2] at h; exact h), by simp only [List.length_append, List.length_cons, List.length_nil]; omega⟩
      · have hqt31_1b := hqt31_1
        replace hqt31_1 := Bool.eq_false_iff.1 hqt31_1
        try simp only [ne_eq, decide_eq_true_eq, Bool.and_eq_true, Bool.or_eq_true, Bool.not_eq_true', decide_eq_false_iff_not] at hqt31_1
        refine wp_exit ?_
        (try simp only [Exit.then, Exit.inBlock, ↓reduceIte, Nat.reduceEqDiff])
        refine hK7 _ _ ?_
        refine wp_seq_k (fun K19 hK19 => ?_)
        refine wp_seq_k (fun K20 hK20 => ?_)
        have hfin : decP (bl s).length (inner (bl s)) = some o := by
          rw [hin]; have h := Hs; rw [List.drop_eq_nil_of_le (by rw [bl_length]; omega), decP_end] at h; simpa using h
        have hol9 := decP_lt _ _ _ (fun x hx => by rw [hin] at hx; exact bl_lt u x hx) hfin
        have hbo : bl (strOfNums (nI o)) = o := bl_strN o hol9
        refine wp_region_lit ?_
        refine sqv hf (r_move rfl) rfl rfl rfl ?_; clear hf fa; intro fa hf
        refine sqv hf (r_rowstr rfl Try.underlying43 Try.underlying5 Try.underlying9 hrO) rfl rfl rfl ?_; clear hf fa; intro fa hf
        refine sqdt hf (d_callB (vs := [(.string (strOfNums (nI o)))]) rfl Try.func41 (by kernel_rfl) (by kernel_rfl) (show_any (strOfNums (nI o)) _ (by have := strOfNums_size (nI o); (try simp only [List.length_cons, List.length_nil, List.length_append] at this); omega))) rfl rfl rfl ?_; clear hf fa; rintro fa _ w6 ⟨rfl, he3⟩ hf
        replace hrO := Row.ext hrO he3
        replace hb := hb.trans (Below.mono he3 hb.size)
        refine sqv hf (r_move rfl) rfl rfl rfl ?_; clear hf fa; intro fa hf
        refine sqv hf (r_sne rfl rfl) rfl rfl rfl ?_; clear hf fa; intro fa hf
        apply wpList_nil
        (try simp only [Exit.then, Exit.inBlock, ↓reduceIte, Nat.reduceEqDiff])
        refine hK20 _ _ ?_
        refine wp_cond_split (t := (decide ((strN (showL (bl (strOfNums (nI o))))) ≠ s))) (hf.ev rfl) (fun hqt87_1 => ?_) (fun hqt87_1 => ?_)
        · have hqt87_1b := hqt87_1
          try simp only [decide_eq_true_eq, Bool.and_eq_true, Bool.or_eq_true, Bool.not_eq_true', decide_eq_false_iff_not, ne_eq, Bool.not_eq_true] at hqt87_1
          refine wp_seq_k (fun K21 hK21 => ?_)
          refine wp_region_lit ?_
          refine sqv hf (r_assign rfl) rfl rfl rfl ?_; clear hf fa; intro fa hf
          refine sqv hf (r_assign rfl) rfl rfl rfl ?_; clear hf fa; intro fa hf
          apply wpList_nil
          (try simp only [Exit.then, Exit.inBlock, ↓reduceIte, Nat.reduceEqDiff])
          refine hK21 _ _ ?_
          refine wp_ret ?_
          (try simp only [Exit.then, Exit.inBlock])
          refine ret2 hf rfl rfl rfl ?_
          refine ⟨?_, hb⟩; unfold readP; rw [hgd, if_pos rfl, hfin]; simp only [readOf]; rw [if_neg (fun e => hqt87_1 (by rw [hbo, e, strN_bl]))]; rfl
        · have hqt87_1b := hqt87_1
          replace hqt87_1 := Bool.eq_false_iff.1 hqt87_1
          try simp only [ne_eq, decide_eq_true_eq, Bool.and_eq_true, Bool.or_eq_true, Bool.not_eq_true', decide_eq_false_iff_not] at hqt87_1
          refine wp_skip ?_
          (try simp only [Exit.then, Exit.inBlock, ↓reduceIte, Nat.reduceEqDiff])
          refine hK19 _ _ ?_
          refine wp_seq_k (fun K22 hK22 => ?_)
          refine wp_region_lit ?_
          refine sqv hf (r_move rfl) rfl rfl rfl ?_; clear hf fa; intro fa hf
          refine sqv hf (r_rowstr rfl Try.underlying43 Try.underlying5 Try.underlying9 hrO) rfl rfl rfl ?_; clear hf fa; intro fa hf
          refine sqv hf (r_assign rfl) rfl rfl rfl ?_; clear hf fa; intro fa hf
          refine sqv hf (r_assign rfl) rfl rfl rfl ?_; clear hf fa; intro fa hf
          apply wpList_nil
          (try simp only [Exit.then, Exit.inBlock, ↓reduceIte, Nat.reduceEqDiff])
          refine hK22 _ _ ?_
          refine wp_ret ?_
          (try simp only [Exit.then, Exit.inBlock])
          refine ret2 hf rfl rfl rfl ?_
          refine ⟨?_, hb⟩; unfold readP; rw [hgd, if_pos rfl, hfin]; simp only [readOf]; rw [if_pos (by have h := Decidable.of_not_not hqt87_1; rw [hbo] at h; have h2 := congrArg bl h; rwa [bl_strN _ (showL_lt _ hol9)] at h2)]; rfl
end Go.Proofs.Ytpalmpfkliepfaa.Ut

namespace Go.Proofs.Ytpalmpfkliepfaa.Ut
open Go.RowKit
set_option linter.unusedVariables false
set_option linter.unusedSimpArgs false

theorem readP_len (l : List Nat) (h : ∀ x ∈ l, x < 256) : (readP l).1.length ≤ l.length := by
  have h2 := (read_eq l h).2
  by_cases hb : (readP l).2 = true
  · have h3 := congrArg List.length (h2 hb)
    have h4 : ∀ o : List Nat, o.length ≤ (o.flatMap sh).length := by
      intro o
      induction o with
      | nil => simp
      | cons a o ih => have := (sh_len a).2; simp only [List.flatMap_cons, List.length_append, List.length_cons]; omega
    have := h4 (readP l).1
    unfold showL at h3
    simp only [List.length_cons, List.length_append, List.length_nil] at h3
    omega
  · have : (readP l).1 = [] := by
      unfold readP at hb ⊢
      split
      · rename_i hg
        rw [if_pos hg] at hb
        unfold readOf at hb ⊢
        split
        · rename_i o hd
          rw [hd] at hb
          simp only at hb ⊢
          split
          · rename_i he; rw [if_pos he] at hb; exact absurd rfl hb
          · rfl
        · rfl
      · rfl
    rw [this]; simp
def FndR (L : List Nat) (o : ByteArray) (n k : Nat) (fd : Bool) (o2 : ByteArray) (n2 : Nat) : Prop :=
  (fd = false ∧ o2 = o ∧ n2 = n ∧ findR L 0 256 = findR L k (256 - k)) ∨ (fd = true ∧ ∃ c, findR L 0 256 = some c ∧ bl o2 = bl o ++ [c] ∧ n2 + 1 = n + (sh c).length)
theorem FndR.no {L : List Nat} {o o2 : ByteArray} {n k n2 : Nat} {fd : Bool} (h1 : fd = false) (h2 : o2 = o) (h3 : n2 = n) (h4 : findR L 0 256 = findR L k (256 - k)) : FndR L o n k fd o2 n2 := by unfold FndR; exact .inl ⟨h1, h2, h3, h4⟩
end Go.Proofs.Ytpalmpfkliepfaa.Ut

namespace Go.Proofs.Ytpalmpfkliepfaa
open Go.RowKit
set_option linter.unusedVariables false
set_option linter.unusedSimpArgs false

/-- Two values of a type are equal, or not. -/
def EqT (P : Program) (t : TypeId) (k : Nat) (x y : Value) (b : Bool) : Prop := ∀ d w, (Op.equalIn (d + k) t x y).run P w = .ok b w
def EqF (P : Program) (k : Nat) (xs ys : Array Value) (fs : List Field) (b : Bool) : Prop := ∀ d w, (Op.eqFields (d + k) xs ys fs).run P w = .ok b w
section
variable {P : Program} {t : TypeId} {k : Nat} {xs ys : Array Value}
theorem eqt_int {kk k' : IntKind} {a b : Int} (h : P.underlying t = some (.int k')) : EqT P t (k + 1) (.int kk a) (.int kk b) (decide (a = b)) := fun d w => by
  have := run_equalIn_int (P := P) w (d + k) t kk k' a b h
  rw [show d + (k + 1) = (d + k) + 1 from rfl, this]; rfl
theorem eqt_struct {fs : Array Field} {b : Bool} (ht : P.underlying t = some (.struct fs)) (hp : P.stoodInHeld t = false) (hf : EqF P k xs ys fs.toList b) : EqT P t (k + 1) (.agg xs) (.agg ys) b := fun d w => by
  have hfo : P.fieldsOf t = fs := by unfold Program.fieldsOf; rw [ht]
  rw [show d + (k + 1) = (d + k) + 1 from rfl, run_equalIn_struct w (d + k) t xs ys (by rw [hfo]; exact ht) hp, hfo]
  exact hf d w
theorem eqf_nil : EqF P k xs ys [] true := fun d w => by simp [Op.eqFields]
theorem eqf_cons {f : Field} {fs : List Field} {x y : Value} {r rs : Bool} (hn : (f.name != "_") = true) (hx : ∀ w, (part f.type xs f.offset).run P w = .ok x w) (hy : ∀ w, (part f.type ys f.offset).run P w = .ok y w)
    (h : EqT P f.type k x y r) (hr : EqF P k xs ys fs rs) : EqF P k xs ys (f :: fs) (r && rs) := fun d w => by
  have hn' : f.name ≠ "_" := by simpa using hn
  simp only [Op.eqFields, if_pos hn', Sem.run_bind, hx, hy, Result.andThen_ok, h d w]
  cases r
  · simp
  · simpa using hr d w
theorem eqf_one {f : Field} {x y : Value} {r : Bool} (hn : (f.name != "_") = true) (hx : ∀ w, (part f.type xs f.offset).run P w = .ok x w) (hy : ∀ w, (part f.type ys f.offset).run P w = .ok y w)
    (h : EqT P f.type k x y r) : EqF P k xs ys [f] r := by
  have := eqf_cons (fs := []) hn hx hy h eqf_nil
  rwa [Bool.and_true] at this
end
section
variable {P : Program} {L : List (Nat × Value)} {w : World} {d : Option Tmp} {ty : TypeId} {ps : String} {af : Array Edge} {g : Option (Nat × Bool)}
theorem r_aeq {t yt : TypeId} {x y : Operand} {xs ys : Array Value} {k : Nat} {b : Bool} (hx : evO L x = some (.agg xs)) (hy : evO L y = some (.agg ys)) (hm : P.eqGuardType P.depth t = false) (h : EqT P t k (.agg xs) (.agg ys) b) (hk : Nat.ble k 10000 = true) :
    Runs P L ⟨d, .binOp .eql t x y yt, ty, ps, af, g⟩ w (.bool b) w := by
  intro ρ hρ
  have hk' : 10000 - k + k = 10000 := Nat.sub_add_cancel (by simpa [Nat.ble_eq] using hk)
  have h1 := h (10000 - k) w
  rw [hk'] at h1
  simp only [execOp, hρ x _ hx, hρ y _ hy]
  simp [run_eqGuard_agg (P := P) w .eql t x y xs ys hm, run_eql_struct, h1]
theorem r_ane {t yt : TypeId} {x y : Operand} {xs ys : Array Value} {k : Nat} {b : Bool} (hx : evO L x = some (.agg xs)) (hy : evO L y = some (.agg ys)) (hm : P.eqGuardType P.depth t = false) (h : EqT P t k (.agg xs) (.agg ys) b) (hk : Nat.ble k 10000 = true) :
    Runs P L ⟨d, .binOp .neq t x y yt, ty, ps, af, g⟩ w (.bool (!b)) w := by
  intro ρ hρ
  have hk' : 10000 - k + k = 10000 := Nat.sub_add_cancel (by simpa [Nat.ble_eq] using hk)
  have h1 := h (10000 - k) w
  rw [hk'] at h1
  simp only [execOp, hρ x _ hx, hρ y _ hy]
  simp [run_eqGuard_agg (P := P) w .neq t x y xs ys hm, run_neq_struct, h1]
end

/-- An element of an argument. -/
theorem fSl_el {α : Type} {k : Nat} {V : α → List Value} {F : World → α → Prop} {w : World} {s : Sl α} {j : Nat} {y : α} (h : fSl k V F w s) (hj : s.list[j]? = some y) : F w y := by
  have hlt : j < s.len := by
    have := (List.getElem?_eq_some_iff.1 hj).1
    rwa [Sl.list_length] at this
  rw [Sl.list_get s hlt] at hj
  cases hj
  exact (h.2.2.2 j hlt).1
section
variable {P : Program} {fn : Func} {R : Ending → World → Prop} {a : Act} {w : World} {N : Nat} {L : List (Nat × Value)}
theorem load_cell {T T2 : TypeId} {b : Nat} {cs : Array Value} {fr : Nat × Nat} {td : TypeDesc} (hb : w.heap[b]? = some (.cells cs T2 fr)) (hu : P.underlying T = some td) (hd : plainT td = false) (hi : (P.info? T).map (·.size) = some cs.size) : Sem.run P (loadVar T { block := b, off := 0 }) w = .ok (.agg cs) w :=
  run_loadVar_row (P := P) w b T2 T cs fr td hb hu (by cases td <;> simp_all [plainT]) hi
end
section
variable {P : Program} {L : List (Nat × Value)} {w : World} {d : Option Tmp} {ty : TypeId} {ps : String} {af : Array Edge} {g : Option (Nat × Bool)}
theorem d_storeK {t T : TypeId} {x y : Operand} {b o : Nat} {cs cs' : Array Value} {v : Value} (hx : evO L x = some (.pointer (some ⟨b, o, none⟩))) (hy : evO L y = some v) (hs : (P.info? t).map (·.size) = some v.cells.size) (h1 : v.cells.toList.all (·.oneCell') = true)
    (hb : w.heap[b]? = some (.cells cs T (0, 0))) (hl : Nat.ble (o + v.cells.size) cs.size = true) (hcs : setAll cs o v.cells.toList = cs') : Does P L ⟨d, .store t x y, ty, ps, af, g⟩ w (fun _ w' => Wrote w b cs' T w') :=
  d_store hx hy hs (fun u hu => List.all_eq_true.1 h1 u hu) hb (Nat.le_of_ble_eq_true hl) hcs
end
/-- A slice's rest, for reading. -/
theorem RdS.drop {α : Type} {k : Nat} {V : α → List Value} {w : World} {b off : Nat} {l : List α} (m : Nat) (h : RdS k V w (some ⟨b, off, none⟩) l) : RdS k V w (some ⟨b, off + m * k, none⟩) (l.drop m) := by
  intro j x hx
  rw [List.getElem?_drop] at hx
  obtain ⟨b', o', ha, hl, hc⟩ := h _ x hx
  cases ha
  exact ⟨_, _, rfl, hl, fun i u hu => by rw [show off + m * k + j * k + i = off + (m + j) * k + i by rw [Nat.add_mul]; omega]; exact hc i u hu⟩
theorem RdS.take {α : Type} {k : Nat} {V : α → List Value} {w : World} {a : Option Addr} {l : List α} (m : Nat) (h : RdS k V w a l) : RdS k V w a (l.take m) := by
  intro j x hx
  rw [List.getElem?_take] at hx
  split at hx
  · exact h j x hx
  · cases hx
end Go.Proofs.Ytpalmpfkliepfaa

namespace Go.Proofs.Ytpalmpfkliepfaa
open Go.RowKit
set_option linter.unusedVariables false
set_option linter.unusedSimpArgs false
section
variable {P : Program} {L : List (Nat × Value)} {w : World} {d : Option Tmp} {ty : TypeId} {ps : String} {af : Array Edge} {g : Option (Nat × Bool)}
theorem r_ixp {tt e : TypeId} {x i : Operand} {k : IntKind} {I : Int} {b off nn j sz q : Nat} (hx : evO L x = some (.pointer (some ⟨b, off, none⟩))) (hi : evO L i = some (.int k I)) (ht : P.underlying tt = some (.array nn e)) (hsz : (P.info? e).map (·.size) = some sz)
    (hj : I = j) (hlt : j < nn) (hq : off + j * sz = q) : Runs P L ⟨d, .indexAddr tt x i, ty, ps, af, g⟩ w (.pointer (some ⟨b, q, none⟩)) w := by
  intro ρ hρ
  obtain ⟨ii, hii, hs⟩ : ∃ ii, P.info? e = some ii ∧ ii.size = sz := by
    cases hh : P.info? e with
    | none => rw [hh] at hsz; cases hsz
    | some ii => rw [hh] at hsz; exact ⟨ii, rfl, by simpa using hsz⟩
  subst hj hq
  simp [execOp, hρ x _ hx, hρ i _ hi, Instr.indexAt, asIntOf, run_underlying ht, hlt, sizeOf, typeInfo, hii, hs, Addr.add_lit, Instr.sureAddr]
end
end Go.Proofs.Ytpalmpfkliepfaa

namespace Go.Proofs.Ytpalmpfkliepfaa
open Go.RowKit
set_option linter.unusedVariables false
set_option linter.unusedSimpArgs false

theorem fInt_u64 {w : World} {n : Int} (h : fInt .u64 w n) : 0 ≤ n ∧ n < 18446744073709551616 := by
  simp [fInt, Lit.wf, IntKind.min, IntKind.max, IntKind.signed, IntKind.bits] at h; omega
/-- The bytes of a string, as numbers. -/
def nums (s : ByteArray) : List Int := s.data.toList.map fun b => ((b.toNat : Nat) : Int)
theorem nums_len (s : ByteArray) : (nums s).length = s.size := by unfold nums; rw [List.length_map, Array.length_toList]; rfl
theorem strOfNums_app (a b : List Int) : strOfNums (a ++ b) = strOfNums a ++ strOfNums b := by
  apply ByteArray.ext
  unfold strOfNums
  rw [ByteArray.data_append]
  simp
theorem nums_get {s : ByteArray} {j : Nat} (h : j < s.size) : (nums s)[j]? = some ((sbt s j : Nat) : Int) := by
  have hl : j < s.data.toList.length := by rw [Array.length_toList]; exact h
  unfold nums sbt
  rw [List.getElem?_map, List.getElem?_eq_getElem hl, List.getD_eq_getElem?_getD, List.getElem?_eq_getElem hl]
  rfl
section
variable {P : Program} {L : List (Nat × Value)} {w : World} {d : Option Tmp} {ty : TypeId} {ps : String} {af : Array Edge} {g : Option (Nat × Bool)}
theorem retC {fn : Func} {R : Ending → World → Prop} {a : Act} {N : Nat} {p : Tmp} {T T2 : TypeId} {b : Nat} {cs : Array Value} {fr : Nat × Nat} {td : TypeDesc} (hf : Fr N a L) (hr : fn.results = #[.cell p T]) (hp : lk L p = some (.pointer (some ⟨b, 0, none⟩)))
    (hb : w.heap[b]? = some (.cells cs T2 fr)) (hu : P.underlying T = some td) (hd : plainT td = false) (hi : (P.info? T).map (·.size) = some cs.size) (hR : R (.returned (.agg cs)) w) : bodyPost P fn R .ret a w := by
  refine bodyPost_ret (v := .agg cs) ?_ hf.defers hR
  simp [results, hr, hf.has p _ hp, asAddr, load_cell hb hu hd hi]
end
end Go.Proofs.Ytpalmpfkliepfaa

namespace Go.Proofs.Ytpalmpfkliepfaa
open Go.RowKit Go.ChangeShapes Go.WideShapes Go.Deep
set_option linter.unusedVariables false
set_option linter.unusedSimpArgs false

structure ReadsW (P : Program) (t : TypeId) {α : Type} (V : α → List Value) (F : World → α → Prop) : Prop where
  get : ∀ (H : Type) (enc : TypeId × Value → H) (w : World) (base : Nat) (spare : Nat → Bool) (held : Bool) (fuel : Nat) (cs : List Value) (x : DataW H × List MemPlace), DataW.trod enc P w base spare held fuel t cs = some x → (∀ n ∈ x.1.weights P t, n ≤ reachBytes) → ∃ d, cs = V d ∧ F w d
  kept : ∀ w w' d, Below w.heap.size w w' → F w d → F w' d

theorem Reads.toW {P : Program} {t : TypeId} {α : Type} {V : α → List Value} {F : World → α → Prop} (R : Reads P t V F) : ReadsW P t V F :=
  ⟨fun H enc w base spare held fuel cs x h _ => R.get H enc w base spare held fuel cs x h, R.kept⟩

structure ReadsFsW (P : Program) (fs : List Field) (o tot : Nat) {α : Type} (V : α → List Value) (F : World → α → Prop) : Prop where
  get : ∀ (H : Type) (enc : TypeId × Value → H) (w : World) (base : Nat) (spare : Nat → Bool) (held : Bool) (n : Nat) (cs : List Value) (xs : List (DataW H × List MemPlace)), cs.length = tot → xs.length = fs.length →
    (∀ (i : Nat) (f : Field), fs[i]? = some f → DataW.trod enc P w base spare held n f.type ((cs.drop f.offset).take (P.cellsOf f.type)) = xs[i]?) →
    (∀ (i : Nat) (f : Field) (x : DataW H × List MemPlace), fs[i]? = some f → xs[i]? = some x → ∀ n ∈ x.1.weights P f.type, n ≤ reachBytes) → ∃ d, cs.drop o = V d ∧ F w d
  kept : ∀ w w' d, Below w.heap.size w w' → F w d → F w' d

theorem readsFsW_nil {P : Program} {o tot : Nat} (h : o = tot) : ReadsFsW P [] o tot (fun (_ : Unit) => []) (fun _ _ => True) where
  get := by
    intro H enc w base spare held n cs xs hl hx hf hw
    exact ⟨(), List.drop_eq_nil_of_le (by omega), trivial⟩
  kept := fun _ _ _ _ h => h

theorem readsFsW_cons {P : Program} {f : Field} {fs : List Field} {o c tot : Nat} {α β : Type} {V : α → List Value} {F : World → α → Prop} {V' : β → List Value} {F' : World → β → Prop} (h0 : f.offset = o) (hc : P.cellsOf f.type = c) (R : ReadsW P f.type V F) (Rs : ReadsFsW P fs (o + c) tot V' F') :
    ReadsFsW P (f :: fs) o tot (fun (d : α × β) => V d.1 ++ V' d.2) (fun w d => F w d.1 ∧ F' w d.2) where
  get := by
    intro H enc w base spare held n cs xs hl hx hf hw
    cases xs with
    | nil => simp at hx
    | cons y ys =>
      have hh := hf 0 f rfl
      obtain ⟨d1, e1, g1⟩ := R.get H enc w base spare held n _ y (by simpa using hh) (hw 0 f y rfl rfl)
      obtain ⟨d2, e2, g2⟩ := Rs.get H enc w base spare held n cs ys hl (by simpa using hx) (fun i g hg => by simpa using hf (i + 1) g (by simpa using hg)) (fun i g x hg hx => hw (i + 1) g x (by simpa using hg) (by simpa using hx))
      refine ⟨(d1, d2), ?_, g1, g2⟩
      rw [h0, hc] at e1
      show _ = V d1 ++ V' d2
      rw [← e1, ← e2, ← List.drop_drop, List.take_append_drop]
  kept := fun w w' d hb h => ⟨R.kept w w' _ hb h.1, Rs.kept w w' _ hb h.2⟩

theorem readsW_struct {P : Program} {t : TypeId} {fs : Array Field} {tot : Nat} {α : Type} {V : α → List Value} {F : World → α → Prop} (ht : P.underlying t = some (.struct fs)) (hc : P.cellsOf t = tot) (Rs : ReadsFsW P fs.toList 0 tot V F) : ReadsW P t V F where
  get := by
    intro H enc w base spare held fuel cs x h hw
    obtain ⟨xs, n, _, hx, hl, hlen, hf⟩ := DataW.trod_struct ht h
    obtain ⟨d, e, g⟩ := Rs.get H enc w base spare held n cs xs (hl.trans hc) (by simpa using hlen) (fun i f hi => hf i f (by simpa using hi)) (fun i f y hi hy n hn => hw n (by
      rw [hx]
      simp only [DataW.weights, ht]
      exact DataW.weights_mem_each (j := i) (t := f.type) (d := y.1) (by simp [List.getElem?_map, hi]) (by simp [List.getElem?_map, hy]) n hn))
    exact ⟨d, by simpa using e, g⟩
  kept := Rs.kept

def fSlW {α : Type} (k by' : Nat) (V : α → List Value) (F : World → α → Prop) (w : World) (d : Sl α) : Prop := d.len * by' ≤ 140737488351232 ∧ fSl k V F w d

theorem weightsAll_mem {H : Type} {P : Program} {e : TypeId} : ∀ {l : List (DataW H)} {d : DataW H}, d ∈ l → ∀ n ∈ d.weights P e, n ∈ DataW.weightsAll P e l
  | a :: l, d, hd, n, hn => by
    simp only [DataW.weightsAll, List.mem_append]
    rcases List.mem_cons.1 hd with rfl | h
    · exact .inl hn
    · exact .inr (weightsAll_mem h n hn)
  | [], _, hd, _, _ => by cases hd

theorem readsW_slice {P : Program} {t e : TypeId} {k by' : Nat} {α : Type} [Inhabited α] {V : α → List Value} {F : World → α → Prop} (ht : P.underlying t = some (.slice e)) (hk : P.cellsOf e = k) (hby : P.bytesOf e = by') (h1 : 0 < k) (R : ReadsW P e V F) : ReadsW P t (vSl (α := α)) (fSlW k by' V F) where
  get := by
    intro H enc w base spare held fuel cs x h hw
    rcases open_slice ht h with ⟨rfl, _⟩ | ⟨a, len, cap, m, n, D, Pl, rfl, hb, hlc, hm, hmm, hx, hi⟩
    · exact ⟨⟨none, 0, 0, fun _ => default⟩, rfl, by simp, Nat.le_refl _, Nat.zero_le _, fun _ => rfl, fun j hj => absurd hj (by simp)⟩
    · have hml : len ≤ m := by rw [hmm]; split <;> omega
      have hwl : len * by' ≤ 140737488351232 := by
        have h2 := hw ((((List.range len).map D).length + ((List.range (m - len)).map fun j => D (len + j)).length) * P.bytesOf e) (by rw [hx]; simp [DataW.weights, ht])
        simp only [List.length_map, List.length_range, hby] at h2
        exact Nat.le_trans (Nat.mul_le_mul_right _ (Nat.le_add_right _ _)) h2
      have key : ∀ j, ∃ d, j < len → F w d ∧ ∃ b off, a = ⟨b, off, none⟩ ∧ b < w.heap.size ∧ ∀ i u, (V d)[i]? = some u → w.cell? ⟨b, off + j * k + i, none⟩ = some u := by
        intro j
        by_cases hj : j < len
        · obtain ⟨cs', hc, ht'⟩ := hi j (by omega)
          rw [hk] at hc
          obtain ⟨_, hcl, hat⟩ := World.cells?_some hc
          obtain ⟨d, e1, g⟩ := R.get H enc w base spare held n cs' _ ht' (fun n hn => hw n (by
            rw [hx]
            simp only [DataW.weights, ht]
            exact List.mem_cons_of_mem _ (List.mem_append.2 (.inl (weightsAll_mem (List.mem_map.2 ⟨j, List.mem_range.2 hj, rfl⟩) n hn)))))
          refine ⟨d, fun _ => ⟨g, ?_⟩⟩
          obtain ⟨cs0, hc0, _⟩ := hi 0 (by omega)
          rw [hk, Nat.zero_mul] at hc0
          obtain ⟨_, hcl0, hat0⟩ := World.cells?_some hc0
          have h0 := hat0 0 (by omega)
          rw [show ((a.add 0).add 0) = a from rfl] at h0
          obtain ⟨s0, l0⟩ := cell_here (w := w) (x := a) (v := cs0[0]'(by omega)) (by rw [h0]; exact List.getElem?_eq_getElem _)
          obtain ⟨b, off, sp⟩ := a
          simp only at s0
          subst s0
          have ea : ∀ o q, (⟨b, o, none⟩ : Addr).add q = ⟨b, o + q, none⟩ := fun o q => by
            by_cases hq : q = 0
            · subst hq; rfl
            · unfold Addr.add; rw [if_neg hq]
          refine ⟨b, off, rfl, l0, fun i u hu => ?_⟩
          · rw [← e1] at hu
            have hil : i < k := by
              have := (List.getElem?_eq_some_iff.1 hu).1
              omega
            have := hat i hil
            rw [ea, ea] at this
            rw [this]; exact hu
        · exact ⟨default, fun h => absurd h hj⟩
      refine ⟨⟨some a, len, cap, fun j => Classical.choose (key j)⟩, rfl, hwl, hlc, hm, (fun h => by cases h), fun j hj => ?_⟩
      obtain ⟨g, b, off, rfl, r⟩ := Classical.choose_spec (key j) hj
      exact ⟨g, b, off, rfl, r⟩
  kept := fun w w' d hb h => ⟨h.1, h.2.1, h.2.2.1, h.2.2.2.1, fun j hj => by
    obtain ⟨g, b, off, ha, hl, hc⟩ := h.2.2.2.2 j hj
    exact ⟨R.kept w w' _ hb g, b, off, ha, Nat.lt_of_lt_of_le hl hb.size, fun i u hu => (hb.cell (p := ⟨b, off + j * k + i, none⟩) hl).trans (hc i u hu)⟩⟩

theorem ReadsW.arg {P : Program} {t : TypeId} {α : Type} {V : α → List Value} {F : World → α → Prop} (R : ReadsW P t V F) {H : Type} {enc : TypeId × Value → H} {w : World} {base : Nat} {spare : Nat → Bool} {held : Bool} {v : Value} {d : DataW H} {p : List MemPlace}
    (h : DataW.Trod enc P w base spare held t v d p) (hw : ∀ n ∈ d.weights P t, n ≤ reachBytes) : ∃ d, v.cells.toList = V d ∧ F w d := by
  obtain ⟨fuel, hf⟩ := h
  exact R.get H enc w base spare held fuel _ _ hf hw
theorem weights_at {H : Type} {P : Program} {ts : List TypeId} {ds : List (DataW H)} (h : (DataW.weightsEach P ts ds).all (· ≤ reachBytes) = true) {j : Nat} {t : TypeId} {d : DataW H} (ht : ts[j]? = some t) (hd : ds[j]? = some d) : ∀ n ∈ d.weights P t, n ≤ reachBytes := fun n hn => by
  have := List.all_eq_true.1 h n (DataW.weights_mem_each ht hd n hn)
  simpa using this
end Go.Proofs.Ytpalmpfkliepfaa

namespace Go.Proofs.Ytpalmpfkliepfaa
open Go.RowKit
set_option linter.unusedVariables false
set_option linter.unusedSimpArgs false
set_option maxRecDepth 100000
instance {α : Type} [Inhabited α] : Inhabited (Sl α) := ⟨⟨none, 0, 0, fun _ => default⟩⟩
theorem fInt_u8 {w : World} {n : Int} (h : fInt .u8 w n) : 0 ≤ n ∧ n < 256 := by
  simp [fInt, Lit.wf, IntKind.min, IntKind.max, IntKind.signed, IntKind.bits] at h; omega
theorem fInt_i64 {w : World} {n : Int} (h : fInt .i64 w n) : -9223372036854775808 ≤ n ∧ n < 9223372036854775808 := by
  simp [fInt, Lit.wf, IntKind.min, IntKind.max, IntKind.signed, IntKind.bits] at h; omega

abbrev MVal := (Int × Int × Unit)
def zMVal : MVal := ((0 : Int), (0 : Int), ())
def vMVal : MVal → List Value := (fun d => (vInt .u8) d.1 ++ (fun d => (vInt .u64) d.1 ++ (fun _ => []) d.2) d.2)
def fMVal : World → MVal → Prop := (fun w d => (fInt .u8) w d.1 ∧ (fun w d => (fInt .u64) w d.1 ∧ (fun _ _ => True) w d.2) w d.2)
theorem rdMVal : ReadsW Try.prog 65 vMVal fMVal := (readsW_struct Try.underlying65 (by kernel_rfl) (readsFsW_cons (o := 0) (c := 1) rfl (by kernel_rfl) (reads_int Try.underlying5).toW (readsFsW_cons (o := 1) (c := 1) rfl (by kernel_rfl) (reads_int Try.underlying63).toW (readsFsW_nil rfl))))
theorem oneMVal : ∀ x, ∀ u ∈ vMVal x, u.oneCell' = true := by
  intro x u hu
  have hu : u ∈ [(.int .u8 x.1), (.int .u64 x.2.1)] := hu
  simp only [List.mem_cons, List.not_mem_nil, or_false] at hu
  rcases hu with rfl | rfl <;> rfl

abbrev MOp := (Int × (Sl Int) × (Sl ByteArray) × (Sl MVal) × (Sl Int) × Unit)
def vMOp : MOp → List Value := (fun d => (vInt .i64) d.1 ++ (fun d => vSl d.1 ++ (fun d => vSl d.1 ++ (fun d => vSl d.1 ++ (fun d => vSl d.1 ++ (fun _ => []) d.2) d.2) d.2) d.2) d.2)
def fMOp : World → MOp → Prop := (fun w d => (fInt .i64) w d.1 ∧ (fun w d => (fSlW 1 8 (vInt .i64) (fInt .i64)) w d.1 ∧ (fun w d => (fSlW 1 16 vStr fStr) w d.1 ∧ (fun w d => (fSlW 2 16 vMVal fMVal) w d.1 ∧ (fun w d => (fSlW 1 1 (vInt .u8) (fInt .u8)) w d.1 ∧ (fun _ _ => True) w d.2) w d.2) w d.2) w d.2) w d.2)
theorem rdMOp : ReadsW Try.prog 45 vMOp fMOp := (readsW_struct Try.underlying45 (by kernel_rfl) (readsFsW_cons (o := 0) (c := 1) rfl (by kernel_rfl) (reads_int Try.underlying3).toW (readsFsW_cons (o := 1) (c := 1) rfl (by kernel_rfl) (readsW_slice Try.underlying41 (by kernel_rfl) (by kernel_rfl) (by decide) (reads_int Try.underlying3).toW) (readsFsW_cons (o := 2) (c := 1) rfl (by kernel_rfl) (readsW_slice Try.underlying32 (by kernel_rfl) (by kernel_rfl) (by decide) (reads_string Try.underlying9).toW) (readsFsW_cons (o := 3) (c := 1) rfl (by kernel_rfl) (readsW_slice Try.underlying42 (by kernel_rfl) (by kernel_rfl) (by decide) rdMVal) (readsFsW_cons (o := 4) (c := 1) rfl (by kernel_rfl) (readsW_slice Try.underlying43 (by kernel_rfl) (by kernel_rfl) (by decide) (reads_int Try.underlying5).toW) (readsFsW_nil rfl)))))))
end Go.Proofs.Ytpalmpfkliepfaa

namespace Go.Proofs.Ytpalmpfkliepfaa
open Go.RowKit Ut
set_option linter.unusedVariables false
set_option linter.unusedSimpArgs false
def nS (n : Nat) : ByteArray := strN (natB n)
def dS (n : Int) : ByteArray := strN (digB n)
theorem natB_byte (n : Nat) : ∀ c ∈ natB n, c < 256 := fun c hc => by have := natB_dig n c hc; omega
theorem digB_byte (n : Int) : ∀ c ∈ digB n, c < 256 := by
  intro c hc
  unfold digB at hc
  split at hc
  · rcases List.mem_cons.1 hc with rfl | hc
    · decide
    · exact natB_byte _ c hc
  · exact natB_byte _ c hc
theorem nS_len {n : Nat} (h : n < 18446744073709551616) : (nS n).size ≤ 20 := by unfold nS; rw [strN_size]; exact natB_len 20 n (by decide) (by omega)
theorem dS_len {n : Int} (h : inI n) : (dS n).size ≤ 20 := by unfold dS; rw [strN_size]; exact digB_len h
theorem strN_app (a b : List Nat) : strN (a ++ b) = strN a ++ strN b := by unfold strN; rw [List.map_append, strOfNums_app]
theorem nS_lt {n : Nat} (h : n < 10) : strOfNums [(48 : Int) + ((n : Nat) : Int)] = nS n := by unfold nS; rw [natB_lt h]; rfl
theorem nS_ge {n : Nat} (h : ¬ n < 10) : nS (n / 10) ++ strOfNums [(48 : Int) + (((n : Nat) : Int) % 10)] = nS n := by unfold nS; rw [natB_ge h, strN_app]; rfl
theorem dS_neg {n : Int} (h : n < 0) : (⟨#[45]⟩ : ByteArray) ++ nS n.natAbs = dS n := by unfold dS digB; rw [if_pos h]; exact (strN_app [45] _).symm
theorem dS_pos {n : Int} (h : ¬ n < 0) : nS n.natAbs = dS n := by unfold dS digB; rw [if_neg h]; rfl
theorem bl_dS (n : Int) : bl (dS n) = digB n := bl_strN _ (digB_byte n)
set_option maxHeartbeats 1000000 in
set_option maxRecDepth 100000 in
theorem natural_aux (n : Nat) (ih : ∀ m, m < n → ∀ w, m < 18446744073709551616 → Calls Try.prog 67 #[.int .u64 ((m : Nat) : Int)] w fun e w' => e = .returned (.string (nS m)) ∧ Below w.heap.size w w') (w : World) (h : n < 18446744073709551616) : Calls Try.prog 67 #[(.int .u64 ((n : Nat) : Int))] w fun e w' => e = .returned (.string (nS n)) ∧ Below w.heap.size w w' := by
  refine sx_enter (L := [(0, (.int .u64 ((n : Nat) : Int)))]) Try.func67 rfl rfl rfl rfl (fun fa hf => ?_)
  have hb : Below w.heap.size w w := Below.refl _ _
  refine wp_seq_k (fun K1 hK1 => ?_)
  refine wp_region_lit ?_
  refine sqv hf (r_assign rfl) rfl rfl rfl ?_; clear hf fa; intro fa hf
  apply wpList_nil
  (try simp only [Exit.then, Exit.inBlock, ↓reduceIte, Nat.reduceEqDiff])
  refine hK1 _ _ ?_
  refine wp_seq_k (fun K2 hK2 => ?_)
  refine wp_seq_k (fun K3 hK3 => ?_)
  refine wp_region_lit ?_
  refine sqv hf (r_move rfl) rfl rfl rfl ?_; clear hf fa; intro fa hf
  refine sqv hf (r_lt rfl rfl) rfl rfl rfl ?_; clear hf fa; intro fa hf
  apply wpList_nil
  (try simp only [Exit.then, Exit.inBlock, ↓reduceIte, Nat.reduceEqDiff])
  refine hK3 _ _ ?_
  refine wp_cond_split (t := (decide (((n : Nat) : Int) < (10 : Int)))) (hf.ev rfl) (fun hqt4_1 => ?_) (fun hqt4_1 => ?_)
  · have hqt4_1b := hqt4_1
    try simp only [decide_eq_true_eq, Bool.and_eq_true, Bool.or_eq_true, Bool.not_eq_true', decide_eq_false_iff_not, ne_eq, Bool.not_eq_true] at hqt4_1
    refine wp_seq_k (fun K4 hK4 => ?_)
    refine wp_region_lit ?_
    refine sqv hf (r_move rfl) rfl rfl rfl ?_; clear hf fa; intro fa hf
    refine sqv hf (r_add (C := ((48 : Int) + ((n : Nat) : Int))) rfl rfl (by rw [IntKind.wrap_u64]; omega)) rfl rfl rfl ?_; clear hf fa; intro fa hf
    refine sqv hf (r_conv (C := ((48 : Int) + ((n : Nat) : Int))) rfl Try.underlying63 Try.underlying5 (by rw [IntKind.wrap_u8]; omega)) rfl rfl rfl ?_; clear hf fa; intro fa hf
    refine sqdt hf (d_bslice (z := (.int .u8 (0 : Int))) (sz := 1) (vs := [(0, (.int .u8 ((48 : Int) + ((n : Nat) : Int))))]) (cs := #[(.int .u8 ((48 : Int) + ((n : Nat) : Int)))]) rfl Try.underlying43 (by kernel_rfl) rfl (by kernel_rfl)) rfl rfl rfl ?_; clear hf fa; rintro fa _ w1 ⟨b1, rfl, hle1, hk1, he1⟩ hf
    have hBb1 : w.heap.size ≤ b1 := Nat.le_trans hb.size hle1
    replace hb := hb.trans (Below.mono he1 hb.size)
    refine sqv hf (r_rowstr rfl Try.underlying43 Try.underlying5 Try.underlying9 (Row.of_new (k := 1) (V := vInt .u8) (l := [((48 : Int) + ((n : Nat) : Int))]) hk1 (Nat.le_refl _) rfl rfl (Nat.le_of_ble_eq_true rfl))) rfl rfl rfl ?_; clear hf fa; intro fa hf
    refine sqv hf (r_assign rfl) rfl rfl rfl ?_; clear hf fa; intro fa hf
    apply wpList_nil
    (try simp only [Exit.then, Exit.inBlock, ↓reduceIte, Nat.reduceEqDiff])
    refine hK4 _ _ ?_
    refine wp_ret ?_
    (try simp only [Exit.then, Exit.inBlock])
    refine ret1 hf rfl rfl ?_
    refine ⟨?_, hb⟩; rw [nS_lt (by omega)]
  · have hqt4_1b := hqt4_1
    replace hqt4_1 := Bool.eq_false_iff.1 hqt4_1
    try simp only [ne_eq, decide_eq_true_eq, Bool.and_eq_true, Bool.or_eq_true, Bool.not_eq_true', decide_eq_false_iff_not] at hqt4_1
    refine wp_skip ?_
    (try simp only [Exit.then, Exit.inBlock, ↓reduceIte, Nat.reduceEqDiff])
    refine hK2 _ _ ?_
    refine wp_seq_k (fun K5 hK5 => ?_)
    refine wp_region_un (fun wq => Below w.heap.size w wq) (fun w w' => Below w.heap.size w w')
      (fun V => [(fun x _ => x = (.int .u64 ((n : Nat) : Int))), (fun x _ => x = (.int .u64 (((n / 10) : Nat) : Int))), (fun x _ => x = (.string (nS ((n / 10))))), (fun x _ => x = (.int .u64 ((n : Nat) : Int))), (fun x _ => x = (.int .u64 (((n : Nat) : Int) % (10 : Int)))), (fun x _ => x = (.int .u64 ((48 : Int) + (((n : Nat) : Int) % (10 : Int))))), (fun x _ => x = (.int .u8 ((48 : Int) + (((n : Nat) : Int) % (10 : Int))))), (fun x wq => ∃ b, x = .slice (some ⟨b, 0, none⟩) 1 1 ∧ w.heap.size ≤ b ∧ wq.heap[b]? = some (.cells #[(.int .u8 ((48 : Int) + (((n : Nat) : Int) % (10 : Int))))] 5 (0, 0))), (fun x _ => x = (.string (strOfNums [((48 : Int) + (((n : Nat) : Int) % (10 : Int)))]))), (fun x _ => x = (.string ((nS ((n / 10))) ++ (strOfNums [((48 : Int) + (((n : Nat) : Int) % (10 : Int)))])))), (fun x _ => x = (.string ((nS ((n / 10))) ++ (strOfNums [((48 : Int) + (((n : Nat) : Int) % (10 : Int)))]))))])
      [7]
      [[], [0], [1], [], [3], [4], [5], [6], [7], [2, 8], [0, 1, 2, 3, 4, 5, 6, 7, 8, 9]]
      hf (by kernel_rfl) (by kernel_rfl) (fun _ => rfl) ((Below.refl _ _).drew) (fun a b h1 h2 => h1.trans (h2.mono h1.size)) (fun _ _ h => h.size) (fun V => ⟨kept_eq, kept_eq, kept_eq, kept_eq, kept_eq, kept_eq, kept_eq, keptB, kept_eq, kept_eq, kept_eq, trivial⟩) (fun _ _ _ _ _ => rfl) ?_ ?_
    · skip
      intro V
      refine ⟨fun wu0 hC hd => ?_, ?_⟩
      · clear hd
        replace hb := hb.trans (hC.mono hb.size)
        exact Runs.does (r_move rfl) ⟨Below.refl _ _, rfl, nofr rfl⟩
      refine ⟨fun wu1 hC hd => ?_, ?_⟩
      · obtain ⟨h0, _⟩ := hd
        skip
        replace h0 : V 0 = (.int .u64 ((n : Nat) : Int)) := h0
        replace hb := hb.trans (hC.mono hb.size)
        exact Runs.does (r_quo (C := (((n / 10) : Nat) : Int)) (congrArg some h0) rfl (by omega) (by rw [Int.tdiv_eq_ediv_of_nonneg (by omega), IntKind.wrap_u64]; omega)) ⟨Below.refl _ _, rfl, nofr rfl⟩
      refine ⟨fun wu2 hC hd => ?_, ?_⟩
      · obtain ⟨h1, _⟩ := hd
        skip
        replace h1 : V 1 = (.int .u64 (((n / 10) : Nat) : Int)) := h1
        replace hb := hb.trans (hC.mono hb.size)
        refine Does.mono (d_callB (vs := [(.int .u64 (((n / 10) : Nat) : Int))]) (show [some (V 1)] = [some (.int .u64 (((n / 10) : Nat) : Int))] from by rw [h1]) Try.func67 (by kernel_rfl) (by kernel_rfl) (ih ((n / 10)) (by omega) _ (by omega))) (fun _ _ h => ⟨h.2, h.1, nofr rfl⟩)
      refine ⟨fun wu3 hC hd => ?_, ?_⟩
      · clear hd
        replace hb := hb.trans (hC.mono hb.size)
        exact Runs.does (r_move rfl) ⟨Below.refl _ _, rfl, nofr rfl⟩
      refine ⟨fun wu4 hC hd => ?_, ?_⟩
      · obtain ⟨h3, _⟩ := hd
        skip
        replace h3 : V 3 = (.int .u64 ((n : Nat) : Int)) := h3
        replace hb := hb.trans (hC.mono hb.size)
        exact Runs.does (r_rem (C := (((n : Nat) : Int) % (10 : Int))) (congrArg some h3) rfl (by omega) (Int.tmod_eq_emod_of_nonneg (by omega))) ⟨Below.refl _ _, rfl, nofr rfl⟩
      refine ⟨fun wu5 hC hd => ?_, ?_⟩
      · obtain ⟨h4, _⟩ := hd
        skip
        replace h4 : V 4 = (.int .u64 (((n : Nat) : Int) % (10 : Int))) := h4
        replace hb := hb.trans (hC.mono hb.size)
        exact Runs.does (r_add (C := ((48 : Int) + (((n : Nat) : Int) % (10 : Int)))) rfl (congrArg some h4) (by rw [IntKind.wrap_u64]; omega)) ⟨Below.refl _ _, rfl, nofr rfl⟩
      refine ⟨fun wu6 hC hd => ?_, ?_⟩
      · obtain ⟨h5, _⟩ := hd
        skip
        replace h5 : V 5 = (.int .u64 ((48 : Int) + (((n : Nat) : Int) % (10 : Int)))) := h5
        replace hb := hb.trans (hC.mono hb.size)
        exact Runs.does (r_conv (C := ((48 : Int) + (((n : Nat) : Int) % (10 : Int)))) (congrArg some h5) Try.underlying63 Try.underlying5 (by rw [IntKind.wrap_u8]; omega)) ⟨Below.refl _ _, rfl, nofr rfl⟩
      refine ⟨fun wu7 hC hd => ?_, ?_⟩
      · obtain ⟨h6, _⟩ := hd
        skip
        replace h6 : V 6 = (.int .u8 ((48 : Int) + (((n : Nat) : Int) % (10 : Int)))) := h6
        replace hb := hb.trans (hC.mono hb.size)
        refine Does.mono (d_bslice (z := (.int .u8 (0 : Int))) (sz := 1) (vs := [(0, (.int .u8 ((48 : Int) + (((n : Nat) : Int) % (10 : Int)))))]) (cs := #[(.int .u8 ((48 : Int) + (((n : Nat) : Int) % (10 : Int))))]) (show [(0, some (V 6))] = [(0, some (.int .u8 ((48 : Int) + (((n : Nat) : Int) % (10 : Int)))))] from by rw [h6]) Try.underlying43 (by kernel_rfl) rfl (by kernel_rfl)) ?_
        rintro _ w' ⟨b, rfl, hF⟩
        exact ⟨hF.2.2, ⟨b, rfl, Nat.le_trans hC.size hF.1, hF.2.1⟩, isfr rfl hF.1 (blk_lt hF.2.1)⟩
      refine ⟨fun wu8 hC hd => ?_, ?_⟩
      · obtain ⟨h7, _⟩ := hd
        skip
        obtain ⟨b2, h7, hle2, hk2⟩ := h7
        replace hb := hb.trans (hC.mono hb.size)
        exact Runs.does (r_rowstr (congrArg some h7) Try.underlying43 Try.underlying5 Try.underlying9 (Row.of_new (k := 1) (V := vInt .u8) (l := [((48 : Int) + (((n : Nat) : Int) % (10 : Int)))]) hk2 (Nat.le_refl _) rfl rfl (Nat.le_of_ble_eq_true rfl))) ⟨Below.refl _ _, rfl, nofr rfl⟩
      refine ⟨fun wu9 hC hd => ?_, ?_⟩
      · obtain ⟨h2, h8, _⟩ := hd
        skip
        skip
        replace h2 : V 2 = (.string (nS ((n / 10)))) := h2
        replace h8 : V 8 = (.string (strOfNums [((48 : Int) + (((n : Nat) : Int) % (10 : Int)))])) := h8
        replace hb := hb.trans (hC.mono hb.size)
        exact Runs.does (r_sadd (congrArg some h2) (congrArg some h8) (by have := nS_len (n := ((n / 10))) (by omega); have := strOfNums_size [((48 : Int) + (((n : Nat) : Int) % (10 : Int)))]; (try simp only [List.length_cons, List.length_nil, List.length_append] at this); omega)) ⟨Below.refl _ _, rfl, nofr rfl⟩
      refine ⟨fun wu10 hC hd => ?_, ?_⟩
      · obtain ⟨h0, h1, h2, h3, h4, h5, h6, h7, h8, h9, _⟩ := hd
        skip
        skip
        skip
        skip
        skip
        skip
        skip
        skip
        skip
        skip
        replace h0 : V 0 = (.int .u64 ((n : Nat) : Int)) := h0
        replace h1 : V 1 = (.int .u64 (((n / 10) : Nat) : Int)) := h1
        replace h2 : V 2 = (.string (nS ((n / 10)))) := h2
        replace h3 : V 3 = (.int .u64 ((n : Nat) : Int)) := h3
        replace h4 : V 4 = (.int .u64 (((n : Nat) : Int) % (10 : Int))) := h4
        replace h5 : V 5 = (.int .u64 ((48 : Int) + (((n : Nat) : Int) % (10 : Int)))) := h5
        replace h6 : V 6 = (.int .u8 ((48 : Int) + (((n : Nat) : Int) % (10 : Int)))) := h6
        obtain ⟨b2, h7, hle2, hk2⟩ := h7
        replace h8 : V 8 = (.string (strOfNums [((48 : Int) + (((n : Nat) : Int) % (10 : Int)))])) := h8
        replace h9 : V 9 = (.string ((nS ((n / 10))) ++ (strOfNums [((48 : Int) + (((n : Nat) : Int) % (10 : Int)))]))) := h9
        replace hb := hb.trans (hC.mono hb.size)
        exact Runs.does (r_assign (congrArg some h9)) ⟨Below.refl _ _, rfl, nofr rfl⟩
      trivial
    · skip
      clear hf fa; intro V w2 fa he2 hp hnb hf
      have hv0 : V 0 = (.int .u64 ((n : Nat) : Int)) := postsHold_at hp 0 rfl
      have hv1 : V 1 = (.int .u64 (((n / 10) : Nat) : Int)) := postsHold_at hp 1 rfl
      have hv2 : V 2 = (.string (nS ((n / 10)))) := postsHold_at hp 2 rfl
      have hv3 : V 3 = (.int .u64 ((n : Nat) : Int)) := postsHold_at hp 3 rfl
      have hv4 : V 4 = (.int .u64 (((n : Nat) : Int) % (10 : Int))) := postsHold_at hp 4 rfl
      have hv5 : V 5 = (.int .u64 ((48 : Int) + (((n : Nat) : Int) % (10 : Int)))) := postsHold_at hp 5 rfl
      have hv6 : V 6 = (.int .u8 ((48 : Int) + (((n : Nat) : Int) % (10 : Int)))) := postsHold_at hp 6 rfl
      have hv7 := postsHold_at hp 7 rfl
      obtain ⟨b2, hv7, hle2, hk2⟩ := hv7
      have hBb2 : w.heap.size ≤ b2 := Nat.le_trans hb.size hle2
      have hv8 : V 8 = (.string (strOfNums [((48 : Int) + (((n : Nat) : Int) % (10 : Int)))])) := postsHold_at hp 8 rfl
      have hv9 : V 9 = (.string ((nS ((n / 10))) ++ (strOfNums [((48 : Int) + (((n : Nat) : Int) % (10 : Int)))]))) := postsHold_at hp 9 rfl
      have hv10 : V 10 = (.string ((nS ((n / 10))) ++ (strOfNums [((48 : Int) + (((n : Nat) : Int) % (10 : Int)))]))) := postsHold_at hp 10 rfl
      simp only [List.take_succ_cons, List.take_zero, insAll, ins, hv0, hv1, hv2, hv3, hv4, hv5, hv6, hv7, hv8, hv9, hv10] at hf
      clear hp hnb hv0 hv1 hv2 hv3 hv4 hv5 hv6 hv7 hv8 hv9 hv10
      replace hb := hb.trans (Below.mono he2 hb.size)
      (try simp only [Exit.then, Exit.inBlock, ↓reduceIte, Nat.reduceEqDiff])
      refine hK5 _ _ ?_
      refine wp_ret ?_
      (try simp only [Exit.then, Exit.inBlock])
      refine ret1 hf rfl rfl ?_
      refine ⟨?_, hb⟩; rw [nS_ge (by omega)]

theorem natural_any (n : Nat) : ∀ (w : World) (h : n < 18446744073709551616), Calls Try.prog 67 #[.int .u64 ((n : Nat) : Int)] w fun e w' => e = .returned (.string (nS n)) ∧ Below w.heap.size w w' := by
  induction n using Nat.strongRecOn with
  | _ n ih => exact fun w h => natural_aux n (fun m hm w h => ih m hm w h) w h

set_option maxHeartbeats 1000000 in
set_option maxRecDepth 100000 in
theorem digits_any (n : Int) (w : World) (h : inI n) : Calls Try.prog 31 #[(.int .i64 n)] w fun e w' => e = .returned (.string (dS n)) ∧ Below w.heap.size w w' := by
  unfold inI at h
  refine sx_enter (L := [(0, (.int .i64 n))]) Try.func31 rfl rfl rfl rfl (fun fa hf => ?_)
  have hb : Below w.heap.size w w := Below.refl _ _
  refine wp_seq_k (fun K1 hK1 => ?_)
  refine wp_region_lit ?_
  refine sqv hf (r_assign rfl) rfl rfl rfl ?_; clear hf fa; intro fa hf
  apply wpList_nil
  (try simp only [Exit.then, Exit.inBlock, ↓reduceIte, Nat.reduceEqDiff])
  refine hK1 _ _ ?_
  refine wp_seq_k (fun K2 hK2 => ?_)
  refine wp_seq_k (fun K3 hK3 => ?_)
  refine wp_region_lit ?_
  refine sqv hf (r_move rfl) rfl rfl rfl ?_; clear hf fa; intro fa hf
  refine sqv hf (r_lt rfl rfl) rfl rfl rfl ?_; clear hf fa; intro fa hf
  apply wpList_nil
  (try simp only [Exit.then, Exit.inBlock, ↓reduceIte, Nat.reduceEqDiff])
  refine hK3 _ _ ?_
  refine wp_cond_split (t := (decide (n < (0 : Int)))) (hf.ev rfl) (fun hqt4_1 => ?_) (fun hqt4_1 => ?_)
  · have hqt4_1b := hqt4_1
    try simp only [decide_eq_true_eq, Bool.and_eq_true, Bool.or_eq_true, Bool.not_eq_true', decide_eq_false_iff_not, ne_eq, Bool.not_eq_true] at hqt4_1
    refine wp_seq_k (fun K4 hK4 => ?_)
    refine wp_region_lit ?_
    refine sqv hf (r_move rfl) rfl rfl rfl ?_; clear hf fa; intro fa hf
    refine sqv hf (r_neg (C := (if n = -9223372036854775808 then n else -n)) rfl (by rw [IntKind.wrap_i64]; split <;> omega)) rfl rfl rfl ?_; clear hf fa; intro fa hf
    refine sqv hf (r_conv (C := ((n.natAbs : Nat) : Int)) rfl Try.underlying3 Try.underlying63 (by rw [IntKind.wrap_u64]; split <;> omega)) rfl rfl rfl ?_; clear hf fa; intro fa hf
    refine sqdt hf (d_callB (vs := [(.int .u64 ((n.natAbs : Nat) : Int))]) rfl Try.func67 (by kernel_rfl) (by kernel_rfl) (natural_any n.natAbs _ (by omega))) rfl rfl rfl ?_; clear hf fa; rintro fa _ w1 ⟨rfl, he1⟩ hf
    replace hb := hb.trans (Below.mono he1 hb.size)
    refine sqv hf (r_sadd rfl rfl (by have : ((⟨#[45]⟩) : ByteArray).size = 1 := rfl; have := nS_len (n := n.natAbs) (by omega); omega)) rfl rfl rfl ?_; clear hf fa; intro fa hf
    refine sqv hf (r_assign rfl) rfl rfl rfl ?_; clear hf fa; intro fa hf
    apply wpList_nil
    (try simp only [Exit.then, Exit.inBlock, ↓reduceIte, Nat.reduceEqDiff])
    refine hK4 _ _ ?_
    refine wp_ret ?_
    (try simp only [Exit.then, Exit.inBlock])
    refine ret1 hf rfl rfl ?_
    refine ⟨?_, hb⟩; rw [dS_neg (by omega)]
  · have hqt4_1b := hqt4_1
    replace hqt4_1 := Bool.eq_false_iff.1 hqt4_1
    try simp only [ne_eq, decide_eq_true_eq, Bool.and_eq_true, Bool.or_eq_true, Bool.not_eq_true', decide_eq_false_iff_not] at hqt4_1
    refine wp_skip ?_
    (try simp only [Exit.then, Exit.inBlock, ↓reduceIte, Nat.reduceEqDiff])
    refine hK2 _ _ ?_
    refine wp_seq_k (fun K5 hK5 => ?_)
    refine wp_region_lit ?_
    refine sqv hf (r_move rfl) rfl rfl rfl ?_; clear hf fa; intro fa hf
    refine sqv hf (r_conv (C := ((n.natAbs : Nat) : Int)) rfl Try.underlying3 Try.underlying63 (by rw [IntKind.wrap_u64]; omega)) rfl rfl rfl ?_; clear hf fa; intro fa hf
    refine sqdt hf (d_callB (vs := [(.int .u64 ((n.natAbs : Nat) : Int))]) rfl Try.func67 (by kernel_rfl) (by kernel_rfl) (natural_any n.natAbs _ (by omega))) rfl rfl rfl ?_; clear hf fa; rintro fa _ w2 ⟨rfl, he2⟩ hf
    replace hb := hb.trans (Below.mono he2 hb.size)
    refine sqv hf (r_assign rfl) rfl rfl rfl ?_; clear hf fa; intro fa hf
    apply wpList_nil
    (try simp only [Exit.then, Exit.inBlock, ↓reduceIte, Nat.reduceEqDiff])
    refine hK5 _ _ ?_
    refine wp_ret ?_
    (try simp only [Exit.then, Exit.inBlock])
    refine ret1 hf rfl rfl ?_
    refine ⟨?_, hb⟩; rw [dS_pos (by omega)]

set_option maxHeartbeats 1000000 in
set_option maxRecDepth 100000 in
theorem nibble_any (c : Nat) (h : c < 256) (w : World) : Calls Try.prog 66 #[(.int .u8 ((c : Nat) : Int))] w fun e w' => e = .returned (.int .i64 (nib c)) ∧ w = w' := by
  refine sx_enter (L := [(0, (.int .u8 ((c : Nat) : Int)))]) Try.func66 rfl rfl rfl rfl (fun fa hf => ?_)
  have hb : Below w.heap.size w w := Below.refl _ _
  refine wp_seq_k (fun K1 hK1 => ?_)
  refine wp_region_lit ?_
  refine sqv hf (r_assign rfl) rfl rfl rfl ?_; clear hf fa; intro fa hf
  apply wpList_nil
  (try simp only [Exit.then, Exit.inBlock, ↓reduceIte, Nat.reduceEqDiff])
  refine hK1 _ _ ?_
  refine wp_seq_k (fun K2 hK2 => ?_)
  refine wp_block ?_
  refine wp_seq_k (fun K3 hK3 => ?_)
  refine wp_region_lit ?_
  refine sqv hf (r_move rfl) rfl rfl rfl ?_; clear hf fa; intro fa hf
  refine sqv hf (r_ge rfl rfl) rfl rfl rfl ?_; clear hf fa; intro fa hf
  refine sqv hf (r_move rfl) rfl rfl rfl ?_; clear hf fa; intro fa hf
  refine sqgT (act := (decide ((48 : Int) ≤ ((c : Nat) : Int)))) (ag := true) (c := (decide ((48 : Int) ≤ ((c : Nat) : Int)))) (v := (.int .u8 ((c : Nat) : Int))) hf rfl rfl rfl (fun hact => (r_move rfl)) rfl rfl ?_; clear hf fa; intro fa hf
  refine sqgT (act := (decide ((48 : Int) ≤ ((c : Nat) : Int)))) (ag := true) (c := (decide ((48 : Int) ≤ ((c : Nat) : Int)))) (v := (.bool (decide (((c : Nat) : Int) ≤ (57 : Int))))) hf rfl rfl rfl (fun hact => (r_le (gb_ev hact rfl) rfl)) rfl rfl ?_; clear hf fa; intro fa hf
  refine sqv hf (r_pickA (b := (decide ((48 : Int) ≤ ((c : Nat) : Int)))) (e := (decide (((c : Nat) : Int) ≤ (57 : Int)))) rfl rfl rfl) rfl rfl rfl ?_; clear hf fa; intro fa hf
  refine sqv hf (r_assign rfl) rfl rfl rfl ?_; clear hf fa; intro fa hf
  apply wpList_nil
  (try simp only [Exit.then, Exit.inBlock, ↓reduceIte, Nat.reduceEqDiff])
  refine hK3 _ _ ?_
  refine wp_cond_split (t := ((decide ((48 : Int) ≤ ((c : Nat) : Int))) && (decide (((c : Nat) : Int) ≤ (57 : Int))))) (hf.ev rfl) (fun hqt3_1 => ?_) (fun hqt3_1 => ?_)
  · have hqt3_1b := hqt3_1
    try simp only [decide_eq_true_eq, Bool.and_eq_true, Bool.or_eq_true, Bool.not_eq_true', decide_eq_false_iff_not, ne_eq, Bool.not_eq_true] at hqt3_1
    refine wp_seq_k (fun K4 hK4 => ?_)
    refine wp_region_lit ?_
    refine sqv hf (r_move rfl) rfl rfl rfl ?_; clear hf fa; intro fa hf
    refine sqv hf (r_conv (C := ((c : Nat) : Int)) rfl Try.underlying5 Try.underlying3 (by rw [IntKind.wrap_i64]; omega)) rfl rfl rfl ?_; clear hf fa; intro fa hf
    refine sqv hf (r_sub (C := (((c : Nat) : Int) - (48 : Int))) rfl rfl (by rw [IntKind.wrap_i64]; omega)) rfl rfl rfl ?_; clear hf fa; intro fa hf
    refine sqv hf (r_assign rfl) rfl rfl rfl ?_; clear hf fa; intro fa hf
    apply wpList_nil
    (try simp only [Exit.then, Exit.inBlock, ↓reduceIte, Nat.reduceEqDiff])
    refine hK4 _ _ ?_
    refine wp_ret ?_
    (try simp only [Exit.then, Exit.inBlock])
    refine ret1 hf rfl rfl ?_
    refine ⟨?_, rfl⟩; congr 2; unfold nib; split <;> (try split) <;> omega
  · have hqt3_1b := hqt3_1
    replace hqt3_1 := Bool.eq_false_iff.1 hqt3_1
    try simp only [ne_eq, decide_eq_true_eq, Bool.and_eq_true, Bool.or_eq_true, Bool.not_eq_true', decide_eq_false_iff_not] at hqt3_1
    refine wp_seq_k (fun K5 hK5 => ?_)
    refine wp_region_lit ?_
    refine sqv hf (r_move rfl) rfl rfl rfl ?_; clear hf fa; intro fa hf
    refine sqv hf (r_ge rfl rfl) rfl rfl rfl ?_; clear hf fa; intro fa hf
    refine sqv hf (r_move rfl) rfl rfl rfl ?_; clear hf fa; intro fa hf
    refine sqgT (act := (decide ((97 : Int) ≤ ((c : Nat) : Int)))) (ag := true) (c := (decide ((97 : Int) ≤ ((c : Nat) : Int)))) (v := (.int .u8 ((c : Nat) : Int))) hf rfl rfl rfl (fun hact => (r_move rfl)) rfl rfl ?_; clear hf fa; intro fa hf
    refine sqgT (act := (decide ((97 : Int) ≤ ((c : Nat) : Int)))) (ag := true) (c := (decide ((97 : Int) ≤ ((c : Nat) : Int)))) (v := (.bool (decide (((c : Nat) : Int) ≤ (102 : Int))))) hf rfl rfl rfl (fun hact => (r_le (gb_ev hact rfl) rfl)) rfl rfl ?_; clear hf fa; intro fa hf
    refine sqv hf (r_pickA (b := (decide ((97 : Int) ≤ ((c : Nat) : Int)))) (e := (decide (((c : Nat) : Int) ≤ (102 : Int)))) rfl rfl rfl) rfl rfl rfl ?_; clear hf fa; intro fa hf
    refine sqv hf (r_assign rfl) rfl rfl rfl ?_; clear hf fa; intro fa hf
    apply wpList_nil
    (try simp only [Exit.then, Exit.inBlock, ↓reduceIte, Nat.reduceEqDiff])
    refine hK5 _ _ ?_
    refine wp_cond_split (t := ((decide ((97 : Int) ≤ ((c : Nat) : Int))) && (decide (((c : Nat) : Int) ≤ (102 : Int))))) (hf.ev rfl) (fun hqt13_1 => ?_) (fun hqt13_1 => ?_)
    · have hqt13_1b := hqt13_1
      try simp only [decide_eq_true_eq, Bool.and_eq_true, Bool.or_eq_true, Bool.not_eq_true', decide_eq_false_iff_not, ne_eq, Bool.not_eq_true] at hqt13_1
      refine wp_seq_k (fun K6 hK6 => ?_)
      refine wp_region_lit ?_
      refine sqv hf (r_move rfl) rfl rfl rfl ?_; clear hf fa; intro fa hf
      refine sqv hf (r_conv (C := ((c : Nat) : Int)) rfl Try.underlying5 Try.underlying3 (by rw [IntKind.wrap_i64]; omega)) rfl rfl rfl ?_; clear hf fa; intro fa hf
      refine sqv hf (r_sub (C := (((c : Nat) : Int) - (97 : Int))) rfl rfl (by rw [IntKind.wrap_i64]; omega)) rfl rfl rfl ?_; clear hf fa; intro fa hf
      refine sqv hf (r_add (C := ((((c : Nat) : Int) - (97 : Int)) + (10 : Int))) rfl rfl (by rw [IntKind.wrap_i64]; omega)) rfl rfl rfl ?_; clear hf fa; intro fa hf
      refine sqv hf (r_assign rfl) rfl rfl rfl ?_; clear hf fa; intro fa hf
      apply wpList_nil
      (try simp only [Exit.then, Exit.inBlock, ↓reduceIte, Nat.reduceEqDiff])
      refine hK6 _ _ ?_
      refine wp_ret ?_
      (try simp only [Exit.then, Exit.inBlock])
      refine ret1 hf rfl rfl ?_
      refine ⟨?_, rfl⟩; congr 2; unfold nib; split <;> (try split) <;> omega
    · have hqt13_1b := hqt13_1
      replace hqt13_1 := Bool.eq_false_iff.1 hqt13_1
      try simp only [ne_eq, decide_eq_true_eq, Bool.and_eq_true, Bool.or_eq_true, Bool.not_eq_true', decide_eq_false_iff_not] at hqt13_1
      refine wp_skip ?_
      (try simp only [Exit.then, Exit.inBlock, ↓reduceIte, Nat.reduceEqDiff])
      refine hK2 _ _ ?_
      refine wp_seq_k (fun K7 hK7 => ?_)
      refine wp_region_lit ?_
      refine sqv hf (r_assign rfl) rfl rfl rfl ?_; clear hf fa; intro fa hf
      apply wpList_nil
      (try simp only [Exit.then, Exit.inBlock, ↓reduceIte, Nat.reduceEqDiff])
      refine hK7 _ _ ?_
      refine wp_ret ?_
      (try simp only [Exit.then, Exit.inBlock])
      refine ret1 hf rfl rfl ?_
      refine ⟨?_, rfl⟩; congr 2; unfold nib; split <;> (try split) <;> omega
end Go.Proofs.Ytpalmpfkliepfaa

namespace Go.Proofs.Ytpalmpfkliepfaa
open Go.Shelf Go.RowKit Go.Lib
def sh_lays169_ren : Go.Shelf.Ren := ⟨fun | 169 => 69 | n => n, fun | 70 => 125 | 9 => 9 | 0 => 0 | 72 => 127 | 37 => 43 | 127 => 145 | 3 => 3 | 5 => 5 | n => n, fun | n => n⟩
theorem sh_lays169 : Go.Proofs.Lays.n169 Try.prog sh_lays169_ren := {
  mixed := by kernel_rfl
  f169 := Try.func69.trans (congrArg some (by kernel_rfl))
  t0 := Try.underlying0
  a0 := Try.isAgg0
  z0 := Try.sizeOf0
  v0 := Try.zeroValue0
  t3 := Try.underlying3
  a3 := Try.isAgg3
  z3 := Try.sizeOf3
  v3 := Try.zeroValue3
  t9 := Try.underlying9
  a9 := Try.isAgg9
  z9 := Try.sizeOf9
  v9 := Try.zeroValue9
  t37 := Try.underlying43
  a37 := Try.isAgg43
  z37 := Try.sizeOf43
  v37 := Try.zeroValue43
  t70 := Try.underlying125
  a70 := Try.isAgg125
  z70 := Try.sizeOf125
  v70 := Try.zeroValue125
  t72 := Try.underlying127
  a72 := Try.isAgg127
  z72 := Try.sizeOf127
  v72 := Try.zeroValue127
  t127 := Try.underlying145
  a127 := Try.isAgg145
  z127 := Try.sizeOf145
  v127 := Try.zeroValue145 }
theorem sh_Builder_Extra_169 : Builder.Extra Try.prog sh_lays169_ren := {
  sizeBuilder := by kernel_rfl
  liesBuilder := by kernel_rfl
  t5 := Try.underlying5
  a5 := Try.isAgg5
  z5 := Try.sizeOf5
  v5 := Try.zeroValue5
  infoByte := by kernel_rfl
  cellsByte := by kernel_rfl
  sizeByte := by kernel_rfl
  neB5 := by decide }
theorem sh_Builder_String_any (B b : Nat) (l : List UInt8) (w : World) (h : Lib.IsBuilder 127 5 B b (Lib.byteCells l) w) (hBw : B ≤ w.heap.size) :
    Calls Try.prog 69 #[.pointer (some ⟨b, 0, none⟩)] w fun e w' => e = .returned (.string ⟨l.toArray⟩) ∧ Below B w w' := Any.Builder_String_any sh_lays169 sh_Builder_Extra_169 B b l w h hBw
def sh_lays103_ren : Go.Shelf.Ren := ⟨fun | 103 => 63 | 210 => 88 | 206 => 103 | n => n, fun | 9 => 9 | 4 => 4 | 24 => 119 | 3 => 3 | n => n, fun | n => n⟩
theorem sh_lays103 : Go.Proofs.Lays.n103 Try.prog sh_lays103_ren := {
  mixed := by kernel_rfl
  f103 := Try.func63.trans (congrArg some (by kernel_rfl))
  f206 := Try.func103.trans (congrArg some (by kernel_rfl))
  f210 := Try.func88.trans (congrArg some (by kernel_rfl))
  t3 := Try.underlying3
  a3 := Try.isAgg3
  z3 := Try.sizeOf3
  v3 := Try.zeroValue3
  t4 := Try.underlying4
  a4 := Try.isAgg4
  z4 := Try.sizeOf4
  v4 := Try.zeroValue4
  t9 := Try.underlying9
  a9 := Try.isAgg9
  z9 := Try.sizeOf9
  v9 := Try.zeroValue9
  t24 := Try.underlying119
  a24 := Try.isAgg119
  z24 := Try.sizeOf119
  v24 := Try.zeroValue119 }
theorem sh_strings_CutPrefix (s p : ByteArray) (w : World) :
    Calls Try.prog 63 #[.string s, .string p] w fun e w' => e = .returned (.tuple #[.string ⟨(Lib.trimPrefix s.data.toList p.data.toList).toArray⟩, .bool (Lib.hasPrefix s.data.toList p.data.toList)]) ∧ w' = w := Any.strings_CutPrefix sh_lays103 s p w
def sh_lays219_ren : Go.Shelf.Ren := ⟨fun | 219 => 100 | 217 => 108 | 225 => 109 | 224 => 110 | 267 => 111 | 266 => 114 | 314 => 115 | n => n, fun | 9 => 9 | 3 => 3 | 4 => 4 | 5 => 5 | 46 => 124 | 146 => 164 | 51 => 31 | n => n, fun | 1 => 0 | n => n⟩
theorem sh_lays219 : Go.Proofs.Lays.n219 Try.prog sh_lays219_ren := {
  mixed := by kernel_rfl
  f217 := Try.func108.trans (congrArg some (by kernel_rfl))
  f219 := Try.func100.trans (congrArg some (by kernel_rfl))
  f224 := Try.func110.trans (congrArg some (by kernel_rfl))
  f225 := Try.func109.trans (congrArg some (by kernel_rfl))
  f266 := Try.func114.trans (congrArg some (by kernel_rfl))
  f267 := Try.func111.trans (congrArg some (by kernel_rfl))
  f314 := Try.func115.trans (congrArg some (by kernel_rfl))
  t3 := Try.underlying3
  a3 := Try.isAgg3
  z3 := Try.sizeOf3
  v3 := Try.zeroValue3
  t4 := Try.underlying4
  a4 := Try.isAgg4
  z4 := Try.sizeOf4
  v4 := Try.zeroValue4
  t5 := Try.underlying5
  a5 := Try.isAgg5
  z5 := Try.sizeOf5
  v5 := Try.zeroValue5
  t9 := Try.underlying9
  a9 := Try.isAgg9
  z9 := Try.sizeOf9
  v9 := Try.zeroValue9
  t46 := Try.underlying124
  a46 := Try.isAgg124
  z46 := Try.sizeOf124
  v46 := Try.zeroValue124
  t51 := Try.underlying31
  a51 := Try.isAgg31
  z51 := Try.sizeOf31
  v51 := Try.zeroValue31
  t146 := Try.underlying164
  a146 := Try.isAgg164
  z146 := Try.sizeOf164
  v146 := Try.zeroValue164
  g1 := by kernel_rfl }
theorem sh_stringslite_Index_one (s : ByteArray) (c : UInt8) (w : World) :
    Calls Try.prog 100 #[.string s, .string ⟨#[c]⟩] w fun e w' => e = .returned (.int .i64 (Lib.indexByte s.data.toList c)) ∧ w' = w := Any.stringslite_Index_one sh_lays219 s c w
def sh_lays144_ren : Go.Shelf.Ren := ⟨fun | 144 => 55 | 143 => 83 | 219 => 100 | 217 => 108 | 225 => 109 | 224 => 110 | 267 => 111 | 266 => 114 | 314 => 115 | n => n, fun | 9 => 9 | 4 => 4 | 3 => 3 | 5 => 5 | 46 => 124 | 146 => 164 | 51 => 31 | n => n, fun | 1 => 0 | n => n⟩
theorem sh_lays144 : Go.Proofs.Lays.n144 Try.prog sh_lays144_ren := {
  mixed := by kernel_rfl
  f143 := Try.func83.trans (congrArg some (by kernel_rfl))
  f144 := Try.func55.trans (congrArg some (by kernel_rfl))
  f217 := Try.func108.trans (congrArg some (by kernel_rfl))
  f219 := Try.func100.trans (congrArg some (by kernel_rfl))
  f224 := Try.func110.trans (congrArg some (by kernel_rfl))
  f225 := Try.func109.trans (congrArg some (by kernel_rfl))
  f266 := Try.func114.trans (congrArg some (by kernel_rfl))
  f267 := Try.func111.trans (congrArg some (by kernel_rfl))
  f314 := Try.func115.trans (congrArg some (by kernel_rfl))
  t3 := Try.underlying3
  a3 := Try.isAgg3
  z3 := Try.sizeOf3
  v3 := Try.zeroValue3
  t4 := Try.underlying4
  a4 := Try.isAgg4
  z4 := Try.sizeOf4
  v4 := Try.zeroValue4
  t5 := Try.underlying5
  a5 := Try.isAgg5
  z5 := Try.sizeOf5
  v5 := Try.zeroValue5
  t9 := Try.underlying9
  a9 := Try.isAgg9
  z9 := Try.sizeOf9
  v9 := Try.zeroValue9
  t46 := Try.underlying124
  a46 := Try.isAgg124
  z46 := Try.sizeOf124
  v46 := Try.zeroValue124
  t51 := Try.underlying31
  a51 := Try.isAgg31
  z51 := Try.sizeOf31
  v51 := Try.zeroValue31
  t146 := Try.underlying164
  a146 := Try.isAgg164
  z146 := Try.sizeOf164
  v146 := Try.zeroValue164
  g1 := by kernel_rfl }
theorem sh_strings_Contains_one (s : ByteArray) (c : UInt8) (w : World) :
    Calls Try.prog 55 #[.string s, .string ⟨#[c]⟩] w fun e w' => e = .returned (.bool (decide (0 ≤ Lib.indexByte s.data.toList c))) ∧ w' = w := Any.strings_Contains_one sh_lays144 s c w
def sh_lays138_ren : Go.Shelf.Ren := ⟨fun | 138 => 54 | 195 => 81 | 218 => 82 | 143 => 83 | 219 => 100 | 217 => 108 | 225 => 109 | 224 => 110 | 267 => 111 | 266 => 114 | 314 => 115 | n => n, fun | 9 => 9 | 3 => 3 | 4 => 4 | 5 => 5 | 0 => 0 | 46 => 124 | 146 => 164 | 51 => 31 | n => n, fun | 1 => 0 | n => n⟩
theorem sh_lays138 : Go.Proofs.Lays.n138 Try.prog sh_lays138_ren := {
  mixed := by kernel_rfl
  f138 := Try.func54.trans (congrArg some (by kernel_rfl))
  f143 := Try.func83.trans (congrArg some (by kernel_rfl))
  f195 := Try.func81.trans (congrArg some (by kernel_rfl))
  f217 := Try.func108.trans (congrArg some (by kernel_rfl))
  f218 := Try.func82.trans (congrArg some (by kernel_rfl))
  f219 := Try.func100.trans (congrArg some (by kernel_rfl))
  f224 := Try.func110.trans (congrArg some (by kernel_rfl))
  f225 := Try.func109.trans (congrArg some (by kernel_rfl))
  f266 := Try.func114.trans (congrArg some (by kernel_rfl))
  f267 := Try.func111.trans (congrArg some (by kernel_rfl))
  f314 := Try.func115.trans (congrArg some (by kernel_rfl))
  t0 := Try.underlying0
  a0 := Try.isAgg0
  z0 := Try.sizeOf0
  v0 := Try.zeroValue0
  t3 := Try.underlying3
  a3 := Try.isAgg3
  z3 := Try.sizeOf3
  v3 := Try.zeroValue3
  t4 := Try.underlying4
  a4 := Try.isAgg4
  z4 := Try.sizeOf4
  v4 := Try.zeroValue4
  t5 := Try.underlying5
  a5 := Try.isAgg5
  z5 := Try.sizeOf5
  v5 := Try.zeroValue5
  t9 := Try.underlying9
  a9 := Try.isAgg9
  z9 := Try.sizeOf9
  v9 := Try.zeroValue9
  t46 := Try.underlying124
  a46 := Try.isAgg124
  z46 := Try.sizeOf124
  v46 := Try.zeroValue124
  t51 := Try.underlying31
  a51 := Try.isAgg31
  z51 := Try.sizeOf31
  v51 := Try.zeroValue31
  t146 := Try.underlying164
  a146 := Try.isAgg164
  z146 := Try.sizeOf164
  v146 := Try.zeroValue164
  g1 := by kernel_rfl }
theorem sh_strings_Count_one (s : ByteArray) (c : UInt8) (w : World) :
    Calls Try.prog 54 #[.string s, .string ⟨#[c]⟩] w fun e w' => e = .returned (.int .i64 (Lib.countByte s.data.toList c)) ∧ w' = w := Any.strings_Count_one sh_lays138 s c w

end Go.Proofs.Ytpalmpfkliepfaa

namespace Go.Proofs.Ytpalmpfkliepfaa
open Go.RowKit Ut
set_option linter.unusedVariables false
set_option linter.unusedSimpArgs false

def hasP (s p : ByteArray) : Bool := Lib.hasPrefix s.data.toList p.data.toList
def cutS (s p : ByteArray) : ByteArray := ⟨(Lib.trimPrefix s.data.toList p.data.toList).toArray⟩
theorem toNat_inj8 {a b : UInt8} (h : a.toNat = b.toNat) : a = b := UInt8.toNat_inj.1 h
theorem isPrefixOf_map (a b : List UInt8) : (a.map UInt8.toNat).isPrefixOf (b.map UInt8.toNat) = a.isPrefixOf b := by
  induction a generalizing b with
  | nil => simp
  | cons x a ih =>
    cases b with
    | nil => simp
    | cons y b =>
      simp only [List.map_cons, List.isPrefixOf_cons_cons, ih]
      have : (x.toNat == y.toNat) = (x == y) := by
        by_cases h : x = y
        · subst h; simp
        · have h2 : x.toNat ≠ y.toNat := fun e => h (toNat_inj8 e)
          rw [beq_false_of_ne h, beq_false_of_ne h2]
      rw [this]
theorem hasP_bl (s p : ByteArray) : hasP s p = (bl p).isPrefixOf (bl s) := by unfold hasP Lib.hasPrefix bl; rw [isPrefixOf_map]
theorem cutS_bl (s p : ByteArray) : bl (cutS s p) = if hasP s p = true then (bl s).drop p.size else bl s := by
  unfold cutS hasP Lib.trimPrefix bl
  cases h : Lib.hasPrefix s.data.toList p.data.toList with
  | true => rw [if_pos rfl, if_pos rfl]; simp only; rw [List.map_drop, Array.length_toList]; rfl
  | false => simp
theorem cutS_len (s p : ByteArray) : (cutS s p).size ≤ s.size := by
  rw [← bl_length, ← bl_length, cutS_bl]
  split
  · rw [List.length_drop]; omega
  · omega
theorem hasP_one (s : ByteArray) (c : UInt8) : hasP s ⟨#[c]⟩ = decide ((bl s).head? = some c.toNat) := by
  rw [hasP_bl, show bl (⟨#[c]⟩ : ByteArray) = [c.toNat] from rfl]
  cases bl s with
  | nil => simp
  | cons x l =>
    simp [List.isPrefixOf]
    by_cases h : c.toNat = x
    · rw [h]; simp
    · rw [beq_false_of_ne h]; exact (decide_eq_false (fun e => h e.symm)).symm
theorem cutS_one (s : ByteArray) (c : UInt8) : bl (cutS s ⟨#[c]⟩) = if (bl s).head? = some c.toNat then (bl s).tail else bl s := by
  rw [cutS_bl, hasP_one]
  show (if _ then (bl s).drop 1 else _) = _
  rw [List.drop_one]; simp
theorem cutPrefix_any (s p : ByteArray) (w : World) : Calls Try.prog 63 #[.string s, .string p] w fun e w' => e = .returned (.tuple #[.string (cutS s p), .bool (hasP s p)]) ∧ w = w' :=
  (sh_strings_CutPrefix s p w).mono fun e w' h => ⟨h.1, h.2.symm⟩
def posB (s : ByteArray) (c : Nat) : Nat := (bl s).idxOf c
theorem posB_le (s : ByteArray) (c : Nat) : posB s c ≤ s.size := by unfold posB; rw [← bl_length]; exact List.idxOf_le_length
theorem indexByte_eq (l : List UInt8) (c : UInt8) : Lib.indexByte l c = if (l.map UInt8.toNat).idxOf c.toNat < l.length then (((l.map UInt8.toNat).idxOf c.toNat : Nat) : Int) else -1 := by
  induction l with
  | nil => rfl
  | cons b l ih =>
    rw [Lib.indexByte, ih, List.map_cons, List.idxOf_cons]
    by_cases h : b = c
    · subst h; simp
    · have h1 : (b == c) = false := by simp [h]
      have h2 : (b.toNat == c.toNat) = false := by simp; exact fun e => h (toNat_inj8 e)
      rw [h1, h2]
      simp only [cond_false, Bool.false_eq_true, if_false, List.length_cons]
      by_cases h3 : (l.map UInt8.toNat).idxOf c.toNat < l.length
      · rw [if_pos h3, if_pos (show (l.map UInt8.toNat).idxOf c.toNat + 1 < l.length + 1 by omega), if_neg (by simp)]; rfl
      · rw [if_neg h3, if_neg (show ¬ (l.map UInt8.toNat).idxOf c.toNat + 1 < l.length + 1 by omega)]; simp
theorem slindex_any (s : ByteArray) (c : UInt8) (w : World) : Calls Try.prog 100 #[.string s, .string ⟨#[c]⟩] w fun e w' => e = .returned (.int .i64 (if posB s c.toNat < s.size then ((posB s c.toNat : Nat) : Int) else -1)) ∧ w = w' :=
  (sh_stringslite_Index_one s c w).mono fun e w' h => ⟨by rw [h.1, indexByte_eq]; rfl, h.2.symm⟩
def cntB (s : ByteArray) (c : Nat) : Nat := (bl s).count c
theorem count_map (l : List UInt8) (c : UInt8) : l.count c = (l.map UInt8.toNat).count c.toNat := by
  induction l with
  | nil => rfl
  | cons b l ih =>
    rw [List.map_cons, List.count_cons, List.count_cons, ih]
    by_cases h : b = c
    · subst h; simp
    · have h1 : (b == c) = false := by simp [h]
      have h2 : (b.toNat == c.toNat) = false := by simp; exact fun e => h (toNat_inj8 e)
      rw [h1, h2]
theorem count_any (s : ByteArray) (c : UInt8) (w : World) : Calls Try.prog 54 #[.string s, .string ⟨#[c]⟩] w fun e w' => e = .returned (.int .i64 ((cntB s c.toNat : Nat) : Int)) ∧ w = w' :=
  (sh_strings_Count_one s c w).mono fun e w' h => ⟨by rw [h.1]; unfold Lib.countByte cntB bl; rw [count_map], h.2.symm⟩
end Go.Proofs.Ytpalmpfkliepfaa
