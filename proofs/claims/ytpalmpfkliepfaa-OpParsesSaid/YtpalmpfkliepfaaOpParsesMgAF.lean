/- What is proved here: rules for maps of the call's own whose keys are strings and whose elements are bools (sets). What is proved here: rules for functions that write one block of the old memory (a scanner), and for calls of them. What is proved here: rules for functions that write several blocks of the old memory, for function values, for parts of slices, for bytes of strings. What is proved here: what a call leaves alone: blocks of a type; blocks from a number on. What is proved here: a piece of a line, and one thing of a form, by the program. What is proved here: the reading of a line, by the program. What is proved here: the pieces of a line, by the document. -/
import Derived.Test.YtpalmpfkliepfaaOpParsesMgAB
import Derived.Maps.Own
import Derived.Maps.Views
import Derived.StringKeys
import Derived.Lib.ConvBytes
import Derived.Laws.Pointers
import Derived.Test.YtpalmpfkliepfaaOpParsesMgAE
namespace Go.Proofs.Ytpalmpfkliepfaa
open Go.RowKit
set_option linter.unusedVariables false
set_option linter.unusedSimpArgs false

/-- The operations that are done. -/
abbrev LS (listed : Array Bool) : Nat → Prop := fun k => listed[k]? = some true
def ad (i : Nat) (S : Nat → Prop) : Nat → Prop := fun k => k = i ∨ S k

/-- What stands of the operations in S. -/
structure UvS (all : (Nat → Prop) → List (Value → World → Prop)) (A : List Nat) (dl : List (List Nat)) (V : Nat → Value) (S : Nat → Prop) (w : World) : Prop where
  post : ∀ j, S j → ((all S).getD j (fun _ _ => True)) (V j) w
  down : ∀ j, S j → ∀ k, k ∈ dl.getD j [] → S k
  lt : ∀ i, A.contains i = true → S i → ∃ b, blkOf (V i) = some b ∧ b < w.heap.size
  ne : ∀ i j, A.contains i = true → A.contains j = true → i ≠ j → S i → S j → blkOf (V i) ≠ blkOf (V j)

def uvGoals (P : Program) (ops : Array Oper) (C : (Nat → Prop) → World → Prop) (all : (Nat → Prop) → List (Value → World → Prop)) (A : List Nat) (dl0 : List (List Nat)) (V : Nat → Value) :
    List Oper → List (List Nat) → Nat → Act → Prop
  | o :: os, d :: ds, i, a =>
    (∀ (S : Nat → Prop) w, C S w → UvS all A dl0 V S w → (∀ k, k ∈ d → S k) → ¬ S i → ∀ K : Act → World → Prop, (∀ v w', C (ad i S) w' → (∀ j, S j → ((all (ad i S)).getD j (fun _ _ => True)) (V j) w') → w.heap.size ≤ w'.heap.size → ((all (ad i S)).getD i (fun _ _ => True)) v w' → fr A i w v w' → K (a.put o.dst v) w') →
      if Region.wanted o (yielded ops a.tmps) = true then o.wp P a w K (fun _ _ _ => False) else K (a.put o.dst undef) w) ∧
    uvGoals P ops C all A dl0 V os ds (i + 1) (a.put o.dst (V i))
  | _, _, _, _ => True

structure UvInv (ops : Array Oper) (C : (Nat → Prop) → World → Prop) (posts : (Nat → Value) → (Nat → Prop) → List (Value → World → Prop)) (A : List Nat) (a0 : Act) (V : Nat → Value) (listed : Array Bool) (a : Act) (w : World) : Prop where
  size : listed.size = ops.size
  tmps : a.tmps.size = a0.tmps.size
  defers : a.defers = a0.defers
  c : C (LS listed) w
  got : ∀ (j : Nat) (o : Oper), ops[j]? = some o → listed[j]? = some true → ∀ t, o.dst = some t → a.tmps[t]? = some (V j)
  post : ∀ (j : Nat) (o : Oper), ops[j]? = some o → listed[j]? = some true → ((posts V (LS listed)).getD j (fun _ _ => True)) (V j) w
  same : ∀ t, (∀ (j : Nat) (o : Oper), ops[j]? = some o → listed[j]? = some true → o.dst ≠ some t) → a.tmps[t]? = a0.tmps[t]?
  down : ∀ (j : Nat) (o : Oper), ops[j]? = some o → listed[j]? = some true → ∀ k, pre o k = true → listed[k]? = some true
  frA : ∀ i, A.contains i = true → listed[i]? = some true → ∃ b, blkOf (V i) = some b ∧ b < w.heap.size
  neA : ∀ i j, A.contains i = true → A.contains j = true → i ≠ j → listed[i]? = some true → listed[j]? = some true → blkOf (V i) ≠ blkOf (V j)

section
variable {P : Program} {ops : Array Oper} {C : (Nat → Prop) → World → Prop} {posts : (Nat → Value) → (Nat → Prop) → List (Value → World → Prop)} {A : List Nat} {dl : List (List Nat)} {N T : Nat} {a0 : Act}

/-- As the elder law's. -/
theorem UvInv.old {V : Nat → Value} {listed : Array Bool} {a : Act} {w : World} (hI : UvInv ops C posts A a0 V listed a w) : UgInv ops (fun _ => True) (fun _ => []) A a0 V listed a w :=
  ⟨hI.size, hI.tmps, hI.defers, trivial, hI.got, fun _ _ _ _ => by simp, hI.same, hI.down, hI.frA, hI.neA⟩

theorem uvGoals_at {V : Nat → Value} {dl0 : List (List Nat)} : ∀ (os : List Oper) (ds : List (List Nat)) (k : Nat) (a : Act), uvGoals P ops C (posts V) A dl0 V os ds k a →
    ∀ (m : Nat) (o : Oper) (d : List Nat), os[m]? = some o → ds[m]? = some d →
    ∀ (S : Nat → Prop) w, C S w → UvS (posts V) A dl0 V S w → (∀ k, k ∈ d → S k) → ¬ S (k + m) → ∀ K : Act → World → Prop, (∀ v w', C (ad (k + m) S) w' → (∀ j, S j → ((posts V (ad (k + m) S)).getD j (fun _ _ => True)) (V j) w') → w.heap.size ≤ w'.heap.size → ((posts V (ad (k + m) S)).getD (k + m) (fun _ _ => True)) v w' → fr A (k + m) w v w' → K ((putAll (os.take m) V k a).put o.dst v) w') →
      if Region.wanted o (yielded ops (putAll (os.take m) V k a).tmps) = true then o.wp P (putAll (os.take m) V k a) w K (fun _ _ _ => False) else K ((putAll (os.take m) V k a).put o.dst undef) w
  | [], _, _, _, _, m, o, d, h, _ => by simp at h
  | _ :: _, [], _, _, _, m, o, d, _, h => by simp at h
  | o1 :: os, d1 :: ds, k, a, hg, 0, o, d, h1, h3 => by
    simp at h1 h3; subst h1 h3
    exact hg.1
  | o1 :: os, d1 :: ds, k, a, hg, m + 1, o, d, h1, h3 => by
    rw [show k + (m + 1) = k + 1 + m from by omega]
    exact uvGoals_at os ds (k + 1) _ hg.2 m o d (by simpa using h1) (by simpa using h3)

theorem uv_walk_tail {Q : Exit → Act → World → Prop} (hN : a0.tmps.size = N) (hok : ∀ i o, ops[i]? = some o → RgOk ops dl N i o) (hdl : dl.length = ops.size) (hpl : ∀ V S, (posts V S).length = T) (hT : T < ops.size)
    (hs : Region.sinkB .any ops T = true) (hc : Region.chainB .any ops T = true) (hseq : Region.seqB .any ops (ops.size - T) T ((Array.range ops.size).map (fun i => decide (i < T))) = true)
    (hPc : ∀ V S i v j, i ∉ dl.getD j [] → (posts (fun k => if k = i then v else V k) S).getD j (fun _ _ => True) = (posts V S).getD j (fun _ _ => True)) (hgoals : ∀ V, uvGoals P ops C (posts V) A dl V (ops.toList.take T) dl 0 a0)
    (hQ : ∀ V S w, (∀ j, j < (posts V S).length → S j) → C S w → postsHold V w (posts V S) 0 → (∀ i j, i < (posts V S).length → j < (posts V S).length → A.contains i = true → A.contains j = true → i ≠ j → blkOf (V i) ≠ blkOf (V j)) → wpList P ops Q (ops.toList.drop T) (putAll (ops.toList.take T) V 0 a0) w) :
    ∀ (fuel : Nat) (listed : Array Bool) (a : Act) (w : World) (V : Nat → Value), (List.range T).countP (fun i => listed[i]? != some true) = fuel → HeadInv .any ops T listed → UvInv ops C posts A a0 V listed a w → wpAny P .any ops Q (fuel + (ops.size - T)) listed a w := by
  -- what stands when the head is listed
  have fin : ∀ (listed : Array Bool) (a : Act) (w : World) (V : Nat → Value), HeadInv .any ops T listed → UvInv ops C posts A a0 V listed a w → (∀ i, i < T → listed[i]? = some true) → wpAny P .any ops Q (0 + (ops.size - T)) listed a w := by
    intro listed a w V inv hI hall
    have hnone : ∀ j, T ≤ j → listed[j]? ≠ some true := by
      intro j hj h
      by_cases hjs : j < ops.size
      · have h1 := inv.tail j hj hjs
        rw [Array.getD_eq_getD_getElem?, h] at h1
        cases h1
      · have hsz := inv.size
        rw [Array.getElem?_eq_none (by omega)] at h
        cases h
    have hmem : ∀ m o, (ops.toList.take T)[m]? = some o → m < T ∧ ops[m]? = some o := by
      intro m o hm
      rw [List.getElem?_take] at hm
      split at hm
      · exact ⟨by assumption, by simpa using hm⟩
      · cases hm
    have ha : a = putAll (ops.toList.take T) V 0 a0 := by
      have h1 : a.tmps = (putAll (ops.toList.take T) V 0 a0).tmps := by
        apply Array.ext_getElem?
        intro t
        by_cases hex : ∃ (j : Nat) (oj : Oper), ops[j]? = some oj ∧ oj.dst = some t ∧ j < T
        · obtain ⟨j, oj, hj, hjd, hjT⟩ := hex
          rw [hI.got j oj hj (hall j hjT) t hjd]
          rw [putAll_get_some V _ 0 a0 j oj (by rw [List.getElem?_take, if_pos hjT]; simpa using hj) hjd (by rw [hN]; exact (hok _ _ hj).dst t hjd)
            (fun m' o' hm' hne hd' => (hok _ _ hj).one m' o' (hmem m' o' hm').2 hne t hd' hjd)]
          simp
        · rw [hI.same t (fun j' o' hj' hl' hd' => hex ⟨j', o', hj', hd', by
            rcases Nat.lt_or_ge j' T with h | h
            · exact h
            · exact absurd hl' (hnone j' h)⟩), putAll_get_none V _ 0 a0 (fun m o' hm hd' => hex ⟨m, o', (hmem m o' hm).2, hd', (hmem m o' hm).1⟩)]
      have h2 : a.defers = (putAll (ops.toList.take T) V 0 a0).defers := hI.defers.trans (putAll_defers V _ _ _).symm
      cases a; simp only at h1 h2; subst h1 h2; rfl
    have hq := hQ V (LS listed) w (fun j hj => hall j (by have := hpl V (LS listed); omega)) hI.c (postsHold_of (posts V (LS listed)) 0 (fun j p hj => by
      have hlt : j < T := by rw [← hpl V (LS listed)]; exact (List.getElem?_eq_some_iff.1 hj).1
      have := hI.post j ops[j] (Array.getElem?_eq_getElem (by omega)) (hall j hlt)
      rw [Nat.zero_add]
      simpa [List.getD_eq_getElem?_getD, hj] using this)) (fun i j hi hj h1 h2 hne => hI.neA i j h1 h2 hne (hall i (by have := hpl V (LS listed); omega)) (hall j (by have := hpl V (LS listed); omega)))
    rw [ha]
    have hdl2 : (ops.toList.drop T).length = ops.size - T := by simp
    have hall2 := headInv_all inv hall (by omega)
    have := wpAny_of_seq (md := .any) (Q' := Q) (ops.toList.drop T) T listed _ w (fun j => by simp [List.getElem?_drop]) (by rw [hdl2, hall2]; exact hseq) hq
    rw [hdl2] at this
    rw [Nat.zero_add]
    exact this
  intro fuel
  induction fuel with
  | zero =>
    intro listed a w V hc0 inv hI
    refine fin listed a w V inv hI (fun i hi => ?_)
    rw [List.countP_eq_zero] at hc0
    simpa using hc0 i (by simpa using hi)
  | succ fuel ih =>
    intro listed a w V hc0 inv hI
    obtain ⟨i0, hi0, hun0⟩ : ∃ i0, i0 < T ∧ listed.getD i0 true = false := by
      have hpos : 0 < (List.range T).countP (fun i => listed[i]? != some true) := by omega
      rw [List.countP_pos_iff] at hpos
      obtain ⟨i0, h1, h2⟩ := hpos
      have h1 : i0 < T := by simpa using h1
      refine ⟨i0, h1, ?_⟩
      rw [Array.getD_eq_getD_getElem?]
      rw [Array.getElem?_eq_getElem (by rw [hI.size]; omega)] at h2 ⊢
      simpa using h2
    have hready := tail_waits hs hc hT inv _ i0 rfl hi0 hun0
    rw [show fuel + 1 + (ops.size - T) = (fuel + (ops.size - T)) + 1 by omega]
    refine ⟨fun hr => ?_, fun i hi => ?_⟩
    · exfalso
      have done : ∀ i, i < ops.size → listed[i]? = some true := by
        intro i
        induction i using Nat.strongRecOn with
        | ind i ih =>
          intro hi
          by_cases h : listed[i]? = some true
          · exact h
          exfalso
          have hmem : i ∈ Region.ready .any ops listed := by
            unfold Region.ready
            rw [List.mem_filter]
            refine ⟨by simpa using hi, ?_⟩
            have hl : listed.getD i true = false := by
              rw [Array.getD_eq_getD_getElem?]
              rw [Array.getElem?_eq_getElem (by rw [hI.size]; omega)] at h ⊢
              simpa using h
            rw [hl, Array.getElem?_eq_getElem hi]
            simp only [Bool.not_false, Bool.true_and, Option.map_some, Option.getD_some]
            rw [Array.all_eq_true']
            intro e he
            by_cases hb : Region.binds .any e = true
            · have hp := pre_spec he hb
              have hlt := (hok _ _ (Array.getElem?_eq_getElem hi)).lt e.on hp
              rw [Array.getD_eq_getD_getElem?, ih e.on hlt (by omega)]
              simp
            · simp [hb]
          rw [hr] at hmem
          exact absurd hmem (by simp)
      have h1 := inv.tail T (Nat.le_refl _) hT
      rw [Array.getD_eq_getD_getElem?, done T hT] at h1
      cases h1
    have hiT : i < T := by
      rcases Nat.lt_or_ge i T with h | h
      · exact h
      · exact absurd hi (hready i h)
    have inv' := inv.set hi hiT
    unfold Region.ready at hi
    rw [List.mem_filter] at hi
    obtain ⟨hir, hi2⟩ := hi
    have hir : i < ops.size := by simpa using hir
    rw [Bool.and_eq_true] at hi2
    obtain ⟨hnl, haft⟩ := hi2
    have hnl' : listed[i]? = some false := by
      rw [Array.getD_eq_getD_getElem?, Array.getElem?_eq_getElem (by rw [hI.size]; exact hir)] at hnl
      rw [Array.getElem?_eq_getElem (by rw [hI.size]; exact hir)]
      simpa using hnl
    have ho : ops[i]? = some ops[i] := Array.getElem?_eq_getElem hir
    have hpre : ∀ k, pre ops[i] k = true → listed[k]? = some true := by
      intro k hk
      obtain ⟨e, he, rfl, hb⟩ := pre_mem hk
      rw [ho, Option.map_some, Option.getD_some, Array.all_eq_true'] at haft
      have := haft e he
      simp only [hb, Bool.not_true, Bool.false_or, Array.getD_eq_getD_getElem?] at this
      have hlt := (hok _ _ ho).lt e.on hk
      rw [Array.getElem?_eq_getElem (by rw [hI.size]; omega)] at this ⊢
      simpa using this
    have hilt : i < listed.size := by rw [hI.size]; exact hir
    -- the step
    have hd : dl[i]? = some (dl.getD i []) := by
      have : i < dl.length := by omega
      simp [this]
    have hin : ∀ j, LS listed j → j < ops.size := fun j hj => by have h := (Array.getElem?_eq_some_iff.1 hj).1; rw [hI.size] at h; exact h
    have hLS : LS (listed.setIfInBounds i true) = ad i (LS listed) := funext fun k => propext (Array.get?_setTrue hilt)
    have hlook := hI.old.looks hN hok ho (by rw [hnl']; simp) hpre
    have hgo := uvGoals_at (ops.toList.take T) dl 0 a0 (hgoals V) i ops[i] _ (by rw [List.getElem?_take, if_pos hiT]; simp) hd (LS listed) w hI.c
      ⟨fun j hj => hI.post j _ (Array.getElem?_eq_getElem (hin j hj)) hj, fun j hj k hk => hI.down j _ (Array.getElem?_eq_getElem (hin j hj)) hj k ((hok j _ (Array.getElem?_eq_getElem (hin j hj))).dl k hk), fun i ha hs => hI.frA i ha hs, fun i j h1 h2 h3 h4 h5 => hI.neA i j h1 h2 h3 h4 h5⟩
      (fun j hj => hpre j ((hok _ _ ho).dl j hj)) (by rw [Nat.zero_add]; intro h; rw [LS, hnl'] at h; cases h)
    rw [Nat.zero_add] at hgo
    rw [List.take_take, Nat.min_eq_left (Nat.le_of_lt hiT)] at hgo
    -- the invariant behind it
    have hnext : ∀ v w', (C (ad i (LS listed)) w' ∧ (∀ j, LS listed j → ((posts V (ad i (LS listed))).getD j (fun _ _ => True)) (V j) w') ∧ w.heap.size ≤ w'.heap.size ∧ fr A i w v w') → ((posts V (ad i (LS listed))).getD i (fun _ _ => True)) v w' → wpAny P .any ops Q (fuel + (ops.size - T)) (listed.setIfInBounds i true) (a.put ops[i].dst v) w' := by
      rintro v w' ⟨hc', hkeep, hsz, hfr⟩ hpv
      refine ih _ _ _ (fun k => if k = i then v else V k) ?_ inv' ?_
      · have hlt : (List.range T).countP (fun k => (listed.setIfInBounds i true)[k]? != some true) + 1 = (List.range T).countP (fun k => listed[k]? != some true) := by
          rw [List.countP_eq_length_filter, List.countP_eq_length_filter]
          have hsub : (List.range T).filter (fun k => (listed.setIfInBounds i true)[k]? != some true) = ((List.range T).filter (fun k => listed[k]? != some true)).erase i := by
            rw [(List.Nodup.sublist List.filter_sublist List.nodup_range).erase_eq_filter, List.filter_filter]
            apply List.filter_congr
            intro k hk
            by_cases e : k = i
            · subst e; simp [hilt]
            · rw [Array.getElem?_setIfInBounds_ne (Ne.symm e)]; simp [e]
          rw [hsub, List.length_erase_of_mem (by rw [List.mem_filter]; exact ⟨by simpa using hiT, by rw [hnl']; rfl⟩)]
          have : 0 < ((List.range T).filter (fun k => listed[k]? != some true)).length :=
            List.length_pos_of_mem (a := i) (by rw [List.mem_filter]; exact ⟨by simpa using hiT, by rw [hnl']; rfl⟩)
          omega
        omega
      · refine ⟨by simp [hI.size], by rw [put_size, hI.tmps], by rw [put_defers, hI.defers], (by rw [hLS]; exact hc'), ?_, ?_, ?_, ?_, ?_, ?_⟩
        · intro j o hj hl t ht
          rcases (Array.get?_setTrue hilt).1 hl with rfl | hl2
          · rw [ho] at hj; cases hj
            simp only [if_true]
            rw [ht]; exact put_get (by rw [hI.tmps, hN]; exact (hok _ _ ho).dst t ht)
          · have hji : j ≠ i := fun e => by rw [e, hnl'] at hl2; cases hl2
            rw [if_neg hji, put_get_ne ((hok _ _ ho).one j o hj hji t ht)]
            exact hI.got j o hj hl2 t ht
        · intro j o hj hl
          rcases (Array.get?_setTrue hilt).1 hl with rfl | hl2
          · rw [hLS, hPc V _ _ v _ (fun hm => by
              have h1 := hpre _ ((hok _ _ ho).dl _ hm)
              rw [hnl'] at h1; cases h1)]
            simp only [if_true]; exact hpv
          · have hji : j ≠ i := fun e => by rw [e, hnl'] at hl2; cases hl2
            rw [hLS, hPc V _ _ v _ (fun hm => by
              have h1 := hI.down j o hj hl2 _ ((hok _ _ hj).dl _ hm)
              rw [hnl'] at h1; cases h1)]
            simp only [if_neg hji]
            exact hkeep j hl2
        · intro t ht
          rw [put_get_ne (ht i _ ho ((Array.get?_setTrue hilt).2 (.inl rfl)))]
          exact hI.same t (fun j o hj hl => ht j o hj ((Array.get?_setTrue hilt).2 (.inr hl)))
        · intro j o hj hl k hk
          rw [Array.get?_setTrue hilt]
          rcases (Array.get?_setTrue hilt).1 hl with rfl | hl2
          · rw [ho] at hj; cases hj
            exact .inr (hpre k hk)
          · exact .inr (hI.down j o hj hl2 k hk)
        · intro j hj hl
          rcases (Array.get?_setTrue hilt).1 hl with rfl | hl2
          · simp only [if_true]
            obtain ⟨b, h1, _, h3⟩ := hfr hj
            exact ⟨b, h1, h3⟩
          · have hji : j ≠ i := fun e => by rw [e, hnl'] at hl2; cases hl2
            simp only [if_neg hji]
            obtain ⟨b, h1, h2⟩ := hI.frA j hj hl2
            exact ⟨b, h1, Nat.lt_of_lt_of_le h2 hsz⟩
        · intro j j2 hj hj2 hne hl hl2
          rcases (Array.get?_setTrue hilt).1 hl with rfl | hl3
          · rcases (Array.get?_setTrue hilt).1 hl2 with rfl | hl4
            · exact absurd rfl hne
            · simp only [if_true, if_neg (Ne.symm hne)]
              obtain ⟨b, h1, h2, _⟩ := hfr hj
              obtain ⟨b2, h3, h4⟩ := hI.frA j2 hj2 hl4
              rw [h1, h3]; intro e; cases e; omega
          · have hji : j ≠ i := fun e => by rw [e, hnl'] at hl3; cases hl3
            rcases (Array.get?_setTrue hilt).1 hl2 with rfl | hl4
            · simp only [if_true, if_neg hji]
              obtain ⟨b, h1, h2, _⟩ := hfr hj2
              obtain ⟨b2, h3, h4⟩ := hI.frA j hj hl3
              rw [h1, h3]; intro e; cases e; omega
            · have hji2 : j2 ≠ i := fun e => by rw [e, hnl'] at hl4; cases hl4
              simp only [if_neg hji, if_neg hji2]
              exact hI.neA j j2 hj hj2 hne hl3 hl4
    unfold wpOp
    rw [ho]
    show if Region.wanted ops[i] (yielded ops a.tmps) = true then _ else _
    have hsel := (hok _ _ ho).sel
    have hEx : execOp a.eval ops[i] = execOp (putAll (ops.toList.take i) V 0 a0).eval ops[i] :=
      execOp_congr ops[i] hsel (fun x hx => eval_congr_get (fun t ht => hlook t (by
        subst ht
        exact List.mem_append_left _ (List.mem_filterMap.2 ⟨.tmp t, by simpa using hx, rfl⟩))))
    rw [yielded_congr hlook]
    split
    · rename_i hw
      left
      have hgo := hgo (fun b w' => ∃ v, b = (putAll (ops.toList.take i) V 0 a0).put ops[i].dst v ∧ (C (ad i (LS listed)) w' ∧ (∀ j, LS listed j → ((posts V (ad i (LS listed))).getD j (fun _ _ => True)) (V j) w') ∧ w.heap.size ≤ w'.heap.size ∧ fr A i w v w') ∧ ((posts V (ad i (LS listed))).getD i (fun _ _ => True)) v w') (fun v w' h0 h1 h2 h3 h4 => ⟨v, rfl, ⟨h0, h1, h2, h4⟩, h3⟩)
      rw [if_pos hw] at hgo
      exact wp_carry (R := fun v w' => (C (ad i (LS listed)) w' ∧ (∀ j, LS listed j → ((posts V (ad i (LS listed))).getD j (fun _ _ => True)) (V j) w') ∧ w.heap.size ≤ w'.heap.size ∧ fr A i w v w') ∧ ((posts V (ad i (LS listed))).getD i (fun _ _ => True)) v w') hEx (by rw [hI.tmps, putAll_size]) hgo (fun v w' ⟨h1, h2⟩ => hnext v w' h1 h2)
    · rename_i hw
      have hgo := hgo (fun b w' => ∃ v, b = (putAll (ops.toList.take i) V 0 a0).put ops[i].dst v ∧ (C (ad i (LS listed)) w' ∧ (∀ j, LS listed j → ((posts V (ad i (LS listed))).getD j (fun _ _ => True)) (V j) w') ∧ w.heap.size ≤ w'.heap.size ∧ fr A i w v w') ∧ ((posts V (ad i (LS listed))).getD i (fun _ _ => True)) v w')
        (fun v w' h0 h1 h2 h3 h4 => ⟨v, rfl, ⟨h0, h1, h2, h4⟩, h3⟩)
      rw [if_neg hw] at hgo
      obtain ⟨v, h1, h2, h3⟩ := hgo
      have e : a.put ops[i].dst undef = a.put ops[i].dst v := by
        cases hd : ops[i].dst with
        | none => rfl
        | some d =>
          rw [hd] at h1
          have hlt : d < (putAll (ops.toList.take i) V 0 a0).tmps.size := by rw [putAll_size, hN]; exact (hok _ _ ho).dst d hd
          have := congrArg (fun x : Act => x.tmps[d]?) h1
          simp only [put_get hlt] at this
          rw [Option.some.inj this]
      rw [e]
      exact hnext v w h2 h3

theorem wp_region_uv_tail {id : Nat} {Q : Exit → Act → World → Prop} {w0 : World} (T : Nat) (C : (Nat → Prop) → World → Prop) (posts : (Nat → Value) → (Nat → Prop) → List (Value → World → Prop)) (A : List Nat) (dl : List (List Nat)) (N : Nat)
    (hm : P.follows .mixedOrders = true) (hN : a0.tmps.size = N)
    (hchk : (rgCheck ops dl N && decide (T < ops.size) && Region.sinkB .any ops T && Region.chainB .any ops T && Region.seqB .any ops (ops.size - T) T ((Array.range ops.size).map (fun i => decide (i < T)))) = true) (hpl : ∀ V S, (posts V S).length = T)
    (hC0 : ∀ S : Nat → Prop, (∀ k, ¬ S k) → C S w0.drew) (hPc : ∀ V S i v j, i ∉ dl.getD j [] → (posts (fun k => if k = i then v else V k) S).getD j (fun _ _ => True) = (posts V S).getD j (fun _ _ => True)) (hgoals : ∀ V, uvGoals P ops C (posts V) A dl V (ops.toList.take T) dl 0 a0)
    (hQ : ∀ V S w, (∀ j, j < (posts V S).length → S j) → C S w → postsHold V w (posts V S) 0 → (∀ i j, i < (posts V S).length → j < (posts V S).length → A.contains i = true → A.contains j = true → i ≠ j → blkOf (V i) ≠ blkOf (V j)) → wpList P ops Q (ops.toList.drop T) (putAll (ops.toList.take T) V 0 a0) w) : (Code.region id ops true).wp P Q a0 w0 := by
  simp only [Bool.and_eq_true, decide_eq_true_eq] at hchk
  obtain ⟨⟨⟨⟨h1, hT⟩, h2⟩, h3⟩, h4⟩ := hchk
  obtain ⟨hdl, hok⟩ := rgOk_of_check h1
  have inv0 : HeadInv .any ops T (Array.replicate ops.size false) :=
    ⟨by simp, fun j oj _ hl => (by rw [getD_replicate_false] at hl; cases hl), fun t _ ht => getD_in (by simpa using ht) (getD_replicate_false _ _)⟩
  have hcnt : (List.range T).countP (fun i => (Array.replicate ops.size false)[i]? != some true) = T := by
    have : (List.range T).countP (fun i => (Array.replicate ops.size false)[i]? != some true) = (List.range T).length := by
      rw [List.countP_eq_length]
      intro i hi
      simp [Array.getElem?_replicate]
    rw [this]; simp
  have := uv_walk_tail (Q := Q) hN hok hdl hpl hT h2 h3 h4 hPc hgoals hQ T _ a0 _ (fun _ => undef) hcnt inv0 ⟨by simp, rfl, rfl, hC0 _ (fun k hk => by simp [LS, Array.getElem?_replicate] at hk), ?_, ?_, fun _ _ => rfl, ?_, ?_, ?_⟩
  · refine wp_region_any hm ?_
    rw [show T + (ops.size - T) = ops.size by omega] at this
    exact this
  · intro j o hj hl
    simp [Array.getElem?_replicate] at hl
  · intro j o hj hl
    simp [Array.getElem?_replicate] at hl
  · intro j o hj hl
    simp [Array.getElem?_replicate] at hl
  · intro j hj hl
    simp [Array.getElem?_replicate] at hl
  · intro j j2 hj hj2 hne hl
    simp [Array.getElem?_replicate] at hl


def uvnGoals (P : Program) (ops : Array Oper) (C : (Nat → Prop) → World → Prop) (all : (Nat → Prop) → List (Value → World → Prop)) (A : List Nat) (dl0 : List (List Nat)) (V : Nat → Value) : List Oper → List (List Nat) → Nat → List (Nat × Value) → Prop
  | o :: os, d :: ds, i, L =>
    (∀ (S : Nat → Prop) w, C S w → UvS all A dl0 V S w → (∀ k, k ∈ d → S k) → ¬ S i → unOp P ops L o w (fun v w' => (C (ad i S) w' ∧ (∀ j, S j → ((all (ad i S)).getD j (fun _ _ => True)) (V j) w') ∧ w.heap.size ≤ w'.heap.size) ∧ ((all (ad i S)).getD i (fun _ _ => True)) v w' ∧ fr A i w v w')) ∧
    uvnGoals P ops C all A dl0 V os ds (i + 1) (ins o.dst (V i) L)
  | _, _, _, _ => True

theorem uvn_rg {V : Nat → Value} {dl0 : List (List Nat)} : ∀ (os : List Oper) (ds : List (List Nat)) (i : Nat) (L : List (Nat × Value)) (a : Act), Fr N a L → (∀ o ∈ os, dstOk N o.dst = true) → uvnGoals P ops C (posts V) A dl0 V os ds i L → uvGoals P ops C (posts V) A dl0 V os ds i a
  | [], _, _, _, _, _, _, _ => trivial
  | _ :: _, [], _, _, _, _, _, _ => trivial
  | o :: os, d :: ds, i, L, a, hf, hd, h => by
    refine ⟨fun S w hC hS hdp hi K hK => ?_, uvn_rg os ds (i + 1) _ _ (hf.ins (V i) (hd o (by simp))) (fun o' ho => hd o' (by simp [ho])) h.2⟩
    have h1 := h.1 S w hC hS hdp hi
    unfold unOp at h1
    cases hg : o.guard with
    | none =>
      rw [hg] at h1
      have hw : Region.wanted o (yielded ops a.tmps) = true := by simp [Region.wanted, hg]
      rw [if_pos hw]
      exact h1 a K _ (fun x v e => hf.ev e) (fun v w' hr => hK v w' hr.1.1 hr.1.2.1 hr.1.2.2 hr.2.1 hr.2.2)
    | some gw =>
      obtain ⟨g, want⟩ := gw
      rw [hg] at h1
      obtain ⟨ag, c, hy, ht, hfl⟩ := h1
      rw [wanted_of hf hg hy]
      cases hact : (ag && (c == want)) with
      | true => rw [if_pos rfl]; exact ht hact a K _ (fun x v e => hf.ev e) (fun v w' hr => hK v w' hr.1.1 hr.1.2.1 hr.1.2.2 hr.2.1 hr.2.2)
      | false => rw [if_neg (by simp)]; exact hK _ _ (hfl hact).1.1 (hfl hact).1.2.1 (hfl hact).1.2.2 (hfl hact).2.1 (hfl hact).2.2

theorem wp_region_vnT {L0 : List (Nat × Value)} {id : Nat} {Q : Exit → Act → World → Prop} {w0 : World} (T : Nat) (C : (Nat → Prop) → World → Prop) (posts : (Nat → Value) → (Nat → Prop) → List (Value → World → Prop)) (A : List Nat) (dl : List (List Nat)) (hf : Fr N a0 L0)
    (hm : P.follows .mixedOrders = true)
    (hchk : (rgCheck ops dl N && decide (T < ops.size) && Region.sinkB .any ops T && Region.chainB .any ops T && Region.seqB .any ops (ops.size - T) T ((Array.range ops.size).map (fun i => decide (i < T)))) = true) (hdst : ops.toList.all (fun o => dstOk N o.dst) = true) (hpl : ∀ V S, (posts V S).length = T)
    (hC0 : ∀ S : Nat → Prop, (∀ k, ¬ S k) → C S w0.drew) (hPc : ∀ V S i v j, i ∉ dl.getD j [] → (posts (fun k => if k = i then v else V k) S).getD j (fun _ _ => True) = (posts V S).getD j (fun _ _ => True)) (hgoals : ∀ V, uvnGoals P ops C (posts V) A dl V (ops.toList.take T) dl 0 L0)
    (hQ : ∀ V S w a, (∀ j, j < (posts V S).length → S j) → C S w → postsHold V w (posts V S) 0 → (∀ i j, i < (posts V S).length → j < (posts V S).length → A.contains i = true → A.contains j = true → i ≠ j → blkOf (V i) ≠ blkOf (V j)) → Fr N a (insAll (ops.toList.take T) V 0 L0) → wpList P ops Q (ops.toList.drop T) a w) : (Code.region id ops true).wp P Q a0 w0 := by
  rw [List.all_eq_true] at hdst
  exact wp_region_uv_tail T C posts A dl N hm hf.size hchk hpl hC0 hPc (fun V => uvn_rg _ _ _ _ _ hf (fun o ho => hdst o (List.mem_of_mem_take ho)) (hgoals V)) (fun V S w hj hc hp hn => hQ V S w _ hj hc hp hn (un_fr _ _ _ _ hf (fun o ho => hdst o (List.mem_of_mem_take ho))))

/-- An operation that writes nothing that was there. -/
theorem uv_plain {all : (Nat → Prop) → List (Value → World → Prop)} {dl0 : List (List Nat)} {V : Nat → Value} {S : Nat → Prop} {w : World} {L : List (Nat × Value)} {o : Oper} {i : Nat} (hK : ∀ j v w', ((all S).getD j (fun _ _ => True)) v w → Below w.heap.size w w' → ((all (ad i S)).getD j (fun _ _ => True)) v w') (hCB : ∀ w', C S w → Below w.heap.size w w' → C (ad i S) w') (hC : C S w) (hS : UvS all A dl0 V S w)
    (h : unOp P ops L o w (fun v w' => Below w.heap.size w w' ∧ ((all (ad i S)).getD i (fun _ _ => True)) v w' ∧ fr A i w v w')) : unOp P ops L o w (fun v w' => (C (ad i S) w' ∧ (∀ j, S j → ((all (ad i S)).getD j (fun _ _ => True)) (V j) w') ∧ w.heap.size ≤ w'.heap.size) ∧ ((all (ad i S)).getD i (fun _ _ => True)) v w' ∧ fr A i w v w') := by
  have key : ∀ v w', (Below w.heap.size w w' ∧ ((all (ad i S)).getD i (fun _ _ => True)) v w' ∧ fr A i w v w') → ((C (ad i S) w' ∧ (∀ j, S j → ((all (ad i S)).getD j (fun _ _ => True)) (V j) w') ∧ w.heap.size ≤ w'.heap.size) ∧ ((all (ad i S)).getD i (fun _ _ => True)) v w' ∧ fr A i w v w') :=
    fun v w' h => ⟨⟨hCB w' hC h.1, fun j hj => hK j _ w' (hS.post j hj) h.1, h.1.size⟩, h.2⟩
  unfold unOp at h ⊢
  cases hg : o.guard with
  | none => rw [hg] at h; exact Does.mono h key
  | some gw =>
    rw [hg] at h
    obtain ⟨ag, c, hy, ht, hfl⟩ := h
    exact ⟨ag, c, hy, fun ha => Does.mono (ht ha) key, fun ha => key _ _ (hfl ha)⟩
end

end Go.Proofs.Ytpalmpfkliepfaa

namespace Go.Proofs.Ytpalmpfkliepfaa
open Go.RowKit
set_option linter.unusedVariables false
set_option linter.unusedSimpArgs false

def inS (L : List ByteArray) (s : ByteArray) : Bool := L.any fun x => decide (x = s)
/-- Block b of w is a map that holds true at the strings of L, and nothing else. -/
def SetM (P : Program) (k e : TypeId) (w : World) (b : Nat) (L : List ByteArray) : Prop :=
  ∃ D n, w.ownsMap (H := Unit) P k (plainElem P e) b n D ∧ n ≤ L.length ∧ Maps.IsMap D ∧ ∀ s : ByteArray, s.size ≤ maxLen → D.atKey (.string s.data.toList) (.lit (.bool false)) = .lit (.bool (inS L s))
section
variable {P : Program} {L : List (Nat × Value)} {w : World} {d : Option Tmp} {ty : TypeId} {ps : String} {af : Array Edge} {gu : Option (Nat × Bool)} {t k e : TypeId} {b : Nat} {S : List ByteArray}
theorem SetM.ext {w' : World} (h : SetM P k e w b S) (hb : Below w.heap.size w w') : SetM P k e w' b S := by
  obtain ⟨D, n, h1, h2, h3⟩ := h
  exact ⟨D, n, h1.kept (below_grown (r := none) hb) (by simp), h2, h3⟩
theorem SetM.grown {w' : World} {c : Nat} (h : SetM P k e w b S) (hg : w.grownBy w' (some c)) (hne : b ≠ c) : SetM P k e w' b S := by
  obtain ⟨D, n, h1, h2, h3⟩ := h
  exact ⟨D, n, h1.kept hg (fun e => hne (Option.some.inj e)), h2, h3⟩
theorem SetM.lt (h : SetM P k e w b S) : b < w.heap.size := by
  obtain ⟨D, n, h1, h2, h3⟩ := h
  exact h1.lt
end
end Go.Proofs.Ytpalmpfkliepfaa

namespace Go.Proofs.Ytpalmpfkliepfaa
open Go.RowKit
set_option linter.unusedVariables false
set_option linter.unusedSimpArgs false

/-- Below B nothing but block b is another. -/
structure KB (b B : Nat) (w w' : World) : Prop where
  os : w'.os = w.os
  tape : w'.tape = w.tape
  output : w'.output = w.output
  size : w.heap.size ≤ w'.heap.size
  block : ∀ k, k < B → k ≠ b → w'.heap[k]? = w.heap[k]?
section
variable {b B : Nat} {w w1 w2 : World}
theorem KB.refl (b B : Nat) (w : World) : KB b B w w := ⟨rfl, rfl, rfl, Nat.le_refl _, fun _ _ _ => rfl⟩
theorem KB.trans (h : KB b B w w1) (h2 : Below B w1 w2) : KB b B w w2 := ⟨h2.os.trans h.os, h2.tape.trans h.tape, h2.output.trans h.output, Nat.le_trans h.size h2.size, fun k hk hne => (h2.block k hk).trans (h.block k hk hne)⟩
theorem KB.grown (h : KB b w.heap.size w w1) : w.grownBy w1 (some b) := ⟨h.os, h.tape, h.output, h.size, fun k hk hne => h.block k hk (fun e => hne (by rw [e]))⟩
end
section
variable {P : Program} {L : List (Nat × Value)} {w : World} {d : Option Tmp} {ty : TypeId} {ps : String} {af : Array Edge} {gu : Option (Nat × Bool)}
theorem r_nilCheck {x : Operand} {p : Addr} (hx : evO L x = some (.pointer (some p))) : Runs P L ⟨d, .nilCheck x, ty, ps, af, gu⟩ w (.pointer (some p)) w := by
  intro ρ hρ
  simp [execOp, hρ _ _ hx]
end
end Go.Proofs.Ytpalmpfkliepfaa

namespace Go.Proofs.Ytpalmpfkliepfaa
open Go.RowKit
set_option linter.unusedVariables false
set_option linter.unusedSimpArgs false

/-- Below B nothing but the blocks of a list are others. -/
structure KS (S : List Nat) (B : Nat) (w w' : World) : Prop where
  os : w'.os = w.os
  tape : w'.tape = w.tape
  output : w'.output = w.output
  size : w.heap.size ≤ w'.heap.size
  block : ∀ k, k < B → k ∉ S → w'.heap[k]? = w.heap[k]?
section
variable {S S2 : List Nat} {b B : Nat} {w w1 w2 w' : World}
theorem KS.refl (S : List Nat) (B : Nat) (w : World) : KS S B w w := ⟨rfl, rfl, rfl, Nat.le_refl _, fun _ _ _ => rfl⟩
theorem KS.many (h : KS S B w w1) (h2 : KS S2 w1.heap.size w1 w2) (hs : ∀ b ∈ S2, b ∈ S ∨ B ≤ b) (hB : B ≤ w1.heap.size) : KS S B w w2 :=
  ⟨h2.os.trans h.os, h2.tape.trans h.tape, h2.output.trans h.output, Nat.le_trans h.size h2.size, fun k hk hne => (h2.block k (Nat.lt_of_lt_of_le hk hB) (fun hm => (hs k hm).elim hne (fun h => by omega))).trans (h.block k hk hne)⟩
theorem KS.trans (h : KS S B w w1) (h2 : Below B w1 w2) : KS S B w w2 := ⟨h2.os.trans h.os, h2.tape.trans h.tape, h2.output.trans h.output, Nat.le_trans h.size h2.size, fun k hk hne => (h2.block k hk).trans (h.block k hk hne)⟩
theorem KS.below (h : KS [] B w w') : Below B w w' := ⟨h.os, h.tape, h.output, h.size, fun k hk => h.block k hk (by simp)⟩
theorem KS.sub (h : KS S B w w') (hs : ∀ b ∈ S, b ∈ S2) : KS S2 B w w' := ⟨h.os, h.tape, h.output, h.size, fun k hk hne => h.block k hk (fun hm => hne (hs k hm))⟩
end
theorem Row.base_le {α : Type} {k e base n c : Nat} {V : α → List Value} {w : World} {a : Option Addr} {l : List α} (h : Row k V e base w (.slice a n c) l) (h0 : 0 < l.length) : base ≤ w.heap.size := by
  obtain ⟨g, _, h1, h2⟩ := h.some h0
  omega
/-- Nothing but block b and a row's own block is another. -/
structure GO (w : World) (b : Nat) (v : Value) (w' : World) : Prop where
  os : w'.os = w.os
  tape : w'.tape = w.tape
  output : w'.output = w.output
  size : w.heap.size ≤ w'.heap.size
  block : ∀ k, k < w.heap.size → k ≠ b → some k ≠ v.ownBlock → w'.heap[k]? = w.heap[k]?
section
variable {w w1 w2 : World} {b : Nat} {v : Value}
theorem GO.refl (w : World) (b : Nat) (v : Value) : GO w b v w := ⟨rfl, rfl, rfl, Nat.le_refl _, fun _ _ _ _ => rfl⟩
theorem GO.below (h : GO w b v w1) (h2 : Below w1.heap.size w1 w2) : GO w b v w2 := ⟨h2.os.trans h.os, h2.tape.trans h.tape, h2.output.trans h.output, Nat.le_trans h.size h2.size, fun k hk h3 h4 => (h2.block k (Nat.lt_of_lt_of_le hk h.size)).trans (h.block k hk h3 h4)⟩
theorem GO.call (h : GO w b v w1) (hg : w1.grownBy w2 (some b)) : GO w b v w2 := ⟨hg.os.trans h.os, hg.tape.trans h.tape, hg.output.trans h.output, Nat.le_trans h.size hg.size, fun k hk h3 h4 => (hg.block k (Nat.lt_of_lt_of_le hk h.size) (fun e => h3 (Option.some.inj e))).trans (h.block k hk h3 h4)⟩
theorem GO.app (h : GO w b v w1) (hg : w1.grownBy w2 v.ownBlock) : GO w b v w2 := ⟨hg.os.trans h.os, hg.tape.trans h.tape, hg.output.trans h.output, Nat.le_trans h.size hg.size, fun k hk h3 h4 => (hg.block k (Nat.lt_of_lt_of_le hk h.size) h4).trans (h.block k hk h3 h4)⟩
theorem blk_go {k : Nat} {o : Obj} (hk : w.heap[k]? = some o) (h : GO w b v w1) (h1 : k ≠ b) (h2 : v.ownBlock ≠ some k) : w1.heap[k]? = some o := (h.block k (Array.getElem?_eq_some_iff.1 hk).1 h1 (fun e => h2 e.symm)).trans hk
theorem Row.go {α : Type} {k e base : Nat} {V : α → List Value} {u : Value} {l : List α} (hr : Row k V e base w u l) (h : GO w b v w1) (h1 : u.ownBlock ≠ Option.some b) (h2 : ∀ q, u.ownBlock = Option.some q → v.ownBlock ≠ Option.some q) : Row k V e base w1 u l := by
  refine ⟨hr.1, ?_⟩
  rcases hr.2 with hz | ⟨g, cap, cur, rfl, hb, hgg, rest⟩
  · exact .inl hz
  · exact .inr ⟨g, cap, cur, rfl, hb, blk_go hgg h (fun e => h1 (by rw [← e]; rfl)) (h2 g rfl), rest⟩
theorem KS.go {S : List Nat} {B : Nat} {w0 : World} (h : KS S B w0 w) (h2 : GO w b v w1) (hB : B ≤ w.heap.size) (hm : b ∈ S ∨ B ≤ b) (hv : ∀ q, v.ownBlock = some q → B ≤ q) : KS S B w0 w1 :=
  ⟨h2.os.trans h.os, h2.tape.trans h.tape, h2.output.trans h.output, Nat.le_trans h.size h2.size, fun k hk hne => (h2.block k (Nat.lt_of_lt_of_le hk hB) (fun e => by subst e; exact hm.elim hne (fun h => by omega)) (fun e => by have := hv k e.symm; omega)).trans (h.block k hk hne)⟩
theorem keptApp {α : Type} {k e base n : Nat} {V : α → List Value} {l : List α} : ∀ (x : Value) (w w' : World), (∃ a c, x = .slice a n c ∧ Row k V e base w x l) → Below w.heap.size w w' → (∃ a c, x = .slice a n c ∧ Row k V e base w' x l) := by
  rintro x w w' ⟨a, c, h1, h2⟩ hb
  exact ⟨a, c, h1, h2.ext hb⟩
end
section
variable {P : Program} {L : List (Nat × Value)} {w : World} {d : Option Tmp} {ty : TypeId} {ps : String} {af : Array Edge} {gu : Option (Nat × Bool)}
/-- The bytes of a string, of a block. -/
def StrC (cs : Array Value) (s : ByteArray) : Prop := ∀ j, j < s.size → cs[j]? = some (.int .u8 ((sbt s j : Nat) : Int))
theorem StrC.rd {b e : Nat} {cs : Array Value} {fr : Nat × Nat} {s : ByteArray} (hb : w.heap[b]? = some (.cells cs e fr)) (h : StrC cs s) : RdS 1 (vInt .u8) w (some ⟨b, 0, none⟩) (nums s) := by
  intro j x hx
  have hj : j < s.size := by rw [← nums_len]; exact (List.getElem?_eq_some_iff.1 hx).1
  refine ⟨b, 0, rfl, blk_lt hb, fun i u hu => ?_⟩
  rw [nums_get hj] at hx
  cases hx
  cases i with
  | zero => cases hu; exact cell_blk hb (by rw [Nat.zero_add, Nat.mul_one]; exact h j hj)
  | succ i => cases hu
end
section
variable {P : Program} {L : List (Nat × Value)} {w : World} {d : Option Tmp} {ty : TypeId} {ps : String} {af : Array Edge} {gu : Option (Nat × Bool)}
end
section
variable {P : Program} {fn : Func} {R : Ending → World → Prop} {a : Act} {N : Nat} {L : List (Nat × Value)} {w : World}
end
end Go.Proofs.Ytpalmpfkliepfaa

namespace Go.Proofs.Ytpalmpfkliepfaa
open Go.RowKit
set_option linter.unusedVariables false
set_option linter.unusedSimpArgs false
/-- The blocks of a type are as they were. -/
def KT (T : Nat) (w1 w : World) : Prop := ∀ (bf : Nat) (cs : Array Value), w1.heap[bf]? = some (.cells cs T (0, 0)) → w.heap[bf]? = some (.cells cs T (0, 0))
theorem KT.refl (T : Nat) (w : World) : KT T w w := fun _ _ h => h
theorem KT.trans {T : Nat} {w w1 w2 : World} (h : KT T w w1) (h2 : KT T w1 w2) : KT T w w2 := fun b cs hb => h2 b cs (h b cs hb)
theorem KT.map {T : Nat} {w1 w w' : World} (h : KT T w1 w) (hm : ∀ (bf : Nat) (cs : Array Value), w.heap[bf]? = some (.cells cs T (0, 0)) → w'.heap[bf]? = some (.cells cs T (0, 0))) : KT T w1 w' := fun b cs hb => hm b cs (h b cs hb)
theorem blk_ty {w : World} {b c T T2 : Nat} {cs cs2 : Array Value} {fr fr2 : Nat × Nat} (h1 : w.heap[b]? = some (.cells cs T fr)) (h2 : w.heap[c]? = some (.cells cs2 T2 fr2)) (h : (T == T2) = false) : b ≠ c := by
  rintro rfl
  rw [h1] at h2
  injection h2 with e
  injection e with e1 e2 e3
  subst e2
  simp at h
theorem KT.grown {T T2 b : Nat} {w w' : World} {cs : Array Value} {fr : Nat × Nat} (hg : w.grownBy w' (some b)) (hb : w.heap[b]? = some (.cells cs T2 fr)) (hne : (T == T2) = false) : KT T w w' := fun bf cs2 h => blk_grown h hg (blk_ty h hb hne)
theorem KT.app {α : Type} {T k e base : Nat} {V : α → List Value} {l : List α} {v : Value} {w w' : World} (hg : w.grownBy w' v.ownBlock) (hr : Row k V e base w v l) (hne : (e == T) = false) : KT T w w' := fun bf cs2 h => blk_row' h hg (Row.ne_type hr h hne)
/-- The blocks from X on are as they were. -/
def KX (X : Nat) (w1 w : World) : Prop := ∀ (k : Nat) (o : Obj), X ≤ k → w1.heap[k]? = some o → w.heap[k]? = some o
theorem KX.refl (X : Nat) (w : World) : KX X w w := fun _ _ _ h => h
section
variable {X : Nat} {w1 w w' : World}
theorem KX.below (h : KX X w1 w) (hb : Below w.heap.size w w') : KX X w1 w' := fun k o hk ho => blk_ext (h k o hk ho) hb
theorem KX.grown {b : Nat} (h : KX X w1 w) (hg : w.grownBy w' (some b)) (hx : b < X ∨ w1.heap.size ≤ b) : KX X w1 w' := fun k o hk ho => blk_grown (h k o hk ho) hg (fun e => by have := (Array.getElem?_eq_some_iff.1 ho).1; omega)
theorem KX.app {v : Value} (h : KX X w1 w) (hg : w.grownBy w' v.ownBlock) (hx : ∀ q, v.ownBlock = some q → q < X ∨ w1.heap.size ≤ q) : KX X w1 w' := fun k o hk ho => blk_row' (h k o hk ho) hg (fun e => by have := (Array.getElem?_eq_some_iff.1 ho).1; have := hx k e; omega)
theorem KX.go {b : Nat} {v : Value} (h : KX X w1 w) (hg : GO w b v w') (hx : b < X ∨ w1.heap.size ≤ b) (hv : ∀ q, v.ownBlock = some q → q < X ∨ w1.heap.size ≤ q) : KX X w1 w' := fun k o hk ho => blk_go (h k o hk ho) hg (fun e => by have := (Array.getElem?_eq_some_iff.1 ho).1; omega) (fun e => by have := (Array.getElem?_eq_some_iff.1 ho).1; have := hv k e; omega)
end
theorem Below_go {B : Nat} {w0 w w1 : World} {b : Nat} {v : Value} (h : Below B w0 w) (h2 : GO w b v w1) (hB : B ≤ w.heap.size) (hm : B ≤ b) (hv : ∀ q, v.ownBlock = some q → B ≤ q) : Below B w0 w1 :=
  h.trans ⟨h2.os, h2.tape, h2.output, h2.size, fun k hk => h2.block k (by omega) (by rintro rfl; omega) (fun e => by have := hv k e.symm; omega)⟩
end Go.Proofs.Ytpalmpfkliepfaa

namespace Go.Proofs.Ytpalmpfkliepfaa
open Go.RowKit Ut
set_option linter.unusedVariables false
set_option linter.unusedSimpArgs false
def pieceS (s : ByteArray) : ByteArray × ByteArray × Bool := match pieceP (bl s) with
  | none => (⟨#[]⟩, s, false)
  | some pm => (strN pm.1, strN pm.2, true)
theorem piece_no {s : ByteArray} (h : s.size = 0 ∨ (0 < s.size ∧ ¬ sbt s 0 = 32)) : pieceS s = (⟨#[]⟩, s, false) := by
  unfold pieceS
  have : pieceP (bl s) = none := by
    rcases h with h | ⟨h, h2⟩
    · rw [bl_nil.2 h]; rfl
    · have h3 := bl_dropc s 0 h
      rw [List.drop_zero] at h3
      rw [h3]
      unfold pieceP
      split
      · rename_i e; simp only [List.cons.injEq] at e; exact absurd e.1 h2
      · rfl
  rw [this]
theorem scan_end {q : Bool} {l : List Nat} (h : l = [] ∨ (l.head? = some 32 ∧ q = false)) : scanF q l = ([], l) := by
  rcases h with rfl | ⟨h, rfl⟩
  · rfl
  · exact scanF_nil l (.inr h)
theorem scan_go {q : Bool} {c : Nat} {l : List Nat} (h : ¬ (c = 32 ∧ q = false)) : scanF q (c :: l) = (c :: (scanF (if c = 34 then !q else q) l).1, (scanF (if c = 34 then !q else q) l).2) := by rw [scanF, if_neg h]
theorem piece_out {s : ByteArray} {i : Nat} {q : Bool} (h0 : 0 < s.size) (h1 : sbt s 0 = 32) (hi : 1 ≤ i) (hi2 : i ≤ s.size)
    (Hs : scanF false ((bl s).drop 1) = (((bl s).drop 1).take (i - 1) ++ (scanF q ((bl s).drop i)).1, (scanF q ((bl s).drop i)).2)) (he : s.size ≤ i ∨ (sbt s i = 32 ∧ q = false)) :
    pieceS s = (s.extract 1 i, s.extract i s.size, true) := by
  have h3 := bl_dropc s 0 h0
  rw [List.drop_zero, h1] at h3
  have h4 : pieceP (bl s) = some (scanF false ((bl s).drop 1)) := by
    conv => lhs; rw [h3]
    rfl
  have h5 : scanF q ((bl s).drop i) = ([], (bl s).drop i) := by
    refine scan_end ?_
    rcases he with h | ⟨h, h2⟩
    · left; exact List.drop_eq_nil_of_le (by rw [bl_length]; exact h)
    · rcases Nat.lt_or_ge i s.size with h6 | h6
      · right; rw [bl_dropc s i h6, h]; exact ⟨rfl, h2⟩
      · left; exact List.drop_eq_nil_of_le (by rw [bl_length]; exact h6)
  unfold pieceS
  rw [h4, Hs, h5, List.append_nil]
  simp only
  congr 1
  · rw [← bl_mid, strN_bl]
  · congr 1
    rw [← bl_drop, strN_bl]

set_option maxHeartbeats 1000000 in
set_option maxRecDepth 100000 in
theorem piece_any (s : ByteArray) (w : World) (hs : s.size ≤ 100000) : Calls Try.prog 59 #[(.string s)] w fun e w' => e = .returned (.tuple #[.string (pieceS s).1, .string (pieceS s).2.1, .bool (pieceS s).2.2]) ∧ Below w.heap.size w w' := by
  refine sx_enter (L := [(0, (.string s))]) Try.func59 rfl rfl rfl rfl (fun fa hf => ?_)
  have hb : Below w.heap.size w w := Below.refl _ _
  refine wp_seq_k (fun K1 hK1 => ?_)
  refine wp_region_lit ?_
  refine sqv hf (r_assign rfl) rfl rfl rfl ?_; clear hf fa; intro fa hf
  refine sqv hf (r_assign rfl) rfl rfl rfl ?_; clear hf fa; intro fa hf
  refine sqv hf (r_assign rfl) rfl rfl rfl ?_; clear hf fa; intro fa hf
  apply wpList_nil
  (try simp only [Exit.then, Exit.inBlock, ↓reduceIte, Nat.reduceEqDiff])
  refine hK1 _ _ ?_
  refine wp_seq_k (fun K2 hK2 => ?_)
  refine wp_seq_k (fun K3 hK3 => ?_)
  by_cases hsp1 : s.size = 0
  · have hsp1b : decide (s.size = 0) = true := decide_eq_true hsp1
    refine wp_region_lit ?_
    refine sqv hf (r_move rfl) rfl rfl rfl ?_; clear hf fa; intro fa hf
    refine sqv hf (Runs.veq (r_seq rfl rfl) (congrArg Value.bool (show _ = true from (decide_eq_true (emp_iff.2 hsp1))))) rfl rfl rfl ?_; clear hf fa; intro fa hf
    refine sqv hf (r_move rfl) rfl rfl rfl ?_; clear hf fa; intro fa hf
    refine sqgF (act := false) (ag := true) (c := true) (v := .bool false) hf rfl rfl rfl (fun hact => by cases hact) rfl rfl ?_; clear hf fa; intro fa hf
    refine sqgF (act := false) (ag := true) (c := true) (v := .bool false) hf rfl rfl rfl (fun hact => by cases hact) rfl rfl ?_; clear hf fa; intro fa hf
    refine sqgF (act := false) (ag := true) (c := true) (v := .bool false) hf rfl rfl rfl (fun hact => by cases hact) rfl rfl ?_; clear hf fa; intro fa hf
    refine sqv hf (r_pick (b := true) rfl rfl rfl rfl) rfl rfl rfl ?_; clear hf fa; intro fa hf
    apply wpList_nil
    (try simp only [Exit.then, Exit.inBlock, ↓reduceIte, Nat.reduceEqDiff])
    refine hK3 _ _ ?_
    refine wp_cond_true (hf.ev rfl) ?_
    refine wp_seq_k (fun K4 hK4 => ?_)
    refine wp_region_lit ?_
    refine sqv hf (r_move rfl) rfl rfl rfl ?_; clear hf fa; intro fa hf
    refine sqv hf (r_assign rfl) rfl rfl rfl ?_; clear hf fa; intro fa hf
    refine sqv hf (r_assign rfl) rfl rfl rfl ?_; clear hf fa; intro fa hf
    refine sqv hf (r_assign rfl) rfl rfl rfl ?_; clear hf fa; intro fa hf
    apply wpList_nil
    (try simp only [Exit.then, Exit.inBlock, ↓reduceIte, Nat.reduceEqDiff])
    refine hK4 _ _ ?_
    refine wp_ret ?_
    (try simp only [Exit.then, Exit.inBlock])
    refine ret3 hf rfl rfl rfl rfl ?_
    rw [piece_no (.inl hsp1)]; exact ⟨rfl, hb⟩
  · have hsp1b : decide (s.size = 0) = false := decide_eq_false hsp1
    refine wp_region_lit ?_
    refine sqv hf (r_move rfl) rfl rfl rfl ?_; clear hf fa; intro fa hf
    refine sqv hf (Runs.veq (r_seq rfl rfl) (congrArg Value.bool (show _ = false from (decide_eq_false (fun e => hsp1 (emp_iff.1 e)))))) rfl rfl rfl ?_; clear hf fa; intro fa hf
    refine sqv hf (r_move rfl) rfl rfl rfl ?_; clear hf fa; intro fa hf
    refine sqgd (act := true) (g := 2) (want := false) (ag := true) (c := false) hf (by rfl) (by rfl) rfl (fun _ =>  Runs.does (R := fun vq wq => vq = (.string s) ∧ w = wq) (r_move rfl) ⟨rfl, rfl⟩) (fun h => by cases h) rfl ?_; clear hf fa; rintro fa _ _ ⟨rfl, rfl⟩ hf
    change Fr _ _ ((10, (.string s)) :: _) at hf
    refine sqgd (act := true) (g := 2) (want := false) (ag := true) (c := false) hf (by rfl) (by rfl) rfl (fun _ =>  Runs.does (R := fun vq wq => vq = (.int .u8 ((sbt s 0 : Nat) : Int)) ∧ w = wq) (r_sindexD (j := 0) rfl rfl Try.underlying9 rfl (by omega)) ⟨rfl, rfl⟩) (fun h => by cases h) rfl ?_; clear hf fa; rintro fa _ _ ⟨rfl, rfl⟩ hf
    change Fr _ _ ((11, (.int .u8 ((sbt s 0 : Nat) : Int))) :: _) at hf
    refine sqgd (act := true) (g := 2) (want := false) (ag := true) (c := false) hf (by rfl) (by rfl) rfl (fun _ =>  Runs.does (R := fun vq wq => vq = (.bool (decide (((sbt s 0 : Nat) : Int) ≠ (32 : Int)))) ∧ w = wq) (r_ne rfl rfl) ⟨rfl, rfl⟩) (fun h => by cases h) rfl ?_; clear hf fa; rintro fa _ _ ⟨rfl, rfl⟩ hf
    change Fr _ _ ((12, (.bool (decide (((sbt s 0 : Nat) : Int) ≠ (32 : Int))))) :: _) at hf
    refine sqv hf (r_pick (b := false) rfl rfl rfl rfl) rfl rfl rfl ?_; clear hf fa; intro fa hf
    apply wpList_nil
    (try simp only [Exit.then, Exit.inBlock, ↓reduceIte, Nat.reduceEqDiff])
    refine hK3 _ _ ?_
    refine wp_cond_split (t := (decide (((sbt s 0 : Nat) : Int) ≠ (32 : Int)))) (hf.ev rfl) (fun hqt13_2 => ?_) (fun hqt13_2 => ?_)
    · have hqt13_2b := hqt13_2
      try simp only [decide_eq_true_eq, Bool.and_eq_true, Bool.or_eq_true, Bool.not_eq_true', decide_eq_false_iff_not, ne_eq, Bool.not_eq_true] at hqt13_2
      refine wp_seq_k (fun K5 hK5 => ?_)
      refine wp_region_lit ?_
      refine sqv hf (r_move rfl) rfl rfl rfl ?_; clear hf fa; intro fa hf
      refine sqv hf (r_assign rfl) rfl rfl rfl ?_; clear hf fa; intro fa hf
      refine sqv hf (r_assign rfl) rfl rfl rfl ?_; clear hf fa; intro fa hf
      refine sqv hf (r_assign rfl) rfl rfl rfl ?_; clear hf fa; intro fa hf
      apply wpList_nil
      (try simp only [Exit.then, Exit.inBlock, ↓reduceIte, Nat.reduceEqDiff])
      refine hK5 _ _ ?_
      refine wp_ret ?_
      (try simp only [Exit.then, Exit.inBlock])
      refine ret3 hf rfl rfl rfl rfl ?_
      rw [piece_no (.inr ⟨by omega, by have h := hqt13_2; omega⟩)]; exact ⟨rfl, hb⟩
    · have hqt13_2b := hqt13_2
      replace hqt13_2 := Bool.eq_false_iff.1 hqt13_2
      try simp only [ne_eq, decide_eq_true_eq, Bool.and_eq_true, Bool.or_eq_true, Bool.not_eq_true', decide_eq_false_iff_not] at hqt13_2
      refine wp_skip ?_
      (try simp only [Exit.then, Exit.inBlock, ↓reduceIte, Nat.reduceEqDiff])
      refine hK2 _ _ ?_
      refine wp_seq_k (fun K6 hK6 => ?_)
      refine wp_region_lit ?_
      refine sqv hf (r_assign rfl) rfl rfl rfl ?_; clear hf fa; intro fa hf
      refine sqv hf (r_assign rfl) rfl rfl rfl ?_; clear hf fa; intro fa hf
      apply wpList_nil
      (try simp only [Exit.then, Exit.inBlock, ↓reduceIte, Nat.reduceEqDiff])
      refine hK6 _ _ ?_
      refine wp_seq_k (fun K7 hK7 => ?_)
      refine wp_block ?_
      refine wp_loop_k (fun mq fa wr => ∃ (i : Nat) (q : Bool), mq = s.size - i ∧ Fr 42 fa [(0, (.string s)), (5, (.bool q)), (6, (.int .i64 ((i : Nat) : Int)))] ∧ Below w.heap.size w wr ∧ (1 ≤ i) ∧ (i ≤ s.size) ∧ (scanF false ((bl s).drop 1) = (((bl s).drop 1).take (i - 1) ++ (scanF q ((bl s).drop i)).1, (scanF q ((bl s).drop i)).2))) ?_ ?_
      · skip
        exact ⟨_, 1, false, rfl, hf.sub ⟨rfl, rfl, (some_int (by first | rfl | omega)), trivial⟩, hb, by omega, by omega, (by simp)⟩
      · skip
        clear hf fa; intro mq1 fa w1 hI KL1 hKL1
        clear hb
        obtain ⟨i, q, hmq1, hf, hb, hi, hi2, Hs⟩ := hI
        refine wp_seq_k (fun K8 hK8 => ?_)
        refine wp_seq_k (fun K9 hK9 => ?_)
        refine wp_region_lit ?_
        refine sqv hf (r_move rfl) rfl rfl rfl ?_; clear hf fa; intro fa hf
        refine sqv hf (r_move rfl) rfl rfl rfl ?_; clear hf fa; intro fa hf
        refine sqv hf (r_lens rfl Try.underlying9) rfl rfl rfl ?_; clear hf fa; intro fa hf
        refine sqv hf (r_lt rfl rfl) rfl rfl rfl ?_; clear hf fa; intro fa hf
        refine sqv hf (r_move rfl) rfl rfl rfl ?_; clear hf fa; intro fa hf
        refine sqgT (act := (decide (((i : Nat) : Int) < ((s.size : Nat) : Int)))) (ag := true) (c := (decide (((i : Nat) : Int) < ((s.size : Nat) : Int)))) (v := (.bool q)) hf rfl rfl rfl (fun hact => (r_move rfl)) rfl rfl ?_; clear hf fa; intro fa hf
        refine sqgT (act := (decide (((i : Nat) : Int) < ((s.size : Nat) : Int)))) (ag := true) (c := (decide (((i : Nat) : Int) < ((s.size : Nat) : Int)))) (v := (.bool q)) hf rfl rfl rfl (fun hact => (r_move (gb_ev hact rfl))) rfl rfl ?_; clear hf fa; intro fa hf
        refine sqgF (act := ((decide (((i : Nat) : Int) < ((s.size : Nat) : Int))) && !q)) (ag := (decide (((i : Nat) : Int) < ((s.size : Nat) : Int)))) (c := q) (v := (.string s)) hf rfl rfl rfl (fun hact => (r_move rfl)) rfl rfl ?_; clear hf fa; intro fa hf
        refine sqgF (act := ((decide (((i : Nat) : Int) < ((s.size : Nat) : Int))) && !q)) (ag := (decide (((i : Nat) : Int) < ((s.size : Nat) : Int)))) (c := q) (v := (.int .i64 ((i : Nat) : Int))) hf rfl rfl rfl (fun hact => (r_move rfl)) rfl rfl ?_; clear hf fa; intro fa hf
        refine sqgF (act := ((decide (((i : Nat) : Int) < ((s.size : Nat) : Int))) && !q)) (ag := (decide (((i : Nat) : Int) < ((s.size : Nat) : Int)))) (c := q) (v := (.int .u8 ((sbt s i : Nat) : Int))) hf rfl rfl rfl (fun hact => (by have hact0 := hact; (try simp only [Bool.and_eq_true, Bool.not_eq_true', Bool.or_eq_false_iff, Bool.or_eq_true, Bool.and_eq_false_iff, ne_eq, decide_eq_true_eq, decide_eq_false_iff_not] at hact0); exact (r_sindexD (j := i) (gb_ev hact rfl) (gb_ev hact rfl) Try.underlying9 rfl (by omega)))) rfl rfl ?_; clear hf fa; intro fa hf
        refine sqgF (act := ((decide (((i : Nat) : Int) < ((s.size : Nat) : Int))) && !q)) (ag := (decide (((i : Nat) : Int) < ((s.size : Nat) : Int)))) (c := q) (v := (.bool (decide (((sbt s i : Nat) : Int) ≠ (32 : Int))))) hf rfl rfl rfl (fun hact => (r_ne (gb_ev hact rfl) rfl)) rfl rfl ?_; clear hf fa; intro fa hf
        refine sqgT (act := (decide (((i : Nat) : Int) < ((s.size : Nat) : Int)))) (ag := true) (c := (decide (((i : Nat) : Int) < ((s.size : Nat) : Int)))) (v := (.bool (q || (decide (((sbt s i : Nat) : Int) ≠ (32 : Int)))))) hf rfl rfl rfl (fun hact => (r_pickO2 (q := (decide (((i : Nat) : Int) < ((s.size : Nat) : Int)))) (b := q) (e := (decide (((sbt s i : Nat) : Int) ≠ (32 : Int)))) hact rfl rfl rfl)) rfl rfl ?_; clear hf fa; intro fa hf
        refine sqv hf (r_pickA (b := (decide (((i : Nat) : Int) < ((s.size : Nat) : Int)))) (e := (q || (decide (((sbt s i : Nat) : Int) ≠ (32 : Int))))) rfl rfl rfl) rfl rfl rfl ?_; clear hf fa; intro fa hf
        apply wpList_nil
        (try simp only [Exit.then, Exit.inBlock, ↓reduceIte, Nat.reduceEqDiff])
        refine hK9 _ _ ?_
        refine wp_cond_split (t := ((decide (((i : Nat) : Int) < ((s.size : Nat) : Int))) && (q || (decide (((sbt s i : Nat) : Int) ≠ (32 : Int)))))) (hf.ev rfl) (fun hqt27_1 => ?_) (fun hqt27_1 => ?_)
        · have hqt27_1b := hqt27_1
          try simp only [decide_eq_true_eq, Bool.and_eq_true, Bool.or_eq_true, Bool.not_eq_true', decide_eq_false_iff_not, ne_eq, Bool.not_eq_true] at hqt27_1
          refine wp_skip ?_
          (try simp only [Exit.then, Exit.inBlock, ↓reduceIte, Nat.reduceEqDiff])
          refine hK8 _ _ ?_
          refine wp_seq_k (fun K10 hK10 => ?_)
          refine wp_block ?_
          refine wp_seq_k (fun K11 hK11 => ?_)
          refine wp_region_lit ?_
          refine sqv hf (r_move rfl) rfl rfl rfl ?_; clear hf fa; intro fa hf
          refine sqv hf (r_move rfl) rfl rfl rfl ?_; clear hf fa; intro fa hf
          refine sqv hf (r_sindexD (j := i) rfl rfl Try.underlying9 rfl (by omega)) rfl rfl rfl ?_; clear hf fa; intro fa hf
          refine sqv hf (r_eq rfl rfl) rfl rfl rfl ?_; clear hf fa; intro fa hf
          apply wpList_nil
          (try simp only [Exit.then, Exit.inBlock, ↓reduceIte, Nat.reduceEqDiff])
          refine hK11 _ _ ?_
          refine wp_cond_split (t := (decide (((sbt s i : Nat) : Int) = (34 : Int)))) (hf.ev rfl) (fun hqt33_1 => ?_) (fun hqt33_1 => ?_)
          · have hqt33_1b := hqt33_1
            try simp only [decide_eq_true_eq, Bool.and_eq_true, Bool.or_eq_true, Bool.not_eq_true', decide_eq_false_iff_not, ne_eq, Bool.not_eq_true] at hqt33_1
            refine wp_region_lit ?_
            refine sqv hf (r_move rfl) rfl rfl rfl ?_; clear hf fa; intro fa hf
            refine sqv hf (r_not rfl) rfl rfl rfl ?_; clear hf fa; intro fa hf
            refine sqv hf (r_assign rfl) rfl rfl rfl ?_; clear hf fa; intro fa hf
            apply wpList_nil
            (try simp only [Exit.then, Exit.inBlock, ↓reduceIte, Nat.reduceEqDiff])
            refine hK10 _ _ ?_
            refine wp_region_lit ?_
            refine sqv hf (r_move rfl) rfl rfl rfl ?_; clear hf fa; intro fa hf
            refine sqv hf (r_add (C := (((i : Nat) : Int) + (1 : Int))) rfl rfl (by rw [IntKind.wrap_i64]; omega)) rfl rfl rfl ?_; clear hf fa; intro fa hf
            refine sqv hf (r_assign rfl) rfl rfl rfl ?_; clear hf fa; intro fa hf
            apply wpList_nil
            (try simp only [Exit.then, Exit.inBlock, ↓reduceIte, Nat.reduceEqDiff])
            have hn9 : ¬ (sbt s i = 32 ∧ q = false) := by
              rintro ⟨e1, e2⟩
              rcases hqt27_1.2 with h | h
              · rw [e2] at h; cases h
              · omega
            refine hKL1 _ _ _ (by omega) ⟨(i + 1), (!q), rfl, hf.sub ⟨rfl, rfl, (some_int (by first | rfl | omega)), trivial⟩, hb, by omega, by omega, (by rw [Hs, bl_dropc s i (by omega), scan_go hn9, if_pos (by have h := hqt33_1; omega), show i + 1 - 1 = (i - 1) + 1 by omega, List.take_add_one, List.getElem?_drop, show 1 + (i - 1) = i by omega, bl_get (by omega)]; simp)⟩
          · have hqt33_1b := hqt33_1
            replace hqt33_1 := Bool.eq_false_iff.1 hqt33_1
            try simp only [ne_eq, decide_eq_true_eq, Bool.and_eq_true, Bool.or_eq_true, Bool.not_eq_true', decide_eq_false_iff_not] at hqt33_1
            refine wp_skip ?_
            (try simp only [Exit.then, Exit.inBlock, ↓reduceIte, Nat.reduceEqDiff])
            refine hK10 _ _ ?_
            refine wp_region_lit ?_
            refine sqv hf (r_move rfl) rfl rfl rfl ?_; clear hf fa; intro fa hf
            refine sqv hf (r_add (C := (((i : Nat) : Int) + (1 : Int))) rfl rfl (by rw [IntKind.wrap_i64]; omega)) rfl rfl rfl ?_; clear hf fa; intro fa hf
            refine sqv hf (r_assign rfl) rfl rfl rfl ?_; clear hf fa; intro fa hf
            apply wpList_nil
            (try simp only [Exit.then, Exit.inBlock, ↓reduceIte, Nat.reduceEqDiff])
            have hn9 : ¬ (sbt s i = 32 ∧ q = false) := by
              rintro ⟨e1, e2⟩
              rcases hqt27_1.2 with h | h
              · rw [e2] at h; cases h
              · omega
            refine hKL1 _ _ _ (by omega) ⟨(i + 1), q, rfl, hf.sub ⟨rfl, rfl, (some_int (by first | rfl | omega)), trivial⟩, hb, by omega, by omega, (by rw [Hs, bl_dropc s i (by omega), scan_go hn9, if_neg (by have h := hqt33_1; omega), show i + 1 - 1 = (i - 1) + 1 by omega, List.take_add_one, List.getElem?_drop, show 1 + (i - 1) = i by omega, bl_get (by omega)]; simp)⟩
        · have hqt27_1b := hqt27_1
          replace hqt27_1 := Bool.eq_false_iff.1 hqt27_1
          try simp only [ne_eq, decide_eq_true_eq, Bool.and_eq_true, Bool.or_eq_true, Bool.not_eq_true', decide_eq_false_iff_not] at hqt27_1
          refine wp_exit ?_
          (try simp only [Exit.then, Exit.inBlock, ↓reduceIte, Nat.reduceEqDiff])
          refine hK7 _ _ ?_
          refine wp_seq_k (fun K12 hK12 => ?_)
          refine wp_region_un (fun wq => Below w1.heap.size w1 wq) (fun w w' => Below w.heap.size w w')
            (fun V => [(fun x _ => x = (.string s)), (fun x _ => x = (.int .i64 ((i : Nat) : Int))), (fun x _ => x = (.string (s.extract 1 i))), (fun x _ => x = (.string s)), (fun x _ => x = (.int .i64 ((i : Nat) : Int))), (fun x _ => x = (.string (s.extract i s.size))), (fun x _ => x = (.string (s.extract 1 i))), (fun x _ => x = (.string (s.extract i s.size))), (fun x _ => x = (.bool true))])
            []
            [[], [], [0, 1], [], [], [3, 4], [0, 1, 2], [0, 1, 2, 3, 4, 5, 6], [0, 1, 2, 3, 4, 5, 6, 7]]
            hf (by kernel_rfl) (by kernel_rfl) (fun _ => rfl) ((Below.refl _ _).drew) (fun a b h1 h2 => h1.trans (h2.mono h1.size)) (fun _ _ h => h.size) (fun V => ⟨kept_eq, kept_eq, kept_eq, kept_eq, kept_eq, kept_eq, kept_eq, kept_eq, kept_eq, trivial⟩) (fun _ _ _ _ _ => rfl) ?_ ?_
          · skip
            intro V
            refine ⟨fun wu0 hC hd => ?_, ?_⟩
            · clear hd
              replace hb := hb.trans (hC.mono hb.size)
              exact Runs.does (r_move rfl) ⟨Below.refl _ _, rfl, nofr rfl⟩
            refine ⟨fun wu1 hC hd => ?_, ?_⟩
            · clear hd
              replace hb := hb.trans (hC.mono hb.size)
              exact Runs.does (r_move rfl) ⟨Below.refl _ _, rfl, nofr rfl⟩
            refine ⟨fun wu2 hC hd => ?_, ?_⟩
            · obtain ⟨h0, h1, _⟩ := hd
              skip
              skip
              replace h0 : V 0 = (.string s) := h0
              replace h1 : V 1 = (.int .i64 ((i : Nat) : Int)) := h1
              replace hb := hb.trans (hC.mono hb.size)
              exact Runs.does (r_sslice (a := 1) (b := i) (k1 := .i64) (k2 := .i64) (A := (1 : Int)) (B := ((i : Nat) : Int)) (congrArg some h0) Try.underlying9 (.inr ⟨_, rfl, rfl, rfl⟩) (.inr ⟨_, rfl, (congrArg some h1), rfl⟩) (by omega) (by omega)) ⟨Below.refl _ _, rfl, nofr rfl⟩
            refine ⟨fun wu3 hC hd => ?_, ?_⟩
            · clear hd
              replace hb := hb.trans (hC.mono hb.size)
              exact Runs.does (r_move rfl) ⟨Below.refl _ _, rfl, nofr rfl⟩
            refine ⟨fun wu4 hC hd => ?_, ?_⟩
            · clear hd
              replace hb := hb.trans (hC.mono hb.size)
              exact Runs.does (r_move rfl) ⟨Below.refl _ _, rfl, nofr rfl⟩
            refine ⟨fun wu5 hC hd => ?_, ?_⟩
            · obtain ⟨h3, h4, _⟩ := hd
              skip
              skip
              replace h3 : V 3 = (.string s) := h3
              replace h4 : V 4 = (.int .i64 ((i : Nat) : Int)) := h4
              replace hb := hb.trans (hC.mono hb.size)
              exact Runs.does (r_sslice (a := i) (b := s.size) (k1 := .i64) (k2 := .i64) (A := ((i : Nat) : Int)) (B := 0) (congrArg some h3) Try.underlying9 (.inr ⟨_, rfl, (congrArg some h4), rfl⟩) (.inl ⟨rfl, rfl⟩) (by omega) (by omega)) ⟨Below.refl _ _, rfl, nofr rfl⟩
            refine ⟨fun wu6 hC hd => ?_, ?_⟩
            · obtain ⟨h0, h1, h2, _⟩ := hd
              skip
              skip
              skip
              replace h0 : V 0 = (.string s) := h0
              replace h1 : V 1 = (.int .i64 ((i : Nat) : Int)) := h1
              replace h2 : V 2 = (.string (s.extract 1 i)) := h2
              replace hb := hb.trans (hC.mono hb.size)
              exact Runs.does (r_assign (congrArg some h2)) ⟨Below.refl _ _, rfl, nofr rfl⟩
            refine ⟨fun wu7 hC hd => ?_, ?_⟩
            · obtain ⟨h0, h1, h2, h3, h4, h5, h6, _⟩ := hd
              skip
              skip
              skip
              skip
              skip
              skip
              skip
              replace h0 : V 0 = (.string s) := h0
              replace h1 : V 1 = (.int .i64 ((i : Nat) : Int)) := h1
              replace h2 : V 2 = (.string (s.extract 1 i)) := h2
              replace h3 : V 3 = (.string s) := h3
              replace h4 : V 4 = (.int .i64 ((i : Nat) : Int)) := h4
              replace h5 : V 5 = (.string (s.extract i s.size)) := h5
              replace h6 : V 6 = (.string (s.extract 1 i)) := h6
              replace hb := hb.trans (hC.mono hb.size)
              exact Runs.does (r_assign (congrArg some h5)) ⟨Below.refl _ _, rfl, nofr rfl⟩
            refine ⟨fun wu8 hC hd => ?_, ?_⟩
            · obtain ⟨h0, h1, h2, h3, h4, h5, h6, h7, _⟩ := hd
              skip
              skip
              skip
              skip
              skip
              skip
              skip
              skip
              replace h0 : V 0 = (.string s) := h0
              replace h1 : V 1 = (.int .i64 ((i : Nat) : Int)) := h1
              replace h2 : V 2 = (.string (s.extract 1 i)) := h2
              replace h3 : V 3 = (.string s) := h3
              replace h4 : V 4 = (.int .i64 ((i : Nat) : Int)) := h4
              replace h5 : V 5 = (.string (s.extract i s.size)) := h5
              replace h6 : V 6 = (.string (s.extract 1 i)) := h6
              replace h7 : V 7 = (.string (s.extract i s.size)) := h7
              replace hb := hb.trans (hC.mono hb.size)
              exact Runs.does (r_assign rfl) ⟨Below.refl _ _, rfl, nofr rfl⟩
            trivial
          · skip
            clear hf fa; intro V w2 fa he1 hp hnb hf
            have hv0 : V 0 = (.string s) := postsHold_at hp 0 rfl
            have hv1 : V 1 = (.int .i64 ((i : Nat) : Int)) := postsHold_at hp 1 rfl
            have hv2 : V 2 = (.string (s.extract 1 i)) := postsHold_at hp 2 rfl
            have hv3 : V 3 = (.string s) := postsHold_at hp 3 rfl
            have hv4 : V 4 = (.int .i64 ((i : Nat) : Int)) := postsHold_at hp 4 rfl
            have hv5 : V 5 = (.string (s.extract i s.size)) := postsHold_at hp 5 rfl
            have hv6 : V 6 = (.string (s.extract 1 i)) := postsHold_at hp 6 rfl
            have hv7 : V 7 = (.string (s.extract i s.size)) := postsHold_at hp 7 rfl
            have hv8 : V 8 = (.bool true) := postsHold_at hp 8 rfl
            simp only [List.take_succ_cons, List.take_zero, insAll, ins, hv0, hv1, hv2, hv3, hv4, hv5, hv6, hv7, hv8] at hf
            clear hp hnb hv0 hv1 hv2 hv3 hv4 hv5 hv6 hv7 hv8
            replace hb := hb.trans (Below.mono he1 hb.size)
            (try simp only [Exit.then, Exit.inBlock, ↓reduceIte, Nat.reduceEqDiff])
            refine hK12 _ _ ?_
            refine wp_ret ?_
            (try simp only [Exit.then, Exit.inBlock])
            refine ret3 hf rfl rfl rfl rfl ?_
            have he9 : s.size ≤ i ∨ (sbt s i = 32 ∧ q = false) := by
              rcases Nat.lt_or_ge i s.size with h9 | h9
              · right
                have h8 := hqt27_1
                refine ⟨Classical.byContradiction fun e => h8 ⟨by omega, .inr (by omega)⟩, ?_⟩
                cases q with
                | false => rfl
                | true => exact absurd ⟨by omega, .inl rfl⟩ h8
              · exact .inl h9
            rw [piece_out (i := i) (q := q) (by omega) (by omega) hi hi2 Hs he9]; exact ⟨rfl, hb⟩

/-- An operation that is being read, in a block of its own: number b; its slices are its own too. -/
def StP (TY B : Nat) (w : World) (b : Nat) (k : Int) (st : PSt) : Prop := ∃ (aN : Option Addr) (cN : Nat) (aS : Option Addr) (cS : Nat) (aA : Option Addr) (cA : Nat) (aD : Option Addr) (cD : Nat),
  w.heap[b]? = some (.cells #[(.int .i64 k), (.slice aN st.N.length cN), (.slice aS st.S.length cS), (.slice aA st.A.length cA), (.slice aD st.D.length cD)] TY (0, 0)) ∧ Row 1 (vInt .i64) 3 B w (.slice aN st.N.length cN) st.N ∧ Row 1 vStr 9 B w (.slice aS st.S.length cS) st.S ∧ Row 2 vMVal 65 B w (.slice aA st.A.length cA) st.A ∧ Row 1 (vInt .u8) 5 B w (.slice aD st.D.length cD) (nI st.D)

theorem StP.ext {TY B b : Nat} {w w' : World} {k : Int} {st : PSt} (h : StP TY B w b k st) (hb : Below w.heap.size w w') : StP TY B w' b k st := by
  obtain ⟨aN, cN, aS, cS, aA, cA, aD, cD, h1, h2, h3, h4, h5⟩ := h
  exact ⟨aN, cN, aS, cS, aA, cA, aD, cD, blk_ext h1 hb, Row.ext h2 hb, Row.ext h3 hb, Row.ext h4 hb, Row.ext h5 hb⟩
theorem take_n {c : Nat} {p : ByteArray} {st : PSt} (h : c = 110) : takeP c p st = (⟨st.N ++ [(numP (bl p)).1], st.S, st.A, st.D⟩, (numP (bl p)).2) := by unfold takeP; rw [if_pos h]
theorem take_s {c : Nat} {p : ByteArray} {st : PSt} (h : c = 115) : takeP c p st = (⟨st.N, st.S ++ [strN (readP (bl p)).1], st.A, st.D⟩, (readP (bl p)).2) := by unfold takeP; rw [if_neg (by omega), if_pos h]
theorem take_d {c : Nat} {p : ByteArray} {st : PSt} (h : c = 100) : takeP c p st = (⟨st.N, st.S, st.A, (hexP (bl p)).1⟩, (hexP (bl p)).2) := by unfold takeP; rw [if_neg (by omega), if_neg (by omega), if_pos h]
theorem take_a {c : Nat} {p : ByteArray} {st : PSt} (h1 : ¬ c = 110) (h2 : ¬ c = 115) (h3 : ¬ c = 100) : takeP c p st = (⟨st.N, st.S, st.A ++ [(rdV p).1], st.D⟩, (rdV p).2) := by unfold takeP; rw [if_neg h1, if_neg h2, if_neg h3]

theorem readhex_y (p : ByteArray) (w : World) (hp : p.size ≤ 30000) : Calls Try.prog 29 #[.string p] w fun e w' => ∃ v, e = .returned v ∧ ((∃ a c, v = .tuple #[.slice a (hexP (bl p)).1.length c, .bool (hexP (bl p)).2] ∧ Row 1 (vInt .u8) 5 w.heap.size w' (.slice a (hexP (bl p)).1.length c) (nI (hexP (bl p)).1)) ∧ Below w.heap.size w w') := by
  refine (readhex_any p w (by omega)).mono ?_
  rintro e w' ⟨v, rfl, hr, hb⟩
  obtain ⟨a, c, rfl, _, _⟩ := Row.slice hr
  rw [nI_length] at hr
  refine ⟨_, rfl, ⟨a, c, ?_, hr⟩, hb⟩
  rw [nI_length]

set_option maxHeartbeats 1000000 in
set_option maxRecDepth 100000 in
theorem take_x (b c : Nat) (k : Int) (p : ByteArray) (st : PSt) (w0 w : World) (hb : Below w0.heap.size w0 w) (hBb : w0.heap.size ≤ b) (hst : StP 45 w0.heap.size w b k st) (hp : p.size ≤ 30000) (hB : OpB st) : Calls Try.prog 60 #[(.pointer (some ⟨b, 0, none⟩)), (.int .u8 ((c : Nat) : Int)), (.string p)] w fun e w' => ∃ v, e = .returned v ∧ (v = .bool (takeP c p st).2 ∧ StP 45 w0.heap.size w' b k (takeP c p st).1 ∧ Below w0.heap.size w0 w') := by
  obtain ⟨aN, cN, aS, cS, aA, cA, aD, cD, hk, hrN, hrS, hrA, hrD⟩ := hst
  have hBb0 := hBb
  have hnl9 := hB.nl
  have hsl9 := hB.sl
  have hal9 := hB.al
  have hdl9 := hB.dl
  have hcN9 := Row.caps hrN
  have hcS9 := Row.caps hrS
  have hcA9 := Row.caps hrA
  have hcD9 := Row.caps hrD
  have hbw9 : b < w.heap.size := blk_lt hk
  have hap : (st.A ++ [(rdV p).1]).length = st.A.length + 1 := by rw [List.length_append]; rfl
  refine sx_enter (L := [(0, (.pointer (some ⟨b, 0, none⟩))), (1, (.int .u8 ((c : Nat) : Int))), (2, (.string p))]) Try.func60 rfl rfl rfl rfl (fun fa hf => ?_)
  refine wp_seq_k (fun K1 hK1 => ?_)
  refine wp_region_lit ?_
  refine sqv hf (r_assign rfl) rfl rfl rfl ?_; clear hf fa; intro fa hf
  apply wpList_nil
  (try simp only [Exit.then, Exit.inBlock, ↓reduceIte, Nat.reduceEqDiff])
  refine hK1 _ _ ?_
  refine wp_seq_k (fun K2 hK2 => ?_)
  refine wp_seq_k (fun K3 hK3 => ?_)
  refine wp_region_lit ?_
  refine sqv hf (r_move rfl) rfl rfl rfl ?_; clear hf fa; intro fa hf
  apply wpList_nil
  (try simp only [Exit.then, Exit.inBlock, ↓reduceIte, Nat.reduceEqDiff])
  refine hK3 _ _ ?_
  refine wp_block ?_
  refine wp_seq_k (fun K4 hK4 => ?_)
  refine wp_region_lit ?_
  refine sqv hf (r_eq rfl rfl) rfl rfl rfl ?_; clear hf fa; intro fa hf
  refine sqv hf (r_assign rfl) rfl rfl rfl ?_; clear hf fa; intro fa hf
  apply wpList_nil
  (try simp only [Exit.then, Exit.inBlock, ↓reduceIte, Nat.reduceEqDiff])
  refine hK4 _ _ ?_
  refine wp_cond_split (t := (decide (((c : Nat) : Int) = (110 : Int)))) (hf.ev rfl) (fun hqt16_1 => ?_) (fun hqt16_1 => ?_)
  · have hqt16_1b := hqt16_1
    try simp only [decide_eq_true_eq, Bool.and_eq_true, Bool.or_eq_true, Bool.not_eq_true', decide_eq_false_iff_not, ne_eq, Bool.not_eq_true] at hqt16_1
    refine wp_seq_k (fun K5 hK5 => ?_)
    refine wp_region_lit ?_
    refine sqv hf (r_move rfl) rfl rfl rfl ?_; clear hf fa; intro fa hf
    refine sqdt hf (d_callB (vs := [(.string p)]) rfl Try.func25 (by kernel_rfl) (by kernel_rfl) (number_any p _ (by omega))) rfl rfl rfl ?_; clear hf fa; rintro fa _ w1 ⟨rfl, he1⟩ hf
    replace hk := blk_ext hk he1
    replace hrN := Row.ext hrN he1
    replace hrS := Row.ext hrS he1
    replace hrA := Row.ext hrA he1
    replace hrD := Row.ext hrD he1
    replace hb := hb.trans (Below.mono he1 hb.size)
    refine sqv hf (r_move rfl) rfl rfl rfl ?_; clear hf fa; intro fa hf
    refine sqv hf (r_extract rfl (i := 0) rfl) rfl rfl rfl ?_; clear hf fa; intro fa hf
    refine sqv hf (r_extract rfl (i := 1) rfl) rfl rfl rfl ?_; clear hf fa; intro fa hf
    refine sqv hf (r_assign rfl) rfl rfl rfl ?_; clear hf fa; intro fa hf
    refine sqv hf (r_assign rfl) rfl rfl rfl ?_; clear hf fa; intro fa hf
    apply wpList_nil
    (try simp only [Exit.then, Exit.inBlock, ↓reduceIte, Nat.reduceEqDiff])
    refine hK5 _ _ ?_
    refine wp_seq_k (fun K6 hK6 => ?_)
    refine wp_region_lit ?_
    refine sqv hf (r_move rfl) rfl rfl rfl ?_; clear hf fa; intro fa hf
    refine sqv hf (r_move rfl) rfl rfl rfl ?_; clear hf fa; intro fa hf
    refine sqv hf (r_nilCheck rfl) rfl rfl rfl ?_; clear hf fa; intro fa hf
    refine sqv hf (r_fa rfl Try.underlying45 (f := 1) (q := 1) rfl (by kernel_rfl) rfl) rfl rfl rfl ?_; clear hf fa; intro fa hf
    refine sqv hf (r_load (v := (.slice aN st.N.length cN)) rfl Try.underlying41 rfl (cell_blk hk rfl)) rfl rfl rfl ?_; clear hf fa; intro fa hf
    refine sqv hf (r_move rfl) rfl rfl rfl ?_; clear hf fa; intro fa hf
    refine sqdt hf (d_bslice (z := (.int .i64 (0 : Int))) (sz := 1) (vs := [(0, (.int .i64 ((numP (bl p)).1)))]) (cs := #[(.int .i64 ((numP (bl p)).1))]) rfl Try.underlying41 (by kernel_rfl) rfl (by kernel_rfl)) rfl rfl rfl ?_; clear hf fa; rintro fa _ w2 ⟨b1, rfl, hle1, hk1, he2⟩ hf
    have hBb1 : w0.heap.size ≤ b1 := Nat.le_trans hb.size hle1
    have : b < b1 := Nat.lt_of_lt_of_le (blk_lt hk) hle1
    have hnr1 : (Value.slice aN (st.N.length) cN).ownBlock ≠ some b1 := fun hq => by have := (Row.lt hrN _ hq).2; omega
    have hnl1 : ∀ q, (Value.slice aN (st.N.length) cN).ownBlock = some q → q < b1 := fun q hq => Nat.lt_of_lt_of_le (Row.lt hrN q hq).2 hle1
    replace hk := blk_ext hk he2
    replace hrN := Row.ext hrN he2
    replace hrS := Row.ext hrS he2
    replace hrA := Row.ext hrA he2
    replace hrD := Row.ext hrD he2
    replace hb := hb.trans (Below.mono he2 hb.size)
    have hs1 := Row.rd (by intros; rfl) (Row.of_new (k := 1) (V := (vInt .i64)) (l := [((numP (bl p)).1)]) hk1 (Nat.le_refl _) rfl rfl (Nat.le_of_ble_eq_true rfl))
    refine sqdt hf (d_append (V := (vInt .i64)) (k := 1) (e := 3) (bytes := 8) (z := (.int .i64 (0 : Int))) (news := [((numP (bl p)).1)]) (base := w0.heap.size) (by intros; rfl) (by intro x u hu; simp only [vInt, List.mem_singleton] at hu; subst hu; rfl) rfl rfl Try.underlying41 (by kernel_rfl) rfl rfl rfl hrN hs1 rfl (fun h => by cases h) (by first | omega | (simp only [List.length_cons, List.length_nil, List.length_append, nums_len]; omega)) (by have := hb.size; omega)) rfl rfl rfl ?_; clear hf fa; rintro fa v w3 ⟨hr1, hg1⟩ hf; obtain ⟨ra1, rc1, rfl, hcrc1, hmrc1⟩ := Row.slice hr1
    replace hk := blk_row' hk hg1 (Row.ne_type hrN hk rfl)
    replace hrS := Row.grown' hrS hg1 (Row.ne_row hrS hrN rfl)
    replace hrA := Row.grown' hrA hg1 (Row.ne_row hrA hrN rfl)
    replace hrD := Row.grown' hrD hg1 (Row.ne_row hrD hrN rfl)
    replace hb := hb.trans (row_below hrN hg1 hb.size (by have := hb.size; omega))
    refine sqv hf (r_nilCheck rfl) rfl rfl rfl ?_; clear hf fa; intro fa hf
    refine sqv hf (r_fa rfl Try.underlying45 (f := 1) (q := 1) rfl (by kernel_rfl) rfl) rfl rfl rfl ?_; clear hf fa; intro fa hf
    refine sqn hf (d_storeK (T := 45) (v := (.slice ra1 (((st.N ++ [((numP (bl p)).1)])).length) rc1)) (cs := #[(.int .i64 k), (.slice aN st.N.length cN), (.slice aS st.S.length cS), (.slice aA st.A.length cA), (.slice aD st.D.length cD)]) (cs' := #[(.int .i64 k), (.slice ra1 (((st.N ++ [((numP (bl p)).1)])).length) rc1), (.slice aS st.S.length cS), (.slice aA st.A.length cA), (.slice aD st.D.length cD)]) rfl rfl (by kernel_rfl) (by kernel_rfl) hk (by kernel_rfl) (by kernel_rfl)) rfl rfl ?_; clear hf fa; rintro fa _ w4 ⟨hk2, hg2⟩ hf
    replace hr1 := Row.grown hr1 hg2 (Row.ne_type hr1 hk rfl)
    replace hrS := Row.grown hrS hg2 (Row.ne_type hrS hk rfl)
    replace hrA := Row.grown hrA hg2 (Row.ne_type hrA hk rfl)
    replace hrD := Row.grown hrD hg2 (Row.ne_type hrD hk rfl)
    replace hb := hb.trans (grown_below hg2 hb.size hBb)
    apply wpList_nil
    (try simp only [Exit.then, Exit.inBlock, ↓reduceIte, Nat.reduceEqDiff])
    refine hK6 _ _ ?_
    refine wp_seq_k (fun K7 hK7 => ?_)
    refine wp_region_lit ?_
    refine sqv hf (r_move rfl) rfl rfl rfl ?_; clear hf fa; intro fa hf
    refine sqv hf (r_assign rfl) rfl rfl rfl ?_; clear hf fa; intro fa hf
    apply wpList_nil
    (try simp only [Exit.then, Exit.inBlock, ↓reduceIte, Nat.reduceEqDiff])
    refine hK7 _ _ ?_
    refine wp_ret ?_
    (try simp only [Exit.then, Exit.inBlock])
    refine ret1 hf rfl rfl ?_
    rw [(take_n (by have h := hqt16_1; omega))]; exact ⟨_, rfl, rfl, ⟨ra1, rc1, aS, cS, aA, cA, aD, cD, hk2, hr1, hrS, hrA, hrD⟩, hb⟩
  · have hqt16_1b := hqt16_1
    replace hqt16_1 := Bool.eq_false_iff.1 hqt16_1
    try simp only [ne_eq, decide_eq_true_eq, Bool.and_eq_true, Bool.or_eq_true, Bool.not_eq_true', decide_eq_false_iff_not] at hqt16_1
    refine wp_seq_k (fun K8 hK8 => ?_)
    refine wp_region_lit ?_
    refine sqv hf (r_eq rfl rfl) rfl rfl rfl ?_; clear hf fa; intro fa hf
    refine sqv hf (r_assign rfl) rfl rfl rfl ?_; clear hf fa; intro fa hf
    apply wpList_nil
    (try simp only [Exit.then, Exit.inBlock, ↓reduceIte, Nat.reduceEqDiff])
    refine hK8 _ _ ?_
    refine wp_cond_split (t := (decide (((c : Nat) : Int) = (115 : Int)))) (hf.ev rfl) (fun hqt34_1 => ?_) (fun hqt34_1 => ?_)
    · have hqt34_1b := hqt34_1
      try simp only [decide_eq_true_eq, Bool.and_eq_true, Bool.or_eq_true, Bool.not_eq_true', decide_eq_false_iff_not, ne_eq, Bool.not_eq_true] at hqt34_1
      refine wp_seq_k (fun K9 hK9 => ?_)
      refine wp_region_lit ?_
      refine sqv hf (r_move rfl) rfl rfl rfl ?_; clear hf fa; intro fa hf
      refine sqdt hf (d_callB (vs := [(.string p)]) rfl Try.func87 (by kernel_rfl) (by kernel_rfl) (read_any p _ (by omega))) rfl rfl rfl ?_; clear hf fa; rintro fa _ w5 ⟨rfl, he3⟩ hf
      replace hk := blk_ext hk he3
      replace hrN := Row.ext hrN he3
      replace hrS := Row.ext hrS he3
      replace hrA := Row.ext hrA he3
      replace hrD := Row.ext hrD he3
      replace hb := hb.trans (Below.mono he3 hb.size)
      refine sqv hf (r_move rfl) rfl rfl rfl ?_; clear hf fa; intro fa hf
      refine sqv hf (r_extract rfl (i := 0) rfl) rfl rfl rfl ?_; clear hf fa; intro fa hf
      refine sqv hf (r_extract rfl (i := 1) rfl) rfl rfl rfl ?_; clear hf fa; intro fa hf
      refine sqv hf (r_assign rfl) rfl rfl rfl ?_; clear hf fa; intro fa hf
      refine sqv hf (r_assign rfl) rfl rfl rfl ?_; clear hf fa; intro fa hf
      apply wpList_nil
      (try simp only [Exit.then, Exit.inBlock, ↓reduceIte, Nat.reduceEqDiff])
      refine hK9 _ _ ?_
      refine wp_seq_k (fun K10 hK10 => ?_)
      refine wp_region_lit ?_
      refine sqv hf (r_move rfl) rfl rfl rfl ?_; clear hf fa; intro fa hf
      refine sqv hf (r_move rfl) rfl rfl rfl ?_; clear hf fa; intro fa hf
      refine sqv hf (r_nilCheck rfl) rfl rfl rfl ?_; clear hf fa; intro fa hf
      refine sqv hf (r_fa rfl Try.underlying45 (f := 2) (q := 2) rfl (by kernel_rfl) rfl) rfl rfl rfl ?_; clear hf fa; intro fa hf
      refine sqv hf (r_load (v := (.slice aS st.S.length cS)) rfl Try.underlying32 rfl (cell_blk hk rfl)) rfl rfl rfl ?_; clear hf fa; intro fa hf
      refine sqv hf (r_move rfl) rfl rfl rfl ?_; clear hf fa; intro fa hf
      refine sqdt hf (d_bslice (z := (.string ⟨#[]⟩)) (sz := 1) (vs := [(0, (.string (strN (readP (bl p)).1)))]) (cs := #[(.string (strN (readP (bl p)).1))]) rfl Try.underlying32 (by kernel_rfl) rfl (by kernel_rfl)) rfl rfl rfl ?_; clear hf fa; rintro fa _ w6 ⟨b2, rfl, hle2, hk3, he4⟩ hf
      have hBb2 : w0.heap.size ≤ b2 := Nat.le_trans hb.size hle2
      have : b < b2 := Nat.lt_of_lt_of_le (blk_lt hk) hle2
      have hnr2 : (Value.slice aS (st.S.length) cS).ownBlock ≠ some b2 := fun hq => by have := (Row.lt hrS _ hq).2; omega
      have hnl2 : ∀ q, (Value.slice aS (st.S.length) cS).ownBlock = some q → q < b2 := fun q hq => Nat.lt_of_lt_of_le (Row.lt hrS q hq).2 hle2
      replace hk := blk_ext hk he4
      replace hrN := Row.ext hrN he4
      replace hrS := Row.ext hrS he4
      replace hrA := Row.ext hrA he4
      replace hrD := Row.ext hrD he4
      replace hb := hb.trans (Below.mono he4 hb.size)
      have hs2 := Row.rd (by intros; rfl) (Row.of_new (k := 1) (V := vStr) (l := [(strN (readP (bl p)).1)]) hk3 (Nat.le_refl _) rfl rfl (Nat.le_of_ble_eq_true rfl))
      refine sqdt hf (d_append (V := vStr) (k := 1) (e := 9) (bytes := 16) (z := (.string ⟨#[]⟩)) (news := [(strN (readP (bl p)).1)]) (base := w0.heap.size) (by intros; rfl) (by intro x u hu; simp only [vStr, List.mem_singleton] at hu; subst hu; rfl) rfl rfl Try.underlying32 (by kernel_rfl) rfl rfl rfl hrS hs2 rfl (fun h => by cases h) (by first | omega | (simp only [List.length_cons, List.length_nil, List.length_append, nums_len]; omega)) (by have := hb.size; omega)) rfl rfl rfl ?_; clear hf fa; rintro fa v w7 ⟨hr2, hg3⟩ hf; obtain ⟨ra2, rc2, rfl, hcrc2, hmrc2⟩ := Row.slice hr2
      replace hk := blk_row' hk hg3 (Row.ne_type hrS hk rfl)
      replace hrN := Row.grown' hrN hg3 (Row.ne_row hrN hrS rfl)
      replace hrA := Row.grown' hrA hg3 (Row.ne_row hrA hrS rfl)
      replace hrD := Row.grown' hrD hg3 (Row.ne_row hrD hrS rfl)
      replace hb := hb.trans (row_below hrS hg3 hb.size (by have := hb.size; omega))
      refine sqv hf (r_nilCheck rfl) rfl rfl rfl ?_; clear hf fa; intro fa hf
      refine sqv hf (r_fa rfl Try.underlying45 (f := 2) (q := 2) rfl (by kernel_rfl) rfl) rfl rfl rfl ?_; clear hf fa; intro fa hf
      refine sqn hf (d_storeK (T := 45) (v := (.slice ra2 (((st.S ++ [(strN (readP (bl p)).1)])).length) rc2)) (cs := #[(.int .i64 k), (.slice aN st.N.length cN), (.slice aS st.S.length cS), (.slice aA st.A.length cA), (.slice aD st.D.length cD)]) (cs' := #[(.int .i64 k), (.slice aN st.N.length cN), (.slice ra2 (((st.S ++ [(strN (readP (bl p)).1)])).length) rc2), (.slice aA st.A.length cA), (.slice aD st.D.length cD)]) rfl rfl (by kernel_rfl) (by kernel_rfl) hk (by kernel_rfl) (by kernel_rfl)) rfl rfl ?_; clear hf fa; rintro fa _ w8 ⟨hk4, hg4⟩ hf
      replace hrN := Row.grown hrN hg4 (Row.ne_type hrN hk rfl)
      replace hr2 := Row.grown hr2 hg4 (Row.ne_type hr2 hk rfl)
      replace hrA := Row.grown hrA hg4 (Row.ne_type hrA hk rfl)
      replace hrD := Row.grown hrD hg4 (Row.ne_type hrD hk rfl)
      replace hb := hb.trans (grown_below hg4 hb.size hBb)
      apply wpList_nil
      (try simp only [Exit.then, Exit.inBlock, ↓reduceIte, Nat.reduceEqDiff])
      refine hK10 _ _ ?_
      refine wp_seq_k (fun K11 hK11 => ?_)
      refine wp_region_lit ?_
      refine sqv hf (r_move rfl) rfl rfl rfl ?_; clear hf fa; intro fa hf
      refine sqv hf (r_assign rfl) rfl rfl rfl ?_; clear hf fa; intro fa hf
      apply wpList_nil
      (try simp only [Exit.then, Exit.inBlock, ↓reduceIte, Nat.reduceEqDiff])
      refine hK11 _ _ ?_
      refine wp_ret ?_
      (try simp only [Exit.then, Exit.inBlock])
      refine ret1 hf rfl rfl ?_
      rw [(take_s (by have h := hqt34_1; omega))]; exact ⟨_, rfl, rfl, ⟨aN, cN, ra2, rc2, aA, cA, aD, cD, hk4, hrN, hr2, hrA, hrD⟩, hb⟩
    · have hqt34_1b := hqt34_1
      replace hqt34_1 := Bool.eq_false_iff.1 hqt34_1
      try simp only [ne_eq, decide_eq_true_eq, Bool.and_eq_true, Bool.or_eq_true, Bool.not_eq_true', decide_eq_false_iff_not] at hqt34_1
      refine wp_seq_k (fun K12 hK12 => ?_)
      refine wp_region_lit ?_
      refine sqv hf (r_eq rfl rfl) rfl rfl rfl ?_; clear hf fa; intro fa hf
      refine sqv hf (r_assign rfl) rfl rfl rfl ?_; clear hf fa; intro fa hf
      apply wpList_nil
      (try simp only [Exit.then, Exit.inBlock, ↓reduceIte, Nat.reduceEqDiff])
      refine hK12 _ _ ?_
      refine wp_cond_split (t := (decide (((c : Nat) : Int) = (100 : Int)))) (hf.ev rfl) (fun hqt52_1 => ?_) (fun hqt52_1 => ?_)
      · have hqt52_1b := hqt52_1
        try simp only [decide_eq_true_eq, Bool.and_eq_true, Bool.or_eq_true, Bool.not_eq_true', decide_eq_false_iff_not, ne_eq, Bool.not_eq_true] at hqt52_1
        refine wp_seq_k (fun K13 hK13 => ?_)
        refine wp_region_lit ?_
        refine sqv hf (r_move rfl) rfl rfl rfl ?_; clear hf fa; intro fa hf
        refine sqdt hf (d_callX (vs := [(.string p)]) rfl Try.func29 (by kernel_rfl) (by kernel_rfl) (readhex_y p w hp)) rfl rfl rfl ?_; clear hf fa; rintro fa _ w9 ⟨⟨ra3, rc3, rfl, hr3⟩, he5⟩ hf
        replace hr3 := Row.rebase hr3 hb.size
        replace hk := blk_ext hk he5
        replace hrN := Row.ext hrN he5
        replace hrS := Row.ext hrS he5
        replace hrA := Row.ext hrA he5
        replace hrD := Row.ext hrD he5
        replace hb := hb.trans (Below.mono he5 hb.size)
        refine sqv hf (r_move rfl) rfl rfl rfl ?_; clear hf fa; intro fa hf
        refine sqv hf (r_extract rfl (i := 0) rfl) rfl rfl rfl ?_; clear hf fa; intro fa hf
        refine sqv hf (r_extract rfl (i := 1) rfl) rfl rfl rfl ?_; clear hf fa; intro fa hf
        refine sqv hf (r_assign rfl) rfl rfl rfl ?_; clear hf fa; intro fa hf
        refine sqv hf (r_assign rfl) rfl rfl rfl ?_; clear hf fa; intro fa hf
        apply wpList_nil
        (try simp only [Exit.then, Exit.inBlock, ↓reduceIte, Nat.reduceEqDiff])
        refine hK13 _ _ ?_
        refine wp_seq_k (fun K14 hK14 => ?_)
        refine wp_region_lit ?_
        refine sqv hf (r_move rfl) rfl rfl rfl ?_; clear hf fa; intro fa hf
        refine sqv hf (r_move rfl) rfl rfl rfl ?_; clear hf fa; intro fa hf
        refine sqv hf (r_nilCheck rfl) rfl rfl rfl ?_; clear hf fa; intro fa hf
        refine sqv hf (r_fa rfl Try.underlying45 (f := 4) (q := 4) rfl (by kernel_rfl) rfl) rfl rfl rfl ?_; clear hf fa; intro fa hf
        refine sqn hf (d_storeK (T := 45) (v := (.slice ra3 ((hexP (bl p)).1.length) rc3)) (cs := #[(.int .i64 k), (.slice aN st.N.length cN), (.slice aS st.S.length cS), (.slice aA st.A.length cA), (.slice aD st.D.length cD)]) (cs' := #[(.int .i64 k), (.slice aN st.N.length cN), (.slice aS st.S.length cS), (.slice aA st.A.length cA), (.slice ra3 ((hexP (bl p)).1.length) rc3)]) rfl rfl (by kernel_rfl) (by kernel_rfl) hk (by kernel_rfl) (by kernel_rfl)) rfl rfl ?_; clear hf fa; rintro fa _ w10 ⟨hk5, hg5⟩ hf
        replace hrN := Row.grown hrN hg5 (Row.ne_type hrN hk rfl)
        replace hrS := Row.grown hrS hg5 (Row.ne_type hrS hk rfl)
        replace hrA := Row.grown hrA hg5 (Row.ne_type hrA hk rfl)
        replace hrD := Row.grown hrD hg5 (Row.ne_type hrD hk rfl)
        replace hr3 := Row.grown hr3 hg5 (Row.ne_type hr3 hk rfl)
        replace hb := hb.trans (grown_below hg5 hb.size hBb)
        apply wpList_nil
        (try simp only [Exit.then, Exit.inBlock, ↓reduceIte, Nat.reduceEqDiff])
        refine hK14 _ _ ?_
        refine wp_seq_k (fun K15 hK15 => ?_)
        refine wp_region_lit ?_
        refine sqv hf (r_move rfl) rfl rfl rfl ?_; clear hf fa; intro fa hf
        refine sqv hf (r_assign rfl) rfl rfl rfl ?_; clear hf fa; intro fa hf
        apply wpList_nil
        (try simp only [Exit.then, Exit.inBlock, ↓reduceIte, Nat.reduceEqDiff])
        refine hK15 _ _ ?_
        refine wp_ret ?_
        (try simp only [Exit.then, Exit.inBlock])
        refine ret1 hf rfl rfl ?_
        rw [(take_d (by have h := hqt52_1; omega))]; exact ⟨_, rfl, rfl, ⟨aN, cN, aS, cS, aA, cA, ra3, rc3, hk5, hrN, hrS, hrA, hr3⟩, hb⟩
      · have hqt52_1b := hqt52_1
        replace hqt52_1 := Bool.eq_false_iff.1 hqt52_1
        try simp only [ne_eq, decide_eq_true_eq, Bool.and_eq_true, Bool.or_eq_true, Bool.not_eq_true', decide_eq_false_iff_not] at hqt52_1
        refine wp_skip ?_
        (try simp only [Exit.then, Exit.inBlock, ↓reduceIte, Nat.reduceEqDiff])
        refine hK2 _ _ ?_
        refine wp_seq_k (fun K16 hK16 => ?_)
        refine wp_region_lit ?_
        refine sqv hf (r_move rfl) rfl rfl rfl ?_; clear hf fa; intro fa hf
        refine sqdt hf (d_callB (vs := [(.string p)]) rfl Try.func27 (by kernel_rfl) (by kernel_rfl) (readvalue_any p _ (by omega))) rfl rfl rfl ?_; clear hf fa; rintro fa _ w11 ⟨rfl, he6⟩ hf
        replace hk := blk_ext hk he6
        replace hrN := Row.ext hrN he6
        replace hrS := Row.ext hrS he6
        replace hrA := Row.ext hrA he6
        replace hrD := Row.ext hrD he6
        replace hb := hb.trans (Below.mono he6 hb.size)
        refine sqv hf (r_move rfl) rfl rfl rfl ?_; clear hf fa; intro fa hf
        refine sqv hf (r_extract rfl (i := 0) rfl) rfl rfl rfl ?_; clear hf fa; intro fa hf
        refine sqv hf (r_extract rfl (i := 1) rfl) rfl rfl rfl ?_; clear hf fa; intro fa hf
        refine sqdt hf (d_alloc (z := (.agg #[(.int .u8 (0 : Int)), (.int .u64 (0 : Int))])) (cs := #[(.int .u8 (0 : Int)), (.int .u64 (0 : Int))]) (by kernel_rfl) rfl) rfl rfl rfl ?_; clear hf fa; rintro fa _ w12 ⟨b3, rfl, hle3, hk6, he7⟩ hf
        have hBb3 : w0.heap.size ≤ b3 := Nat.le_trans hb.size hle3
        have : b < b3 := Nat.lt_of_lt_of_le (blk_lt hk) hle3
        have hnr3 : (Value.slice aA (st.A.length) cA).ownBlock ≠ some b3 := fun hq => by have := (Row.lt hrA _ hq).2; omega
        have hnl3 : ∀ q, (Value.slice aA (st.A.length) cA).ownBlock = some q → q < b3 := fun q hq => Nat.lt_of_lt_of_le (Row.lt hrA q hq).2 hle3
        replace hk := blk_ext hk he7
        replace hrN := Row.ext hrN he7
        replace hrS := Row.ext hrS he7
        replace hrA := Row.ext hrA he7
        replace hrD := Row.ext hrD he7
        replace hb := hb.trans (Below.mono he7 hb.size)
        refine sqn hf (d_storeK (T := 65) (v := (.agg #[(.int .u8 ((rdV p).1.1)), (.int .u64 ((rdV p).1.2.1))])) (cs := #[(.int .u8 (0 : Int)), (.int .u64 (0 : Int))]) (cs' := #[(.int .u8 ((rdV p).1.1)), (.int .u64 ((rdV p).1.2.1))]) rfl rfl (by kernel_rfl) (by kernel_rfl) hk6 (by kernel_rfl) (by kernel_rfl)) rfl rfl ?_; clear hf fa; rintro fa _ w13 ⟨hk7, hg6⟩ hf
        replace hk := blk_grown hk hg6 (by omega)
        replace hrN := Row.grown hrN hg6 (Row.ne_type hrN hk6 rfl)
        replace hrS := Row.grown hrS hg6 (Row.ne_type hrS hk6 rfl)
        replace hrA := Row.grown hrA hg6 hnr3
        replace hrD := Row.grown hrD hg6 (Row.ne_type hrD hk6 rfl)
        replace hb := hb.trans (grown_below hg6 hb.size hBb3)
        refine sqv hf (r_assign rfl) rfl rfl rfl ?_; clear hf fa; intro fa hf
        apply wpList_nil
        (try simp only [Exit.then, Exit.inBlock, ↓reduceIte, Nat.reduceEqDiff])
        refine hK16 _ _ ?_
        refine wp_seq_k (fun K17 hK17 => ?_)
        have hlW : b < w13.heap.size := blk_lt hk
        have hlV := fun q (hq : ((Value.slice aA st.A.length cA)).ownBlock = some q) => (Row.lt hrA q hq).2
        refine wp_region_vnT 8 (fun S wq => GO w13 b (Value.slice aA st.A.length cA) wq ∧ (¬ S 7 → Row 2 vMVal 65 (w0.heap.size) wq (Value.slice aA st.A.length cA) st.A) ∧ (¬ S 4 → wq.heap[b]? = some (.cells #[(.int .i64 k), (.slice aN st.N.length cN), (.slice aS st.S.length cS), (.slice aA st.A.length cA), (.slice aD st.D.length cD)] 45 (0, 0))) ∧ (S 4 → wq.heap[b]? = some (.cells #[(.int .i64 k), (.slice aN st.N.length cN), (.slice aS st.S.length cS), (.slice aA st.A.length cA), (.slice aD st.D.length cD)] 45 (0, 0))))
          (fun V S => [(fun x _ => x = (.pointer (some ⟨b, 0, none⟩))), (fun x _ => x = (.pointer (some ⟨b, 0, none⟩))), (fun x _ => x = (.pointer (some ⟨b, 0, none⟩))), (fun x _ => x = (.pointer (some ⟨b, 3, none⟩))), (fun x _ => x = (.slice aA st.A.length cA)), (fun x _ => x = (.agg #[(.int .u8 ((rdV p).1.1)), (.int .u64 ((rdV p).1.2.1))])), (fun x wq => ∃ b, x = .slice (some ⟨b, 0, none⟩) 1 1 ∧ w13.heap.size ≤ b ∧ wq.heap[b]? = some (.cells #[(.int .u8 ((rdV p).1.1)), (.int .u64 ((rdV p).1.2.1))] 65 (0, 0))), (fun x wq => ∃ a c, x = .slice a (st.A ++ [(rdV p).1]).length c ∧ Row 2 vMVal 65 (w0.heap.size) wq x (st.A ++ [(rdV p).1]))])
          [6]
          [[], [], [1], [2], [3], [], [5], [4, 6], [], [], []]
          hf (by kernel_rfl) (by kernel_rfl) (by kernel_rfl) (fun _ _ => rfl) (fun S hS => ⟨(GO.refl _ _ _).below (Below.refl _ _).drew, fun _ => Row.ext hrA (Below.refl _ _).drew, fun _ => blk_ext hk (Below.refl _ _).drew, fun h => absurd h (hS _)⟩) (fun _ _ _ _ _ _ => rfl) ?_ ?_
        · skip
          intro V
          have hKP : ∀ (i : Nat) (S : Nat → Prop) (wk : World), ∀ j v w', (((fun (S : Nat → Prop) => ([(fun x _ => x = (.pointer (some ⟨b, 0, none⟩))), (fun x _ => x = (.pointer (some ⟨b, 0, none⟩))), (fun x _ => x = (.pointer (some ⟨b, 0, none⟩))), (fun x _ => x = (.pointer (some ⟨b, 3, none⟩))), (fun x _ => x = (.slice aA st.A.length cA)), (fun x _ => x = (.agg #[(.int .u8 ((rdV p).1.1)), (.int .u64 ((rdV p).1.2.1))])), (fun x wq => ∃ b, x = .slice (some ⟨b, 0, none⟩) 1 1 ∧ w13.heap.size ≤ b ∧ wq.heap[b]? = some (.cells #[(.int .u8 ((rdV p).1.1)), (.int .u64 ((rdV p).1.2.1))] 65 (0, 0))), (fun x wq => ∃ a c, x = .slice a (st.A ++ [(rdV p).1]).length c ∧ Row 2 vMVal 65 (w0.heap.size) wq x (st.A ++ [(rdV p).1]))] : List (Value → World → Prop))) S).getD j (fun _ _ => True)) v wk → Below wk.heap.size wk w' → (((fun (S : Nat → Prop) => ([(fun x _ => x = (.pointer (some ⟨b, 0, none⟩))), (fun x _ => x = (.pointer (some ⟨b, 0, none⟩))), (fun x _ => x = (.pointer (some ⟨b, 0, none⟩))), (fun x _ => x = (.pointer (some ⟨b, 3, none⟩))), (fun x _ => x = (.slice aA st.A.length cA)), (fun x _ => x = (.agg #[(.int .u8 ((rdV p).1.1)), (.int .u64 ((rdV p).1.2.1))])), (fun x wq => ∃ b, x = .slice (some ⟨b, 0, none⟩) 1 1 ∧ w13.heap.size ≤ b ∧ wq.heap[b]? = some (.cells #[(.int .u8 ((rdV p).1.1)), (.int .u64 ((rdV p).1.2.1))] 65 (0, 0))), (fun x wq => ∃ a c, x = .slice a (st.A ++ [(rdV p).1]).length c ∧ Row 2 vMVal 65 (w0.heap.size) wq x (st.A ++ [(rdV p).1]))] : List (Value → World → Prop))) (ad i S)).getD j (fun _ _ => True)) v w' := by
            intro i S wk j v w' h hB
            match j with
            | 0 =>
              exact h
            | 1 =>
              exact h
            | 2 =>
              exact h
            | 3 =>
              exact h
            | 4 =>
              exact h
            | 5 =>
              exact h
            | 6 =>
              obtain ⟨b, e1, e2, e3⟩ := h
              exact ⟨b, e1, e2, blk_ext e3 hB⟩
            | 7 =>
              exact keptApp _ _ _ h hB
            | _ + 8 => trivial
          refine ⟨fun S wu0 hC hS hd hi => ?_, ?_⟩
          · skip
            replace hC : GO w13 b (Value.slice aA st.A.length cA) wu0 ∧ (¬ S 7 → Row 2 vMVal 65 (w0.heap.size) wu0 (Value.slice aA st.A.length cA) st.A) ∧ (¬ S 4 → wu0.heap[b]? = some (.cells #[(.int .i64 k), (.slice aN st.N.length cN), (.slice aS st.S.length cS), (.slice aA st.A.length cA), (.slice aD st.D.length cD)] 45 (0, 0))) ∧ (S 4 → wu0.heap[b]? = some (.cells #[(.int .i64 k), (.slice aN st.N.length cN), (.slice aS st.S.length cS), (.slice aA st.A.length cA), (.slice aD st.D.length cD)] 45 (0, 0))) := hC
            refine uv_plain (C := (fun S wq => GO w13 b (Value.slice aA st.A.length cA) wq ∧ (¬ S 7 → Row 2 vMVal 65 (w0.heap.size) wq (Value.slice aA st.A.length cA) st.A) ∧ (¬ S 4 → wq.heap[b]? = some (.cells #[(.int .i64 k), (.slice aN st.N.length cN), (.slice aS st.S.length cS), (.slice aA st.A.length cA), (.slice aD st.D.length cD)] 45 (0, 0))) ∧ (S 4 → wq.heap[b]? = some (.cells #[(.int .i64 k), (.slice aN st.N.length cN), (.slice aS st.S.length cS), (.slice aA st.A.length cA), (.slice aD st.D.length cD)] 45 (0, 0))))) (hKP 0 S wu0) (fun w' h1 h2 => ⟨h1.1.below h2, fun hn => Row.ext (h1.2.1 (fun hs => hn (.inr hs))) h2, fun hn => blk_ext (h1.2.2.1 (fun hs => hn (.inr hs))) h2, fun hs => blk_ext (h1.2.2.2 (by rcases hs with e | hs; exact absurd e (by decide); exact hs)) h2⟩) hC hS ?_
            obtain ⟨hC, hCr, hCo, hCn⟩ := hC
            replace hk7 := blk_go hk7 hC (by omega) hnr3
            replace hrN := Row.go hrN hC (Row.ne_type hrN hk rfl) (Row.ne_row hrN hrA rfl)
            replace hrS := Row.go hrS hC (Row.ne_type hrS hk rfl) (Row.ne_row hrS hrA rfl)
            replace hrD := Row.go hrD hC (Row.ne_type hrD hk rfl) (Row.ne_row hrD hrA rfl)
            have hKb : wu0.heap[b]? = some (.cells #[(.int .i64 k), (.slice aN st.N.length cN), (.slice aS st.S.length cS), (.slice aA st.A.length cA), (.slice aD st.D.length cD)] 45 (0, 0)) := by by_cases hz : S 4; exact hCn hz; exact hCo hz
            replace hk := hKb
            exact Runs.does (r_move rfl) ⟨Below.refl _ _, rfl, nofr rfl⟩
          refine ⟨fun S wu1 hC hS hd hi => ?_, ?_⟩
          · skip
            replace hC : GO w13 b (Value.slice aA st.A.length cA) wu1 ∧ (¬ S 7 → Row 2 vMVal 65 (w0.heap.size) wu1 (Value.slice aA st.A.length cA) st.A) ∧ (¬ S 4 → wu1.heap[b]? = some (.cells #[(.int .i64 k), (.slice aN st.N.length cN), (.slice aS st.S.length cS), (.slice aA st.A.length cA), (.slice aD st.D.length cD)] 45 (0, 0))) ∧ (S 4 → wu1.heap[b]? = some (.cells #[(.int .i64 k), (.slice aN st.N.length cN), (.slice aS st.S.length cS), (.slice aA st.A.length cA), (.slice aD st.D.length cD)] 45 (0, 0))) := hC
            refine uv_plain (C := (fun S wq => GO w13 b (Value.slice aA st.A.length cA) wq ∧ (¬ S 7 → Row 2 vMVal 65 (w0.heap.size) wq (Value.slice aA st.A.length cA) st.A) ∧ (¬ S 4 → wq.heap[b]? = some (.cells #[(.int .i64 k), (.slice aN st.N.length cN), (.slice aS st.S.length cS), (.slice aA st.A.length cA), (.slice aD st.D.length cD)] 45 (0, 0))) ∧ (S 4 → wq.heap[b]? = some (.cells #[(.int .i64 k), (.slice aN st.N.length cN), (.slice aS st.S.length cS), (.slice aA st.A.length cA), (.slice aD st.D.length cD)] 45 (0, 0))))) (hKP 1 S wu1) (fun w' h1 h2 => ⟨h1.1.below h2, fun hn => Row.ext (h1.2.1 (fun hs => hn (.inr hs))) h2, fun hn => blk_ext (h1.2.2.1 (fun hs => hn (.inr hs))) h2, fun hs => blk_ext (h1.2.2.2 (by rcases hs with e | hs; exact absurd e (by decide); exact hs)) h2⟩) hC hS ?_
            obtain ⟨hC, hCr, hCo, hCn⟩ := hC
            replace hk7 := blk_go hk7 hC (by omega) hnr3
            replace hrN := Row.go hrN hC (Row.ne_type hrN hk rfl) (Row.ne_row hrN hrA rfl)
            replace hrS := Row.go hrS hC (Row.ne_type hrS hk rfl) (Row.ne_row hrS hrA rfl)
            replace hrD := Row.go hrD hC (Row.ne_type hrD hk rfl) (Row.ne_row hrD hrA rfl)
            have hKb : wu1.heap[b]? = some (.cells #[(.int .i64 k), (.slice aN st.N.length cN), (.slice aS st.S.length cS), (.slice aA st.A.length cA), (.slice aD st.D.length cD)] 45 (0, 0)) := by by_cases hz : S 4; exact hCn hz; exact hCo hz
            replace hk := hKb
            exact Runs.does (r_move rfl) ⟨Below.refl _ _, rfl, nofr rfl⟩
          refine ⟨fun S wu2 hC hS hd hi => ?_, ?_⟩
          · skip
            replace hC : GO w13 b (Value.slice aA st.A.length cA) wu2 ∧ (¬ S 7 → Row 2 vMVal 65 (w0.heap.size) wu2 (Value.slice aA st.A.length cA) st.A) ∧ (¬ S 4 → wu2.heap[b]? = some (.cells #[(.int .i64 k), (.slice aN st.N.length cN), (.slice aS st.S.length cS), (.slice aA st.A.length cA), (.slice aD st.D.length cD)] 45 (0, 0))) ∧ (S 4 → wu2.heap[b]? = some (.cells #[(.int .i64 k), (.slice aN st.N.length cN), (.slice aS st.S.length cS), (.slice aA st.A.length cA), (.slice aD st.D.length cD)] 45 (0, 0))) := hC
            refine uv_plain (C := (fun S wq => GO w13 b (Value.slice aA st.A.length cA) wq ∧ (¬ S 7 → Row 2 vMVal 65 (w0.heap.size) wq (Value.slice aA st.A.length cA) st.A) ∧ (¬ S 4 → wq.heap[b]? = some (.cells #[(.int .i64 k), (.slice aN st.N.length cN), (.slice aS st.S.length cS), (.slice aA st.A.length cA), (.slice aD st.D.length cD)] 45 (0, 0))) ∧ (S 4 → wq.heap[b]? = some (.cells #[(.int .i64 k), (.slice aN st.N.length cN), (.slice aS st.S.length cS), (.slice aA st.A.length cA), (.slice aD st.D.length cD)] 45 (0, 0))))) (hKP 2 S wu2) (fun w' h1 h2 => ⟨h1.1.below h2, fun hn => Row.ext (h1.2.1 (fun hs => hn (.inr hs))) h2, fun hn => blk_ext (h1.2.2.1 (fun hs => hn (.inr hs))) h2, fun hs => blk_ext (h1.2.2.2 (by rcases hs with e | hs; exact absurd e (by decide); exact hs)) h2⟩) hC hS ?_
            obtain ⟨hC, hCr, hCo, hCn⟩ := hC
            have h1 := hS.post 1 (hd 1 (by decide))
            replace h1 : V 1 = (.pointer (some ⟨b, 0, none⟩)) := h1
            replace hk7 := blk_go hk7 hC (by omega) hnr3
            replace hrN := Row.go hrN hC (Row.ne_type hrN hk rfl) (Row.ne_row hrN hrA rfl)
            replace hrS := Row.go hrS hC (Row.ne_type hrS hk rfl) (Row.ne_row hrS hrA rfl)
            replace hrD := Row.go hrD hC (Row.ne_type hrD hk rfl) (Row.ne_row hrD hrA rfl)
            have hKb : wu2.heap[b]? = some (.cells #[(.int .i64 k), (.slice aN st.N.length cN), (.slice aS st.S.length cS), (.slice aA st.A.length cA), (.slice aD st.D.length cD)] 45 (0, 0)) := by by_cases hz : S 4; exact hCn hz; exact hCo hz
            replace hk := hKb
            exact Runs.does (r_nilCheck (congrArg some h1)) ⟨Below.refl _ _, rfl, nofr rfl⟩
          refine ⟨fun S wu3 hC hS hd hi => ?_, ?_⟩
          · skip
            replace hC : GO w13 b (Value.slice aA st.A.length cA) wu3 ∧ (¬ S 7 → Row 2 vMVal 65 (w0.heap.size) wu3 (Value.slice aA st.A.length cA) st.A) ∧ (¬ S 4 → wu3.heap[b]? = some (.cells #[(.int .i64 k), (.slice aN st.N.length cN), (.slice aS st.S.length cS), (.slice aA st.A.length cA), (.slice aD st.D.length cD)] 45 (0, 0))) ∧ (S 4 → wu3.heap[b]? = some (.cells #[(.int .i64 k), (.slice aN st.N.length cN), (.slice aS st.S.length cS), (.slice aA st.A.length cA), (.slice aD st.D.length cD)] 45 (0, 0))) := hC
            refine uv_plain (C := (fun S wq => GO w13 b (Value.slice aA st.A.length cA) wq ∧ (¬ S 7 → Row 2 vMVal 65 (w0.heap.size) wq (Value.slice aA st.A.length cA) st.A) ∧ (¬ S 4 → wq.heap[b]? = some (.cells #[(.int .i64 k), (.slice aN st.N.length cN), (.slice aS st.S.length cS), (.slice aA st.A.length cA), (.slice aD st.D.length cD)] 45 (0, 0))) ∧ (S 4 → wq.heap[b]? = some (.cells #[(.int .i64 k), (.slice aN st.N.length cN), (.slice aS st.S.length cS), (.slice aA st.A.length cA), (.slice aD st.D.length cD)] 45 (0, 0))))) (hKP 3 S wu3) (fun w' h1 h2 => ⟨h1.1.below h2, fun hn => Row.ext (h1.2.1 (fun hs => hn (.inr hs))) h2, fun hn => blk_ext (h1.2.2.1 (fun hs => hn (.inr hs))) h2, fun hs => blk_ext (h1.2.2.2 (by rcases hs with e | hs; exact absurd e (by decide); exact hs)) h2⟩) hC hS ?_
            obtain ⟨hC, hCr, hCo, hCn⟩ := hC
            have h2 := hS.post 2 (hd 2 (by decide))
            replace h2 : V 2 = (.pointer (some ⟨b, 0, none⟩)) := h2
            replace hk7 := blk_go hk7 hC (by omega) hnr3
            replace hrN := Row.go hrN hC (Row.ne_type hrN hk rfl) (Row.ne_row hrN hrA rfl)
            replace hrS := Row.go hrS hC (Row.ne_type hrS hk rfl) (Row.ne_row hrS hrA rfl)
            replace hrD := Row.go hrD hC (Row.ne_type hrD hk rfl) (Row.ne_row hrD hrA rfl)
            have hKb : wu3.heap[b]? = some (.cells #[(.int .i64 k), (.slice aN st.N.length cN), (.slice aS st.S.length cS), (.slice aA st.A.length cA), (.slice aD st.D.length cD)] 45 (0, 0)) := by by_cases hz : S 4; exact hCn hz; exact hCo hz
            replace hk := hKb
            exact Runs.does (r_fa (congrArg some h2) Try.underlying45 (f := 3) (q := 3) rfl (by kernel_rfl) rfl) ⟨Below.refl _ _, rfl, nofr rfl⟩
          refine ⟨fun S wu4 hC hS hd hi => ?_, ?_⟩
          · skip
            replace hC : GO w13 b (Value.slice aA st.A.length cA) wu4 ∧ (¬ S 7 → Row 2 vMVal 65 (w0.heap.size) wu4 (Value.slice aA st.A.length cA) st.A) ∧ (¬ S 4 → wu4.heap[b]? = some (.cells #[(.int .i64 k), (.slice aN st.N.length cN), (.slice aS st.S.length cS), (.slice aA st.A.length cA), (.slice aD st.D.length cD)] 45 (0, 0))) ∧ (S 4 → wu4.heap[b]? = some (.cells #[(.int .i64 k), (.slice aN st.N.length cN), (.slice aS st.S.length cS), (.slice aA st.A.length cA), (.slice aD st.D.length cD)] 45 (0, 0))) := hC
            refine uv_plain (C := (fun S wq => GO w13 b (Value.slice aA st.A.length cA) wq ∧ (¬ S 7 → Row 2 vMVal 65 (w0.heap.size) wq (Value.slice aA st.A.length cA) st.A) ∧ (¬ S 4 → wq.heap[b]? = some (.cells #[(.int .i64 k), (.slice aN st.N.length cN), (.slice aS st.S.length cS), (.slice aA st.A.length cA), (.slice aD st.D.length cD)] 45 (0, 0))) ∧ (S 4 → wq.heap[b]? = some (.cells #[(.int .i64 k), (.slice aN st.N.length cN), (.slice aS st.S.length cS), (.slice aA st.A.length cA), (.slice aD st.D.length cD)] 45 (0, 0))))) (hKP 4 S wu4) (fun w' h1 h2 => ⟨h1.1.below h2, fun hn => Row.ext (h1.2.1 (fun hs => hn (.inr hs))) h2, fun hn => absurd (.inl rfl) hn, fun _ => blk_ext (h1.2.2.1 hi) h2⟩) hC hS ?_
            obtain ⟨hC, hCr, hCo, hCn⟩ := hC
            have h3 := hS.post 3 (hd 3 (by decide))
            replace h3 : V 3 = (.pointer (some ⟨b, 3, none⟩)) := h3
            replace hk7 := blk_go hk7 hC (by omega) hnr3
            replace hrN := Row.go hrN hC (Row.ne_type hrN hk rfl) (Row.ne_row hrN hrA rfl)
            replace hrS := Row.go hrS hC (Row.ne_type hrS hk rfl) (Row.ne_row hrS hrA rfl)
            replace hrD := Row.go hrD hC (Row.ne_type hrD hk rfl) (Row.ne_row hrD hrA rfl)
            have hKb : wu4.heap[b]? = some (.cells #[(.int .i64 k), (.slice aN st.N.length cN), (.slice aS st.S.length cS), (.slice aA st.A.length cA), (.slice aD st.D.length cD)] 45 (0, 0)) := by by_cases hz : S 4; exact hCn hz; exact hCo hz
            replace hk := hKb
            exact Runs.does (r_load (v := (.slice aA st.A.length cA)) (congrArg some h3) Try.underlying42 rfl (cell_blk hk rfl)) ⟨Below.refl _ _, rfl, nofr rfl⟩
          refine ⟨fun S wu5 hC hS hd hi => ?_, ?_⟩
          · skip
            replace hC : GO w13 b (Value.slice aA st.A.length cA) wu5 ∧ (¬ S 7 → Row 2 vMVal 65 (w0.heap.size) wu5 (Value.slice aA st.A.length cA) st.A) ∧ (¬ S 4 → wu5.heap[b]? = some (.cells #[(.int .i64 k), (.slice aN st.N.length cN), (.slice aS st.S.length cS), (.slice aA st.A.length cA), (.slice aD st.D.length cD)] 45 (0, 0))) ∧ (S 4 → wu5.heap[b]? = some (.cells #[(.int .i64 k), (.slice aN st.N.length cN), (.slice aS st.S.length cS), (.slice aA st.A.length cA), (.slice aD st.D.length cD)] 45 (0, 0))) := hC
            refine uv_plain (C := (fun S wq => GO w13 b (Value.slice aA st.A.length cA) wq ∧ (¬ S 7 → Row 2 vMVal 65 (w0.heap.size) wq (Value.slice aA st.A.length cA) st.A) ∧ (¬ S 4 → wq.heap[b]? = some (.cells #[(.int .i64 k), (.slice aN st.N.length cN), (.slice aS st.S.length cS), (.slice aA st.A.length cA), (.slice aD st.D.length cD)] 45 (0, 0))) ∧ (S 4 → wq.heap[b]? = some (.cells #[(.int .i64 k), (.slice aN st.N.length cN), (.slice aS st.S.length cS), (.slice aA st.A.length cA), (.slice aD st.D.length cD)] 45 (0, 0))))) (hKP 5 S wu5) (fun w' h1 h2 => ⟨h1.1.below h2, fun hn => Row.ext (h1.2.1 (fun hs => hn (.inr hs))) h2, fun hn => blk_ext (h1.2.2.1 (fun hs => hn (.inr hs))) h2, fun hs => blk_ext (h1.2.2.2 (by rcases hs with e | hs; exact absurd e (by decide); exact hs)) h2⟩) hC hS ?_
            obtain ⟨hC, hCr, hCo, hCn⟩ := hC
            replace hk7 := blk_go hk7 hC (by omega) hnr3
            replace hrN := Row.go hrN hC (Row.ne_type hrN hk rfl) (Row.ne_row hrN hrA rfl)
            replace hrS := Row.go hrS hC (Row.ne_type hrS hk rfl) (Row.ne_row hrS hrA rfl)
            replace hrD := Row.go hrD hC (Row.ne_type hrD hk rfl) (Row.ne_row hrD hrA rfl)
            have hKb : wu5.heap[b]? = some (.cells #[(.int .i64 k), (.slice aN st.N.length cN), (.slice aS st.S.length cS), (.slice aA st.A.length cA), (.slice aD st.D.length cD)] 45 (0, 0)) := by by_cases hz : S 4; exact hCn hz; exact hCo hz
            replace hk := hKb
            exact Runs.does (r_loadA (cs := [(.int .u8 ((rdV p).1.1)), (.int .u64 ((rdV p).1.2.1))]) rfl Try.underlying65 rfl (by kernel_rfl) (cellsAt_blk hk7)) ⟨Below.refl _ _, rfl, nofr rfl⟩
          refine ⟨fun S wu6 hC hS hd hi => ?_, ?_⟩
          · skip
            replace hC : GO w13 b (Value.slice aA st.A.length cA) wu6 ∧ (¬ S 7 → Row 2 vMVal 65 (w0.heap.size) wu6 (Value.slice aA st.A.length cA) st.A) ∧ (¬ S 4 → wu6.heap[b]? = some (.cells #[(.int .i64 k), (.slice aN st.N.length cN), (.slice aS st.S.length cS), (.slice aA st.A.length cA), (.slice aD st.D.length cD)] 45 (0, 0))) ∧ (S 4 → wu6.heap[b]? = some (.cells #[(.int .i64 k), (.slice aN st.N.length cN), (.slice aS st.S.length cS), (.slice aA st.A.length cA), (.slice aD st.D.length cD)] 45 (0, 0))) := hC
            refine uv_plain (C := (fun S wq => GO w13 b (Value.slice aA st.A.length cA) wq ∧ (¬ S 7 → Row 2 vMVal 65 (w0.heap.size) wq (Value.slice aA st.A.length cA) st.A) ∧ (¬ S 4 → wq.heap[b]? = some (.cells #[(.int .i64 k), (.slice aN st.N.length cN), (.slice aS st.S.length cS), (.slice aA st.A.length cA), (.slice aD st.D.length cD)] 45 (0, 0))) ∧ (S 4 → wq.heap[b]? = some (.cells #[(.int .i64 k), (.slice aN st.N.length cN), (.slice aS st.S.length cS), (.slice aA st.A.length cA), (.slice aD st.D.length cD)] 45 (0, 0))))) (hKP 6 S wu6) (fun w' h1 h2 => ⟨h1.1.below h2, fun hn => Row.ext (h1.2.1 (fun hs => hn (.inr hs))) h2, fun hn => blk_ext (h1.2.2.1 (fun hs => hn (.inr hs))) h2, fun hs => blk_ext (h1.2.2.2 (by rcases hs with e | hs; exact absurd e (by decide); exact hs)) h2⟩) hC hS ?_
            obtain ⟨hC, hCr, hCo, hCn⟩ := hC
            have h5 := hS.post 5 (hd 5 (by decide))
            replace h5 : V 5 = (.agg #[(.int .u8 ((rdV p).1.1)), (.int .u64 ((rdV p).1.2.1))]) := h5
            replace hk7 := blk_go hk7 hC (by omega) hnr3
            replace hrN := Row.go hrN hC (Row.ne_type hrN hk rfl) (Row.ne_row hrN hrA rfl)
            replace hrS := Row.go hrS hC (Row.ne_type hrS hk rfl) (Row.ne_row hrS hrA rfl)
            replace hrD := Row.go hrD hC (Row.ne_type hrD hk rfl) (Row.ne_row hrD hrA rfl)
            have hKb : wu6.heap[b]? = some (.cells #[(.int .i64 k), (.slice aN st.N.length cN), (.slice aS st.S.length cS), (.slice aA st.A.length cA), (.slice aD st.D.length cD)] 45 (0, 0)) := by by_cases hz : S 4; exact hCn hz; exact hCo hz
            replace hk := hKb
            refine Does.mono (d_bslice (z := (.agg #[(.int .u8 (0 : Int)), (.int .u64 (0 : Int))])) (sz := 2) (vs := [(0, (.agg #[(.int .u8 ((rdV p).1.1)), (.int .u64 ((rdV p).1.2.1))]))]) (cs := #[(.int .u8 ((rdV p).1.1)), (.int .u64 ((rdV p).1.2.1))]) (show [(0, some (V 5))] = [(0, some (.agg #[(.int .u8 ((rdV p).1.1)), (.int .u64 ((rdV p).1.2.1))]))] from by rw [h5]) Try.underlying42 (by kernel_rfl) rfl (by kernel_rfl)) ?_
            rintro _ w' ⟨b, rfl, hF⟩
            exact ⟨hF.2.2, ⟨b, rfl, Nat.le_trans hC.size hF.1, hF.2.1⟩, isfr rfl hF.1 (blk_lt hF.2.1)⟩
          refine ⟨fun S wu7 hC hS hd hi => ?_, ?_⟩
          · skip
            replace hC : GO w13 b (Value.slice aA st.A.length cA) wu7 ∧ (¬ S 7 → Row 2 vMVal 65 (w0.heap.size) wu7 (Value.slice aA st.A.length cA) st.A) ∧ (¬ S 4 → wu7.heap[b]? = some (.cells #[(.int .i64 k), (.slice aN st.N.length cN), (.slice aS st.S.length cS), (.slice aA st.A.length cA), (.slice aD st.D.length cD)] 45 (0, 0))) ∧ (S 4 → wu7.heap[b]? = some (.cells #[(.int .i64 k), (.slice aN st.N.length cN), (.slice aS st.S.length cS), (.slice aA st.A.length cA), (.slice aD st.D.length cD)] 45 (0, 0))) := hC
            obtain ⟨hC, hCr, hCo, hCn⟩ := hC
            have h4 := hS.post 4 (hd 4 (by decide))
            replace h4 : V 4 = (.slice aA st.A.length cA) := h4
            have h6 := hS.post 6 (hd 6 (by decide))
            obtain ⟨b4, h6, hle4, hk8⟩ := h6
            replace hk7 := blk_go hk7 hC (by omega) hnr3
            replace hrN := Row.go hrN hC (Row.ne_type hrN hk rfl) (Row.ne_row hrN hrA rfl)
            replace hrS := Row.go hrS hC (Row.ne_type hrS hk rfl) (Row.ne_row hrS hrA rfl)
            replace hrD := Row.go hrD hC (Row.ne_type hrD hk rfl) (Row.ne_row hrD hrA rfl)
            have hKb : wu7.heap[b]? = some (.cells #[(.int .i64 k), (.slice aN st.N.length cN), (.slice aS st.S.length cS), (.slice aA st.A.length cA), (.slice aD st.D.length cD)] 45 (0, 0)) := by by_cases hz : S 4; exact hCn hz; exact hCo hz
            replace hk := hKb
            replace hrA := hCr hi
            have hrB := Row.of_new (k := 2) (V := vMVal) (l := [(rdV p).1]) (base := w13.heap.size) hk8 hle4 rfl rfl (Nat.le_of_ble_eq_true rfl)
            refine Does.mono (d_append (V := vMVal) (k := 2) (e := 65) (bytes := 16) (z := (.agg #[(.int .u8 (0 : Int)), (.int .u64 (0 : Int))])) (news := [(rdV p).1]) (base := w0.heap.size) (by intros; rfl) (by exact oneMVal) (congrArg some h4) (congrArg some h6) Try.underlying42 (by kernel_rfl) rfl rfl rfl hrA (Row.rd (by intros; rfl) hrB) rfl (fun h => by cases h) (by first | omega | (simp only [List.length_cons, List.length_nil, List.length_append, nums_len]; omega)) (by have := hb.size; have := hC.size; omega)) ?_
            rintro v' wz ⟨hY, hgY⟩
            obtain ⟨ra, rc, rfl, _, _⟩ := Row.slice hY
            refine ⟨⟨⟨hC.app hgY, fun hn => absurd (.inl rfl) hn, fun hn => absurd (.inr (hd 4 (by decide))) hn, fun _ => (hgY.block b (blk_lt (hCn (hd 4 (by decide)))) (fun e => Row.ne_type hrA (hCn (hd 4 (by decide))) rfl e.symm)).trans (hCn (hd 4 (by decide)))⟩, fun j hj => ?_, hgY.size⟩, ⟨ra, rc, rfl, hY⟩, nofr rfl⟩
            match j with
            | 0 =>
              exact hS.post 0 hj
            | 1 =>
              exact hS.post 1 hj
            | 2 =>
              exact hS.post 2 hj
            | 3 =>
              exact hS.post 3 hj
            | 4 =>
              exact hS.post 4 hj
            | 5 =>
              exact hS.post 5 hj
            | 6 =>
              obtain ⟨b, e1, e2, e3⟩ := hS.post 6 hj
              exact ⟨b, e1, e2, (hgY.block b (blk_lt e3) (fun e => by have := hlV b e.symm; omega)).trans e3⟩
            | 7 =>
              exact absurd hj hi
            | _ + 8 => trivial
          trivial
        · skip
          clear hf fa; intro V S w14 fa hall he8 hp hnb hf
          have hv0 := postsHold_at hp 0 rfl
          replace hv0 : V 0 = (.pointer (some ⟨b, 0, none⟩)) := hv0
          have hv1 := postsHold_at hp 1 rfl
          replace hv1 : V 1 = (.pointer (some ⟨b, 0, none⟩)) := hv1
          have hv2 := postsHold_at hp 2 rfl
          replace hv2 : V 2 = (.pointer (some ⟨b, 0, none⟩)) := hv2
          have hv3 := postsHold_at hp 3 rfl
          replace hv3 : V 3 = (.pointer (some ⟨b, 3, none⟩)) := hv3
          have hv4 := postsHold_at hp 4 rfl
          replace hv4 : V 4 = (.slice aA st.A.length cA) := hv4
          have hv5 := postsHold_at hp 5 rfl
          replace hv5 : V 5 = (.agg #[(.int .u8 ((rdV p).1.1)), (.int .u64 ((rdV p).1.2.1))]) := hv5
          have hv6 := postsHold_at hp 6 rfl
          obtain ⟨b4, hv6, hle4, hk8⟩ := hv6
          have hBb4 : w0.heap.size ≤ b4 := Nat.le_trans hb.size hle4
          have hv7 := postsHold_at hp 7 rfl
          obtain ⟨ra4, rc4, hv7, hr4⟩ := hv7
          rw [hv7] at hr4
          have hcrc4 := Row.caps hr4
          simp only [List.take_succ_cons, List.take_zero, insAll, ins, hv0, hv1, hv2, hv3, hv4, hv5, hv6, hv7] at hf
          obtain ⟨he8, _, _, hk9⟩ := he8
          replace hk9 := hk9 (hall 4 (show 4 < 8 by decide))
          replace hk7 := blk_go hk7 he8 (by omega) hnr3
          replace hrN := Row.go hrN he8 (Row.ne_type hrN hk rfl) (Row.ne_row hrN hrA rfl)
          replace hrS := Row.go hrS he8 (Row.ne_type hrS hk rfl) (Row.ne_row hrS hrA rfl)
          replace hrD := Row.go hrD he8 (Row.ne_type hrD hk rfl) (Row.ne_row hrD hrA rfl)
          replace hb := Below_go hb he8 hb.size hBb (fun q hq => by have := (Row.lt hrA q hq).1; omega)
          clear hp hnb hall hlV hrA hv0 hv1 hv2 hv3 hv4 hv5 hv6 hv7
          simp only [List.drop_succ_cons, List.drop_zero]
          refine sqv hf (r_nilCheck rfl) rfl rfl rfl ?_; clear hf fa; intro fa hf
          refine sqv hf (r_fa rfl Try.underlying45 (f := 3) (q := 3) rfl (by kernel_rfl) rfl) rfl rfl rfl ?_; clear hf fa; intro fa hf
          refine sqn hf (d_storeK (T := 45) (v := (.slice ra4 ((st.A ++ [(rdV p).1]).length) rc4)) (cs := #[(.int .i64 k), (.slice aN st.N.length cN), (.slice aS st.S.length cS), (.slice aA st.A.length cA), (.slice aD st.D.length cD)]) (cs' := #[(.int .i64 k), (.slice aN st.N.length cN), (.slice aS st.S.length cS), (.slice ra4 ((st.A ++ [(rdV p).1]).length) rc4), (.slice aD st.D.length cD)]) rfl rfl (by kernel_rfl) (by kernel_rfl) hk9 (by kernel_rfl) (by kernel_rfl)) rfl rfl ?_; clear hf fa; rintro fa _ w15 ⟨hk10, hg7⟩ hf
          replace hk7 := blk_grown hk7 hg7 (by omega)
          replace hrN := Row.grown hrN hg7 (Row.ne_type hrN hk9 rfl)
          replace hrS := Row.grown hrS hg7 (Row.ne_type hrS hk9 rfl)
          replace hrD := Row.grown hrD hg7 (Row.ne_type hrD hk9 rfl)
          replace hr4 := Row.grown hr4 hg7 (Row.ne_type hr4 hk9 rfl)
          replace hb := hb.trans (grown_below hg7 hb.size hBb)
          apply wpList_nil
          (try simp only [Exit.then, Exit.inBlock, ↓reduceIte, Nat.reduceEqDiff])
          refine hK17 _ _ ?_
          refine wp_seq_k (fun K18 hK18 => ?_)
          refine wp_region_lit ?_
          refine sqv hf (r_move rfl) rfl rfl rfl ?_; clear hf fa; intro fa hf
          refine sqv hf (r_assign rfl) rfl rfl rfl ?_; clear hf fa; intro fa hf
          apply wpList_nil
          (try simp only [Exit.then, Exit.inBlock, ↓reduceIte, Nat.reduceEqDiff])
          refine hK18 _ _ ?_
          refine wp_ret ?_
          (try simp only [Exit.then, Exit.inBlock])
          refine ret1 hf rfl rfl ?_
          rw [(take_a (by have h := hqt16_1; omega) (by have h := hqt34_1; omega) (by have h := hqt52_1; omega))]; exact ⟨_, rfl, rfl, ⟨aN, cN, aS, cS, ra4, rc4, aD, cD, hk10, hrN, hrS, hr4, hrD⟩, hb⟩
end Go.Proofs.Ytpalmpfkliepfaa

namespace Go.Proofs.Ytpalmpfkliepfaa
open Go.RowKit Ut
set_option linter.unusedVariables false
set_option linter.unusedSimpArgs false
theorem cA_size (l : ByteArray) : (cA l 32).size = posB l 32 := by
  have := posB_le l 32
  rw [← bl_length]; unfold cA; rw [bl_mid, List.length_take, List.length_drop, bl_length]; omega
theorem pieceS_some {r : ByteArray} {pc : ByteArray × ByteArray × Bool} (h : pieceS r = pc) (h2 : pc.2.2 = true) : pieceP (bl r) = some (bl pc.1, bl pc.2.1) ∧ pc.1.size ≤ r.size ∧ pc.2.1.size < r.size := by
  unfold pieceS at h
  cases hp : pieceP (bl r) with
  | none => rw [hp] at h; rw [← h] at h2; cases h2
  | some pm =>
    rw [hp] at h
    have hpm : bl r = 32 :: (pm.1 ++ pm.2) := by
      unfold pieceP at hp
      split at hp
      · rename_i l e
        simp only [Option.some.injEq] at hp
        rw [← hp, scanF_app, e]
      · cases hp
    have hb : ∀ x ∈ pm.1 ++ pm.2, x < 256 := fun x hx => bl_lt r x (by rw [hpm]; exact List.mem_cons_of_mem _ hx)
    have h3 := congrArg List.length hpm
    simp only [bl_length, List.length_cons, List.length_append] at h3
    rw [← h]
    simp only
    rw [bl_strN _ (fun x hx => hb x (List.mem_append_left _ hx)), bl_strN _ (fun x hx => hb x (List.mem_append_right _ hx)), strN_size, strN_size]
    exact ⟨rfl, by omega, by omega⟩
theorem pieceS_none {r : ByteArray} {pc : ByteArray × ByteArray × Bool} (h : pieceS r = pc) (h2 : ¬ pc.2.2 = true) : pieceP (bl r) = none := by
  unfold pieceS at h
  cases hp : pieceP (bl r) with
  | none => rfl
  | some pm => rw [hp] at h; rw [← h] at h2; exact absurd rfl h2
section
variable {X : Option PSt} {F r p m : ByteArray} {fu i : Nat} {st : PSt} {tk : PSt × Bool}
theorem parse_a (Hs : X = parseP fu ((bl F).drop i) (bl r) st) (hi : i < F.size) (hp : pieceP (bl r) = some (bl p, bl m)) (ht : takeP (sbt F i) p st = tk) (hok : tk.2 = true) (hf : 0 < fu) (hc : sbt F i = 97) : X = parseP (fu - 1) ((bl F).drop i) (bl m) tk.1 := by
  obtain ⟨f, rfl⟩ : ∃ f, fu = f + 1 := ⟨fu - 1, by omega⟩
  rw [Hs, bl_dropc F i hi, parseP_some hp, strN_bl, ht, if_pos hok, if_pos hc]; rfl
theorem parse_o (Hs : X = parseP fu ((bl F).drop i) (bl r) st) (hi : i < F.size) (hp : pieceP (bl r) = some (bl p, bl m)) (ht : takeP (sbt F i) p st = tk) (hok : tk.2 = true) (hf : 0 < fu) (hc : ¬ sbt F i = 97) : X = parseP (fu - 1) ((bl F).drop (i + 1)) (bl m) tk.1 := by
  obtain ⟨f, rfl⟩ : ∃ f, fu = f + 1 := ⟨fu - 1, by omega⟩
  rw [Hs, bl_dropc F i hi, parseP_some hp, strN_bl, ht, if_pos hok, if_neg hc]; rfl
theorem parse_bad (Hs : X = parseP fu ((bl F).drop i) (bl r) st) (hi : i < F.size) (hp : pieceP (bl r) = some (bl p, bl m)) (ht : takeP (sbt F i) p st = tk) (hok : ¬ tk.2 = true) (hf : 0 < fu) : X = none := by
  obtain ⟨f, rfl⟩ : ∃ f, fu = f + 1 := ⟨fu - 1, by omega⟩
  rw [Hs, bl_dropc F i hi, parseP_some hp, strN_bl, ht, if_neg hok]
theorem parse_na (Hs : X = parseP fu ((bl F).drop i) (bl r) st) (hi : i < F.size) (hp : pieceP (bl r) = none) (hf : 0 < fu) (hc : sbt F i = 97) : X = some st := by
  obtain ⟨f, rfl⟩ : ∃ f, fu = f + 1 := ⟨fu - 1, by omega⟩
  rw [Hs, bl_dropc F i hi, parseP_none hp, if_pos hc]
theorem parse_no (Hs : X = parseP fu ((bl F).drop i) (bl r) st) (hi : i < F.size) (hp : pieceP (bl r) = none) (hf : 0 < fu) (hc : ¬ sbt F i = 97) : X = none := by
  obtain ⟨f, rfl⟩ : ∃ f, fu = f + 1 := ⟨fu - 1, by omega⟩
  rw [Hs, bl_dropc F i hi, parseP_none hp, if_neg hc]
theorem parse_end (Hs : X = parseP fu ((bl F).drop i) (bl r) st) (hi : F.size ≤ i) (hf : 0 < fu) : X = some st := by
  obtain ⟨f, rfl⟩ : ∃ f, fu = f + 1 := ⟨fu - 1, by omega⟩
  rw [Hs, List.drop_eq_nil_of_le (by rw [bl_length]; exact hi)]; rfl
end
theorem opP_some {l : ByteArray} {k : Int} {st : PSt} (hk : kindP (cA l 32) = k) (hX : parseP (l.size + 1) (bl (formS k)) ((bl l).drop (posB l 32)) st0 = some st) : opP l = if rightP k st = true ∧ lineS k st = l then some (k, st) else none := by
  unfold opP; rw [hk, hX]
theorem opP_none {l : ByteArray} {k : Int} (hk : kindP (cA l 32) = k) (hX : parseP (l.size + 1) (bl (formS k)) ((bl l).drop (posB l 32)) st0 = none) : opP l = none := by
  unfold opP; rw [hk, hX]
theorem opF_nil (w : World) : OpF w st0 none none none none := ⟨RdS.nil, RdS.nil, RdS.nil, RdS.nil⟩

theorem OpB2.mono {m n : Nat} {st : PSt} (h : OpB2 m st) (hm : m ≤ n) : OpB2 n st := ⟨h.n, h.s, h.a, h.d, Nat.le_trans h.nl hm, Nat.le_trans h.sl hm, Nat.le_trans h.al hm, h.dl⟩

set_option maxHeartbeats 1000000 in
set_option maxRecDepth 100000 in
theorem parse_any (l : ByteArray) (w : World) (hl : l.size ≤ 20000) : Calls Try.prog 21 #[(.string l)] w fun e w' => ∃ (aN : Option Addr) (cN : Nat) (aS : Option Addr) (cS : Nat) (aA : Option Addr) (cA : Nat) (aD : Option Addr) (cD : Nat), e = .returned (.tuple #[(.agg #[(.int .i64 ((opK (opP l)))), (.slice aN ((opS (opP l)).N.length) cN), (.slice aS ((opS (opP l)).S.length) cS), (.slice aA ((opS (opP l)).A.length) cA), (.slice aD ((opS (opP l)).D.length) cD)]), .int .i64 (if (opP l).isSome = true then 0 else 49)]) ∧ OpF w' (opS (opP l)) aN aS aA aD ∧ Below w.heap.size w w' := by
  refine sx_enter (L := [(0, (.string l))]) Try.func21 rfl rfl rfl rfl (fun fa hf => ?_)
  have hb : Below w.heap.size w w := Below.refl _ _
  refine wp_seq_k (fun K1 hK1 => ?_)
  refine wp_region_lit ?_
  refine sqdt hf (d_alloc (z := (.agg #[(.int .i64 (0 : Int)), (.slice none 0 0), (.slice none 0 0), (.slice none 0 0), (.slice none 0 0)])) (cs := #[(.int .i64 (0 : Int)), (.slice none 0 0), (.slice none 0 0), (.slice none 0 0), (.slice none 0 0)]) (by kernel_rfl) rfl) rfl rfl rfl ?_; clear hf fa; rintro fa _ w1 ⟨b1, rfl, hle1, hk1, he1⟩ hf
  have hBb1 : w.heap.size ≤ b1 := Nat.le_trans hb.size hle1
  replace hb := hb.trans (Below.mono he1 hb.size)
  refine sqv hf (r_assign rfl) rfl rfl rfl ?_; clear hf fa; intro fa hf
  apply wpList_nil
  (try simp only [Exit.then, Exit.inBlock, ↓reduceIte, Nat.reduceEqDiff])
  refine hK1 _ _ ?_
  refine wp_seq_k (fun K2 hK2 => ?_)
  refine wp_region_lit ?_
  refine sqv hf (r_move rfl) rfl rfl rfl ?_; clear hf fa; intro fa hf
  refine sqdt hf (d_callB (vs := [(.string l), (.string ⟨#[32]⟩)]) rfl Try.func58 (by kernel_rfl) (by kernel_rfl) (cutg_any l ⟨#[32]⟩ 32 _ rfl (by omega))) rfl rfl rfl ?_; clear hf fa; rintro fa _ w2 ⟨rfl, he2⟩ hf
  replace hk1 := blk_ext hk1 he2
  replace hb := hb.trans (Below.mono he2 hb.size)
  refine sqv hf (r_move rfl) rfl rfl rfl ?_; clear hf fa; intro fa hf
  refine sqv hf (r_extract rfl (i := 0) rfl) rfl rfl rfl ?_; clear hf fa; intro fa hf
  refine sqv hf (r_extract rfl (i := 1) rfl) rfl rfl rfl ?_; clear hf fa; intro fa hf
  refine sqv hf (r_extract rfl (i := 2) rfl) rfl rfl rfl ?_; clear hf fa; intro fa hf
  refine sqv hf (r_assign rfl) rfl rfl rfl ?_; clear hf fa; intro fa hf
  refine sqv hf (r_assign rfl) rfl rfl rfl ?_; clear hf fa; intro fa hf
  refine sqv hf (r_assign rfl) rfl rfl rfl ?_; clear hf fa; intro fa hf
  apply wpList_nil
  (try simp only [Exit.then, Exit.inBlock, ↓reduceIte, Nat.reduceEqDiff])
  refine hK2 _ _ ?_
  refine wp_seq_k (fun K3 hK3 => ?_)
  have hbA : Below w2.heap.size w2 w2 := Below.refl _ _
  have hbw := hb
  have hk1A := hk1
  obtain ⟨k, hk⟩ : ∃ x, kindP (cA l 32) = x := ⟨_, rfl⟩
  have hcs := cA_size l
  have hpl := posB_le l 32
  refine wp_region_lit ?_
  refine sqv hf (r_move rfl) rfl rfl rfl ?_; clear hf fa; intro fa hf
  refine sqdt hf (d_callB (v := (.int .i64 k)) (vs := [(.string (cA l 32))]) rfl Try.func20 (by kernel_rfl) (by kernel_rfl) (by have h := kind_any (cA l 32) w2; rw [hk] at h; exact h)) rfl rfl rfl ?_; clear hf fa; rintro fa _ w3 ⟨rfl, he3⟩ hf
  replace hk1 := blk_ext hk1 he3
  replace hbA := hbA.trans (Below.mono he3 hbA.size)
  replace hb := hb.trans (Below.mono he3 hb.size)
  refine sqv hf (r_build (vs := [(0, (.int .i64 k))]) (cs := #[(.int .i64 k), (.slice none 0 0), (.slice none 0 0), (.slice none 0 0), (.slice none 0 0)]) rfl (fun _ => by kernel_rfl)) rfl rfl rfl ?_; clear hf fa; intro fa hf
  refine sqdt hf (d_alloc (z := (.agg #[(.int .i64 (0 : Int)), (.slice none 0 0), (.slice none 0 0), (.slice none 0 0), (.slice none 0 0)])) (cs := #[(.int .i64 (0 : Int)), (.slice none 0 0), (.slice none 0 0), (.slice none 0 0), (.slice none 0 0)]) (by kernel_rfl) rfl) rfl rfl rfl ?_; clear hf fa; rintro fa _ w4 ⟨b2, rfl, hle2, hk2, he4⟩ hf
  have hBb2 : w.heap.size ≤ b2 := Nat.le_trans hb.size hle2
  have : b1 < b2 := Nat.lt_of_lt_of_le (blk_lt hk1) hle2
  have hUhbAb2 := Nat.le_trans hbA.size hle2
  replace hk1 := blk_ext hk1 he4
  replace hbA := hbA.trans (Below.mono he4 hbA.size)
  replace hb := hb.trans (Below.mono he4 hb.size)
  refine sqn hf (d_storeK (T := 45) (v := (.agg #[(.int .i64 k), (.slice none 0 0), (.slice none 0 0), (.slice none 0 0), (.slice none 0 0)])) (cs := #[(.int .i64 (0 : Int)), (.slice none 0 0), (.slice none 0 0), (.slice none 0 0), (.slice none 0 0)]) (cs' := #[(.int .i64 k), (.slice none 0 0), (.slice none 0 0), (.slice none 0 0), (.slice none 0 0)]) rfl rfl (by kernel_rfl) (by kernel_rfl) hk2 (by kernel_rfl) (by kernel_rfl)) rfl rfl ?_; clear hf fa; rintro fa _ w5 ⟨hk3, hg1⟩ hf
  replace hk1 := blk_grown hk1 hg1 (by omega)
  replace hbA := hbA.trans (grown_below hg1 hbA.size (by omega))
  replace hb := hb.trans (grown_below hg1 hb.size hBb2)
  apply wpList_nil
  (try simp only [Exit.then, Exit.inBlock, ↓reduceIte, Nat.reduceEqDiff])
  refine hK3 _ _ ?_
  refine wp_seq_k (fun K4 hK4 => ?_)
  refine wp_region_lit ?_
  refine sqv hf (r_fa rfl Try.underlying45 (f := 0) (q := 0) rfl (by kernel_rfl) rfl) rfl rfl rfl ?_; clear hf fa; intro fa hf
  refine sqv hf (r_load (v := (.int .i64 k)) rfl Try.underlying3 rfl (cell_blk hk3 rfl)) rfl rfl rfl ?_; clear hf fa; intro fa hf
  refine sqdt hf (d_callB (vs := [(.int .i64 k)]) rfl Try.func17 (by kernel_rfl) (by kernel_rfl) (form_any k _)) rfl rfl rfl ?_; clear hf fa; rintro fa _ w6 ⟨rfl, he5⟩ hf
  replace hk1 := blk_ext hk1 he5
  replace hk3 := blk_ext hk3 he5
  replace hbA := hbA.trans (Below.mono he5 hbA.size)
  replace hb := hb.trans (Below.mono he5 hb.size)
  refine sqv hf (r_move rfl) rfl rfl rfl ?_; clear hf fa; intro fa hf
  refine sqv hf (r_extract rfl (i := 0) rfl) rfl rfl rfl ?_; clear hf fa; intro fa hf
  refine sqv hf (r_extract rfl (i := 1) rfl) rfl rfl rfl ?_; clear hf fa; intro fa hf
  refine sqv hf (r_assign rfl) rfl rfl rfl ?_; clear hf fa; intro fa hf
  refine sqv hf (r_assign rfl) rfl rfl rfl ?_; clear hf fa; intro fa hf
  apply wpList_nil
  (try simp only [Exit.then, Exit.inBlock, ↓reduceIte, Nat.reduceEqDiff])
  refine hK4 _ _ ?_
  refine wp_seq_k (fun K5 hK5 => ?_)
  refine wp_region_lit ?_
  refine sqv hf (r_move rfl) rfl rfl rfl ?_; clear hf fa; intro fa hf
  refine sqv hf (r_move rfl) rfl rfl rfl ?_; clear hf fa; intro fa hf
  refine sqv hf (r_lens rfl Try.underlying9) rfl rfl rfl ?_; clear hf fa; intro fa hf
  refine sqv hf (r_sslice (a := ((cA l 32).size)) (b := l.size) (k1 := .i64) (k2 := .i64) (A := (((cA l 32).size : Nat) : Int)) (B := 0) rfl Try.underlying9 (.inr ⟨_, rfl, rfl, rfl⟩) (.inl ⟨rfl, rfl⟩) (by omega) (by omega)) rfl rfl rfl ?_; clear hf fa; intro fa hf
  refine sqv hf (r_assign rfl) rfl rfl rfl ?_; clear hf fa; intro fa hf
  apply wpList_nil
  (try simp only [Exit.then, Exit.inBlock, ↓reduceIte, Nat.reduceEqDiff])
  refine hK5 _ _ ?_
  refine wp_seq_k (fun K6 hK6 => ?_)
  refine wp_seq_k (fun K7 hK7 => ?_)
  have hUb2 : w2.heap.size ≤ b2 := by omega
  have hwl := word_len k
  have hr0s : (l.extract (cA l 32).size l.size).size = l.size - posB l 32 := by rw [hcs, size_drop]
  refine wp_region_lit ?_
  refine sqv hf (r_assign rfl) rfl rfl rfl ?_; clear hf fa; intro fa hf
  apply wpList_nil
  (try simp only [Exit.then, Exit.inBlock, ↓reduceIte, Nat.reduceEqDiff])
  refine hK7 _ _ ?_
  refine wp_block ?_
  refine wp_loop_k (fun mq fa wr => ∃ (fu : Nat) (i : Nat) (r : ByteArray) (st : PSt), mq = r.size ∧ Fr 83 fa [(0, (.string l)), (2, (.pointer (some ⟨b1, 0, none⟩))), (7, (.pointer (some ⟨b2, 0, none⟩))), (9, (.string (formS k))), (10, (.string r)), (11, (.int .i64 ((i : Nat) : Int)))] ∧ Below w.heap.size w wr ∧ wr.heap[b1]? = some (.cells #[(.int .i64 (0 : Int)), (.slice none 0 0), (.slice none 0 0), (.slice none 0 0), (.slice none 0 0)] 45 (0, 0)) ∧ (Below w2.heap.size w2 wr) ∧ (StP 45 w2.heap.size wr b2 k st) ∧ (i ≤ (formS k).size) ∧ (OpB2 (l.size - r.size) st) ∧ (r.size ≤ l.size) ∧ (r.size < fu) ∧ (parseP (l.size + 1) (bl (formS k)) ((bl l).drop (posB l 32)) st0 = parseP fu ((bl (formS k)).drop i) (bl r) st)) ?_ ?_
  · skip
    exact ⟨_, (l.size + 1), 0, (l.extract (cA l 32).size l.size), st0, rfl, hf.sub ⟨rfl, rfl, rfl, rfl, (some_str (by first | rfl | assumption | simp)), (some_int (by first | rfl | omega)), trivial⟩, hb, hk1, hbA, ⟨none, 0, none, 0, none, 0, none, 0, hk3, Row.nil, Row.nil, Row.nil, Row.nil⟩, by omega, OpB2.zero _, by rw [hr0s]; omega, by rw [hr0s]; omega, (by rw [List.drop_zero, hcs, bl_drop])⟩
  · skip
    clear hf fa; intro mq1 fa w7 hI KL1 hKL1
    clear hb
    clear hk1
    clear hk3
    obtain ⟨fu, i, r, st, hmq1, hf, hb, hkb1, hbA, hst, hi, hInv, hrl, hfu, Hs⟩ := hI
    obtain ⟨pc, hpc⟩ : ∃ x, pieceS r = x := ⟨_, rfl⟩
    have hbS : Below w7.heap.size w7 w7 := Below.refl _ _
    refine wp_seq_k (fun K8 hK8 => ?_)
    refine wp_seq_k (fun K9 hK9 => ?_)
    refine wp_region_lit ?_
    refine sqv hf (r_move rfl) rfl rfl rfl ?_; clear hf fa; intro fa hf
    refine sqv hf (r_move rfl) rfl rfl rfl ?_; clear hf fa; intro fa hf
    refine sqv hf (r_lens rfl Try.underlying9) rfl rfl rfl ?_; clear hf fa; intro fa hf
    refine sqv hf (r_lt rfl rfl) rfl rfl rfl ?_; clear hf fa; intro fa hf
    apply wpList_nil
    (try simp only [Exit.then, Exit.inBlock, ↓reduceIte, Nat.reduceEqDiff])
    refine hK9 _ _ ?_
    refine wp_cond_split (t := (decide (((i : Nat) : Int) < (((formS k).size : Nat) : Int)))) (hf.ev rfl) (fun hqt37_1 => ?_) (fun hqt37_1 => ?_)
    · have hqt37_1b := hqt37_1
      try simp only [decide_eq_true_eq, Bool.and_eq_true, Bool.or_eq_true, Bool.not_eq_true', decide_eq_false_iff_not, ne_eq, Bool.not_eq_true] at hqt37_1
      refine wp_skip ?_
      (try simp only [Exit.then, Exit.inBlock, ↓reduceIte, Nat.reduceEqDiff])
      refine hK8 _ _ ?_
      refine wp_seq_k (fun K10 hK10 => ?_)
      refine wp_block ?_
      refine wp_seq_k (fun K11 hK11 => ?_)
      refine wp_region_lit ?_
      refine sqv hf (r_move rfl) rfl rfl rfl ?_; clear hf fa; intro fa hf
      refine sqdt hf (d_callB (v := (.tuple #[(.string pc.1), (.string pc.2.1), (.bool pc.2.2)])) (vs := [(.string r)]) rfl Try.func59 (by kernel_rfl) (by kernel_rfl) (by have h := piece_any r w7 (by omega); rw [hpc] at h; exact h)) rfl rfl rfl ?_; clear hf fa; rintro fa _ w8 ⟨rfl, he6⟩ hf
      replace hkb1 := blk_ext hkb1 he6
      replace hbA := hbA.trans (Below.mono he6 hbA.size)
      replace hbS := hbS.trans (Below.mono he6 hbS.size)
      replace hb := hb.trans (Below.mono he6 hb.size)
      refine sqv hf (r_move rfl) rfl rfl rfl ?_; clear hf fa; intro fa hf
      refine sqv hf (r_extract rfl (i := 0) rfl) rfl rfl rfl ?_; clear hf fa; intro fa hf
      refine sqv hf (r_extract rfl (i := 1) rfl) rfl rfl rfl ?_; clear hf fa; intro fa hf
      refine sqv hf (r_extract rfl (i := 2) rfl) rfl rfl rfl ?_; clear hf fa; intro fa hf
      refine sqv hf (r_assign rfl) rfl rfl rfl ?_; clear hf fa; intro fa hf
      refine sqv hf (r_assign rfl) rfl rfl rfl ?_; clear hf fa; intro fa hf
      refine sqv hf (r_assign rfl) rfl rfl rfl ?_; clear hf fa; intro fa hf
      apply wpList_nil
      (try simp only [Exit.then, Exit.inBlock, ↓reduceIte, Nat.reduceEqDiff])
      refine hK11 _ _ ?_
      refine wp_seq_k (fun K12 hK12 => ?_)
      refine wp_seq_k (fun K13 hK13 => ?_)
      skip
      by_cases hsp1 : pc.2.2 = true
      · have hsp1b : decide (pc.2.2 = true) = true := decide_eq_true hsp1
        have hps := pieceS_some hpc hsp1
        refine wp_region_lit ?_
        refine sqv hf (r_move rfl) rfl rfl rfl ?_; clear hf fa; intro fa hf
        refine sqv hf (Runs.veq (r_not rfl) (congrArg Value.bool (show _ = false from (by rw [hsp1]; rfl)))) rfl rfl rfl ?_; clear hf fa; intro fa hf
        refine sqv hf (r_move rfl) rfl rfl rfl ?_; clear hf fa; intro fa hf
        refine sqgT (act := false) (ag := true) (c := false) (v := .bool false) hf rfl rfl rfl (fun hact => by cases hact) rfl rfl ?_; clear hf fa; intro fa hf
        refine sqgT (act := false) (ag := true) (c := false) (v := .bool false) hf rfl rfl rfl (fun hact => by cases hact) rfl rfl ?_; clear hf fa; intro fa hf
        refine sqgT (act := false) (ag := true) (c := false) (v := .bool false) hf rfl rfl rfl (fun hact => by cases hact) rfl rfl ?_; clear hf fa; intro fa hf
        refine sqgT (act := false) (ag := true) (c := false) (v := .bool false) hf rfl rfl rfl (fun hact => by cases hact) rfl rfl ?_; clear hf fa; intro fa hf
        refine sqv hf (r_pick (b := false) rfl rfl rfl rfl) rfl rfl rfl ?_; clear hf fa; intro fa hf
        apply wpList_nil
        (try simp only [Exit.then, Exit.inBlock, ↓reduceIte, Nat.reduceEqDiff])
        refine hK13 _ _ ?_
        refine wp_cond_false (hf.ev rfl) ?_
        refine wp_skip ?_
        (try simp only [Exit.then, Exit.inBlock, ↓reduceIte, Nat.reduceEqDiff])
        refine hK12 _ _ ?_
        refine wp_seq_k (fun K14 hK14 => ?_)
        refine wp_seq_k (fun K15 hK15 => ?_)
        obtain ⟨tk, htk⟩ : ∃ x, takeP (sbt (formS k) i) pc.1 st = x := ⟨_, rfl⟩
        refine wp_region_lit ?_
        refine sqv hf (r_move rfl) rfl rfl rfl ?_; clear hf fa; intro fa hf
        refine sqv hf (Runs.veq (r_not rfl) (congrArg Value.bool (show _ = false from (by rw [hsp1]; rfl)))) rfl rfl rfl ?_; clear hf fa; intro fa hf
        refine sqv hf (r_move rfl) rfl rfl rfl ?_; clear hf fa; intro fa hf
        refine sqgd (act := true) (g := 2) (want := false) (ag := true) (c := false) hf (by rfl) (by rfl) rfl (fun _ =>  Runs.does (R := fun vq wq => vq = (.string (formS k)) ∧ w8 = wq) (r_move rfl) ⟨rfl, rfl⟩) (fun h => by cases h) rfl ?_; clear hf fa; rintro fa _ _ ⟨rfl, rfl⟩ hf
        change Fr _ _ ((57, (.string (formS k))) :: _) at hf
        refine sqgd (act := true) (g := 2) (want := false) (ag := true) (c := false) hf (by rfl) (by rfl) rfl (fun _ =>  Runs.does (R := fun vq wq => vq = (.int .i64 ((i : Nat) : Int)) ∧ w8 = wq) (r_move rfl) ⟨rfl, rfl⟩) (fun h => by cases h) rfl ?_; clear hf fa; rintro fa _ _ ⟨rfl, rfl⟩ hf
        change Fr _ _ ((58, (.int .i64 ((i : Nat) : Int))) :: _) at hf
        refine sqgd (act := true) (g := 2) (want := false) (ag := true) (c := false) hf (by rfl) (by rfl) rfl (fun _ =>  Runs.does (R := fun vq wq => vq = (.int .u8 ((sbt (formS k) i : Nat) : Int)) ∧ w8 = wq) (r_sindexD (j := i) rfl rfl Try.underlying9 rfl (by omega)) ⟨rfl, rfl⟩) (fun h => by cases h) rfl ?_; clear hf fa; rintro fa _ _ ⟨rfl, rfl⟩ hf
        change Fr _ _ ((59, (.int .u8 ((sbt (formS k) i : Nat) : Int))) :: _) at hf
        refine sqgd (act := true) (g := 2) (want := false) (ag := true) (c := false) hf (by rfl) (by rfl) rfl (fun _ =>  Runs.does (R := fun vq wq => vq = (.string pc.1) ∧ w8 = wq) (r_move rfl) ⟨rfl, rfl⟩) (fun h => by cases h) rfl ?_; clear hf fa; rintro fa _ _ ⟨rfl, rfl⟩ hf
        change Fr _ _ ((60, (.string pc.1)) :: _) at hf
        refine sqgd (act := true) (g := 2) (want := false) (ag := true) (c := false) hf (by rfl) (by rfl) rfl (fun _ =>  (d_callX (vs := [(.pointer (some ⟨b2, 0, none⟩)), (.int .u8 ((sbt (formS k) i : Nat) : Int)), (.string pc.1)]) rfl Try.func60 (by kernel_rfl) (by kernel_rfl) (by have h := take_x b2 (sbt (formS k) i) k pc.1 st w2 w8 hbA hUb2 (hst.ext hbS) (by omega) (hInv.toB (by omega)); rw [htk] at h; exact h)) ) (fun h => by cases h) rfl ?_; clear hf fa; rintro fa _ w9 ⟨rfl, hst2, he7⟩ hf
        replace hbA := he7
        replace hkb1 := blk_ext hk1A hbA
        replace hb := hbw.trans (hbA.mono hbw.size)
        clear hst hbS
        change Fr _ _ ((61, (.bool tk.2)) :: _) at hf
        refine sqgd (act := true) (g := 2) (want := false) (ag := true) (c := false) hf (by rfl) (by rfl) rfl (fun _ =>  Runs.does (R := fun vq wq => vq = (.bool (!tk.2)) ∧ w9 = wq) (r_not rfl) ⟨rfl, rfl⟩) (fun h => by cases h) rfl ?_; clear hf fa; rintro fa _ _ ⟨rfl, rfl⟩ hf
        change Fr _ _ ((62, (.bool (!tk.2))) :: _) at hf
        refine sqv hf (r_pick (b := false) rfl rfl rfl rfl) rfl rfl rfl ?_; clear hf fa; intro fa hf
        apply wpList_nil
        (try simp only [Exit.then, Exit.inBlock, ↓reduceIte, Nat.reduceEqDiff])
        refine hK15 _ _ ?_
        refine wp_cond_split (t := (!tk.2)) (hf.ev rfl) (fun hqt63_1 => ?_) (fun hqt63_1 => ?_)
        · have hqt63_1b := hqt63_1
          try simp only [decide_eq_true_eq, Bool.and_eq_true, Bool.or_eq_true, Bool.not_eq_true', decide_eq_false_iff_not, ne_eq, Bool.not_eq_true] at hqt63_1
          refine wp_seq_k (fun K16 hK16 => ?_)
          skip
          refine wp_region_lit ?_
          refine sqv hf (r_build (vs := []) (cs := #[(.int .i64 (0 : Int)), (.slice none 0 0), (.slice none 0 0), (.slice none 0 0), (.slice none 0 0)]) rfl (fun _ => by kernel_rfl)) rfl rfl rfl ?_; clear hf fa; intro fa hf
          refine sqn hf (d_storeK (T := 45) (v := (.agg #[(.int .i64 (0 : Int)), (.slice none 0 0), (.slice none 0 0), (.slice none 0 0), (.slice none 0 0)])) (cs := #[(.int .i64 (0 : Int)), (.slice none 0 0), (.slice none 0 0), (.slice none 0 0), (.slice none 0 0)]) (cs' := #[(.int .i64 (0 : Int)), (.slice none 0 0), (.slice none 0 0), (.slice none 0 0), (.slice none 0 0)]) rfl rfl (by kernel_rfl) (by kernel_rfl) hkb1 (by kernel_rfl) (by kernel_rfl)) rfl rfl ?_; clear hf fa; rintro fa _ w10 ⟨hk4, hg2⟩ hf
          replace hb := hb.trans (grown_below hg2 hb.size hBb1)
          refine sqv hf (r_assign rfl) rfl rfl rfl ?_; clear hf fa; intro fa hf
          apply wpList_nil
          (try simp only [Exit.then, Exit.inBlock, ↓reduceIte, Nat.reduceEqDiff])
          refine hK16 _ _ ?_
          refine wp_ret ?_
          (try simp only [Exit.then, Exit.inBlock])
          refine retCT hf rfl rfl hk4 Try.underlying45 rfl (by kernel_rfl) rfl ?_
          rw [opP_none hk (parse_bad Hs (by omega) hps.1 htk (by simpa using hqt63_1) (by omega))]; exact ⟨none, 0, none, 0, none, 0, none, 0, rfl, opF_nil _, hb⟩
        · have hqt63_1b := hqt63_1
          replace hqt63_1 := Bool.eq_false_iff.1 hqt63_1
          try simp only [ne_eq, decide_eq_true_eq, Bool.and_eq_true, Bool.or_eq_true, Bool.not_eq_true', decide_eq_false_iff_not] at hqt63_1
          refine wp_skip ?_
          (try simp only [Exit.then, Exit.inBlock, ↓reduceIte, Nat.reduceEqDiff])
          refine hK14 _ _ ?_
          refine wp_seq_k (fun K17 hK17 => ?_)
          have hok : tk.2 = true := by simpa using hqt63_1
          refine wp_region_lit ?_
          refine sqv hf (r_move rfl) rfl rfl rfl ?_; clear hf fa; intro fa hf
          refine sqv hf (r_assign rfl) rfl rfl rfl ?_; clear hf fa; intro fa hf
          apply wpList_nil
          (try simp only [Exit.then, Exit.inBlock, ↓reduceIte, Nat.reduceEqDiff])
          refine hK17 _ _ ?_
          refine wp_seq_k (fun K18 hK18 => ?_)
          refine wp_region_lit ?_
          refine sqv hf (r_move rfl) rfl rfl rfl ?_; clear hf fa; intro fa hf
          refine sqv hf (r_move rfl) rfl rfl rfl ?_; clear hf fa; intro fa hf
          refine sqv hf (r_sindexD (j := i) rfl rfl Try.underlying9 rfl (by omega)) rfl rfl rfl ?_; clear hf fa; intro fa hf
          refine sqv hf (r_eq rfl rfl) rfl rfl rfl ?_; clear hf fa; intro fa hf
          apply wpList_nil
          (try simp only [Exit.then, Exit.inBlock, ↓reduceIte, Nat.reduceEqDiff])
          refine hK18 _ _ ?_
          refine wp_cond_split (t := (decide (((sbt (formS k) i : Nat) : Int) = (97 : Int)))) (hf.ev rfl) (fun hqt69_1 => ?_) (fun hqt69_1 => ?_)
          · have hqt69_1b := hqt69_1
            try simp only [decide_eq_true_eq, Bool.and_eq_true, Bool.or_eq_true, Bool.not_eq_true', decide_eq_false_iff_not, ne_eq, Bool.not_eq_true] at hqt69_1
            refine wp_region_lit ?_
            refine sqv hf (r_move rfl) rfl rfl rfl ?_; clear hf fa; intro fa hf
            refine sqv hf (r_sub (C := (((i : Nat) : Int) - (1 : Int))) rfl rfl (by rw [IntKind.wrap_i64]; omega)) rfl rfl rfl ?_; clear hf fa; intro fa hf
            refine sqv hf (r_assign rfl) rfl rfl rfl ?_; clear hf fa; intro fa hf
            apply wpList_nil
            (try simp only [Exit.then, Exit.inBlock, ↓reduceIte, Nat.reduceEqDiff])
            refine hK10 _ _ ?_
            refine wp_region_lit ?_
            refine sqv hf (r_move rfl) rfl rfl rfl ?_; clear hf fa; intro fa hf
            refine sqv hf (r_add (C := ((((i : Nat) : Int) - (1 : Int)) + (1 : Int))) rfl rfl (by rw [IntKind.wrap_i64]; omega)) rfl rfl rfl ?_; clear hf fa; intro fa hf
            refine sqv hf (r_assign rfl) rfl rfl rfl ?_; clear hf fa; intro fa hf
            apply wpList_nil
            (try simp only [Exit.then, Exit.inBlock, ↓reduceIte, Nat.reduceEqDiff])
            have hi2 := takeP_inv hInv (p := pc.1) (c := sbt (formS k) i) (by omega) (by rw [htk]; exact hok)
            rw [htk] at hi2
            refine hKL1 _ _ _ (by omega) ⟨(fu - 1), i, pc.2.1, tk.1, rfl, hf.sub ⟨rfl, rfl, rfl, rfl, rfl, (some_int (by first | rfl | omega)), trivial⟩, hb, hkb1, hbA, hst2, by omega, (hi2.mono (by omega)), by omega, by omega, (parse_a Hs (by omega) hps.1 htk hok (by omega) (by have h := hqt69_1; omega))⟩
          · have hqt69_1b := hqt69_1
            replace hqt69_1 := Bool.eq_false_iff.1 hqt69_1
            try simp only [ne_eq, decide_eq_true_eq, Bool.and_eq_true, Bool.or_eq_true, Bool.not_eq_true', decide_eq_false_iff_not] at hqt69_1
            refine wp_skip ?_
            (try simp only [Exit.then, Exit.inBlock, ↓reduceIte, Nat.reduceEqDiff])
            refine hK10 _ _ ?_
            refine wp_region_lit ?_
            refine sqv hf (r_move rfl) rfl rfl rfl ?_; clear hf fa; intro fa hf
            refine sqv hf (r_add (C := (((i : Nat) : Int) + (1 : Int))) rfl rfl (by rw [IntKind.wrap_i64]; omega)) rfl rfl rfl ?_; clear hf fa; intro fa hf
            refine sqv hf (r_assign rfl) rfl rfl rfl ?_; clear hf fa; intro fa hf
            apply wpList_nil
            (try simp only [Exit.then, Exit.inBlock, ↓reduceIte, Nat.reduceEqDiff])
            have hi2 := takeP_inv hInv (p := pc.1) (c := sbt (formS k) i) (by omega) (by rw [htk]; exact hok)
            rw [htk] at hi2
            refine hKL1 _ _ _ (by omega) ⟨(fu - 1), (i + 1), pc.2.1, tk.1, rfl, hf.sub ⟨rfl, rfl, rfl, rfl, rfl, (some_int (by first | rfl | omega)), trivial⟩, hb, hkb1, hbA, hst2, by omega, (hi2.mono (by omega)), by omega, by omega, (parse_o Hs (by omega) hps.1 htk hok (by omega) (by have h := hqt69_1; omega))⟩
      · have hsp1b : decide (pc.2.2 = true) = false := decide_eq_false hsp1
        have hpn := pieceS_none hpc hsp1
        refine wp_region_lit ?_
        refine sqv hf (r_move rfl) rfl rfl rfl ?_; clear hf fa; intro fa hf
        refine sqv hf (Runs.veq (r_not rfl) (congrArg Value.bool (show _ = true from (by rw [Bool.eq_false_iff.2 hsp1]; rfl)))) rfl rfl rfl ?_; clear hf fa; intro fa hf
        refine sqv hf (r_move rfl) rfl rfl rfl ?_; clear hf fa; intro fa hf
        refine sqgd (act := true) (g := 2) (want := true) (ag := true) (c := true) hf (by rfl) (by rfl) rfl (fun _ =>  Runs.does (R := fun vq wq => vq = (.string (formS k)) ∧ w8 = wq) (r_move rfl) ⟨rfl, rfl⟩) (fun h => by cases h) rfl ?_; clear hf fa; rintro fa _ _ ⟨rfl, rfl⟩ hf
        change Fr _ _ ((49, (.string (formS k))) :: _) at hf
        refine sqgd (act := true) (g := 2) (want := true) (ag := true) (c := true) hf (by rfl) (by rfl) rfl (fun _ =>  Runs.does (R := fun vq wq => vq = (.int .i64 ((i : Nat) : Int)) ∧ w8 = wq) (r_move rfl) ⟨rfl, rfl⟩) (fun h => by cases h) rfl ?_; clear hf fa; rintro fa _ _ ⟨rfl, rfl⟩ hf
        change Fr _ _ ((50, (.int .i64 ((i : Nat) : Int))) :: _) at hf
        refine sqgd (act := true) (g := 2) (want := true) (ag := true) (c := true) hf (by rfl) (by rfl) rfl (fun _ =>  Runs.does (R := fun vq wq => vq = (.int .u8 ((sbt (formS k) i : Nat) : Int)) ∧ w8 = wq) (r_sindexD (j := i) rfl rfl Try.underlying9 rfl (by omega)) ⟨rfl, rfl⟩) (fun h => by cases h) rfl ?_; clear hf fa; rintro fa _ _ ⟨rfl, rfl⟩ hf
        change Fr _ _ ((51, (.int .u8 ((sbt (formS k) i : Nat) : Int))) :: _) at hf
        refine sqgd (act := true) (g := 2) (want := true) (ag := true) (c := true) hf (by rfl) (by rfl) rfl (fun _ =>  Runs.does (R := fun vq wq => vq = (.bool (decide (((sbt (formS k) i : Nat) : Int) = (97 : Int)))) ∧ w8 = wq) (r_eq rfl rfl) ⟨rfl, rfl⟩) (fun h => by cases h) rfl ?_; clear hf fa; rintro fa _ _ ⟨rfl, rfl⟩ hf
        change Fr _ _ ((52, (.bool (decide (((sbt (formS k) i : Nat) : Int) = (97 : Int))))) :: _) at hf
        refine sqv hf (r_pick (b := true) rfl rfl rfl rfl) rfl rfl rfl ?_; clear hf fa; intro fa hf
        apply wpList_nil
        (try simp only [Exit.then, Exit.inBlock, ↓reduceIte, Nat.reduceEqDiff])
        refine hK13 _ _ ?_
        refine wp_cond_split (t := (decide (((sbt (formS k) i : Nat) : Int) = (97 : Int)))) (hf.ev rfl) (fun hqt53_2 => ?_) (fun hqt53_2 => ?_)
        · have hqt53_2b := hqt53_2
          try simp only [decide_eq_true_eq, Bool.and_eq_true, Bool.or_eq_true, Bool.not_eq_true', decide_eq_false_iff_not, ne_eq, Bool.not_eq_true] at hqt53_2
          refine wp_exit ?_
          (try simp only [Exit.then, Exit.inBlock, ↓reduceIte, Nat.reduceEqDiff])
          refine hK6 _ _ ?_
          refine wp_seq_k (fun K19 hK19 => ?_)
          refine wp_seq_k (fun K20 hK20 => ?_)
          have hX : parseP (l.size + 1) (bl (formS k)) ((bl l).drop (posB l 32)) st0 = some st := parse_na Hs (by omega) hpn (by omega) (by have h := hqt53_2; omega)
          obtain ⟨aN, cN, aS, cS, aA, cA, aD, cD, hk2, hrN, hrS, hrA, hrD⟩ := hst.ext hbS
          have hBf : OpB st := hInv.toB (by omega)
          by_cases hsp2 : rightP k st = true
          · have hsp2b : decide (rightP k st = true) = true := decide_eq_true hsp2
            skip
            refine wp_region_lit ?_
            refine sqv hf (r_loadA (cs := [(.int .i64 k), (.slice aN st.N.length cN), (.slice aS st.S.length cS), (.slice aA st.A.length cA), (.slice aD st.D.length cD)]) rfl Try.underlying45 rfl (by kernel_rfl) (cellsAt_blk hk2)) rfl rfl rfl ?_; clear hf fa; intro fa hf
            refine sqdt hf (d_callB (v := (.bool true)) (vs := [(.agg #[(.int .i64 k), (.slice aN st.N.length cN), (.slice aS st.S.length cS), (.slice aA st.A.length cA), (.slice aD st.D.length cD)])]) rfl Try.func19 (by kernel_rfl) (by kernel_rfl) (by have h := right_any k st aN aS aA aD cN cS cA cD w8 ⟨Row.rd (by intros; rfl) hrN, Row.rd (by intros; rfl) hrS, Row.rd (by intros; rfl) hrA, Row.rd (by intros; rfl) hrD⟩ hBf; rw [hsp2] at h; exact h)) rfl rfl rfl ?_; clear hf fa; rintro fa _ w11 ⟨rfl, he8⟩ hf
            replace hkb1 := blk_ext hkb1 he8
            replace hk2 := blk_ext hk2 he8
            replace hrN := Row.ext hrN he8
            replace hrS := Row.ext hrS he8
            replace hrA := Row.ext hrA he8
            replace hrD := Row.ext hrD he8
            replace hb := hb.trans (Below.mono he8 hb.size)
            refine sqv hf (Runs.veq (v' := (.bool false)) (r_not rfl) rfl) rfl rfl rfl ?_; clear hf fa; intro fa hf
            refine sqv hf (r_move rfl) rfl rfl rfl ?_; clear hf fa; intro fa hf
            refine sqgd (act := true) (g := 3) (want := false) (ag := true) (c := false) hf (by rfl) (by rfl) rfl (fun _ =>  Runs.does (R := fun vq wq => vq = (.agg #[(.int .i64 k), (.slice aN st.N.length cN), (.slice aS st.S.length cS), (.slice aA st.A.length cA), (.slice aD st.D.length cD)]) ∧ w11 = wq) (r_loadA (cs := [(.int .i64 k), (.slice aN st.N.length cN), (.slice aS st.S.length cS), (.slice aA st.A.length cA), (.slice aD st.D.length cD)]) rfl Try.underlying45 rfl (by kernel_rfl) (cellsAt_blk hk2)) ⟨rfl, rfl⟩) (fun h => by cases h) rfl ?_; clear hf fa; rintro fa _ _ ⟨rfl, rfl⟩ hf
            change Fr _ _ ((76, (.agg #[(.int .i64 k), (.slice aN st.N.length cN), (.slice aS st.S.length cS), (.slice aA st.A.length cA), (.slice aD st.D.length cD)])) :: _) at hf
            refine sqgd (act := true) (g := 3) (want := false) (ag := true) (c := false) hf (by rfl) (by rfl) rfl (fun _ =>  (d_callB (v := (.string (lineS k st))) (vs := [(.agg #[(.int .i64 k), (.slice aN st.N.length cN), (.slice aS st.S.length cS), (.slice aA st.A.length cA), (.slice aD st.D.length cD)])]) rfl Try.func14 (by kernel_rfl) (by kernel_rfl) (by have h := line_any k st aN aS aA aD cN cS cA cD w11 ⟨Row.rd (by intros; rfl) hrN, Row.rd (by intros; rfl) hrS, Row.rd (by intros; rfl) hrA, Row.rd (by intros; rfl) hrD⟩ hBf; rw [if_pos hsp2] at h; exact h)) ) (fun h => by cases h) rfl ?_; clear hf fa; rintro fa _ w12 ⟨rfl, he9⟩ hf
            replace hkb1 := blk_ext hkb1 he9
            replace hk2 := blk_ext hk2 he9
            replace hrN := Row.ext hrN he9
            replace hrS := Row.ext hrS he9
            replace hrA := Row.ext hrA he9
            replace hrD := Row.ext hrD he9
            replace hb := hb.trans (Below.mono he9 hb.size)
            change Fr _ _ ((77, (.string (lineS k st))) :: _) at hf
            refine sqgd (act := true) (g := 3) (want := false) (ag := true) (c := false) hf (by rfl) (by rfl) rfl (fun _ =>  Runs.does (R := fun vq wq => vq = (.string l) ∧ w12 = wq) (r_move rfl) ⟨rfl, rfl⟩) (fun h => by cases h) rfl ?_; clear hf fa; rintro fa _ _ ⟨rfl, rfl⟩ hf
            change Fr _ _ ((78, (.string l)) :: _) at hf
            refine sqgd (act := true) (g := 3) (want := false) (ag := true) (c := false) hf (by rfl) (by rfl) rfl (fun _ =>  Runs.does (R := fun vq wq => vq = (.bool (decide ((lineS k st) ≠ l))) ∧ w12 = wq) (r_sne rfl rfl) ⟨rfl, rfl⟩) (fun h => by cases h) rfl ?_; clear hf fa; rintro fa _ _ ⟨rfl, rfl⟩ hf
            change Fr _ _ ((79, (.bool (decide ((lineS k st) ≠ l)))) :: _) at hf
            refine sqv hf (r_pick (b := false) rfl rfl rfl rfl) rfl rfl rfl ?_; clear hf fa; intro fa hf
            apply wpList_nil
            (try simp only [Exit.then, Exit.inBlock, ↓reduceIte, Nat.reduceEqDiff])
            refine hK20 _ _ ?_
            refine wp_cond_split (t := (decide ((lineS k st) ≠ l))) (hf.ev rfl) (fun hqt80_1 => ?_) (fun hqt80_1 => ?_)
            · have hqt80_1b := hqt80_1
              try simp only [decide_eq_true_eq, Bool.and_eq_true, Bool.or_eq_true, Bool.not_eq_true', decide_eq_false_iff_not, ne_eq, Bool.not_eq_true] at hqt80_1
              refine wp_seq_k (fun K21 hK21 => ?_)
              refine wp_region_lit ?_
              refine sqv hf (r_build (vs := []) (cs := #[(.int .i64 (0 : Int)), (.slice none 0 0), (.slice none 0 0), (.slice none 0 0), (.slice none 0 0)]) rfl (fun _ => by kernel_rfl)) rfl rfl rfl ?_; clear hf fa; intro fa hf
              refine sqn hf (d_storeK (T := 45) (v := (.agg #[(.int .i64 (0 : Int)), (.slice none 0 0), (.slice none 0 0), (.slice none 0 0), (.slice none 0 0)])) (cs := #[(.int .i64 (0 : Int)), (.slice none 0 0), (.slice none 0 0), (.slice none 0 0), (.slice none 0 0)]) (cs' := #[(.int .i64 (0 : Int)), (.slice none 0 0), (.slice none 0 0), (.slice none 0 0), (.slice none 0 0)]) rfl rfl (by kernel_rfl) (by kernel_rfl) hkb1 (by kernel_rfl) (by kernel_rfl)) rfl rfl ?_; clear hf fa; rintro fa _ w13 ⟨hk5, hg3⟩ hf
              replace hk2 := blk_grown hk2 hg3 (by omega)
              replace hrN := Row.grown hrN hg3 (Row.ne_type hrN hkb1 rfl)
              replace hrS := Row.grown hrS hg3 (Row.ne_type hrS hkb1 rfl)
              replace hrA := Row.grown hrA hg3 (Row.ne_type hrA hkb1 rfl)
              replace hrD := Row.grown hrD hg3 (Row.ne_type hrD hkb1 rfl)
              replace hb := hb.trans (grown_below hg3 hb.size hBb1)
              refine sqv hf (r_assign rfl) rfl rfl rfl ?_; clear hf fa; intro fa hf
              apply wpList_nil
              (try simp only [Exit.then, Exit.inBlock, ↓reduceIte, Nat.reduceEqDiff])
              refine hK21 _ _ ?_
              refine wp_ret ?_
              (try simp only [Exit.then, Exit.inBlock])
              refine retCT hf rfl rfl hk5 Try.underlying45 rfl (by kernel_rfl) rfl ?_
              rw [opP_some hk hX, if_neg (fun h => hqt80_1 h.2)]; exact ⟨none, 0, none, 0, none, 0, none, 0, rfl, opF_nil _, hb⟩
            · have hqt80_1b := hqt80_1
              replace hqt80_1 := Bool.eq_false_iff.1 hqt80_1
              try simp only [ne_eq, decide_eq_true_eq, Bool.and_eq_true, Bool.or_eq_true, Bool.not_eq_true', decide_eq_false_iff_not] at hqt80_1
              refine wp_skip ?_
              (try simp only [Exit.then, Exit.inBlock, ↓reduceIte, Nat.reduceEqDiff])
              refine hK19 _ _ ?_
              refine wp_seq_k (fun K22 hK22 => ?_)
              refine wp_region_lit ?_
              refine sqv hf (r_loadA (cs := [(.int .i64 k), (.slice aN st.N.length cN), (.slice aS st.S.length cS), (.slice aA st.A.length cA), (.slice aD st.D.length cD)]) rfl Try.underlying45 rfl (by kernel_rfl) (cellsAt_blk hk2)) rfl rfl rfl ?_; clear hf fa; intro fa hf
              refine sqn hf (d_storeK (T := 45) (v := (.agg #[(.int .i64 k), (.slice aN st.N.length cN), (.slice aS st.S.length cS), (.slice aA st.A.length cA), (.slice aD st.D.length cD)])) (cs := #[(.int .i64 (0 : Int)), (.slice none 0 0), (.slice none 0 0), (.slice none 0 0), (.slice none 0 0)]) (cs' := #[(.int .i64 k), (.slice aN st.N.length cN), (.slice aS st.S.length cS), (.slice aA st.A.length cA), (.slice aD st.D.length cD)]) rfl rfl (by kernel_rfl) (by kernel_rfl) hkb1 (by kernel_rfl) (by kernel_rfl)) rfl rfl ?_; clear hf fa; rintro fa _ w14 ⟨hk6, hg4⟩ hf
              replace hk2 := blk_grown hk2 hg4 (by omega)
              replace hrN := Row.grown hrN hg4 (Row.ne_type hrN hkb1 rfl)
              replace hrS := Row.grown hrS hg4 (Row.ne_type hrS hkb1 rfl)
              replace hrA := Row.grown hrA hg4 (Row.ne_type hrA hkb1 rfl)
              replace hrD := Row.grown hrD hg4 (Row.ne_type hrD hkb1 rfl)
              replace hb := hb.trans (grown_below hg4 hb.size hBb1)
              refine sqv hf (r_assign rfl) rfl rfl rfl ?_; clear hf fa; intro fa hf
              apply wpList_nil
              (try simp only [Exit.then, Exit.inBlock, ↓reduceIte, Nat.reduceEqDiff])
              refine hK22 _ _ ?_
              refine wp_ret ?_
              (try simp only [Exit.then, Exit.inBlock])
              refine retCT hf rfl rfl hk6 Try.underlying45 rfl (by kernel_rfl) rfl ?_
              rw [opP_some hk hX, if_pos ⟨hsp2, Classical.byContradiction hqt80_1⟩]; exact ⟨aN, cN, aS, cS, aA, cA, aD, cD, rfl, ⟨Row.rd (by intros; rfl) hrN, Row.rd (by intros; rfl) hrS, Row.rd (by intros; rfl) hrA, Row.rd (by intros; rfl) hrD⟩, hb⟩
          · have hsp2b : decide (rightP k st = true) = false := decide_eq_false hsp2
            skip
            refine wp_region_lit ?_
            refine sqv hf (r_loadA (cs := [(.int .i64 k), (.slice aN st.N.length cN), (.slice aS st.S.length cS), (.slice aA st.A.length cA), (.slice aD st.D.length cD)]) rfl Try.underlying45 rfl (by kernel_rfl) (cellsAt_blk hk2)) rfl rfl rfl ?_; clear hf fa; intro fa hf
            refine sqdt hf (d_callB (v := (.bool false)) (vs := [(.agg #[(.int .i64 k), (.slice aN st.N.length cN), (.slice aS st.S.length cS), (.slice aA st.A.length cA), (.slice aD st.D.length cD)])]) rfl Try.func19 (by kernel_rfl) (by kernel_rfl) (by have h := right_any k st aN aS aA aD cN cS cA cD w8 ⟨Row.rd (by intros; rfl) hrN, Row.rd (by intros; rfl) hrS, Row.rd (by intros; rfl) hrA, Row.rd (by intros; rfl) hrD⟩ hBf; rw [Bool.eq_false_iff.2 hsp2] at h; exact h)) rfl rfl rfl ?_; clear hf fa; rintro fa _ w15 ⟨rfl, he10⟩ hf
            replace hkb1 := blk_ext hkb1 he10
            replace hk2 := blk_ext hk2 he10
            replace hrN := Row.ext hrN he10
            replace hrS := Row.ext hrS he10
            replace hrA := Row.ext hrA he10
            replace hrD := Row.ext hrD he10
            replace hb := hb.trans (Below.mono he10 hb.size)
            refine sqv hf (Runs.veq (v' := (.bool true)) (r_not rfl) rfl) rfl rfl rfl ?_; clear hf fa; intro fa hf
            refine sqv hf (r_move rfl) rfl rfl rfl ?_; clear hf fa; intro fa hf
            refine sqgF (act := false) (ag := true) (c := true) (v := .bool false) hf rfl rfl rfl (fun hact => by cases hact) rfl rfl ?_; clear hf fa; intro fa hf
            refine sqgF (act := false) (ag := true) (c := true) (v := .bool false) hf rfl rfl rfl (fun hact => by cases hact) rfl rfl ?_; clear hf fa; intro fa hf
            refine sqgF (act := false) (ag := true) (c := true) (v := .bool false) hf rfl rfl rfl (fun hact => by cases hact) rfl rfl ?_; clear hf fa; intro fa hf
            refine sqgF (act := false) (ag := true) (c := true) (v := .bool false) hf rfl rfl rfl (fun hact => by cases hact) rfl rfl ?_; clear hf fa; intro fa hf
            refine sqv hf (r_pick (b := true) rfl rfl rfl rfl) rfl rfl rfl ?_; clear hf fa; intro fa hf
            apply wpList_nil
            (try simp only [Exit.then, Exit.inBlock, ↓reduceIte, Nat.reduceEqDiff])
            refine hK20 _ _ ?_
            refine wp_cond_true (hf.ev rfl) ?_
            refine wp_seq_k (fun K23 hK23 => ?_)
            refine wp_region_lit ?_
            refine sqv hf (r_build (vs := []) (cs := #[(.int .i64 (0 : Int)), (.slice none 0 0), (.slice none 0 0), (.slice none 0 0), (.slice none 0 0)]) rfl (fun _ => by kernel_rfl)) rfl rfl rfl ?_; clear hf fa; intro fa hf
            refine sqn hf (d_storeK (T := 45) (v := (.agg #[(.int .i64 (0 : Int)), (.slice none 0 0), (.slice none 0 0), (.slice none 0 0), (.slice none 0 0)])) (cs := #[(.int .i64 (0 : Int)), (.slice none 0 0), (.slice none 0 0), (.slice none 0 0), (.slice none 0 0)]) (cs' := #[(.int .i64 (0 : Int)), (.slice none 0 0), (.slice none 0 0), (.slice none 0 0), (.slice none 0 0)]) rfl rfl (by kernel_rfl) (by kernel_rfl) hkb1 (by kernel_rfl) (by kernel_rfl)) rfl rfl ?_; clear hf fa; rintro fa _ w16 ⟨hk7, hg5⟩ hf
            replace hk2 := blk_grown hk2 hg5 (by omega)
            replace hrN := Row.grown hrN hg5 (Row.ne_type hrN hkb1 rfl)
            replace hrS := Row.grown hrS hg5 (Row.ne_type hrS hkb1 rfl)
            replace hrA := Row.grown hrA hg5 (Row.ne_type hrA hkb1 rfl)
            replace hrD := Row.grown hrD hg5 (Row.ne_type hrD hkb1 rfl)
            replace hb := hb.trans (grown_below hg5 hb.size hBb1)
            refine sqv hf (r_assign rfl) rfl rfl rfl ?_; clear hf fa; intro fa hf
            apply wpList_nil
            (try simp only [Exit.then, Exit.inBlock, ↓reduceIte, Nat.reduceEqDiff])
            refine hK23 _ _ ?_
            refine wp_ret ?_
            (try simp only [Exit.then, Exit.inBlock])
            refine retCT hf rfl rfl hk7 Try.underlying45 rfl (by kernel_rfl) rfl ?_
            rw [opP_some hk hX, if_neg (fun h => hsp2 h.1)]; exact ⟨none, 0, none, 0, none, 0, none, 0, rfl, opF_nil _, hb⟩
        · have hqt53_2b := hqt53_2
          replace hqt53_2 := Bool.eq_false_iff.1 hqt53_2
          try simp only [ne_eq, decide_eq_true_eq, Bool.and_eq_true, Bool.or_eq_true, Bool.not_eq_true', decide_eq_false_iff_not] at hqt53_2
          refine wp_skip ?_
          (try simp only [Exit.then, Exit.inBlock, ↓reduceIte, Nat.reduceEqDiff])
          refine hK12 _ _ ?_
          refine wp_seq_k (fun K24 hK24 => ?_)
          refine wp_seq_k (fun K25 hK25 => ?_)
          skip
          refine wp_region_lit ?_
          refine sqv hf (r_move rfl) rfl rfl rfl ?_; clear hf fa; intro fa hf
          refine sqv hf (Runs.veq (r_not rfl) (congrArg Value.bool (show _ = true from (by rw [Bool.eq_false_iff.2 hsp1]; rfl)))) rfl rfl rfl ?_; clear hf fa; intro fa hf
          refine sqv hf (r_move rfl) rfl rfl rfl ?_; clear hf fa; intro fa hf
          refine sqgF (act := false) (ag := true) (c := true) (v := .bool false) hf rfl rfl rfl (fun hact => by cases hact) rfl rfl ?_; clear hf fa; intro fa hf
          refine sqgF (act := false) (ag := true) (c := true) (v := .bool false) hf rfl rfl rfl (fun hact => by cases hact) rfl rfl ?_; clear hf fa; intro fa hf
          refine sqgF (act := false) (ag := true) (c := true) (v := .bool false) hf rfl rfl rfl (fun hact => by cases hact) rfl rfl ?_; clear hf fa; intro fa hf
          refine sqgF (act := false) (ag := true) (c := true) (v := .bool false) hf rfl rfl rfl (fun hact => by cases hact) rfl rfl ?_; clear hf fa; intro fa hf
          refine sqgF (act := false) (ag := true) (c := true) (v := .bool false) hf rfl rfl rfl (fun hact => by cases hact) rfl rfl ?_; clear hf fa; intro fa hf
          refine sqgF (act := false) (ag := true) (c := true) (v := .bool false) hf rfl rfl rfl (fun hact => by cases hact) rfl rfl ?_; clear hf fa; intro fa hf
          refine sqv hf (r_pick (b := true) rfl rfl rfl rfl) rfl rfl rfl ?_; clear hf fa; intro fa hf
          apply wpList_nil
          (try simp only [Exit.then, Exit.inBlock, ↓reduceIte, Nat.reduceEqDiff])
          refine hK25 _ _ ?_
          refine wp_cond_true (hf.ev rfl) ?_
          refine wp_seq_k (fun K26 hK26 => ?_)
          skip
          refine wp_region_lit ?_
          refine sqv hf (r_build (vs := []) (cs := #[(.int .i64 (0 : Int)), (.slice none 0 0), (.slice none 0 0), (.slice none 0 0), (.slice none 0 0)]) rfl (fun _ => by kernel_rfl)) rfl rfl rfl ?_; clear hf fa; intro fa hf
          refine sqn hf (d_storeK (T := 45) (v := (.agg #[(.int .i64 (0 : Int)), (.slice none 0 0), (.slice none 0 0), (.slice none 0 0), (.slice none 0 0)])) (cs := #[(.int .i64 (0 : Int)), (.slice none 0 0), (.slice none 0 0), (.slice none 0 0), (.slice none 0 0)]) (cs' := #[(.int .i64 (0 : Int)), (.slice none 0 0), (.slice none 0 0), (.slice none 0 0), (.slice none 0 0)]) rfl rfl (by kernel_rfl) (by kernel_rfl) hkb1 (by kernel_rfl) (by kernel_rfl)) rfl rfl ?_; clear hf fa; rintro fa _ w17 ⟨hk8, hg6⟩ hf
          replace hb := hb.trans (grown_below hg6 hb.size hBb1)
          refine sqv hf (r_assign rfl) rfl rfl rfl ?_; clear hf fa; intro fa hf
          apply wpList_nil
          (try simp only [Exit.then, Exit.inBlock, ↓reduceIte, Nat.reduceEqDiff])
          refine hK26 _ _ ?_
          refine wp_ret ?_
          (try simp only [Exit.then, Exit.inBlock])
          refine retCT hf rfl rfl hk8 Try.underlying45 rfl (by kernel_rfl) rfl ?_
          rw [opP_none hk (parse_no Hs (by omega) hpn (by omega) (by have h := hqt53_2; omega))]; exact ⟨none, 0, none, 0, none, 0, none, 0, rfl, opF_nil _, hb⟩
    · have hqt37_1b := hqt37_1
      replace hqt37_1 := Bool.eq_false_iff.1 hqt37_1
      try simp only [ne_eq, decide_eq_true_eq, Bool.and_eq_true, Bool.or_eq_true, Bool.not_eq_true', decide_eq_false_iff_not] at hqt37_1
      refine wp_exit ?_
      (try simp only [Exit.then, Exit.inBlock, ↓reduceIte, Nat.reduceEqDiff])
      refine hK6 _ _ ?_
      refine wp_seq_k (fun K27 hK27 => ?_)
      refine wp_seq_k (fun K28 hK28 => ?_)
      have hX : parseP (l.size + 1) (bl (formS k)) ((bl l).drop (posB l 32)) st0 = some st := parse_end Hs (by omega) (by omega)
      obtain ⟨aN, cN, aS, cS, aA, cA, aD, cD, hk2, hrN, hrS, hrA, hrD⟩ := hst.ext hbS
      have hBf : OpB st := hInv.toB (by omega)
      by_cases hsp3 : rightP k st = true
      · have hsp3b : decide (rightP k st = true) = true := decide_eq_true hsp3
        skip
        refine wp_region_lit ?_
        refine sqv hf (r_loadA (cs := [(.int .i64 k), (.slice aN st.N.length cN), (.slice aS st.S.length cS), (.slice aA st.A.length cA), (.slice aD st.D.length cD)]) rfl Try.underlying45 rfl (by kernel_rfl) (cellsAt_blk hk2)) rfl rfl rfl ?_; clear hf fa; intro fa hf
        refine sqdt hf (d_callB (v := (.bool true)) (vs := [(.agg #[(.int .i64 k), (.slice aN st.N.length cN), (.slice aS st.S.length cS), (.slice aA st.A.length cA), (.slice aD st.D.length cD)])]) rfl Try.func19 (by kernel_rfl) (by kernel_rfl) (by have h := right_any k st aN aS aA aD cN cS cA cD w7 ⟨Row.rd (by intros; rfl) hrN, Row.rd (by intros; rfl) hrS, Row.rd (by intros; rfl) hrA, Row.rd (by intros; rfl) hrD⟩ hBf; rw [hsp3] at h; exact h)) rfl rfl rfl ?_; clear hf fa; rintro fa _ w18 ⟨rfl, he11⟩ hf
        replace hkb1 := blk_ext hkb1 he11
        replace hk2 := blk_ext hk2 he11
        replace hrN := Row.ext hrN he11
        replace hrS := Row.ext hrS he11
        replace hrA := Row.ext hrA he11
        replace hrD := Row.ext hrD he11
        replace hb := hb.trans (Below.mono he11 hb.size)
        refine sqv hf (Runs.veq (v' := (.bool false)) (r_not rfl) rfl) rfl rfl rfl ?_; clear hf fa; intro fa hf
        refine sqv hf (r_move rfl) rfl rfl rfl ?_; clear hf fa; intro fa hf
        refine sqgd (act := true) (g := 3) (want := false) (ag := true) (c := false) hf (by rfl) (by rfl) rfl (fun _ =>  Runs.does (R := fun vq wq => vq = (.agg #[(.int .i64 k), (.slice aN st.N.length cN), (.slice aS st.S.length cS), (.slice aA st.A.length cA), (.slice aD st.D.length cD)]) ∧ w18 = wq) (r_loadA (cs := [(.int .i64 k), (.slice aN st.N.length cN), (.slice aS st.S.length cS), (.slice aA st.A.length cA), (.slice aD st.D.length cD)]) rfl Try.underlying45 rfl (by kernel_rfl) (cellsAt_blk hk2)) ⟨rfl, rfl⟩) (fun h => by cases h) rfl ?_; clear hf fa; rintro fa _ _ ⟨rfl, rfl⟩ hf
        change Fr _ _ ((76, (.agg #[(.int .i64 k), (.slice aN st.N.length cN), (.slice aS st.S.length cS), (.slice aA st.A.length cA), (.slice aD st.D.length cD)])) :: _) at hf
        refine sqgd (act := true) (g := 3) (want := false) (ag := true) (c := false) hf (by rfl) (by rfl) rfl (fun _ =>  (d_callB (v := (.string (lineS k st))) (vs := [(.agg #[(.int .i64 k), (.slice aN st.N.length cN), (.slice aS st.S.length cS), (.slice aA st.A.length cA), (.slice aD st.D.length cD)])]) rfl Try.func14 (by kernel_rfl) (by kernel_rfl) (by have h := line_any k st aN aS aA aD cN cS cA cD w18 ⟨Row.rd (by intros; rfl) hrN, Row.rd (by intros; rfl) hrS, Row.rd (by intros; rfl) hrA, Row.rd (by intros; rfl) hrD⟩ hBf; rw [if_pos hsp3] at h; exact h)) ) (fun h => by cases h) rfl ?_; clear hf fa; rintro fa _ w19 ⟨rfl, he12⟩ hf
        replace hkb1 := blk_ext hkb1 he12
        replace hk2 := blk_ext hk2 he12
        replace hrN := Row.ext hrN he12
        replace hrS := Row.ext hrS he12
        replace hrA := Row.ext hrA he12
        replace hrD := Row.ext hrD he12
        replace hb := hb.trans (Below.mono he12 hb.size)
        change Fr _ _ ((77, (.string (lineS k st))) :: _) at hf
        refine sqgd (act := true) (g := 3) (want := false) (ag := true) (c := false) hf (by rfl) (by rfl) rfl (fun _ =>  Runs.does (R := fun vq wq => vq = (.string l) ∧ w19 = wq) (r_move rfl) ⟨rfl, rfl⟩) (fun h => by cases h) rfl ?_; clear hf fa; rintro fa _ _ ⟨rfl, rfl⟩ hf
        change Fr _ _ ((78, (.string l)) :: _) at hf
        refine sqgd (act := true) (g := 3) (want := false) (ag := true) (c := false) hf (by rfl) (by rfl) rfl (fun _ =>  Runs.does (R := fun vq wq => vq = (.bool (decide ((lineS k st) ≠ l))) ∧ w19 = wq) (r_sne rfl rfl) ⟨rfl, rfl⟩) (fun h => by cases h) rfl ?_; clear hf fa; rintro fa _ _ ⟨rfl, rfl⟩ hf
        change Fr _ _ ((79, (.bool (decide ((lineS k st) ≠ l)))) :: _) at hf
        refine sqv hf (r_pick (b := false) rfl rfl rfl rfl) rfl rfl rfl ?_; clear hf fa; intro fa hf
        apply wpList_nil
        (try simp only [Exit.then, Exit.inBlock, ↓reduceIte, Nat.reduceEqDiff])
        refine hK28 _ _ ?_
        refine wp_cond_split (t := (decide ((lineS k st) ≠ l))) (hf.ev rfl) (fun hqt80_3 => ?_) (fun hqt80_3 => ?_)
        · have hqt80_3b := hqt80_3
          try simp only [decide_eq_true_eq, Bool.and_eq_true, Bool.or_eq_true, Bool.not_eq_true', decide_eq_false_iff_not, ne_eq, Bool.not_eq_true] at hqt80_3
          refine wp_seq_k (fun K29 hK29 => ?_)
          refine wp_region_lit ?_
          refine sqv hf (r_build (vs := []) (cs := #[(.int .i64 (0 : Int)), (.slice none 0 0), (.slice none 0 0), (.slice none 0 0), (.slice none 0 0)]) rfl (fun _ => by kernel_rfl)) rfl rfl rfl ?_; clear hf fa; intro fa hf
          refine sqn hf (d_storeK (T := 45) (v := (.agg #[(.int .i64 (0 : Int)), (.slice none 0 0), (.slice none 0 0), (.slice none 0 0), (.slice none 0 0)])) (cs := #[(.int .i64 (0 : Int)), (.slice none 0 0), (.slice none 0 0), (.slice none 0 0), (.slice none 0 0)]) (cs' := #[(.int .i64 (0 : Int)), (.slice none 0 0), (.slice none 0 0), (.slice none 0 0), (.slice none 0 0)]) rfl rfl (by kernel_rfl) (by kernel_rfl) hkb1 (by kernel_rfl) (by kernel_rfl)) rfl rfl ?_; clear hf fa; rintro fa _ w20 ⟨hk9, hg7⟩ hf
          replace hk2 := blk_grown hk2 hg7 (by omega)
          replace hrN := Row.grown hrN hg7 (Row.ne_type hrN hkb1 rfl)
          replace hrS := Row.grown hrS hg7 (Row.ne_type hrS hkb1 rfl)
          replace hrA := Row.grown hrA hg7 (Row.ne_type hrA hkb1 rfl)
          replace hrD := Row.grown hrD hg7 (Row.ne_type hrD hkb1 rfl)
          replace hb := hb.trans (grown_below hg7 hb.size hBb1)
          refine sqv hf (r_assign rfl) rfl rfl rfl ?_; clear hf fa; intro fa hf
          apply wpList_nil
          (try simp only [Exit.then, Exit.inBlock, ↓reduceIte, Nat.reduceEqDiff])
          refine hK29 _ _ ?_
          refine wp_ret ?_
          (try simp only [Exit.then, Exit.inBlock])
          refine retCT hf rfl rfl hk9 Try.underlying45 rfl (by kernel_rfl) rfl ?_
          rw [opP_some hk hX, if_neg (fun h => hqt80_3 h.2)]; exact ⟨none, 0, none, 0, none, 0, none, 0, rfl, opF_nil _, hb⟩
        · have hqt80_3b := hqt80_3
          replace hqt80_3 := Bool.eq_false_iff.1 hqt80_3
          try simp only [ne_eq, decide_eq_true_eq, Bool.and_eq_true, Bool.or_eq_true, Bool.not_eq_true', decide_eq_false_iff_not] at hqt80_3
          refine wp_skip ?_
          (try simp only [Exit.then, Exit.inBlock, ↓reduceIte, Nat.reduceEqDiff])
          refine hK27 _ _ ?_
          refine wp_seq_k (fun K30 hK30 => ?_)
          refine wp_region_lit ?_
          refine sqv hf (r_loadA (cs := [(.int .i64 k), (.slice aN st.N.length cN), (.slice aS st.S.length cS), (.slice aA st.A.length cA), (.slice aD st.D.length cD)]) rfl Try.underlying45 rfl (by kernel_rfl) (cellsAt_blk hk2)) rfl rfl rfl ?_; clear hf fa; intro fa hf
          refine sqn hf (d_storeK (T := 45) (v := (.agg #[(.int .i64 k), (.slice aN st.N.length cN), (.slice aS st.S.length cS), (.slice aA st.A.length cA), (.slice aD st.D.length cD)])) (cs := #[(.int .i64 (0 : Int)), (.slice none 0 0), (.slice none 0 0), (.slice none 0 0), (.slice none 0 0)]) (cs' := #[(.int .i64 k), (.slice aN st.N.length cN), (.slice aS st.S.length cS), (.slice aA st.A.length cA), (.slice aD st.D.length cD)]) rfl rfl (by kernel_rfl) (by kernel_rfl) hkb1 (by kernel_rfl) (by kernel_rfl)) rfl rfl ?_; clear hf fa; rintro fa _ w21 ⟨hk10, hg8⟩ hf
          replace hk2 := blk_grown hk2 hg8 (by omega)
          replace hrN := Row.grown hrN hg8 (Row.ne_type hrN hkb1 rfl)
          replace hrS := Row.grown hrS hg8 (Row.ne_type hrS hkb1 rfl)
          replace hrA := Row.grown hrA hg8 (Row.ne_type hrA hkb1 rfl)
          replace hrD := Row.grown hrD hg8 (Row.ne_type hrD hkb1 rfl)
          replace hb := hb.trans (grown_below hg8 hb.size hBb1)
          refine sqv hf (r_assign rfl) rfl rfl rfl ?_; clear hf fa; intro fa hf
          apply wpList_nil
          (try simp only [Exit.then, Exit.inBlock, ↓reduceIte, Nat.reduceEqDiff])
          refine hK30 _ _ ?_
          refine wp_ret ?_
          (try simp only [Exit.then, Exit.inBlock])
          refine retCT hf rfl rfl hk10 Try.underlying45 rfl (by kernel_rfl) rfl ?_
          rw [opP_some hk hX, if_pos ⟨hsp3, Classical.byContradiction hqt80_3⟩]; exact ⟨aN, cN, aS, cS, aA, cA, aD, cD, rfl, ⟨Row.rd (by intros; rfl) hrN, Row.rd (by intros; rfl) hrS, Row.rd (by intros; rfl) hrA, Row.rd (by intros; rfl) hrD⟩, hb⟩
      · have hsp3b : decide (rightP k st = true) = false := decide_eq_false hsp3
        skip
        refine wp_region_lit ?_
        refine sqv hf (r_loadA (cs := [(.int .i64 k), (.slice aN st.N.length cN), (.slice aS st.S.length cS), (.slice aA st.A.length cA), (.slice aD st.D.length cD)]) rfl Try.underlying45 rfl (by kernel_rfl) (cellsAt_blk hk2)) rfl rfl rfl ?_; clear hf fa; intro fa hf
        refine sqdt hf (d_callB (v := (.bool false)) (vs := [(.agg #[(.int .i64 k), (.slice aN st.N.length cN), (.slice aS st.S.length cS), (.slice aA st.A.length cA), (.slice aD st.D.length cD)])]) rfl Try.func19 (by kernel_rfl) (by kernel_rfl) (by have h := right_any k st aN aS aA aD cN cS cA cD w7 ⟨Row.rd (by intros; rfl) hrN, Row.rd (by intros; rfl) hrS, Row.rd (by intros; rfl) hrA, Row.rd (by intros; rfl) hrD⟩ hBf; rw [Bool.eq_false_iff.2 hsp3] at h; exact h)) rfl rfl rfl ?_; clear hf fa; rintro fa _ w22 ⟨rfl, he13⟩ hf
        replace hkb1 := blk_ext hkb1 he13
        replace hk2 := blk_ext hk2 he13
        replace hrN := Row.ext hrN he13
        replace hrS := Row.ext hrS he13
        replace hrA := Row.ext hrA he13
        replace hrD := Row.ext hrD he13
        replace hb := hb.trans (Below.mono he13 hb.size)
        refine sqv hf (Runs.veq (v' := (.bool true)) (r_not rfl) rfl) rfl rfl rfl ?_; clear hf fa; intro fa hf
        refine sqv hf (r_move rfl) rfl rfl rfl ?_; clear hf fa; intro fa hf
        refine sqgF (act := false) (ag := true) (c := true) (v := .bool false) hf rfl rfl rfl (fun hact => by cases hact) rfl rfl ?_; clear hf fa; intro fa hf
        refine sqgF (act := false) (ag := true) (c := true) (v := .bool false) hf rfl rfl rfl (fun hact => by cases hact) rfl rfl ?_; clear hf fa; intro fa hf
        refine sqgF (act := false) (ag := true) (c := true) (v := .bool false) hf rfl rfl rfl (fun hact => by cases hact) rfl rfl ?_; clear hf fa; intro fa hf
        refine sqgF (act := false) (ag := true) (c := true) (v := .bool false) hf rfl rfl rfl (fun hact => by cases hact) rfl rfl ?_; clear hf fa; intro fa hf
        refine sqv hf (r_pick (b := true) rfl rfl rfl rfl) rfl rfl rfl ?_; clear hf fa; intro fa hf
        apply wpList_nil
        (try simp only [Exit.then, Exit.inBlock, ↓reduceIte, Nat.reduceEqDiff])
        refine hK28 _ _ ?_
        refine wp_cond_true (hf.ev rfl) ?_
        refine wp_seq_k (fun K31 hK31 => ?_)
        refine wp_region_lit ?_
        refine sqv hf (r_build (vs := []) (cs := #[(.int .i64 (0 : Int)), (.slice none 0 0), (.slice none 0 0), (.slice none 0 0), (.slice none 0 0)]) rfl (fun _ => by kernel_rfl)) rfl rfl rfl ?_; clear hf fa; intro fa hf
        refine sqn hf (d_storeK (T := 45) (v := (.agg #[(.int .i64 (0 : Int)), (.slice none 0 0), (.slice none 0 0), (.slice none 0 0), (.slice none 0 0)])) (cs := #[(.int .i64 (0 : Int)), (.slice none 0 0), (.slice none 0 0), (.slice none 0 0), (.slice none 0 0)]) (cs' := #[(.int .i64 (0 : Int)), (.slice none 0 0), (.slice none 0 0), (.slice none 0 0), (.slice none 0 0)]) rfl rfl (by kernel_rfl) (by kernel_rfl) hkb1 (by kernel_rfl) (by kernel_rfl)) rfl rfl ?_; clear hf fa; rintro fa _ w23 ⟨hk11, hg9⟩ hf
        replace hk2 := blk_grown hk2 hg9 (by omega)
        replace hrN := Row.grown hrN hg9 (Row.ne_type hrN hkb1 rfl)
        replace hrS := Row.grown hrS hg9 (Row.ne_type hrS hkb1 rfl)
        replace hrA := Row.grown hrA hg9 (Row.ne_type hrA hkb1 rfl)
        replace hrD := Row.grown hrD hg9 (Row.ne_type hrD hkb1 rfl)
        replace hb := hb.trans (grown_below hg9 hb.size hBb1)
        refine sqv hf (r_assign rfl) rfl rfl rfl ?_; clear hf fa; intro fa hf
        apply wpList_nil
        (try simp only [Exit.then, Exit.inBlock, ↓reduceIte, Nat.reduceEqDiff])
        refine hK31 _ _ ?_
        refine wp_ret ?_
        (try simp only [Exit.then, Exit.inBlock])
        refine retCT hf rfl rfl hk11 Try.underlying45 rfl (by kernel_rfl) rfl ?_
        rw [opP_some hk hX, if_neg (fun h => hsp3 h.1)]; exact ⟨none, 0, none, 0, none, 0, none, 0, rfl, opF_nil _, hb⟩
end Go.Proofs.Ytpalmpfkliepfaa

namespace Go.Proofs.Ytpalmpfkliepfaa
open Go.RowKit Ut
set_option linter.unusedVariables false
set_option linter.unusedSimpArgs false
/-- What is left of the pieces, from inside a piece on. -/
def contP (fu : Nat) (cur : List Nat) (q : Bool) (l : List Nat) : List (List Nat) := match (scanF q l).2 with
  | [] => [cur ++ (scanF q l).1]
  | _ :: r => (cur ++ (scanF q l).1) :: piecesF fu r
theorem piecesF_cont (f : Nat) (l : List Nat) : piecesF (f + 1) l = contP f [] false l := by
  rw [piecesF, contP]
  cases (scanF false l).2 <;> rfl
theorem contP_nil (fu : Nat) (cur : List Nat) (q : Bool) : contP fu cur q [] = [cur] := by
  unfold contP
  show [cur ++ []] = _
  rw [List.append_nil]
theorem contP_cut (fu : Nat) (cur : List Nat) (l : List Nat) : contP (fu + 1) cur false (32 :: l) = cur :: contP fu [] false l := by
  rw [← piecesF_cont]
  unfold contP
  rw [show scanF false (32 :: l) = ([], 32 :: l) from rfl]
  simp
theorem contP_go {fu : Nat} {cur : List Nat} {q : Bool} {c : Nat} {l : List Nat} (h : ¬ (c = 32 ∧ q = false)) : contP fu cur q (c :: l) = contP fu (cur ++ [c]) (if c = 34 then !q else q) l := by
  unfold contP
  rw [scan_go h]
  simp only
  cases (scanF (if c = 34 then !q else q) l).2 <;> simp
def pcsS (l : ByteArray) : List ByteArray := (pieces (bl l)).map strN
theorem ext_snoc {s : ByteArray} {a b : Nat} (h : a ≤ b) (hb : b < s.size) : bl (s.extract a (b + 1)) = bl (s.extract a b) ++ [sbt s b] := by
  rw [bl_mid, bl_mid, show b + 1 - a = (b - a) + 1 by omega, List.take_add_one, List.getElem?_drop, show a + (b - a) = b by omega, bl_get hb]; rfl
theorem ext_nil (s : ByteArray) (a : Nat) : bl (s.extract a a) = [] := by rw [bl_mid]; simp
theorem piecesF_len : ∀ (f : Nat) (l : List Nat), ∀ p ∈ piecesF f l, p.length ≤ l.length
  | 0, _, p, h => by cases h
  | f + 1, l, p, h => by
    have h1 := congrArg List.length (scanF_app false l)
    rw [List.length_append] at h1
    rw [piecesF] at h
    split at h
    · simp only [List.mem_singleton] at h; subst h; omega
    · rename_i x r e
      rw [e] at h1
      rcases List.mem_cons.1 h with rfl | h
      · omega
      · have := piecesF_len f r p h; simp only [List.length_cons] at h1; omega
theorem pcs_len (l : ByteArray) : ∀ y ∈ pcsS l, y.size ≤ l.size := by
  intro y hy
  obtain ⟨p, hp, rfl⟩ := List.mem_map.1 hy
  rw [strN_size, ← bl_length]
  exact piecesF_len _ _ p hp
theorem pcs_out {l : ByteArray} {o : List ByteArray} {a : Nat} (h : pieces (bl l) = o.map bl ++ [bl (l.extract a l.size)]) : pcsS l = o ++ [l.extract a l.size] := by
  unfold pcsS
  rw [h, List.map_append, List.map_map]
  congr 1
  · conv => rhs; rw [← List.map_id o]
    apply List.map_congr_left
    intro x _
    exact strN_bl x
  · rw [List.map_singleton, strN_bl]

theorem piecesF_num : ∀ (f : Nat) (l : List Nat), (piecesF f l).length ≤ l.length + 1
  | 0, _ => Nat.zero_le _
  | f + 1, l => by
    have h1 := congrArg List.length (scanF_app false l)
    rw [List.length_append] at h1
    rw [piecesF]
    split
    · simp
    · rename_i x r e
      rw [e] at h1
      have := piecesF_num f r
      simp only [List.length_cons] at h1 ⊢; omega
theorem pieces_len (l : List Nat) : (pieces l).length ≤ l.length + 1 := piecesF_num _ l

set_option maxHeartbeats 1000000 in
set_option maxRecDepth 100000 in
theorem pieces_any (s : ByteArray) (w : World) (hs : s.size ≤ 100000) : Calls Try.prog 61 #[(.string s)] w fun e w' => ∃ v, e = .returned v ∧ Row 1 vStr 9 w.heap.size w' v (pcsS s) ∧ Below w.heap.size w w' := by
  refine sx_enter (L := [(0, (.string s))]) Try.func61 rfl rfl rfl rfl (fun fa hf => ?_)
  have hb : Below w.heap.size w w := Below.refl _ _
  refine wp_seq_k (fun K1 hK1 => ?_)
  refine wp_region_lit ?_
  refine sqv hf (r_assign rfl) rfl rfl rfl ?_; clear hf fa; intro fa hf
  apply wpList_nil
  (try simp only [Exit.then, Exit.inBlock, ↓reduceIte, Nat.reduceEqDiff])
  refine hK1 _ _ ?_
  refine wp_seq_k (fun K2 hK2 => ?_)
  refine wp_region_lit ?_
  refine sqv hf (r_assign rfl) rfl rfl rfl ?_; clear hf fa; intro fa hf
  apply wpList_nil
  (try simp only [Exit.then, Exit.inBlock, ↓reduceIte, Nat.reduceEqDiff])
  refine hK2 _ _ ?_
  refine wp_seq_k (fun K3 hK3 => ?_)
  refine wp_region_lit ?_
  refine sqv hf (r_assign rfl) rfl rfl rfl ?_; clear hf fa; intro fa hf
  refine sqv hf (r_assign rfl) rfl rfl rfl ?_; clear hf fa; intro fa hf
  apply wpList_nil
  (try simp only [Exit.then, Exit.inBlock, ↓reduceIte, Nat.reduceEqDiff])
  refine hK3 _ _ ?_
  refine wp_seq_k (fun K4 hK4 => ?_)
  refine wp_seq_k (fun K5 hK5 => ?_)
  refine wp_region_lit ?_
  refine sqv hf (r_assign rfl) rfl rfl rfl ?_; clear hf fa; intro fa hf
  apply wpList_nil
  (try simp only [Exit.then, Exit.inBlock, ↓reduceIte, Nat.reduceEqDiff])
  refine hK5 _ _ ?_
  refine wp_block ?_
  refine wp_loop_k (fun mq fa wr => ∃ (i : Nat) (fr : Nat) (q : Bool) (fu : Nat) (o : List ByteArray) (roa : Option Addr) (roc : Nat), mq = s.size - i ∧ Fr 42 fa [(0, (.string s)), (4, (.int .i64 ((fr : Nat) : Int))), (5, (.bool q)), (6, (.int .i64 ((i : Nat) : Int))), (3, (.slice roa o.length roc))] ∧ Below w.heap.size w wr ∧ Row 1 vStr 9 (w.heap.size) wr (.slice roa (o.length) roc) o ∧ (i ≤ s.size) ∧ (fr ≤ i) ∧ (s.size ≤ fu + i) ∧ (pieces (bl s) = o.map bl ++ contP fu (bl (s.extract fr i)) q ((bl s).drop i))) ?_ ?_
  · skip
    exact ⟨_, 0, 0, false, s.size, [], none, 0, rfl, hf.sub ⟨rfl, (some_int (by first | rfl | omega)), rfl, (some_int (by first | rfl | omega)), (some_sl (by first | omega | rfl | (simp only [List.length_append, List.length_cons, List.length_nil]; omega) | (simp <;> omega)) rfl), trivial⟩, hb, Row.nil, by omega, by omega, by omega, (by rw [ext_nil, List.drop_zero, ← bl_length, ← piecesF_cont]; rfl)⟩
  · skip
    clear hf fa; intro mq1 fa w1 hI KL1 hKL1
    clear hb
    obtain ⟨i, fr, q, fu, o, roa, roc, hmq1, hf, hb, hro, hi, hfr, hfu, Hs⟩ := hI
    have hcro := Row.caps hro
    have hpl9 := pieces_len (bl s)
    have hol := congrArg List.length Hs
    rw [List.length_append, List.length_map] at hol
    rw [bl_length] at hpl9
    refine wp_seq_k (fun K6 hK6 => ?_)
    refine wp_seq_k (fun K7 hK7 => ?_)
    refine wp_region_lit ?_
    refine sqv hf (r_move rfl) rfl rfl rfl ?_; clear hf fa; intro fa hf
    refine sqv hf (r_move rfl) rfl rfl rfl ?_; clear hf fa; intro fa hf
    refine sqv hf (r_lens rfl Try.underlying9) rfl rfl rfl ?_; clear hf fa; intro fa hf
    refine sqv hf (r_lt rfl rfl) rfl rfl rfl ?_; clear hf fa; intro fa hf
    apply wpList_nil
    (try simp only [Exit.then, Exit.inBlock, ↓reduceIte, Nat.reduceEqDiff])
    refine hK7 _ _ ?_
    refine wp_cond_split (t := (decide (((i : Nat) : Int) < ((s.size : Nat) : Int)))) (hf.ev rfl) (fun hqt10_1 => ?_) (fun hqt10_1 => ?_)
    · have hqt10_1b := hqt10_1
      try simp only [decide_eq_true_eq, Bool.and_eq_true, Bool.or_eq_true, Bool.not_eq_true', decide_eq_false_iff_not, ne_eq, Bool.not_eq_true] at hqt10_1
      refine wp_skip ?_
      (try simp only [Exit.then, Exit.inBlock, ↓reduceIte, Nat.reduceEqDiff])
      refine hK6 _ _ ?_
      refine wp_seq_k (fun K8 hK8 => ?_)
      refine wp_block ?_
      refine wp_seq_k (fun K9 hK9 => ?_)
      refine wp_seq_k (fun K10 hK10 => ?_)
      refine wp_region_lit ?_
      refine sqv hf (r_move rfl) rfl rfl rfl ?_; clear hf fa; intro fa hf
      refine sqv hf (r_move rfl) rfl rfl rfl ?_; clear hf fa; intro fa hf
      refine sqv hf (r_sindexD (j := i) rfl rfl Try.underlying9 rfl (by omega)) rfl rfl rfl ?_; clear hf fa; intro fa hf
      refine sqv hf (r_eq rfl rfl) rfl rfl rfl ?_; clear hf fa; intro fa hf
      apply wpList_nil
      (try simp only [Exit.then, Exit.inBlock, ↓reduceIte, Nat.reduceEqDiff])
      refine hK10 _ _ ?_
      refine wp_cond_split (t := (decide (((sbt s i : Nat) : Int) = (34 : Int)))) (hf.ev rfl) (fun hqt16_1 => ?_) (fun hqt16_1 => ?_)
      · have hqt16_1b := hqt16_1
        try simp only [decide_eq_true_eq, Bool.and_eq_true, Bool.or_eq_true, Bool.not_eq_true', decide_eq_false_iff_not, ne_eq, Bool.not_eq_true] at hqt16_1
        refine wp_region_lit ?_
        refine sqv hf (r_move rfl) rfl rfl rfl ?_; clear hf fa; intro fa hf
        refine sqv hf (r_not rfl) rfl rfl rfl ?_; clear hf fa; intro fa hf
        refine sqv hf (r_assign rfl) rfl rfl rfl ?_; clear hf fa; intro fa hf
        apply wpList_nil
        (try simp only [Exit.then, Exit.inBlock, ↓reduceIte, Nat.reduceEqDiff])
        refine hK9 _ _ ?_
        refine wp_seq_k (fun K11 hK11 => ?_)
        refine wp_region_lit ?_
        refine sqv hf (r_move rfl) rfl rfl rfl ?_; clear hf fa; intro fa hf
        refine sqv hf (r_move rfl) rfl rfl rfl ?_; clear hf fa; intro fa hf
        refine sqv hf (r_sindexD (j := i) rfl rfl Try.underlying9 rfl (by omega)) rfl rfl rfl ?_; clear hf fa; intro fa hf
        refine sqv hf (r_eq rfl rfl) rfl rfl rfl ?_; clear hf fa; intro fa hf
        refine sqv hf (r_move rfl) rfl rfl rfl ?_; clear hf fa; intro fa hf
        refine sqgT (act := (decide (((sbt s i : Nat) : Int) = (32 : Int)))) (ag := true) (c := (decide (((sbt s i : Nat) : Int) = (32 : Int)))) (v := (.bool (!q))) hf rfl rfl rfl (fun hact => (r_move rfl)) rfl rfl ?_; clear hf fa; intro fa hf
        refine sqgT (act := (decide (((sbt s i : Nat) : Int) = (32 : Int)))) (ag := true) (c := (decide (((sbt s i : Nat) : Int) = (32 : Int)))) (v := (.bool (!(!q)))) hf rfl rfl rfl (fun hact => (r_not (gb_ev hact rfl))) rfl rfl ?_; clear hf fa; intro fa hf
        refine sqv hf (Runs.veq (r_pickA (b := (decide (((sbt s i : Nat) : Int) = (32 : Int)))) (e := (!(!q))) rfl rfl rfl) (congrArg Value.bool (show _ = false from (by rw [decide_eq_false (by have h := hqt16_1; omega)]; rfl)))) rfl rfl rfl ?_; clear hf fa; intro fa hf
        apply wpList_nil
        (try simp only [Exit.then, Exit.inBlock, ↓reduceIte, Nat.reduceEqDiff])
        refine hK11 _ _ ?_
        refine wp_cond_false (hf.ev rfl) ?_
        refine wp_skip ?_
        (try simp only [Exit.then, Exit.inBlock, ↓reduceIte, Nat.reduceEqDiff])
        refine hK8 _ _ ?_
        refine wp_region_lit ?_
        refine sqv hf (r_move rfl) rfl rfl rfl ?_; clear hf fa; intro fa hf
        refine sqv hf (r_add (C := (((i : Nat) : Int) + (1 : Int))) rfl rfl (by rw [IntKind.wrap_i64]; omega)) rfl rfl rfl ?_; clear hf fa; intro fa hf
        refine sqv hf (r_assign rfl) rfl rfl rfl ?_; clear hf fa; intro fa hf
        apply wpList_nil
        (try simp only [Exit.then, Exit.inBlock, ↓reduceIte, Nat.reduceEqDiff])
        have hn9 : ¬ (sbt s i = 32 ∧ q = false) := by
          rintro ⟨e1, e2⟩
          omega
        refine hKL1 _ _ _ (by omega) ⟨(i + 1), fr, (!q), fu, o, roa, roc, rfl, hf.sub ⟨rfl, rfl, rfl, (some_int (by first | rfl | omega)), rfl, trivial⟩, hb, (Row.relen hro), by omega, by omega, by omega, (by rw [Hs, bl_dropc s i (by omega), contP_go hn9, if_pos (by have h := hqt16_1; omega), ext_snoc (by omega) (by omega)])⟩
      · have hqt16_1b := hqt16_1
        replace hqt16_1 := Bool.eq_false_iff.1 hqt16_1
        try simp only [ne_eq, decide_eq_true_eq, Bool.and_eq_true, Bool.or_eq_true, Bool.not_eq_true', decide_eq_false_iff_not] at hqt16_1
        refine wp_skip ?_
        (try simp only [Exit.then, Exit.inBlock, ↓reduceIte, Nat.reduceEqDiff])
        refine hK9 _ _ ?_
        refine wp_seq_k (fun K12 hK12 => ?_)
        refine wp_region_lit ?_
        refine sqv hf (r_move rfl) rfl rfl rfl ?_; clear hf fa; intro fa hf
        refine sqv hf (r_move rfl) rfl rfl rfl ?_; clear hf fa; intro fa hf
        refine sqv hf (r_sindexD (j := i) rfl rfl Try.underlying9 rfl (by omega)) rfl rfl rfl ?_; clear hf fa; intro fa hf
        refine sqv hf (r_eq rfl rfl) rfl rfl rfl ?_; clear hf fa; intro fa hf
        refine sqv hf (r_move rfl) rfl rfl rfl ?_; clear hf fa; intro fa hf
        refine sqgT (act := (decide (((sbt s i : Nat) : Int) = (32 : Int)))) (ag := true) (c := (decide (((sbt s i : Nat) : Int) = (32 : Int)))) (v := (.bool q)) hf rfl rfl rfl (fun hact => (r_move rfl)) rfl rfl ?_; clear hf fa; intro fa hf
        refine sqgT (act := (decide (((sbt s i : Nat) : Int) = (32 : Int)))) (ag := true) (c := (decide (((sbt s i : Nat) : Int) = (32 : Int)))) (v := (.bool (!q))) hf rfl rfl rfl (fun hact => (r_not (gb_ev hact rfl))) rfl rfl ?_; clear hf fa; intro fa hf
        refine sqv hf (r_pickA (b := (decide (((sbt s i : Nat) : Int) = (32 : Int)))) (e := (!q)) rfl rfl rfl) rfl rfl rfl ?_; clear hf fa; intro fa hf
        apply wpList_nil
        (try simp only [Exit.then, Exit.inBlock, ↓reduceIte, Nat.reduceEqDiff])
        refine hK12 _ _ ?_
        refine wp_cond_split (t := ((decide (((sbt s i : Nat) : Int) = (32 : Int))) && (!q))) (hf.ev rfl) (fun hqt26_2 => ?_) (fun hqt26_2 => ?_)
        · have hqt26_2b := hqt26_2
          try simp only [decide_eq_true_eq, Bool.and_eq_true, Bool.or_eq_true, Bool.not_eq_true', decide_eq_false_iff_not, ne_eq, Bool.not_eq_true] at hqt26_2
          refine wp_seq_k (fun K13 hK13 => ?_)
          refine wp_region_lit ?_
          refine sqv hf (r_move rfl) rfl rfl rfl ?_; clear hf fa; intro fa hf
          refine sqv hf (r_move rfl) rfl rfl rfl ?_; clear hf fa; intro fa hf
          refine sqv hf (r_move rfl) rfl rfl rfl ?_; clear hf fa; intro fa hf
          refine sqv hf (r_move rfl) rfl rfl rfl ?_; clear hf fa; intro fa hf
          refine sqv hf (r_sslice (a := fr) (b := i) (k1 := .i64) (k2 := .i64) (A := ((fr : Nat) : Int)) (B := ((i : Nat) : Int)) rfl Try.underlying9 (.inr ⟨_, rfl, rfl, rfl⟩) (.inr ⟨_, rfl, rfl, rfl⟩) (by omega) (by omega)) rfl rfl rfl ?_; clear hf fa; intro fa hf
          refine sqdt hf (d_bslice (z := (.string ⟨#[]⟩)) (sz := 1) (vs := [(0, (.string (s.extract fr i)))]) (cs := #[(.string (s.extract fr i))]) rfl Try.underlying32 (by kernel_rfl) rfl (by kernel_rfl)) rfl rfl rfl ?_; clear hf fa; rintro fa _ w2 ⟨b1, rfl, hle1, hk1, he1⟩ hf
          have hBb1 : w.heap.size ≤ b1 := Nat.le_trans hb.size hle1
          have hnr1 : (Value.slice roa (o.length) roc).ownBlock ≠ some b1 := fun hq => by have := (Row.lt hro _ hq).2; omega
          have hnl1 : ∀ q, (Value.slice roa (o.length) roc).ownBlock = some q → q < b1 := fun q hq => Nat.lt_of_lt_of_le (Row.lt hro q hq).2 hle1
          replace hro := Row.ext hro he1
          replace hb := hb.trans (Below.mono he1 hb.size)
          have hs1 := Row.rd (by intros; rfl) (Row.of_new (k := 1) (V := vStr) (l := [(s.extract fr i)]) hk1 (Nat.le_refl _) rfl rfl (Nat.le_of_ble_eq_true rfl))
          refine sqdt hf (d_append (V := vStr) (k := 1) (e := 9) (bytes := 16) (z := (.string ⟨#[]⟩)) (news := [(s.extract fr i)]) (base := w.heap.size) (by intros; rfl) (by intro x u hu; simp only [vStr, List.mem_singleton] at hu; subst hu; rfl) rfl rfl Try.underlying32 (by kernel_rfl) rfl rfl rfl hro hs1 rfl (fun h => by cases h) (by first | omega | (simp only [List.length_cons, List.length_nil, List.length_append, nums_len]; omega)) (by have := hb.size; omega)) rfl rfl rfl ?_; clear hf fa; rintro fa v w3 ⟨hr1, hg1⟩ hf; obtain ⟨ra1, rc1, rfl, hcrc1, hmrc1⟩ := Row.slice hr1
          replace hb := hb.trans (row_below hro hg1 hb.size (by have := hb.size; omega))
          refine sqv hf (r_assign rfl) rfl rfl rfl ?_; clear hf fa; intro fa hf
          apply wpList_nil
          (try simp only [Exit.then, Exit.inBlock, ↓reduceIte, Nat.reduceEqDiff])
          refine hK13 _ _ ?_
          refine wp_region_lit ?_
          refine sqv hf (r_move rfl) rfl rfl rfl ?_; clear hf fa; intro fa hf
          refine sqv hf (r_add (C := (((i : Nat) : Int) + (1 : Int))) rfl rfl (by rw [IntKind.wrap_i64]; omega)) rfl rfl rfl ?_; clear hf fa; intro fa hf
          refine sqv hf (r_assign rfl) rfl rfl rfl ?_; clear hf fa; intro fa hf
          apply wpList_nil
          (try simp only [Exit.then, Exit.inBlock, ↓reduceIte, Nat.reduceEqDiff])
          refine hK8 _ _ ?_
          refine wp_region_lit ?_
          refine sqv hf (r_move rfl) rfl rfl rfl ?_; clear hf fa; intro fa hf
          refine sqv hf (r_add (C := (((i : Nat) : Int) + (1 : Int))) rfl rfl (by rw [IntKind.wrap_i64]; omega)) rfl rfl rfl ?_; clear hf fa; intro fa hf
          refine sqv hf (r_assign rfl) rfl rfl rfl ?_; clear hf fa; intro fa hf
          apply wpList_nil
          (try simp only [Exit.then, Exit.inBlock, ↓reduceIte, Nat.reduceEqDiff])
          have hq9 : q = false := by have h := hqt26_2.2; revert h; cases q <;> simp
          subst hq9
          refine hKL1 _ _ _ (by omega) ⟨(i + 1), (i + 1), false, (fu - 1), (o ++ [s.extract fr i]), ra1, rc1, rfl, hf.sub ⟨rfl, (some_int (by first | rfl | omega)), rfl, (some_int (by first | rfl | omega)), (some_sl (by first | omega | rfl | (simp only [List.length_append, List.length_cons, List.length_nil]; omega) | (simp <;> omega)) rfl), trivial⟩, hb, (Row.relen hr1), by omega, by omega, by omega, (by obtain ⟨f, rfl⟩ : ∃ f, fu = f + 1 := ⟨fu - 1, by omega⟩; rw [Hs, bl_dropc s i (by omega), show sbt s i = 32 by omega, contP_cut, ext_nil]; simp)⟩
        · have hqt26_2b := hqt26_2
          replace hqt26_2 := Bool.eq_false_iff.1 hqt26_2
          try simp only [ne_eq, decide_eq_true_eq, Bool.and_eq_true, Bool.or_eq_true, Bool.not_eq_true', decide_eq_false_iff_not] at hqt26_2
          refine wp_skip ?_
          (try simp only [Exit.then, Exit.inBlock, ↓reduceIte, Nat.reduceEqDiff])
          refine hK8 _ _ ?_
          refine wp_region_lit ?_
          refine sqv hf (r_move rfl) rfl rfl rfl ?_; clear hf fa; intro fa hf
          refine sqv hf (r_add (C := (((i : Nat) : Int) + (1 : Int))) rfl rfl (by rw [IntKind.wrap_i64]; omega)) rfl rfl rfl ?_; clear hf fa; intro fa hf
          refine sqv hf (r_assign rfl) rfl rfl rfl ?_; clear hf fa; intro fa hf
          apply wpList_nil
          (try simp only [Exit.then, Exit.inBlock, ↓reduceIte, Nat.reduceEqDiff])
          have hn9 : ¬ (sbt s i = 32 ∧ q = false) := by
            rintro ⟨e1, e2⟩
            exact hqt26_2 ⟨by omega, by rw [e2]⟩
          refine hKL1 _ _ _ (by omega) ⟨(i + 1), fr, q, fu, o, roa, roc, rfl, hf.sub ⟨rfl, rfl, rfl, (some_int (by first | rfl | omega)), rfl, trivial⟩, hb, (Row.relen hro), by omega, by omega, by omega, (by rw [Hs, bl_dropc s i (by omega), contP_go hn9, if_neg (by have h := hqt16_1; omega), ext_snoc (by omega) (by omega)])⟩
    · have hqt10_1b := hqt10_1
      replace hqt10_1 := Bool.eq_false_iff.1 hqt10_1
      try simp only [ne_eq, decide_eq_true_eq, Bool.and_eq_true, Bool.or_eq_true, Bool.not_eq_true', decide_eq_false_iff_not] at hqt10_1
      refine wp_exit ?_
      (try simp only [Exit.then, Exit.inBlock, ↓reduceIte, Nat.reduceEqDiff])
      refine hK4 _ _ ?_
      refine wp_seq_k (fun K14 hK14 => ?_)
      refine wp_region_lit ?_
      refine sqv hf (r_move rfl) rfl rfl rfl ?_; clear hf fa; intro fa hf
      refine sqv hf (r_move rfl) rfl rfl rfl ?_; clear hf fa; intro fa hf
      refine sqv hf (r_move rfl) rfl rfl rfl ?_; clear hf fa; intro fa hf
      refine sqv hf (r_sslice (a := fr) (b := s.size) (k1 := .i64) (k2 := .i64) (A := ((fr : Nat) : Int)) (B := 0) rfl Try.underlying9 (.inr ⟨_, rfl, rfl, rfl⟩) (.inl ⟨rfl, rfl⟩) (by omega) (by omega)) rfl rfl rfl ?_; clear hf fa; intro fa hf
      refine sqdt hf (d_bslice (z := (.string ⟨#[]⟩)) (sz := 1) (vs := [(0, (.string (s.extract fr s.size)))]) (cs := #[(.string (s.extract fr s.size))]) rfl Try.underlying32 (by kernel_rfl) rfl (by kernel_rfl)) rfl rfl rfl ?_; clear hf fa; rintro fa _ w4 ⟨b2, rfl, hle2, hk2, he2⟩ hf
      have hBb2 : w.heap.size ≤ b2 := Nat.le_trans hb.size hle2
      have hnr2 : (Value.slice roa (o.length) roc).ownBlock ≠ some b2 := fun hq => by have := (Row.lt hro _ hq).2; omega
      have hnl2 : ∀ q, (Value.slice roa (o.length) roc).ownBlock = some q → q < b2 := fun q hq => Nat.lt_of_lt_of_le (Row.lt hro q hq).2 hle2
      replace hro := Row.ext hro he2
      replace hb := hb.trans (Below.mono he2 hb.size)
      have hs2 := Row.rd (by intros; rfl) (Row.of_new (k := 1) (V := vStr) (l := [(s.extract fr s.size)]) hk2 (Nat.le_refl _) rfl rfl (Nat.le_of_ble_eq_true rfl))
      refine sqdt hf (d_append (V := vStr) (k := 1) (e := 9) (bytes := 16) (z := (.string ⟨#[]⟩)) (news := [(s.extract fr s.size)]) (base := w.heap.size) (by intros; rfl) (by intro x u hu; simp only [vStr, List.mem_singleton] at hu; subst hu; rfl) rfl rfl Try.underlying32 (by kernel_rfl) rfl rfl rfl hro hs2 rfl (fun h => by cases h) (by first | omega | (simp only [List.length_cons, List.length_nil, List.length_append, nums_len]; omega)) (by have := hb.size; omega)) rfl rfl rfl ?_; clear hf fa; rintro fa v w5 ⟨hr2, hg2⟩ hf; obtain ⟨ra2, rc2, rfl, hcrc2, hmrc2⟩ := Row.slice hr2
      replace hb := hb.trans (row_below hro hg2 hb.size (by have := hb.size; omega))
      refine sqv hf (r_assign rfl) rfl rfl rfl ?_; clear hf fa; intro fa hf
      apply wpList_nil
      (try simp only [Exit.then, Exit.inBlock, ↓reduceIte, Nat.reduceEqDiff])
      refine hK14 _ _ ?_
      refine wp_ret ?_
      (try simp only [Exit.then, Exit.inBlock])
      refine ret1 hf rfl rfl ?_
      have hfin : pieces (bl s) = o.map bl ++ [bl (s.extract fr s.size)] := by rw [Hs, List.drop_eq_nil_of_le (by rw [bl_length]; omega), contP_nil, show i = s.size by omega]
      rw [pcs_out hfin]; exact ⟨_, rfl, hr2, hb⟩
end Go.Proofs.Ytpalmpfkliepfaa
